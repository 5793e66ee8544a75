import Derived.Test.YtamibbjpapkfeaaAbS12
import Derived.LoopN
import Derived.Scope
namespace Go.Proofs.Ytamibbjpapkfeaa.Ab
set_option linter.unusedSimpArgs false
set_option linter.unusedVariables false
open Go
set_option linter.unusedSectionVars false
variable [Rho]
section
variable {P : Program}

/-- No object has a number that has not been given. -/
def Bd (H : Heap) : Prop := ∀ id o, H.get id = some o → id < H.next
/-- The log of what was written tells the truth. -/
def LG (H H' : Heap) : Prop := Bd H → Bd H' ∧ ∃ l, H'.log = l ++ H.log ∧ (∀ id, id < H.next → id ∉ l → H'.get id = H.get id) ∧ H.next ≤ H'.next
theorem LG.refl (H : Heap) : LG H H := fun b => ⟨b, [], rfl, fun _ _ _ => rfl, Nat.le_refl _⟩
theorem LG.trans {a b c : Heap} (h : LG a b) (k : LG b c) : LG a c := fun bd => by
  obtain ⟨b1, l, h1, h2, h3⟩ := h bd
  obtain ⟨b2, m, k1, k2, k3⟩ := k b1
  refine ⟨b2, m ++ l, by rw [k1, h1, List.append_assoc], fun id hid hm => ?_, Nat.le_trans h3 k3⟩
  rw [k2 id (by omega) (fun e => hm (List.mem_append_left _ e)), h2 id hid (fun e => hm (List.mem_append_right _ e))]
theorem LG.new (H : Heap) (o : AObj) : LG H (H.new o) := fun b => ⟨fun id o' h => by
  rw [get_new] at h
  show id < H.next + 1
  split at h
  · omega
  · have := b id o' h; omega, [], rfl, fun id hid _ => by rw [get_new, if_neg (Nat.ne_of_lt hid)], Nat.le_succ _⟩
theorem LG.upd (H : Heap) (id : Nat) (o : AObj) : LG H (H.upd id o) := fun b => ⟨fun j o' h => by
  rw [get_upd] at h
  split at h
  · rename_i e
    cases hg : H.get id with
    | none => simp [hg] at h
    | some o2 => subst e; exact b _ _ hg
  · exact b j o' h, [id], rfl, fun j _ hj => by rw [get_upd, if_neg (by simpa using hj)], Nat.le_refl _⟩
theorem LG.kill (H : Heap) (id : Nat) : LG H (H.kill id) := fun b => ⟨fun j o' h => by
  rw [get_kill] at h
  split at h
  · cases h
  · exact b j o' h, [id], rfl, fun j _ hj => by rw [get_kill, if_neg (by simpa using hj)], Nat.le_refl _⟩
theorem boxA_LG {v p : AV} {H H' : Heap} (h : boxA v H = some (p, H')) : LG H H' := by
  unfold boxA at h
  split at h
  · cases h; exact LG.new _ _
  · cases h
theorem allocA_LG {e : TypeId} {p : AV} {H H' : Heap} (h : allocA P e H = some (p, H')) : LG H H' := by
  unfold allocA at h
  split at h
  · exact boxA_LG h
  · cases h
theorem buildSliceA_LG {t : TypeId} {n : Nat} {parts : List (Nat × AV)} {p : AV} {H H' : Heap} (h : buildSliceA P t n parts H = some (p, H')) : LG H H' := by
  unfold buildSliceA at h
  repeat' (split at h)
  all_goals first | (cases h; done) | (cases h; exact LG.new _ _)
theorem storeA_LG {t : TypeId} {a v : AV} {H H' : Heap} (h : storeA P t a v H = some H') : LG H H' := by
  unfold storeA at h
  repeat' (split at h)
  all_goals first | (cases h; done) | (cases h; exact LG.upd _ _ _)
theorem convA_LG {s d : TypeId} {x p : AV} {H H' : Heap} (h : convA P s d x H = some (p, H')) : LG H H' := by
  unfold convA at h
  repeat' (split at h)
  all_goals first | (cases h; done) | (cases h; exact LG.refl _) | (cases h; exact LG.new _ _)
theorem makeSliceA_LG {t : TypeId} {l c p : AV} {H H' : Heap} (h : makeSliceA P t l c H = some (p, H')) : LG H H' := by
  unfold makeSliceA at h
  repeat' (split at h)
  all_goals first | (cases h; done) | (cases h; exact LG.new _ _)
theorem growA_LG {cells : List AV} {n k : Nat} {lf : Bool} {G : Heap} {p : AV} {H' : Heap} (h : growA cells n k lf G = (p, H')) : LG G H' := by
  unfold growA at h; cases h; exact LG.new _ _
theorem appendA_LG {t : TypeId} {s x p : AV} {H H' : Heap} (h : appendA P t s x H = some (p, H')) : LG H H' := by
  unfold appendA at h
  repeat' (split at h)
  all_goals first
    | (cases h; done)
    | (cases h; exact LG.refl _)
    | (cases h; exact LG.upd _ _ _)
    | (exact growA_LG (Option.some.inj h))
    | (exact (LG.kill _ _).trans (growA_LG (Option.some.inj h)))
theorem seqApp_LG {b : Builtin} {ts : Array TypeId} {args : List AV} {q : Tm} {v : AV} {H H' : Heap} (h : seqAppA P b ts args H = some (q, v, H')) : LG H H' := by
  unfold seqAppA at h
  repeat' (split at h)
  all_goals first | (cases h; done) | (cases h; exact (LG.kill _ _).trans (LG.new _ _))
theorem copyA_LG {t : TypeId} {d x p : AV} {H H' : Heap} (h : copyA P t d x H = some (p, H')) : LG H H' := by
  unfold copyA at h
  repeat' (split at h)
  all_goals first | (cases h; done) | (cases h; exact LG.upd _ _ _)
theorem clearA_LG {t : TypeId} {x p : AV} {H H' : Heap} (h : clearA P t x H = some (p, H')) : LG H H' := by
  unfold clearA at h
  repeat' (split at h)
  all_goals first | (cases h; done) | (cases h; exact LG.refl _) | (cases h; exact LG.upd _ _ _)
theorem builtinA_LG {b : Builtin} {ts : Array TypeId} {args : List AV} {p : AV} {H H' : Heap} (h : builtinA P b ts args H = some (p, H')) : LG H H' := by
  unfold builtinA at h
  repeat' (split at h)
  all_goals first | (cases h; done) | (cases h; exact LG.refl _) | (exact appendA_LG h) | (exact copyA_LG h) | (exact clearA_LG h)
theorem mapUpdateA_LG {t : TypeId} {m k v : AV} {H H' : Heap} (h : mapUpdateA P t m k v H = some H') : LG H H' := by
  unfold mapUpdateA at h
  repeat' (split at h)
  all_goals first | (cases h; done) | (cases h; exact LG.upd _ _ _)
theorem mapUpdateA_pc {t : TypeId} {m k v : AV} {H H' : Heap} (h : mapUpdateA P t m k v H = some H') : H'.pc = H.pc := by
  unfold mapUpdateA at h
  repeat' (split at h)
  all_goals first | (cases h; done) | (cases h; rfl)
theorem operA_LG {fr : FR} {o : Oper} {v : AV} {H H' : Heap} (h : operA P fr o H = some (.val v H')) : LG H H' := by
  unfold operA at h
  split at h
  all_goals first
    | (cases h; done)
    | (simp only [opMove, opPick, opBuild, opLoad, opNilcheck, opBinop, opUnop, opMakeinterface, opMakefunc, opSlice, opFieldaddr, opField, opIndexaddr, opIndex, opTypeassert, opExtract, opLookup] at h
       repeat' (split at h)
       all_goals first | (cases h; done) | (cases h; exact LG.refl _))
    | (simp only [opAlloc] at h
       repeat' (split at h)
       all_goals first | (cases h; done) | (cases h; rename_i hh; exact allocA_LG hh))
    | (simp only [opBox] at h
       repeat' (split at h)
       all_goals first | (cases h; done) | (cases h; rename_i hh; exact boxA_LG hh))
    | (simp only [opBuildslice] at h
       repeat' (split at h)
       all_goals first | (cases h; done) | (cases h; rename_i hh; exact buildSliceA_LG hh))
    | (simp only [opStore] at h
       repeat' (split at h)
       all_goals first | (cases h; done) | (cases h; rename_i hh; exact storeA_LG hh))
    | (simp only [opConvert] at h
       repeat' (split at h)
       all_goals first | (cases h; done) | (cases h; rename_i hh; exact convA_LG hh))
    | (simp only [opMakeslice] at h
       repeat' (split at h)
       all_goals first | (cases h; done) | (cases h; rename_i hh; exact makeSliceA_LG hh))
    | (simp only [opMakemap] at h
       repeat' (split at h)
       all_goals first | (cases h; done) | (cases h; exact LG.new _ _))
    | (simp only [opMapupdate] at h
       repeat' (split at h)
       all_goals first | (cases h; done) | (cases h; rename_i hh; exact mapUpdateA_LG hh))
    | (simp only [opCall] at h
       repeat' (split at h)
       all_goals first | (cases h; done) | (cases h; rename_i hh; exact builtinA_LG hh))
    | (simp only [opDefer] at h
       repeat' (split at h)
       all_goals (cases h; done))

theorem ask_LG {fr : FR} {o : Oper} {q : Tm} {v : AV} {H H' : Heap} (h : operA P fr o H = some (.ask q v H')) : LG H H' ∧ H'.pc = H.pc := by
  unfold operA at h
  split at h
  all_goals first
    | (cases h; done)
    | (simp only [opMove, opPick, opBuild, opLoad, opNilcheck, opBinop, opUnop, opMakeinterface, opMakefunc, opSlice, opFieldaddr, opField, opIndexaddr, opIndex, opTypeassert, opExtract, opLookup, opMakemap, opMapupdate, opAlloc, opBox, opBuildslice, opStore, opConvert, opMakeslice, opCall, opDefer] at h
       repeat' (split at h)
       all_goals first | (cases h; done) | (cases h; rename_i hh; exact ⟨seqApp_LG hh, seqApp_pc hh⟩))
theorem many_same {fr : FR} {o : Oper} {l : List (Tm × AV)} {H H' : Heap} (h : operA P fr o H = some (.many l H')) : H' = H := by
  unfold operA at h
  split at h
  all_goals first
    | (cases h; done)
    | (simp only [opMove, opPick, opBuild, opLoad, opNilcheck, opBinop, opUnop, opMakeinterface, opMakefunc, opSlice, opFieldaddr, opField, opIndexaddr, opIndex, opTypeassert, opExtract, opLookup, opMakemap, opMapupdate, opAlloc, opBox, opBuildslice, opStore, opConvert, opMakeslice, opCall, opDefer] at h
       repeat' (split at h)
       all_goals first | (cases h; done) | (cases h; rfl))
theorem builtinA_pc {b : Builtin} {ts : Array TypeId} {args : List AV} {p : AV} {H H' : Heap} (h : builtinA P b ts args H = some (p, H')) : H'.pc = H.pc := by
  unfold builtinA at h
  repeat' (split at h)
  all_goals first
    | (cases h; done)
    | (cases h; rfl)
    | (unfold appendA at h; repeat' (split at h)
       all_goals first | (cases h; done) | (cases h; rfl))
    | (unfold copyA at h; repeat' (split at h)
       all_goals first | (cases h; done) | (cases h; rfl))
    | (unfold clearA at h; repeat' (split at h)
       all_goals first | (cases h; done) | (cases h; rfl))
theorem convA_pc {s d : TypeId} {x p : AV} {H H' : Heap} (h : convA P s d x H = some (p, H')) : H'.pc = H.pc := by
  unfold convA at h
  repeat' (split at h)
  all_goals first | (cases h; done) | (cases h; rfl)
theorem val_pc {fr : FR} {o : Oper} {v : AV} {H H' : Heap} (h : operA P fr o H = some (.val v H')) : H'.pc = H.pc := by
  unfold operA at h
  split at h
  all_goals first
    | (cases h; done)
    | (simp only [opMove, opPick, opBuild, opLoad, opNilcheck, opBinop, opUnop, opMakeinterface, opMakefunc, opSlice, opFieldaddr, opField, opIndexaddr, opIndex, opTypeassert, opExtract, opLookup] at h
       repeat' (split at h)
       all_goals first | (cases h; done) | (cases h; rfl))
    | (simp only [opAlloc, allocA, boxA] at h
       repeat' (split at h)
       all_goals first | (cases h; done) | (cases h; rename_i hh; (repeat' (split at hh)) <;> first | (cases hh; done) | (cases hh; rfl)))
    | (simp only [opBox, boxA] at h
       repeat' (split at h)
       all_goals first | (cases h; done) | (cases h; rename_i hh; (repeat' (split at hh)) <;> first | (cases hh; done) | (cases hh; rfl)))
    | (simp only [opBuildslice] at h
       repeat' (split at h)
       all_goals first | (cases h; done) | (cases h; rename_i hh; unfold buildSliceA at hh; (repeat' (split at hh)) <;> first | (cases hh; done) | (cases hh; rfl)))
    | (simp only [opStore] at h
       repeat' (split at h)
       all_goals first | (cases h; done) | (cases h; rename_i hh; unfold storeA at hh; (repeat' (split at hh)) <;> first | (cases hh; done) | (cases hh; rfl)))
    | (simp only [opConvert] at h
       repeat' (split at h)
       all_goals first | (cases h; done) | (cases h; rename_i hh; exact convA_pc hh))
    | (simp only [opMakeslice] at h
       repeat' (split at h)
       all_goals first | (cases h; done) | (cases h; rename_i hh; unfold makeSliceA at hh; (repeat' (split at hh)) <;> first | (cases hh; done) | (cases hh; rfl)))
    | (simp only [opMakemap] at h
       repeat' (split at h)
       all_goals first | (cases h; done) | (cases h; rfl))
    | (simp only [opMapupdate] at h
       repeat' (split at h)
       all_goals first | (cases h; done) | (cases h; rename_i hh; exact mapUpdateA_pc hh))
    | (simp only [opCall] at h
       repeat' (split at h)
       all_goals first | (cases h; done) | (cases h; rename_i hh; exact builtinA_pc hh))
    | (simp only [opDefer] at h
       repeat' (split at h)
       all_goals (cases h; done))

/-! ### what has been asked -/
/-- What has been asked was answered truly. -/
def PC (H : Heap) : Prop := ∀ p ∈ H.pc, p.1.den.asB = p.2
theorem LG.wpc (H : Heap) (pc : List (Tm × Bool)) : LG H (H.wpc pc) := fun b => ⟨b, [], rfl, fun _ _ _ => rfl, Nat.le_refl _⟩
theorem known_true : ∀ (l : List (Tm × Bool)) (c : Tm) (b : Bool), (∀ p ∈ l, p.1.den.asB = p.2) → known l c = some b → c.den.asB = b
  | [], c, b, _, h => by simp [known] at h
  | p :: l, c, b, hp, h => by
    simp only [known] at h
    cases he : p.1.eqv c with
    | true =>
      rw [he] at h; simp at h
      rw [← Tm.eqv_eq _ _ he, hp p (by simp), h]
    | false =>
      rw [he] at h; simp at h
      exact known_true l c b (fun q hq => hp q (by simp [hq])) h
theorem askA_sel {α : Type} {c : Tm} {H : Heap} {x y : Heap → Tree α} {r : α} (hp : PC H) (h : (askA c H x y).sel = some r) :
    ∃ pc, PC (H.wpc pc) ∧ ((c.den.asB = true ∧ (x (H.wpc pc)).sel = some r) ∨ (c.den.asB = false ∧ (y (H.wpc pc)).sel = some r)) := by
  unfold askA at h
  split at h
  · exact ⟨H.pc, hp, .inl ⟨rfl, h⟩⟩
  · exact ⟨H.pc, hp, .inr ⟨rfl, h⟩⟩
  · split at h
    · rename_i hk; exact ⟨H.pc, hp, .inl ⟨known_true _ _ _ hp hk, h⟩⟩
    · rename_i hk; exact ⟨H.pc, hp, .inr ⟨known_true _ _ _ hp hk, h⟩⟩
    · split at h
      · rename_i hk
        have := known_true _ _ _ hp hk
        rw [notT_den] at this
        exact ⟨H.pc, hp, .inr ⟨by simpa using this, h⟩⟩
      · rename_i hk
        have := known_true _ _ _ hp hk
        rw [notT_den] at this
        exact ⟨H.pc, hp, .inl ⟨by simpa using this, h⟩⟩
      · simp only [Tree.sel] at h
        cases hc : c.den.asB with
        | true =>
          rw [hc] at h
          refine ⟨(c, true) :: H.pc, ?_, .inl ⟨rfl, h⟩⟩
          intro p hp'
          rcases List.mem_cons.1 hp' with rfl | hp'
          · exact hc
          · exact hp p hp'
        | false =>
          rw [hc] at h
          refine ⟨(c, false) :: H.pc, ?_, .inr ⟨rfl, h⟩⟩
          intro p hp'
          rcases List.mem_cons.1 hp' with rfl | hp'
          · exact hc
          · exact hp p hp'
theorem manyA_sel {α : Type} : ∀ {l : List (Tm × AV)} {H : Heap} {k : AV → Heap → Tree α} {r : α}, PC H → (manyA l H k).sel = some r → ∃ v pc, pickM l = some v ∧ PC (H.wpc pc) ∧ (k v (H.wpc pc)).sel = some r
  | [], H, k, r, hp, h => by simp [manyA, Tree.sel] at h
  | p :: l, H, k, r, hp, h => by
    simp only [manyA] at h
    obtain ⟨pc, h1, ⟨h2, h3⟩ | ⟨h2, h3⟩⟩ := askA_sel hp h
    · exact ⟨p.2, pc, by simp [pickM, h2], h1, h3⟩
    · obtain ⟨v, pc2, h4, h5, h6⟩ := manyA_sel h1 h3
      exact ⟨v, pc2, by simp [pickM, h2, h4], h5, h6⟩

/-! ### calls -/
def CallS (P : Program) (f : FuncId) (args : List AV) (H : Heap) (v : AV) (H' : Heap) : Prop :=
  ∀ μ w cargs, VRs μ args cargs → Rep μ H.get w → Dom μ H.next → Calls P f (List.toArray cargs) w fun e w' => ∃ μ' c, e = .returned c ∧ VR μ' v c ∧ Evo μ H.get H.next w μ' H'.get H'.next w'
/-- The deferred calls of a frame. -/
def DRel (P : Program) (μ : Mu) : List (FuncId × List AV) → List Deferred → Prop
  | [], l => l = []
  | x :: df, l => ∃ d r, DefR P μ x d ∧ DRel P μ df r ∧ l = d :: r
theorem DefR.ext {μ μ' : Mu} (e : Ext μ μ') {x : FuncId × List AV} {d : Deferred} (h : DefR P μ x d) : DefR P μ' x d := by
  obtain ⟨fv, cap, cargs, h1, h2, h3⟩ := h
  exact ⟨fv, cap, cargs, h1, h2, h3.ext e⟩
theorem DRel.ext {μ μ' : Mu} (e : Ext μ μ') : ∀ {x : List (FuncId × List AV)} {d : List Deferred}, DRel P μ x d → DRel P μ' x d
  | [], _, h => h
  | _ :: _, _, h => by obtain ⟨d, r, h1, h2, h3⟩ := h; exact ⟨d, r, h1.ext e, DRel.ext e h2, h3⟩
theorem DRel.append {μ : Mu} : ∀ {a b : List (FuncId × List AV)} {x y : List Deferred}, DRel P μ a x → DRel P μ b y → DRel P μ (a ++ b) (x ++ y)
  | [], _, _, _, h, k => by cases h; exact k
  | _ :: _, _, _, _, h, k => by obtain ⟨d, r, h1, h2, rfl⟩ := h; exact ⟨d, _, h1, DRel.append h2 k, rfl⟩
/-- The state. -/
structure SRel (P : Program) (μ : Mu) (st : St) (a : Act) (w : World) : Prop where
  fr : FRel μ st.fr a.tmps
  nt : a.tmps.size = st.nt
  df : DRel P μ st.df a.defers
  rep : Rep μ st.H.get w
  dom : Dom μ st.H.next
/-- What is said of calls holds. -/
def CfOK {α : Type} (P : Program) (cf : CallF α) : Prop := ∀ f args H k r, PC H → (cf f args H k).sel = some r → ∃ v H', (k v H').sel = some r ∧ PC H' ∧ CallS P f args H v H' ∧ LG H H'
/-- Is an operation wanted? -/
def WantS (ops : Array Oper) (fr : FR) (o : Oper) (b : Bool) : Prop := ∀ {μ : Mu} {tmps : Array Value}, FRel μ fr tmps → Region.wanted o (yielded ops tmps) = b
/-- A step: what an operation leaves. -/
def StepS (P : Program) (o : Oper) (fr : FR) (H : Heap) (v : AV) (H' : Heap) (ds : List (FuncId × List AV)) : Prop :=
  LG H H' ∧ ∀ {μ : Mu} {a : Act} {w : World}, FRel μ fr a.tmps → Rep μ H.get w → Dom μ H.next → ∀ {next : Act → World → Prop} {Q : Exit → Act → World → Prop},
    (∀ μ' c w' dl, Evo μ H.get H.next w μ' H'.get H'.next w' → VR μ' v c → DRel P μ' ds dl → next ({ a with defers := dl ++ a.defers }.put o.dst c) w') → o.wp P a w next Q
theorem wantedA_yes {ops : Array Oper} {fr : FR} {o : Oper} (h : wantedA ops fr o = some .yes) : WantS ops fr o true := by
  intro μ tmps hf
  unfold wantedA at h
  unfold Region.wanted
  split at h
  · rename_i hg; simp [hg]
  · rename_i j want hg
    simp only [hg]
    split at h
    · rename_i t ht
      split at h
      · rename_i u hu
        obtain ⟨c, h1, h2⟩ := hf t _ hu
        cases h2
        cases hb : (u == want) with
        | true => simpa [yielded, ht, h1] using hb
        | false => simp [hb] at h
      · cases h
      · cases h
      · cases h
    · cases h
theorem wantedA_no {ops : Array Oper} {fr : FR} {o : Oper} (h : wantedA ops fr o = some .no) : WantS ops fr o false := by
  intro μ tmps hf
  unfold wantedA at h
  unfold Region.wanted
  split at h
  · cases h
  · rename_i j want hg
    simp only [hg]
    split at h
    · rename_i t ht
      split at h
      · rename_i u hu
        obtain ⟨c, h1, h2⟩ := hf t _ hu
        cases h2
        cases hb : (u == want) with
        | false => simpa [yielded, ht, h1] using hb
        | true => simp [hb] at h
      · cases h
      · rename_i l hl
        obtain ⟨c, h1, h2⟩ := hf t _ hl
        obtain ⟨x, _, rfl⟩ := h2
        simp [yielded, ht, h1]
      · cases h
    · cases h
theorem wantedA_hang {ops : Array Oper} {fr : FR} {o : Oper} {t : Tm} {b : Bool} (h : wantedA ops fr o = some (.hang t b)) : WantS ops fr o (t.den.asB == b) := by
  intro μ tmps hf
  unfold wantedA at h
  unfold Region.wanted
  split at h
  · cases h
  · rename_i j want hg
    simp only [hg]
    split at h
    · rename_i s hs
      split at h
      · rename_i u hu
        cases hb : (u == want) <;> simp [hb] at h
      · rename_i u hu
        cases h
        obtain ⟨c, h1, h2⟩ := hf s _ hu
        cases h2
        simp [yielded, hs, h1]
      · cases h
      · cases h
    · cases h
theorem stepA_sel (hn : NoCount P) {α : Type} {cf : CallF α} (hc : CfOK P cf) {o : Oper} {fr : FR} {H : Heap} {k : AV → Heap → List (FuncId × List AV) → Tree α} {r : α} (hp : PC H) (h : (stepA P cf o fr H k).sel = some r) :
    ∃ v H' ds, (k v H' ds).sel = some r ∧ PC H' ∧ StepS P o fr H v H' ds := by
  unfold stepA at h
  split at h
  · rename_i v H2 ho
    refine ⟨v, H2, [], h, (by unfold PC; rw [val_pc ho]; exact hp), operA_LG ho, ?_⟩
    intro μ a w hf hr hd next Q hk
    unfold Oper.wp
    obtain ⟨μ', c, w', h1, h2, h3⟩ := operA_run hn ho hf hr hd
    have := hk μ' c w' [] h3 h2 rfl
    rcases h1 with h1 | ⟨h1, rfl⟩
    · rw [h1]; exact this
    · rw [h1]; exact this
  · rename_i l H2 ho
    have := many_same ho
    subst this
    obtain ⟨v, pc, h1, h2, h3⟩ := manyA_sel hp h
    refine ⟨v, _, [], h3, h2, LG.wpc _ _, ?_⟩
    intro μ a w hf hr hd next Q hk
    unfold Oper.wp
    obtain ⟨μ', c, w', h4, h5, h6⟩ := operA_run hn ho hf hr hd v h1
    have := hk μ' c w' [] h6 h5 rfl
    rcases h4 with h4 | ⟨h4, rfl⟩
    · rw [h4]; exact this
    · rw [h4]; exact this
  · rename_i f args ho
    obtain ⟨v, H', h1, h2, h3, h4⟩ := hc _ _ _ _ _ hp h
    refine ⟨v, H', [], h1, h2, h4, ?_⟩
    intro μ a w hf hr hd next Q hk
    unfold Oper.wp
    obtain ⟨cargs, q1, q2⟩ := operA_run hn ho hf hr hd
    rw [q1]
    refine (h3 μ w cargs q2 hr hd).mono fun e w' he => ?_
    obtain ⟨μ', c, rfl, h5, h6⟩ := he
    exact hk μ' c w' [] h6 h5 rfl
  · rename_i f args ho
    refine ⟨undefA, H, [(f, args)], h, hp, LG.refl _, ?_⟩
    intro μ a w hf hr hd next Q hk
    unfold Oper.wp
    obtain ⟨d, h1, h2⟩ := operA_run hn ho hf hr hd
    rw [h1]
    exact hk μ undef w [d] (Evo.refl hr hd) (undef_VR μ) ⟨d, [], h2, rfl, rfl⟩
  · rename_i q v H2 ho
    obtain ⟨g1, g2⟩ := ask_LG ho
    obtain ⟨pc, h1, ⟨h2, h3⟩ | ⟨h2, h3⟩⟩ := askA_sel hp h
    · refine ⟨v, _, [], h3, h1, g1.trans (LG.wpc _ _), ?_⟩
      intro μ a w hf hr hd next Q hk
      unfold Oper.wp
      obtain ⟨μ', c, w', h4, h5, h6⟩ := operA_run hn ho hf hr hd h2
      have := hk μ' c w' [] h6 h5 rfl
      rcases h4 with h4 | ⟨h4, rfl⟩
      · rw [h4]; exact this
      · rw [h4]; exact this
    · simp [Tree.sel] at h3
  · simp [Tree.sel] at h
theorem SRel.put {μ μ' : Mu} {st : St} {a : Act} {w w' : World} (s : SRel P μ st a w) {H' : Heap} (ev : Evo μ st.H.get st.H.next w μ' H'.get H'.next w') {dst : Option Tmp} {v : AV} {fr : FR} (hp : putA st.nt st.fr dst v = some fr) {c : Value} (hv : VR μ' v c)
    {ds : List (FuncId × List AV)} {dl : List Deferred} (hd : DRel P μ' ds dl) : SRel P μ' ⟨st.nt, fr, H', ds ++ st.df⟩ ({ a with defers := dl ++ a.defers }.put dst c) w' := by
  have hp' : putA ({ a with defers := dl ++ a.defers } : Act).tmps.size st.fr dst v = some fr := by
    show putA a.tmps.size st.fr dst v = some fr
    rw [s.nt]; exact hp
  obtain ⟨h1, h2, h3⟩ := FRel.put (a := { a with defers := dl ++ a.defers }) (s.fr.ext ev.ext) hv hp'
  exact ⟨h1, h2.trans s.nt, by rw [h3]; exact hd.append (s.df.ext ev.ext), ev.rep, ev.dom⟩
/-- What a row of operations leaves. -/
def OpsS (P : Program) (ops : Array Oper) (l : List Oper) (k : Nat) (st st' : St) : Prop :=
  LG st.H st'.H ∧ ∀ {Q : Exit → Act → World → Prop} {μ : Mu} {a : Act} {w : World}, SRel P μ st a w → (∀ μ' a' w', Evo μ st.H.get st.H.next w μ' st'.H.get st'.H.next w' → SRel P μ' st' a' w' → Q .normal a' w') → wpOps P ops Q (List.range' k l.length) a w
theorem evOps_sel (hn : NoCount P) {α : Type} {cf : CallF α} (hc : CfOK P cf) (ops : Array Oper) : ∀ (l : List Oper) (k : Nat), (∀ i, l[i]? = ops[k + i]?) → ∀ (st : St) (K : St → Tree α) (r : α), PC st.H → (evOps P cf ops l st K).sel = some r →
    ∃ st', (K st').sel = some r ∧ PC st'.H ∧ OpsS P ops l k st st'
  | [], k, _, st, K, r, hp, h => by
    simp only [evOps] at h
    exact ⟨st, h, hp, LG.refl _, fun s hq => hq _ _ _ (Evo.refl s.rep s.dom) s⟩
  | o :: l, k, hl, ⟨nt, fr, H, df⟩, K, r, hp, h => by
    have hok : ops[k]? = some o := by have := hl 0; simpa using this.symm
    have hl' : ∀ i, l[i]? = ops[k + 1 + i]? := fun i => by
      have := hl (i + 1)
      simp only [List.getElem?_cons_succ] at this
      rw [this]; congr 1; omega
    have yes : ∀ pc, PC (H.wpc pc) → WantS ops fr o true → (stepA P cf o fr (H.wpc pc) fun v H d => match putA nt fr o.dst v with
        | some fr => evOps P cf ops l ⟨nt, fr, H, d ++ df⟩ K
        | none => .fail).sel = some r → ∃ st', (K st').sel = some r ∧ PC st'.H ∧ OpsS P ops (o :: l) k ⟨nt, fr, H, df⟩ st' := fun pc hp' hw h => by
      obtain ⟨v, H2, ds, h1, h2, h3, h4⟩ := stepA_sel hn hc hp' h
      split at h1
      · rename_i fr' hput
        obtain ⟨st', q1, q2, q3, q4⟩ := evOps_sel hn hc ops l (k + 1) hl' _ K r h2 h1
        refine ⟨st', q1, q2, ((LG.wpc H pc).trans h3).trans q3, fun {Q μ a w} s hq => ?_⟩
        simp only [List.length_cons, List.range'_succ, wpOps, hok]
        rw [hw s.fr]
        simp only [if_true]
        left
        refine h4 s.fr s.rep s.dom fun μ' c w' dl ev hv hd => ?_
        exact q4 (s.put ev hput hv hd) fun μ2 a2 w2 ev2 s2 => hq μ2 a2 w2 (ev.trans ev2) s2
      · simp [Tree.sel] at h1
    have no : ∀ pc, PC (H.wpc pc) → WantS ops fr o false → (match putA nt fr o.dst undefA with
        | some fr => evOps P cf ops l ⟨nt, fr, H.wpc pc, df⟩ K
        | none => Tree.fail).sel = some r → ∃ st', (K st').sel = some r ∧ PC st'.H ∧ OpsS P ops (o :: l) k ⟨nt, fr, H, df⟩ st' := fun pc hp' hw h1 => by
      split at h1
      · rename_i fr' hput
        obtain ⟨st', q1, q2, q3, q4⟩ := evOps_sel hn hc ops l (k + 1) hl' _ K r hp' h1
        refine ⟨st', q1, q2, (LG.wpc H pc).trans q3, fun {Q μ a w} s hq => ?_⟩
        simp only [List.length_cons, List.range'_succ, wpOps, hok]
        rw [hw s.fr]
        simp only [Bool.false_eq_true, if_false]
        exact q4 (s.put (H' := H.wpc pc) (Evo.refl s.rep s.dom) hput (undef_VR μ) (ds := []) (dl := []) rfl) hq
      · simp [Tree.sel] at h1
    simp only [evOps] at h
    split at h
    · rename_i hw; exact yes H.pc hp (wantedA_yes hw) h
    · rename_i hw; exact no H.pc hp (wantedA_no hw) h
    · rename_i t b hw
      have hw' := @wantedA_hang _ _ _ _ _ _ hw
      obtain ⟨pc, h1, ⟨h2, h3⟩ | ⟨h2, h3⟩⟩ := askA_sel hp h
      · cases b with
        | true => exact yes pc h1 (fun hf => by rw [hw' hf, h2]; rfl) h3
        | false => exact no pc h1 (fun hf => by rw [hw' hf, h2]; rfl) h3
      · cases b with
        | true => exact no pc h1 (fun hf => by rw [hw' hf, h2]; rfl) h3
        | false => exact yes pc h1 (fun hf => by rw [hw' hf, h2]; rfl) h3
    · simp [Tree.sel] at h
end
end Go.Proofs.Ytamibbjpapkfeaa.Ab
