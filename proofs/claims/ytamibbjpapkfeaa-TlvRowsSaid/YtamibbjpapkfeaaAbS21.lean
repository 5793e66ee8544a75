import Derived.Test.YtamibbjpapkfeaaAbS20
namespace Go.Proofs.Ytamibbjpapkfeaa.Ab
set_option linter.unusedSimpArgs false
set_option linter.unusedVariables false
open Go
set_option linter.unusedSectionVars false
variable [Rho]
section
variable {P : Program}

/-- What an operation of a region did, in the order of the text. -/
structure Ev where
  want : Bool
  v : AV
  F : List Nat
  R : Heap
  note : Option Note
def notes (e : Ev) (ns : List Note) : List Note := match e.note with
  | none => ns
  | some n => n :: ns
/-- What a wanted operation is: like any other, one that makes a map which the region fills, one that fills it. -/
def DidS (P : Program) (o : Oper) (i : Nat) (ns : List Note) (fr : FR) (H : Heap) (e : Ev) : Prop := match e.note with
  | none => StepS P o fr (restrict H e.F) e.v e.R []
  | some (.mk j id) => j = i ∧ id = H.next ∧ e.F = [] ∧ e.v = .map H.next ∧ e.R.next = H.next + 1 ∧ e.R.log = [] ∧ e.R.objs = [] ∧ StepS P o fr (restrict H []) (.map H.next) ((restrict H []).new (.map [])) []
  | some (.ins j id t k v) => j = i ∧ e.F = [] ∧ e.R.next = H.next ∧ e.R.log = [] ∧ e.R.objs = [] ∧ o.dst = none ∧ e.v = undefA ∧ (∃ m kx x, o.op = .insert t m kx x ∧ evalA fr m = some (.map id) ∧ evalA fr kx = some k ∧ evalA fr x = some v) ∧
    keyOk P t k = true ∧ ∃ i0, Note.mk i0 id ∈ ns
/-- One step of the text's order. -/
def StepE (P : Program) (ops : Array Oper) (o : Oper) (i : Nat) (ns : List Note) (s : St) (e : Ev) (s' : St) : Prop :=
  WantS ops (narrow ops o s.fr) o e.want ∧ putA s.nt s.fr o.dst e.v = some s'.fr ∧ s'.nt = s.nt ∧ s'.df = s.df ∧
  (e.want = true → LG (restrict s.H e.F) e.R ∧ s'.H = merge s.H e.F e.R ∧ DidS P o i ns (narrow ops o s.fr) s.H e) ∧
  (e.want = false → e.v = undefA ∧ (∃ pc, s'.H = s.H.wpc pc) ∧ e.F = [] ∧ e.note = none)
def Tr (P : Program) (ops : Array Oper) (l : List Oper) (i : Nat) (st : St) (rs : List Rec) (ns : List Note) (st' : St) (rs' : List Rec) (ns' : List Note) : Prop :=
  (∀ r ∈ rs, r ∈ rs') ∧ ∃ (T : Nat → St) (E : Nat → Ev) (L : Nat → List Note), T i = st ∧ T (i + l.length) = st' ∧ L i = ns ∧ L (i + l.length) = ns' ∧ (∀ (k : Nat) (o : Oper), l[k]? = some o → StepE P ops o (i + k) (L (i + k)) (T (i + k)) (E (i + k)) (T (i + k + 1)) ∧
      L (i + k + 1) = notes (E (i + k)) (L (i + k)) ∧
      ((E (i + k)).want = true → (E (i + k)).F ≠ [] ∨ (T (i + k)).H.next < (E (i + k)).R.next → (⟨i + k, (E (i + k)).F, (E (i + k)).R.log, (T (i + k)).H.next, (E (i + k)).R.next⟩ : Rec) ∈ rs'))
theorem Tr.cons {ops : Array Oper} {o : Oper} {l : List Oper} {i : Nat} {st s1 st' : St} {rs rs1 rs' : List Rec} {ns ns' : List Note} {e : Ev} (h1 : Tr P ops l (i + 1) s1 rs1 (notes e ns) st' rs' ns') (hs : StepE P ops o i ns st e s1)
    (hr : e.want = true → e.F ≠ [] ∨ st.H.next < e.R.next → (⟨i, e.F, e.R.log, st.H.next, e.R.next⟩ : Rec) ∈ rs1) (hsub : ∀ r ∈ rs, r ∈ rs1) : Tr P ops (o :: l) i st rs ns st' rs' ns' := by
  obtain ⟨q1, T, E, L, q2, q3, q5, q6, q4⟩ := h1
  refine ⟨fun r hr' => q1 r (hsub r hr'), fun k => if k = i then st else T k, fun k => if k = i then e else E k, fun k => if k = i then ns else L k, by simp, ?_, by simp, ?_, fun k o' hk => ?_⟩
  · show (if i + (o :: l).length = i then st else T (i + (o :: l).length)) = st'
    rw [if_neg (by simp)]
    rw [← q3]; congr 1; simp; omega
  · show (if i + (o :: l).length = i then ns else L (i + (o :: l).length)) = ns'
    rw [if_neg (by simp)]
    rw [← q6]; congr 1; simp; omega
  · cases k with
    | zero =>
      simp at hk; subst hk
      have n1 : i + 1 ≠ i := by omega
      simp only [Nat.add_zero, if_true, n1, if_false, q2, q5]
      exact ⟨hs, trivial, fun hw hf => q1 _ (hr hw hf)⟩
    | succ k =>
      simp at hk
      have := q4 k o' hk
      have e1 : i + 1 + k = i + (k + 1) := by omega
      rw [e1] at this
      have n1 : i + (k + 1) ≠ i := by omega
      have n2 : i + (k + 1) + 1 ≠ i := by omega
      simp only [n1, n2, if_false]
      exact this
theorem restrict_wpc (H : Heap) (pc : List (Tm × Bool)) (F : List Nat) : restrict (H.wpc pc) F = (restrict H F).wpc pc := by
  cases F <;> rfl
theorem isLit_mem : ∀ {ns : List Note} {id : Nat}, isLit ns id = true → ∃ i, Note.mk i id ∈ ns
  | [], _, h => by simp [isLit] at h
  | .mk i j :: l, id, h => by
    simp only [isLit] at h
    cases hb : Nat.beq j id with
    | true =>
      have := Nat.eq_of_beq_eq_true hb
      subst this; exact ⟨i, List.mem_cons_self⟩
    | false =>
      rw [hb] at h
      obtain ⟨i', h1⟩ := isLit_mem (ns := l) h
      exact ⟨i', List.mem_cons_of_mem _ h1⟩
  | .ins .. :: l, id, h => by
    simp only [isLit] at h
    obtain ⟨i', h1⟩ := isLit_mem (ns := l) h
    exact ⟨i', List.mem_cons_of_mem _ h1⟩
theorem insLit_spec {fr : FR} {o : Oper} {ns : List Note} {id : Nat} {t : TypeId} {k v : AV} (h : insLit fr o ns = some (id, t, k, v)) :
    (∃ m kx x, o.op = .insert t m kx x ∧ evalA fr m = some (.map id) ∧ evalA fr kx = some k ∧ evalA fr x = some v) ∧ ∃ i0, Note.mk i0 id ∈ ns := by
  unfold insLit at h
  split at h
  · cases h
  · split at h
    · rename_i t' m kx x hop
      split at h
      · rename_i id' k' v' h1 h2 h3
        cases hb : isLit ns id' with
        | true =>
          rw [hb] at h; cases h
          exact ⟨⟨m, kx, x, hop, h1, h2, h3⟩, isLit_mem hb⟩
        | false => rw [hb] at h; cases h
      · cases h
    · cases h
theorem makesLit_spec {ops : List Oper} {o : Oper} (h : makesLit ops o = true) : ∃ t r, o.op = .makeMap t r := by
  unfold makesLit at h
  split at h
  · rename_i h1 h2; exact ⟨_, _, h1⟩
  · cases h
theorem makeMap_val {fr : FR} {o : Oper} {H R : Heap} {v : AV} (ho : ∃ t r, o.op = .makeMap t r) (h : operA P fr o H = some (.val v R)) : v = .map H.next ∧ R = H.new (.map []) := by
  obtain ⟨t, r, ho⟩ := ho
  unfold operA at h
  rw [ho] at h
  simp only [opMakemap] at h
  split at h
  · cases h; exact ⟨rfl, rfl⟩
  · split at h
    · cases h; exact ⟨rfl, rfl⟩
    · cases h
theorem val_stepS (hn : NoCount P) {o : Oper} {fr : FR} {H R : Heap} {v : AV} (ho : operA P fr o H = some (.val v R)) : StepS P o fr H v R [] := by
  refine ⟨operA_LG ho, ?_⟩
  intro μ a w hf hr hd next Q hk
  unfold Oper.wp
  obtain ⟨μ', c, w', h1, h2, h3⟩ := operA_run hn ho hf hr hd
  have := hk μ' c w' [] h3 h2 rfl
  rcases h1 with h1 | ⟨h1, rfl⟩
  · rw [h1]; exact this
  · rw [h1]; exact this
theorem evDraw_sel (hn : NoCount P) {α : Type} {cf : CallF α} (hc : CfOK P cf) {ops : Array Oper} : ∀ (l : List Oper) (i : Nat) (st : St) (rs : List Rec) (ns : List Note) (K : St → List Rec → List Note → Tree α) (r : α), PC st.H → (evDraw P cf ops i l st rs ns K).sel = some r →
    ∃ st' rs' ns', (K st' rs' ns').sel = some r ∧ PC st'.H ∧ Tr P ops l i st rs ns st' rs' ns'
  | [], i, st, rs, ns, K, r, hp, h => by
    simp only [evDraw] at h
    exact ⟨st, rs, ns, h, hp, fun r h => h, fun _ => st, fun _ => ⟨false, undefA, [], st.H, none⟩, fun _ => ns, rfl, rfl, rfl, rfl, fun k o h => by simp at h⟩
  | o :: l, i, ⟨nt, fr, H, df⟩, rs, ns, K, r, hp, h => by
    have yes : ∀ pc, PC (H.wpc pc) → WantS ops (narrow ops o fr) o true → (match insLit (narrow ops o fr) o ns with
      | some (id, t, key, v) => match o.dst, keyOk P t key with
        | none, true => evDraw P cf ops (i + 1) l ⟨nt, fr, merge (H.wpc pc) [] (restrict (H.wpc pc) []), df⟩ rs (.ins i id t key v :: ns) K
        | _, _ => .fail
      | none => match makesLit ops.toList o with
        | true => match operA P (narrow ops o fr) o (restrict (H.wpc pc) []), putA nt fr o.dst (.map (H.wpc pc).next) with
          | some (.val _ _), some fr' => evDraw P cf ops (i + 1) l ⟨nt, fr', merge (H.wpc pc) [] ⟨(H.wpc pc).next + 1, [], [], (H.wpc pc).pc⟩, df⟩ (⟨i, [], [], (H.wpc pc).next, (H.wpc pc).next + 1⟩ :: rs) (.mk i (H.wpc pc).next :: ns) K
          | _, _ => .fail
        | false => stepA P cf o (narrow ops o fr) (restrict (H.wpc pc) (footA (narrow ops o fr) o (H.wpc pc))) fun v T d => match d with
          | [] => match putA nt fr o.dst v with
            | some fr' => evDraw P cf ops (i + 1) l ⟨nt, fr', merge (H.wpc pc) (footA (narrow ops o fr) o (H.wpc pc)) T, df⟩ (recOf i (footA (narrow ops o fr) o (H.wpc pc)) T (H.wpc pc).next rs) ns K
            | none => .fail
          | _ => .fail).sel = some r → ∃ st' rs' ns', (K st' rs' ns').sel = some r ∧ PC st'.H ∧ Tr P ops (o :: l) i ⟨nt, fr, H, df⟩ rs ns st' rs' ns' := fun pc hp' hw h => by
      have hm : ∀ {n : Nat} {R : Heap}, R.pc = pc → PC (merge (H.wpc pc) [] R) := fun {n R} e => by
        unfold PC; rw [merge_pc, e]; exact hp'
      split at h
      · rename_i id t key v hins
        obtain ⟨h1, h2⟩ := insLit_spec hins
        split at h
        · rename_i hd hk
          obtain ⟨st', rs', ns', q1, q2, q3⟩ := evDraw_sel hn hc l (i + 1) _ _ _ K r (hm (n := 0) rfl) h
          refine ⟨st', rs', ns', q1, q2, Tr.cons (e := ⟨true, undefA, [], restrict (H.wpc pc) [], some (.ins i id t key v)⟩) q3 ⟨hw, ?_, rfl, rfl, fun _ => ⟨?_, rfl, ?_⟩, fun hc => by cases hc⟩ (fun _ hf => ?_) (fun r hr => hr)⟩
          · rw [hd]; rfl
          · exact LG.refl _
          · exact ⟨rfl, rfl, rfl, rfl, rfl, hd, rfl, h1, hk, h2⟩
          · rcases hf with h3 | h3
            · exact absurd rfl h3
            · exact absurd h3 (Nat.lt_irrefl _)
        · simp [Tree.sel] at h
      · split at h
        · rename_i hmk
          split at h
          · rename_i v0 R0 fr' hop hput
            obtain ⟨rfl, rfl⟩ := makeMap_val (makesLit_spec hmk) hop
            obtain ⟨st', rs', ns', q1, q2, q3⟩ := evDraw_sel hn hc l (i + 1) _ _ _ K r (hm (n := 0) rfl) h
            have hst : StepS P o (narrow ops o fr) (restrict H []) (.map H.next) ((restrict H []).new (.map [])) [] := by
              have h0 := val_stepS hn hop
              rw [restrict_wpc] at h0; exact h0
            refine ⟨st', rs', ns', q1, q2, Tr.cons (e := ⟨true, .map H.next, [], ⟨H.next + 1, [], [], pc⟩, some (.mk i H.next)⟩) q3 ⟨hw, hput, rfl, rfl, fun _ => ⟨?_, rfl, ?_⟩, fun hc => by cases hc⟩ (fun _ hf => ?_) (fun r hr => List.mem_cons_of_mem _ hr)⟩
            · exact fun _ => ⟨fun id o h => (by cases h), [], rfl, fun _ _ _ => rfl, Nat.le_succ _⟩
            · exact ⟨rfl, rfl, rfl, rfl, rfl, rfl, rfl, hst⟩
            · exact List.mem_cons_self
          · simp [Tree.sel] at h
        · generalize hF : footA (narrow ops o fr) o (H.wpc pc) = F at h
          have hpr : PC (restrict (H.wpc pc) F) := by rw [restrict_wpc]; exact hp'
          obtain ⟨v, R, ds, h1, h2, h3⟩ := stepA_sel hn hc hpr h
          have h3' : StepS P o (narrow ops o fr) (restrict H F) v R ds := by rw [restrict_wpc] at h3; exact h3
          split at h1
          · split at h1
            · rename_i fr' hput
              have hpm : PC (merge (H.wpc pc) F R) := by
                unfold PC; rw [merge_pc]; exact h2
              obtain ⟨st', rs', ns', q1, q2, q3⟩ := evDraw_sel hn hc l (i + 1) _ _ _ K r hpm h1
              refine ⟨st', rs', ns', q1, q2, Tr.cons (e := ⟨true, v, F, R, none⟩) q3 ⟨hw, hput, rfl, rfl, fun _ => ⟨h3'.1, rfl, h3'⟩, fun hc => by cases hc⟩ (fun _ hf => ?_) (fun r hr => ?_)⟩
              · simp only at hf ⊢
                unfold recOf
                split
                · have : Nat.blt H.next R.next = true := by
                    rw [Nat.blt_eq]
                    rcases hf with h1 | h1
                    · exact absurd rfl h1
                    · exact h1
                  show _ ∈ (bif Nat.blt H.next R.next then _ else rs)
                  rw [this]
                  exact List.mem_cons_self
                · exact List.mem_cons_self
              · unfold recOf
                split
                · cases Nat.blt (H.wpc pc).next R.next <;> simp [hr]
                · simp [hr]
            · simp [Tree.sel] at h1
          · simp [Tree.sel] at h1
    have no : ∀ pc, PC (H.wpc pc) → WantS ops (narrow ops o fr) o false → (match putA nt fr o.dst undefA with
        | some fr => evDraw P cf ops (i + 1) l ⟨nt, fr, H.wpc pc, df⟩ rs ns K
        | none => Tree.fail).sel = some r → ∃ st' rs' ns', (K st' rs' ns').sel = some r ∧ PC st'.H ∧ Tr P ops (o :: l) i ⟨nt, fr, H, df⟩ rs ns st' rs' ns' := fun pc hp' hw h1 => by
      split at h1
      · rename_i fr' hput
        obtain ⟨st', rs', ns', q1, q2, q3⟩ := evDraw_sel hn hc l (i + 1) _ _ _ K r hp' h1
        exact ⟨st', rs', ns', q1, q2, Tr.cons (e := ⟨false, undefA, [], H, none⟩) q3 ⟨hw, hput, rfl, rfl, (fun hc => by cases hc), fun _ => ⟨rfl, ⟨pc, rfl⟩, rfl, rfl⟩⟩ (fun hc => by cases hc) (fun r hr => hr)⟩
      · simp [Tree.sel] at h1
    simp only [evDraw] at h
    split at h
    · rename_i hw; exact yes H.pc hp (wantedA_yes hw) h
    · rename_i hw; exact no H.pc hp (wantedA_no hw) h
    · rename_i t b hw
      have hw' := @wantedA_hang _ _ _ _ _ _ hw
      obtain ⟨pc, h1, ⟨h2, h3⟩ | ⟨h2, h3⟩⟩ := askA_sel hp h
      · cases b with
        | true => exact yes pc h1 (fun hf => by rw [hw' hf, h2]; rfl) h3
        | false => exact no pc h1 (fun hf => by rw [hw' hf, h2]; rfl) h3
      · cases b with
        | true => exact no pc h1 (fun hf => by rw [hw' hf, h2]; rfl) h3
        | false => exact yes pc h1 (fun hf => by rw [hw' hf, h2]; rfl) h3
    · simp [Tree.sel] at h

/-! ### states in between -/
/-- The numbers below m. -/
def cutMu (μ : Mu) (m : Nat) : Mu := fun id => if id < m then μ id else none
theorem cutMu_some {μ : Mu} {m id : Nat} {l : Loc} (h : cutMu μ m id = some l) : id < m ∧ μ id = some l := by
  unfold cutMu at h
  split at h
  · rename_i hlt; exact ⟨hlt, h⟩
  · cases h
theorem cutMu_ext (μ : Mu) (m : Nat) : Ext (cutMu μ m) μ := fun id l h => (cutMu_some h).2
theorem cutMu_mono (μ : Mu) {m k : Nat} (h : m ≤ k) : Ext (cutMu μ m) (cutMu μ k) := fun id l e => by
  obtain ⟨h1, h2⟩ := cutMu_some e
  simp [cutMu, Nat.lt_of_lt_of_le h1 h, h2]
open Classical in
/-- The objects, when of the first k operations those in X were carried out; tc: what each touched; D: what it left. -/
noncomputable def sX (h0 : Nat → Option AObj) (tc : Nat → Nat → Prop) (D : Nat → Nat → Option AObj) (X : Nat → Bool) : Nat → Nat → Option AObj
  | 0, id => h0 id
  | k + 1, id => if X k = true ∧ tc k id then D k id else sX h0 tc D X k id
open Classical in
/-- The slots, likewise. -/
noncomputable def fX (f0 : Nat → Option AV) (dst : Nat → Option Nat) (V : Nat → AV) (X : Nat → Bool) : Nat → Nat → Option AV
  | 0, t => f0 t
  | k + 1, t => if X k = true ∧ dst k = some t then some (V k) else fX f0 dst V X k t
theorem sX_agree {h0 : Nat → Option AObj} {tc : Nat → Nat → Prop} {D : Nat → Nat → Option AObj} {X Y : Nat → Bool} (id : Nat) : ∀ k, (∀ i, i < k → tc i id → X i = Y i) → sX h0 tc D X k id = sX h0 tc D Y k id
  | 0, _ => rfl
  | k + 1, h => by
    simp only [sX]
    rw [sX_agree id k (fun i hi => h i (by omega))]
    by_cases ht : tc k id
    · rw [h k (by omega) ht]
    · rw [if_neg (fun e => ht e.2), if_neg (fun e => ht e.2)]
theorem fX_agree {f0 : Nat → Option AV} {dst : Nat → Option Nat} {V : Nat → AV} {X Y : Nat → Bool} (t : Nat) : ∀ k, (∀ i, i < k → dst i = some t → X i = Y i) → fX f0 dst V X k t = fX f0 dst V Y k t
  | 0, _ => rfl
  | k + 1, h => by
    simp only [fX]
    rw [fX_agree t k (fun i hi => h i (by omega))]
    by_cases ht : dst k = some t
    · rw [h k (by omega) ht]
    · rw [if_neg (fun e => ht e.2), if_neg (fun e => ht e.2)]
theorem sX_skip {h0 : Nat → Option AObj} {tc : Nat → Nat → Prop} {D : Nat → Nat → Option AObj} {X : Nat → Bool} (id k : Nat) : ∀ n, k ≤ n → (∀ i, k ≤ i → i < n → X i = true → ¬ tc i id) → sX h0 tc D X n id = sX h0 tc D X k id
  | 0, h, _ => by have : k = 0 := by omega
                  subst this; rfl
  | n + 1, h, hn => by
    rcases Nat.lt_or_ge n k with h1 | h1
    · have : k = n + 1 := by omega
      subst this; rfl
    · simp only [sX]
      rw [if_neg (fun e => hn n h1 (by omega) e.1 e.2)]
      exact sX_skip id k n h1 (fun i hi hi' => hn i hi (by omega))
theorem fX_skip {f0 : Nat → Option AV} {dst : Nat → Option Nat} {V : Nat → AV} {X : Nat → Bool} (t k : Nat) : ∀ n, k ≤ n → (∀ i, k ≤ i → i < n → X i = true → dst i ≠ some t) → fX f0 dst V X n t = fX f0 dst V X k t
  | 0, h, _ => by have : k = 0 := by omega
                  subst this; rfl
  | n + 1, h, hn => by
    rcases Nat.lt_or_ge n k with h1 | h1
    · have : k = n + 1 := by omega
      subst this; rfl
    · simp only [fX]
      rw [if_neg (fun e => hn n h1 (by omega) e.1 e.2)]
      exact fX_skip t k n h1 (fun i hi hi' => hn i hi (by omega))

/-- What holds when just the operations in X were carried out, in whatever order. -/
structure Inv (P : Program) (n nt : Nat) (df : List (FuncId × List AV)) (f0 : Nat → Option AV) (h0 : Nat → Option AObj) (nx : Nat → Nat) (dst : Nat → Option Nat) (V : Nat → AV) (tc : Nat → Nat → Prop) (D : Nat → Nat → Option AObj)
    (μ0 : Mu) (w0 : World) (X : Nat → Bool) (μ : Mu) (a : Act) (w : World) : Prop where
  inn : ∀ i, X i = true → i < n
  nt : a.tmps.size = nt
  df : DRel P μ0 df a.defers
  fr : ∀ k, k ≤ n → ∀ t v, (∀ i, k ≤ i → X i = true → dst i ≠ some t) → fX f0 dst V X k t = some v → ∃ c, a.tmps[t]? = some c ∧ VR (cutMu μ (nx k)) v c
  ob : ∀ k, k ≤ n → ∀ id o, (∀ i, k ≤ i → X i = true → ¬ tc i id) → sX h0 tc D X k id = some o → RepO (cutMu μ (nx k)) id w o
  inj : ∀ i j oi oj li lj, sX h0 tc D X n i = some oi → sX h0 tc D X n j = some oj → i ≠ j → owned oi = true ∨ owned oj = true → μ i = some li → μ j = some lj → li.b ≠ lj.b
  dom : ∀ id l, μ id = some l → id < nx 0 ∨ ∃ i, i < n ∧ X i = true ∧ nx i ≤ id ∧ id < nx (i + 1)
  ext : Ext μ0 μ
  old : ∀ id l, μ id = some l → μ0 id = none → nx 0 ≤ id ∧ (w0.heap.size ≤ l.b ∨ Mine μ0 h0 l.b)
  keep : ∀ b, b < w0.heap.size → ¬ Mine μ0 h0 b → w.heap[b]? = w0.heap[b]?
  mine : ∀ b, Mine μ (sX h0 tc D X n) b → b < w0.heap.size → Mine μ0 h0 b
  live : ∀ id o, sX h0 tc D X n id = some o → (∃ o0, h0 id = some o0) ∨ nx 0 ≤ id
  size : w0.heap.size ≤ w.heap.size
  os : w.os = w0.os
  tape : w.tape = w0.tape
  output : w.output = w0.output
/-- One operation more. -/
theorem Inv.step {n nt : Nat} {df : List (FuncId × List AV)} {f0 : Nat → Option AV} {h0 : Nat → Option AObj} {nx : Nat → Nat} {dst : Nat → Option Nat} {V : Nat → AV} {tc : Nat → Nat → Prop} {D : Nat → Nat → Option AObj}
    {μ0 : Mu} {w0 : World} {X : Nat → Bool} {μ : Mu} {a : Act} {w : World} (I : Inv P n nt df f0 h0 nx dst V tc D μ0 w0 X μ a w)
    (hnx : ∀ i k, i ≤ k → k ≤ n → nx i ≤ nx k) {j : Nat} (hj : j < n) (hX : X j = false)
    (hdst : ∀ t, dst j = some t → t < nt ∧ ∀ i, i ≠ j → dst i = some t → (X i = true ↔ i < j))
    {F : List Nat} {R0 Rg : Nat → Option AObj}
    (hR0 : ∀ id o, R0 id = some o → id ∈ F ∧ sX h0 tc D X n id = some o) (hRF : ∀ id o, id ∈ F → sX h0 tc D X n id = some o → R0 id = some o)
    (htc : ∀ id, tc j id → ∀ i, i ≠ j → tc i id → (X i = true ↔ i < j))
    (hA : ∀ id o, tc j id → D j id = some o → Rg id = some o) (hB : ∀ id o, ¬ tc j id → R0 id = some o → Rg id = some o)
    (hin : ∀ id, tc j id → id ∈ F ∨ (nx j ≤ id ∧ id < nx (j + 1)))
    {μ' : Mu} {w' : World} (ev : Evo (cutMu μ (nx j)) R0 (nx j) w μ' Rg (nx (j + 1)) w') {c : Value} (hv : VR μ' (V j) c)
    (hFn : ∀ id, id ∈ F → nx j ≤ id → sX h0 tc D X n id = none) :
    Inv P n nt df f0 h0 nx dst V tc D μ0 w0 (fun i => if i = j then true else X i) (fun id => if nx j ≤ id ∧ id < nx (j + 1) then μ' id else μ id) (a.put (dst j) c) w' := by
  have hX' : ∀ i, i ≠ j → (if i = j then true else X i) = X i := fun i h => by simp [h]
  have hnj : nx j ≤ nx (j + 1) := hnx j (j + 1) (by omega) (by omega)
  have hn0 : nx 0 ≤ nx j := hnx 0 j (by omega) (by omega)
  -- the map grows
  have hgap : ∀ id l, μ id = some l → ¬ (nx j ≤ id ∧ id < nx (j + 1)) := fun id l h hr => by
    rcases I.dom id l h with h1 | ⟨i, h1, h2, h3, h4⟩
    · omega
    · have hij : i ≠ j := fun e => by subst e; rw [hX] at h2; cases h2
      rcases Nat.lt_or_gt_of_ne hij with h5 | h5
      · have := hnx (i + 1) j (by omega) (by omega); omega
      · have := hnx (j + 1) i (by omega) (by omega); omega
  have hgrow : Ext μ (fun id => if nx j ≤ id ∧ id < nx (j + 1) then μ' id else μ id) := fun id l h => by
    simp only; rw [if_neg (hgap id l h)]; exact h
  have hnew : ∀ id l, μ' id = some l → (if nx j ≤ id ∧ id < nx (j + 1) then μ' id else μ id) = some l ∧ id < nx (j + 1) := fun id l h => by
    have hlt : id < nx (j + 1) := by
      rcases Nat.lt_or_ge id (nx (j + 1)) with h1 | h1
      · exact h1
      · rw [ev.dom id h1] at h; cases h
    refine ⟨?_, hlt⟩
    by_cases h1 : nx j ≤ id
    · rw [if_pos ⟨h1, hlt⟩]; exact h
    · rw [if_neg (by omega)]
      cases hc : cutMu μ (nx j) id with
      | none => exact absurd (ev.old id l h hc).1 h1
      | some l' =>
        have := ev.ext id l' hc
        rw [h] at this; cases this
        exact (cutMu_some hc).2
  have hnewx : Ext μ' (fun id => if nx j ≤ id ∧ id < nx (j + 1) then μ' id else μ id) := fun id l h => (hnew id l h).1
  have hcut : ∀ k, k ≤ n → Ext (cutMu μ (nx k)) (cutMu (fun id => if nx j ≤ id ∧ id < nx (j + 1) then μ' id else μ id) (nx k)) := fun k _ id l h => by
    obtain ⟨h1, h2⟩ := cutMu_some h
    show (if id < nx k then _ else none) = some l
    rw [if_pos h1]; exact hgrow id l h2
  have hcutn : ∀ k, j < k → k ≤ n → Ext μ' (cutMu (fun id => if nx j ≤ id ∧ id < nx (j + 1) then μ' id else μ id) (nx k)) := fun k h1 h2 id l h => by
    obtain ⟨h3, h4⟩ := hnew id l h
    have := hnx (j + 1) k h1 h2
    show (if id < nx k then _ else none) = some l
    rw [if_pos (by omega)]; exact h3
  have hmine0 : ∀ b, Mine (cutMu μ (nx j)) R0 b → Mine μ (sX h0 tc D X n) b := fun b m => by
    obtain ⟨q, o, l, h1, h2, h3, h4⟩ := m
    exact ⟨q, o, l, (hR0 q o h1).2, h2, (cutMu_some h3).2, h4⟩
  -- objects that the operation did not touch
  have hlast : ∀ (id k : Nat), k ≤ n → (∀ i, k ≤ i → (if i = j then true else X i) = true → ¬ tc i id) → sX h0 tc D X n id = sX h0 tc D X k id := fun id k hk h => by
    refine sX_skip id k n hk fun i hi hi' hx => h i hi ?_
    by_cases e : i = j
    · simp [e]
    · simp [e, hx]
  have hkeepO : ∀ (id k : Nat) (o : AObj), k ≤ n → ¬ tc j id → sX h0 tc D X n id = some o → RepO (cutMu μ (nx k)) id w o → RepO (cutMu (fun id => if nx j ≤ id ∧ id < nx (j + 1) then μ' id else μ id) (nx k)) id w' o := by
    intro id k o hk ht hs r0
    by_cases hF : id ∈ F
    · have h1 := hB id o ht (hRF id o hF hs)
      have h2 := (ev.rep.obj id o h1)
      have h3 : RepO (fun id => if nx j ≤ id ∧ id < nx (j + 1) then μ' id else μ id) id w' o := h2.keep hnewx fun _ _ => rfl
      have h4 : RepO (cutMu (fun id => if nx j ≤ id ∧ id < nx (j + 1) then μ' id else μ id) (nx k)) id w o := r0.keep (hcut k hk) fun _ _ => rfl
      exact RepO.back (cutMu_ext _ _) h4 h3
    · refine r0.keep (hcut k hk) fun l hl => ?_
      obtain ⟨l', hl', hlt⟩ := r0.mu
      rw [hl] at hl'; cases hl'
      refine ev.keep l.b hlt fun m => ?_
      obtain ⟨q, oq, lq, m1, m2, m3, m4⟩ := m
      obtain ⟨m5, m6⟩ := hR0 q oq m1
      exact I.inj q id oq o lq l m6 hs (fun e => hF (e ▸ m5)) (.inl m2) (cutMu_some m3).2 (cutMu_some hl).2 m4
  have hlastT : ∀ id, tc j id → ∀ k, j < k → k ≤ n → sX h0 tc D (fun i => if i = j then true else X i) k id = D j id := fun id ht k h1 h2 => by
    have e1 : sX h0 tc D (fun i => if i = j then true else X i) k id = sX h0 tc D (fun i => if i = j then true else X i) (j + 1) id := by
      refine sX_skip id (j + 1) k h1 fun i hi hi' hx ht' => ?_
      have hne : i ≠ j := by omega
      simp only [hX' i hne] at hx
      have := (htc id ht i hne ht').1 hx
      omega
    rw [e1]
    simp [sX, ht]
  have hlastN : ∀ id, ¬ tc j id → ∀ k, sX h0 tc D (fun i => if i = j then true else X i) k id = sX h0 tc D X k id := fun id ht k =>
    sX_agree id k fun i _ hi => hX' i (fun e => ht (e ▸ hi))
  -- an object of the new state
  have hcase : ∀ id o, sX h0 tc D (fun i => if i = j then true else X i) n id = some o → (Rg id = some o ∧ (tc j id ∨ id ∈ F)) ∨ (sX h0 tc D X n id = some o ∧ ¬ tc j id ∧ id ∉ F) := fun id o h => by
    by_cases ht : tc j id
    · rw [hlastT id ht n hj (Nat.le_refl _)] at h
      exact .inl ⟨hA id o ht h, .inl ht⟩
    · rw [hlastN id ht n] at h
      by_cases hF : id ∈ F
      · exact .inl ⟨hB id o ht (hRF id o hF h), .inr hF⟩
      · exact .inr ⟨h, ht, hF⟩
  have hob' : ∀ k, k ≤ n → ∀ id o, (∀ i, k ≤ i → (if i = j then true else X i) = true → ¬ tc i id) → sX h0 tc D (fun i => if i = j then true else X i) k id = some o → RepO (cutMu (fun id => if nx j ≤ id ∧ id < nx (j + 1) then μ' id else μ id) (nx k)) id w' o := by
    intro k hk id o hno hs
    by_cases ht : tc j id
    · have hjk : j < k := by
        rcases Nat.lt_or_ge j k with h1 | h1
        · exact h1
        · exact absurd ht (hno j h1 (by simp))
      rw [hlastT id ht k hjk hk] at hs
      exact (ev.rep.obj id o (hA id o ht hs)).keep (hcutn k hjk hk) fun _ _ => rfl
    · rw [hlastN id ht k] at hs
      have hno' : ∀ i, k ≤ i → X i = true → ¬ tc i id := fun i hi hx => hno i hi (by by_cases e : i = j <;> simp [e, hx])
      exact hkeepO id k o hk ht (by rw [hlast id k hk hno]; exact hs) (I.ob k hk id o hno' hs)
  have hmu' : ∀ id o l, Rg id = some o → (if nx j ≤ id ∧ id < nx (j + 1) then μ' id else μ id) = some l → μ' id = some l := fun id o l h1 h2 => by
    obtain ⟨l', hl', _⟩ := (ev.rep.obj id o h1).mu
    have := (hnew id l' hl').1
    rw [h2] at this; cases this; exact hl'
  have hsel : ∀ id (o : AObj) l, sX h0 tc D X n id = some o → (if nx j ≤ id ∧ id < nx (j + 1) then μ' id else μ id) = some l → μ id = some l ∧ l.b < w.heap.size := fun id o l h1 h2 => by
    obtain ⟨l', hl', hlt⟩ := (I.ob n (Nat.le_refl _) id o (fun i hi hx => by have := I.inn i hx; omega) h1).mu
    have h3 := (cutMu_some hl').2
    have := hgrow id l' h3
    simp only [h2] at this; cases this; exact ⟨h3, hlt⟩
  -- blocks of the operation's objects and of the others
  have hcross : ∀ p q op oq lp lq, Rg p = some op → sX h0 tc D X n q = some oq → ¬ tc j q → q ∉ F → owned op = true ∨ owned oq = true → μ' p = some lp → μ q = some lq → lq.b < w.heap.size → lp.b ≠ lq.b := by
    intro p q op oq lp lq h1 h2 h3 h4 h5 h6 h7 h8 he
    have hm : Mine (cutMu μ (nx j)) R0 lp.b → False := fun m => by
      obtain ⟨z, oz, lz, m1, m2, m3, m4⟩ := m
      obtain ⟨m5, m6⟩ := hR0 z oz m1
      exact I.inj z q oz oq lz lq m6 h2 (fun e => h4 (e ▸ m5)) (.inl m2) (cutMu_some m3).2 h7 (m4.trans he)
    by_cases ho : owned op = true
    · exact hm (ev.mine lp.b ⟨p, op, lp, h1, ho, h6, rfl⟩ (by omega))
    · have hoq : owned oq = true := h5.resolve_left ho
      cases hc : cutMu μ (nx j) p with
      | none =>
        rcases (ev.old p lp h6 hc).2 with h9 | h9
        · omega
        · exact hm h9
      | some lp' =>
        have e1 := ev.ext p lp' hc
        rw [h6] at e1; cases e1
        obtain ⟨c1, c2⟩ := cutMu_some hc
        rcases ev.live p op h1 with ⟨o0, h9⟩ | h9
        · obtain ⟨m5, m6⟩ := hR0 p o0 h9
          exact I.inj p q o0 oq lp lq m6 h2 (fun e => h4 (e ▸ m5)) (.inr hoq) c2 h7 he
        · omega
  refine ⟨fun i hi => ?_, ?_, ?_, fun k hk t v hno hf => ?_, hob', ?_, fun id l h => ?_, I.ext.trans hgrow, fun id l h h0' => ?_, fun b hb hm => ?_, fun b m hb => ?_, fun id o h => ?_, Nat.le_trans I.size ev.size, ev.os.trans I.os, ev.tape.trans I.tape, ev.output.trans I.output⟩
  · by_cases e : i = j
    · omega
    · simp only [hX' i e] at hi; exact I.inn i hi
  · have := I.nt
    cases dst j <;> simpa [Act.put] using this
  · have := I.df
    cases dst j <;> simpa [Act.put] using this
  · -- slots
    have hput : ∀ t, dst j ≠ some t → (a.put (dst j) c).tmps[t]? = a.tmps[t]? := fun t ht => by
      cases hd : dst j with
      | none => rfl
      | some d =>
        have : d ≠ t := fun e => ht (by rw [hd, e])
        simp only [Act.put]
        rw [Array.getElem?_setIfInBounds_ne this]
    by_cases hd : dst j = some t
    · have hjk : j < k := by
        rcases Nat.lt_or_ge j k with h1 | h1
        · exact h1
        · exact absurd hd (hno j h1 (by simp))
      have e1 : fX f0 dst V (fun i => if i = j then true else X i) k t = some (V j) := by
        have e2 : fX f0 dst V (fun i => if i = j then true else X i) k t = fX f0 dst V (fun i => if i = j then true else X i) (j + 1) t := by
          refine fX_skip t (j + 1) k hjk fun i hi hi' hx ht' => ?_
          have hne : i ≠ j := by omega
          simp only [hX' i hne] at hx
          have := ((hdst t hd).2 i hne ht').1 hx
          omega
        rw [e2]
        simp [fX, hd]
      rw [e1] at hf; cases hf
      refine ⟨c, ?_, hv.ext (hcutn k hjk hk)⟩
      have hlt : t < a.tmps.size := by rw [I.nt]; exact (hdst t hd).1
      simp [hd, Act.put, hlt]
    · have e1 : fX f0 dst V (fun i => if i = j then true else X i) k t = fX f0 dst V X k t :=
        fX_agree t k fun i _ hi => hX' i (fun e => hd (e ▸ hi))
      rw [e1] at hf
      obtain ⟨c', h1, h2⟩ := I.fr k hk t v (fun i hi hx => hno i hi (by by_cases e : i = j <;> simp [e, hx])) hf
      exact ⟨c', by rw [hput t hd]; exact h1, h2.ext (hcut k hk)⟩
  · -- apart
    intro p q op oq lp lq h1 h2 hpq ho h3 h4
    rcases hcase p op h1 with ⟨p1, p2⟩ | ⟨p1, p2, p3⟩
    · rcases hcase q oq h2 with ⟨q1, q2⟩ | ⟨q1, q2, q3⟩
      · exact ev.rep.inj p q op oq lp lq p1 q1 hpq ho (hmu' p op lp p1 h3) (hmu' q oq lq q1 h4)
      · obtain ⟨m1, m2⟩ := hsel q oq lq q1 h4
        exact hcross p q op oq lp lq p1 q1 q2 q3 ho (hmu' p op lp p1 h3) m1 m2
    · obtain ⟨m1, m2⟩ := hsel p op lp p1 h3
      rcases hcase q oq h2 with ⟨q1, q2⟩ | ⟨q1, q2, q3⟩
      · exact (hcross q p oq op lq lp q1 p1 p2 p3 ho.symm (hmu' q oq lq q1 h4) m1 m2).symm
      · exact I.inj p q op oq lp lq p1 q1 hpq ho m1 (hsel q oq lq q1 h4).1
  · by_cases hr : nx j ≤ id ∧ id < nx (j + 1)
    · exact .inr ⟨j, hj, by simp, hr.1, hr.2⟩
    · rw [if_neg hr] at h
      rcases I.dom id l h with h1 | ⟨i, h1, h2, h3, h4⟩
      · exact .inl h1
      · exact .inr ⟨i, h1, by by_cases e : i = j <;> simp [e, h2], h3, h4⟩
  · by_cases hr : nx j ≤ id ∧ id < nx (j + 1)
    · rw [if_pos hr] at h
      have hc : cutMu μ (nx j) id = none := by
        unfold cutMu; rw [if_neg (by omega)]
      refine ⟨by omega, ?_⟩
      rcases (ev.old id l h hc).2 with h1 | h1
      · exact .inl (Nat.le_trans I.size h1)
      · rcases Nat.lt_or_ge l.b w0.heap.size with h2 | h2
        · exact .inr (I.mine l.b (hmine0 _ h1) h2)
        · exact .inl h2
    · rw [if_neg hr] at h
      exact I.old id l h h0'
  · rw [ev.keep b (Nat.lt_of_lt_of_le hb I.size) (fun m => hm (I.mine b (hmine0 b m) hb))]
    exact I.keep b hb hm
  · obtain ⟨p, o, l, h1, h2, h3, h4⟩ := m
    rcases hcase p o h1 with ⟨p1, p2⟩ | ⟨p1, p2, p3⟩
    · have := ev.mine b ⟨p, o, l, p1, h2, hmu' p o l p1 h3, h4⟩ (Nat.lt_of_lt_of_le hb I.size)
      exact I.mine b (hmine0 b this) hb
    · exact I.mine b ⟨p, o, l, p1, h2, (hsel p o l p1 h3).1, h4⟩ hb
  · rcases hcase id o h with ⟨p1, p2⟩ | ⟨p1, p2, p3⟩
    · rcases ev.live id o p1 with ⟨o0, h1⟩ | h1
      · exact I.live id o0 (hR0 id o0 h1).2
      · exact .inr (by omega)
    · exact I.live id o p1
end
end Go.Proofs.Ytamibbjpapkfeaa.Ab
