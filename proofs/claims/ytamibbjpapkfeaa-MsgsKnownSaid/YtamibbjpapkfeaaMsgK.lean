/-
  MsgsKnown, called: it returns true and makes at most new blocks. The three laws as contracts; its loops' rounds are checked by the kernel.
  No condition.
-/
import Derived.Test.YtamibbjpapkfeaaKnw
import Derived.Test.YtamibbjpapkfeaaMsgW
import Derived.Test.YtamibbjpapkfeaaMsgG
namespace Go.Proofs.Ytamibbjpapkfeaa.Ab
set_option linter.unusedSimpArgs false
set_option linter.unusedVariables false
open Go
set_option linter.unusedSectionVars false
noncomputable section
/-! ### the laws as contracts -/
def putsL : List AV → Heap → Option (Tm × AV × Heap)
  | [x], H => match x with
    | .agg vs => match kindsT shM vs with
      | some r => some (debR shM r, .bool true, H)
      | none => none
    | _ => none
  | _, _ => none
def getsL : List AV → Heap → Option (Tm × AV × Heap)
  | [s], H => match tmS s with
    | some _ => some (.cb true, .bool true, H)
    | none => none
  | _, _ => none
/-- What may be in a cell. -/
def wfT : Kd → Tm → Tm
  | .kb, _ => .cb true
  | .ki .u8, a => octT a
  | .ki .i64, a => andT (iopT .leq .i64 (.ci (-9223372036854775808)) a) (iopT .leq .i64 a (.ci 9223372036854775807))
  | .ki _, _ => .cb false
  | .ks, a => iopT .leq .i64 (lenT a) (.ci 9223372036854775807)
def debW : List Kd → Tm → Tm
  | [], _ => .cb true
  | k :: l, r => match r with
    | .pair a u => andT (wfT k a) (debW l u)
    | _ => .cb false
/-- Of all elements of a row. -/
def debRows (sh : List Kd) : Tm → Tm
  | .row r => debW sh r
  | .lapp a b => andT (debRows sh a) (debRows sh b)
  | _ => .cb false
def backL : List AV → Heap → Option (Tm × AV × Heap)
  | [x, s], H => match x, tmS s with
    | .slice id 0 n (.known m), some _ => match H.get id with
      | some (.row vs _ _) => bif Nat.beq n m && Nat.beq vs.length (n * 20) then (match rowsT shM (n + 1) vs with
        | some u => some (debRows shM u, .bool true, H)
        | none => none) else none
      | _ => none
    | _, _ => none
  | _, _ => none
section
variable [ρ : Rho]
theorem putsL_ok {args : List AV} {H H' : Heap} {o : Tm} {v : AV} (hg : putsL args H = some (o, v, H')) (ho : o.den.asB = true) : CallS Try.prog 19 args H v H' ∧ LG H H' := by
  unfold putsL at hg
  split at hg
  · rename_i x H
    split at hg
    · rename_i vs
      split at hg
      · rename_i r hr
        cases hg
        refine ⟨callS_new fun μ cargs w hv => ?_, LG.refl _⟩
        obtain ⟨_, _, ⟨cs, hcs, rfl⟩, rfl, rfl⟩ := hv
        have hl : cs.length = 20 := by rw [hcs.length, kindsT_len hr]; rfl
        have sp := kindsT_spec hr hcs
        have d8 := debR_spec shM r ho
        generalize hd : cellsD r.den = d at sp d8
        have e : cs = [.int .u8 (rK d), .bool (rC d), .int .u8 (rP d).d, .int .u8 (rP d).f, .int .u8 (rP d).c, .int .u8 (rP d).p, .int .i64 (rP d).t1, .int .i64 (rP d).n1, .int .i64 (rP d).n2, .int .i64 (rP d).k, .int .u8 (rS d).d, .bool (rS d).fc, .bool (rS d).rtc, .bool (rS d).rtr, .bool (rS d).ic, .bool (rS d).dv, .bool (rS d).hb, .int .u8 (rS d).br, .int .u8 (rT d), .string ⟨(rB d).toArray⟩] := by
          refine List.ext_getElem? fun j => ?_
          match j with
          | 0 => exact sp 0 _ rfl
          | 1 => exact sp 1 _ rfl
          | 2 => exact sp 2 _ rfl
          | 3 => exact sp 3 _ rfl
          | 4 => exact sp 4 _ rfl
          | 5 => exact sp 5 _ rfl
          | 6 => exact sp 6 _ rfl
          | 7 => exact sp 7 _ rfl
          | 8 => exact sp 8 _ rfl
          | 9 => exact sp 9 _ rfl
          | 10 => exact sp 10 _ rfl
          | 11 => exact sp 11 _ rfl
          | 12 => exact sp 12 _ rfl
          | 13 => exact sp 13 _ rfl
          | 14 => exact sp 14 _ rfl
          | 15 => exact sp 15 _ rfl
          | 16 => exact sp 16 _ rfl
          | 17 => exact sp 17 _ rfl
          | 18 => exact sp 18 _ rfl
          | 19 => exact sp 19 _ rfl
          | j + 20 => rw [List.getElem?_eq_none (by omega), List.getElem?_eq_none (by simp)]
        rw [e]
        exact (msgsPuts_w (rK d) (rC d) (rP d) (rS d) (rT d) (rB d) (d8 0 rfl).1 (d8 0 rfl).2 ⟨d8 2 rfl, d8 3 rfl, d8 4 rfl, d8 5 rfl⟩ (d8 10 rfl).1 (d8 10 rfl).2 (d8 17 rfl).1 (d8 17 rfl).2 (d8 18 rfl).1 (d8 18 rfl).2 w).mono fun e w' he => ⟨_, he.1, rfl, he.2⟩
      · cases hg
    · cases hg
  · cases hg
theorem getsL_ok {args : List AV} {H H' : Heap} {o : Tm} {v : AV} (hg : getsL args H = some (o, v, H')) : CallS Try.prog 4 args H v H' ∧ LG H H' := by
  unfold getsL at hg
  split at hg
  · split at hg
    · rename_i t ht
      cases hg
      refine ⟨callS_new fun μ cargs w hv => ?_, LG.refl _⟩
      obtain ⟨x, l, hx, rfl, rfl⟩ := hv
      obtain rfl := hx.tmS ht
      exact (msgsGets_w t.den.asS w).mono fun e w' he => ⟨_, he.1, rfl, he.2⟩
    · cases hg
  · cases hg
/-- A cell's datum, of its kind. -/
def normD : Kd → Dat → Dat
  | .kb, d => .dB d.asB
  | .ki _, d => .dI d.asI
  | .ks, d => .dS d.asS
theorem kdV_norm (kd : Kd) (d : Dat) : kdV kd (normD kd d) = kdV kd d := by cases kd <;> rfl
theorem wfT_ok {kd : Kd} {a : Tm} (h : (wfT kd a).den.asB = true) : okD kd (normD kd a.den) := by
  cases kd with
  | kb => exact ⟨_, rfl⟩
  | ki k =>
    refine ⟨_, rfl, ?_⟩
    cases k <;> first | (cases h; done) | skip
    · unfold wfT at h
      simp only at h
      rw [andT_den, iopT_den, iopT_den] at h
      have h' : (decide ((-9223372036854775808:Int) ≤ a.den.asI) && decide (a.den.asI ≤ 9223372036854775807)) = true := h
      simp only [Bool.and_eq_true, decide_eq_true_eq] at h'
      simp [Lit.wf, IntKind.min, IntKind.max, IntKind.signed, IntKind.bits]
      omega
    · unfold wfT at h
      obtain ⟨h1, h2⟩ := octT_den (a := a) h
      simp [Lit.wf, IntKind.min, IntKind.max, IntKind.signed, IntKind.bits]
      omega
  | ks =>
    refine ⟨_, rfl, ?_⟩
    unfold wfT at h
    rw [iopT_den, lenT_den] at h
    have h' : decide ((a.den.asS.length : Int) ≤ 9223372036854775807) = true := h
    simp only [decide_eq_true_eq] at h'
    unfold maxLen
    omega
theorem debW_spec : ∀ (sh : List Kd) (r : Tm), (debW sh r).den.asB = true → ∀ (j : Nat) (kd : Kd), sh[j]? = some kd → okD kd (normD kd ((cellsD r.den).getD j (.dI 0)))
  | [], _, _, j, kd, hj => by simp at hj
  | k :: l, r, h, j, kd, hj => by
    unfold debW at h
    split at h
    · rename_i a u
      rw [andT_den, Bool.and_eq_true] at h
      obtain ⟨h1, h2⟩ := h
      cases j with
      | zero =>
        simp at hj; subst hj
        simpa [Tm.den, cellsD] using wfT_ok h1
      | succ j =>
        have := debW_spec l u h2 j kd (by simpa using hj)
        simpa [Tm.den, cellsD] using this
    · cases h
theorem getD_left {α : Type} {d : α} (a b : List α) {i : Nat} (h : i < a.length) : (a ++ b).getD i d = a.getD i d := by
  rw [List.getD_eq_getElem?_getD, List.getElem?_append_left h, ← List.getD_eq_getElem?_getD]
theorem getD_right {α : Type} {d : α} (a b : List α) {i : Nat} (h : a.length ≤ i) : (a ++ b).getD i d = b.getD (i - a.length) d := by
  rw [List.getD_eq_getElem?_getD, List.getElem?_append_right h, ← List.getD_eq_getElem?_getD]
theorem debRows_spec (sh : List Kd) : ∀ (t : Tm), (debRows sh t).den.asB = true → ∀ i, i < t.den.asL.length → ∀ (j : Nat) (kd : Kd), sh[j]? = some kd → okD kd (normD kd ((t.den.asL.getD i []).getD j (.dI 0))) := fun t => by
  induction t with
  | row r =>
    intro h i hi j kd hj
    have : i = 0 := by simp [Tm.den, Dat.asL] at hi; omega
    subst this
    exact debW_spec sh r h j kd hj
  | lapp a b iha ihb =>
    intro h i hi j kd hj
    unfold debRows at h
    rw [andT_den, Bool.and_eq_true] at h
    have e : (Tm.lapp a b).den.asL = a.den.asL ++ b.den.asL := rfl
    rw [e] at hi ⊢
    by_cases hlt : i < a.den.asL.length
    · have := iha h.1 i hlt j kd hj
      rw [getD_left _ _ hlt]
      exact this
    · have := ihb h.2 (i - a.den.asL.length) (by simp at hi; omega) j kd hj
      rw [getD_right _ _ (by omega)]
      exact this
  | _ => intro h; cases h
/-- Rows told cell by cell, as an argument reads. -/
theorem slice_at {sh : List Kd} (hk : 0 < sh.length) {vs : List AV} {n N : Nat} {u : Tm} {μ : Mu} {id : Nat} {own lf : Bool} {w : World} (hr : RepO μ id w (.row vs own lf)) (hu : rowsT sh N vs = some u) (hn : vs.length = n * sh.length) (hd : (debRows sh u).den.asB = true) {c : Value} (hv : VR μ (.slice id 0 n (.known n)) c) :
    ∃ a rows, c = .slice (some a) n n ∧ SliceAt w a n n sh rows := by
  obtain ⟨l, hl, hc⟩ := hv
  simp only at hc
  obtain ⟨l', cs, e, lo, hi, h1, h2, h3, h4, h5, h6, h7⟩ := hr
  rw [hl] at h1; cases h1
  have hvs : ∀ i x, vs[i]? = some x → ∃ y, cs[l.s + i]? = some y ∧ VR μ x y := fun i x hx => (h7 i x hx).2
  obtain ⟨cl, hcl, hget⟩ : ∃ cl : List Value, VRs μ vs cl ∧ ∀ (i : Nat) (y : Value), cl[i]? = some y → cs[l.s + i]? = some y := by
    have key : ∀ (vs : List AV) (o : Nat), (∀ i x, vs[i]? = some x → ∃ y, cs[o + i]? = some y ∧ VR μ x y) → ∃ cl : List Value, VRs μ vs cl ∧ ∀ (i : Nat) (y : Value), cl[i]? = some y → cs[o + i]? = some y := by
      intro vs
      induction vs with
      | nil => intro o _; exact ⟨[], rfl, fun i y h => by simp at h⟩
      | cons v vs ih =>
        intro o h
        obtain ⟨y, q1, q2⟩ := h 0 v rfl
        obtain ⟨cl, q3, q4⟩ := ih (o + 1) fun i x hx => by
          have := h (i + 1) x (by simpa using hx)
          rwa [show o + (i + 1) = o + 1 + i by omega] at this
        refine ⟨y :: cl, ⟨y, cl, q2, q3, rfl⟩, fun i z hz => ?_⟩
        cases i with
        | zero => simp at hz; subst hz; exact q1
        | succ i =>
          have := q4 i z (by simpa using hz)
          rwa [show o + (i + 1) = o + 1 + i by omega]
    exact key vs l.s hvs
  obtain ⟨r1, r2⟩ := rowsT_rows hk N hu hcl
  have hlen : u.den.asL.length = n := by
    rw [hn] at r1
    exact Nat.eq_of_mul_eq_mul_right hk r1
  have sp := debRows_spec sh u hd
  have hg : ∀ i, i < n → (((List.range n).map fun i => (List.range sh.length).map fun j => normD (sh.getD j .kb) ((u.den.asL.getD i []).getD j (.dI 0))).getD i []) = (List.range sh.length).map fun j => normD (sh.getD j .kb) ((u.den.asL.getD i []).getD j (.dI 0)) := fun i hi => by
    simp [List.getD_eq_getElem?_getD, hi]
  have hgj : ∀ i, i < n → ∀ (j : Nat) (kd : Kd), sh[j]? = some kd → (((List.range n).map fun i => (List.range sh.length).map fun j => normD (sh.getD j .kb) ((u.den.asL.getD i []).getD j (.dI 0))).getD i []).getD j (.dI 0) = normD kd ((u.den.asL.getD i []).getD j (.dI 0)) := fun i hi j kd hj => by
    rw [hg i hi]
    obtain ⟨hjl, hje⟩ := List.getElem?_eq_some_iff.1 hj
    simp [List.getD_eq_getElem?_getD, hjl, hje]
  refine ⟨⟨l.b, l.s + 0, none⟩, (List.range n).map fun i => (List.range sh.length).map fun j => normD (sh.getD j .kb) ((u.den.asL.getD i []).getD j (.dI 0)), hc, ⟨rfl, Nat.le_refl _, by simp, ⟨cs, e, lo, hi, h2, fun i hi' j kd hj => ?_⟩, fun i hi' j kd hj => ?_, fun i hi' => ?_⟩⟩
  · rw [hgj i hi' j kd hj, kdV_norm]
    have := hget _ _ (r2 i (by rw [hlen]; exact hi') j kd hj)
    simpa using this
  · rw [hgj i hi' j kd hj]
    exact sp i (by rw [hlen]; exact hi') j kd hj
  · rw [hg i hi']; simp
theorem backL_ok {args : List AV} {H H' : Heap} {o : Tm} {v : AV} (hg : backL args H = some (o, v, H')) (ho : o.den.asB = true) : CallS Try.prog 5 args H v H' ∧ LG H H' := by
  unfold backL at hg
  split at hg
  · rename_i x s H
    split at hg
    · rename_i id n m tt ht
      split at hg
      · rename_i vs own lf hget
        cases hb : (Nat.beq n m && Nat.beq vs.length (n * 20)) with
        | false => rw [hb] at hg; cases hg
        | true =>
          rw [hb] at hg
          simp only [cond_true] at hg
          simp only [Bool.and_eq_true] at hb
          obtain rfl := Nat.eq_of_beq_eq_true hb.1
          have hn := Nat.eq_of_beq_eq_true hb.2
          split at hg
          · rename_i u hu
            cases hg
            refine ⟨fun μ w cargs hv r d => ?_, LG.refl _⟩
            obtain ⟨c1, _, hv1, ⟨c2, _, hv2, rfl, rfl⟩, rfl⟩ := hv
            obtain rfl := hv2.tmS ht
            obtain ⟨a, rows, rfl, hs⟩ := slice_at (by decide) (r.obj id _ hget) hu hn ho hv1
            refine (msgsBack_w _ tt.den.asS w (.inr ⟨a, n, n, rows, rfl, hs⟩)).mono fun e w' he => ?_
            exact ⟨μ, _, he.1, rfl, evo_below r d he.2⟩
          · cases hg
      · cases hg
    · cases hg
  · cases hg
def tabZ : List (Nat × (List AV → Heap → Option (Tm × AV × Heap))) := [(19, putsL), (4, getsL), (5, backL), (10, trueC)]
def envZ0 : Env := ⟨tabGet tabZ, fun _ _ => none⟩
theorem tabZ_ok : EnvOK Try.prog envZ0 := tab_ok tabZ fun p hp args H o v H' _ hg ho => by
  simp only [tabZ, List.mem_cons, List.not_mem_nil, or_false] at hp
  rcases hp with rfl | rfl | rfl | rfl
  · exact putsL_ok hg ho
  · exact getsL_ok hg
  · exact backL_ok hg ho
  · exact true_ok msgs_works hg
end
/-! ### the loops -/
abbrev rhoK (k n t : Nat) : Rho := ⟨fun i => match i with
  | 0 => .dI (k : Int)
  | 1 => .dI (n : Int)
  | 2 => .dI (t : Int)
  | _ => .dI 0, fun _ d => d⟩
def zeros128 : List UInt8 := List.replicate 128 0
def rowP : List AV := [.int .u8 5, .int .u8 2, .int .u8 3, .int .u8 7, .int .i64 10, .int .i64 300, .int .i64 3, .int .i64 2]
def rowQ : List AV := [.int .u8 1, .bool false, .bool true, .bool true, .bool false, .bool true, .bool false, .int .u8 0]
def HK : Heap := ⟨3, [(1, .row rowQ true true), (0, .row rowP true true)], [], []⟩
def T8 : St := ⟨147, [(5, .sint .i64 (.var 1)), (4, .sint .u8 (.var 0)), (1, .ptr 0 0), (2, .ptr 1 0), (3, .str zeros128)], HK, []⟩
def F8 : St := ⟨147, [(4, .sint .u8 (.var 0)), (1, .ptr 0 0), (2, .ptr 1 0), (3, .str zeros128)], HK, []⟩
def s8 (i : Nat) : Option Tm := [none, some (.ci 0)].getD i none
def g8 : LpG := loopG 3 1 T8 F8 s8 (.exit 2)
def T5 : St := ⟨147, [(4, .sint .u8 (.var 0)), (1, .ptr 0 0), (2, .ptr 1 0), (3, .str zeros128)], HK, []⟩
def F5 : St := ⟨147, [(3, .str zeros128)], HK, []⟩
def s5 (i : Nat) : Option Tm := [some (.ci 0)].getD i none
def g5 : LpG := loopG 3 0 T5 F5 s5 (.exit 0)
def T22 : St := ⟨147, [(7, .sint .i64 (.var 2)), (3, .str zeros128)], HK, []⟩
def F22 : St := ⟨147, [(3, .str zeros128)], HK, []⟩
def s22 (i : Nat) : Option Tm := [none, none, some (.ci 0)].getD i none
def g22 : LpG := loopG 3 0 T22 F22 s22 (.exit 4)
abbrev mKn : Nat := 6
def round8 (x : AX) (k n n' : Nat) : Bool := chkR x (@Tree.sel _ (rhoK k n 256) (evCode Try.prog (evFun Try.prog envZ0 1000) (fun _ => none) 1000000 (lpBody Try.prog mKn 1) T8 (outS 3 1 T8 F8))) (rhoK k n' 256) (rhoK k n 256)
def round5 (x : AX) (k k' : Nat) : Bool := chkR x (@Tree.sel _ (rhoK k 32 256) (evCode Try.prog (evFun Try.prog envZ0 1000) (lf1 8 g8) 1000000 (lpBody Try.prog mKn 0) T5 (outS 3 0 T5 F5))) (rhoK k' 32 256) (rhoK k 32 256)
def round22 (x : AX) (t t' : Nat) : Bool := chkR x (@Tree.sel _ (rhoK 10 32 t) (evCode Try.prog (evFun Try.prog envZ0 1000) (fun _ => none) 1000000 (lpBody Try.prog mKn 2) T22 (outS 3 0 T22 F22))) (rhoK 10 32 t') (rhoK 10 32 t)
end
end Go.Proofs.Ytamibbjpapkfeaa.Ab
