/-
  Runs that are told, kept: a call at told arguments in a told heap, by what the evaluator reckoned of it once.
  Conditions: as each theorem tells.
-/
import Derived.Test.YtnncgjhgmmdilaaGreatDoorAbF
namespace Go.Proofs.YtnncgjhgmmdilaaGreatDoor.Ab
set_option linter.unusedSimpArgs false
set_option linter.unusedVariables false
open Go
set_option linter.unusedSectionVars false
def eqvOs : List (Nat × AObj) → List (Nat × AObj) → Bool
  | [], [] => true
  | a :: l, b :: m => (Nat.beq a.1 b.1 && eqvO a.2 b.2) && eqvOs l m
  | _, _ => false
theorem eqvOs_eq [Rho] : ∀ (a b : List (Nat × AObj)), eqvOs a b = true → a = b
  | [], [], _ => rfl
  | [], _ :: _, h => by simp [eqvOs] at h
  | _ :: _, [], h => by simp [eqvOs] at h
  | (a1, a2) :: l, (b1, b2) :: m, h => by
    simp only [eqvOs, Bool.and_eq_true] at h
    rw [Nat.eq_of_beq_eq_true h.1.1, eqvO_eq h.1.2, eqvOs_eq l m h.2]
/-- Where it is met; what it leaves. -/
structure Memo where
  a : List AV
  H : Heap
  v : AV
  R : Heap
/-- Does the tree say so? -/
def Memo.says (M : Memo) : Tree (AV × Heap) → Bool
  | .leaf (v, R) => eqvA v M.v && (Nat.beq R.next M.R.next && (eqvOs R.objs M.R.objs && R.log.all fun i => memN i M.R.log))
  | _ => false
noncomputable def Memo.chk (P : Program) (env : Env) (f : FuncId) (M : Memo) : Bool := M.says (evFun P env 1000 f M.a ⟨M.H.next, M.H.objs, [], []⟩ fun v R => .leaf (v, R))
def Memo.fits (M : Memo) (args : List AV) (H : Heap) : Bool := Nat.beq H.next M.H.next && (eqvAs args M.a && eqvOs H.objs M.H.objs)
def memoG : List Memo → List AV → Heap → Option (Tm × AV × Heap)
  | [], _, _ => none
  | M :: l, args, H => bif M.fits args H then some (.cb true, M.v, ⟨M.R.next, M.R.objs, M.R.log ++ H.log, H.pc⟩) else memoG l args H
section
variable [ρ : Rho] {P : Program}
theorem memo_ok (hn : NoCount P) {env : Env} (he : EnvOK P env) {f : FuncId} {M : Memo} (h : M.chk P env f = true) {H : Heap} (h1 : H.next = M.H.next) (h2 : H.objs = M.H.objs) :
    CallS P f M.a H M.v ⟨M.R.next, M.R.objs, M.R.log ++ H.log, H.pc⟩ ∧ LG H ⟨M.R.next, M.R.objs, M.R.log ++ H.log, H.pc⟩ := by
  unfold Memo.chk at h
  generalize ht : (evFun P env 1000 f M.a ⟨M.H.next, M.H.objs, [], []⟩ fun v R => Tree.leaf (v, R)) = t at h
  cases t with
  | fail => cases h
  | fork c x y => cases h
  | leaf p =>
    obtain ⟨v, R⟩ := p
    simp only [Memo.says, Bool.and_eq_true] at h
    obtain ⟨e1, e2, e3, e4⟩ := h
    have e1 := eqvA_eq _ _ e1
    have e2 := Nat.eq_of_beq_eq_true e2
    have e3 := eqvOs_eq _ _ e3
    have e4 : ∀ i ∈ R.log, i ∈ M.R.log := fun i hi => (@memN_iff rho0 _ _).1 (List.all_eq_true.1 e4 i hi)
    have hs : (evFun P env 1000 f M.a ⟨M.H.next, M.H.objs, [], []⟩ fun v R => Tree.leaf (v, R)).sel = some (v, R) := by rw [ht]; rfl
    obtain ⟨v', R', k1, _, k3, k4⟩ := evFun_ok hn he 1000 f M.a ⟨M.H.next, M.H.objs, [], []⟩ _ (v, R) (fun p hp => by cases hp) hs
    cases k1
    have g0 : ∀ id, H.get id = Heap.get ⟨M.H.next, M.H.objs, [], []⟩ id := fun id => by
      show look H.objs id = look M.H.objs id
      rw [h2]
    have g1 : ∀ id, Heap.get ⟨M.R.next, M.R.objs, M.R.log ++ H.log, H.pc⟩ id = R.get id := fun id => by
      show look M.R.objs id = look R.objs id
      rw [e3]
    refine ⟨fun μ w cargs hv r d => ?_, fun bd => ?_⟩
    · have r' : Rep μ (Heap.get ⟨M.H.next, M.H.objs, [], []⟩) w := by rw [← funext g0]; exact r
      refine (k3 μ w cargs hv r' (by rw [← h1]; exact d)).mono fun e w' he' => ?_
      obtain ⟨μ', c, q1, q2, q3⟩ := he'
      refine ⟨μ', c, q1, by rw [← e1]; exact q2, ?_⟩
      rw [funext g0, funext g1, h1]
      show Evo μ _ M.H.next w μ' R.get M.R.next w'
      rw [← e2]
      exact q3
    · obtain ⟨b1, l, q1, q2, q3⟩ := k4 (fun id o ho => by
        rw [← g0] at ho
        show id < M.H.next
        rw [← h1]; exact bd id o ho)
      have q1 : R.log = l := by simpa using q1
      refine ⟨fun id o ho => ?_, M.R.log, rfl, fun id hid hl => ?_, ?_⟩
      · rw [g1] at ho
        show id < M.R.next
        rw [← e2]; exact b1 id o ho
      · rw [g1, g0]
        refine q2 id ?_ ?_
        · show id < M.H.next
          rw [← h1]; exact hid
        · rw [← q1]; exact fun hm => hl (e4 id hm)
      · show H.next ≤ M.R.next
        rw [h1, ← e2]; exact q3
theorem memoG_ok (hn : NoCount P) {env : Env} (he : EnvOK P env) {f : FuncId} : ∀ {l : List Memo}, (∀ M ∈ l, M.chk P env f = true) → ∀ {args : List AV} {H : Heap} {o : Tm} {v : AV} {H' : Heap}, memoG l args H = some (o, v, H') → CallS P f args H v H' ∧ LG H H'
  | [], _, _, _, _, _, _, h => by cases h
  | M :: l, hl, args, H, o, v, H', h => by
    simp only [memoG] at h
    cases hf : M.fits args H with
    | true =>
      rw [hf] at h
      simp only [cond_true, Option.some.injEq, Prod.mk.injEq] at h
      obtain ⟨rfl, rfl, rfl⟩ := h
      simp only [Memo.fits, Bool.and_eq_true] at hf
      obtain ⟨f1, f2, f3⟩ := hf
      rw [eqvAs_eq _ _ f2]
      exact memo_ok hn he (hl M (by simp)) (Nat.eq_of_beq_eq_true f1) (eqvOs_eq _ _ f3)
    | false =>
      rw [hf] at h
      exact memoG_ok hn he (fun M hM => hl M (by simp [hM])) h
end
end Go.Proofs.YtnncgjhgmmdilaaGreatDoor.Ab
