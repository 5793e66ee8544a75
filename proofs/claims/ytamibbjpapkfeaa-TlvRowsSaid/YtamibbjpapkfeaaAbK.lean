/-
  Calls from a heap of objects that nobody may write (what arguments lead to).
  Conditions: as each theorem tells.
-/
import Derived.Test.YtamibbjpapkfeaaAbL
namespace Go.Proofs.Ytamibbjpapkfeaa.Ab
set_option linter.unusedSimpArgs false
set_option linter.unusedVariables false
open Go
set_option linter.unusedSectionVars false
variable [Rho]
section
variable {P : Program}
/-- A call whose tree is true, from such a heap: it returns true, and makes at most new blocks. -/
theorem call_true_at {cf : CallF AV} (hc : CfOK P cf) {f : FuncId} {args : List AV} {H : Heap} (hp : H.pc = []) (hro : ∀ id o, H.get id = some o → owned o = false) (h : (cf f args H fun v _ => .leaf v).ok) {μ : Mu} {cargs : List Value} (ha : VRs μ args cargs) {w : World} (r : Rep μ H.get w) (d : Dom μ H.next) :
    Calls P f cargs.toArray w fun e w' => e = .returned (.bool true) ∧ RowKit.Below w.heap.size w w' := by
  obtain ⟨v, u, h1, h2, h3⟩ := Tree.ok_sel _ h
  obtain ⟨v', H', k1, _, k2, _⟩ := hc f args H _ v (fun p hp' => by rw [hp] at hp'; cases hp') h1
  cases k1
  refine (k2 _ w cargs ha r d).mono fun e w' he => ?_
  obtain ⟨μ', c, rfl, h5, h6⟩ := he
  refine ⟨?_, h6.os, h6.tape, h6.output, h6.size, fun k hk => h6.keep k hk fun m => ?_⟩
  · cases v <;> simp only [tmB, Option.some.injEq, reduceCtorEq] at h2
    · subst h2; simp only [Tm.den, Dat.asB] at h3; subst h3; rw [show c = .bool true from h5]
    · subst h2; rw [show c = .bool _ from h5, h3]
  · obtain ⟨j, o, l, m1, m2, _⟩ := m
    rw [hro j o m1] at m2; cases m2
/-- A slice of which nothing is known but its length (its cells are not told). -/
def locOf (a : Addr) (cap k : Nat) : Loc := ⟨a.block, a.off, cap, k, cap * k⟩
theorem sslice_VR {μ : Mu} {id k : Nat} {a : Addr} {len cap : Nat} {t : Tm} (hk : 0 < k) (hs : a.spot = none) (hlc : len ≤ cap) (hm : μ id = some (locOf a cap k)) (ht : t.den.asI = (len : Int)) : VR μ (.sslice id k (.ci 0) t) (.slice (some a) len cap) := by
  have h0 : (Tm.ci 0).den.asI = 0 := rfl
  have e1 : t.den.asI.toNat = len := by rw [ht]; rfl
  refine ⟨_, hm, rfl, hk, by rw [h0]; omega, by rw [ht]; omega, ⟨?_, ?_⟩, .inl ?_⟩
  · rw [h0, e1]
    show (Int.toNat 0 + len) * k ≤ cap * k
    exact Nat.mul_le_mul_right _ (by simpa using hlc)
  · rw [h0, e1]; simpa [locOf] using hlc
  · rw [h0, e1]
    obtain ⟨b, o, s⟩ := a
    simp only at hs
    subst hs
    simp [locOf]
end
end Go.Proofs.Ytamibbjpapkfeaa.Ab
