/-
  LineOrder: strings.Repeat as a contract with letters; Apply's shape.
  Conditions: as each theorem tells.
-/
import Derived.Test.YtnjafgigldfcdaaVt
import Derived.Test.YtnjafgigldfcdaaShelf
import Derived.Test.YtnjafgigldfcdaaBase
namespace Go.Proofs.Ytnjafgigldfcdaa.Ab
set_option linter.unusedSimpArgs false
set_option linter.unusedVariables false
open Go
set_option linter.unusedSectionVars false
noncomputable section
def repDebt (t m : Tm) : Tm := andT (iopT .leq .i64 (.ci 0) m) (andT (iopT .leq .i64 m (.ci 1000)) (iopT .leq .i64 (lenT t) (.ci 1000)))
def repAns (t m : Tm) : AV := match t, m with
  | .cs l, .ci (.ofNat c) => .str (Lib.repeatL l c)
  | t, m => .sstr (.app 8 (.pair t m))
def repG : CtrG
  | [x, n], H => match tmS x, tmI n with
    | some t, some (k, m) => bif eqK k .i64 then some (repDebt t m, repAns t m, H) else none
    | _, _ => none
  | _, _ => none
def fn8 (d : Dat) : Dat := match d with
  | .dP a b => .dS (Lib.repeatL a.asS b.asI.toNat)
  | _ => .dI 0
theorem tmS_VR [ρ : Rho] {μ : Mu} {x : AV} {t : Tm} (h : tmS x = some t) {c : Value} (v : VR μ x c) : c = .string ⟨t.den.asS.toArray⟩ := by
  cases x <;> simp only [tmS, Option.some.injEq, reduceCtorEq] at h
  · subst h; exact v
  · subst h; exact v
theorem tmI_VR [ρ : Rho] {μ : Mu} {x : AV} {k : IntKind} {t : Tm} (h : tmI x = some (k, t)) {c : Value} (v : VR μ x c) : c = .int k t.den.asI := by
  cases x <;> simp only [tmI, Option.some.injEq, Prod.mk.injEq, reduceCtorEq] at h
  · obtain ⟨rfl, rfl⟩ := h; exact v
  · obtain ⟨rfl, rfl⟩ := h; exact v
theorem repAns_VR [ρ : Rho] {μ : Mu} (hf : ∀ d, ρ.fn 8 d = fn8 d) (t m : Tm) : VR μ (repAns t m) (.string ⟨(Lib.repeatL t.den.asS m.den.asI.toNat).toArray⟩) := by
  unfold repAns
  split
  · rfl
  · show Value.string _ = .string ⟨(Dat.asS (ρ.fn 8 (.dP t.den m.den))).toArray⟩
    rw [hf]; rfl
theorem rep_CG {ρ : Rho} (hf : ∀ d, ρ.fn 8 d = fn8 d) : CG ρ 17 repG := fun args H o v H' _ hgs ho => by
  letI := ρ
  unfold repG at hgs
  split at hgs
  · rename_i x n H
    split at hgs
    · rename_i t k m ht hm
      cases hk : eqK k .i64 with
      | false => rw [hk] at hgs; cases hgs
      | true =>
        rw [hk] at hgs
        simp only [cond_true, Option.some.injEq, Prod.mk.injEq] at hgs
        obtain ⟨rfl, rfl, rfl⟩ := hgs
        obtain rfl := eqK_eq _ _ hk
        unfold repDebt at ho
        rw [andT_den, andT_den, iopT_den, iopT_den, iopT_den, lenT_den] at ho
        simp only [Bool.and_eq_true] at ho
        obtain ⟨o1, o2, o3⟩ := ho
        have o1 : (0 : Int) ≤ m.den.asI := of_decide_eq_true o1
        have o2 : m.den.asI ≤ 1000 := of_decide_eq_true o2
        have o3 : (t.den.asS.length : Int) ≤ 1000 := of_decide_eq_true o3
        refine ⟨callS_new fun μ cargs w hv => ?_, LG.refl _⟩
        obtain ⟨c1, _, h1, ⟨c2, _, h2, rfl, rfl⟩, rfl⟩ := hv
        obtain rfl := tmS_VR ht h1
        obtain rfl := tmI_VR hm h2
        obtain ⟨c, hc⟩ : ∃ c : Nat, m.den.asI = (c : Int) := ⟨m.den.asI.toNat, by omega⟩
        rw [hc]
        have hb : t.den.asS.length * c ≤ 1000 * 1000 := Nat.mul_le_mul (by omega) (by omega)
        refine (Try.strings_Repeat ⟨t.den.asS.toArray⟩ c w (by omega) (by show t.den.asS.toArray.size * c ≤ _; rw [List.size_toArray]; omega)).mono fun e w' he => ⟨_, he.1, ?_, he.2⟩
        have : c = m.den.asI.toNat := by omega
        subst this
        exact repAns_VR hf t m
    · cases hgs
  · cases hgs
/-! ### Apply: 0 the text, 1 to 4 the damage, 5 the answer -/
abbrev dmgA (i : Nat) : AV := .agg [uv i, iv (i + 1), uv (i + 2), iv (i + 3)]
def SApply : Sum := ⟨0, 5, [.sstr (vt 0), dmgA 1], [], 0, .sstr (vt 5), [], [0, 1, 2, 3, 4]⟩
def tabR : List (Nat × CtrG) := [(17, repG)]
def envRp : Env := ⟨tabGet tabR, fun _ _ => none⟩
abbrev fApply : FuncId := 8
end
end Go.Proofs.Ytnjafgigldfcdaa.Ab
