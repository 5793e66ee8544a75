/-
  Trees made ready for runs.
  Conditions: as each theorem tells.
-/
import Derived.Test.YtlbkficdelepeaaAut
namespace Go.Proofs.Ytlbkficdelepeaa.Ab
set_option linter.unusedSimpArgs false
set_option linter.unusedVariables false
open Go
set_option linter.unusedSectionVars false
noncomputable section
/-! ### answers in order -/
def cmpE (es : Eqs) (b : Nat) : Nat → List (Sr × Tm)
  | 0 => []
  | c + 1 => ((outE es b).getD (.sI, .ci 0)) :: cmpE es (b + 1) c
def outsL (ρ : Rho) (es : Eqs) (b : Nat) : Nat → List Dat
  | 0 => []
  | c + 1 => outD ρ es b :: outsL ρ es (b + 1) c
def valsL (ρ : Rho) : List (Sr × Tm) → List Dat
  | [] => []
  | p :: l => canS p.1 (@Tm.den ρ p.2) :: valsL ρ l
theorem valsL_cmp (ρ : Rho) (es : Eqs) : ∀ (c b : Nat), valsL ρ (cmpE es b c) = outsL ρ es b c
  | 0, _ => rfl
  | c + 1, b => by
    show canS _ (@Tm.den ρ _) :: valsL ρ (cmpE es (b + 1) c) = outD ρ es b :: outsL ρ es (b + 1) c
    rw [valsL_cmp ρ es c (b + 1)]
    congr 1
    unfold outD
    cases outE es b with
    | none => rfl
    | some p => rfl
theorem outsL_get (ρ : Rho) (es : Eqs) : ∀ (c b j : Nat), j < c → (outsL ρ es b c).getD j (.dI 0) = outD ρ es (b + j)
  | c + 1, b, 0, _ => rfl
  | c + 1, b, j + 1, h => by
    have := outsL_get ρ es c (b + 1) j (by omega)
    show (outsL ρ es (b + 1) c).getD j (.dI 0) = _
    rw [this, show b + 1 + j = b + (j + 1) by omega]
theorem outsL_len (ρ : Rho) (es : Eqs) : ∀ (c b : Nat), (outsL ρ es b c).length = c
  | 0, _ => rfl
  | c + 1, b => by show (outsL ρ es (b + 1) c).length + 1 = _; rw [outsL_len ρ es c]
/-! ### step by step -/
def stepK (ρ : Rho) : Tree (AX × Option Eqs) → Nat → Nat → Option (AX × List Dat)
  | .fail, _, _ => none
  | .leaf p, b, c => match p.2 with
    | some es => some (p.1, valsL ρ (cmpE es b c))
    | none => none
  | .fork q x y, b, c => bif (@Tm.den ρ q).asB then stepK ρ x b c else stepK ρ y b c
theorem stepK_of {ρ : Rho} {b c : Nat} {x : AX} {v : List Dat} : ∀ (t : Tree (AX × Option Eqs)), stepK ρ t b c = some (x, v) → ∃ es, @Tree.sel _ ρ t = some (x, some es) ∧ v = outsL ρ es b c
  | .fail, h => by cases h
  | .leaf (y, none), h => by cases h
  | .leaf (y, some es), h => by
    have h' : some (y, valsL ρ (cmpE es b c)) = some (x, v) := h
    simp only [Option.some.injEq, Prod.mk.injEq] at h'
    obtain ⟨rfl, rfl⟩ := h'
    exact ⟨es, rfl, valsL_cmp ρ es c b⟩
  | .fork q s t, h => by
    have h' : (bif (@Tm.den ρ q).asB then stepK ρ s b c else stepK ρ t b c) = some (x, v) := h
    show ∃ es, (bif (@Tm.den ρ q).asB then @Tree.sel _ ρ s else @Tree.sel _ ρ t) = _ ∧ _
    cases hq : (@Tm.den ρ q).asB with
    | true => rw [hq] at h'; exact stepK_of s h'
    | false => rw [hq] at h'; exact stepK_of t h'
def lowB (n : Nat) : List Dat := List.replicate n (.dB false)
def autK (ρ : Rho) : Tree (Option Eqs) → Nat → Nat → List Dat
  | .fail, _, c => lowB (c + 1)
  | .leaf o, b, c => match o with
    | some es => valsL ρ (cmpE es b c) ++ [.dB true]
    | none => lowB (c + 1)
  | .fork q x y, b, c => bif (@Tm.den ρ q).asB then autK ρ x b c else autK ρ y b c
theorem autK_sel (ρ : Rho) (b c : Nat) : ∀ (t : Tree (Option Eqs)), autK ρ t b c = match @Tree.sel _ ρ t with
    | some (some es) => valsL ρ (cmpE es b c) ++ [.dB true]
    | _ => lowB (c + 1)
  | .fail => rfl
  | .leaf none => rfl
  | .leaf (some es) => rfl
  | .fork q x y => by
    show (bif (@Tm.den ρ q).asB then autK ρ x b c else autK ρ y b c) = match (bif (@Tm.den ρ q).asB then @Tree.sel _ ρ x else @Tree.sel _ ρ y) with
      | some (some es) => valsL ρ (cmpE es b c) ++ [.dB true]
      | _ => lowB (c + 1)
    cases (@Tm.den ρ q).asB
    · exact autK_sel ρ b c y
    · exact autK_sel ρ b c x
theorem autK_eq {fl : Nat → Dat → Dat} {t : Tree (Option Eqs)} {m cnt : Nat} {l : List Dat} {j : Nat} (hj : j ≤ cnt) : (autK ⟨fun n => l.getD n (.dI 0), fl⟩ t m cnt).getD j (.dB true) = autF fl t m cnt l j := by
  rw [autK_sel]
  unfold autF
  cases hs : @Tree.sel _ (autR fl l) t with
  | none =>
    show (lowB (cnt + 1)).getD j _ = _
    unfold lowB
    rw [List.getD_eq_getElem?_getD, List.getElem?_replicate, if_pos (by omega)]; rfl
  | some o =>
    cases o with
    | none =>
      show (lowB (cnt + 1)).getD j _ = _
      unfold lowB
      rw [List.getD_eq_getElem?_getD, List.getElem?_replicate, if_pos (by omega)]; rfl
    | some es =>
      show (valsL (autR fl l) (cmpE es m cnt) ++ [Dat.dB true]).getD j (Dat.dB true) = bif Nat.blt j cnt then outD (autR fl l) es (m + j) else .dB true
      rw [valsL_cmp]
      by_cases h : j < cnt
      · rw [show Nat.blt j cnt = true by rw [Nat.blt_eq]; exact h]
        rw [List.getD_eq_getElem?_getD, List.getElem?_append_left (by rw [outsL_len]; exact h)]
        have := outsL_get (autR fl l) es cnt m j h
        rw [List.getD_eq_getElem?_getD] at this
        rw [List.getElem?_eq_getElem (by rw [outsL_len]; exact h)] at this ⊢
        exact this
      · obtain rfl : j = cnt := by omega
        rw [show Nat.blt j j = false by rw [Bool.eq_false_iff]; intro h; rw [Nat.blt_eq] at h; omega]
        rw [List.getD_eq_getElem?_getD, List.getElem?_append_right (by rw [outsL_len]; exact Nat.le_refl _), outsL_len, Nat.sub_self]
        rfl
/-- A law's answer. -/
def boolK (ρ : Rho) : Tree AV → Bool
  | .fail => false
  | .leaf v => match v with
    | .bool b => b
    | _ => false
  | .fork q x y => bif (@Tm.den ρ q).asB then boolK ρ x else boolK ρ y
theorem boolK_ok {ρ : Rho} : ∀ {t : Tree AV}, boolK ρ t = true → @Tree.ok ρ t
  | .fail, h => by cases h
  | .leaf v, h => by
    cases v with
    | bool b =>
      have h' : b = true := h
      subst h'
      exact ⟨.cb true, rfl, rfl⟩
    | _ => cases h
  | .fork q x y, h => by
    have h' : (bif (@Tm.den ρ q).asB then boolK ρ x else boolK ρ y) = true := h
    refine ⟨fun k => ?_, fun k => ?_⟩
    · rw [k] at h'; exact boolK_ok h'
    · rw [k] at h'; exact boolK_ok h'
/-! ### functions of many values -/
@[reducible] def FN : Nat → Type → Type
  | 0, α => α
  | n + 1, α => Dat → FN n α
def apF {α : Type} : (n : Nat) → Nat → List Dat → FN n α → α
  | 0, _, _, f => f
  | n + 1, i, l, f => apF n (i + 1) l (f (l.getD i (.dI 0)))
/-! ### at once -/
section
variable {α : Type}
def nowI (n : Int) (k : Int → α) : α := @Int.rec (fun _ => α) (fun m => @Nat.rec (fun _ => α) (k (.ofNat 0)) (fun j _ => k (.ofNat (Nat.succ j))) m) (fun m => @Nat.rec (fun _ => α) (k (.negSucc 0)) (fun j _ => k (.negSucc (Nat.succ j))) m) n
theorem nowI_eq (n : Int) (k : Int → α) : nowI n k = k n := by
  cases n with
  | ofNat m => cases m <;> rfl
  | negSucc m => cases m <;> rfl
def nowD (d : Dat) (k : Dat → α) : α := @Dat.casesOn (fun _ => α) d (fun b => @Bool.rec (fun _ => α) (k (.dB false)) (k (.dB true)) b) (fun n => nowI n fun n => k (.dI n)) (fun s => k (.dS s)) (fun l => k (.dL l)) (fun a b => k (.dP a b))
theorem nowD_eq (d : Dat) (k : Dat → α) : nowD d k = k d := by
  cases d with
  | dB b => cases b <;> rfl
  | dI n => exact nowI_eq n fun n => k (.dI n)
  | _ => rfl
/-- A function at a list's values, reckoned at once. -/
def nowF (n : Nat) (l : List Dat) (f : FN n α) : α := @List.rec Dat (fun _ => (n : Nat) → FN n α → α) (fun n f => apF n 0 [] f) (fun d _ r n f => @Nat.rec (fun n => FN n α → α) (fun f => f) (fun m _ f => nowD d fun d => r m (f d)) n f) l n f
theorem apF_tail (d : Dat) : ∀ (n i : Nat) (l : List Dat) (f : FN n α), apF n (i + 1) (d :: l) f = apF n i l f
  | 0, _, _, _ => rfl
  | n + 1, i, l, f => by
    show apF n (i + 1 + 1) (d :: l) (f ((d :: l).getD (i + 1) (.dI 0))) = apF n (i + 1) l (f (l.getD i (.dI 0)))
    rw [apF_tail d n (i + 1) l]
    rfl
theorem apF_nil : ∀ (n i j : Nat) (f : FN n α), apF n i [] f = apF n j [] f
  | 0, _, _, _ => rfl
  | n + 1, i, j, f => by
    show apF n (i + 1) [] (f (.dI 0)) = apF n (j + 1) [] (f (.dI 0))
    exact apF_nil n (i + 1) (j + 1) _
theorem nowF_eq : ∀ (n : Nat) (l : List Dat) (f : FN n α), nowF n l f = apF n 0 l f
  | 0, [], _ => rfl
  | 0, _ :: _, _ => rfl
  | n + 1, [], f => rfl
  | n + 1, d :: l, f => by
    show nowD d (fun d => nowF n l (f d)) = apF n 1 (d :: l) (f d)
    rw [nowD_eq, nowF_eq n l, apF_tail]
def nowR : List Dat → (List Dat → α) → α
  | [], k => k []
  | d :: l, k => nowD d fun d => nowR l fun l => k (d :: l)
theorem nowR_eq : ∀ (l : List Dat) (k : List Dat → α), nowR l k = k l
  | [], _ => rfl
  | d :: l, k => by unfold nowR; rw [nowD_eq, nowR_eq]
def nowRs : List (List Dat) → (List (List Dat) → α) → α
  | [], k => k []
  | r :: l, k => nowR r fun r => nowRs l fun l => k (r :: l)
theorem nowRs_eq : ∀ (l : List (List Dat)) (k : List (List Dat) → α), nowRs l k = k l
  | [], _ => rfl
  | d :: l, k => by unfold nowRs; rw [nowR_eq, nowRs_eq]
def nowL : List Dat → (List Dat → α) → α
  | [], k => k []
  | d :: l, k => match d with
    | .dL rs => nowRs rs fun rs => nowL l fun l => k (.dL rs :: l)
    | d => nowD d fun d => nowL l fun l => k (d :: l)
theorem nowL_eq : ∀ (l : List Dat) (k : List Dat → α), nowL l k = k l
  | [], _ => rfl
  | d :: l, k => by
    unfold nowL
    cases d with
    | dL rs => simp only [nowRs_eq, nowL_eq]
    | _ => simp only [nowD_eq, nowL_eq]
end
end
end Go.Proofs.Ytlbkficdelepeaa.Ab
