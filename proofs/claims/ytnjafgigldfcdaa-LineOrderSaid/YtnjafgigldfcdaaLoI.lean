/-
  LineOrder: its loops' contracts; the law, called.
  Conditions: as each theorem tells.
-/
import Derived.Test.YtnjafgigldfcdaaLoH
import Derived.Test.YtnjafgigldfcdaaNx
namespace Go.Proofs.Ytnjafgigldfcdaa.Ab
set_option linter.unusedSimpArgs false
set_option linter.unusedVariables false
open Go
set_option linter.unusedSectionVars false
set_option linter.unusedSimpArgs false
noncomputable section
set_option maxRecDepth 100000 in
theorem works12_tree : Tree.allT (evFun Try.prog envRp 1000 fWorks [] heap0 fun v _ => .leaf v) = true := by kernel_rfl
set_option maxRecDepth 100000 in
theorem works12 (w : World) : Calls Try.prog fWorks #[] w fun e w' => e = .returned (.bool true) ∧ RowKit.Below w.heap.size w w' := by
  letI ρ : Rho := ⟨fun _ => .dI 0, fnLo⟩
  exact call_true (evFun_ok noCount (env_of (tabR_ok (ρ := ρ) rfl)) 1000) (args := []) (Tree.allT_ok _ works12_tree) (cargs := []) rfl w
theorem tabLw_ok {ρ : Rho} (hf : ρ.fn = fnLo) : TabOK ρ tabLw := ⟨sumL_CG hf applyE, sumL_CG hf sendE, sumL_CG hf waitsE, true_CG works12, trivial⟩
theorem envTb_ok {ρ : Rho} (hf : ρ.fn = fnLo) : @EnvOK ρ Try.prog envTb := env_of (tabLw_ok hf)
set_option maxRecDepth 100000 in
theorem keyFw : keyAt Try.prog fFew 4 0 = true := by kernel_rfl
set_option maxRecDepth 100000 in
theorem keyMn : keyAt Try.prog fLaw 6 0 = true := by kernel_rfl
set_option maxRecDepth 100000 in
theorem keyIn : keyAt Try.prog fLaw 11 1 = true := by kernel_rfl
set_option maxRecDepth 100000 in
theorem keyEn : keyAt Try.prog fLaw 23 2 = true := by kernel_rfl
theorem all_range {n : Nat} {p : Nat → Bool} (h : (List.range n).all p = true) {k : Nat} (hk : k < n) : p k = true := List.all_eq_true.1 h k (List.mem_range.2 hk)
section
variable {ρ : Rho}
theorem rtFwE_eq {k : Nat} (hk : k < 40) : rtFwE k = rFwE k := @eqTr_eq rho0 _ _ (all_range fwE_chk hk)
theorem rtFwR_eq {k : Nat} (hk : k < 40) : rtFwR k = rFwR k := @eqTr_eq rho0 _ _ (all_range fwR_chk hk)
theorem rtIn_eq {k : Nat} (hk : k < 40) : rtIn k = rIn k := @eqTr_eq rho0 _ _ (all_range in_chk hk)
theorem rtMn_eq {k : Nat} (hk : k < 40) : rtMn k = rMn k := @eqTr_eq rho0 _ _ (all_range mn_chk hk)
theorem rtEn_eq : rtEn = rEn := @eqTr_eq rho0 _ _ en_chk
/-- A row that few lets pass. -/
def goodR (c0 : Dat) (k : Nat) : Prop := (cS c0 k 1).asS.length ≤ 100 ∧ (cS c0 k 2).asL.length ≤ 5
instance (c0 : Dat) (k : Nat) : Decidable (goodR c0 k) := inferInstanceAs (Decidable (_ ∧ _))
theorem few_pass {k : Nat} (hk : k < (ρ.val 0).asL.length) (hg : goodR (ρ.val 0) k) : @Tree.sel _ ρ (rFwE k) = some (.normal, some []) := by
  unfold rFwE
  rw [sel_T (by show decide ((k : Int) < ((ρ.val 0).asL.length : Int)) = true; exact decide_eq_true (by omega))]
  rw [sel_F (by rw [gtr_f]; show ((cS (ρ.val 0) k 1).asS.length : Int) ≤ 100 ∧ ¬ (100 : Int) < ((cS (ρ.val 0) k 1).asS.length : Int); have := hg.1; omega)]
  rw [sel_F (by rw [gtr_f]; show ((cS (ρ.val 0) k 2).asL.length : Int) ≤ 5 ∧ ¬ (5 : Int) < ((cS (ρ.val 0) k 2).asL.length : Int); have := hg.2; omega)]
  rfl
theorem few_passR {k : Nat} (hk : k < (ρ.val 0).asL.length) (hg : goodR (ρ.val 0) k) : @Tree.sel _ ρ (rFwR k) = some (.normal, some []) := by
  unfold rFwR
  rw [sel_T (by show decide ((k : Int) < ((ρ.val 0).asL.length : Int)) = true; exact decide_eq_true (by omega))]
  rw [sel_F (by rw [gtr_f]; show ((cS (ρ.val 0) k 1).asS.length : Int) ≤ 100 ∧ ¬ (100 : Int) < ((cS (ρ.val 0) k 1).asS.length : Int); have := hg.1; omega)]
  rw [sel_F (by rw [gtr_f]; show ((cS (ρ.val 0) k 2).asL.length : Int) ≤ 5 ∧ ¬ (5 : Int) < ((cS (ρ.val 0) k 2).asL.length : Int); have := hg.2; omega)]
  rfl
theorem few_stop {k : Nat} (hk : k < (ρ.val 0).asL.length) (hg : ¬ goodR (ρ.val 0) k) : @Tree.sel _ ρ (rFwR k) = some (.ret, some []) := by
  unfold rFwR
  rw [sel_T (by show decide ((k : Int) < ((ρ.val 0).asL.length : Int)) = true; exact decide_eq_true (by omega))]
  by_cases h1 : (cS (ρ.val 0) k 1).asS.length ≤ 100
  · have h2 : ¬ (cS (ρ.val 0) k 2).asL.length ≤ 5 := fun h => hg ⟨h1, h⟩
    rw [sel_F (by rw [gtr_f]; show ((cS (ρ.val 0) k 1).asS.length : Int) ≤ 100 ∧ ¬ (100 : Int) < ((cS (ρ.val 0) k 1).asS.length : Int); omega)]
    rw [sel_T (by rw [gtr_t]; show (5 : Int) < ((cS (ρ.val 0) k 2).asL.length : Int) ∧ ¬ ((cS (ρ.val 0) k 2).asL.length : Int) ≤ 5; omega)]
    rfl
  · rw [sel_T (by rw [gtr_t]; show (100 : Int) < ((cS (ρ.val 0) k 1).asS.length : Int) ∧ ¬ ((cS (ρ.val 0) k 1).asS.length : Int) ≤ 100; omega)]
    rfl
theorem gFwE_ok (hn : (ρ.val 0).asL.length ≤ 40) (hg : ∀ k, k < (ρ.val 0).asL.length → goodR (ρ.val 0) k) : GOk ρ fFew 0 gFwE := by
  refine loopNV_ok noCount ρ (fun _ => ρ) (ρ.val 0).asL.length (fuel := 1000000) (cf := evFun Try.prog none0 1000) (lf := fun _ => none) TFw (by simp) (fun _ => rfl)
    (fun k _ => by letI : Rho := ρ; exact evFun_ok noCount none0_ok 1000) (fun k _ => by letI : Rho := ρ; exact lf0_ok) (fun k _ => ⟨fun _ _ => rfl, rfl⟩) (fun k hk => ?_) ?_ (fun n => rfl)
  · show ∃ es, @Tree.sel _ ρ (rtFwE k) = _ ∧ _
    rw [rtFwE_eq (by omega)]
    exact ⟨_, few_pass hk (hg k hk), trivial⟩
  · show ∃ es, @Tree.sel _ ρ (rtFwE _) = _ ∧ _
    exact ⟨_, exB_sel (all_range fwX_chk (by omega)) (Int.lt_irrefl _), trivial⟩
theorem gFwR_ok (hn : (ρ.val 0).asL.length ≤ 40) {b : Nat} (hb : b < (ρ.val 0).asL.length) (hbad : ¬ goodR (ρ.val 0) b) (hg : ∀ k, k < b → goodR (ρ.val 0) k) : GOk ρ fFew 0 gFwR := by
  refine loopNV_ok noCount ρ (fun _ => ρ) b (fuel := 1000000) (cf := evFun Try.prog none0 1000) (lf := fun _ => none) TFw (by simp) (fun _ => rfl)
    (fun k _ => by letI : Rho := ρ; exact evFun_ok noCount none0_ok 1000) (fun k _ => by letI : Rho := ρ; exact lf0_ok) (fun k _ => ⟨fun _ _ => rfl, rfl⟩) (fun k hk => ?_) ?_ (fun n => rfl)
  · show ∃ es, @Tree.sel _ ρ (rtFwR k) = _ ∧ _
    rw [rtFwR_eq (by omega)]
    exact ⟨_, few_passR (by omega) (hg k hk), trivial⟩
  · show ∃ es, @Tree.sel _ ρ (rtFwR b) = _ ∧ _
    rw [rtFwR_eq (by omega)]
    exact ⟨_, few_stop hb hbad, trivial⟩
end
/-! ### the inner loop -/
section
variable (ρ : Rho)
abbrev rhoI (c0 : Dat) (k j : Nat) : Rho := ⟨fun i => bif Nat.beq i 6 then .dI (j : Int) else bif Nat.beq i 7 then foldR (cS c0 k 1) ((cS c0 k 2).asL.take j) else ρ.val i, ρ.fn⟩
theorem rhoI_low (c0 : Dat) (k j : Nat) : Low 6 (rhoI ρ c0 k j) ρ := ⟨fun i hi => by
  match i, hi with
  | 0, _ | 1, _ | 2, _ | 3, _ | 4, _ | 5, _ => rfl, rfl⟩
end
theorem gInK_ok {ρ : Rho} (hf : ρ.fn = fnLo) (hc : Calls12 (ρ.val 0)) {k : Nat} (hk : k < (ρ.val 0).asL.length) : GOk ρ fLaw 1 (gInK k) := by
  have h1 := hc.s k hk
  have h2 := hc.d k hk
  have hr := hc.r k hk
  refine loopN_ok noCount ρ (fun j => rhoI ρ (ρ.val 0) k j) (cS (ρ.val 0) k 2).asL.length (fuel := 1000000) (cf := evFun Try.prog envTb 1000) (lf := fun _ => none) (by simp) rfl
    (fun j _ => by letI : Rho := rhoI ρ (ρ.val 0) k j; exact evFun_ok noCount (@envTb_ok (rhoI ρ (ρ.val 0) k j) hf) 1000) (fun j _ => by letI : Rho := rhoI ρ (ρ.val 0) k j; exact lf0_ok) (fun j _ => rhoI_low ρ _ k j) (fun j hj => ?_) ?_ (fun n => ?_)
  · show ∃ es, @Tree.sel _ (rhoI ρ (ρ.val 0) k j) (rtIn k) = _ ∧ _
    rw [rtIn_eq (by have := hc.n; omega)]
    unfold rIn
    have hlt : ((j : Nat) : Int) < ((cS (ρ.val 0) k 2).asL.length : Int) := by omega
    have hsplit := getD_take (cS (ρ.val 0) k 2).asL j [] hj
    have hrk : okRow ((cS (ρ.val 0) k 2).asL.getD j []) := hr _ (by rw [List.getD_eq_getElem?_getD, List.getElem?_eq_getElem hj]; exact List.getElem_mem hj)
    have hlen := foldR_len ((cS (ρ.val 0) k 2).asL.take j) (cS (ρ.val 0) k 1) (fun r h => hr r (List.mem_of_mem_take h)) (by rw [List.length_take]; omega)
    have hfac := applyR_facts (foldR (cS (ρ.val 0) k 1) ((cS (ρ.val 0) k 2).asL.take j)) ((cS (ρ.val 0) k 2).asL.getD j []) (by rw [List.length_take] at hlen; omega) hrk
    rw [sel_T (by show decide ((k : Int) < ((ρ.val 0).asL.length : Int)) = true; exact decide_eq_true (by omega))]
    rw [sel_T (by show decide ((j : Int) < ((cS (ρ.val 0) k 2).asL.length : Int)) = true; exact decide_eq_true hlt), sel_T (by
      show (decide ((0 : Int) ≤ (j : Int)) && decide ((j : Int) < ((cS (ρ.val 0) k 2).asL.length : Int))) = true
      rw [Bool.and_eq_true]; exact ⟨decide_eq_true (by omega), decide_eq_true hlt⟩), sel_T (by
      rw [d_app]
      show (ρ.fn 65 _).asB = true
      rw [hf]
      exact hfac.1)]
    refine ⟨_, rfl, ?_, ?_, trivial⟩
    · show ((j + 1 : Nat) : Int) = IntKind.i64.wrap ((j : Int) + 1)
      rw [w64 _ (by omega) (by omega)]; omega
    · show (foldR (cS (ρ.val 0) k 1) ((cS (ρ.val 0) k 2).asL.take (j + 1))).asS = (ρ.fn 64 _).asS
      rw [hf, hsplit, foldR_append]
      rfl
  · show ∃ es, @Tree.sel _ (rhoI ρ (ρ.val 0) k _) (rtIn k) = _ ∧ _
    rw [rtIn_eq (by have := hc.n; omega)]
    unfold rIn
    rw [sel_T (by show decide ((k : Int) < ((ρ.val 0).asL.length : Int)) = true; exact decide_eq_true (by omega))]
    rw [sel_F (by show decide (((cS (ρ.val 0) k 2).asL.length : Int) < ((cS (ρ.val 0) k 2).asL.length : Int)) = false; exact decide_eq_false (Int.lt_irrefl _))]
    refine ⟨_, rfl, ?_, trivial⟩
    show (ρ.fn 72 _).asS = (foldR (cS (ρ.val 0) k 1) ((cS (ρ.val 0) k 2).asL.take (cS (ρ.val 0) k 2).asL.length)).asS
    rw [hf, List.take_length]; rfl
  · show (bif Nat.beq n 6 then _ else bif Nat.beq n 7 then _ else _) = _
    unfold sIn
    cases Nat.beq n 6 with
    | true => rfl
    | false =>
      cases Nat.beq n 7 with
      | true => rfl
      | false => rfl
theorem gIn_ok {ρ : Rho} (hf : ρ.fn = fnLo) (hc : Calls12 (ρ.val 0)) : GOk ρ fLaw 1 gIn := fun st o x st' h ho => by
  unfold gIn at h
  split at h
  · rename_i k _
    cases hb : Nat.blt k 40 with
    | false => rw [hb] at h; cases h
    | true =>
      rw [hb] at h
      simp only [cond_true] at h
      split at h
      · rename_i o' x' s' hg
        cases h
        have ho : (@Tm.den ρ (andT (.ib .lss .i64 (.ci (k : Int)) (.llen (vt 0))) o')).asB = true := ho
        rw [@andT_den ρ, Bool.and_eq_true] at ho
        have hk : (k : Int) < ((ρ.val 0).asL.length : Int) := of_decide_eq_true ho.1
        exact gInK_ok hf hc (by omega) st o' _ _ hg ho.2
      · cases h
  · cases h
end
end Go.Proofs.Ytnjafgigldfcdaa.Ab
