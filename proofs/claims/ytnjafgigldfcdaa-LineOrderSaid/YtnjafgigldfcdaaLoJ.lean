/-
  LineOrder: the law's answer, whatever the calls.
  Conditions: as each theorem tells.
-/
import Derived.Test.YtnjafgigldfcdaaLoI
import Derived.Test.YtnjafgigldfcdaaLp1
namespace Go.Proofs.Ytnjafgigldfcdaa.Ab
set_option linter.unusedSimpArgs false
set_option linter.unusedVariables false
open Go
set_option linter.unusedSectionVars false
set_option linter.unusedSimpArgs false
noncomputable section
theorem sel_ok [Rho] : ∀ {t : Tree AV}, t.sel = some (.bool true) → t.ok
  | .fail, h => by cases h
  | .leaf v, h => by
    simp only [Tree.sel, Option.some.injEq] at h
    subst h
    exact ⟨_, rfl, rfl⟩
  | .fork c x y, h => by
    simp only [Tree.sel] at h
    unfold Tree.ok
    cases hc : c.den.asB with
    | true => rw [hc] at h; simpa [hc] using sel_ok (t := x) h
    | false => rw [hc] at h; simpa [hc] using sel_ok (t := y) h
set_option maxRecDepth 100000 in
theorem subMn : loopsOf (lpBody Try.prog fLaw 0) = ((lpList Try.prog fLaw).drop 1).take 1 := by kernel_rfl
def xsM (c0 : Dat) : Nat → MS
  | 0 => ⟨.dB false, 0, 0, [], []⟩
  | k + 1 => nextM c0 k (xsM c0 k)
theorem xsM_inv {c0 : Dat} (hc : Calls12 c0) : ∀ k, k ≤ c0.asL.length → MInv k (xsM c0 k)
  | 0, _ => ⟨Int.le_refl 0, Int.le_refl 0, Nat.le_refl 0, Int.le_refl 0, fun r hr => (by simp [xsM, piecesR, Dat.asL] at hr), rfl, Nat.zero_le _⟩
  | k + 1, h => next_inv hc h (xsM_inv hc k (by omega))
/-- What the letters stand for in the end. -/
def valF (c0 : Dat) (x : MS) (j : Nat) : Dat := [c0, x.L, .dI x.a, .dI x.n, .dS x.sent, .dS x.got, .dI 0, .dI 0, .dI 0, .dI x.n, x.L, .dI (x.a + x.n), .dI 0, .dS x.sent].getD j (.dI 0)
abbrev endM (c0 : Dat) : MS := xsM c0 c0.asL.length
abbrev rhoF (c0 : Dat) : Rho := ⟨valF c0 (endM c0), fnLo⟩
section
variable {c0 : Dat} (hc : Calls12 c0)
include hc
theorem gMn_ok : GOk (rhoF c0) fLaw 0 gMn := by
  refine loopNV_ok noCount (rhoF c0) (fun k => rhoM (rhoF c0) (xsM c0 k)) c0.asL.length (fuel := 1000000) (cf := evFun Try.prog envTb 1000) (lf := lf1 11 gIn) TMn (by simp) (fun _ => rfl)
    (fun k _ => by letI : Rho := rhoM (rhoF c0) (xsM c0 k); exact evFun_ok noCount (@envTb_ok (rhoM (rhoF c0) (xsM c0 k)) rfl) 1000) (fun k _ => ?_) (fun k _ => ⟨fun i hi => ?_, rfl⟩) (fun k hk => ?_) ?_ (fun n => ?_)
  · exact lfSub_ok subMn keyIn (gIn_ok (ρ := rhoM (rhoF c0) (xsM c0 k)) rfl hc)
  · match i, hi with
    | 0, _ => rfl
  · show ∃ es, @Tree.sel _ (rhoM (rhoF c0) (xsM c0 k)) (rtMn k) = _ ∧ _
    rw [rtMn_eq (by have := hc.n; omega)]
    exact rd_hand (ρ := rhoF c0) rfl (xsM_inv hc k (by omega)) hc hk
  · show ∃ es, @Tree.sel _ (rhoM (rhoF c0) (endM c0)) (rtMn c0.asL.length) = _ ∧ _
    refine ⟨_, exB_sel (all_range mnX_chk (by have := hc.n; omega)) (Int.lt_irrefl _), rfl, rfl, rfl, rfl, rfl, trivial⟩
  · match n with
    | 0 | 1 | 2 | 3 | 4 | 5 => rfl
    | n + 6 => rfl
abbrev rhoE (c0 : Dat) (j : Nat) : Rho := ⟨fun i => bif Nat.beq i 9 then .dI (j : Int) else bif Nat.beq i 10 then (endM c0).L else bif Nat.beq i 11 then .dI ((endM c0).a + j) else bif Nat.beq i 12 then .dI ((endM c0).n - j) else
  bif Nat.beq i 13 then .dS ((endM c0).got ++ joinR ((piecesR (endM c0).L.asL (endM c0).a (endM c0).n).take j)) else (rhoF c0).val i, fnLo⟩
theorem gEn_ok : GOk (rhoF c0) fLaw 2 gEn := by
  have hi : MInv c0.asL.length (endM c0) := xsM_inv hc c0.asL.length (Nat.le_refl _)
  have hN := hc.n
  have hn0 := hi.n0
  have ha0 := hi.a0
  have hnk := hi.nk
  have hpl := pieces_len hi.an
  have hsl : (endM c0).sent.length ≤ 80000 := by have := hi.len; omega
  refine loopN_ok noCount (rhoF c0) (fun j => rhoE c0 j) (endM c0).n.toNat (fuel := 1000000) (cf := evFun Try.prog envTb 1000) (lf := fun _ => none) (by simp) rfl
    (fun j _ => by letI : Rho := rhoE c0 j; exact evFun_ok noCount (@envTb_ok (rhoE c0 j) rfl) 1000) (fun j _ => by letI : Rho := rhoE c0 j; exact lf0_ok) (fun j _ => ⟨fun i hi => ?_, rfl⟩) (fun j hj => ?_) ?_ (fun n => ?_)
  · match i, hi with
    | 0, _ | 1, _ | 2, _ | 3, _ | 4, _ | 5, _ | 6, _ | 7, _ | 8, _ => rfl
  · show ∃ es, @Tree.sel _ (rhoE c0 j) rtEn = _ ∧ _
    rw [rtEn_eq]
    unfold rEn
    have hsplit := getD_take (piecesR (endM c0).L.asL (endM c0).a (endM c0).n) j [] (by omega)
    have hge : (piecesR (endM c0).L.asL (endM c0).a (endM c0).n).getD j [] = (endM c0).L.asL.getD ((endM c0).a.toNat + j) [] := by
      simp only [piecesR, List.getD_eq_getElem?_getD, List.getElem?_take, List.getElem?_drop]
      rw [if_pos (by omega)]
    have hgl : ((endM c0).got ++ joinR ((piecesR (endM c0).L.asL (endM c0).a (endM c0).n).take (j + 1))).length ≤ 80000 := by
      have h1 : (endM c0).got ++ joinR ((piecesR (endM c0).L.asL (endM c0).a (endM c0).n).take (j + 1)) ++ joinR ((piecesR (endM c0).L.asL (endM c0).a (endM c0).n).drop (j + 1)) = (endM c0).sent := by
        rw [List.append_assoc, ← joinR_append, List.take_append_drop]; exact hi.j
      have h2 := congrArg List.length h1
      rw [List.length_append] at h2
      omega
    rw [hsplit, joinR_append, ← List.append_assoc, List.length_append] at hgl
    have e1 : joinR [(piecesR (endM c0).L.asL (endM c0).a (endM c0).n).getD j []] = strR ((endM c0).L.asL.getD ((endM c0).a + (j : Int)).toNat []) := by
      rw [hge, show ((endM c0).a + (j : Int)).toNat = (endM c0).a.toNat + j by omega]; simp [joinR]
    rw [e1] at hgl
    rw [sel_T (by rw [lss_t]; show ((j : Int) < 3000 ∧ ¬ (3000 : Int) ≤ (j : Int)); omega)]
    rw [sel_T (by rw [gtr_t]; show ((0 : Int) < (endM c0).n - (j : Int) ∧ ¬ (endM c0).n - (j : Int) ≤ 0); omega)]
    rw [sel_F (by rw [eql_f]; show ¬ (endM c0).n - (j : Int) = 0; omega)]
    rw [sel_T (by rw [lss_t]; show ((0 : Int) < (endM c0).n - (j : Int) ∧ ¬ (endM c0).n - (j : Int) ≤ 0); omega)]
    rw [sel_T (by rw [leq_t]; show ((1 : Int) ≤ (endM c0).n - (j : Int) ∧ ¬ (endM c0).n - (j : Int) < 1); omega)]
    rw [sel_T (by
      rw [leq_t]
      show ((((endM c0).got ++ joinR ((piecesR (endM c0).L.asL (endM c0).a (endM c0).n).take j)).length : Int) + ((strR ((endM c0).L.asL.getD ((endM c0).a + (j : Int)).toNat [])).length : Int) ≤ 9223372036854775807 ∧
        ¬ 9223372036854775807 < (((endM c0).got ++ joinR ((piecesR (endM c0).L.asL (endM c0).a (endM c0).n).take j)).length : Int) + ((strR ((endM c0).L.asL.getD ((endM c0).a + (j : Int)).toNat [])).length : Int))
      omega)]
    refine ⟨_, rfl, ?_, ?_, ?_, ?_, ?_, trivial⟩
    · show ((j + 1 : Nat) : Int) = IntKind.i64.wrap ((j : Int) + 1)
      rw [w64 _ (by omega) (by omega)]; omega
    · show (endM c0).got ++ joinR ((piecesR (endM c0).L.asL (endM c0).a (endM c0).n).take (j + 1)) = ((endM c0).got ++ joinR ((piecesR (endM c0).L.asL (endM c0).a (endM c0).n).take j)) ++ strR ((endM c0).L.asL.getD ((endM c0).a + (j : Int)).toNat [])
      rw [hsplit, joinR_append, ← List.append_assoc, e1]
    · show (endM c0).a + ((j + 1 : Nat) : Int) = (endM c0).a + (j : Int) + 1
      omega
    · show (endM c0).n - ((j + 1 : Nat) : Int) = (endM c0).n - (j : Int) - 1
      omega
    · rfl
  · show ∃ es, @Tree.sel _ (rhoE c0 (endM c0).n.toNat) rtEn = _ ∧ _
    rw [rtEn_eq]
    unfold rEn
    rw [sel_T (by rw [lss_t]; show (((endM c0).n.toNat : Int) < 3000 ∧ ¬ (3000 : Int) ≤ ((endM c0).n.toNat : Int)); omega)]
    rw [sel_F (by rw [gtr_f]; show ((endM c0).n - ((endM c0).n.toNat : Int) ≤ 0 ∧ ¬ (0 : Int) < (endM c0).n - ((endM c0).n.toNat : Int)); omega)]
    refine ⟨_, rfl, ?_, ?_, ?_, ?_, trivial⟩
    · show (endM c0).sent = (endM c0).got ++ joinR ((piecesR (endM c0).L.asL (endM c0).a (endM c0).n).take (endM c0).n.toNat)
      rw [List.take_of_length_le (by omega)]; exact hi.j.symm
    · show (endM c0).a + (endM c0).n = (endM c0).a + ((endM c0).n.toNat : Int)
      omega
    · show (0 : Int) = (endM c0).n - ((endM c0).n.toNat : Int)
      omega
    · rfl
  · match n with
    | 9 => rfl
    | 10 => rfl
    | 11 =>
      show Dat.dI ((endM c0).a + ((0 : Nat) : Int)) = .dI (endM c0).a
      congr 1; omega
    | 12 =>
      show Dat.dI ((endM c0).n - ((0 : Nat) : Int)) = .dI (endM c0).n
      congr 1; omega
    | 13 =>
      show Dat.dS ((endM c0).got ++ joinR []) = .dS (endM c0).got
      congr 1; exact List.append_nil _
    | 0 | 1 | 2 | 3 | 4 | 5 | 6 | 7 | 8 => rfl
    | n + 14 => rfl
theorem lawE_ok : @Tree.ok (rhoF c0) (lawT gFwE) := by
  have hi : MInv c0.asL.length (endM c0) := xsM_inv hc c0.asL.length (Nat.le_refl _)
  have hN := hc.n
  rw [lawE_eq]
  letI := rhoF c0
  have s : @Tree.sel _ (rhoF c0) lawE = some (.bool true) := by
    unfold lawE
    rw [sel_F (by rw [gtr_f]; show ((c0.asL.length : Int) ≤ 40 ∧ ¬ (40 : Int) < (c0.asL.length : Int)); omega)]
    rw [sel_T (by rw [seql_t]; rfl)]
    rw [sel_T (by
      rw [app97 _ _ _ (rhoF c0) rfl]
      have ha0 := hi.a0
      have hn0 := hi.n0
      have han := hi.an
      exact decide_eq_true (show lineOk (endM c0).L.asL ((endM c0).a + (endM c0).n) 0 from ⟨by omega, Int.le_refl 0, by show ((endM c0).a + (endM c0).n).toNat + (0 : Int).toNat ≤ _; rw [show (0 : Int).toNat = 0 from rfl]; omega, by omega, fun r hr => by simp [piecesR] at hr⟩))]
    rw [sel_T (by
      rw [eql_t, app96 _ _ _ (rhoF c0) rfl]
      show (sumR (piecesR (endM c0).L.asL ((endM c0).a + (endM c0).n) 0) : Int) = 0
      rw [show piecesR (endM c0).L.asL ((endM c0).a + (endM c0).n) 0 = [] by simp [piecesR]]
      rfl)]
    rfl
  exact sel_ok s
end
end
end Go.Proofs.Ytnjafgigldfcdaa.Ab
