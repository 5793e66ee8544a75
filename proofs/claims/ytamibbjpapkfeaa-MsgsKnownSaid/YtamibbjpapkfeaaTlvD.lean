/-
  The functions of layer 7 (tlv) and of its reference, called: what they answer (the second half).
  Conditions: a number of an octet lies from 0 to 255; texts are not longer than a thousand bytes.
-/
import Derived.Test.YtamibbjpapkfeaaTlvC
namespace Go.Proofs.Ytamibbjpapkfeaa.Ab
set_option linter.unusedSimpArgs false
set_option linter.unusedVariables false
open Go
theorem ror8 (k : Int) (h0 : 0 ≤ k) (h1 : k ≤ 63) : c8 (IntKind.u8.wrap (iop .add .i64 (iop .mul .i64 4 (IntKind.i64.wrap k)).asI 1).asI) = c8 (4 * k + 1) ∧ c8 (IntKind.u8.wrap (iop .add .i64 (iop .add .i64 (iop .mul .i64 4 (IntKind.i64.wrap k)).asI 1).asI 2).asI) = c8 (4 * k + 3) := by
  have h : ∀ n : Fin 64, c8 (IntKind.u8.wrap (iop .add .i64 (iop .mul .i64 4 (IntKind.i64.wrap (n.val : Int))).asI 1).asI) = c8 (4 * (n.val : Int) + 1) ∧ c8 (IntKind.u8.wrap (iop .add .i64 (iop .add .i64 (iop .mul .i64 4 (IntKind.i64.wrap (n.val : Int))).asI 1).asI 2).asI) = c8 (4 * (n.val : Int) + 3) := by decide +kernel
  have := h ⟨k.toNat, by omega⟩
  rw [show ((⟨k.toNat, by omega⟩ : Fin 64).val : Int) = k by simp; omega] at this
  exact this
theorem rlen8 (n : Nat) (h : n ≤ 127) : c8 (IntKind.u8.wrap (iop .add .i64 (iop .mul .i64 2 (n : Int)).asI 1).asI) = c8 (2 * (n : Int) + 1) := by
  have h' : ∀ n : Fin 128, c8 (IntKind.u8.wrap (iop .add .i64 (iop .mul .i64 2 (n.val : Int)).asI 1).asI) = c8 (2 * (n.val : Int) + 1) := by decide +kernel
  exact h' ⟨n, by omega⟩
set_option maxRecDepth 100000 in
theorem rput_sel (k : Int) (c : Bool) (v : List UInt8) (k0 : 0 ≤ k) (k1 : k ≤ 255) (hl : v.length ≤ 9223372036854775807) : ∃ u, @Tree.sel _ (rhoT k c v) rputTree = some u ∧ @VR (rhoT k c v) (fun _ => none) u (putV k c v) := by
  letI ρ : Rho := rhoT k c v
  show ∃ u, rputTree.sel = some u ∧ VR (fun _ => none) u (putV k c v)
  unfold rputTree putV tput
  by_cases h1 : 63 < k
  · rw [if_pos h1]
    exact ⟨_, sel_T (gtr_T h1) rfl, [_, _], ⟨_, _, rfl, ⟨_, _, rfl, rfl, rfl⟩, rfl⟩, rfl⟩
  rw [if_neg h1]
  by_cases h2 : 127 < v.length
  · rw [if_pos h2]
    exact ⟨_, sel_F (gtr_F h1) (sel_T (gtr_T (show (v.length : Int) > 127 by omega)) rfl), [_, _], ⟨_, _, rfl, ⟨_, _, rfl, rfl, rfl⟩, rfl⟩, rfl⟩
  rw [if_neg h2]
  obtain ⟨e1, e2⟩ := ror8 k k0 (by omega)
  have e3 := rlen8 v.length (by omega)
  cases c with
  | true =>
    refine ⟨_, sel_F (gtr_F h1) (sel_F (gtr_F (show ¬ (v.length : Int) > 127 by omega)) (sel_T rfl
      (sel_F (lss_F (show ¬ (v.length : Int) < 0 by omega)) (sel_F (gtr_F (show ¬ (v.length : Int) > 32767 by omega)) (sel_T (lss_T (show (v.length : Int) < 128 by omega))
        (sel_T (leq_T ?_) (sel_T (leq_T ?_) rfl))))))), ?_⟩
    · show ((1 : Nat) : Int) + ((1 : Nat) : Int) ≤ 9223372036854775807
      decide
    · show ((2 : Nat) : Int) + (v.length : Int) ≤ 9223372036854775807
      omega
    · refine ⟨[_, _], ⟨_, _, ?_, ⟨_, _, rfl, rfl, rfl⟩, rfl⟩, rfl⟩
      show Value.string ⟨(c8 (4 * k + 1 + 2) :: c8 (2 * (v.length : Int) + 1) :: v).toArray⟩ = .string ⟨((([c8 (IntKind.u8.wrap (iop .add .i64 (iop .add .i64 (iop .mul .i64 4 (IntKind.i64.wrap k)).asI 1).asI 2).asI)] ++ []) ++ ([c8 (IntKind.u8.wrap (iop .add .i64 (iop .mul .i64 2 (v.length : Int)).asI 1).asI)] ++ [])) ++ v).toArray⟩
      rw [e2, e3, show 4 * k + 1 + 2 = 4 * k + 3 by omega]; rfl
  | false =>
    refine ⟨_, sel_F (gtr_F h1) (sel_F (gtr_F (show ¬ (v.length : Int) > 127 by omega)) (sel_F rfl
      (sel_F (lss_F (show ¬ (v.length : Int) < 0 by omega)) (sel_F (gtr_F (show ¬ (v.length : Int) > 32767 by omega)) (sel_T (lss_T (show (v.length : Int) < 128 by omega))
        (sel_T (leq_T ?_) (sel_T (leq_T ?_) rfl))))))), ?_⟩
    · show ((1 : Nat) : Int) + ((1 : Nat) : Int) ≤ 9223372036854775807
      decide
    · show ((2 : Nat) : Int) + (v.length : Int) ≤ 9223372036854775807
      omega
    · refine ⟨[_, _], ⟨_, _, ?_, ⟨_, _, rfl, rfl, rfl⟩, rfl⟩, rfl⟩
      show Value.string ⟨(c8 (4 * k + 1 + 0) :: c8 (2 * (v.length : Int) + 1) :: v).toArray⟩ = .string ⟨((([c8 (IntKind.u8.wrap (iop .add .i64 (iop .mul .i64 4 (IntKind.i64.wrap k)).asI 1).asI)] ++ []) ++ ([c8 (IntKind.u8.wrap (iop .add .i64 (iop .mul .i64 2 (v.length : Int)).asI 1).asI)] ++ [])) ++ v).toArray⟩
      rw [e1, e3, show 4 * k + 1 + 0 = 4 * k + 1 by omega]; rfl
abbrev getV (s : List UInt8) : Value := .tuple #[.int .u8 (tget s).k, .bool (tget s).c, .string ⟨(tget s).v.toArray⟩, .int .i64 (tget s).n, .int .i64 (tget s).e]
theorem cut1 (x : UInt8) (r : List UInt8) : cutS (x :: r) 1 ((x :: r).length : Int) = r := by
  simp [cutS]
theorem tup5 {ρ : Rho} {a b c d e : AV} {a' b' c' d' e' : Value} (h1 : VR (fun _ => none) a a') (h2 : VR (fun _ => none) b b') (h3 : VR (fun _ => none) c c') (h4 : VR (fun _ => none) d d') (h5 : VR (fun _ => none) e e') : VR (fun _ => none) (.tuple [a, b, c, d, e]) (.tuple #[a', b', c', d', e']) :=
  ⟨[_, _, _, _, _], ⟨_, _, h1, ⟨_, _, h2, ⟨_, _, h3, ⟨_, _, h4, ⟨_, _, h5, rfl, rfl⟩, rfl⟩, rfl⟩, rfl⟩, rfl⟩, rfl⟩
set_option maxRecDepth 100000 in
theorem get_nil  : ∃ u, @Tree.sel _ (rhoT 0 false ([])) getTree = some u ∧ @VR (rhoT 0 false ([])) (fun _ => none) u (getV ([])) := by
  letI ρ : Rho := rhoT 0 false ([])
  show ∃ u, getTree.sel = some u ∧ VR (fun _ => none) u (getV ([]))
  unfold getTree getV
  exact ⟨_, sel_T (seql_T rfl) rfl, tup5 rfl rfl rfl rfl rfl⟩
set_option maxRecDepth 100000 in
theorem get_ev (x : UInt8) (r : List UInt8) (hx2 : x.toNat % 2 = 0) : ∃ u, @Tree.sel _ (rhoT 0 false (x :: r)) getTree = some u ∧ @VR (rhoT 0 false (x :: r)) (fun _ => none) u (getV (x :: r)) := by
  letI ρ : Rho := rhoT 0 false (x :: r)
  show ∃ u, getTree.sel = some u ∧ VR (fun _ => none) u (getV (x :: r))
  unfold getTree getV
  have hlen : ((x :: r).length : Int) = (r.length : Int) + 1 := by simp
  have ht : tget (x :: r) = noGot 70 := by simp only [tget, if_pos hx2]
  rw [ht]
  refine ⟨_, sel_F (seql_F (show ¬ x :: r = [] by simp)) (sel_T (lss_T (show (0 : Int) < ((x :: r).length : Int) by omega)) (sel_T (eql_T ?_) rfl)), tup5 rfl rfl rfl rfl rfl⟩
  show (iop .and .u8 (x.toNat : Int) 1).asI = 0
  rw [o_and1]; omega
set_option maxRecDepth 100000 in
theorem get_one (x : UInt8) (hx2 : ¬ x.toNat % 2 = 0) : ∃ u, @Tree.sel _ (rhoT 0 false ([x])) getTree = some u ∧ @VR (rhoT 0 false ([x])) (fun _ => none) u (getV ([x])) := by
  letI ρ : Rho := rhoT 0 false ([x])
  show ∃ u, getTree.sel = some u ∧ VR (fun _ => none) u (getV ([x]))
  unfold getTree getV
  have hodd : (iop .and .u8 (x.toNat : Int) 1).asI ≠ 0 := by rw [o_and1]; omega
  have ht : tget [x] = noGot 20 := by simp only [tget, if_neg hx2]
  rw [ht]
  exact ⟨_, sel_F (seql_F (show ¬ [x] = [] by simp)) (sel_T (lss_T (show (0 : Int) < (([x] : List UInt8).length : Int) by simp)) (sel_F (eql_F hodd) (sel_T (leq_T (show (1 : Int) ≤ (([x] : List UInt8).length : Int) by simp)) (sel_T (seql_T (cut1 x [])) rfl)))), tup5 rfl rfl rfl rfl rfl⟩
set_option maxRecDepth 100000 in
theorem get_short (x y : UInt8) (r : List UInt8) (hl : (x :: y :: r).length ≤ 140737488355328) (hx2 : ¬ x.toNat % 2 = 0) (hy2 : y.toNat % 2 = 1) (hsh : r.length < y.toNat / 2) : ∃ u, @Tree.sel _ (rhoT 0 false (x :: y :: r)) getTree = some u ∧ @VR (rhoT 0 false (x :: y :: r)) (fun _ => none) u (getV (x :: y :: r)) := by
  letI ρ : Rho := rhoT 0 false (x :: y :: r)
  show ∃ u, getTree.sel = some u ∧ VR (fun _ => none) u (getV (x :: y :: r))
  unfold getTree getV
  have hx := x.toNat_lt
  have hodd : (iop .and .u8 (x.toNat : Int) 1).asI ≠ 0 := by rw [o_and1]; omega
  have hy := y.toNat_lt
  have hlen : ((x :: y :: r).length : Int) = (r.length : Int) + 2 := by simp; omega
  have hlr : r.length ≤ 140737488355326 := by simp at hl; omega
  have hc : cutS (x :: y :: r) 1 ((x :: y :: r).length : Int) = y :: r := cut1 x _
  have hcl : ((cutS (x :: y :: r) 1 ((x :: y :: r).length : Int)).length : Int) = (r.length : Int) + 1 := by rw [hc]; simp
  have ho : octAt (cutS (x :: y :: r) 1 ((x :: y :: r).length : Int)) 0 = (y.toNat : Int) := by rw [hc]; rfl
  have hand : (iop .and .u8 (octAt (cutS (x :: y :: r) 1 ((x :: y :: r).length : Int)) 0) 1).asI = ((y.toNat % 2 : Nat) : Int) := by rw [ho, o_and1]
  have hshr : IntKind.i64.wrap (iop .shr .u8 (octAt (cutS (x :: y :: r) 1 ((x :: y :: r).length : Int)) 0) 1).asI = ((y.toNat / 2 : Nat) : Int) := by rw [ho, o_shr1, w64 _ (by omega) (by omega)]
  have hadd : IntKind.i64.wrap (2 + IntKind.i64.wrap (iop .shr .u8 (octAt (cutS (x :: y :: r) 1 ((x :: y :: r).length : Int)) 0) 1).asI) = ((2 + y.toNat / 2 : Nat) : Int) := by rw [hshr, w64 _ (by omega) (by omega)]; omega
  have ht : tget (x :: y :: r) = noGot 20 := by simp only [tget, if_neg hx2, if_pos hy2, if_pos hsh]
  rw [ht]
  refine ⟨_, sel_F (seql_F (show ¬ x :: y :: r = [] by simp)) (sel_T (lss_T (show (0 : Int) < ((x :: y :: r).length : Int) by omega)) (sel_F (eql_F hodd) (sel_T (leq_T (show (1 : Int) ≤ ((x :: y :: r).length : Int) by omega)) (sel_F (seql_F ?_) (sel_T (lss_T ?_) (sel_T (neq_T ?_) (sel_F (gtr_F ?_) (sel_T (lss_T ?_) rfl)))))))), tup5 rfl rfl rfl rfl rfl⟩
  · show ¬ cutS (x :: y :: r) 1 ((x :: y :: r).length : Int) = []
    rw [hc]; simp
  · show (0 : Int) < ((cutS (x :: y :: r) 1 ((x :: y :: r).length : Int)).length : Int)
    omega
  · show ¬ (iop .and .u8 (octAt (cutS (x :: y :: r) 1 ((x :: y :: r).length : Int)) 0) 1).asI = 0
    omega
  · show ¬ IntKind.i64.wrap (iop .shr .u8 (octAt (cutS (x :: y :: r) 1 ((x :: y :: r).length : Int)) 0) 1).asI > 127
    omega
  · show IntKind.i64.wrap (IntKind.i64.wrap (((x :: y :: r).length : Int) - 1) - 1) < IntKind.i64.wrap (iop .shr .u8 (octAt (cutS (x :: y :: r) 1 ((x :: y :: r).length : Int)) 0) 1).asI
    rw [hshr, w64 (((x :: y :: r).length : Int) - 1) (by omega) (by omega), w64 _ (by omega) (by omega)]; omega
set_option maxRecDepth 100000 in
theorem get_good (x y : UInt8) (r : List UInt8) (hl : (x :: y :: r).length ≤ 140737488355328) (hx2 : ¬ x.toNat % 2 = 0) (hy2 : y.toNat % 2 = 1) (hsh : ¬ r.length < y.toNat / 2) : ∃ u, @Tree.sel _ (rhoT 0 false (x :: y :: r)) getTree = some u ∧ @VR (rhoT 0 false (x :: y :: r)) (fun _ => none) u (getV (x :: y :: r)) := by
  letI ρ : Rho := rhoT 0 false (x :: y :: r)
  show ∃ u, getTree.sel = some u ∧ VR (fun _ => none) u (getV (x :: y :: r))
  unfold getTree getV
  have hx := x.toNat_lt
  have hodd : (iop .and .u8 (x.toNat : Int) 1).asI ≠ 0 := by rw [o_and1]; omega
  have hy := y.toNat_lt
  have hlen : ((x :: y :: r).length : Int) = (r.length : Int) + 2 := by simp; omega
  have hlr : r.length ≤ 140737488355326 := by simp at hl; omega
  have hc : cutS (x :: y :: r) 1 ((x :: y :: r).length : Int) = y :: r := cut1 x _
  have hcl : ((cutS (x :: y :: r) 1 ((x :: y :: r).length : Int)).length : Int) = (r.length : Int) + 1 := by rw [hc]; simp
  have ho : octAt (cutS (x :: y :: r) 1 ((x :: y :: r).length : Int)) 0 = (y.toNat : Int) := by rw [hc]; rfl
  have hand : (iop .and .u8 (octAt (cutS (x :: y :: r) 1 ((x :: y :: r).length : Int)) 0) 1).asI = ((y.toNat % 2 : Nat) : Int) := by rw [ho, o_and1]
  have hshr : IntKind.i64.wrap (iop .shr .u8 (octAt (cutS (x :: y :: r) 1 ((x :: y :: r).length : Int)) 0) 1).asI = ((y.toNat / 2 : Nat) : Int) := by rw [ho, o_shr1, w64 _ (by omega) (by omega)]
  have hadd : IntKind.i64.wrap (2 + IntKind.i64.wrap (iop .shr .u8 (octAt (cutS (x :: y :: r) 1 ((x :: y :: r).length : Int)) 0) 1).asI) = ((2 + y.toNat / 2 : Nat) : Int) := by rw [hshr, w64 _ (by omega) (by omega)]; omega
  have ht : tget (x :: y :: r) = ⟨(x.toNat / 4 : Nat), x.toNat / 2 % 2 == 1, r.take (y.toNat / 2), (2 + y.toNat / 2 : Nat), 0⟩ := by simp only [tget, if_neg hx2, if_pos hy2, if_neg hsh]
  rw [ht]
  have hcut : cutS (x :: y :: r) 2 (IntKind.i64.wrap (2 + IntKind.i64.wrap (iop .shr .u8 (octAt (cutS (x :: y :: r) 1 ((x :: y :: r).length : Int)) 0) 1).asI)) = r.take (y.toNat / 2) := by
    rw [hadd]
    show r.take (((2 + y.toNat / 2 : Nat) : Int).toNat - (2 : Int).toNat) = r.take (y.toNat / 2)
    congr 1
    omega
  refine ⟨_, sel_F (seql_F (show ¬ x :: y :: r = [] by simp)) (sel_T (lss_T (show (0 : Int) < ((x :: y :: r).length : Int) by omega)) (sel_F (eql_F hodd) (sel_T (leq_T (show (1 : Int) ≤ ((x :: y :: r).length : Int) by omega)) (sel_F (seql_F ?_) (sel_T (lss_T ?_) (sel_T (neq_T ?_) (sel_F (gtr_F ?_) (sel_F (lss_F ?_) (sel_T (and_T (leq_T ?_) (leq_T ?_)) (sel_T (leq_T ?_) rfl)))))))))), tup5 ?_ ?_ ?_ ?_ rfl⟩
  · show ¬ cutS (x :: y :: r) 1 ((x :: y :: r).length : Int) = []
    rw [hc]; simp
  · show (0 : Int) < ((cutS (x :: y :: r) 1 ((x :: y :: r).length : Int)).length : Int)
    omega
  · show ¬ (iop .and .u8 (octAt (cutS (x :: y :: r) 1 ((x :: y :: r).length : Int)) 0) 1).asI = 0
    omega
  · show ¬ IntKind.i64.wrap (iop .shr .u8 (octAt (cutS (x :: y :: r) 1 ((x :: y :: r).length : Int)) 0) 1).asI > 127
    omega
  · show ¬ IntKind.i64.wrap (IntKind.i64.wrap (((x :: y :: r).length : Int) - 1) - 1) < IntKind.i64.wrap (iop .shr .u8 (octAt (cutS (x :: y :: r) 1 ((x :: y :: r).length : Int)) 0) 1).asI
    rw [hshr, w64 (((x :: y :: r).length : Int) - 1) (by omega) (by omega), w64 _ (by omega) (by omega)]; omega
  · show (2 : Int) ≤ IntKind.i64.wrap (2 + IntKind.i64.wrap (iop .shr .u8 (octAt (cutS (x :: y :: r) 1 ((x :: y :: r).length : Int)) 0) 1).asI)
    omega
  · show IntKind.i64.wrap (2 + IntKind.i64.wrap (iop .shr .u8 (octAt (cutS (x :: y :: r) 1 ((x :: y :: r).length : Int)) 0) 1).asI) ≤ ((x :: y :: r).length : Int)
    omega
  · show ((cutS (x :: y :: r) 2 (IntKind.i64.wrap (2 + IntKind.i64.wrap (iop .shr .u8 (octAt (cutS (x :: y :: r) 1 ((x :: y :: r).length : Int)) 0) 1).asI))).length : Int) ≤ 281474976710656
    rw [hcut]; simp; omega
  · show Value.int .u8 ((x.toNat / 4 : Nat) : Int) = .int .u8 (iop .shr .u8 (x.toNat : Int) 2).asI
    rw [o_shr2]
  · show Value.bool (x.toNat / 2 % 2 == 1) = .bool ((iop .and .u8 (x.toNat : Int) 2).asI != 0)
    congr 1
    rw [Bool.eq_iff_iff, beq_iff_eq, bne_iff_ne, Ne, o_and2]; omega
  · show Value.string ⟨(r.take (y.toNat / 2)).toArray⟩ = .string ⟨(cutS (x :: y :: r) 2 (IntKind.i64.wrap (2 + IntKind.i64.wrap (iop .shr .u8 (octAt (cutS (x :: y :: r) 1 ((x :: y :: r).length : Int)) 0) 1).asI))).toArray⟩
    rw [hcut]
  · show Value.int .i64 ((2 + y.toNat / 2 : Nat) : Int) = .int .i64 (IntKind.i64.wrap (2 + IntKind.i64.wrap (iop .shr .u8 (octAt (cutS (x :: y :: r) 1 ((x :: y :: r).length : Int)) 0) 1).asI))
    rw [hadd]
set_option maxRecDepth 100000 in
theorem get_ev0 (x y : UInt8) (hx2 : ¬ x.toNat % 2 = 0) (hy2 : ¬ y.toNat % 2 = 1) : ∃ u, @Tree.sel _ (rhoT 0 false (x :: y :: [])) getTree = some u ∧ @VR (rhoT 0 false (x :: y :: [])) (fun _ => none) u (getV (x :: y :: [])) := by
  letI ρ : Rho := rhoT 0 false (x :: y :: [])
  show ∃ u, getTree.sel = some u ∧ VR (fun _ => none) u (getV (x :: y :: []))
  unfold getTree getV
  have hx := x.toNat_lt
  have hodd : (iop .and .u8 (x.toNat : Int) 1).asI ≠ 0 := by rw [o_and1]; omega
  have hy := y.toNat_lt
  have hlen : ((x :: y :: []).length : Int) = (([] : List UInt8).length : Int) + 2 := by simp
  skip
  have hc : cutS (x :: y :: []) 1 ((x :: y :: []).length : Int) = [y] := cut1 x [y]
  have hcl : ((cutS (x :: y :: []) 1 ((x :: y :: []).length : Int)).length : Int) = (([] : List UInt8).length : Int) + 1 := by rw [hc]; simp
  have ho : octAt (cutS (x :: y :: []) 1 ((x :: y :: []).length : Int)) 0 = (y.toNat : Int) := by rw [hc]; rfl
  have hand : (iop .and .u8 (octAt (cutS (x :: y :: []) 1 ((x :: y :: []).length : Int)) 0) 1).asI = ((y.toNat % 2 : Nat) : Int) := by rw [ho, o_and1]
  have hshr : IntKind.i64.wrap (iop .shr .u8 (octAt (cutS (x :: y :: []) 1 ((x :: y :: []).length : Int)) 0) 1).asI = ((y.toNat / 2 : Nat) : Int) := by rw [ho, o_shr1, w64 _ (by omega) (by omega)]
  have hadd : IntKind.i64.wrap (2 + IntKind.i64.wrap (iop .shr .u8 (octAt (cutS (x :: y :: []) 1 ((x :: y :: []).length : Int)) 0) 1).asI) = ((2 + y.toNat / 2 : Nat) : Int) := by rw [hshr, w64 _ (by omega) (by omega)]; omega
  have ht : tget [x, y] = noGot 20 := by simp only [tget, if_neg hx2, if_neg hy2]
  rw [ht]
  refine ⟨_, sel_F (seql_F (show ¬ [x, y] = [] by simp)) (sel_T (lss_T (show (0 : Int) < (([x, y] : List UInt8).length : Int) by simp)) (sel_F (eql_F hodd) (sel_T (leq_T (show (1 : Int) ≤ (([x, y] : List UInt8).length : Int) by simp)) (sel_F (seql_F ?_) (sel_T (lss_T ?_) (sel_F (neq_F ?_) (sel_T (lss_T ?_) rfl))))))), tup5 rfl rfl rfl rfl rfl⟩
  · show ¬ cutS [x, y] 1 (([x, y] : List UInt8).length : Int) = []
    rw [hc]; simp
  · show (0 : Int) < ((cutS [x, y] 1 (([x, y] : List UInt8).length : Int)).length : Int)
    omega
  · show (iop .and .u8 (octAt (cutS [x, y] 1 (([x, y] : List UInt8).length : Int)) 0) 1).asI = 0
    omega
  · show ((cutS [x, y] 1 (([x, y] : List UInt8).length : Int)).length : Int) < 2
    rw [hc]; simp
set_option maxRecDepth 100000 in
theorem get_ev1 (x y z : UInt8) (r : List UInt8) (hl : (x :: y :: z :: r).length ≤ 140737488355328) (hx2 : ¬ x.toNat % 2 = 0) (hy2 : ¬ y.toNat % 2 = 1) : ∃ u, @Tree.sel _ (rhoT 0 false (x :: y :: z :: r)) getTree = some u ∧ @VR (rhoT 0 false (x :: y :: z :: r)) (fun _ => none) u (getV (x :: y :: z :: r)) := by
  letI ρ : Rho := rhoT 0 false (x :: y :: z :: r)
  show ∃ u, getTree.sel = some u ∧ VR (fun _ => none) u (getV (x :: y :: z :: r))
  unfold getTree getV
  have hx := x.toNat_lt
  have hodd : (iop .and .u8 (x.toNat : Int) 1).asI ≠ 0 := by rw [o_and1]; omega
  have hy := y.toNat_lt
  have hlen : ((x :: y :: z :: r).length : Int) = ((z :: r).length : Int) + 2 := by simp; omega
  have hlr : (z :: r).length ≤ 140737488355326 := by simp at hl ⊢; omega
  have hc : cutS (x :: y :: z :: r) 1 ((x :: y :: z :: r).length : Int) = y :: z :: r := cut1 x _
  have hcl : ((cutS (x :: y :: z :: r) 1 ((x :: y :: z :: r).length : Int)).length : Int) = ((z :: r).length : Int) + 1 := by rw [hc]; simp
  have ho : octAt (cutS (x :: y :: z :: r) 1 ((x :: y :: z :: r).length : Int)) 0 = (y.toNat : Int) := by rw [hc]; rfl
  have hand : (iop .and .u8 (octAt (cutS (x :: y :: z :: r) 1 ((x :: y :: z :: r).length : Int)) 0) 1).asI = ((y.toNat % 2 : Nat) : Int) := by rw [ho, o_and1]
  have hshr : IntKind.i64.wrap (iop .shr .u8 (octAt (cutS (x :: y :: z :: r) 1 ((x :: y :: z :: r).length : Int)) 0) 1).asI = ((y.toNat / 2 : Nat) : Int) := by rw [ho, o_shr1, w64 _ (by omega) (by omega)]
  have hadd : IntKind.i64.wrap (2 + IntKind.i64.wrap (iop .shr .u8 (octAt (cutS (x :: y :: z :: r) 1 ((x :: y :: z :: r).length : Int)) 0) 1).asI) = ((2 + y.toNat / 2 : Nat) : Int) := by rw [hshr, w64 _ (by omega) (by omega)]; omega
  have ht : tget (x :: y :: z :: r) = noGot 70 := by simp only [tget, if_neg hx2, if_neg hy2]
  rw [ht]
  have hz : ((z :: r).length : Int) = (r.length : Int) + 1 := by simp
  suffices h : ∀ q : Tree AV, (q.sel = some (AV.tuple [AV.int IntKind.u8 0, AV.bool false, AV.str [], AV.int IntKind.i64 0, AV.int IntKind.i64 70])) → ∃ u, q.sel = some u ∧ VR (fun _ => none) u (.tuple #[.int .u8 (noGot 70).k, .bool (noGot 70).c, .string ⟨(noGot 70).v.toArray⟩, .int .i64 (noGot 70).n, .int .i64 (noGot 70).e]) by
    refine h _ (sel_F (seql_F (show ¬ x :: y :: z :: r = [] by simp)) (sel_T (lss_T (show (0 : Int) < ((x :: y :: z :: r).length : Int) by omega)) (sel_F (eql_F hodd) (sel_T (leq_T (show (1 : Int) ≤ ((x :: y :: z :: r).length : Int) by omega)) (sel_F (seql_F ?_) (sel_T (lss_T ?_) (sel_F (neq_F ?_) (sel_F (lss_F ?_) (sel_T (lss_T ?_) ?_)))))))))
    · show ¬ cutS (x :: y :: z :: r) 1 ((x :: y :: z :: r).length : Int) = []
      rw [hc]; simp
    · show (0 : Int) < ((cutS (x :: y :: z :: r) 1 ((x :: y :: z :: r).length : Int)).length : Int)
      omega
    · show (iop .and .u8 (octAt (cutS (x :: y :: z :: r) 1 ((x :: y :: z :: r).length : Int)) 0) 1).asI = 0
      omega
    · show ¬ ((cutS (x :: y :: z :: r) 1 ((x :: y :: z :: r).length : Int)).length : Int) < 2
      omega
    · show (1 : Int) < ((cutS (x :: y :: z :: r) 1 ((x :: y :: z :: r).length : Int)).length : Int)
      omega
    · simp only [Tree.sel]
      generalize Dat.asB _ = q
      cases q <;> rfl
  exact fun q hq => ⟨_, hq, tup5 rfl rfl rfl rfl rfl⟩
theorem get_sel (s : List UInt8) (hl : s.length ≤ 140737488355328) : ∃ u, @Tree.sel _ (rhoT 0 false s) getTree = some u ∧ @VR (rhoT 0 false s) (fun _ => none) u (getV s) := by
  match s, hl with
  | [], _ => exact get_nil
  | x :: r, hl =>
  by_cases hx2 : x.toNat % 2 = 0
  · exact get_ev x r hx2
  · match r, hl with
    | [], _ => exact get_one x hx2
    | y :: r, hl =>
    by_cases hy2 : y.toNat % 2 = 1
    · by_cases hsh : r.length < y.toNat / 2
      · exact get_short x y r hl hx2 hy2 hsh
      · exact get_good x y r hl hx2 hy2 hsh
    · match r, hl with
      | [], _ => exact get_ev0 x y hx2 hy2
      | z :: r, hl => exact get_ev1 x y z r hl hx2 hy2
end Go.Proofs.Ytamibbjpapkfeaa.Ab
