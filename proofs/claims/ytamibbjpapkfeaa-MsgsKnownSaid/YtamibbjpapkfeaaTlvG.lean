/-
  Get of the document's layer 7: what it answers.
  Conditions: at most 2^47 octets.
-/
import Derived.Test.YtamibbjpapkfeaaTlvL
namespace Go.Proofs.Ytamibbjpapkfeaa.Ab
set_option linter.unusedSimpArgs false
set_option linter.unusedVariables false
open Go
abbrev gv : Tm := .var 2
abbrev gcut : Tm := .cut gv (.ci 1) (.len gv)
abbrev gy : Tm := .at gcut (.ci 0)
abbrev gyq : Tm := .ib .quo .i64 (.wrap .i64 gy) (.ci 2)
abbrev gsum : Tm := .ib .add .i64 (.ci 2) gyq
abbrev gx : Tm := .wrap .i64 (.at gv (.ci 0))
abbrev gE (e : Int) : Tree AV := .leaf (.tuple [.agg [.int .u8 0, .bool false, .str []], .int .i64 0, .int .i64 e])
abbrev gLeaf : AV := .tuple [.agg [.sint .u8 (.wrap .u8 (.ib .quo .i64 gx (.ci 4))), .sbool (.ib .eql .i64 (.ib .rem .i64 (.ib .quo .i64 gx (.ci 2)) (.ci 2)) (.ci 1)), .sstr (.cut gv (.ci 2) gsum)], .sint .i64 gsum, .int .i64 0]
def gG : Tree AV := .fork (.ib .gtr .i64 gyq (.ci 127)) (gE 70) (.fork (.ib .gtr .i64 gsum (.len gv)) (gE 20) (.fork (.and (.ib .leq .i64 (.ci 2) gsum) (.ib .leq .i64 gsum (.len gv))) (.leaf gLeaf) .fail))
def gL : Tree AV := .fork (.ib .lss .i64 (.ci 1) (.len gcut)) (.fork (.ib .gtr .i64 (.ib .add .i64 gyq (.ib .mul .i64 (.ci 128) (.wrap .i64 (.at gcut (.ci 1))))) (.ci 127)) (gE 70) (gE 70)) .fail
def gO : Tree AV := .fork (.ib .eql .u8 (.ib .rem .u8 gy (.ci 2)) (.ci 1)) gG gL
def rgT : Tree AV := .fork (.sb .eql gv (.cs [])) (gE 20) (.fork (.ib .lss .i64 (.ci 0) (.len gv)) (.fork (.ib .eql .i64 (.ib .rem .i64 gx (.ci 2)) (.ci 0)) (gE 70) (.fork (.ib .leq .i64 (.ci 1) (.len gv)) (.fork (.sb .eql gcut (.cs [])) (gE 20) (.fork (.ib .lss .i64 (.ci 0) (.len gcut))
  (.fork (.ib .eql .u8 (.ib .rem .u8 gy (.ci 2)) (.ci 0)) (.fork (.ib .lss .i64 (.len gcut) (.ci 2)) (gE 20) gO) gO) .fail)) .fail)) .fail)
set_option maxRecDepth 100000 in
theorem rgT_eq : evFun Try.prog envT 1000 25 [.sstr gv] heap0 leafT = rgT := by kernel_rfl
abbrev rgetV (s : List UInt8) : Value := .tuple #[.agg #[.int .u8 (tget s).k, .bool (tget s).c, .string ⟨(tget s).v.toArray⟩], .int .i64 (tget s).n, .int .i64 (tget s).e]
theorem noGot_VR {ρ : Rho} (s : List UInt8) (e : Int) (h : tget s = noGot e) : @VR ρ (fun _ => none) (.tuple [.agg [.int .u8 0, .bool false, .str []], .int .i64 0, .int .i64 e]) (rgetV s) := by
  unfold rgetV; rw [h]
  exact ⟨[_, _, _], ⟨_, _, ⟨[_, _, _], ⟨_, _, rfl, ⟨_, _, rfl, ⟨_, _, rfl, rfl, rfl⟩, rfl⟩, rfl⟩, rfl⟩, ⟨_, _, rfl, ⟨_, _, rfl, rfl, rfl⟩, rfl⟩, rfl⟩, rfl⟩
theorem rem2 (b : UInt8) : (iop .rem .u8 (b.toNat : Int) 2).asI = ((b.toNat % 2 : Nat) : Int) := all_byte (p := fun x => (iop .rem .u8 (x.toNat : Int) 2).asI = ((x.toNat % 2 : Nat) : Int)) (by decide +kernel) b
theorem rem64 (b : UInt8) : (iop .rem .i64 (IntKind.i64.wrap (b.toNat : Int)) 2).asI = ((b.toNat % 2 : Nat) : Int) := all_byte (p := fun x => (iop .rem .i64 (IntKind.i64.wrap (x.toNat : Int)) 2).asI = ((x.toNat % 2 : Nat) : Int)) (by decide +kernel) b
theorem quo64 (b : UInt8) : (iop .quo .i64 (IntKind.i64.wrap (b.toNat : Int)) 2).asI = ((b.toNat / 2 : Nat) : Int) := all_byte (p := fun x => (iop .quo .i64 (IntKind.i64.wrap (x.toNat : Int)) 2).asI = ((x.toNat / 2 : Nat) : Int)) (by decide +kernel) b
theorem quo4 (b : UInt8) : IntKind.u8.wrap (iop .quo .i64 (IntKind.i64.wrap (b.toNat : Int)) 4).asI = ((b.toNat / 4 : Nat) : Int) := all_byte (p := fun x => IntKind.u8.wrap (iop .quo .i64 (IntKind.i64.wrap (x.toNat : Int)) 4).asI = ((x.toNat / 4 : Nat) : Int)) (by decide +kernel) b
theorem bit2 (b : UInt8) : ((iop .rem .i64 (iop .quo .i64 (IntKind.i64.wrap (b.toNat : Int)) 2).asI 2).asI == 1) = (b.toNat / 2 % 2 == 1) := all_byte (p := fun x => ((iop .rem .i64 (iop .quo .i64 (IntKind.i64.wrap (x.toNat : Int)) 2).asI 2).asI == 1) = (x.toNat / 2 % 2 == 1)) (by decide +kernel) b
abbrev rhoG7 (s : List UInt8) : Rho := rhoT 0 false s
theorem rg_nil : ∃ u, @Tree.sel _ (rhoG7 []) rgT = some u ∧ @VR (rhoG7 []) (fun _ => none) u (rgetV []) := by
  letI ρ : Rho := rhoG7 []
  exact ⟨_, sel_T (seql_T rfl) rfl, noGot_VR [] 20 rfl⟩
theorem rg_ev (x : UInt8) (r : List UInt8) (hx2 : x.toNat % 2 = 0) : ∃ u, @Tree.sel _ (rhoG7 (x :: r)) rgT = some u ∧ @VR (rhoG7 (x :: r)) (fun _ => none) u (rgetV (x :: r)) := by
  letI ρ : Rho := rhoG7 (x :: r)
  have dl : (Tm.len gv).den.asI = (((x :: r).length : Nat) : Int) := rfl
  have hlen : (x :: r).length = r.length + 1 := rfl
  have ht : tget (x :: r) = noGot 70 := by simp only [tget, if_pos hx2]
  have dr : (Tm.ib .rem .i64 gx (.ci 2)).den.asI = 0 := by
    show (iop .rem .i64 (IntKind.i64.wrap (x.toNat : Int)) 2).asI = 0
    rw [rem64, hx2]; rfl
  exact ⟨_, sel_F (seql_F (show ¬ x :: r = [] by simp)) (sel_T (lss_T (by rw [dl, ci_asI]; omega)) (sel_T (eql_T (by rw [dr, ci_asI])) rfl)), noGot_VR _ 70 ht⟩
/-- Behind the first octet, which is odd. -/
theorem rg_pre (x : UInt8) (r : List UInt8) (hx2 : ¬ x.toNat % 2 = 0) {u : AV} (h : @Tree.sel _ (rhoG7 (x :: r)) (.fork (.sb .eql gcut (.cs [])) (gE 20) (.fork (.ib .lss .i64 (.ci 0) (.len gcut)) (.fork (.ib .eql .u8 (.ib .rem .u8 gy (.ci 2)) (.ci 0)) (.fork (.ib .lss .i64 (.len gcut) (.ci 2)) (gE 20) gO) gO) .fail)) = some u) :
    @Tree.sel _ (rhoG7 (x :: r)) rgT = some u := by
  letI ρ : Rho := rhoG7 (x :: r)
  have dl : (Tm.len gv).den.asI = (((x :: r).length : Nat) : Int) := rfl
  have hlen : (x :: r).length = r.length + 1 := rfl
  have dr : (Tm.ib .rem .i64 gx (.ci 2)).den.asI = ((x.toNat % 2 : Nat) : Int) := rem64 x
  exact sel_F (seql_F (show ¬ x :: r = [] by simp)) (sel_T (lss_T (by rw [dl, ci_asI]; omega)) (sel_F (eql_F (by rw [dr, ci_asI]; omega)) (sel_T (leq_T (by rw [dl, ci_asI]; omega)) h)))
theorem rg_one (x : UInt8) (hx2 : ¬ x.toNat % 2 = 0) : ∃ u, @Tree.sel _ (rhoG7 [x]) rgT = some u ∧ @VR (rhoG7 [x]) (fun _ => none) u (rgetV [x]) := by
  letI ρ : Rho := rhoG7 [x]
  have ht : tget [x] = noGot 20 := by simp only [tget, if_neg hx2]
  exact ⟨_, rg_pre x [] hx2 (sel_T (seql_T (cut1 x [])) rfl), noGot_VR _ 20 ht⟩
theorem rg_two (x y : UInt8) (r : List UInt8) (hl : (x :: y :: r).length ≤ 140737488355328) (hx2 : ¬ x.toNat % 2 = 0) : ∃ u, @Tree.sel _ (rhoG7 (x :: y :: r)) rgT = some u ∧ @VR (rhoG7 (x :: y :: r)) (fun _ => none) u (rgetV (x :: y :: r)) := by
  have hy := y.toNat_lt
  have hlr : r.length + 2 ≤ 140737488355328 := hl
  letI ρ : Rho := rhoG7 (x :: y :: r)
  have dcut : gcut.den.asS = y :: r := cut1 x (y :: r)
  have dl : (Tm.len gv).den.asI = ((r.length + 2 : Nat) : Int) := rfl
  have dc : (Tm.len gcut).den.asI = ((r.length + 1 : Nat) : Int) := by
    show (gcut.den.asS.length : Int) = _
    rw [dcut]; rfl
  have dy : gy.den.asI = (y.toNat : Int) := by
    show octAt gcut.den.asS 0 = _
    rw [dcut]; rfl
  have dr : (Tm.ib .rem .u8 gy (.ci 2)).den.asI = ((y.toNat % 2 : Nat) : Int) := by
    show (iop .rem .u8 gy.den.asI 2).asI = _
    rw [dy, rem2]
  have dq : gyq.den.asI = ((y.toNat / 2 : Nat) : Int) := by
    show (iop .quo .i64 (IntKind.i64.wrap gy.den.asI) 2).asI = _
    rw [dy, quo64]
  have ds : gsum.den.asI = ((2 + y.toNat / 2 : Nat) : Int) := by
    show IntKind.i64.wrap (2 + gyq.den.asI) = _
    rw [dq, w64 _ (by omega) (by omega)]; omega
  have mid : ∀ {u : AV}, (Tree.fork (.ib .eql .u8 (.ib .rem .u8 gy (.ci 2)) (.ci 0)) (.fork (.ib .lss .i64 (.len gcut) (.ci 2)) (gE 20) gO) gO).sel = some u → rgT.sel = some u := fun h =>
    rg_pre x (y :: r) hx2 (sel_F (seql_F (by rw [dcut]; show ¬ y :: r = []; simp)) (sel_T (lss_T (by rw [dc, ci_asI]; omega)) h))
  by_cases hy2 : y.toNat % 2 = 1
  · have odd : ∀ {u : AV}, gG.sel = some u → rgT.sel = some u := fun h => mid (sel_F (eql_F (by rw [dr, ci_asI]; omega)) (show gO.sel = _ from sel_T (eql_T (by rw [dr, ci_asI]; omega)) h))
    by_cases hsh : r.length < y.toNat / 2
    · have ht : tget (x :: y :: r) = noGot 20 := by simp only [tget, if_neg hx2, if_pos hy2, if_pos hsh]
      exact ⟨_, odd (show gG.sel = _ from sel_F (gtr_F (by rw [dq, ci_asI]; omega)) (sel_T (gtr_T (by rw [ds, dl]; omega)) rfl)), noGot_VR _ 20 ht⟩
    · have ht : tget (x :: y :: r) = ⟨(x.toNat / 4 : Nat), x.toNat / 2 % 2 == 1, r.take (y.toNat / 2), (2 + y.toNat / 2 : Nat), 0⟩ := by simp only [tget, if_neg hx2, if_pos hy2, if_neg hsh]
      refine ⟨gLeaf, odd (show gG.sel = _ from sel_F (gtr_F (by rw [dq, ci_asI]; omega)) (sel_F (gtr_F (by rw [ds, dl]; omega)) (sel_T (and_T (leq_T (by rw [ds, ci_asI]; omega)) (leq_T (by rw [ds, dl]; omega))) rfl))), ?_⟩
      unfold rgetV; rw [ht]
      have hcut : (Tm.cut gv (.ci 2) gsum).den.asS = r.take (y.toNat / 2) := by
        show cutS (x :: y :: r) 2 gsum.den.asI = _
        rw [ds]
        show r.take (((2 + y.toNat / 2 : Nat) : Int).toNat - (2 : Int).toNat) = r.take (y.toNat / 2)
        congr 1
        omega
      refine ⟨[_, _, _], ⟨_, _, ⟨[_, _, _], ⟨_, _, rfl, ⟨_, _, rfl, ⟨_, _, rfl, rfl, rfl⟩, rfl⟩, rfl⟩, rfl⟩, ⟨_, _, rfl, ⟨_, _, rfl, rfl, rfl⟩, rfl⟩, rfl⟩, ?_⟩
      have e1 : (Tm.wrap .u8 (.ib .quo .i64 gx (.ci 4))).den.asI = ((x.toNat / 4 : Nat) : Int) := quo4 x
      have e2 : (Tm.ib .eql .i64 (.ib .rem .i64 (.ib .quo .i64 gx (.ci 2)) (.ci 2)) (.ci 1)).den.asB = (x.toNat / 2 % 2 == 1) := bit2 x
      rw [e1, e2, hcut, ds]
  · have ht : tget (x :: y :: r) = noGot (if r = [] then 20 else 70) := by
      simp only [tget, if_neg hx2, if_neg hy2]
      cases r <;> rfl
    cases r with
    | nil => exact ⟨_, mid (sel_T (eql_T (by rw [dr, ci_asI]; omega)) (sel_T (lss_T (by rw [dc, ci_asI]; simp)) rfl)), noGot_VR _ 20 ht⟩
    | cons z r =>
      have hlz : (z :: r).length = r.length + 1 := rfl
      have hL : gL.sel = some (.tuple [.agg [.int .u8 0, .bool false, .str []], .int .i64 0, .int .i64 70]) := by
        unfold gL
        simp only [Tree.sel]
        have : (Tm.ib .lss .i64 (.ci 1) (.len gcut)).den.asB = true := lss_T (by rw [dc, ci_asI]; omega)
        rw [this]
        simp only [cond_true, Bool.cond_self]
      exact ⟨_, mid (sel_T (eql_T (by rw [dr, ci_asI]; omega)) (sel_F (lss_F (by rw [dc, ci_asI]; omega)) (show gO.sel = _ from sel_F (eql_F (by rw [dr, ci_asI]; omega)) hL))), noGot_VR _ 70 ht⟩
theorem rg_sel (s : List UInt8) (hl : s.length ≤ 140737488355328) : ∃ u, @Tree.sel _ (rhoG7 s) rgT = some u ∧ @VR (rhoG7 s) (fun _ => none) u (rgetV s) := by
  match s, hl with
  | [], _ => exact rg_nil
  | [x], _ =>
    by_cases hx2 : x.toNat % 2 = 0
    · exact rg_ev x [] hx2
    · exact rg_one x hx2
  | x :: y :: r, hl =>
    by_cases hx2 : x.toNat % 2 = 0
    · exact rg_ev x (y :: r) hx2
    · exact rg_two x y r hl hx2
theorem tlv_RGet (s : List UInt8) (hl : s.length ≤ 140737488355328) (w : World) :
    Calls Try.prog 25 #[.string ⟨s.toArray⟩] w fun e w' => e = .returned (rgetV s) ∧ RowKit.Below w.heap.size w w' := by
  letI ρ : Rho := rhoG7 s
  obtain ⟨u, h1, h2⟩ := rg_sel s hl
  exact call_val (cf := evFun Try.prog envT 1000) (evFun_ok noCount envT_ok 1000) (args := [.sstr gv]) (v := u) (by have := rgT_eq; unfold leafT at this; rw [this]; exact h1) h2 (cargs := [.string ⟨s.toArray⟩]) ⟨_, _, rfl, rfl, rfl⟩ w
end Go.Proofs.Ytamibbjpapkfeaa.Ab
