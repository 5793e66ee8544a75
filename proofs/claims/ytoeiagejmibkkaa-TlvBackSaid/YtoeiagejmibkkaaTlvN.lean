/-
  TlvPut, TlvBack, called: each returns true and makes at most new blocks.
  Conditions: arguments as the model reads them.
-/
import Derived.Test.YtoeiagejmibkkaaTlvM
namespace Go.Proofs.Ytoeiagejmibkkaa.Ab
set_option linter.unusedSimpArgs false
set_option linter.unusedVariables false
open Go
def lputTree : Tree AV := Tree.fork (Tm.ib BinOp.gtr IntKind.i64 (Tm.var 2).len (Tm.ci 400)) (Tree.leaf (AV.bool true)) (Tree.fork (((Tm.ib BinOp.leq IntKind.u8 (Tm.ci 0) (Tm.var 0)).and (Tm.ib BinOp.leq IntKind.u8 (Tm.var 0) (Tm.ci 255))).and (Tm.ib BinOp.leq IntKind.i64 (Tm.var 2).len (Tm.ci 1000))) (Tree.leaf (AV.bool true)) Tree.fail)
def lbackTree : Tree AV := Tree.fork (Tm.ib BinOp.gtr IntKind.i64 (Tm.var 2).len (Tm.ci 400)) (Tree.leaf (AV.bool true)) (Tree.fork (Tm.ib BinOp.gtr IntKind.i64 (Tm.var 3).len (Tm.ci 300)) (Tree.leaf (AV.bool true)) (Tree.fork (((Tm.ib BinOp.leq IntKind.u8 (Tm.ci 0) (Tm.var 0)).and (Tm.ib BinOp.leq IntKind.u8 (Tm.var 0) (Tm.ci 255))).and (Tm.ib BinOp.leq IntKind.i64 (Tm.var 2).len (Tm.ci 1000))) (Tree.fork (Tm.ib BinOp.eql IntKind.i64 (Tm.app 1 ((Tm.var 0).pair ((Tm.var 1).pair (Tm.var 2)))) (Tm.ci 0)) (Tree.fork (Tm.ib BinOp.leq IntKind.i64 ((Tm.app 0 ((Tm.var 0).pair ((Tm.var 1).pair (Tm.var 2)))).len.plus (Tm.var 3).len) (Tm.ci 9223372036854775807)) (Tree.fork (Tm.ib BinOp.leq IntKind.i64 (Tm.sb BinOp.add (Tm.app 0 ((Tm.var 0).pair ((Tm.var 1).pair (Tm.var 2)))) (Tm.var 3)).len (Tm.ci 1000)) (Tree.fork (Tm.ib BinOp.neq IntKind.i64 (Tm.app 6 (Tm.sb BinOp.add (Tm.app 0 ((Tm.var 0).pair ((Tm.var 1).pair (Tm.var 2)))) (Tm.var 3))) (Tm.ci 0)) (Tree.leaf (AV.bool false)) (Tree.fork (Tm.ib BinOp.neq IntKind.u8 (Tm.app 2 (Tm.sb BinOp.add (Tm.app 0 ((Tm.var 0).pair ((Tm.var 1).pair (Tm.var 2)))) (Tm.var 3))) (Tm.var 0)) (Tree.leaf (AV.bool false)) (Tree.fork ((Tm.app 3 (Tm.sb BinOp.add (Tm.app 0 ((Tm.var 0).pair ((Tm.var 1).pair (Tm.var 2)))) (Tm.var 3))).beq (Tm.var 1)).not (Tree.leaf (AV.bool false)) (Tree.fork (Tm.sb BinOp.neq (Tm.app 4 (Tm.sb BinOp.add (Tm.app 0 ((Tm.var 0).pair ((Tm.var 1).pair (Tm.var 2)))) (Tm.var 3))) (Tm.var 2)) (Tree.leaf (AV.bool false)) (Tree.fork (Tm.ib BinOp.neq IntKind.i64 (Tm.app 5 (Tm.sb BinOp.add (Tm.app 0 ((Tm.var 0).pair ((Tm.var 1).pair (Tm.var 2)))) (Tm.var 3))) (Tm.app 0 ((Tm.var 0).pair ((Tm.var 1).pair (Tm.var 2)))).len) (Tree.leaf (AV.bool false)) (Tree.fork (Tm.ib BinOp.leq IntKind.i64 (Tm.var 3).len (Tm.ci 1000)) (Tree.fork (Tm.ib BinOp.neq IntKind.i64 (Tm.app 6 (Tm.var 3)) (Tm.ci 0)) (Tree.fork (Tm.ib BinOp.eql IntKind.i64 (Tm.app 6 (Tm.var 3)) (Tm.ci 20)) (Tree.leaf (AV.bool true)) (Tree.fork (Tm.ib BinOp.eql IntKind.i64 (Tm.app 6 (Tm.var 3)) (Tm.ci 70)) (Tree.leaf (AV.bool true)) (Tree.leaf (AV.bool false)))) (Tree.fork (((Tm.ib BinOp.leq IntKind.u8 (Tm.ci 0) (Tm.app 2 (Tm.var 3))).and (Tm.ib BinOp.leq IntKind.u8 (Tm.app 2 (Tm.var 3)) (Tm.ci 255))).and (Tm.ib BinOp.leq IntKind.i64 (Tm.app 4 (Tm.var 3)).len (Tm.ci 1000))) (Tree.fork (Tm.ib BinOp.eql IntKind.i64 (Tm.app 1 ((Tm.app 2 (Tm.var 3)).pair ((Tm.app 3 (Tm.var 3)).pair (Tm.app 4 (Tm.var 3))))) (Tm.ci 0)) (Tree.fork (Tm.ib BinOp.geq IntKind.i64 (Tm.app 5 (Tm.var 3)) (Tm.ci 2)) (Tree.fork (Tm.ib BinOp.leq IntKind.i64 (Tm.app 5 (Tm.var 3)) (Tm.var 3).len) (Tree.fork ((Tm.ib BinOp.leq IntKind.i64 (Tm.ci 0) (Tm.app 5 (Tm.var 3))).and (Tm.ib BinOp.leq IntKind.i64 (Tm.app 5 (Tm.var 3)) (Tm.var 3).len)) (Tree.fork (Tm.sb BinOp.eql (Tm.app 0 ((Tm.app 2 (Tm.var 3)).pair ((Tm.app 3 (Tm.var 3)).pair (Tm.app 4 (Tm.var 3))))) ((Tm.var 3).cut (Tm.ci 0) (Tm.app 5 (Tm.var 3)))) (Tree.leaf (AV.bool true)) (Tree.leaf (AV.bool false))) Tree.fail) (Tree.leaf (AV.bool false))) (Tree.leaf (AV.bool false))) (Tree.leaf (AV.bool false))) Tree.fail)) Tree.fail)))))) Tree.fail) Tree.fail) (Tree.fork (Tm.ib BinOp.leq IntKind.i64 (Tm.var 3).len (Tm.ci 1000)) (Tree.fork (Tm.ib BinOp.neq IntKind.i64 (Tm.app 6 (Tm.var 3)) (Tm.ci 0)) (Tree.fork (Tm.ib BinOp.eql IntKind.i64 (Tm.app 6 (Tm.var 3)) (Tm.ci 20)) (Tree.leaf (AV.bool true)) (Tree.fork (Tm.ib BinOp.eql IntKind.i64 (Tm.app 6 (Tm.var 3)) (Tm.ci 70)) (Tree.leaf (AV.bool true)) (Tree.leaf (AV.bool false)))) (Tree.fork (((Tm.ib BinOp.leq IntKind.u8 (Tm.ci 0) (Tm.app 2 (Tm.var 3))).and (Tm.ib BinOp.leq IntKind.u8 (Tm.app 2 (Tm.var 3)) (Tm.ci 255))).and (Tm.ib BinOp.leq IntKind.i64 (Tm.app 4 (Tm.var 3)).len (Tm.ci 1000))) (Tree.fork (Tm.ib BinOp.eql IntKind.i64 (Tm.app 1 ((Tm.app 2 (Tm.var 3)).pair ((Tm.app 3 (Tm.var 3)).pair (Tm.app 4 (Tm.var 3))))) (Tm.ci 0)) (Tree.fork (Tm.ib BinOp.geq IntKind.i64 (Tm.app 5 (Tm.var 3)) (Tm.ci 2)) (Tree.fork (Tm.ib BinOp.leq IntKind.i64 (Tm.app 5 (Tm.var 3)) (Tm.var 3).len) (Tree.fork ((Tm.ib BinOp.leq IntKind.i64 (Tm.ci 0) (Tm.app 5 (Tm.var 3))).and (Tm.ib BinOp.leq IntKind.i64 (Tm.app 5 (Tm.var 3)) (Tm.var 3).len)) (Tree.fork (Tm.sb BinOp.eql (Tm.app 0 ((Tm.app 2 (Tm.var 3)).pair ((Tm.app 3 (Tm.var 3)).pair (Tm.app 4 (Tm.var 3))))) ((Tm.var 3).cut (Tm.ci 0) (Tm.app 5 (Tm.var 3)))) (Tree.leaf (AV.bool true)) (Tree.leaf (AV.bool false))) Tree.fail) (Tree.leaf (AV.bool false))) (Tree.leaf (AV.bool false))) (Tree.leaf (AV.bool false))) Tree.fail)) Tree.fail)) Tree.fail))
set_option maxRecDepth 100000 in
theorem lput_tree : evFun Try.prog envM 1000 3 [.sint .u8 (.var 0), .sbool (.var 1), .sstr (.var 2)] heap0 (fun v _ => .leaf v) = lputTree := by kernel_rfl
set_option maxRecDepth 100000 in
theorem lback_tree : evFun Try.prog envM 1000 4 [.sint .u8 (.var 0), .sbool (.var 1), .sstr (.var 2), .sstr (.var 3)] heap0 (fun v _ => .leaf v) = lbackTree := by kernel_rfl
section
variable {ρ : Rho}
theorem ok_fork (c : Tm) (x y : Tree AV) : (Tree.fork c x y).ok ↔ (c.den.asB = true → x.ok) ∧ (c.den.asB = false → y.ok) := Iff.rfl
theorem ok_true : (Tree.leaf (.bool true)).ok := ⟨.cb true, rfl, rfl⟩
theorem ok_false : ¬ (Tree.leaf (.bool false)).ok := fun ⟨t, h1, h2⟩ => by cases h1; cases h2
theorem ok_fail : ¬ Tree.fail.ok := fun h => h
theorem den_ib (op : BinOp) (k : IntKind) (x y : Tm) : (Tm.ib op k x y).den = iop op k x.den.asI y.den.asI := rfl
theorem den_sb (op : BinOp) (x y : Tm) : (Tm.sb op x y).den = sop op x.den.asS y.den.asS := rfl
theorem den_not (x : Tm) : (Tm.not x).den = .dB (!x.den.asB) := rfl
theorem den_and (x y : Tm) : (Tm.and x y).den = .dB (x.den.asB && y.den.asB) := rfl
theorem den_beq (x y : Tm) : (Tm.beq x y).den = .dB (x.den.asB == y.den.asB) := rfl
theorem den_len (x : Tm) : (Tm.len x).den = .dI (x.den.asS.length : Int) := rfl
theorem den_ci (n : Int) : (Tm.ci n).den = .dI n := rfl
theorem den_cb (n : Bool) : (Tm.cb n).den = .dB n := rfl
theorem den_cs (n : List UInt8) : (Tm.cs n).den = .dS n := rfl
theorem den_plus (x y : Tm) : (Tm.plus x y).den = .dI (x.den.asI + y.den.asI) := rfl
theorem den_pair (x y : Tm) : (Tm.pair x y).den = .dP x.den y.den := rfl
theorem den_cut (x lo hi : Tm) : (Tm.cut x lo hi).den = .dS (cutS x.den.asS lo.den.asI hi.den.asI) := rfl
end
set_option maxHeartbeats 4000000 in
theorem lput_ok (k : Int) (c : Bool) (v : List UInt8) (k0 : 0 ≤ k) (k1 : k ≤ 255) : @Tree.ok (rhoL [.dI k, .dB c, .dS v]) lputTree := by
  letI ρ : Rho := rhoL [.dI k, .dB c, .dS v]
  have V0 : (Tm.var 0).den = .dI k := rfl
  have V1 : (Tm.var 1).den = .dB c := rfl
  have V2 : (Tm.var 2).den = .dS v := rfl
  show lputTree.ok
  unfold lputTree
  simp only [ok_fork, ok_true, ok_false, ok_fail, den_ib, den_and, den_len, den_ci, V0, V1, V2, iop, asI_I, asB_B, asS_S]
  simp
  omega
set_option maxHeartbeats 4000000 in
theorem lback_ok (k : Int) (c : Bool) (v b : List UInt8) (k0 : 0 ≤ k) (k1 : k ≤ 255) : @Tree.ok (rhoL [.dI k, .dB c, .dS v, .dS b]) lbackTree := by
  letI ρ : Rho := rhoL [.dI k, .dB c, .dS v, .dS b]
  have V0 : (Tm.var 0).den = .dI k := rfl
  have V1 : (Tm.var 1).den = .dB c := rfl
  have V2 : (Tm.var 2).den = .dS v := rfl
  have V3 : (Tm.var 3).den = .dS b := rfl
  have A : ∀ f x, (Tm.app f x).den = tlvFn f x.den := fun _ _ => rfl
  show lbackTree.ok
  unfold lbackTree
  simp only [ok_fork, ok_true, ok_false, ok_fail, den_ib, den_sb, den_not, den_and, den_beq, den_len, den_ci, den_plus, den_pair, den_cut, V0, V1, V2, V3, A, tlvFn, iop, sop, asI_I, asB_B, asS_S]
  have hp := tget_tput k c v b k0
  have hl := tput_len k c v
  have hg := tput_tget b
  clear V0 V1 V2 V3 A
  by_cases h400 : (v.length : Int) > 400
  · simp [h400]
  by_cases h300 : (b.length : Int) > 300
  · simp [h300]
  have e1 : (v.length : Int) ≤ 1000 := by omega
  have e2 : (b.length : Int) ≤ 1000 := by omega
  have e3 : ((tput k c v).1.length : Int) + (b.length : Int) ≤ 9223372036854775807 := by omega
  have e4 : (((tput k c v).1 ++ b).length : Int) ≤ 1000 := by rw [List.length_append]; omega
  have e5 : k ≤ 255 := k1
  have hcut : ∀ n : Int, cutS b 0 n = b.take n.toNat := fun n => by simp [cutS]
  simp only [hcut]
  by_cases hz : (tput k c v).2 = 0
  · have hp' := hp hz
    have e6 : ((tput k c v).1.length : Int) + (b.length : Int) ≤ 1000 := by omega
    rcases hg with (hg | hg) | ⟨g0, g1, g2, g3, g4, g5, g6⟩
    · simp [*, noGot]
    · simp [*, noGot]
    · have g2' : (tget b).k ≤ 255 := by omega
      have g3' : ((tget b).v.length : Int) ≤ 1000 := by omega
      have g4' : (0 : Int) ≤ (tget b).n := by omega
      simp [*]
  · rcases hg with (hg | hg) | ⟨g0, g1, g2, g3, g4, g5, g6⟩
    · simp [*, noGot]
    · simp [*, noGot]
    · have g2' : (tget b).k ≤ 255 := by omega
      have g3' : ((tget b).v.length : Int) ≤ 1000 := by omega
      have g4' : (0 : Int) ≤ (tget b).n := by omega
      simp [*]
theorem tlvPut_w (k : Int) (c : Bool) (v : List UInt8) (k0 : 0 ≤ k) (k1 : k ≤ 255) (w : World) : Calls Try.prog 3 #[.int .u8 k, .bool c, .string ⟨v.toArray⟩] w fun e w' => e = .returned (.bool true) ∧ RowKit.Below w.heap.size w w' := by
  letI ρ : Rho := rhoL [.dI k, .dB c, .dS v]
  exact call_true (evFun_ok noCount (envM_ok rfl) 1000) (args := [.sint .u8 (.var 0), .sbool (.var 1), .sstr (.var 2)]) (by rw [lput_tree]; exact lput_ok k c v k0 k1) (cargs := [.int .u8 k, .bool c, .string ⟨v.toArray⟩]) ⟨_, _, rfl, ⟨_, _, rfl, ⟨_, _, rfl, rfl, rfl⟩, rfl⟩, rfl⟩ w
theorem tlvBack_w (k : Int) (c : Bool) (v b : List UInt8) (k0 : 0 ≤ k) (k1 : k ≤ 255) (w : World) : Calls Try.prog 4 #[.int .u8 k, .bool c, .string ⟨v.toArray⟩, .string ⟨b.toArray⟩] w fun e w' => e = .returned (.bool true) ∧ RowKit.Below w.heap.size w w' := by
  letI ρ : Rho := rhoL [.dI k, .dB c, .dS v, .dS b]
  exact call_true (evFun_ok noCount (envM_ok rfl) 1000) (args := [.sint .u8 (.var 0), .sbool (.var 1), .sstr (.var 2), .sstr (.var 3)]) (by rw [lback_tree]; exact lback_ok k c v b k0 k1) (cargs := [.int .u8 k, .bool c, .string ⟨v.toArray⟩, .string ⟨b.toArray⟩]) ⟨_, _, rfl, ⟨_, _, rfl, ⟨_, _, rfl, ⟨_, _, rfl, rfl, rfl⟩, rfl⟩, rfl⟩, rfl⟩ w
end Go.Proofs.Ytoeiagejmibkkaa.Ab
namespace Go.Proofs.Ytoeiagejmibkkaa
open Go
theorem tlvPut_walk (k : Int) (wk : (Lit.int .u8 k).wf = true) (c : Bool) (v : List UInt8) (_hv : v.length ≤ maxLen) (w : World) : Calls Try.prog 3 #[.int .u8 k, .bool c, .string ⟨v.toArray⟩] w fun e w' => e = .returned (.bool true) ∧ RowKit.Below w.heap.size w w' := Ab.tlvPut_w k c v (wf8 wk).1 (wf8 wk).2 w
theorem tlvBack_walk (k : Int) (wk : (Lit.int .u8 k).wf = true) (c : Bool) (v : List UInt8) (_hv : v.length ≤ maxLen) (b : List UInt8) (_hb : b.length ≤ maxLen) (w : World) : Calls Try.prog 4 #[.int .u8 k, .bool c, .string ⟨v.toArray⟩, .string ⟨b.toArray⟩] w fun e w' => e = .returned (.bool true) ∧ RowKit.Below w.heap.size w w' := Ab.tlvBack_w k c v b (wf8 wk).1 (wf8 wk).2 w
end Go.Proofs.Ytoeiagejmibkkaa
