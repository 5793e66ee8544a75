/-
  MscPut, MscBits, MscBack, called: each returns true and makes at most new blocks.
  Conditions: arguments as the model reads them.
-/
import Derived.Test.YtmnflfjcfkblbaaMscE
namespace Go.Proofs.Ytmnflfjcfkblbaa.Ab
set_option linter.unusedSimpArgs false
set_option linter.unusedVariables false
open Go
abbrev stB (n : Nat) : AV := .agg [.sint .u8 (.var n), .sbool (.var (n+1)), .sbool (.var (n+2)), .sbool (.var (n+3)), .sbool (.var (n+4)), .sbool (.var (n+5)), .sbool (.var (n+6)), .sint .u8 (.var (n+7))]
abbrev pairT (n : Nat) : Tm := (Tm.var n).pair ((Tm.var (n+1)).pair ((Tm.var (n+2)).pair ((Tm.var (n+3)).pair ((Tm.var (n+4)).pair ((Tm.var (n+5)).pair ((Tm.var (n+6)).pair (Tm.var (n+7))))))))
abbrev gotT (v : Tm) : Tm := (Tm.app 3 v).pair ((Tm.app 4 v).pair ((Tm.app 5 v).pair ((Tm.app 6 v).pair ((Tm.app 7 v).pair ((Tm.app 8 v).pair ((Tm.app 9 v).pair (Tm.app 10 v)))))))
def leafT : AV → Heap → Tree AV := fun v _ => .leaf v
def putTree : Tree AV := Tree.fork (((Tm.ib BinOp.leq IntKind.u8 (Tm.ci 0) (Tm.var 0)).and (Tm.ib BinOp.leq IntKind.u8 (Tm.var 0) (Tm.ci 255))).and ((Tm.ib BinOp.leq IntKind.u8 (Tm.ci 0) (Tm.var 7)).and (Tm.ib BinOp.leq IntKind.u8 (Tm.var 7) (Tm.ci 255)))) (Tree.leaf (AV.bool true)) Tree.fail
def bitsTree : Tree AV := Tree.fork (Tm.ib BinOp.eql IntKind.u8 (Tm.ib BinOp.xor IntKind.u8 (Tm.app 2 (pairT 0)) (Tm.app 2 ((Tm.var 0).pair ((Tm.var 1).not.pair ((Tm.var 2).pair ((Tm.var 3).pair ((Tm.var 4).pair ((Tm.var 5).pair ((Tm.var 6).pair (Tm.var 7)))))))))) (Tm.ci 2)) (Tree.fork (Tm.ib BinOp.eql IntKind.u8 (Tm.ib BinOp.xor IntKind.u8 (Tm.app 2 (pairT 0)) (Tm.app 2 ((Tm.var 0).pair ((Tm.var 1).pair ((Tm.var 2).not.pair ((Tm.var 3).pair ((Tm.var 4).pair ((Tm.var 5).pair ((Tm.var 6).pair (Tm.var 7)))))))))) (Tm.ci 4)) (Tree.fork (Tm.ib BinOp.eql IntKind.u8 (Tm.ib BinOp.xor IntKind.u8 (Tm.app 2 (pairT 0)) (Tm.app 2 ((Tm.var 0).pair ((Tm.var 1).pair ((Tm.var 2).pair ((Tm.var 3).not.pair ((Tm.var 4).pair ((Tm.var 5).pair ((Tm.var 6).pair (Tm.var 7)))))))))) (Tm.ci 8)) (Tree.fork (Tm.ib BinOp.eql IntKind.u8 (Tm.ib BinOp.xor IntKind.u8 (Tm.app 2 (pairT 0)) (Tm.app 2 ((Tm.var 0).pair ((Tm.var 1).pair ((Tm.var 2).pair ((Tm.var 3).pair ((Tm.var 4).not.pair ((Tm.var 5).pair ((Tm.var 6).pair (Tm.var 7)))))))))) (Tm.ci 64)) (Tree.fork (Tm.ib BinOp.eql IntKind.u8 (Tm.ib BinOp.xor IntKind.u8 (Tm.app 2 (pairT 0)) (Tm.app 2 ((Tm.var 0).pair ((Tm.var 1).pair ((Tm.var 2).pair ((Tm.var 3).pair ((Tm.var 4).pair ((Tm.var 5).not.pair ((Tm.var 6).pair (Tm.var 7)))))))))) (Tm.ci 128)) (Tree.fork (Tm.ib BinOp.eql IntKind.u8 (Tm.ib BinOp.and IntKind.u8 (Tm.app 2 (pairT 0)) (Tm.ci 49)) (Tm.ci 1)) (Tree.leaf (AV.bool true)) (Tree.leaf (AV.bool false))) (Tree.leaf (AV.bool false))) (Tree.leaf (AV.bool false))) (Tree.leaf (AV.bool false))) (Tree.leaf (AV.bool false))) (Tree.leaf (AV.bool false))
def backTree : Tree AV := Tree.fork (Tm.ib BinOp.gtr IntKind.i64 (Tm.var 16).len (Tm.ci 50)) (Tree.leaf (AV.bool true)) (Tree.fork (((Tm.ib BinOp.leq IntKind.u8 (Tm.ci 0) (Tm.var 0)).and (Tm.ib BinOp.leq IntKind.u8 (Tm.var 0) (Tm.ci 255))).and ((Tm.ib BinOp.leq IntKind.u8 (Tm.ci 0) (Tm.var 7)).and (Tm.ib BinOp.leq IntKind.u8 (Tm.var 7) (Tm.ci 255)))) (Tree.fork (((Tm.ib BinOp.leq IntKind.u8 (Tm.ci 0) (Tm.var 8)).and (Tm.ib BinOp.leq IntKind.u8 (Tm.var 8) (Tm.ci 255))).and ((Tm.ib BinOp.leq IntKind.u8 (Tm.ci 0) (Tm.var 15)).and (Tm.ib BinOp.leq IntKind.u8 (Tm.var 15) (Tm.ci 255)))) (Tree.fork (Tm.ib BinOp.eql IntKind.i64 (Tm.app 1 (pairT 0)) (Tm.ci 0)) (Tree.fork (Tm.ib BinOp.leq IntKind.i64 (Tm.app 0 (pairT 0)).len (Tm.ci 1000)) (Tree.fork (Tm.ib BinOp.neq IntKind.i64 (Tm.app 11 (Tm.app 0 (pairT 0))) (Tm.ci 0)) (Tree.leaf (AV.bool false)) (Tree.fork ((Tm.ib BinOp.eql IntKind.u8 (Tm.app 3 (Tm.app 0 (pairT 0))) (Tm.var 0)).and (((Tm.app 4 (Tm.app 0 (pairT 0))).beq (Tm.var 1)).and (((Tm.app 5 (Tm.app 0 (pairT 0))).beq (Tm.var 2)).and (((Tm.app 6 (Tm.app 0 (pairT 0))).beq (Tm.var 3)).and (((Tm.app 7 (Tm.app 0 (pairT 0))).beq (Tm.var 4)).and (((Tm.app 8 (Tm.app 0 (pairT 0))).beq (Tm.var 5)).and (((Tm.app 9 (Tm.app 0 (pairT 0))).beq (Tm.var 6)).and (Tm.ib BinOp.eql IntKind.u8 (Tm.app 10 (Tm.app 0 (pairT 0))) (Tm.var 7))))))))).not (Tree.leaf (AV.bool false)) (Tree.fork (Tm.ib BinOp.eql IntKind.i64 (Tm.app 1 (pairT 8)) (Tm.ci 0)) (Tree.fork ((Tm.sb BinOp.eql (Tm.app 0 (pairT 0)) (Tm.app 0 (pairT 8))).beq ((Tm.ib BinOp.eql IntKind.u8 (Tm.var 0) (Tm.var 8)).and (((Tm.var 1).beq (Tm.var 9)).and (((Tm.var 2).beq (Tm.var 10)).and (((Tm.var 3).beq (Tm.var 11)).and (((Tm.var 4).beq (Tm.var 12)).and (((Tm.var 5).beq (Tm.var 13)).and (((Tm.var 6).beq (Tm.var 14)).and (Tm.ib BinOp.eql IntKind.u8 (Tm.var 7) (Tm.var 15)))))))))).not (Tree.leaf (AV.bool false)) (Tree.fork (Tm.ib BinOp.leq IntKind.i64 (Tm.var 16).len (Tm.ci 1000)) (Tree.fork (Tm.ib BinOp.neq IntKind.i64 (Tm.app 11 (Tm.var 16)) (Tm.ci 0)) (Tree.fork ((Tm.ib BinOp.eql IntKind.u8 (Tm.app 3 (Tm.var 16)) (Tm.ci 0)).and (((Tm.app 4 (Tm.var 16)).beq (Tm.cb false)).and (((Tm.app 5 (Tm.var 16)).beq (Tm.cb false)).and (((Tm.app 6 (Tm.var 16)).beq (Tm.cb false)).and (((Tm.app 7 (Tm.var 16)).beq (Tm.cb false)).and (((Tm.app 8 (Tm.var 16)).beq (Tm.cb false)).and (((Tm.app 9 (Tm.var 16)).beq (Tm.cb false)).and (Tm.ib BinOp.eql IntKind.u8 (Tm.app 10 (Tm.var 16)) (Tm.ci 0))))))))) (Tree.leaf (AV.bool true)) (Tree.leaf (AV.bool false))) (Tree.fork (((Tm.ib BinOp.leq IntKind.u8 (Tm.ci 0) (Tm.app 3 (Tm.var 16))).and (Tm.ib BinOp.leq IntKind.u8 (Tm.app 3 (Tm.var 16)) (Tm.ci 255))).and ((Tm.ib BinOp.leq IntKind.u8 (Tm.ci 0) (Tm.app 10 (Tm.var 16))).and (Tm.ib BinOp.leq IntKind.u8 (Tm.app 10 (Tm.var 16)) (Tm.ci 255)))) (Tree.fork (Tm.ib BinOp.eql IntKind.i64 (Tm.app 1 (gotT (Tm.var 16))) (Tm.ci 0)) (Tree.fork (Tm.sb BinOp.eql (Tm.app 0 (gotT (Tm.var 16))) (Tm.var 16)) (Tree.leaf (AV.bool true)) (Tree.leaf (AV.bool false))) (Tree.leaf (AV.bool false))) Tree.fail)) Tree.fail)) (Tree.fork (Tm.ib BinOp.leq IntKind.i64 (Tm.var 16).len (Tm.ci 1000)) (Tree.fork (Tm.ib BinOp.neq IntKind.i64 (Tm.app 11 (Tm.var 16)) (Tm.ci 0)) (Tree.fork ((Tm.ib BinOp.eql IntKind.u8 (Tm.app 3 (Tm.var 16)) (Tm.ci 0)).and (((Tm.app 4 (Tm.var 16)).beq (Tm.cb false)).and (((Tm.app 5 (Tm.var 16)).beq (Tm.cb false)).and (((Tm.app 6 (Tm.var 16)).beq (Tm.cb false)).and (((Tm.app 7 (Tm.var 16)).beq (Tm.cb false)).and (((Tm.app 8 (Tm.var 16)).beq (Tm.cb false)).and (((Tm.app 9 (Tm.var 16)).beq (Tm.cb false)).and (Tm.ib BinOp.eql IntKind.u8 (Tm.app 10 (Tm.var 16)) (Tm.ci 0))))))))) (Tree.leaf (AV.bool true)) (Tree.leaf (AV.bool false))) (Tree.fork (((Tm.ib BinOp.leq IntKind.u8 (Tm.ci 0) (Tm.app 3 (Tm.var 16))).and (Tm.ib BinOp.leq IntKind.u8 (Tm.app 3 (Tm.var 16)) (Tm.ci 255))).and ((Tm.ib BinOp.leq IntKind.u8 (Tm.ci 0) (Tm.app 10 (Tm.var 16))).and (Tm.ib BinOp.leq IntKind.u8 (Tm.app 10 (Tm.var 16)) (Tm.ci 255)))) (Tree.fork (Tm.ib BinOp.eql IntKind.i64 (Tm.app 1 (gotT (Tm.var 16))) (Tm.ci 0)) (Tree.fork (Tm.sb BinOp.eql (Tm.app 0 (gotT (Tm.var 16))) (Tm.var 16)) (Tree.leaf (AV.bool true)) (Tree.leaf (AV.bool false))) (Tree.leaf (AV.bool false))) Tree.fail)) Tree.fail)))) Tree.fail) (Tree.fork (Tm.ib BinOp.leq IntKind.i64 (Tm.var 16).len (Tm.ci 1000)) (Tree.fork (Tm.ib BinOp.neq IntKind.i64 (Tm.app 11 (Tm.var 16)) (Tm.ci 0)) (Tree.fork ((Tm.ib BinOp.eql IntKind.u8 (Tm.app 3 (Tm.var 16)) (Tm.ci 0)).and (((Tm.app 4 (Tm.var 16)).beq (Tm.cb false)).and (((Tm.app 5 (Tm.var 16)).beq (Tm.cb false)).and (((Tm.app 6 (Tm.var 16)).beq (Tm.cb false)).and (((Tm.app 7 (Tm.var 16)).beq (Tm.cb false)).and (((Tm.app 8 (Tm.var 16)).beq (Tm.cb false)).and (((Tm.app 9 (Tm.var 16)).beq (Tm.cb false)).and (Tm.ib BinOp.eql IntKind.u8 (Tm.app 10 (Tm.var 16)) (Tm.ci 0))))))))) (Tree.leaf (AV.bool true)) (Tree.leaf (AV.bool false))) (Tree.fork (((Tm.ib BinOp.leq IntKind.u8 (Tm.ci 0) (Tm.app 3 (Tm.var 16))).and (Tm.ib BinOp.leq IntKind.u8 (Tm.app 3 (Tm.var 16)) (Tm.ci 255))).and ((Tm.ib BinOp.leq IntKind.u8 (Tm.ci 0) (Tm.app 10 (Tm.var 16))).and (Tm.ib BinOp.leq IntKind.u8 (Tm.app 10 (Tm.var 16)) (Tm.ci 255)))) (Tree.fork (Tm.ib BinOp.eql IntKind.i64 (Tm.app 1 (gotT (Tm.var 16))) (Tm.ci 0)) (Tree.fork (Tm.sb BinOp.eql (Tm.app 0 (gotT (Tm.var 16))) (Tm.var 16)) (Tree.leaf (AV.bool true)) (Tree.leaf (AV.bool false))) (Tree.leaf (AV.bool false))) Tree.fail)) Tree.fail)) Tree.fail) Tree.fail)
set_option maxRecDepth 100000 in
theorem put_tree : evFun Try.prog envM 1000 7 [stB 0] heap0 leafT = putTree := by kernel_rfl
set_option maxRecDepth 100000 in
theorem bits_tree : evFun Try.prog envM 1000 10 [stB 0] heap0 leafT = bitsTree := by kernel_rfl
set_option maxRecDepth 100000 in
theorem back_tree : evFun Try.prog envM 1000 9 [stB 0, stB 8, .sstr (.var 16)] heap0 leafT = backTree := by kernel_rfl
abbrev stD (s : Stat) : List Dat := [.dI s.d, .dB s.fc, .dB s.rtc, .dB s.rtr, .dB s.ic, .dB s.dv, .dB s.hb, .dI s.br]
theorem stB_VR {ρ : Rho} (n : Nat) (s : Stat) (h0 : ρ.val n = .dI s.d) (h1 : ρ.val (n+1) = .dB s.fc) (h2 : ρ.val (n+2) = .dB s.rtc) (h3 : ρ.val (n+3) = .dB s.rtr) (h4 : ρ.val (n+4) = .dB s.ic) (h5 : ρ.val (n+5) = .dB s.dv) (h6 : ρ.val (n+6) = .dB s.hb) (h7 : ρ.val (n+7) = .dI s.br) : VR (fun _ => none) (stB n) (statV s) := by
  refine ⟨[_, _, _, _, _, _, _, _], ⟨_, _, ?_, ⟨_, _, ?_, ⟨_, _, ?_, ⟨_, _, ?_, ⟨_, _, ?_, ⟨_, _, ?_, ⟨_, _, ?_, ⟨_, _, ?_, rfl, rfl⟩, rfl⟩, rfl⟩, rfl⟩, rfl⟩, rfl⟩, rfl⟩, rfl⟩, rfl⟩
  all_goals
    show _ = _
    simp only [Tm.den, h0, h1, h2, h3, h4, h5, h6, h7, Dat.asI, Dat.asB]
theorem leq_true {k : IntKind} {a b : Tm} [Rho] (h : a.den.asI ≤ b.den.asI) : (Tm.ib .leq k a b).den.asB = true := by simpa [Tm.den, iop, Dat.asB] using h
theorem and_true' {a b : Tm} [Rho] (h : a.den.asB = true) (k : b.den.asB = true) : (Tm.and a b).den.asB = true := by
  show (a.den.asB && b.den.asB) = true
  rw [h, k]; rfl

theorem mscPut_w (d : Int) (d0 : 0 ≤ d) (d1 : d ≤ 255) (fc rtc rtr ic dv hb : Bool) (br : Int) (b0 : 0 ≤ br) (b1 : br ≤ 255) (w : World) :
    Calls Try.prog 7 #[statV ⟨d, fc, rtc, rtr, ic, dv, hb, br⟩] w fun e w' => e = .returned (.bool true) ∧ RowKit.Below w.heap.size w w' := by
  letI ρ : Rho := rhoM (stD ⟨d, fc, rtc, rtr, ic, dv, hb, br⟩)
  refine call_true (evFun_ok noCount (envM_ok rfl) 1000) (args := [stB 0]) ?_ (cargs := [statV ⟨d, fc, rtc, rtr, ic, dv, hb, br⟩]) ⟨_, _, stB_VR 0 _ rfl rfl rfl rfl rfl rfl rfl rfl, rfl, rfl⟩ w
  have := put_tree
  unfold leafT at this
  rw [this]
  exact ⟨fun _ => ⟨.cb true, rfl, rfl⟩, fun h => by rw [and_true' (and_true' (leq_true (a := .ci 0) (b := .var 0) d0) (leq_true (a := .var 0) (b := .ci 255) d1)) (and_true' (leq_true (a := .ci 0) (b := .var 7) b0) (leq_true (a := .var 7) (b := .ci 255) b1))] at h; cases h⟩

theorem bits_sel (d : Int) (fc rtc rtr ic dv hb : Bool) (br : Int) : @Tree.sel AV (rhoM (stD ⟨d, fc, rtc, rtr, ic, dv, hb, br⟩)) bitsTree = some (.bool true) := by
  cases fc <;> cases rtc <;> cases rtr <;> cases ic <;> cases dv <;> kernel_rfl
theorem mscBits_w (d : Int) (d0 : 0 ≤ d) (d1 : d ≤ 255) (fc rtc rtr ic dv hb : Bool) (br : Int) (b0 : 0 ≤ br) (b1 : br ≤ 255) (w : World) :
    Calls Try.prog 10 #[statV ⟨d, fc, rtc, rtr, ic, dv, hb, br⟩] w fun e w' => e = .returned (.bool true) ∧ RowKit.Below w.heap.size w w' := by
  letI ρ : Rho := rhoM (stD ⟨d, fc, rtc, rtr, ic, dv, hb, br⟩)
  refine call_bool (evFun_ok noCount (envM_ok rfl) 1000) (args := [stB 0]) ?_ (cargs := [statV ⟨d, fc, rtc, rtr, ic, dv, hb, br⟩]) ⟨_, _, stB_VR 0 _ rfl rfl rfl rfl rfl rfl rfl rfl, rfl, rfl⟩ w
  have := bits_tree
  unfold leafT at this
  rw [this]
  exact bits_sel d fc rtc rtr ic dv hb br
end Go.Proofs.Ytmnflfjcfkblbaa.Ab
namespace Go.Proofs.Ytmnflfjcfkblbaa
open Go
theorem mscPut_walk (d : Int) (wd : (Lit.int .u8 d).wf = true) (fc rtc rtr ic dv hb : Bool) (br : Int) (wb : (Lit.int .u8 br).wf = true) (w : World) :
    Calls Try.prog 7 #[statV ⟨d, fc, rtc, rtr, ic, dv, hb, br⟩] w fun e w' => e = .returned (.bool true) ∧ RowKit.Below w.heap.size w w' :=
  Ab.mscPut_w d (wf8 wd).1 (wf8 wd).2 fc rtc rtr ic dv hb br (wf8 wb).1 (wf8 wb).2 w
theorem mscBits_walk (d : Int) (wd : (Lit.int .u8 d).wf = true) (fc rtc rtr ic dv hb : Bool) (br : Int) (wb : (Lit.int .u8 br).wf = true) (w : World) :
    Calls Try.prog 10 #[statV ⟨d, fc, rtc, rtr, ic, dv, hb, br⟩] w fun e w' => e = .returned (.bool true) ∧ RowKit.Below w.heap.size w w' :=
  Ab.mscBits_w d (wf8 wd).1 (wf8 wd).2 fc rtc rtr ic dv hb br (wf8 wb).1 (wf8 wb).2 w
end Go.Proofs.Ytmnflfjcfkblbaa
