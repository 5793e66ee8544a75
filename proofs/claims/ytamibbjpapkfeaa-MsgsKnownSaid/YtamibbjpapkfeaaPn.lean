/-
  The functions of layer 8 (pn) that put parameters, and their reference: trees, and what they answer.
  Conditions: a number lies within its type's bounds.
-/
import Derived.Test.YtamibbjpapkfeaaTlvL
namespace Go.Proofs.Ytamibbjpapkfeaa.Ab
set_option linter.unusedSimpArgs false
set_option linter.unusedVariables false
open Go
structure Prm where
  d : Int
  f : Int
  c : Int
  p : Int
  t1 : Int
  n1 : Int
  n2 : Int
  k : Int
def Prm.ok (x : Prm) : Prop := (0 ≤ x.d ∧ x.d ≤ 255) ∧ (0 ≤ x.f ∧ x.f ≤ 255) ∧ (0 ≤ x.c ∧ x.c ≤ 255) ∧ (0 ≤ x.p ∧ x.p ≤ 255)
def pmay (x : Prm) : Bool := decide (1 ≤ x.d ∧ x.d ≤ 63 ∧ x.f ≤ 2 ∧ x.c ≤ 3 ∧ x.p ≤ 63 ∧ 1 ≤ x.t1 ∧ x.t1 ≤ 255 ∧ 1 ≤ x.n1 ∧ x.n1 ≤ 65535 ∧ 0 ≤ x.n2 ∧ x.n2 ≤ 255 ∧ 1 ≤ x.k ∧ x.k ≤ 7)
def pput (x : Prm) : List UInt8 × Int := if pmay x = true then ([c8 x.d, c8 (16 * x.c + x.f), c8 x.p, c8 x.t1, c8 (x.n1 % 256), c8 (x.n1 / 256), c8 x.n2, c8 x.k], 0) else ([], 2)
abbrev prmV (x : Prm) : Value := .agg #[.int .u8 x.d, .int .u8 x.f, .int .u8 x.c, .int .u8 x.p, .int .i64 x.t1, .int .i64 x.n1, .int .i64 x.n2, .int .i64 x.k]
abbrev prmA : AV := .agg [.sint .u8 (.var 0), .sint .u8 (.var 1), .sint .u8 (.var 2), .sint .u8 (.var 3), .sint .i64 (.var 4), .sint .i64 (.var 5), .sint .i64 (.var 6), .sint .i64 (.var 7)]
abbrev rhoP (x : Prm) : Rho := ⟨fun n => [Dat.dI x.d, .dI x.f, .dI x.c, .dI x.p, .dI x.t1, .dI x.n1, .dI x.n2, .dI x.k].getD n (.dI 0), fun _ d => d⟩
abbrev pputV (x : Prm) : Value := .tuple #[.string ⟨(pput x).1.toArray⟩, .int .i64 (pput x).2]
theorem prmA_VR (x : Prm) : @VR (rhoP x) (fun _ => none) prmA (prmV x) :=
  ⟨[_, _, _, _, _, _, _, _], ⟨_, _, rfl, ⟨_, _, rfl, ⟨_, _, rfl, ⟨_, _, rfl, ⟨_, _, rfl, ⟨_, _, rfl, ⟨_, _, rfl, ⟨_, _, rfl, rfl, rfl⟩, rfl⟩, rfl⟩, rfl⟩, rfl⟩, rfl⟩, rfl⟩, rfl⟩, rfl⟩
def pnCond : Tm := ((Tm.ib BinOp.eql IntKind.u8 (Tm.var 0) ((Tm.ib BinOp.gtr IntKind.u8 ((Tm.ib BinOp.lss IntKind.u8 (Tm.ci 63) (Tm.var 0)).ite (Tm.ci 63) (Tm.var 0)) (Tm.ci 1)).ite ((Tm.ib BinOp.lss IntKind.u8 (Tm.ci 63) (Tm.var 0)).ite (Tm.ci 63) (Tm.var 0)) (Tm.ci 1))).and ((Tm.ib BinOp.eql IntKind.u8 (Tm.var 1) ((Tm.ib BinOp.lss IntKind.u8 (Tm.ci 2) (Tm.var 1)).ite (Tm.ci 2) (Tm.var 1))).and ((Tm.ib BinOp.eql IntKind.u8 (Tm.var 2) ((Tm.ib BinOp.lss IntKind.u8 (Tm.ci 3) (Tm.var 2)).ite (Tm.ci 3) (Tm.var 2))).and ((Tm.ib BinOp.eql IntKind.u8 (Tm.var 3) ((Tm.ib BinOp.lss IntKind.u8 (Tm.ci 63) (Tm.var 3)).ite (Tm.ci 63) (Tm.var 3))).and ((Tm.ib BinOp.eql IntKind.i64 (Tm.var 4) ((Tm.ib BinOp.gtr IntKind.i64 ((Tm.ib BinOp.lss IntKind.i64 (Tm.ci 255) (Tm.var 4)).ite (Tm.ci 255) (Tm.var 4)) (Tm.ci 1)).ite ((Tm.ib BinOp.lss IntKind.i64 (Tm.ci 255) (Tm.var 4)).ite (Tm.ci 255) (Tm.var 4)) (Tm.ci 1))).and ((Tm.ib BinOp.eql IntKind.i64 (Tm.var 5) ((Tm.ib BinOp.gtr IntKind.i64 ((Tm.ib BinOp.lss IntKind.i64 (Tm.ci 65535) (Tm.var 5)).ite (Tm.ci 65535) (Tm.var 5)) (Tm.ci 1)).ite ((Tm.ib BinOp.lss IntKind.i64 (Tm.ci 65535) (Tm.var 5)).ite (Tm.ci 65535) (Tm.var 5)) (Tm.ci 1))).and ((Tm.ib BinOp.eql IntKind.i64 (Tm.var 6) ((Tm.ib BinOp.gtr IntKind.i64 ((Tm.ib BinOp.lss IntKind.i64 (Tm.ci 255) (Tm.var 6)).ite (Tm.ci 255) (Tm.var 6)) (Tm.ci 0)).ite ((Tm.ib BinOp.lss IntKind.i64 (Tm.ci 255) (Tm.var 6)).ite (Tm.ci 255) (Tm.var 6)) (Tm.ci 0))).and (Tm.ib BinOp.eql IntKind.i64 (Tm.var 7) ((Tm.ib BinOp.gtr IntKind.i64 ((Tm.ib BinOp.lss IntKind.i64 (Tm.ci 7) (Tm.var 7)).ite (Tm.ci 7) (Tm.var 7)) (Tm.ci 1)).ite ((Tm.ib BinOp.lss IntKind.i64 (Tm.ci 7) (Tm.var 7)).ite (Tm.ci 7) (Tm.var 7)) (Tm.ci 1))))))))))
def pnTree : Tree AV := Tree.fork (pnCond.not) (Tree.leaf (AV.tuple [AV.str [], AV.int IntKind.i64 2])) (Tree.leaf (AV.tuple [AV.sstr (Tm.sb BinOp.add (Tm.var 0).oct (Tm.sb BinOp.add (Tm.ib BinOp.or IntKind.u8 (Tm.ib BinOp.shl IntKind.u8 (Tm.var 2) (Tm.ci 4)) (Tm.var 1)).oct (Tm.sb BinOp.add (Tm.var 3).oct (Tm.sb BinOp.add (Tm.wrap IntKind.u8 (Tm.var 4)).oct (Tm.sb BinOp.add (Tm.wrap IntKind.u8 (Tm.var 5)).oct (Tm.sb BinOp.add (Tm.wrap IntKind.u8 (Tm.ib BinOp.shr IntKind.i64 (Tm.var 5) (Tm.ci 8))).oct (Tm.sb BinOp.add (Tm.wrap IntKind.u8 (Tm.var 6)).oct (Tm.sb BinOp.add (Tm.wrap IntKind.u8 (Tm.var 7)).oct (Tm.cs []))))))))), AV.int IntKind.i64 0]))
set_option maxRecDepth 100000 in
theorem pnTree_eq : evFun Try.prog envT 1000 47 [prmA] heap0 leafT = pnTree := by kernel_rfl
def rpnTree : Tree AV := Tree.fork (Tm.ib BinOp.geq IntKind.i64 (Tm.wrap IntKind.i64 (Tm.var 0)) (Tm.ci 1)) (Tree.fork (Tm.ib BinOp.leq IntKind.i64 (Tm.wrap IntKind.i64 (Tm.var 0)) (Tm.ci 63)) (Tree.fork (Tm.ib BinOp.leq IntKind.u8 (Tm.var 1) (Tm.ci 2)) (Tree.fork (Tm.ib BinOp.leq IntKind.u8 (Tm.var 2) (Tm.ci 3)) (Tree.fork (Tm.ib BinOp.leq IntKind.u8 (Tm.var 3) (Tm.ci 63)) (Tree.fork (Tm.ib BinOp.geq IntKind.i64 (Tm.var 4) (Tm.ci 1)) (Tree.fork (Tm.ib BinOp.leq IntKind.i64 (Tm.var 4) (Tm.ci 255)) (Tree.fork (Tm.ib BinOp.geq IntKind.i64 (Tm.var 5) (Tm.ci 1)) (Tree.fork (Tm.ib BinOp.leq IntKind.i64 (Tm.var 5) (Tm.ci 65535)) (Tree.fork (Tm.ib BinOp.geq IntKind.i64 (Tm.var 6) (Tm.ci 0)) (Tree.fork (Tm.ib BinOp.leq IntKind.i64 (Tm.var 6) (Tm.ci 255)) (Tree.fork (Tm.ib BinOp.geq IntKind.i64 (Tm.var 7) (Tm.ci 1)) (Tree.fork (Tm.ib BinOp.gtr IntKind.i64 (Tm.var 7) (Tm.ci 7)) (Tree.leaf (AV.tuple [AV.str [], AV.int IntKind.i64 2])) (Tree.leaf (AV.tuple [AV.sstr (Tm.sb BinOp.add (Tm.var 0).oct (Tm.sb BinOp.add (Tm.ib BinOp.add IntKind.u8 (Tm.var 1) (Tm.ib BinOp.mul IntKind.u8 (Tm.ci 16) (Tm.var 2))).oct (Tm.sb BinOp.add (Tm.var 3).oct (Tm.sb BinOp.add (Tm.wrap IntKind.u8 (Tm.var 4)).oct (Tm.sb BinOp.add (Tm.wrap IntKind.u8 (Tm.ib BinOp.rem IntKind.i64 (Tm.var 5) (Tm.ci 256))).oct (Tm.sb BinOp.add (Tm.wrap IntKind.u8 (Tm.ib BinOp.quo IntKind.i64 (Tm.var 5) (Tm.ci 256))).oct (Tm.sb BinOp.add (Tm.wrap IntKind.u8 (Tm.var 6)).oct (Tm.sb BinOp.add (Tm.wrap IntKind.u8 (Tm.var 7)).oct (Tm.cs []))))))))), AV.int IntKind.i64 0]))) (Tree.leaf (AV.tuple [AV.str [], AV.int IntKind.i64 2]))) (Tree.leaf (AV.tuple [AV.str [], AV.int IntKind.i64 2]))) (Tree.leaf (AV.tuple [AV.str [], AV.int IntKind.i64 2]))) (Tree.leaf (AV.tuple [AV.str [], AV.int IntKind.i64 2]))) (Tree.leaf (AV.tuple [AV.str [], AV.int IntKind.i64 2]))) (Tree.leaf (AV.tuple [AV.str [], AV.int IntKind.i64 2]))) (Tree.leaf (AV.tuple [AV.str [], AV.int IntKind.i64 2]))) (Tree.leaf (AV.tuple [AV.str [], AV.int IntKind.i64 2]))) (Tree.leaf (AV.tuple [AV.str [], AV.int IntKind.i64 2]))) (Tree.leaf (AV.tuple [AV.str [], AV.int IntKind.i64 2]))) (Tree.leaf (AV.tuple [AV.str [], AV.int IntKind.i64 2]))) (Tree.leaf (AV.tuple [AV.str [], AV.int IntKind.i64 2]))
set_option maxRecDepth 100000 in
theorem rpnTree_eq : evFun Try.prog envT 1000 57 [prmA] heap0 leafT = rpnTree := by kernel_rfl
def rmayTree : Tree AV := Tree.fork (Tm.ib BinOp.geq IntKind.i64 (Tm.wrap IntKind.i64 (Tm.var 0)) (Tm.ci 1)) (Tree.fork (Tm.ib BinOp.leq IntKind.i64 (Tm.wrap IntKind.i64 (Tm.var 0)) (Tm.ci 63)) (Tree.fork (Tm.ib BinOp.leq IntKind.u8 (Tm.var 1) (Tm.ci 2)) (Tree.fork (Tm.ib BinOp.leq IntKind.u8 (Tm.var 2) (Tm.ci 3)) (Tree.fork (Tm.ib BinOp.leq IntKind.u8 (Tm.var 3) (Tm.ci 63)) (Tree.fork (Tm.ib BinOp.geq IntKind.i64 (Tm.var 4) (Tm.ci 1)) (Tree.fork (Tm.ib BinOp.leq IntKind.i64 (Tm.var 4) (Tm.ci 255)) (Tree.fork (Tm.ib BinOp.geq IntKind.i64 (Tm.var 5) (Tm.ci 1)) (Tree.fork (Tm.ib BinOp.leq IntKind.i64 (Tm.var 5) (Tm.ci 65535)) (Tree.fork (Tm.ib BinOp.geq IntKind.i64 (Tm.var 6) (Tm.ci 0)) (Tree.fork (Tm.ib BinOp.leq IntKind.i64 (Tm.var 6) (Tm.ci 255)) (Tree.fork (Tm.ib BinOp.geq IntKind.i64 (Tm.var 7) (Tm.ci 1)) (Tree.leaf (AV.sbool (Tm.ib BinOp.leq IntKind.i64 (Tm.var 7) (Tm.ci 7)))) (Tree.leaf (AV.bool false))) (Tree.leaf (AV.bool false))) (Tree.leaf (AV.bool false))) (Tree.leaf (AV.bool false))) (Tree.leaf (AV.bool false))) (Tree.leaf (AV.bool false))) (Tree.leaf (AV.bool false))) (Tree.leaf (AV.bool false))) (Tree.leaf (AV.bool false))) (Tree.leaf (AV.bool false))) (Tree.leaf (AV.bool false))) (Tree.leaf (AV.bool false))
set_option maxRecDepth 100000 in
theorem rmayTree_eq : evFun Try.prog envT 1000 45 [prmA] heap0 leafT = rmayTree := by kernel_rfl
section
variable [Rho] {k : IntKind} {x y : Tm}
theorem geq_T (h : x.den.asI ≥ y.den.asI) : (Tm.ib .geq k x y).den.asB = true := decide_eq_true h
theorem geq_F (h : ¬ x.den.asI ≥ y.den.asI) : (Tm.ib .geq k x y).den.asB = false := decide_eq_false h
end
set_option maxRecDepth 100000 in
theorem rpn_sel (x : Prm) (hx : x.ok) : ∃ u, @Tree.sel _ (rhoP x) rpnTree = some u ∧ @VR (rhoP x) (fun _ => none) u (pputV x) := by
  letI ρ : Rho := rhoP x
  show ∃ u, rpnTree.sel = some u ∧ VR (fun _ => none) u (pputV x)
  unfold rpnTree pputV pput
  obtain ⟨x0, x1, x2, x3⟩ := hx
  have hw : IntKind.i64.wrap x.d = x.d := w64 _ (by omega) (by omega)
  by_cases h0 : IntKind.i64.wrap x.d ≥ 1
  case neg =>
    have hm : pmay x = false := decide_eq_false fun hq => h0 (by rw [hw]; omega)
    rw [hm]
    exact ⟨_, sel_F (geq_F h0) rfl, [_, _], ⟨_, _, rfl, ⟨_, _, rfl, rfl, rfl⟩, rfl⟩, rfl⟩
  by_cases h1 : IntKind.i64.wrap x.d ≤ 63
  case neg =>
    have hm : pmay x = false := decide_eq_false fun hq => h1 (by rw [hw]; omega)
    rw [hm]
    exact ⟨_, sel_T (geq_T h0) (sel_F (leq_F h1) rfl), [_, _], ⟨_, _, rfl, ⟨_, _, rfl, rfl, rfl⟩, rfl⟩, rfl⟩
  by_cases h2 : x.f ≤ 2
  case neg =>
    have hm : pmay x = false := decide_eq_false fun hq => h2 (by omega)
    rw [hm]
    exact ⟨_, sel_T (geq_T h0) (sel_T (leq_T h1) (sel_F (leq_F h2) rfl)), [_, _], ⟨_, _, rfl, ⟨_, _, rfl, rfl, rfl⟩, rfl⟩, rfl⟩
  by_cases h3 : x.c ≤ 3
  case neg =>
    have hm : pmay x = false := decide_eq_false fun hq => h3 (by omega)
    rw [hm]
    exact ⟨_, sel_T (geq_T h0) (sel_T (leq_T h1) (sel_T (leq_T h2) (sel_F (leq_F h3) rfl))), [_, _], ⟨_, _, rfl, ⟨_, _, rfl, rfl, rfl⟩, rfl⟩, rfl⟩
  by_cases h4 : x.p ≤ 63
  case neg =>
    have hm : pmay x = false := decide_eq_false fun hq => h4 (by omega)
    rw [hm]
    exact ⟨_, sel_T (geq_T h0) (sel_T (leq_T h1) (sel_T (leq_T h2) (sel_T (leq_T h3) (sel_F (leq_F h4) rfl)))), [_, _], ⟨_, _, rfl, ⟨_, _, rfl, rfl, rfl⟩, rfl⟩, rfl⟩
  by_cases h5 : x.t1 ≥ 1
  case neg =>
    have hm : pmay x = false := decide_eq_false fun hq => h5 (by omega)
    rw [hm]
    exact ⟨_, sel_T (geq_T h0) (sel_T (leq_T h1) (sel_T (leq_T h2) (sel_T (leq_T h3) (sel_T (leq_T h4) (sel_F (geq_F h5) rfl))))), [_, _], ⟨_, _, rfl, ⟨_, _, rfl, rfl, rfl⟩, rfl⟩, rfl⟩
  by_cases h6 : x.t1 ≤ 255
  case neg =>
    have hm : pmay x = false := decide_eq_false fun hq => h6 (by omega)
    rw [hm]
    exact ⟨_, sel_T (geq_T h0) (sel_T (leq_T h1) (sel_T (leq_T h2) (sel_T (leq_T h3) (sel_T (leq_T h4) (sel_T (geq_T h5) (sel_F (leq_F h6) rfl)))))), [_, _], ⟨_, _, rfl, ⟨_, _, rfl, rfl, rfl⟩, rfl⟩, rfl⟩
  by_cases h7 : x.n1 ≥ 1
  case neg =>
    have hm : pmay x = false := decide_eq_false fun hq => h7 (by omega)
    rw [hm]
    exact ⟨_, sel_T (geq_T h0) (sel_T (leq_T h1) (sel_T (leq_T h2) (sel_T (leq_T h3) (sel_T (leq_T h4) (sel_T (geq_T h5) (sel_T (leq_T h6) (sel_F (geq_F h7) rfl))))))), [_, _], ⟨_, _, rfl, ⟨_, _, rfl, rfl, rfl⟩, rfl⟩, rfl⟩
  by_cases h8 : x.n1 ≤ 65535
  case neg =>
    have hm : pmay x = false := decide_eq_false fun hq => h8 (by omega)
    rw [hm]
    exact ⟨_, sel_T (geq_T h0) (sel_T (leq_T h1) (sel_T (leq_T h2) (sel_T (leq_T h3) (sel_T (leq_T h4) (sel_T (geq_T h5) (sel_T (leq_T h6) (sel_T (geq_T h7) (sel_F (leq_F h8) rfl)))))))), [_, _], ⟨_, _, rfl, ⟨_, _, rfl, rfl, rfl⟩, rfl⟩, rfl⟩
  by_cases h9 : x.n2 ≥ 0
  case neg =>
    have hm : pmay x = false := decide_eq_false fun hq => h9 (by omega)
    rw [hm]
    exact ⟨_, sel_T (geq_T h0) (sel_T (leq_T h1) (sel_T (leq_T h2) (sel_T (leq_T h3) (sel_T (leq_T h4) (sel_T (geq_T h5) (sel_T (leq_T h6) (sel_T (geq_T h7) (sel_T (leq_T h8) (sel_F (geq_F h9) rfl))))))))), [_, _], ⟨_, _, rfl, ⟨_, _, rfl, rfl, rfl⟩, rfl⟩, rfl⟩
  by_cases h10 : x.n2 ≤ 255
  case neg =>
    have hm : pmay x = false := decide_eq_false fun hq => h10 (by omega)
    rw [hm]
    exact ⟨_, sel_T (geq_T h0) (sel_T (leq_T h1) (sel_T (leq_T h2) (sel_T (leq_T h3) (sel_T (leq_T h4) (sel_T (geq_T h5) (sel_T (leq_T h6) (sel_T (geq_T h7) (sel_T (leq_T h8) (sel_T (geq_T h9) (sel_F (leq_F h10) rfl)))))))))), [_, _], ⟨_, _, rfl, ⟨_, _, rfl, rfl, rfl⟩, rfl⟩, rfl⟩
  by_cases h11 : x.k ≥ 1
  case neg =>
    have hm : pmay x = false := decide_eq_false fun hq => h11 (by omega)
    rw [hm]
    exact ⟨_, sel_T (geq_T h0) (sel_T (leq_T h1) (sel_T (leq_T h2) (sel_T (leq_T h3) (sel_T (leq_T h4) (sel_T (geq_T h5) (sel_T (leq_T h6) (sel_T (geq_T h7) (sel_T (leq_T h8) (sel_T (geq_T h9) (sel_T (leq_T h10) (sel_F (geq_F h11) rfl))))))))))), [_, _], ⟨_, _, rfl, ⟨_, _, rfl, rfl, rfl⟩, rfl⟩, rfl⟩
  by_cases h12 : x.k > 7
  · have hm : pmay x = false := decide_eq_false fun hq => by omega
    rw [hm]
    exact ⟨_, sel_T (geq_T h0) (sel_T (leq_T h1) (sel_T (leq_T h2) (sel_T (leq_T h3) (sel_T (leq_T h4) (sel_T (geq_T h5) (sel_T (leq_T h6) (sel_T (geq_T h7) (sel_T (leq_T h8) (sel_T (geq_T h9) (sel_T (leq_T h10) (sel_T (geq_T h11) (sel_T (gtr_T h12) rfl)))))))))))), [_, _], ⟨_, _, rfl, ⟨_, _, rfl, rfl, rfl⟩, rfl⟩, rfl⟩
  · rw [hw] at h0 h1
    have hm : pmay x = true := decide_eq_true (by omega)
    rw [hm]
    rw [← hw] at h0 h1
    refine ⟨_, sel_T (geq_T h0) (sel_T (leq_T h1) (sel_T (leq_T h2) (sel_T (leq_T h3) (sel_T (leq_T h4) (sel_T (geq_T h5) (sel_T (leq_T h6) (sel_T (geq_T h7) (sel_T (leq_T h8) (sel_T (geq_T h9) (sel_T (leq_T h10) (sel_T (geq_T h11) (sel_F (gtr_F h12) rfl)))))))))))), [_, _], ⟨_, _, ?_, ⟨_, _, rfl, rfl, rfl⟩, rfl⟩, rfl⟩
    rw [hw] at h0 h1
    have e1 : IntKind.u8.wrap (x.f + IntKind.u8.wrap (16 * x.c)) = 16 * x.c + x.f := by rw [w8 (16 * x.c) (by omega) (by omega), w8 _ (by omega) (by omega)]; omega
    have e2 : IntKind.u8.wrap (x.n1.tmod 256) = x.n1 % 256 := by rw [Int.tmod_eq_emod_of_nonneg (by omega), w8 _ (by omega) (by omega)]
    have e3 : IntKind.u8.wrap (IntKind.i64.wrap (x.n1.tdiv 256)) = x.n1 / 256 := by rw [Int.tdiv_eq_ediv_of_nonneg (by omega), w64 _ (by omega) (by omega), w8 _ (by omega) (by omega)]
    show Value.string ⟨[c8 x.d, c8 (16 * x.c + x.f), c8 x.p, c8 x.t1, c8 (x.n1 % 256), c8 (x.n1 / 256), c8 x.n2, c8 x.k].toArray⟩ = .string ⟨[c8 x.d, c8 (IntKind.u8.wrap (x.f + IntKind.u8.wrap (16 * x.c))), c8 x.p, c8 (IntKind.u8.wrap x.t1), c8 (IntKind.u8.wrap (x.n1.tmod 256)), c8 (IntKind.u8.wrap (IntKind.i64.wrap (x.n1.tdiv 256))), c8 (IntKind.u8.wrap x.n2), c8 (IntKind.u8.wrap x.k)].toArray⟩
    rw [e1, e2, e3, w8 x.t1 (by omega) (by omega), w8 x.n2 (by omega) (by omega), w8 x.k (by omega) (by omega)]
set_option maxRecDepth 100000 in
theorem rmay_sel (x : Prm) (hx : x.ok) : ∃ u, @Tree.sel _ (rhoP x) rmayTree = some u ∧ @VR (rhoP x) (fun _ => none) u (.bool (pmay x)) := by
  letI ρ : Rho := rhoP x
  show ∃ u, rmayTree.sel = some u ∧ VR (fun _ => none) u (.bool (pmay x))
  unfold rmayTree
  obtain ⟨x0, x1, x2, x3⟩ := hx
  have hw : IntKind.i64.wrap x.d = x.d := w64 _ (by omega) (by omega)
  by_cases h0 : IntKind.i64.wrap x.d ≥ 1
  case neg =>
    have hm : pmay x = false := decide_eq_false fun hq => h0 (by rw [hw]; omega)
    rw [hm]
    exact ⟨_, sel_F (geq_F h0) rfl, rfl⟩
  by_cases h1 : IntKind.i64.wrap x.d ≤ 63
  case neg =>
    have hm : pmay x = false := decide_eq_false fun hq => h1 (by rw [hw]; omega)
    rw [hm]
    exact ⟨_, sel_T (geq_T h0) (sel_F (leq_F h1) rfl), rfl⟩
  by_cases h2 : x.f ≤ 2
  case neg =>
    have hm : pmay x = false := decide_eq_false fun hq => h2 (by omega)
    rw [hm]
    exact ⟨_, sel_T (geq_T h0) (sel_T (leq_T h1) (sel_F (leq_F h2) rfl)), rfl⟩
  by_cases h3 : x.c ≤ 3
  case neg =>
    have hm : pmay x = false := decide_eq_false fun hq => h3 (by omega)
    rw [hm]
    exact ⟨_, sel_T (geq_T h0) (sel_T (leq_T h1) (sel_T (leq_T h2) (sel_F (leq_F h3) rfl))), rfl⟩
  by_cases h4 : x.p ≤ 63
  case neg =>
    have hm : pmay x = false := decide_eq_false fun hq => h4 (by omega)
    rw [hm]
    exact ⟨_, sel_T (geq_T h0) (sel_T (leq_T h1) (sel_T (leq_T h2) (sel_T (leq_T h3) (sel_F (leq_F h4) rfl)))), rfl⟩
  by_cases h5 : x.t1 ≥ 1
  case neg =>
    have hm : pmay x = false := decide_eq_false fun hq => h5 (by omega)
    rw [hm]
    exact ⟨_, sel_T (geq_T h0) (sel_T (leq_T h1) (sel_T (leq_T h2) (sel_T (leq_T h3) (sel_T (leq_T h4) (sel_F (geq_F h5) rfl))))), rfl⟩
  by_cases h6 : x.t1 ≤ 255
  case neg =>
    have hm : pmay x = false := decide_eq_false fun hq => h6 (by omega)
    rw [hm]
    exact ⟨_, sel_T (geq_T h0) (sel_T (leq_T h1) (sel_T (leq_T h2) (sel_T (leq_T h3) (sel_T (leq_T h4) (sel_T (geq_T h5) (sel_F (leq_F h6) rfl)))))), rfl⟩
  by_cases h7 : x.n1 ≥ 1
  case neg =>
    have hm : pmay x = false := decide_eq_false fun hq => h7 (by omega)
    rw [hm]
    exact ⟨_, sel_T (geq_T h0) (sel_T (leq_T h1) (sel_T (leq_T h2) (sel_T (leq_T h3) (sel_T (leq_T h4) (sel_T (geq_T h5) (sel_T (leq_T h6) (sel_F (geq_F h7) rfl))))))), rfl⟩
  by_cases h8 : x.n1 ≤ 65535
  case neg =>
    have hm : pmay x = false := decide_eq_false fun hq => h8 (by omega)
    rw [hm]
    exact ⟨_, sel_T (geq_T h0) (sel_T (leq_T h1) (sel_T (leq_T h2) (sel_T (leq_T h3) (sel_T (leq_T h4) (sel_T (geq_T h5) (sel_T (leq_T h6) (sel_T (geq_T h7) (sel_F (leq_F h8) rfl)))))))), rfl⟩
  by_cases h9 : x.n2 ≥ 0
  case neg =>
    have hm : pmay x = false := decide_eq_false fun hq => h9 (by omega)
    rw [hm]
    exact ⟨_, sel_T (geq_T h0) (sel_T (leq_T h1) (sel_T (leq_T h2) (sel_T (leq_T h3) (sel_T (leq_T h4) (sel_T (geq_T h5) (sel_T (leq_T h6) (sel_T (geq_T h7) (sel_T (leq_T h8) (sel_F (geq_F h9) rfl))))))))), rfl⟩
  by_cases h10 : x.n2 ≤ 255
  case neg =>
    have hm : pmay x = false := decide_eq_false fun hq => h10 (by omega)
    rw [hm]
    exact ⟨_, sel_T (geq_T h0) (sel_T (leq_T h1) (sel_T (leq_T h2) (sel_T (leq_T h3) (sel_T (leq_T h4) (sel_T (geq_T h5) (sel_T (leq_T h6) (sel_T (geq_T h7) (sel_T (leq_T h8) (sel_T (geq_T h9) (sel_F (leq_F h10) rfl)))))))))), rfl⟩
  by_cases h11 : x.k ≥ 1
  case neg =>
    have hm : pmay x = false := decide_eq_false fun hq => h11 (by omega)
    rw [hm]
    exact ⟨_, sel_T (geq_T h0) (sel_T (leq_T h1) (sel_T (leq_T h2) (sel_T (leq_T h3) (sel_T (leq_T h4) (sel_T (geq_T h5) (sel_T (leq_T h6) (sel_T (geq_T h7) (sel_T (leq_T h8) (sel_T (geq_T h9) (sel_T (leq_T h10) (sel_F (geq_F h11) rfl))))))))))), rfl⟩
  refine ⟨_, sel_T (geq_T h0) (sel_T (leq_T h1) (sel_T (leq_T h2) (sel_T (leq_T h3) (sel_T (leq_T h4) (sel_T (geq_T h5) (sel_T (leq_T h6) (sel_T (geq_T h7) (sel_T (leq_T h8) (sel_T (geq_T h9) (sel_T (leq_T h10) (sel_T (geq_T h11) (rfl)))))))))))), ?_⟩
  show Value.bool (pmay x) = .bool (decide (x.k ≤ 7))
  rw [hw] at h0 h1
  congr 1
  unfold pmay
  rw [Bool.eq_iff_iff, decide_eq_true_eq, decide_eq_true_eq]
  omega
theorem mmx (d lo hi : Int) : (d = bif decide ((bif decide (hi < d) then hi else d) > lo) then (bif decide (hi < d) then hi else d) else lo) ↔ (d = lo ∨ (lo ≤ d ∧ d ≤ hi)) := by
  by_cases h1 : hi < d
  · simp only [h1, decide_true, cond_true]
    by_cases h2 : hi > lo
    · simp only [h2, decide_true, cond_true]; omega
    · simp only [h2, decide_false, cond_false]; omega
  · simp only [h1, decide_false, cond_false]
    by_cases h2 : d > lo
    · simp only [h2, decide_true, cond_true, true_iff]; omega
    · simp only [h2, decide_false, cond_false]; omega
theorem min8 (d n : Int) : (d = bif decide (n < d) then n else d) ↔ d ≤ n := by
  simp only [Bool.cond_decide]
  split <;> omega
theorem or4 (c f : Int) (h0 : 0 ≤ c) (h1 : c ≤ 3) (h2 : 0 ≤ f) (h3 : f ≤ 2) : c8 (iop .or .u8 (iop .shl .u8 c 4).asI f).asI = c8 (16 * c + f) := by
  have h : ∀ n : Fin 4, ∀ m : Fin 3, c8 (iop .or .u8 (iop .shl .u8 (n.val : Int) 4).asI (m.val : Int)).asI = c8 (16 * (n.val : Int) + (m.val : Int)) := by decide +kernel
  have := h ⟨c.toNat, by omega⟩ ⟨f.toNat, by omega⟩
  rw [show ((⟨c.toNat, by omega⟩ : Fin 4).val : Int) = c by simp; omega, show ((⟨f.toNat, by omega⟩ : Fin 3).val : Int) = f by simp; omega] at this
  exact this
section
variable {ρ : Rho}
theorem den_ib (op : BinOp) (k : IntKind) (x y : Tm) : (Tm.ib op k x y).den = iop op k x.den.asI y.den.asI := rfl
theorem den_and (x y : Tm) : (Tm.and x y).den = .dB (x.den.asB && y.den.asB) := rfl
theorem den_ci (n : Int) : (Tm.ci n).den = .dI n := rfl
theorem den_ite (c x y : Tm) : (Tm.ite c x y).den = bif c.den.asB then x.den else y.den := rfl
theorem asI_cond (b : Bool) (p q : Dat) : (bif b then p else q).asI = bif b then p.asI else q.asI := by cases b <;> rfl
end
theorem pn_cond (x : Prm) : (@Tm.den (rhoP x) pnCond).asB = pmay x := by
  letI ρ : Rho := rhoP x
  have V0 : (Tm.var 0).den = .dI x.d := rfl
  have V1 : (Tm.var 1).den = .dI x.f := rfl
  have V2 : (Tm.var 2).den = .dI x.c := rfl
  have V3 : (Tm.var 3).den = .dI x.p := rfl
  have V4 : (Tm.var 4).den = .dI x.t1 := rfl
  have V5 : (Tm.var 5).den = .dI x.n1 := rfl
  have V6 : (Tm.var 6).den = .dI x.n2 := rfl
  have V7 : (Tm.var 7).den = .dI x.k := rfl
  show pnCond.den.asB = pmay x
  unfold pnCond pmay
  simp only [den_ib, den_and, den_ci, den_ite, V0, V1, V2, V3, V4, V5, V6, V7, iop, asI_I, asB_B, asI_cond]
  rw [Bool.eq_iff_iff]
  simp only [Bool.and_eq_true, beq_iff_eq, decide_eq_true_eq, mmx, min8]
  omega
set_option maxRecDepth 100000 in
theorem pn_sel (x : Prm) (hx : x.ok) : ∃ u, @Tree.sel _ (rhoP x) pnTree = some u ∧ @VR (rhoP x) (fun _ => none) u (pputV x) := by
  letI ρ : Rho := rhoP x
  show ∃ u, pnTree.sel = some u ∧ VR (fun _ => none) u (pputV x)
  have hc : pnCond.den.asB = pmay x := pn_cond x
  unfold pnTree pputV pput
  obtain ⟨x0, x1, x2, x3⟩ := hx
  cases hm : pmay x with
  | false =>
    refine ⟨_, sel_T ?_ rfl, [_, _], ⟨_, _, rfl, ⟨_, _, rfl, rfl, rfl⟩, rfl⟩, rfl⟩
    show (!pnCond.den.asB) = true
    rw [hc, hm]; rfl
  | true =>
    have hm' : 1 ≤ x.d ∧ x.d ≤ 63 ∧ x.f ≤ 2 ∧ x.c ≤ 3 ∧ x.p ≤ 63 ∧ 1 ≤ x.t1 ∧ x.t1 ≤ 255 ∧ 1 ≤ x.n1 ∧ x.n1 ≤ 65535 ∧ 0 ≤ x.n2 ∧ x.n2 ≤ 255 ∧ 1 ≤ x.k ∧ x.k ≤ 7 := of_decide_eq_true hm
    refine ⟨_, sel_F ?_ rfl, [_, _], ⟨_, _, ?_, ⟨_, _, rfl, rfl, rfl⟩, rfl⟩, rfl⟩
    · show (!pnCond.den.asB) = false
      rw [hc, hm]; rfl
    · have e0 := or4 x.c x.f x2.1 (by omega) x1.1 (by omega)
      have e1 : IntKind.u8.wrap x.n1 = x.n1 % 256 := by rw [IntKind.wrap_u8]
      have e2 : (iop .shr .i64 x.n1 8).asI = x.n1 / 256 := by
        show x.n1.fdiv (2 ^ (min 8 64)) = x.n1 / 256
        rw [Int.fdiv_eq_ediv_of_nonneg _ (by decide)]; rfl
      show Value.string ⟨[c8 x.d, c8 (16 * x.c + x.f), c8 x.p, c8 x.t1, c8 (x.n1 % 256), c8 (x.n1 / 256), c8 x.n2, c8 x.k].toArray⟩ = .string ⟨[c8 x.d, c8 (iop .or .u8 (iop .shl .u8 x.c 4).asI x.f).asI, c8 x.p, c8 (IntKind.u8.wrap x.t1), c8 (IntKind.u8.wrap x.n1), c8 (IntKind.u8.wrap (iop .shr .i64 x.n1 8).asI), c8 (IntKind.u8.wrap x.n2), c8 (IntKind.u8.wrap x.k)].toArray⟩
      rw [e0, e1, e2, w8 x.t1 (by omega) (by omega), w8 x.n2 (by omega) (by omega), w8 x.k (by omega) (by omega), w8 (x.n1 / 256) (by omega) (by omega)]
theorem pn_Put (x : Prm) (hx : x.ok) (w : World) : Calls Try.prog 47 #[prmV x] w fun e w' => e = .returned (pputV x) ∧ RowKit.Below w.heap.size w w' := by
  letI ρ : Rho := rhoP x
  obtain ⟨u, h1, h2⟩ := pn_sel x hx
  exact call_val (cf := evFun Try.prog envT 1000) (evFun_ok noCount envT_ok 1000) (args := [prmA]) (v := u) (by have := pnTree_eq; unfold leafT at this; rw [this]; exact h1) h2 (cargs := [prmV x]) ⟨_, _, prmA_VR x, rfl, rfl⟩ w
theorem pn_RPut (x : Prm) (hx : x.ok) (w : World) : Calls Try.prog 57 #[prmV x] w fun e w' => e = .returned (pputV x) ∧ RowKit.Below w.heap.size w w' := by
  letI ρ : Rho := rhoP x
  obtain ⟨u, h1, h2⟩ := rpn_sel x hx
  exact call_val (cf := evFun Try.prog envT 1000) (evFun_ok noCount envT_ok 1000) (args := [prmA]) (v := u) (by have := rpnTree_eq; unfold leafT at this; rw [this]; exact h1) h2 (cargs := [prmV x]) ⟨_, _, prmA_VR x, rfl, rfl⟩ w
theorem pn_RMay (x : Prm) (hx : x.ok) (w : World) : Calls Try.prog 45 #[prmV x] w fun e w' => e = .returned (.bool (pmay x)) ∧ RowKit.Below w.heap.size w w' := by
  letI ρ : Rho := rhoP x
  obtain ⟨u, h1, h2⟩ := rmay_sel x hx
  exact call_val (cf := evFun Try.prog envT 1000) (evFun_ok noCount envT_ok 1000) (args := [prmA]) (v := u) (by have := rmayTree_eq; unfold leafT at this; rw [this]; exact h1) h2 (cargs := [prmV x]) ⟨_, _, prmA_VR x, rfl, rfl⟩ w
end Go.Proofs.Ytamibbjpapkfeaa.Ab
