/-
  Chapter 24, a side to which things happen: what the kernel looks for in a round of run.
  No condition: definitions.
-/
import Derived.Test.YtlbkficdelepeaaTlM
namespace Go.Proofs.Ytlbkficdelepeaa.Ab
set_option linter.unusedSimpArgs false
set_option linter.unusedVariables false
open Go
noncomputable section
def cellsT : Tm → List Tm
  | .pair a b => a :: cellsT b
  | _ => []
def chainT : Tm → Bool
  | .pair _ b => chainT b
  | .cb _ => true
  | _ => false
def coreT : List Tm := [vt 4, vt 5, vt 6, vt 7, vt 32, vt 34, vt 37, vt 39, vt 43]
def nthT : List Tm → Nat → Option Tm
  | [], _ => none
  | t :: _, 0 => some t
  | _ :: l, n + 1 => nthT l n
def sgE (ts : List Tm) : Nat → Option Tm := nthT (coreT ++ ts)
def subE (σ : Nat → Option Tm) : Eqs → Eqs
  | [] => []
  | (s, x, t) :: l => (s, x, t.subst σ) :: subE σ l
def subO (σ : Nat → Option Tm) : Option Eqs → Option Eqs
  | none => none
  | some es => some (subE σ es)
def subT (σ : Nat → Option Tm) : Tree (Option Eqs) → Tree (Option Eqs)
  | .fail => .fail
  | .leaf o => .leaf (subO σ o)
  | .fork c x y => .fork (c.subst σ) (subT σ x) (subT σ y)
def samI (F : Fc) (es2 : Eqs) (i : Nat) (es : Eqs) (n : Nat) : Bool := match outE es2 i, outE es n with
  | some (.sI, t), some (.sI, u) => sameI F t u
  | _, _ => false
def samB (F : Fc) (es2 : Eqs) (i : Nat) (es : Eqs) (n : Nat) : Bool := match outE es2 i, outE es n with
  | some (.sB, t), some (.sB, u) => sameB F t u
  | _, _ => false
def keepI (F : Fc) (es : Eqs) (n : Nat) : Bool := match outE es n with
  | some (.sI, t) => sameI F t (vt n)
  | _ => false
def keepB (F : Fc) (es : Eqs) (n : Nat) : Bool := match outE es n with
  | some (.sB, t) => sameB F t (vt n)
  | _ => false
/-- One truth brings another one. -/
def impB (F : Fc) (t u : Tm) : Bool := (lrnL (nf F t true) true F).all fun F' => match dec F' (nf F' u true) with
  | some true => true
  | _ => false
def finB (F : Fc) (es : Eqs) (u : Tm) : Bool := match outE es 29 with
  | some (.sB, t) => impB F t u
  | _ => false
/-- A number that is one of these, or as it was. -/
def oneOf (F : Fc) (es : Eqs) (n : Nat) (l : List Int) : Bool := match outE es n with
  | some (.sI, t) => sameI F t (vt n) || l.any fun v => sameI F t (.ci v)
  | _ => false
/-- A poll is not answered only while it is up. -/
def polB (F : Fc) (t : Tm) (es : Eqs) : Bool := sameB F t (.cb false) || (match outE es 4 with
  | some (.sI, u) => sameI F u (.ci 3)
  | _ => false)
/-- The event is right, and the judge knows the same behind it. -/
def pJ (es : Eqs) (o : Option Eqs) (F : Fc) : Bool := match o with
  | some es2 => (match outE es2 17 with
      | some (.sB, t) => sameB F t (.cb true)
      | _ => false) && samI F es2 18 es 4 && samB F es2 19 es 5 && samI F es2 20 es 6 && keepI F es 7 && samI F es2 22 es 32 && samB F es2 23 es 34 && samI F es2 24 es 37 && samB F es2 25 es 39 && oneOf F es 32 [0, 2, 3] && oneOf F es 37 [0, 1, 4] && (match outE es2 26 with
      | some (.sB, t) => finB F es t && polB F t es
      | _ => false)
  | none => false
/-- Nothing is said or heard: nothing is other. -/
def pNo (es : Eqs) (F : Fc) : Bool := keepI F es 4 && keepB F es 5 && keepI F es 6 && keepI F es 7 && keepI F es 32 && keepB F es 34 && keepI F es 37 && keepB F es 39 && finB F es (vt 43)
/-! ### the numbered side -/
abbrev tN : Tm := tp [vt 8, vt 9, vt 10, vt 11, vt 12, vt 13, vt 14, vt 15, vt 16, vt 17, vt 18, vt 19, vt 20, vt 21, vt 22, vt 23, vt 24, vt 25, vt 26, vt 27, vt 28, vt 29, vt 30, vt 31]
abbrev tH : Tm := tp [vt 8, vt 9, vt 10, vt 11, vt 12, vt 13, vt 14, vt 15, vt 16, vt 17, vt 18, vt 19, vt 20, vt 21, vt 22, vt 23, vt 24, vt 25, vt 26, vt 27, vt 28, vt 29, vt 30, vt 31, .lget (vt 0) (vt 3) 1, .lget (vt 0) (vt 3) 2, .lget (vt 0) (vt 3) 3, .lget (vt 0) (vt 3) 4, .lget (vt 0) (vt 3) 5, .lget (vt 0) (vt 3) 6, .lget (vt 0) (vt 3) 7]
abbrev tP : Tm := tp [vt 8, vt 9, vt 10, vt 11, vt 12, vt 13, vt 14, vt 15, vt 16, vt 17, vt 18, vt 19, vt 20, vt 21, vt 22, vt 23, vt 24, vt 25, vt 26, vt 27, vt 28, vt 29, vt 30, vt 31, .lget (vt 0) (vt 3) 7]
abbrev tT : Tm := tp [vt 8, vt 9, vt 10, vt 11, vt 12, vt 13, .app 577 tP, vt 15, vt 16, vt 17, vt 18, vt 19, vt 20, vt 21, vt 22, vt 23, .app 578 tP, .app 579 tP, .app 580 tP, vt 27, vt 28, vt 29, vt 30, vt 31]
def frSame : List Tm := [vt 8, vt 9, vt 10, vt 11, vt 12, vt 13, vt 14, vt 15, vt 16, vt 17, vt 18, vt 19, vt 20, vt 21, vt 22, vt 23, vt 24, vt 25, vt 26, vt 27, vt 28, vt 29, vt 30, vt 31]
def frHear : List Tm := [.app 708 tH, vt 9, .app 709 tH, vt 11, .app 710 tH, .app 711 tH, .app 712 tH, .app 713 tH, vt 16, .app 714 tH, .app 715 tH, vt 19, .app 716 tH, vt 21, vt 22, vt 23, .app 717 tH, .app 718 tH, vt 26, .app 719 tH, .app 720 tH, .app 721 tH, .app 722 tH, .app 723 tH]
def frNext : List Tm := [vt 8, vt 9, vt 10, vt 11, .app 648 tN, vt 13, .app 649 tN, vt 15, vt 16, vt 17, vt 18, vt 19, vt 20, vt 21, vt 22, vt 23, vt 24, vt 25, vt 26, .app 650 tN, .app 651 tN, .app 652 tN, .app 653 tN, .app 654 tN]
def frTick : List Tm := [vt 8, vt 9, vt 10, vt 11, vt 12, .app 900 tT, .app 901 tT, vt 15, vt 16, vt 17, .app 902 tT, vt 19, .app 903 tT, vt 21, vt 22, vt 23, .app 578 tP, .app 579 tP, .app 580 tP, vt 27, vt 28, vt 29, vt 30, .app 904 tT]
def frNew : List Tm := [.ci 0, .ci 0, .ci 0, .ci 0, .ci 0, .ci 0, .ci 0, .cb false, .cb false, .cb false, .cb false, .cb false, .cb false, .ci 2, .ci 3, .ci 2, .ci 0, .ci 0, .cb false, .ci 0, .cb false, .cb false, .cb false, .cb false]
def soA : List Sr := [.sI, .sI, .sI, .sI, .sI, .sI, .sI, .sB, .sB, .sB, .sB, .sB, .sB, .sI, .sI, .sI, .sI, .sI, .sL, .sI, .sB, .sB, .sB, .sB]
def isFr (es : Eqs) : Nat → List Sr → List Tm → Bool
  | _, [], [] => true
  | n, s :: ss, t :: ts => (match outE es n with
    | some (s', u) => eqSrB s s' && u.eqv t
    | none => false) && isFr es (n + 1) ss ts
  | _, _, _ => false
/-! ### what is known of what it calls -/
abbrev orT (a b : Tm) : Tm := .not (.and (.not a) (.not b))
abbrev isK (a : Tm) (n : Int) : Tm := .ib .eql .u8 a (.ci n)
abbrev fkT : Tm := .lget (vt 0) (vt 3) 3
/-- Behind a frame that is heard: due with the bit only if it was so, or the frame asked. -/
def factH : Tm := orT (.not (.app 721 tH)) (orT (vt 29) (.and (.lget (vt 0) (vt 3) 2) (.and (.lget (vt 0) (vt 3) 4) (.not (orT (.ib .lss .u8 fkT (.ci 7)) (.ib .gtr .u8 fkT (.ci 10)))))))
abbrev noInfo : Tm := .not (.sb .neq (.app 646 tN) (.cs []))
/-- The next frame: an information, one that asks, or an answer, with the bit only if it is due so. -/
def factN : Tm := .and (orT (.not (.app 652 tN)) (vt 29)) (orT (.not (.app 647 tN)) (orT (.and (isK (.app 642 tN) 7) (.and (.app 641 tN) (.not (.app 643 tN))))
  (orT (.and (orT (isK (.app 642 tN) 8) (isK (.app 642 tN) 9)) (.and (.app 641 tN) (.and (.app 643 tN) noInfo)))
    (.and (orT (isK (.app 642 tN) 8) (orT (isK (.app 642 tN) 9) (isK (.app 642 tN) 10))) (.and (.not (.app 641 tN)) (.and (.not (.app 652 tN)) (.and noInfo (orT (.not (.app 643 tN)) (vt 29)))))))))
def factOf (es : Eqs) : Tm := bif isFr es 8 soA frHear then factH else bif isFr es 8 soA frNext then factN else .cb true
/-! ### the equations -/
def eqOk (F : Fc) (all : Eqs) : Eqs → Bool
  | [] => true
  | (s, .var n, t) :: l => Nat.blt n 43 && (bif Nat.blt n 3 then t.eqv (.var n) else match outE all n with
    | some (s', u) => eqSrB s s' && t.eqv u
    | none => false) && eqOk F all l
  | (_, .llen (.var n), t) :: l => Nat.beq n 42 && (match outE all n with
    | some (.sL, u) => t.eqv (.llen u)
    | _ => false) && eqOk F all l
  | _ :: _ => false
/-- A row's kinds are octets. -/
def rowZ (F : Fc) (ts : List Tm) : Bool := match nthT ts 0, nthT ts 3 with
  | some t, some u => inZ F t 0 255 && inZ F u 0 255
  | _, _ => false
def pEv (es : Eqs) (F : Fc) : Bool := match outE es 42 with
  | some (.sL, .var n) => Nat.beq n 42 && pNo es F
  | some (.sL, .lapp (.var n) (.row c)) => Nat.beq n 42 && chainT c && Nat.beq (cellsT c).length 8 && rowZ F (cellsT c) && chkT (pJ es) (subT (sgE (cellsT c)) tJ) F
  | _ => false
def idxOk (es : Eqs) : Bool := match outE es 3 with
  | some (.sI, t) => t.eqv (.ib .add .i64 (vt 3) (.ci 1))
  | _ => false
def pRun (p : AX × Option Eqs) (F : Fc) : Bool := match p.1, p.2 with
  | .normal, some es => eqOk F es es && idxOk es && (isFr es 8 soA frSame || isFr es 8 soA frHear || isFr es 8 soA frNext || isFr es 8 soA frTick || isFr es 8 soA frNew) && (lrnL (factOf es) true F).all (pEv es)
  | _, _ => false
/-- Letters below 44, functions below 2048. -/
def cloQ : Eqs → Bool
  | [] => true
  | (_, x, t) :: l => clo 44 2048 x && clo 44 2048 t && cloQ l
def cloR : Tree (AX × Option Eqs) → Bool
  | .fail => true
  | .leaf p => match p.2 with
    | none => true
    | some es => cloQ es
  | .fork c x y => clo 44 2048 c && (cloR x && cloR y)
/-- What is known ahead of a round: the state; b: a command is due; d: a poll is not answered. -/
def F0L (s : Int) (b d : Bool) : Fc := ⟨(4, s) :: bif b then [] else [(37, 0)], (bif b then [(39, true)] else []) ++ (bif eqZ s 3 then (bif d then [(43, true)] else [(29, false)]) else [(43, false), (29, false)]),
  [(.ib .lss .i64 (vt 3) (.llen (vt 0)), true), (.and (.ib .leq .i64 (.ci 0) (vt 3)) (.ib .lss .i64 (vt 3) (.llen (vt 0))), true), (.ib .lss .i64 (.llen (vt 42)) (.ci 4294967295), true), (.app 724 tH, true), (.app 655 tN, true), (.app 581 tP, true), (.app 905 tT, true)],
  [(vt 4, 1, 5), (vt 7, 0, 255), (fkT, 0, 255), (vt 32, 0, 3), (vt 37, 0, 4)], [(vt 32, 1), (vt 37, 2), (vt 37, 3)], false⟩
end
end Go.Proofs.Ytlbkficdelepeaa.Ab
