/-
  ArqKnown: its trees as plain functions; what is reckoned along its loops.
  No condition: definitions.
-/
import Derived.Test.YtlbkficdelepeaaEnR
namespace Go.Proofs.Ytlbkficdelepeaa.Ab
set_option linter.unusedSimpArgs false
set_option linter.unusedVariables false
open Go
set_option linter.unusedVariables false
noncomputable section
def nBkF (v0 v1 v2 v3 : Dat) : Option (AX × List Dat) :=
 bif (iop .lss .i64 v1.asI ((.dI 24) : Dat).asI).asB then (
  let t0 : Dat := (iop .rem .i64 (iop .add .i64 (iop .add .i64 (iop .mul .i64 v0.asI ((.dI 31) : Dat).asI).asI (iop .mul .i64 (iop .mul .i64 v1.asI v1.asI).asI ((.dI 7) : Dat).asI).asI).asI (iop .mul .i64 v1.asI v0.asI).asI).asI ((.dI 997) : Dat).asI)
  bif (iop .lss .i64 (iop .rem .i64 t0.asI ((.dI 5) : Dat).asI).asI ((.dI 3) : Dat).asI).asB then (
   let t1 : Dat := (iop .lss .i64 ((.dI (v2.asL.length : Int)) : Dat).asI ((.dI 4294967295) : Dat).asI)
   bif t1.asB then (
    let t2 : Dat := (iop .lss .i64 ((.dI (v3.asL.length : Int)) : Dat).asI ((.dI 4294967295) : Dat).asI)
    bif t2.asB then (
     let t3 : Dat := (iop .add .i64 v1.asI ((.dI 1) : Dat).asI)
     let t4 : Dat := (iop .quo .i64 t0.asI ((.dI 7) : Dat).asI)
     let t5 : Dat := (iop .eql .i64 (iop .rem .i64 t0.asI ((.dI 2) : Dat).asI).asI ((.dI 0) : Dat).asI)
     let t6 : Dat := (iop .rem .i64 t0.asI ((.dI 4) : Dat).asI)
     let t7 : Dat := (iop .add .i64 ((.dI 7) : Dat).asI t6.asI)
     let t8 : Dat := (iop .eql .i64 (iop .rem .i64 t0.asI ((.dI 3) : Dat).asI).asI ((.dI 0) : Dat).asI)
     let t9 : Dat := (iop .rem .i64 t0.asI ((.dI 8) : Dat).asI)
     let t10 : Dat := (iop .rem .i64 (iop .quo .i64 t0.asI ((.dI 64) : Dat).asI).asI ((.dI 2) : Dat).asI)
     let t11 : Dat := (iop .quo .i64 t0.asI ((.dI 5) : Dat).asI)
     let t12 : Dat := (iop .eql .i64 t6.asI ((.dI 0) : Dat).asI)
     some (.normal, [(.dI t3.asI), (.dL (v2.asL ++ ((.dL [[(.dI (IntKind.wrap .u8 t4.asI)), (.dI 0), t5, (.dI (IntKind.wrap .u8 t7.asI)), t8, (.dI (IntKind.wrap .u8 t9.asI)), (.dI (IntKind.wrap .u8 t10.asI)), (.dS [105])]]) : Dat).asL)), (.dL (v3.asL ++ ((.dL [[(.dI (IntKind.wrap .u8 t11.asI)), t5, t12]]) : Dat).asL))]))
    else (
     none))
   else (
    none))
  else (
   let t1 : Dat := (iop .lss .i64 ((.dI (v2.asL.length : Int)) : Dat).asI ((.dI 4294967295) : Dat).asI)
   bif t1.asB then (
    let t2 : Dat := (iop .lss .i64 ((.dI (v3.asL.length : Int)) : Dat).asI ((.dI 4294967295) : Dat).asI)
    bif t2.asB then (
     let t3 : Dat := (iop .add .i64 v1.asI ((.dI 1) : Dat).asI)
     let t4 : Dat := (iop .quo .i64 t0.asI ((.dI 7) : Dat).asI)
     let t5 : Dat := (iop .eql .i64 (iop .rem .i64 t0.asI ((.dI 2) : Dat).asI).asI ((.dI 0) : Dat).asI)
     let t6 : Dat := (iop .rem .i64 t0.asI ((.dI 4) : Dat).asI)
     let t7 : Dat := (iop .add .i64 ((.dI 7) : Dat).asI t6.asI)
     let t8 : Dat := (iop .eql .i64 (iop .rem .i64 t0.asI ((.dI 3) : Dat).asI).asI ((.dI 0) : Dat).asI)
     let t9 : Dat := (iop .rem .i64 t0.asI ((.dI 8) : Dat).asI)
     let t10 : Dat := (iop .rem .i64 (iop .quo .i64 t0.asI ((.dI 3) : Dat).asI).asI ((.dI 8) : Dat).asI)
     let t11 : Dat := (iop .quo .i64 t0.asI ((.dI 5) : Dat).asI)
     let t12 : Dat := (iop .eql .i64 t6.asI ((.dI 0) : Dat).asI)
     some (.normal, [(.dI t3.asI), (.dL (v2.asL ++ ((.dL [[(.dI (IntKind.wrap .u8 t4.asI)), (.dI 0), t5, (.dI (IntKind.wrap .u8 t7.asI)), t8, (.dI (IntKind.wrap .u8 t9.asI)), (.dI (IntKind.wrap .u8 t10.asI)), (.dS [105])]]) : Dat).asL)), (.dL (v3.asL ++ ((.dL [[(.dI (IntKind.wrap .u8 t11.asI)), t5, t12]]) : Dat).asL))]))
    else (
     none))
   else (
    none)))
 else (
  some (.exit 2, [(.dI 0), (.dL v2.asL), (.dL v3.asL)]))
def nAkF (v0 v1 v2 v3 : Dat) : Option (AX × List Dat) :=
 bif (iop .lss .i64 v0.asI ((.dI 400) : Dat).asI).asB then (
  bif ((.dB ((iop .eql .i64 ((.dI (((.dB false) : Dat).asL.length : Int)) : Dat).asI ((.dI 0) : Dat).asI).asB && (iop .eql .i64 ((.dI (((.dB false) : Dat).asL.length : Int)) : Dat).asI ((.dI 0) : Dat).asI).asB)) : Dat).asB then (
   bif ((.dB (rngL shPl v2.asL)) : Dat).asB then (
    bif (iop .eql .i64 (iop .rem .i64 v0.asI ((.dI 4) : Dat).asI).asI ((.dI 0) : Dat).asI).asB then (
     bif ((.dB (rngL shPr v3.asL)) : Dat).asB then (
      bif ((.dB (((.dB (rngL shPr v3.asL)) : Dat).asB && ((.dB (endsN [v3, (iop .add .i64 ((.dI 1) : Dat).asI (iop .rem .i64 v0.asI ((.dI 7) : Dat).asI).asI), (iop .rem .i64 v0.asI ((.dI 5) : Dat).asI), (iop .add .i64 ((.dI 1) : Dat).asI (iop .rem .i64 v0.asI ((.dI 6) : Dat).asI).asI)])) : Dat).asB)) : Dat).asB then (
       some (.normal, [(.dI (iop .add .i64 v0.asI ((.dI 1) : Dat).asI).asI)]))
      else (
       none))
     else (
      none))
    else (
     some (.normal, [(.dI (iop .add .i64 v0.asI ((.dI 1) : Dat).asI).asI)])))
   else (
    none))
  else (
   none))
 else (
  some (.exit 0, [(.dI 0)]))
def runK (i : Dat) : Nat → List Dat → Option (List Dat)
  | 0, _ => none
  | f + 1, v => match nowF 3 v (nBkF i) with
    | some (.normal, v') => runK i f v'
    | some (.exit 2, v') => some v'
    | _ => none
def v0K : List Dat := [.dI 0, .dB false, .dB false]
/-- Is all right with number i? -/
def okI (i : Nat) : Bool := match runK (.dI (i : Int)) 30 v0K with
  | some v => nowL v fun v => (match apF 3 0 v (nAkF (.dI (i : Int))) with
    | some (.normal, [.dI n]) => eqZ n ((i + 1 : Nat) : Int)
    | _ => false)
  | none => false
def okX (i : Nat) : Bool := match runK (.dI (i : Int)) 30 v0K with
  | some v => nowL v fun v => (match apF 3 0 v (nAkF (.dI (i : Int))) with
    | some (.exit 0, _) => true
    | _ => false)
  | none => false
def okR (a n : Nat) : Bool := @Nat.rec (fun _ => Bool) true (fun k r => okI (a + k) && r) n
end
end Go.Proofs.Ytlbkficdelepeaa.Ab
