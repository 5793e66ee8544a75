/-
  ArqEnds: what is reckoned along its loops.
  No condition: definitions.
-/
import Derived.Test.YtlbkficdelepeaaEnF
import Derived.Test.YtlbkficdelepeaaLaw
namespace Go.Proofs.Ytlbkficdelepeaa.Ab
set_option linter.unusedSimpArgs false
set_option linter.unusedVariables false
open Go
noncomputable section
def runD (y : List Dat) : Option (List Dat) := match nowF 61 (y.take 59 ++ [.dI 0, .dB false]) nDeF with
  | some (.normal, z1) => (match nowF 61 z1 nDfF with
    | some (.normal, z2) => (match nowF 61 z2 nDgF with
      | some (.exit 2, z3) => some z3
      | _ => none)
    | _ => none)
  | _ => none
def runC : Nat → List Dat → Option (List Dat)
  | 0, _ => none
  | f + 1, y => match runD y with
    | some z => (match nowF 60 y (nowF 61 z nCeG) with
      | some (.normal, y') => runC f y'
      | some (.ret, y') => some y'
      | _ => none)
    | none => none
def runB (t1 : Dat) : Nat → List Dat → Option (List Dat)
  | 0, _ => none
  | f + 1, x => match runC 100 (x.take 59 ++ [.dI 0]) with
    | some y => (match nowF 60 x (nowF 60 y (nBeG t1)) with
      | some (.normal, x') => runB t1 f x'
      | some (.exit 2, x') => some x'
      | _ => none)
    | none => none
def runA (l : Dat) : Nat → List Dat → Option (List Dat)
  | 0, _ => none
  | f + 1, a => match nowF 60 a (nAeF l) with
    | some (.normal, a') => runA l f a'
    | some (.exit 0, a') => some a'
    | _ => none
def side0 (k n2 t1 : Dat) : List Dat := [.dI 0, .dI 0, .dI 0, .dI 0, .dI 0, .dI 0, .dI 0, .dB false, .dB false, .dB false, .dB false, .dB false, .dB false, k, n2, t1, .dI 0, .dI 0, .dB false, .dI 0, .dB false, .dB false, .dB false, .dB false]
/-- The first letters of the steps. -/
def a0E (k n2 t1 : Dat) : List Dat := .dI 0 :: (side0 k n2 t1 ++ (side0 k n2 t1 ++ [.dI 0, .dI 0, .dI 0, .dI 0, .dB false, .dI 0, .dI 0, .dB false, .dI 0, .dI 0, .dB false]))
/-- Does the law end well? -/
def endsB (L k n2 t1 : Dat) : Bool := match runA L 250 (a0E k n2 t1) with
  | some a => (match runB t1 100 (nowF 60 a x0F) with
    | some x => (match runC 100 (x.take 59 ++ [.dI 0]) with
      | some y => nowF 60 a (nowF 60 y (nEnG L k n2 t1))
      | none => false)
    | none => false)
  | none => false
/-- The same of rows as an argument reads them. -/
def endsN (l : List Dat) : Bool := endsB (.dL (normL shPr (l.getD 0 (.dI 0)).asL)) (.dI (l.getD 1 (.dI 0)).asI) (.dI (l.getD 2 (.dI 0)).asI) (.dI (l.getD 3 (.dI 0)).asI)
/-- The kinds of a call's cells. -/
def shPl : List Kd := [.ki .u8, .ki .u8, .kb, .ki .u8, .kb, .ki .u8, .ki .u8, .ks]
end
end Go.Proofs.Ytlbkficdelepeaa.Ab
