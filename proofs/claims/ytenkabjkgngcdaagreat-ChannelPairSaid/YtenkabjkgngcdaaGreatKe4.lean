import Derived.Test.YtenkabjkgngcdaaGreatKe3
import Derived.Test.YtenkabjkgngcdaaGreatKc3
set_option linter.unusedVariables false
set_option linter.unusedSimpArgs false
set_option linter.unusedSectionVars false
namespace Go.Proofs.YtenkabjkgngcdaaGreat.Ab
open Go
def isG (i : List UInt8) : Bool := !(i == []) && decide (zDm i 0 = 17)
def zEM (w : Bool) (i : List UInt8) : Bool := !(i == []) && (decide ((iop .andNot .u8 (zDm i 0) 192).asI = 1) && !(w == ((iop .and .u8 (zDm i 0) 128).asI != 0)))
def zPw (i : List UInt8) : Bool := (iop .and .u8 (zDm i 0) 64).asI == 0
def jn : Bool → List (List UInt8) → Option Bool
 | w, [] => some w
 | w, i :: l => if isG i = true then jn w l else if zEM w i = true then jn (zPw i) l else none
def pay (i : List UInt8) : List UInt8 := if isG i = true then [] else zC4 i
def pays (l : List (List UInt8)) : List UInt8 := l.flatMap pay
def gr (i : List UInt8) : Int := if isG i = true then zHQ i else 0
def grs : List (List UInt8) → Int
 | [] => 0
 | i :: l => gr i + grs l
theorem zBr (a b : List (List UInt8)) : pays (a ++ b) = pays a ++ pays b := by unfold pays; rw [List.flatMap_append]
theorem zCS (i : List UInt8) : pays [i] = pay i := by unfold pays; simp
theorem zES : ∀ (a b : List (List UInt8)), grs (a ++ b) = grs a + grs b
 | [], b => by simp [grs]
 | i :: l, b => by simp only [List.cons_append, grs, zES l b]; omega
theorem zF6 : ∀ (a : List (List UInt8)) (w : Bool) (b : List (List UInt8)), jn w (a ++ b) = (jn w a).bind fun v => jn v b
 | [], w, b => rfl
 | i :: l, w, b => by
  simp only [List.cons_append, jn];split
  ·exact zF6 l w b
  ·split
   ·exact zF6 l _ b
   ·rfl
theorem zIn (i : List UInt8) : zC4 i = i.drop 1 := by
 unfold zC4 zBl;rw [show ((1 : Int)).toNat = 1 from rfl, Int.toNat_natCast, List.take_of_length_le (by rw [List.length_drop]; omega)]
theorem zRC {g : Int} : isG (zAN g) = true := rfl
theorem zIp {g : Int} (h0 : 0 ≤ g) (h1 : g ≤ 4096) : zHQ (zAN g) = g := by
 obtain ⟨n, rfl⟩ : ∃ n : Nat, g = n := ⟨g.toNat, by omega⟩
 have hn : n ≤ 4096 := by omega
 have e1 : (IntKind.u8.wrap ((n : Int).fdiv 256)) = ((n / 256 : Nat) : Int) := by
  rw [show (n : Int).fdiv 256 = ((n / 256 : Nat) : Int) by rw [Int.fdiv_eq_ediv_of_nonneg _ (by omega)]; rfl]
  simp [IntKind.wrap, IntKind.signed, IntKind.bits];omega
 have e2 : (IntKind.u8.wrap (n : Int)) = ((n % 256 : Nat) : Int) := by
  simp [IntKind.wrap, IntKind.signed, IntKind.bits]
 unfold zHQ zAN;rw [e1, e2];have a1 : zDm [17, UInt8.ofNat ((n / 256 : Nat) : Int).toNat, UInt8.ofNat ((n % 256 : Nat) : Int).toNat] 1 = ((n / 256 : Nat) : Int) := by
  show (((UInt8.ofNat ((n / 256 : Nat) : Int).toNat).toNat : Nat) : Int) = _;rw [Int.toNat_natCast, UInt8.toNat_ofNat'];omega
 have a2 : zDm [17, UInt8.ofNat ((n / 256 : Nat) : Int).toNat, UInt8.ofNat ((n % 256 : Nat) : Int).toNat] 2 = ((n % 256 : Nat) : Int) := by
  show (((UInt8.ofNat ((n % 256 : Nat) : Int).toNat).toNat : Nat) : Int) = _;rw [Int.toNat_natCast, UInt8.toNat_ofNat'];omega
 rw [a1, a2];have key : ∀ q : Nat, q ≤ 16 → ∀ r : Nat, r < 256 → (iop .or .i64 (iop .shl .i64 (IntKind.i64.wrap ((q : Nat) : Int)) 8).asI (IntKind.i64.wrap ((r : Nat) : Int))).asI = ((256 * q + r : Nat) : Int) := by
  decide +kernel
 rw [key (n / 256) (by omega) (n % 256) (by omega)]
 congr 1; omega
theorem zWc (m : List UInt8) : isG (129 :: m) = false ∧ zEM false (129 :: m) = true ∧ zPw (129 :: m) = true ∧ pay (129 :: m) = m := by
 have h : isG (129 :: m) = false := rfl;refine ⟨h, by kernel_rfl, by kernel_rfl, ?_⟩
 unfold pay; rw [h]; exact zIn _
theorem xDc (m : List UInt8) : isG (1 :: m) = false ∧ zEM true (1 :: m) = true ∧ zPw (1 :: m) = true ∧ pay (1 :: m) = m := by
 have h : isG (1 :: m) = false := rfl;refine ⟨h, by kernel_rfl, by kernel_rfl, ?_⟩
 unfold pay; rw [h]; exact zIn _
theorem zWb (m : List UInt8) : isG (193 :: m) = false ∧ zEM false (193 :: m) = true ∧ zPw (193 :: m) = false ∧ pay (193 :: m) = m := by
 have h : isG (193 :: m) = false := rfl;refine ⟨h, by kernel_rfl, by kernel_rfl, ?_⟩
 unfold pay; rw [h]; exact zIn _
theorem zZd (m : List UInt8) : isG (65 :: m) = false ∧ zEM true (65 :: m) = true ∧ zPw (65 :: m) = false ∧ pay (65 :: m) = m := by
 have h : isG (65 :: m) = false := rfl;refine ⟨h, by kernel_rfl, by kernel_rfl, ?_⟩
 unfold pay; rw [h]; exact zIn _
theorem xB4 : b8 (bits BinOp.or IntKind.u8 (129 : UInt8).toNat 64) = 193 := by decide +kernel
theorem xGR : b8 (bits BinOp.or IntKind.u8 (1 : UInt8).toNat 64) = 65 := by decide +kernel
theorem zNM {k : Nat} (hk : 1 ≤ k) : ∀ (f : Nat) (m : List UInt8), m.length ≤ f →
  (jn false (zAx k f 129 m) = some false ∧ jn true (zAx k f 1 m) = some false) ∧ (pays (zAx k f 129 m) = m ∧ pays (zAx k f 1 m) = m) ∧
  ((∀ i ∈ zAx k f 129 m, i.length ≤ k + 1 ∧ isG i = false) ∧ (∀ i ∈ zAx k f 1 m, i.length ≤ k + 1 ∧ isG i = false))
 | 0, m, h => by
  obtain rfl := List.eq_nil_of_length_eq_zero (Nat.le_zero.1 h);have e1 : zAx k 0 129 [] = [[193]] := by
   show [b8 (bits BinOp.or IntKind.u8 (129 : UInt8).toNat 64) :: []] = _;rw [xB4]
  have e2 : zAx k 0 1 [] = [[65]] := by
   show [b8 (bits BinOp.or IntKind.u8 (1 : UInt8).toNat 64) :: []] = _;rw [xGR]
  rw [e1, e2];refine ⟨⟨rfl, rfl⟩, ⟨rfl, rfl⟩, fun i hi => ?_, fun i hi => ?_⟩
  ·obtain rfl := List.mem_singleton.1 hi;exact ⟨by simp, rfl⟩
  ·obtain rfl := List.mem_singleton.1 hi;exact ⟨by simp, rfl⟩
 | f + 1, m, h => by
  cases hc : Nat.blt k m.length with
  | true =>
   have hc' : k < m.length := zSm hc;obtain ⟨⟨i1, i2⟩, ⟨i3, i4⟩, i5, i6⟩ := zNM hk f (m.drop k) (by rw [List.length_drop]; omega)
   have e1 : zAx k (f + 1) 129 m = (129 :: m.take k) :: zAx k f 1 (m.drop k) := by
    show (bif Nat.blt k m.length then _ else _) = _
    rw [hc]; rfl
   have e2 : zAx k (f + 1) 1 m = (1 :: m.take k) :: zAx k f 1 (m.drop k) := by
    show (bif Nat.blt k m.length then _ else _) = _
    rw [hc]; rfl
   obtain ⟨a1, a2, a3, a4⟩ := zWc (m.take k);obtain ⟨b1, b2, b3, b4⟩ := xDc (m.take k);rw [e1, e2];refine ⟨⟨?_, ?_⟩, ⟨?_, ?_⟩, fun i hi => ?_, fun i hi => ?_⟩
   ·simp only [jn, a1, a2, a3]; simpa using i2
   ·simp only [jn, b1, b2, b3]; simpa using i2
   ·show pay _ ++ pays _ = _;rw [a4, i4, List.take_append_drop]
   ·show pay _ ++ pays _ = _;rw [b4, i4, List.take_append_drop]
   ·rcases List.mem_cons.1 hi with rfl | hi
    ·exact ⟨by rw [List.length_cons, List.length_take]; omega, a1⟩
    ·exact i6 i hi
   ·rcases List.mem_cons.1 hi with rfl | hi
    ·exact ⟨by rw [List.length_cons, List.length_take]; omega, b1⟩
    ·exact i6 i hi
  | false =>
   have hc' : ¬ k < m.length := fun h => by rw [zM8 h] at hc; cases hc
   have e1 : zAx k (f + 1) 129 m = [193 :: m] := by
    show (bif Nat.blt k m.length then _ else [b8 (bits BinOp.or IntKind.u8 (129 : UInt8).toNat 64) :: m]) = _
    rw [hc, xB4]; rfl
   have e2 : zAx k (f + 1) 1 m = [65 :: m] := by
    show (bif Nat.blt k m.length then _ else [b8 (bits BinOp.or IntKind.u8 (1 : UInt8).toNat 64) :: m]) = _
    rw [hc, xGR]; rfl
   obtain ⟨a1, a2, a3, a4⟩ := zWb m;obtain ⟨b1, b2, b3, b4⟩ := zZd m;rw [e1, e2];refine ⟨⟨?_, ?_⟩, ⟨?_, ?_⟩, fun i hi => ?_, fun i hi => ?_⟩
   ·simp only [jn, a1, a2, a3]; simp
   ·simp only [jn, b1, b2, b3]; simp
   ·rw [zCS, a4]
   ·rw [zCS, b4]
   ·obtain rfl := List.mem_singleton.1 hi;exact ⟨by rw [List.length_cons]; omega, a1⟩
   ·obtain rfl := List.mem_singleton.1 hi;exact ⟨by rw [List.length_cons]; omega, b1⟩
end Go.Proofs.YtenkabjkgngcdaaGreat.Ab
