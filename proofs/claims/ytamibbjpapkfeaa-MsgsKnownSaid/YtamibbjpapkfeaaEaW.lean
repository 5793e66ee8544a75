/-
  The functions of layer 2 (ea) and of its reference, each called with any arguments: what it answers.
  Conditions: a number of an octet lies from 0 to 255; strings and numbers as the model has them.
-/
import Derived.Test.YtamibbjpapkfeaaBase
namespace Go.Proofs.Ytamibbjpapkfeaa
set_option linter.unusedSimpArgs false
set_option linter.unusedVariables false
open Go.RowKit

def adr (a : Int) (c : Bool) : Int := if 63 < a then 0 else a * 4 + (if c then 2 else 0) + 1
theorem or1 (a : Int) (h0 : 0 ≤ a) (h1 : a ≤ 63) : bits .or .u8 (a * 4) 1 = a * 4 + 1 := by
  have := all_u8 (p := fun a => a ≤ 63 → bits .or .u8 (a * 4) 1 = a * 4 + 1) (by decide +kernel) a h0 (by omega)
  exact this h1
theorem or2 (a : Int) (h0 : 0 ≤ a) (h1 : a ≤ 63) : bits .or .u8 (a * 4 + 1) 2 = a * 4 + 2 + 1 := by
  have := all_u8 (p := fun a => a ≤ 63 → bits .or .u8 (a * 4 + 1) 2 = a * 4 + 2 + 1) (by decide +kernel) a h0 (by omega)
  exact this h1

theorem ea_Address (a : Int) (c : Bool) (h0 : 0 ≤ a) (h1 : a ≤ 255) (w : World) :
    Calls Try.prog 53 #[.int .u8 a, .bool c] w fun e w' => e = .returned (.int .u8 (adr a c)) ∧ w = w' := by
  unfold adr
  by_cases h : 63 < a
  · go_enter Try.func53, Try.ntmps53
    go_wp2
    go_ret
    exact ⟨rfl, rfl⟩
  · have e1 := or1 a h0 (by omega)
    have e2 := or2 a h0 (by omega)
    cases c <;>
    · go_enter Try.func53, Try.ntmps53
      go_wp2
      go_ret
      exact ⟨by simp, rfl⟩

theorem eaR_bit (c : Bool) (w : World) :
    Calls Try.prog 61 #[.bool c] w fun e w' => e = .returned (.int .i64 (if c then 1 else 0)) ∧ w = w' := by
  cases c <;>
  · go_enter Try.func61, Try.ntmps61
    go_wp2
    go_ret
    exact ⟨rfl, rfl⟩

theorem eaR_Address (a : Int) (c : Bool) (h0 : 0 ≤ a) (h1 : a ≤ 255) (w : World) :
    Calls Try.prog 56 #[.int .u8 a, .bool c] w fun e w' => e = .returned (.int .u8 (adr a c)) ∧ w = w' := by
  unfold adr
  by_cases h : 63 < a
  · go_enter Try.func56, Try.ntmps56
    go_wp2
    go_ret
    exact ⟨rfl, rfl⟩
  · cases c <;>
    · go_enter Try.func56, Try.ntmps56
      go_wp2
      go_ret
      exact ⟨by simp; omega, rfl⟩

def spl (a : Int) : Int × Bool × Bool := if a % 2 = 0 then (0, false, false) else (a / 4, a / 2 % 2 == 1, true)

theorem ea_Split (a : Int) (h0 : 0 ≤ a) (h1 : a ≤ 255) (w : World) :
    Calls Try.prog 40 #[.int .u8 a] w fun e w' => e = .returned (.tuple #[.int .u8 (spl a).1, .bool (spl a).2.1, .bool (spl a).2.2]) ∧ w = w' := by
  have e1 : bits .and .u8 a 1 = a % 2 := all_u8 (p := fun a => bits .and .u8 a 1 = a % 2) (by decide +kernel) a h0 h1
  have e2 : (bits .and .u8 a 2 != 0) = (a / 2 % 2 == 1) := all_u8 (p := fun a => (bits .and .u8 a 2 != 0) = (a / 2 % 2 == 1)) (by decide +kernel) a h0 h1
  by_cases h : a % 2 = 0
  · have hb : (a % 2 == 0) = true := by simp [h]
    have hs : spl a = (0, false, false) := by simp [spl, h]
    rw [hs]
    have H := Lib.hid h; clear h
    go_enter Try.func40, Try.ntmps40
    go_wp2
    go_ret3
    exact ⟨rfl, rfl⟩
  · have hb : (a % 2 == 0) = false := by simp [h]
    have hs : spl a = (a / 4, a / 2 % 2 == 1, true) := by simp [spl, h]
    rw [hs]
    clear h
    go_enter Try.func40, Try.ntmps40
    go_wp2
    go_ret3
    exact ⟨rfl, rfl⟩

theorem adr_hit (a n k : Int) (n0 : 0 ≤ n) (n1 : n < 64) (k0 : 0 ≤ k) (k1 : k < 2) (h : (adr n (k == 1) == a) = true) : spl a = (n, k == 1, true) := by
  have hk : k = 0 ∨ k = 1 := by omega
  have hn : ¬ 63 < n := by omega
  rcases hk with rfl | rfl <;> simp [adr, hn] at h <;> subst h <;> unfold spl <;> rw [if_neg (by omega)]
  · rw [show (n * 4 + 1) / 4 = n from by omega, show (n * 4 + 1) / 2 % 2 = 0 from by omega]
  · rw [show (n * 4 + 2 + 1) / 4 = n from by omega, show (n * 4 + 2 + 1) / 2 % 2 = 1 from by omega]
theorem adr_miss (a n k : Int) (n0 : 0 ≤ n) (n1 : n < 64) (k0 : 0 ≤ k) (k1 : k < 2) (h : (adr n (k == 1) == a) = false) (ha : a % 2 = 1) : ¬ (n = a / 4 ∧ k = a / 2 % 2) := by
  have hk : k = 0 ∨ k = 1 := by omega
  have hn : ¬ 63 < n := by omega
  rcases hk with rfl | rfl <;> simp [adr, hn] at h <;> omega

set_option maxHeartbeats 400000 in
theorem eaR_Split (a : Int) (h0 : 0 ≤ a) (h1 : a ≤ 255) (w : World) :
    Calls Try.prog 46 #[.int .u8 a] w fun e w' => e = .returned (.tuple #[.int .u8 (spl a).1, .bool (spl a).2.1, .bool (spl a).2.2]) ∧ w = w' := by
  go_enter Try.func46, Try.ntmps46
  go_wp2
  go_loop [5] (fun d => ∃ n : Nat, n ≤ 64 ∧ d = .int .u8 n ∧ (a % 2 = 1 → (n : Int) ≤ a / 4)) (fun d => (64 - intOf d).toNat)
  case atStart => exact ⟨0, by omega, rfl, by omega⟩
  case round =>
    obtain ⟨n, hn, rfl, hna⟩ := hrel
    by_cases hlt : n < 64
    · have hw : IntKind.u8.wrap ((n : Int) + 1) = ((n + 1 : Nat) : Int) := by rw [IntKind.wrap_u8']; omega
      go_wp2
      go_loop [6] (fun k => ∃ m : Nat, m ≤ 2 ∧ k = .int .i64 m ∧ (a % 2 = 1 → (n : Int) = a / 4 → (m : Int) ≤ a / 2 % 2)) (fun k => (2 - intOf k).toNat)
      case atStart => exact ⟨0, by omega, rfl, by omega⟩
      case round =>
        obtain ⟨m, hm, rfl, hma⟩ := hrel
        by_cases hmlt : m < 2
        · rcases hb : (adr n ((m : Int) == 1) == a) with _ | _
          · have hmiss := adr_miss a n m (by omega) (by omega) (by omega) (by omega) hb
            have HM := Lib.hid hmiss; clear hmiss
            go_wp2_with (go_at_call 56; refine (eaR_Address _ _ (by omega) (by omega) _).mono ?_; rintro e w' ⟨rfl, rfl⟩)
            go_round
            case rel =>
              have := HM.out
              exact ⟨m + 1, by omega, by go_num, by omega⟩
            case measure => simp [intOf]; omega
          · have hs := adr_hit a n m (by omega) (by omega) (by omega) (by omega) hb
            have HS := Lib.hid hs; clear hs
            go_wp2_with (go_at_call 56; refine (eaR_Address _ _ (by omega) (by omega) _).mono ?_; rintro e w' ⟨rfl, rfl⟩)
            go_ret3
            exact ⟨by rw [HS.out]; rfl, rfl⟩
        · go_wp2
          go_round
          case rel => exact ⟨n + 1, by omega, by go_num, by omega⟩
          case measure => simp [intOf]; omega
    · have hs : spl a = (0, false, false) := by simp [spl]; omega
      have HS := Lib.hid hs; clear hs
      go_wp2
      go_ret3
      exact ⟨by rw [HS.out]; rfl, rfl⟩

/-- What the first octets say of a length. -/
def tk : List UInt8 → Int × Int × Int
  | [] => (0, 0, 20)
  | [x] => if ((x.toNat : Int) % 2 == 1) = true then ((x.toNat : Int) / 2, 1, 0) else (0, 0, 20)
  | x :: y :: _ => if ((x.toNat : Int) % 2 == 1) = true then ((x.toNat : Int) / 2, 1, 0) else ((x.toNat : Int) / 2 + 128 * (y.toNat : Int), 2, 0)
abbrev tkV (l : List UInt8) : Value := .tuple #[.int .i64 (tk l).1, .int .i64 (tk l).2.1, .int .i64 (tk l).2.2]

theorem and1 (x : UInt8) : bits .and .u8 (x.toNat : Int) 1 = (x.toNat : Int) % 2 :=
  all_u8 (p := fun a => bits .and .u8 a 1 = a % 2) (by decide +kernel) _ (by omega) (by have := x.toNat_lt; omega)
theorem and1n (x : UInt8) (c : Bool) (h : ((x.toNat : Int) % 2 == 1) = c) : (bits .and .u8 (x.toNat : Int) 1 != 0) = c := by
  rw [and1, ← h, Bool.eq_iff_iff]; simp; omega
theorem or_128 (x y : Int) (h0 : 0 ≤ x) (h1 : x ≤ 127) (h2 : 0 ≤ y) (h3 : y ≤ 255) : bits .or .i64 x (y * 128) = x + 128 * y := by
  rw [or_comm_i64, i64_join 7 (y * 128) x h0 (by omega) (by omega) (by omega) (by decide) (by omega)]; omega

theorem ea_Take (l : List UInt8) (hl : l.length ≤ maxLen) (w : World) :
    Calls Try.prog 34 #[.string (S l)] w fun e w' => e = .returned (tkV l) ∧ ∃ n, w.drewN n = w' := by
  unfold maxLen at hl
  match l, hl with
  | [], hl =>
    go_enter Try.func34, Try.ntmps34
    go_wp2
    go_ret3
    exact ⟨rfl, 0, rfl⟩
  | [x], hl =>
    have hx := x.toNat_lt
    rcases hb : ((x.toNat : Int) % 2 == 1) with _ | _
    all_goals
      have e1 := and1n x _ hb
      have hv : tk [x] = if ((x.toNat : Int) % 2 == 1) = true then ((x.toNat : Int) / 2, 1, 0) else (0, 0, 20) := rfl
      rw [hb] at hv; simp only [if_true, Bool.false_eq_true, if_false] at hv
      have HV := Lib.hid hv; clear hv hb
      go_enter Try.func34, Try.ntmps34
      go_wp2
      go_ret3
      exact ⟨by unfold tkV; rw [HV.out]; rfl, 0, rfl⟩
  | x :: y :: r, hl =>
    have hx := x.toNat_lt
    have hy := y.toNat_lt
    rcases hb : ((x.toNat : Int) % 2 == 1) with _ | _
    · have e1 := and1n x _ hb
      have hv : tk (x :: y :: r) = if ((x.toNat : Int) % 2 == 1) = true then ((x.toNat : Int) / 2, 1, 0) else ((x.toNat : Int) / 2 + 128 * (y.toNat : Int), 2, 0) := rfl
      rw [hb] at hv; simp only [if_true, Bool.false_eq_true, if_false] at hv
      have HV := Lib.hid hv; clear hv hb
      have e3 := or_128 ((x.toNat : Int) / 2) (y.toNat : Int) (by omega) (by omega) (by omega) (by omega)
      go_enter Try.func34, Try.ntmps34
      go_wp2
      go_quiet (fail)
      go_wp2
      go_ret3
      exact ⟨by unfold tkV; rw [HV.out]; rfl, _, rfl⟩
    · have e1 := and1n x _ hb
      have hv : tk (x :: y :: r) = if ((x.toNat : Int) % 2 == 1) = true then ((x.toNat : Int) / 2, 1, 0) else ((x.toNat : Int) / 2 + 128 * (y.toNat : Int), 2, 0) := rfl
      rw [hb] at hv; simp only [if_true, Bool.false_eq_true, if_false] at hv
      have HV := Lib.hid hv; clear hv hb
      go_enter Try.func34, Try.ntmps34
      go_wp2
      go_ret3
      exact ⟨by unfold tkV; rw [HV.out]; rfl, 0, rfl⟩

theorem eaR_Take (l : List UInt8) (hl : l.length ≤ maxLen) (w : World) :
    Calls Try.prog 43 #[.string (S l)] w fun e w' => e = .returned (tkV l) ∧ ∃ n, w.drewN n = w' := by
  unfold maxLen at hl
  match l, hl with
  | [], hl =>
    go_enter Try.func43, Try.ntmps43
    go_wp2
    go_ret3
    exact ⟨rfl, 0, rfl⟩
  | [x], hl =>
    have hx := x.toNat_lt
    rcases hb : ((x.toNat : Int) % 2 == 1) with _ | _
    all_goals
      have hv : tk [x] = if ((x.toNat : Int) % 2 == 1) = true then ((x.toNat : Int) / 2, 1, 0) else (0, 0, 20) := rfl
      rw [hb] at hv; simp only [if_true, Bool.false_eq_true, if_false] at hv
      have HV := Lib.hid hv; clear hv
      have e2 : ((x.toNat : Int) % 2 == 0) = !((x.toNat : Int) % 2 == 1) := by rw [Bool.eq_iff_iff]; simp; omega
      rw [hb] at e2
      go_enter Try.func43, Try.ntmps43
      go_wp2
      go_ret3
      exact ⟨by unfold tkV; rw [HV.out]; rfl, 0, rfl⟩
  | x :: y :: r, hl =>
    have hx := x.toNat_lt
    have hy := y.toNat_lt
    rcases hb : ((x.toNat : Int) % 2 == 1) with _ | _
    · have hv : tk (x :: y :: r) = if ((x.toNat : Int) % 2 == 1) = true then ((x.toNat : Int) / 2, 1, 0) else ((x.toNat : Int) / 2 + 128 * (y.toNat : Int), 2, 0) := rfl
      rw [hb] at hv; simp only [if_true, Bool.false_eq_true, if_false] at hv
      have HV := Lib.hid hv; clear hv
      have e2 : ((x.toNat : Int) % 2 == 0) = !((x.toNat : Int) % 2 == 1) := by rw [Bool.eq_iff_iff]; simp; omega
      rw [hb] at e2
      go_enter Try.func43, Try.ntmps43
      go_wp2
      go_quiet (fail)
      go_wp2
      go_ret3
      exact ⟨by unfold tkV; rw [HV.out]; rfl, _, rfl⟩
    · have hv : tk (x :: y :: r) = if ((x.toNat : Int) % 2 == 1) = true then ((x.toNat : Int) / 2, 1, 0) else ((x.toNat : Int) / 2 + 128 * (y.toNat : Int), 2, 0) := rfl
      rw [hb] at hv; simp only [if_true, Bool.false_eq_true, if_false] at hv
      have HV := Lib.hid hv; clear hv
      have e2 : ((x.toNat : Int) % 2 == 0) = !((x.toNat : Int) % 2 == 1) := by rw [Bool.eq_iff_iff]; simp; omega
      rw [hb] at e2
      go_enter Try.func43, Try.ntmps43
      go_wp2
      go_ret3
      exact ⟨by unfold tkV; rw [HV.out]; rfl, 0, rfl⟩

theorem infoU8 : (Try.prog.info? 5).map (fun i => (i.zero, i.size, i.bytes)) = some (some (.int .u8 0), 1, 1) := by kernel_rfl

set_option maxHeartbeats 400000 in
theorem ea_octets (b c : Nat) (ns : List Int) (w : World) (hn : ns.length ≤ 1000) (hb : b < w.heap.size) (h8 : ∀ x ∈ ns, 0 ≤ x ∧ x ≤ 255)
    (hc : ∀ j, j < ns.length → w.cell? ⟨b, j, none⟩ = some (.int .i64 (ns.getD j 0))) :
    Calls Try.prog 36 #[.slice (some ⟨b, 0, none⟩) ns.length c] w fun e w' => e = .returned (.string (S (ns.map b8))) ∧ Below w.heap.size w w' := by
  obtain ⟨n, hnn⟩ : ∃ n, n = ns.length := ⟨_, rfl⟩
  rw [← hnn] at hn hc ⊢
  have HN := Lib.hid hnn; clear hnn
  have hmk := make0 (P := Try.prog) 58 5 _ 1 Try.underlying58 infoU8 rfl n (by decide) (by omega)
  go_enter Try.func36, Try.ntmps36
  go_wp2
  go_loopw [3, 11] (fun v i wr => ∃ k : Nat, k ≤ n ∧ i = .int .i64 k ∧ wr.ownsRow w.heap.size 5 1 v k ((ns.take k).map (Value.int .u8)) ∧ Below w.heap.size w wr) (fun _ i _ => n - (intOf i).toNat)
  case atStart => exact ⟨0, by omega, rfl, by simpa using World.ownsRow_made w (madeCells #[Value.int .u8 0] n) n (Nat.le_refl _) (by unfold maxLen; omega) (by simp [size_madeCells]), (Below.refl _ _).alloc (Nat.le_refl _) _⟩
  case round =>
    obtain ⟨k, hk, rfl, hown, hbl⟩ := hrel
    by_cases hlt : k < n
    · have hcell : wr.cell? ⟨b, k, none⟩ = some (.int .i64 (ns.getD k 0)) := (hbl.cell (by exact hb)).trans (hc k hlt)
      obtain ⟨h80, h81⟩ := h8 (ns.getD k 0) (getD_mem ns 0 k (by have := HN.out; omega))
      have htk := take_getD ns 0 k (by have := HN.out; omega)
      generalize ns.getD k 0 = x at *
      have HT := Lib.hid htk; clear htk
      have hsz := hbl.size
      clear hc h8
      go_wp2_with (at_builtin; go_loud (refine append1 58 5 _ 1 Try.underlying58 infoU8 rfl (by decide) rfl (.tmp 15) (.tmp 18) rfl w.heap.size _ k _ (.int .u8 x) rfl hown rfl rfl rfl (by omega) (by omega) ?_); intro v' w1 hown1 hb1 hs1)
      go_roundw
      case rel => exact ⟨k + 1, by omega, by go_num, by rw [HT.out]; simpa using hown1, hbl.trans hb1⟩
      case measure => simp [intOf]; omega
    · obtain rfl : k = n := by omega
      rw [List.take_of_length_le (by have := HN.out; omega)] at hown
      have hcv := conv_own (P := Try.prog) wr 58 9 5 Try.underlying58 Try.underlying5 Try.underlying9 _ _ _ ns hown
      clear hc h8
      go_wp2
      go_ret
      exact ⟨rfl, hbl⟩
/-- The octets of a length. -/
def ln (n : Int) : List UInt8 := if n < 0 ∨ 32767 < n then [] else if n < 128 then [b8 (2 * n + 1)] else [b8 (2 * (n % 128)), b8 (n / 128)]

set_option maxHeartbeats 400000 in
theorem eaR_Length (n : Int) (w : World) :
    Calls Try.prog 58 #[.int .i64 n] w fun e w' => e = .returned (.string (S (ln n))) ∧ Below w.heap.size w w' := by
  by_cases h : n < 0
  · have hv : ln n = [] := by simp [ln, h]
    rw [hv]; clear hv
    go_enter Try.func58, Try.ntmps58
    go_wp2
    go_ret
    exact ⟨rfl, Below.refl _ _⟩
  by_cases h2 : 32767 < n
  · have hv : ln n = [] := by simp [ln, h2]
    rw [hv]; clear hv
    go_enter Try.func58, Try.ntmps58
    go_wp2
    go_ret
    exact ⟨rfl, Below.refl _ _⟩
  by_cases h3 : n < 128
  · have hv : ln n = [b8 (2 * n + 1)] := by simp [ln, h, h2, h3]
    rw [hv]; clear hv
    go_enter Try.func58, Try.ntmps58
    go_wp2
    go_ret
    exact ⟨rfl, (Below.refl _ _).alloc (Nat.le_refl _) _⟩
  · have hv : ln n = [b8 (2 * (n % 128)), b8 (n / 128)] := by simp [ln, h, h2, h3]
    rw [hv]; clear hv
    go_enter Try.func58, Try.ntmps58
    go_wp2
    go_ret
    exact ⟨rfl, (Below.refl _ _).alloc (Nat.le_refl _) _⟩

theorem ea_octets1 (x : Int) (c : Nat) (w : World) (h0 : 0 ≤ x) (h1 : x ≤ 255) :
    Calls Try.prog 36 #[.slice (some ⟨w.heap.size, 0, none⟩) 1 c] (w.alloc (.cells #[.int .i64 x] 3)) fun e w' => e = .returned (.string (S [b8 x])) ∧ Below w.heap.size w w' :=
  (ea_octets w.heap.size c [x] (w.alloc (.cells #[.int .i64 x] 3)) (by simp) (by simp) (by simp; omega) (fun j hj => by
    rw [World.cell?_alloc_at _ _ _ _ rfl]; simp at hj; subst hj; rfl)).mono fun _ _ ⟨he, hb⟩ => ⟨he, ((Below.refl _ _).alloc (Nat.le_refl _) _).trans (hb.mono (by simp))⟩
theorem ea_octets2 (x y : Int) (c : Nat) (w : World) (h0 : 0 ≤ x) (h1 : x ≤ 255) (h2 : 0 ≤ y) (h3 : y ≤ 255) :
    Calls Try.prog 36 #[.slice (some ⟨w.heap.size, 0, none⟩) 2 c] (w.alloc (.cells #[.int .i64 x, .int .i64 y] 3)) fun e w' => e = .returned (.string (S [b8 x, b8 y])) ∧ Below w.heap.size w w' :=
  (ea_octets w.heap.size c [x, y] (w.alloc (.cells #[.int .i64 x, .int .i64 y] 3)) (by simp) (by simp) (by simp; omega) (fun j hj => by
    rw [World.cell?_alloc_at _ _ _ _ rfl]; simp at hj; match j, hj with
    | 0, _ => rfl
    | 1, _ => rfl)).mono fun _ _ ⟨he, hb⟩ => ⟨he, ((Below.refl _ _).alloc (Nat.le_refl _) _).trans (hb.mono (by simp))⟩

set_option maxHeartbeats 400000 in
theorem ea_Length (n : Int) (w : World) :
    Calls Try.prog 21 #[.int .i64 n] w fun e w' => e = .returned (.string (S (ln n))) ∧ Below w.heap.size w w' := by
  by_cases h : n < 0
  · have hv : ln n = [] := by simp [ln, h]
    rw [hv]; clear hv
    go_enter Try.func21, Try.ntmps21
    go_wp2
    go_ret
    exact ⟨rfl, Below.refl _ _⟩
  by_cases h2 : 32767 < n
  · have hv : ln n = [] := by simp [ln, h2]
    rw [hv]; clear hv
    go_enter Try.func21, Try.ntmps21
    go_wp2
    go_ret
    exact ⟨rfl, Below.refl _ _⟩
  by_cases h3 : n < 128
  · have hv : ln n = [b8 (2 * n + 1)] := by simp [ln, h, h2, h3]
    rw [hv]; clear hv
    have e1 : bits .or .i64 (n * 2) 1 = 2 * n + 1 := by rw [i64_join 1 (n * 2) 1 (by omega) (by omega) (by omega) (by omega) (by decide) (by omega)]; omega
    go_enter Try.func21, Try.ntmps21
    go_wp2_with (go_at_call 36; refine (ea_octets1 _ _ _ (by omega) (by omega)).mono ?_; rintro e w' ⟨rfl, hb⟩)
    go_ret
    exact ⟨rfl, hb⟩
  · have hv : ln n = [b8 (n % 128 * 2), b8 (n / 128)] := by simp [ln, h, h2, h3, Int.mul_comm]
    rw [hv]; clear hv
    have e1 := i64_and127 n
    go_enter Try.func21, Try.ntmps21
    go_wp2_with (go_at_call 36; refine (ea_octets2 _ _ _ _ (by omega) (by omega) (by omega) (by omega)).mono ?_; rintro e w' ⟨rfl, hb⟩)
    go_ret
    exact ⟨rfl, hb⟩
end Go.Proofs.Ytamibbjpapkfeaa
