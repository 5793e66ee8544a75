/-
  EaBack, called: it returns true and makes at most new blocks.
  Conditions: arguments as the model reads them.
-/
import Derived.Test.YtmnflfjcfkblbaaEaBack1f
import Derived.Test.YtmnflfjcfkblbaaEaBack1t
import Derived.Test.YtmnflfjcfkblbaaEaBack2f
import Derived.Test.YtmnflfjcfkblbaaEaBack2t
namespace Go.Proofs.Ytmnflfjcfkblbaa
set_option linter.unusedSimpArgs false
set_option linter.unusedVariables false
open Go.RowKit

theorem eaBack_in (n : Int) (h0 : 0 ≤ n) (h1 : n ≤ 32767) (a d : Int) (c k : Bool) (hs : spl a = (d, c, k)) (hk : k = (a % 2 == 1)) (hda : k = true → 0 ≤ d ∧ d ≤ 255 ∧ adr d c = a) (a0 : 0 ≤ a) (a1 : a ≤ 255) (l : List UInt8) (hl : l.length ≤ 1000) (w : World) :
    Calls Try.prog 5 #[.int .i64 n, .int .u8 a, .string (S l)] w fun e w' => e = .returned (.bool true) ∧ Below w.heap.size w w' := by
  have hmax : ∀ x : List UInt8, x.length ≤ l.length + 2 → x.length ≤ maxLen := fun x hx => by unfold maxLen; omega
  have hln := tk_ln n h0 h1 l
  rcases ln_len n h0 h1 with ⟨hlen, hnn⟩ | ⟨hlen, hnn⟩
  · rcases tail_all l with ht | ⟨m, hll, ht, hlm⟩ | ⟨m, hll, ht, hm⟩ | ⟨m, hll, ht, hm, hlm⟩
    · rcases k with _ | _
      · exact eaBack_1af n h0 h1 a d c hs hk.symm a0 a1 l hl hmax hln hlen hnn ht w
      · exact eaBack_1at n h0 h1 a d c hs hk.symm (hda rfl).1 (hda rfl).2.1 (hda rfl).2.2 a0 a1 l hl hmax hln hlen hnn ht w
    · rcases k with _ | _
      · exact eaBack_1bf n h0 h1 a d c hs hk.symm a0 a1 l hl hmax hln hlen hnn m hll (by omega) ht hlm w
      · exact eaBack_1bt n h0 h1 a d c hs hk.symm (hda rfl).1 (hda rfl).2.1 (hda rfl).2.2 a0 a1 l hl hmax hln hlen hnn m hll (by omega) ht hlm w
    · rcases k with _ | _
      · exact eaBack_1cf n h0 h1 a d c hs hk.symm a0 a1 l hl hmax hln hlen hnn m hll (by omega) ht hm w
      · exact eaBack_1ct n h0 h1 a d c hs hk.symm (hda rfl).1 (hda rfl).2.1 (hda rfl).2.2 a0 a1 l hl hmax hln hlen hnn m hll (by omega) ht hm w
    · rcases k with _ | _
      · exact eaBack_1df n h0 h1 a d c hs hk.symm a0 a1 l hl hmax hln hlen hnn m hll (by omega) ht hm (by simp; omega) hlm w
      · exact eaBack_1dt n h0 h1 a d c hs hk.symm (hda rfl).1 (hda rfl).2.1 (hda rfl).2.2 a0 a1 l hl hmax hln hlen hnn m hll (by omega) ht hm (by simp; omega) hlm w
  · rcases tail_all l with ht | ⟨m, hll, ht, hlm⟩ | ⟨m, hll, ht, hm⟩ | ⟨m, hll, ht, hm, hlm⟩
    · rcases k with _ | _
      · exact eaBack_2af n h0 h1 a d c hs hk.symm a0 a1 l hl hmax hln hlen hnn ht w
      · exact eaBack_2at n h0 h1 a d c hs hk.symm (hda rfl).1 (hda rfl).2.1 (hda rfl).2.2 a0 a1 l hl hmax hln hlen hnn ht w
    · rcases k with _ | _
      · exact eaBack_2bf n h0 h1 a d c hs hk.symm a0 a1 l hl hmax hln hlen hnn m hll (by omega) ht hlm w
      · exact eaBack_2bt n h0 h1 a d c hs hk.symm (hda rfl).1 (hda rfl).2.1 (hda rfl).2.2 a0 a1 l hl hmax hln hlen hnn m hll (by omega) ht hlm w
    · rcases k with _ | _
      · exact eaBack_2cf n h0 h1 a d c hs hk.symm a0 a1 l hl hmax hln hlen hnn m hll (by omega) ht hm w
      · exact eaBack_2ct n h0 h1 a d c hs hk.symm (hda rfl).1 (hda rfl).2.1 (hda rfl).2.2 a0 a1 l hl hmax hln hlen hnn m hll (by omega) ht hm w
    · rcases k with _ | _
      · exact eaBack_2df n h0 h1 a d c hs hk.symm a0 a1 l hl hmax hln hlen hnn m hll (by omega) ht hm (by simp; omega) hlm w
      · exact eaBack_2dt n h0 h1 a d c hs hk.symm (hda rfl).1 (hda rfl).2.1 (hda rfl).2.2 a0 a1 l hl hmax hln hlen hnn m hll (by omega) ht hm (by simp; omega) hlm w

theorem eaBack_walk (n : Int) (wn : (Lit.int .i64 n).wf = true) (a : Int) (wa : (Lit.int .u8 a).wf = true) (l : List UInt8) (hl : l.length ≤ maxLen) (w : World) :
    Calls Try.prog 5 #[.int .i64 n, .int .u8 a, .string (S l)] w fun e w' => e = .returned (.bool true) ∧ Below w.heap.size w w' := by
  obtain ⟨n0, n1⟩ := wf64 wn
  obtain ⟨a0, a1⟩ := wf8 wa
  clear wn wa
  unfold maxLen at hl
  by_cases h : 1000 < l.length
  · go_enter Try.func5, Try.ntmps5
    go_wp2_with (go_at_call 12; refine (ea_works _).mono ?_; rintro e w1 ⟨rfl, hb1⟩)
    go_ret
    exact ⟨rfl, hb1⟩
  · have hsp : ∃ d c k, spl a = (d, c, k) ∧ k = (a % 2 == 1) ∧ (k = true → 0 ≤ d ∧ d ≤ 255 ∧ adr d c = a) := by
      by_cases ha : a % 2 = 1
      · obtain ⟨e1, e2⟩ := spl_odd a a0 a1 ha
        exact ⟨_, _, _, e1, by simp [ha], fun _ => ⟨by omega, by omega, e2⟩⟩
      · refine ⟨0, false, false, by simp [spl]; omega, by simp [ha], fun h => by cases h⟩
    obtain ⟨d, c, k, hs, hk, hda⟩ := hsp
    by_cases hn : n < 0 ∨ 32767 < n
    · exact eaBack_out n hn n0 n1 a d c k hs hk hda a0 a1 l (by omega) w
    · exact eaBack_in n (by omega) (by omega) a d c k hs hk hda a0 a1 l (by omega) w
end Go.Proofs.Ytmnflfjcfkblbaa
