/-
  ConsoleTexts: what is said of a line that is none; a text, split.
  Conditions: as each theorem tells.
-/
import Derived.Test.YtnncgjhgmmdilaaGreatDoorCtH
import Derived.Test.YtnncgjhgmmdilaaGreatDoorRegion
namespace Go.Proofs.YtnncgjhgmmdilaaGreatDoor.Ab
set_option linter.unusedSimpArgs false
set_option linter.unusedVariables false
open Go Go.Proofs.YtnncgjhgmmdilaaGreatDoor
set_option linter.unusedSectionVars false
set_option linter.unusedSimpArgs false
set_option linter.unusedVariables false
noncomputable section
abbrev fItoa : FuncId := 38
set_option maxRecDepth 100000 in
theorem itoaT : (evFun Tryz.prog none0 1000 fItoa [.int .i64 300] HzC fun v _ => .leaf v : Tree AV) = .leaf (.str [51, 48, 48]) := by kernel_rfl
theorem itoa300 (w : World) (h : PinsAt w) : Calls Tryz.prog fItoa #[.int .i64 300] w fun e w' => e = .returned (.string (S [51, 48, 48])) ∧ RowKit.Below w.heap.size w w' := by
  letI ρ : Rho := ⟨fun _ => .dI 0, fun _ d => d⟩
  obtain ⟨r, d⟩ := pins_rep h
  exact call_val_at (evFun_ok noCount none0_ok 1000) (f := fItoa) (args := [.int .i64 300]) (H := HzC) rfl pins_ro (v := .str [51, 48, 48]) (by rw [itoaT]; rfl) rfl (cargs := [.int .i64 300]) ⟨_, _, rfl, rfl, rfl⟩ r d
/-! ### texts, split -/
abbrev strRow (l : List (List UInt8)) : AObj := .row (l.map AV.str) true true
/-- A row of texts reads alike wherever it stands. -/
theorem strRow_cut [ρ : Rho] {μ : Mu} {id : Nat} {w : World} {l : List (List UInt8)} {L : Loc} (hL : μ id = some L) (h : RepO μ id w (strRow l)) : L.nil = false ∧ L.b < w.heap.size ∧ ∀ (ρ' : Rho) (μ' : Mu) (id' : Nat), μ' id' = some L → @RepO ρ' μ' id' w (strRow l) := by
  obtain ⟨L', c, e, lo, hi, ⟨h1, hz⟩, h2, h3, h4, h5, h6, h7⟩ := h
  rw [hL] at h1; cases h1
  refine ⟨hz, (Array.getElem?_eq_some_iff.1 h2).1, fun ρ' μ' id' hm => ⟨L, c, e, lo, hi, ⟨hm, hz⟩, h2, h3, h4, h5, h6, fun i x hx => ?_⟩⟩
  obtain ⟨h8, y, h9, h10⟩ := h7 i x hx
  refine ⟨h8, y, h9, ?_⟩
  rw [List.getElem?_map] at hx
  obtain ⟨s, _, rfl⟩ := Option.map_eq_some_iff.1 hx
  exact h10
theorem split_new {s sep : List UInt8} {l : List (List UInt8)} {id n : Nat} {R : Heap} (ht : (evFun Tryz.prog envB0 1000 fSplit [.str s, .str sep] heap0 fun v R => .leaf (v, R) : Tree (AV × Heap)) = .leaf (.slice id 0 n (.known n), R)) (hg : R.get id = some (strRow l)) (w : World) :
    Calls Tryz.prog fSplit #[.string (S s), .string ⟨sep.toArray⟩] w fun e w' => ∃ L : Loc, L.nil = false ∧ w.heap.size ≤ L.b ∧ L.b < w'.heap.size ∧ e = .returned (.slice (some ⟨L.b, L.s, none⟩) n n) ∧ (∀ (ρ' : Rho) (μ' : Mu) (id' : Nat), μ' id' = some L → @RepO ρ' μ' id' w' (strRow l)) ∧ RowKit.Below w.heap.size w w' := by
  letI ρ : Rho := ⟨fun _ => .dI 0, fun _ d => d⟩
  obtain ⟨v', H', k1, _, k2, _⟩ := evFun_ok (α := AV × Heap) noCount envB0_ok 1000 fSplit [.str s, .str sep] heap0 (fun v R => .leaf (v, R)) (.slice id 0 n (.known n), R) heap0_pc (by rw [ht]; rfl)
  cases k1
  refine (k2 _ w [.string ⟨s.toArray⟩, .string ⟨sep.toArray⟩] ⟨_, _, rfl, ⟨_, _, rfl, rfl, rfl⟩, rfl⟩ (heap0_rep w) heap0_dom).mono fun e w' he => ?_
  obtain ⟨μ', c, rfl, ⟨L, hL, hc⟩, ev⟩ := he
  obtain ⟨z1, z2, z3⟩ := strRow_cut hL (ev.rep.obj id _ hg)
  have hold := (ev.old id L hL rfl).2
  refine ⟨L, z1, ?_, z2, ?_, z3, ev.os, ev.tape, ev.output, ev.size, fun k hk => ev.keep k hk fun m => ?_⟩
  · rcases hold with h | h | h
    · rw [z1] at h; cases h
    · exact h
    · obtain ⟨j, o, l, m1, _⟩ := h; cases m1
  · rw [hc]; rfl
  · obtain ⟨j, o, l, m1, _⟩ := m
    cases m1
set_option maxRecDepth 100000 in
theorem flyT : ∃ id R, (evFun Tryz.prog envB0 1000 fSplit [.str [102, 108, 121], .str [32]] heap0 fun v R => .leaf (v, R) : Tree (AV × Heap)) = .leaf (.slice id 0 1 (.known 1), R) ∧ R.get id = some (strRow [[102, 108, 121]]) := ⟨0, ⟨1, [(0, strRow [[102, 108, 121]])], [], []⟩, by kernel_rfl, rfl⟩
end
end Go.Proofs.YtnncgjhgmmdilaaGreatDoor.Ab
namespace Go.Proofs.YtnncgjhgmmdilaaGreatDoor
open Go Go.RowKit Go.Proofs.YtnncgjhgmmdilaaGreatDoor.Ab
abbrev fSay : FuncId := 32
theorem pins_B {B b : Nat} {w w' : World} (h : PinsAt w) (hB : 9 < B) (hb9 : 9 < b) (hb : KB B b w w') : PinsAt w' := by
  have key : ∀ {i : Nat} {k : IntKind} {l : List Int}, i < B → i ≠ b → CellsAt w i k l → CellsAt w' i k l := fun hlt hne hc => by
    obtain ⟨c, e, lo, hi, h1, h2⟩ := hc
    exact ⟨c, e, lo, hi, (hb.block _ hlt hne).trans h1, h2⟩
  exact ⟨key (by omega) (by omega) h.p, key (by omega) (by omega) h.o, key hB (by omega) h.h⟩
theorem bld_keep {B b : Nat} {p : Value} {bs : List Value} {w w' : World} (h : BldAt B b p bs w) (hb : Below w.heap.size w w') : BldAt B b p bs w' := by
  obtain ⟨v, hbk, hown, hne⟩ := h
  refine ⟨v, (hb.block b (Array.getElem?_eq_some_iff.1 hbk).1).trans hbk, ?_, hne⟩
  obtain ⟨h1, h2⟩ := hown
  refine ⟨h1, ?_⟩
  rcases h2 with h2 | ⟨g, cap, cur, e1, e2, e3, e4, e5, e6, e7⟩
  · exact .inl h2
  · exact .inr ⟨g, cap, cur, e1, e2, (hb.block g (Array.getElem?_eq_some_iff.1 e3).1).trans e3, e4, e5, e6, e7⟩
set_option maxHeartbeats 2000000 in
set_option maxRecDepth 100000 in
/-- The first text that is written. -/
theorem ws_first (B b : Nat) (s : ByteArray) (w : World) (hbk : w.heap[b]? = some (.cells #[.pointer none, .pointer none, .slice none 0 0] tPl (0, 0))) (hlen : s.size ≤ 1000) (hBw : B ≤ w.heap.size) :
    Calls Tryz.prog fWS #[.pointer (some ⟨b, 1, none⟩), .string s] w fun e w' => (∃ v, e = .returned v) ∧ BldAt B b (.pointer (some ⟨b, 1, none⟩)) (Lib.strCells s) w' ∧ KB B b w w' ∧ ∀ k, k < w.heap.size → k ≠ b → w'.heap[k]? = w.heap[k]? := by
  obtain ⟨i0, hi, hz0, hz1, hz2⟩ := info_parts inf8
  have c0 : w.cell? ⟨b, 1, none⟩ = some (.pointer none) := by rw [Lib.cell_of_heap hbk]; rfl
  have s0 : w.shape? b = some (tPl, 3) := by simp [World.shape?, hbk]
  obtain ⟨v0, hv0⟩ : ∃ v0, v0 = Value.slice none 0 0 := ⟨_, rfl⟩
  rw [← hv0] at hbk
  have hown0 : ∀ W : World, W.ownsRow B 5 1 v0 0 [] := fun W => by rw [hv0]; exact World.ownsRow_nil _ _ _ _
  have hob : ∀ k, v0.ownBlock ≠ some k := fun k e => by rw [hv0] at e; cases e
  clear hv0
  obtain ⟨w1, hw1⟩ : ∃ w1, w1 = w.setCell ⟨b, 1, none⟩ (.pointer (some ⟨b, 1, none⟩)) := ⟨_, rfl⟩
  have hlt : b < w.heap.size := (Array.getElem?_eq_some_iff.1 hbk).1
  have hb1 : w1.heap[b]? = some (.cells #[.pointer none, .pointer (some ⟨b, 1, none⟩), v0] tPl (0, 0)) := by
    rw [hw1]; simp [World.setCell, Array.getElem?_modify, hbk]
  have hs1 : w1.heap.size = w.heap.size := by rw [hw1]; simp [World.setCell]
  have ho1 : ∀ k, k ≠ b → w1.heap[k]? = w.heap[k]? := fun k hk => by rw [hw1]; exact Below.heap_setCell _ _ _ _ hk
  have hbel1 : KB B b w w1 := by rw [hw1]; exact (KB.refl B b w).setCell 1 _
  have c1 : w1.cell? ⟨b, 2, none⟩ = some v0 := by rw [Lib.cell_of_heap hb1]; rfl
  go_enter Tryz.func49, Tryz.ntmps49
  go_wp2_with (go_at_call 71; refine (cc_fresh b _ c0 s0 (Lib.frozen_of_heap hbk 1)).mono ?_)
  rintro e w1' ⟨rfl, hw1'⟩
  obtain rfl : w1' = w1 := hw1'.trans hw1.symm
  clear hw1' hw1
  go_wp2_with (at_builtin; refine Lib.wpList_append_own_string _ rfl _ _ 31 9 rfl B 5 i0 Tryz.underlying31 Tryz.underlying9 hi hz0 hz1 hz2 v0 0 [] rfl (hown0 _) s rfl ?c3 ?c4 ?c5 ?_)
  case c3 => unfold maxLen; omega
  case c4 => omega
  case c5 => omega
  intro v' w2 hown' hgrow _
  have hg : ∀ k, k < w1'.heap.size → w2.heap[k]? = w1'.heap[k]? := fun k hk => hgrow.block k hk (fun e => hob k e.symm)
  have hb2 : w2.heap[b]? = some (.cells #[.pointer none, .pointer (some ⟨b, 1, none⟩), v0] tPl (0, 0)) := (hg b (by omega)).trans hb1
  have d0 : w2.cell? ⟨b, 1, none⟩ = some (.pointer (some ⟨b, 1, none⟩)) := by rw [Lib.cell_of_heap hb2]; rfl
  have d1 : w2.cell? ⟨b, 2, none⟩ = some v0 := by rw [Lib.cell_of_heap hb2]; rfl
  have f1 : w2.frozen? ⟨b, 2, none⟩ = false := Lib.frozen_of_heap hb2 2
  obtain ⟨ao, n', cap, rfl⟩ : ∃ ao n' cap, v' = .slice ao n' cap := by
    rcases hown'.2 with ⟨hv, _⟩ | ⟨g, cap, cur, hv, _⟩
    · exact ⟨_, _, _, hv⟩
    · exact ⟨_, _, _, hv⟩
  go_wp2
  go_ret2
  refine ⟨⟨_, rfl⟩, ?_, ?_, fun k hk hne => ?_⟩
  · exact bld_put hb2 rfl (bs' := Lib.strCells s) (by simpa [Lib.strCells_length] using hown')
  · exact (hbel1.grown hgrow (by omega) (fun k hk => absurd hk (hob k))).setCell 2 _
  · exact (Below.heap_setCell _ _ _ _ hne).trans ((hg k (by omega)).trans (ho1 k hne))
set_option maxHeartbeats 2000000 in
set_option maxRecDepth 100000 in
/-- A line that is said by a player that said none: a word and 300. -/
theorem say_first (B b nb : Nat) (word : ByteArray) (w : World) (hbk : w.heap[b]? = some (.cells #[.pointer none, .pointer none, .slice none 0 0] tPl (0, 0))) (hlen : word.size ≤ 1000) (hBw : B ≤ w.heap.size) (h9 : 9 < B) (hb9 : 9 < b) (hp : PinsAt w)
    (hn : w.cell? ⟨nb, 0, none⟩ = some (.int .i64 300)) (hnb : nb < w.heap.size) (hne : nb ≠ b) :
    Calls Tryz.prog fSay #[.pointer (some ⟨b, 0, none⟩), .string word, .slice (some ⟨nb, 0, none⟩) 1 1] w fun e w' => e = .returned (.tuple #[]) ∧ BldAt B b (.pointer (some ⟨b, 1, none⟩)) (Lib.strCells word ++ Lib.strCells (S [32, 51, 48, 48]) ++ [.int .u8 10]) w' ∧ KB B b w w' := by
  letI ρ : Rho := ⟨fun _ => .dI 0, fun _ d => d⟩
  go_enter Tryz.func32, Tryz.ntmps32
  go_wp2_with (go_at_call 49; refine (ws_first B b word w hbk hlen hBw).mono ?_)
  rintro e w1 ⟨⟨v1, rfl⟩, k1, b1, f1⟩
  have hn1 : w1.cell? ⟨nb, 0, none⟩ = some (.int .i64 300) := by
    unfold World.cell? at hn ⊢
    simp only [f1 nb hnb hne]; exact hn
  go_wp2
  have hp1 : PinsAt w1.drew := pins_B (w' := w1.drew) hp h9 hb9 ⟨b1.os, b1.tape, b1.output, b1.size, b1.block⟩
  refine LoopE.wp (LoopE.step ?_)
  go_wp2
  refine reg_start (S := (fun _ => True)) 7 #[false, false, false, false, false, false, false] rfl rfl (by kernel_rfl) ?_ (fun hS => ?_)
  · (try trivial)
  (refine reg_take 0 (some 19) (v := ?_) rfl rfl (by kernel_rfl) (by kernel_rfl) (by kernel_rfl) (fun _ _ _ h => h) (by rfl) ?_ (by assumption) ?_; rotate_left 1; (· first | (intro W' hSw; (try dsimp only at hSw); go_simp; done) | (intro W' hSw; (try dsimp only at hSw); go_simp; with_reducible rfl)))
  try simp only [Act.put, List.setIfInBounds_toArray, List.set_cons_zero, List.set_cons_succ]
  (refine reg_take 1 (some 20) (v := ?_) rfl rfl (by kernel_rfl) (by kernel_rfl) (by kernel_rfl) (fun _ _ _ h => h) (by rfl) ?_ (by assumption) ?_; rotate_left 1; (· first | (intro W' hSw; (try dsimp only at hSw); go_simp; done) | (intro W' hSw; (try dsimp only at hSw); go_simp; with_reducible rfl)))
  try simp only [Act.put, List.setIfInBounds_toArray, List.set_cons_zero, List.set_cons_succ]
  (refine reg_take 2 (some 21) (v := ?_) rfl rfl (by kernel_rfl) (by kernel_rfl) (by kernel_rfl) (fun _ _ _ h => h) (by rfl) ?_ (by assumption) ?_; rotate_left 1; (· first | (intro W' hSw; (try dsimp only at hSw); go_simp; done) | (intro W' hSw; (try dsimp only at hSw); go_simp; with_reducible rfl)))
  try simp only [Act.put, List.setIfInBounds_toArray, List.set_cons_zero, List.set_cons_succ]
  (refine reg_take 3 (some 22) (v := ?_) rfl rfl (by kernel_rfl) (by kernel_rfl) (by kernel_rfl) (fun _ _ _ h => h) (by rfl) ?_ (by assumption) ?_; rotate_left 1; (· first | (intro W' hSw; (try dsimp only at hSw); go_simp; done) | (intro W' hSw; (try dsimp only at hSw); go_simp; with_reducible rfl)))
  try simp only [Act.put, List.setIfInBounds_toArray, List.set_cons_zero, List.set_cons_succ]
  (refine reg_eff (i := 4) rfl (by kernel_rfl) (by rfl) (fun K hK => ?_); go_wp2_with (first | (go_at_call 38; refine (itoa300 _ hp1).mono ?_; rintro e w2 ⟨rfl, hb2⟩) | (go_at_call 49; refine (ws_any B b _ (S [32, 51, 48, 48]) _ (.inr (bld_keep k1 (bchain hb2 (bdrew1 (Below.refl _ _))))) (by rw [Lib.strCells_length]; show word.size + 4 ≤ _; omega) (by have := b1.size; have := hb2.size; simp at this; omega)).mono ?_; rintro e w3 ⟨⟨v3, rfl⟩, k3, hb3⟩)); refine hK.out _ _ ?_ (fun hS => ?_); (· (try dsimp only); (try trivial)))
  try simp only [Act.put, List.setIfInBounds_toArray, List.set_cons_zero, List.set_cons_succ]
  (refine reg_take 5 (some 24) (v := ?_) rfl rfl (by kernel_rfl) (by kernel_rfl) (by kernel_rfl) (fun _ _ _ h => h) (by rfl) ?_ (by assumption) ?_; rotate_left 1; (· first | (intro W' hSw; (try dsimp only at hSw); go_simp; done) | (intro W' hSw; (try dsimp only at hSw); go_simp; with_reducible rfl)))
  try simp only [Act.put, List.setIfInBounds_toArray, List.set_cons_zero, List.set_cons_succ]
  (refine reg_eff (i := 6) rfl (by kernel_rfl) (by rfl) (fun K hK => ?_); go_wp2_with (first | (go_at_call 38; refine (itoa300 _ hp1).mono ?_; rintro e w2 ⟨rfl, hb2⟩) | (go_at_call 49; refine (ws_any B b _ (S [32, 51, 48, 48]) _ (.inr (bld_keep k1 (bchain hb2 (bdrew1 (Below.refl _ _))))) (by rw [Lib.strCells_length]; show word.size + 4 ≤ _; omega) (by have := b1.size; have := hb2.size; simp at this; omega)).mono ?_; rintro e w3 ⟨⟨v3, rfl⟩, k3, hb3⟩)); refine hK.out _ _ ?_ (fun hS => ?_); (· (try dsimp only); (try trivial)))
  try simp only [Act.put, List.setIfInBounds_toArray, List.set_cons_zero, List.set_cons_succ]
  refine wpAnyH_done (by kernel_rfl) ?_ _
  go_wp2
  refine LoopE.step ?_
  have hB3 : B ≤ w3.heap.size := by
    have e1 := b1.size
    have e2 : w1.heap.size ≤ w2.heap.size := hb2.size
    have e3 := hb3.size
    omega
  have hl3 : (Lib.strCells word ++ Lib.strCells (S [32, 51, 48, 48])).length + 1 ≤ 1000000 := by
    rw [List.length_append, Lib.strCells_length, Lib.strCells_length]
    show word.size + 4 + 1 ≤ _
    omega
  go_wp2_with (go_at_call 50; refine (wb_any B b _ 10 _ (.inr k3) hl3 hB3).mono ?_)
  rintro e w4 ⟨⟨v4, rfl⟩, k4, hb4⟩
  go_wp2
  go_end0
  have q2 : Below w1.heap.size w1 w2 := bchain hb2 (bdrew1 (Below.refl _ _))
  exact ⟨rfl, k4, b1.trans ((KB.of (q2.mono (by have := b1.size; omega))).trans (hb3.trans hb4))⟩
set_option maxHeartbeats 2000000 in
set_option maxRecDepth 100000 in
/-- The player's first answer: error 300. -/
theorem done_first (B b : Nat) (w : World) (hbk : w.heap[b]? = some (.cells #[.pointer none, .pointer none, .slice none 0 0] tPl (0, 0))) (hBw : B ≤ w.heap.size) (h9 : 9 < B) (hb9 : 9 < b) (hp : PinsAt w) :
    Calls Tryz.prog fDone #[.pointer (some ⟨b, 0, none⟩), .int .i64 300] w fun e w' => e = .returned (.tuple #[]) ∧ BldAt B b (.pointer (some ⟨b, 1, none⟩)) (Lib.strCells (S [101, 114, 114, 111, 114, 32, 51, 48, 48, 10])) w' ∧ KB B b w w' := by
  have hlt : b < w.heap.size := (Array.getElem?_eq_some_iff.1 hbk).1
  go_enter Tryz.func21, Tryz.ntmps21
  go_wp2_with (go_at_call 32; refine (say_first B b w.heap.size (S [101, 114, 114, 111, 114]) _ (by rw [Below.heap_alloc _ _ _ hlt]; exact hbk) (by decide) (by simp; omega) h9 hb9 (hp.below (balloc (Below.refl _ _))) (cell_new _ _ _ 0 _ rfl rfl) (by simp) (by omega)).mono ?_)
  rintro e w1 ⟨rfl, k1, b1⟩
  go_wp2
  go_end0
  exact ⟨rfl, k1, ((KB.refl B b w).alloc hBw _).trans b1⟩
end Go.Proofs.YtnncgjhgmmdilaaGreatDoor
