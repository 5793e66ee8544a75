/-
  ConsoleTexts: the chapter's example, run: its first line by hand, the others as they are kept.
  Conditions: the package's variables lie as they are laid; what is kept of the lines holds.
-/
import Derived.Test.YtnncgjhgmmdilaaGreatDoorCtL
namespace Go.Proofs.YtnncgjhgmmdilaaGreatDoor.Ab
set_option linter.unusedSimpArgs false
set_option linter.unusedVariables false
open Go Go.Proofs.YtnncgjhgmmdilaaGreatDoor Go.RowKit
set_option linter.unusedSectionVars false
set_option linter.unusedVariables false
noncomputable section
abbrev fRun : FuncId := 9
def exL : List UInt8 := [102, 108, 121, 10, 97, 32, 111, 112, 101, 110, 32, 53, 10, 110, 101, 119, 32, 98, 97, 115, 105, 99, 32, 49, 50, 32, 51, 32, 51, 32, 49, 32, 50, 32, 57, 10, 35, 32, 97, 32, 114, 101, 109, 97, 114, 107, 10, 10, 97, 32, 111, 112, 101, 110, 32, 53, 10, 97, 32, 111, 117, 116, 10, 98, 32, 104, 97, 110, 100, 10, 98, 32, 111, 117, 116, 10, 97, 32, 104, 97, 110, 100, 10, 97, 32, 118, 105, 101, 119, 32, 53, 10, 98, 32, 119, 104, 111, 108, 101, 10]
def outL : List UInt8 := [101, 114, 114, 111, 114, 32, 51, 48, 48, 10, 101, 114, 114, 111, 114, 32, 49, 10, 111, 107, 10, 111, 107, 10, 111, 107, 10, 111, 107, 10, 111, 107, 10, 111, 107, 10, 97, 32, 101, 110, 100, 101, 100, 32, 48, 32, 53, 32, 48, 32, 61, 32, 48, 10, 115, 116, 97, 116, 101, 32, 51, 32, 48, 32, 48, 32, 48, 32, 57, 32, 55, 32, 48, 10, 119, 104, 111, 108, 101, 32, 48, 32, 49, 32, 48, 32, 48, 32, 48, 32, 48, 10]
def linesL : List (List UInt8) := [[102, 108, 121], [97, 32, 111, 112, 101, 110, 32, 53], [110, 101, 119, 32, 98, 97, 115, 105, 99, 32, 49, 50, 32, 51, 32, 51, 32, 49, 32, 50, 32, 57], [35, 32, 97, 32, 114, 101, 109, 97, 114, 107], [], [97, 32, 111, 112, 101, 110, 32, 53], [97, 32, 111, 117, 116], [98, 32, 104, 97, 110, 100], [98, 32, 111, 117, 116], [97, 32, 104, 97, 110, 100], [97, 32, 118, 105, 101, 119, 32, 53], [98, 32, 119, 104, 111, 108, 101], []]
set_option maxRecDepth 100000 in
theorem linesT : (evFun Tryz.prog envB0 1000 fSplit [.str exL, .str [10]] heap0 fun v R => .leaf (v, R) : Tree (AV × Heap)) = .leaf (.slice 0 0 13 (.known 13), ⟨1, [(0, strRow linesL)], [], []⟩) := by kernel_rfl
/-- Behind the first line. -/
def rowT : AObj := strRow linesL
def HR : Heap := ⟨20, (19, .abs 0 (.cs [101, 114, 114, 111, 114, 32, 51, 48, 48, 10])) :: (14, rowT) :: (13, .row [.nilPtr, .ptr 13 1, .slice 19 0 10 (.unk 1)] true false) :: pinsC, [], []⟩
def stR : St := ⟨34, [(15, .int .i64 1), (14, .int .i64 13), (13, .slice 14 0 13 (.known 13)), (4, .ptr 13 0)], HR, []⟩
def envR (l : List Memo) : Env := ⟨fun f => bif Nat.beq f fLine then some (memoG l) else tabGet tabS f, fun _ _ => none⟩
/-- What stands behind the loop. -/
def tailOf : Code → Option Code
  | .seq a b => match a with
    | .region id ops d => bif Nat.beq id 10 then some (.seq (.region id ops d) b) else tailOf b
    | a => match tailOf a with
      | some c => some c
      | none => tailOf b
  | _ => none
noncomputable def tailR : Code := match (Tryz.prog.funcs[fRun]?).bind (·.body) with
  | some c => (tailOf c).getD .skip
  | none => .skip
noncomputable def runT (l : List Memo) : Tree (AX × St) := evCode Tryz.prog (evFun Tryz.prog (envR l) 1000) (fun _ => none) 1000000 (.loop (lpBody Tryz.prog fRun 0)) stR fun x s => .leaf (x, s)
noncomputable def endT (l : List Memo) (s : St) : Tree (AX × St) := evCode Tryz.prog (evFun Tryz.prog (envR l) 1000) (fun _ => none) 1000000 tailR s fun x s => .leaf (x, s)
noncomputable def okEnd (l : List Memo) (s : St) : Bool := match endT l s with
  | .leaf (.ret, s') => (match resultsA Tryz.prog Tryz.f9 s'.fr s'.H with
    | some (.tuple [.str t, .int .i64 n]) => eqL t outL && eqZ n 0
    | _ => false) && s'.df.isEmpty
  | _ => false
noncomputable def okRun (l : List Memo) : Bool := match runT l with
  | .leaf (.exit 0, s) => okEnd l s
  | _ => false
theorem strRow_cell [ρ : Rho] {w : World} {L : Loc} {l : List (List UInt8)} (hr : ∀ (ρ' : Rho) (μ' : Mu) (id' : Nat), μ' id' = some L → @RepO ρ' μ' id' w (strRow l)) {i : Nat} {s : List UInt8} (hi : l[i]? = some s) : w.cell? ⟨L.b, L.s + i, none⟩ = some (.string (S s)) := by
  obtain ⟨l', c, e, lo, hi', ⟨h1, _⟩, h2, _, _, _, _, h7⟩ := hr ρ (fun _ => some L) 0 rfl
  cases h1
  obtain ⟨_, y, h8, h9⟩ := h7 i (.str s) (by rw [List.getElem?_map, hi]; rfl)
  rw [Lib.cell_of_heap h2, h8]
  exact congrArg some h9
theorem split_fly (w : World) : Calls Tryz.prog fSplit #[.string (S [102, 108, 121]), .string ⟨#[32]⟩] w fun e w' => ∃ b o, e = .returned (.slice (some ⟨b, o, none⟩) 1 1) ∧ b < w'.heap.size ∧ w'.cell? ⟨b, o, none⟩ = some (.string (S [102, 108, 121])) ∧ Below w.heap.size w w' := by
  letI ρ : Rho := ⟨fun _ => .dI 0, fun _ d => d⟩
  obtain ⟨id, R, ht, hg⟩ := flyT
  exact (split_new ht hg w).mono fun e w' ⟨L, z, l1, l2, he, hr, hb⟩ => ⟨L.b, L.s, he, l2, strRow_cell hr (i := 0) rfl, hb⟩
/-- Where the objects are behind the first line. -/
def muR (b g cap : Nat) (L : Loc) (id : Nat) : Option Loc := if id = 13 then some ⟨b, 0, 1, 3, 3, false⟩ else if id = 14 then some L else if id = 19 then some ⟨g, 0, cap, 1, 10, false⟩ else pinMu id
def errL : List UInt8 := [101, 114, 114, 111, 114, 32, 51, 48, 48, 10]
theorem blk_R {b g cap : Nat} {L : Loc} {k : Nat} {ok : AObj} {lk : Loc} (hm : (k, ok) ∈ HR.objs) (hl : muR b g cap L k = some lk) (hz' : lk.nil = false) : (k = 13 ∧ lk.b = b) ∨ (k = 14 ∧ lk.b = L.b) ∨ (k = 19 ∧ lk.b = g) ∨ (owned ok = false ∧ lk.b ≤ 9) := by
  simp only [HR, pinsC, List.mem_cons, List.not_mem_nil, or_false] at hm
  rcases hm with hm | hm | hm | hm | hm | hm | hm | hm | hm <;> cases hm <;> cases hl
  · exact .inr (.inr (.inl ⟨rfl, rfl⟩))
  · exact .inr (.inl ⟨rfl, rfl⟩)
  · exact .inl ⟨rfl, rfl⟩
  · cases hz'
  · cases hz'
  · cases hz'
  · exact .inr (.inr (.inr ⟨rfl, by decide⟩))
  · exact .inr (.inr (.inr ⟨rfl, by decide⟩))
  · exact .inr (.inr (.inr ⟨rfl, by decide⟩))
theorem mine_R {b g cap : Nat} {L : Loc} (hbL : b < L.b) (hbg : b < g) {k : Nat} (hk : k < b) : ¬ Mine (muR b g cap L) HR.get k := fun m => by
  obtain ⟨j, o, l, h1, h2, ⟨h3, hz⟩, h4⟩ := m
  rcases blk_R (look_mem h1) h3 hz with h | h | h | h
  · omega
  · omega
  · omega
  · rw [h.1] at h2; cases h2
theorem rep_R [ρ : Rho] {w2 w3 : World} {b : Nat} {L : Loc} (hp : PinsAt w3) (hb9 : 9 < b) (hbB : b < L.b) (hL2 : L.b < w2.heap.size) (hz : L.nil = false) (hrow : ∀ (ρ' : Rho) (μ' : Mu) (id' : Nat), μ' id' = some L → @RepO ρ' μ' id' w2 (strRow linesL))
    (hB : BldAt w2.heap.size b (.pointer (some ⟨b, 1, none⟩)) (Lib.strCells (S errL)) w3) (hk : KB w2.heap.size b w2 w3) : ∃ g cap, Rep (muR b g cap L) HR.get w3 ∧ Dom (muR b g cap L) HR.next ∧ w2.heap.size ≤ g := by
  obtain ⟨v, hbk, hown, _⟩ := hB
  rcases hown.2 with ⟨_, h0⟩ | ⟨g, cap, cur, rfl, hBg, hg, hnc, hcm, hcs, htake⟩
  · exact absurd h0 (by decide)
  refine ⟨g, cap, ⟨fun id o ho => ?_, fun i j oi oj li lj h1 h2 hij ho h3 h4 z1 z2 => ?_⟩, fun id hid => ?_, hBg⟩
  · have hm := look_mem ho
    simp only [HR, List.mem_cons] at hm
    rcases hm with hm | hm | hm | hm
    · cases hm
      refine ⟨_, cur, _, 0, 0, ⟨rfl, rfl⟩, hg, .inr (Nat.le_refl _), ?_, rfl, rfl, rfl, rfl, by rw [hcs]; exact Nat.mul_one _, ?_⟩
      · show 10 ≤ cap * 1
        have : (10 : Nat) ≤ cap := hnc
        omega
      · exact htake
    · cases hm
      refine (hrow ρ (muR b g cap L) 14 rfl).keep (Ext.refl _) fun l hl _ => ?_
      obtain rfl : L = l := Option.some.inj hl
      exact hk.block _ hL2 (by omega)
    · cases hm
      refine ⟨_, _, _, 0, 0, ⟨rfl, rfl⟩, hbk, rfl, by show 3 ≤ 1 * 3; decide, by show 0 + 1 * 3 ≤ 3; decide, fun _ => .inr (Nat.le_refl _), fun i x hx => ?_⟩
      match i, hx with
      | 0, hx => cases hx; exact ⟨rfl, _, rfl, rfl⟩
      | 1, hx => cases hx; exact ⟨rfl, _, rfl, _, rfl, by simp⟩
      | 2, hx =>
        cases hx
        exact ⟨rfl, _, rfl, _, rfl, by decide, rfl, rfl, by show 0 + 10 * 1 ≤ 10; decide, .inl rfl⟩
    · exact pins_obj hp (fun id hid => by
        unfold muR
        rw [if_neg (by omega), if_neg (by omega), if_neg (by omega)]) _ hm
  · have b1 := blk_R (look_mem h1) h3 z1
    have b2 := blk_R (look_mem h2) h4 z2
    rcases ho with ho | ho
    · rcases b1 with b1 | b1 | b1 | b1 <;> rcases b2 with b2 | b2 | b2 | b2 <;> first | omega | (rw [b1.1] at ho; cases ho)
    · rcases b1 with b1 | b1 | b1 | b1 <;> rcases b2 with b2 | b2 | b2 | b2 <;> first | omega | (rw [b2.1] at ho; cases ho)
  · have hid : 20 ≤ id := hid
    unfold muR pinMu
    rw [if_neg (by omega), if_neg (by omega), if_neg (by omega), if_neg (by omega), if_neg (by omega), if_neg (by omega), if_neg (by omega), if_neg (by omega), if_neg (by omega)]
theorem envR_ok {ρ : Rho} {l : List Memo} (hm : ∀ M ∈ l, @MemoS ρ Tryz.prog fLine M) : @EnvOK ρ Tryz.prog (envR l) := by
  letI := ρ
  refine envOK_fn (fun f g hg args H o v H' hp hgs ho => ?_) fun _ _ => rfl
  simp only [envR] at hg
  cases hb : Nat.beq f fLine with
  | true =>
    simp only [hb, cond_true, Option.some.injEq] at hg; subst hg
    obtain rfl := Nat.eq_of_beq_eq_true hb
    exact memoS_ok hm hgs
  | false =>
    rw [hb] at hg
    exact tabOK_get tabS_ok f g hg args H o v H' hp hgs ho
theorem KBbelow {B b : Nat} {w w' : World} (h : KB B b w w') (hb : b < B) : Below b w w' := ⟨h.os, h.tape, h.output, h.size, fun k hk => h.block k (by omega) (by omega)⟩
theorem loopE_is {P : Program} {c c' : Code} {Q : Exit → Act → World → Prop} {a : Act} {w : World} [Rho] (e : c' = c) (h : LoopE P c' Q a w) : LoopE P c Q a w := e ▸ h
theorem wp_is {P : Program} {c c' : Code} {Q : Exit → Act → World → Prop} {a : Act} {w : World} (e : c' = c) (h : c'.wp P Q a w) : c.wp P Q a w := e ▸ h
theorem lf0_any [Rho] {P : Program} {c : Code} : LpOK P (fun _ => none) c := fun body _ g h => by cases h
set_option maxRecDepth 100000 in
set_option maxHeartbeats 2000000 in
theorem run_calls (l : List Memo) (hm : ∀ ρ : Rho, ∀ M ∈ l, @MemoS ρ Tryz.prog fLine M) (hc : okRun l = true) (w : World) (hp : PinsAt w) : Calls Tryz.prog fRun #[.string (S exL)] w fun e w' => e = .returned (.tuple #[.string (S outL), .int .i64 0]) ∧ Below w.heap.size w w' := by
  letI ρ : Rho := ⟨fun _ => .dI 0, fun _ d => d⟩
  have hl : ¬ ((S exL).size : Int) > 65536 := by decide
  go_enter Tryz.func9, Tryz.ntmps9
  go_wp2_with (go_at_call 14; refine (split_new linesT rfl _).mono ?_)
  rintro e w2 L hz hL1 hL2 rfl hrow hb2
  have lt := hp.lt
  have hbel : Below w.heap.size w w2 := (balloc (Below.refl _ w)).trans (hb2.mono (by simp))
  have hw2 : w.heap.size + 1 ≤ w2.heap.size := by have := hb2.size; simpa using this
  have hbk : w2.heap[w.heap.size]? = some (.cells #[.pointer none, .pointer none, .slice none 0 0] tPl (0, 0)) := by
    have h := hb2.block w.heap.size (by simp)
    exact h.trans (heap_alloc_new w _)
  have c0 : w2.cell? ⟨L.b, L.s, none⟩ = some (.string (S [102, 108, 121])) := strRow_cell hrow (i := 0) rfl
  have hdone : ∀ w1, Below w2.heap.size w2 w1 → Calls Tryz.prog fDone #[.pointer (some ⟨w.heap.size, 0, none⟩), .int .i64 300] w1 fun e w3 => e = .returned (.tuple #[]) ∧ (BldAt w2.heap.size w.heap.size (.pointer (some ⟨w.heap.size, 1, none⟩)) (Lib.strCells (S errL)) w3 ∧ KB w2.heap.size w.heap.size w2 w3) := fun w1 hw1 =>
    (done_first w2.heap.size w.heap.size w1 ((hw1.block _ (by omega)).trans hbk) hw1.size (by omega) (by omega) (hp.below (bchain hw1 hbel))).mono fun e w3 h3 => ⟨h3.1, h3.2.1, (KB.of hw1).trans h3.2.2⟩
  go_wp2
  refine LoopE.wp (LoopE.step ?_)
  go_wp2_with (go_at_call 15; refine (line_odd [102, 108, 121] ⟨w.heap.size, 0, none⟩ w2 rfl rfl rfl rfl split_fly hdone).mono ?_)
  rintro e w3 ⟨rfl, hB, hKB⟩
  go_wp2
  have hc' := hc
  unfold okRun at hc'
  split at hc'
  case h_2 => cases hc'
  rename_i s hs
  have he := envR_ok (hm ρ)
  obtain ⟨g, cap, r3, d3, hg3⟩ := rep_R (hp.below (hbel.trans (KBbelow hKB (by omega)))) (by omega) (by omega) hL2 hz hrow hB hKB
  obtain ⟨x, s', k1, hpc, _, k4⟩ := evCode_sel noCount (evFun_ok (α := AX × St) noCount he 1000) (lf := fun _ => none) 1000000 (.loop (lpBody Tryz.prog fRun 0)) lf0_any stR (fun x s => Tree.leaf (x, s)) (.exit 0, s) (fun p hp => by cases hp) (by
    show (runT l).sel = _
    rw [hs]; rfl)
  cases k1
  refine loopE_is (by kernel_rfl) ((k4 (μ := muR w.heap.size g cap L) ⟨?_, ?_, ?_, r3, d3⟩ ?_).2 _ rfl)
  · intro t v hv
    simp only [stR, lk_cons, lk_nil] at hv
    split at hv
    · rename_i e; subst e; cases hv; exact ⟨_, rfl, rfl⟩
    split at hv
    · rename_i e; subst e; cases hv; exact ⟨_, rfl, rfl⟩
    split at hv
    · rename_i e; subst e; cases hv; exact ⟨_, rfl, L, rfl, rfl⟩
    split at hv
    · rename_i e; subst e; cases hv; exact ⟨_, rfl, _, rfl, rfl⟩
    · cases hv
  · rfl
  · rfl
  · intro μ4 a4 w4 ev4 sr4
    refine (‹∀ (a : Act) (w : World), Code.wp Tryz.prog _ _ a w → _› : ∀ (a : Act) (w : World), _ → _) a4 w4 ?_
    unfold okEnd at hc'
    split at hc'
    case h_2 => cases hc'
    rename_i s2 hs2
    rw [Bool.and_eq_true] at hc'
    obtain ⟨hc1, hc2⟩ := hc'
    split at hc1
    case h_2 => cases hc1
    rename_i t n hres
    rw [Bool.and_eq_true] at hc1
    obtain rfl := eqL_eq _ _ hc1.1
    obtain rfl := eqZ_eq _ _ hc1.2
    obtain ⟨x2, s3, j1, _, _, j4⟩ := evCode_sel noCount (evFun_ok (α := AX × St) noCount he 1000) (lf := fun _ => none) 1000000 tailR lf0_any s (fun x s => Tree.leaf (x, s)) (.ret, s2) hpc (by
      show (endT l s).sel = _
      rw [hs2]; rfl)
    cases j1
    refine wp_is (c' := tailR) (by kernel_rfl) (j4 sr4 fun μ5 a5 w5 ev5 sr5 => ?_).1
    obtain ⟨cv, hr1, hr2⟩ := resultsA_run hres sr5.fr sr5.rep
    obtain ⟨xs, ⟨y1, r1, rfl, ⟨y2, r2, rfl, rfl, rfl⟩, rfl⟩, rfl⟩ := hr2
    have hdf : a5.defers = [] := by
      have := sr5.df
      rw [List.isEmpty_iff.1 hc2] at this
      exact this
    have ev := ev4.trans ev5
    refine ⟨hdf, _, hr1, rfl, ev.os.trans (hKB.os.trans hbel.os), ev.tape.trans (hKB.tape.trans hbel.tape), ev.output.trans (hKB.output.trans hbel.output), ?_, fun k hk => ?_⟩
    · have := ev.size
      have := hKB.size
      have := hbel.size
      omega
    · have hs3 := hKB.size
      exact (ev.keep k (by omega) (mine_R (by omega) (by omega) hk)).trans ((hKB.block k (by omega) (by omega)).trans (hbel.block k hk))
end
end Go.Proofs.YtnncgjhgmmdilaaGreatDoor.Ab
