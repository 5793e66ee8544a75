/-
  Chapter 24, a side to which things happen: the invariant of run, kept by each round.
  Conditions: as each theorem tells.
-/
import Derived.Test.YtlbkficdelepeaaTlT
import Derived.Test.YtlbkficdelepeaaTlC
import Derived.Test.YtlbkficdelepeaaTjS
namespace Go.Proofs.Ytlbkficdelepeaa.Ab
set_option linter.unusedSimpArgs false
set_option linter.unusedVariables false
open Go
set_option linter.unusedSectionVars false
noncomputable section
/-- What is so ahead of a round: v the letters, TR the trace. -/
structure IRun (L : List (List Dat)) (n2 : Int) (i : Nat) (v : Nat → Dat) (TR : List (List Dat)) : Prop where
  v0 : v 0 = .dL L
  v1 : v 1 = .dI n2
  v3 : v 3 = .dI i
  side : ∃ s, Rel i (aAt ⟨v, fnU⟩) s
  tr : (v 42).asL = TR
  len : TR.length ≤ i
  rows : RowsE TR
  acc : ∀ j, j < TR.length → (Jm (seqC TR n2 j) (TR.getD j []) 0).asB = true
  e0 : (seqC TR n2 TR.length).getD 0 (.dI 0) = v 4
  e1 : (seqC TR n2 TR.length).getD 1 (.dI 0) = v 5
  e2 : (seqC TR n2 TR.length).getD 2 (.dI 0) = v 6
  e3 : (seqC TR n2 TR.length).getD 3 (.dI 0) = v 7
  e4 : (seqC TR n2 TR.length).getD 4 (.dI 0) = v 32
  e5 : (seqC TR n2 TR.length).getD 5 (.dI 0) = v 34
  e6 : (seqC TR n2 TR.length).getD 6 (.dI 0) = v 37
  e7 : (seqC TR n2 TR.length).getD 7 (.dI 0) = v 39
  e8 : (seqC TR n2 TR.length).getD 8 (.dI 0) = v 43
  c4 : v 4 = .dI (v 4).asI
  c5 : v 5 = .dB (v 5).asB
  c6 : v 6 = .dI (v 6).asI
  c7 : v 7 = .dI (v 7).asI
  c32 : v 32 = .dI (v 32).asI
  c34 : v 34 = .dB (v 34).asB
  c37 : v 37 = .dI (v 37).asI
  c39 : v 39 = .dB (v 39).asB
  rk : (v 32).asI = 0 ∨ (v 32).asI = 2 ∨ (v 32).asI = 3
  ck : (v 37).asI = 0 ∨ (v 37).asI = 1 ∨ (v 37).asI = 4
  po : (v 43).asB = true → (v 4).asI = 3
  fin : (v 29).asB = true → (v 43).asB = true
def RowsF (L : List (List Dat)) : Prop := ∀ i, i < L.length → 0 ≤ ((L.getD i []).getD 3 (.dI 0)).asI ∧ ((L.getD i []).getD 3 (.dI 0)).asI ≤ 255
section
variable {ρ : Rho} {F : Fc} {es es2 : Eqs} {po : Dat} {i n : Nat}
theorem nxt_outD (h1 : n ≠ 43) (h2 : 3 ≤ n) {p : Sr × Tm} (h : outE es n = some p) : (nxtR ρ es po).val n = outD ρ es n := by
  rw [nxtR_out h1 h2 (s := p.1) (t := p.2) h]
  unfold outD
  rw [h]
theorem samI_nxt (h : @Fc.Ok ρ F) (e : samI F es2 i es n = true) (h1 : n ≠ 43) (h2 : 3 ≤ n) : outD ρ es2 i = (nxtR ρ es po).val n ∧ (nxtR ρ es po).val n = .dI ((nxtR ρ es po).val n).asI := by
  have e' := samI_eq h e
  unfold samI at e
  split at e
  · rename_i t u q1 q2
    refine ⟨by rw [nxt_outD h1 h2 q2]; exact e', ?_⟩
    rw [nxtR_out h1 h2 q2]; rfl
  · cases e
theorem samB_nxt (h : @Fc.Ok ρ F) (e : samB F es2 i es n = true) (h1 : n ≠ 43) (h2 : 3 ≤ n) : outD ρ es2 i = (nxtR ρ es po).val n ∧ (nxtR ρ es po).val n = .dB ((nxtR ρ es po).val n).asB := by
  have e' := samB_eq h e
  unfold samB at e
  split at e
  · rename_i t u q1 q2
    refine ⟨by rw [nxt_outD h1 h2 q2]; exact e', ?_⟩
    rw [nxtR_out h1 h2 q2]; rfl
  · cases e
theorem keepI_nxt (h : @Fc.Ok ρ F) (e : keepI F es n = true) (h1 : n ≠ 43) (h2 : 3 ≤ n) : (nxtR ρ es po).val n = .dI (ρ.val n).asI := by
  have e' := keepI_eq h e
  unfold keepI at e
  split at e
  · rename_i t q1
    rw [nxt_outD h1 h2 q1]; exact e'
  · cases e
theorem keepB_nxt (h : @Fc.Ok ρ F) (e : keepB F es n = true) (h1 : n ≠ 43) (h2 : 3 ≤ n) : (nxtR ρ es po).val n = .dB (ρ.val n).asB := by
  have e' := keepB_eq h e
  unfold keepB at e
  split at e
  · rename_i t q1
    rw [nxt_outD h1 h2 q1]; exact e'
  · cases e
theorem fin_nxt (h : @Fc.Ok ρ F) {u : Tm} (e : finB F es u = true) (hf : ((nxtR ρ es po).val 29).asB = true) : (@Tm.den ρ u).asB = true := by
  refine finB_ok h e ?_
  unfold finB at e
  split at e
  · rename_i t q1
    rw [nxt_outD (by omega) (by omega) q1] at hf
    exact hf
  · cases e
end
theorem F0L_ok {L : List (List Dat)} {n2 : Int} {i : Nat} {v : Nat → Dat} {TR : List (List Dat)} (I : IRun L n2 i v TR) (hi : i < L.length) (h4 : i ≤ 400) (hF : RowsF L) : ∃ s b d, (1 ≤ s ∧ s ≤ 5) ∧ @Fc.Ok ⟨v, fnU⟩ (F0L s b d) := by
  letI ρ : Rho := ⟨v, fnU⟩
  have core := core_ok (n2 := n2) I.rows TR.length (Nat.le_refl _)
  have hst := core.st; have hmo := core.mo; have hcm := core.cmd
  rw [I.e0] at hst; rw [I.e3] at hmo; rw [I.e6, I.e7] at hcm
  obtain ⟨d1, d2, d3, d4⟩ := debts (i := (i : Int)) (by omega) I.side
  have hlen := I.len
  have e3 : (ρ.val 3).asI = (i : Int) := by show (v 3).asI = _; rw [I.v3]; rfl
  have e0 : (@Tm.den ρ (.llen (vt 0))).asI = (L.length : Int) := by
    show (((v 0).asL.length : Nat) : Int) = _
    rw [I.v0]; rfl
  have t1 : (@Tm.den ρ (.ib .lss .i64 (vt 3) (.llen (vt 0)))).asB = true := by
    rw [lss_t, e0]
    show (ρ.val 3).asI < _ ∧ ¬ _ ≤ (ρ.val 3).asI
    rw [e3]; omega
  have t2 : (@Tm.den ρ (.and (.ib .leq .i64 (.ci 0) (vt 3)) (.ib .lss .i64 (vt 3) (.llen (vt 0))))).asB = true := by
    rw [and_t]
    refine ⟨?_, t1⟩
    rw [leq_t]
    show (0 : Int) ≤ (ρ.val 3).asI ∧ ¬ (ρ.val 3).asI < 0
    rw [e3]; omega
  have t3 : (@Tm.den ρ (.ib .lss .i64 (.llen (vt 42)) (.ci 4294967295))).asB = true := by
    rw [lss_t]
    show (((v 42).asL.length : Nat) : Int) < 4294967295 ∧ ¬ (4294967295 : Int) ≤ (((v 42).asL.length : Nat) : Int)
    rw [I.tr]; omega
  have fk : 0 ≤ (@Tm.den ρ fkT).asI ∧ (@Tm.den ρ fkT).asI ≤ 255 := by
    have := hF i hi
    show 0 ≤ (((v 0).asL.getD (v 3).asI.toNat []).getD 3 (.dI 0)).asI ∧ (((v 0).asL.getD (v 3).asI.toNat []).getD 3 (.dI 0)).asI ≤ 255
    rw [I.v0, I.v3]; exact this
  have rk := I.rk; have ck := I.ck; have hpo := I.po; have hfin := I.fin
  have mk : ∀ b d : Bool, (bif b then (v 39).asB = true else (v 37).asI = 0) → (∀ p ∈ (bif eqZ (v 4).asI 3 then (bif d then [(43, true)] else [(29, false)]) else [(43, false), (29, false)] : List (Nat × Bool)), (v p.1).asB = p.2) → @Fc.Ok ρ (F0L (v 4).asI b d) := fun b d hb hd => by
    refine ⟨fun p hp => ?_, fun p hp => ?_, fun p hp => ?_, fun p hp => ?_, fun p hp => ?_, rfl⟩
    · rcases List.mem_cons.1 hp with rfl | hp
      · rfl
      · cases b with
        | true => cases hp
        | false =>
          rcases List.mem_cons.1 hp with rfl | hp
          · exact hb
          · cases hp
    · rcases List.mem_append.1 hp with hp | hp
      · cases b with
        | true =>
          rcases List.mem_cons.1 hp with rfl | hp
          · exact hb
          · cases hp
        | false => cases hp
      · exact hd p hp
    · have hp' : p ∈ [(Tm.ib .lss .i64 (vt 3) (.llen (vt 0)), true), (.and (.ib .leq .i64 (.ci 0) (vt 3)) (.ib .lss .i64 (vt 3) (.llen (vt 0))), true), (.ib .lss .i64 (.llen (vt 42)) (.ci 4294967295), true), (.app 724 tH, true), (.app 655 tN, true), (.app 581 tP, true), (.app 905 tT, true)] := hp
      simp only [List.mem_cons, List.not_mem_nil, or_false] at hp'
      rcases hp' with rfl | rfl | rfl | rfl | rfl | rfl | rfl
      · exact t1
      · exact t2
      · exact t3
      · exact d1
      · exact d2
      · exact d3
      · exact d4
    · have hp' : p ∈ [(vt 4, (1 : Int), (5 : Int)), (vt 7, 0, 255), (fkT, 0, 255), (vt 32, 0, 3), (vt 37, 0, 4)] := hp
      simp only [List.mem_cons, List.not_mem_nil, or_false] at hp'
      rcases hp' with rfl | rfl | rfl | rfl | rfl
      · exact hst
      · exact hmo
      · exact fk
      · show 0 ≤ (v 32).asI ∧ (v 32).asI ≤ 3
        omega
      · show 0 ≤ (v 37).asI ∧ (v 37).asI ≤ 4
        omega
    · have hp' : p ∈ [(vt 32, (1 : Int)), (vt 37, 2), (vt 37, 3)] := hp
      simp only [List.mem_cons, List.not_mem_nil, or_false] at hp'
      rcases hp' with rfl | rfl | rfl
      · show (v 32).asI ≠ 1
        omega
      · show (v 37).asI ≠ 2
        omega
      · show (v 37).asI ≠ 3
        omega
  have pick : ∃ d : Bool, ∀ p ∈ (bif eqZ (v 4).asI 3 then (bif d then [(43, true)] else [(29, false)]) else [(43, false), (29, false)] : List (Nat × Bool)), (v p.1).asB = p.2 := by
    cases h3 : eqZ (v 4).asI 3 with
    | true =>
      cases h43 : (v 43).asB with
      | true => exact ⟨true, fun p hp => by
          rcases List.mem_cons.1 hp with rfl | hp
          · exact h43
          · cases hp⟩
      | false => exact ⟨false, fun p hp => by
          rcases List.mem_cons.1 hp with rfl | hp
          · cases hf : (v 29).asB with
            | true => rw [hfin hf] at h43; cases h43
            | false => rfl
          · cases hp⟩
    | false =>
      have n3 : (v 4).asI ≠ 3 := fun e => by rw [e] at h3; cases h3
      have p43 : (v 43).asB = false := by
        cases hx : (v 43).asB with
        | true => exact absurd (hpo hx) n3
        | false => rfl
      have p29 : (v 29).asB = false := by
        cases hx : (v 29).asB with
        | true => rw [hfin hx] at p43; cases p43
        | false => rfl
      refine ⟨true, fun p hp => ?_⟩
      have hp' : p ∈ [(43, false), (29, false)] := hp
      simp only [List.mem_cons, List.not_mem_nil, or_false] at hp'
      rcases hp' with rfl | rfl
      · exact p43
      · exact p29
  obtain ⟨d, hd⟩ := pick
  rcases hcm with h | h
  · exact ⟨_, false, d, hst, mk false d h hd⟩
  · exact ⟨_, true, d, hst, mk true d h hd⟩
theorem rk_any {s : Int} (h : 1 ≤ s ∧ s ≤ 5) (b d : Bool) : chkT pRun rtRun (F0L s b d) = true := by
  have : s = 1 ∨ s = 2 ∨ s = 3 ∨ s = 4 ∨ s = 5 := by omega
  rcases this with rfl | rfl | rfl | rfl | rfl
  · cases b
    · exact rk_1_false
    · exact rk_1_true
  · cases b
    · exact rk_2_false
    · exact rk_2_true
  · cases b <;> cases d
    · exact rk_3_false_false
    · exact rk_3_false_true
    · exact rk_3_true_false
    · exact rk_3_true_true
  · cases b
    · exact rk_4_false
    · exact rk_4_true
  · cases b
    · exact rk_5_false
    · exact rk_5_true
set_option maxRecDepth 100000 in
theorem ev_sub {c r : List Dat} {ρ' : Rho} (hagr : ∀ n, n < 17 → ρ'.val n = (l17 c r).getD n (.dI 0)) {es : Eqs} (hs : @Tree.sel _ ρ' tJ = some (some es)) {j : Nat} (hj : j < 10) : Jm c r j = outD ρ' es (17 + j) := by
  have hag : Agr 17 0 (autR zF (l17 c r)) ρ' := ⟨fun n hn => (hagr n hn).symm, fun k d hk => absurd hk (Nat.not_lt_zero _)⟩
  have h1 : @Tree.sel _ (autR zF (l17 c r)) tJ = some (some es) := (sel_agr hag tJ tJ_wf).trans hs
  have hw := sel_wf tJ tJ_wf h1
  unfold Jm
  rw [outD_get h1 hj]
  unfold outD
  split
  · rename_i s u ho
    rw [den_agr hag u (outE_clo (Nat.le_add_right 17 j) hw ho)]
  · rfl
theorem cells_chain {ρ : Rho} : ∀ (c : Tm), chainT c = true → cellsD (@Tm.den ρ c) = (cellsT c).map (@Tm.den ρ)
  | .pair a b, h => by
    show @Tm.den ρ a :: cellsD (@Tm.den ρ b) = _
    rw [cells_chain b h]; rfl
  | .cb _, _ => rfl
theorem len8 {l : List Tm} (h : l.length = 8) : ∃ a b c d e f g k, l = [a, b, c, d, e, f, g, k] := by
  match l, h with
  | [a, b, c, d, e, f, g, k], _ => exact ⟨a, b, c, d, e, f, g, k, rfl⟩
end
end Go.Proofs.Ytlbkficdelepeaa.Ab
