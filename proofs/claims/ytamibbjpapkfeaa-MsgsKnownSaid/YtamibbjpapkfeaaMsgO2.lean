/-
  MsgsGets, called: it returns true and makes at most new blocks.
  Conditions: arguments as the model reads them.
-/
import Derived.Test.YtamibbjpapkfeaaMsgO
namespace Go.Proofs.Ytamibbjpapkfeaa.Ab
set_option linter.unusedSimpArgs false
set_option linter.unusedVariables false
open Go
noncomputable abbrev gS : LpG := shut (orG (gB 9) (gB 14))
noncomputable abbrev gT : LpG := shut (orG (gJ 0 10) (gJ 1 15))
set_option maxRecDepth 100000 in
theorem lawQ_S : lawQ (shut gA) gS gT = lawG .fail := by kernel_rfl
theorem okT [Rho] {c : Tm} {x y : Tree AV} (h : c.den.asB = true) (hx : x.ok) : (Tree.fork c x y).ok := ⟨fun _ => hx, fun k => absurd (h.symm.trans k) (by simp)⟩
theorem okF [Rho] {c : Tm} {x y : Tree AV} (h : c.den.asB = false) (hy : y.ok) : (Tree.fork c x y).ok := ⟨fun k => absurd (h.symm.trans k) (by simp), fun _ => hy⟩
theorem okM [Rho] : ttM.ok := ⟨.cb true, rfl, rfl⟩
section
variable {s : List UInt8}
theorem lawG_pre {N : Nat} (hn : s.length ≤ 500) (z : Tree AV) (h : ¬ GoodM s 0 ∨ @Tree.ok (rhoZ s N) z) : @Tree.ok (rhoZ s N) (lawG z) := by
  letI ρ : Rho := rhoZ s N
  have d0 : (Tm.len v0).den.asI = (s.length : Int) := rfl
  have ec : cutZ.den.asS = s := cut_end s 0
  have dc : (Tm.len cutZ).den.asI = (s.length : Int) := by
    show ((cutZ.den.asS.length : Nat) : Int) = _
    rw [ec]
  have a6 : (Tm.app 81 cutZ).den.asI = (mgot s).e := by
    rw [app_all rfl]
    show (mgot cutZ.den.asS).e = _
    rw [ec]
  unfold lawG
  refine okF (gtr_F (by rw [d0, ci_asI]; omega)) (okT (leq_T (by rw [d0, ci_asI]; omega)) ?_)
  by_cases h0 : 0 < s.length
  · refine okT (lss_T (by rw [d0, ci_asI]; omega)) (okT (leq_T (by rw [d0, ci_asI]; omega)) (okT (leq_T (by rw [dc, ci_asI]; omega)) ?_))
    by_cases he : (mgot s).e = 0
    · rcases h with h | h
      · exact absurd ⟨h0, he⟩ h
      · exact okF (neq_F (by rw [a6, ci_asI]; exact he)) h
    · exact okT (neq_T (by rw [a6, ci_asI]; exact he)) okM
  · exact okF (lss_F (by rw [d0, ci_asI]; omega)) okM
theorem law_gets (s : List UInt8) : ∃ (ρ : Rho) (a b c : LpG), ρ.val 0 = .dS s ∧ @EnvOK ρ Try.prog (envQ a b c) ∧ @Tree.ok ρ (lawQ a b c) := by
  obtain ⟨N, hE⟩ := chain s
  rcases Nat.lt_or_ge 500 s.length with hl | hn
  · refine ⟨rhoZ s N, shut gA, gS, gT, rfl, envQ_ok rfl (shut_ok _ _ _ _) (shut_ok _ _ _ _) (shut_ok _ _ _ _), ?_⟩
    rw [lawQ_S]
    letI ρ : Rho := rhoZ s N
    have d0 : (Tm.len v0).den.asI = (s.length : Int) := rfl
    exact okT (gtr_T (by rw [d0, ci_asI]; omega)) okM
  · rcases Nat.eq_zero_or_pos N with rfl | h1
    · refine ⟨rhoZ s 0, shut gA, gS, gT, rfl, envQ_ok rfl (shut_ok _ _ _ _) (shut_ok _ _ _ _) (shut_ok _ _ _ _), ?_⟩
      rw [lawQ_S]
      exact lawG_pre hn .fail (.inl hE.2)
    · have hle := at_le hE.1
      have hB : GOk (rhoZ s N) 15 0 (orG (gB 9) (gB 14)) := orG_ok (gB_gen rtB1_eq hn h1 hE) (gB_gen rtB2_eq hn h1 hE)
      have hJ : GOk (rhoZ s N) 4 1 (orG (gJ 0 10) (gJ 1 15)) := orG_ok (gJ_gen rtJ1_eq (by omega)) (gJ_gen rtJ2_eq (by omega))
      have hz : @Tree.ok (rhoZ s N) behindG := by
        letI ρ : Rho := rhoZ s N
        have d1 : v1.den.asI = (atM s N : Int) := rfl
        have d3 : v3.den.asI = (atM s N : Int) := rfl
        have d2 : (Tm.llen v2).den.asI = ((rowsM s N).length : Int) := rfl
        have d4 : (Tm.llen v4).den.asI = ((rowsM s N).length : Int) := rfl
        have ar : (Tm.llen (rowT10 cutZ)).den.asI = 1 := rfl
        exact okT (eql_T (by rw [ar, ci_asI])) (okF (neq_F (by rw [d3, d1])) (okF (neq_F (by rw [d4, d2])) okM))
      by_cases hlt : atM s N < s.length
      · refine ⟨rhoZ s N, gAR, _, _, rfl, envQ_ok rfl (gA_gen (x := .ret) (e := [(.sI, .llen v2, .llen v2), (.sI, v1, v1), (.sL, v2, v2)]) _ _ rtAR_eq (by simp) hn h1 hE (if_pos hlt) ⟨rfl, rfl, rfl, trivial⟩) hB hJ, ?_⟩
        rw [lawQ_R]; exact lawG_pre hn _ (.inr hz)
      · refine ⟨rhoZ s N, gA, _, _, rfl, envQ_ok rfl (gA_gen (x := .exit 0) (e := [(.sI, v1, v1), (.sI, .llen v2, .llen v2), (.sL, v2, v2)]) _ _ rtA_eq (by simp) hn h1 hE (if_neg hlt) ⟨rfl, rfl, rfl, trivial⟩) hB hJ, ?_⟩
        rw [lawQ_A]; exact lawG_pre hn _ (.inr hz)
end
set_option maxRecDepth 100000 in
theorem msgsGets_w (s : List UInt8) (w : World) : Calls Try.prog 4 #[.string ⟨s.toArray⟩] w fun e w' => e = .returned (.bool true) ∧ RowKit.Below w.heap.size w w' := by
  obtain ⟨ρ, a, b, c, h0, hE, hT⟩ := law_gets s
  letI := ρ
  exact call_true (evFun_ok noCount hE 1000) (args := [.sstr v0]) hT (cargs := [.string ⟨s.toArray⟩]) ⟨_, _, by show _ = Value.string ⟨(ρ.val 0).asS.toArray⟩; rw [h0]; rfl, rfl, rfl⟩ w
end Go.Proofs.Ytamibbjpapkfeaa.Ab
namespace Go.Proofs.Ytamibbjpapkfeaa
open Go Go.Proofs.Ytamibbjpapkfeaa.Ab
theorem msgsGets_walk (s : List UInt8) (_ : s.length ≤ maxLen) (w : World) : Calls Try.prog 4 #[.string ⟨s.toArray⟩] w fun e w' => e = .returned (.bool true) ∧ RowKit.Below w.heap.size w w' := msgsGets_w s w
end Go.Proofs.Ytamibbjpapkfeaa
