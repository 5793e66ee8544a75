/-
  MscBack, called: it returns true and makes at most new blocks.
  Conditions: arguments as the model reads them.
-/
import Derived.Test.YtmnflfjcfkblbaaMscF
import Derived.Test.YtmnflfjcfkblbaaMscQ
namespace Go.Proofs.Ytmnflfjcfkblbaa.Ab
set_option linter.unusedSimpArgs false
set_option linter.unusedVariables false
open Go
abbrev rhoB (s t : Stat) (v : List UInt8) : Rho := rhoM [.dI s.d, .dB s.fc, .dB s.rtc, .dB s.rtr, .dB s.ic, .dB s.dv, .dB s.hb, .dI s.br, .dI t.d, .dB t.fc, .dB t.rtc, .dB t.rtr, .dB t.ic, .dB t.dv, .dB t.hb, .dI t.br, .dS v]
theorem eq_fields (s t : Stat) : (s = t) ↔ (s.d = t.d ∧ s.fc = t.fc ∧ s.rtc = t.rtc ∧ s.rtr = t.rtr ∧ s.ic = t.ic ∧ s.dv = t.dv ∧ s.hb = t.hb ∧ s.br = t.br) := by
  obtain ⟨⟩ := s; obtain ⟨⟩ := t
  simp
set_option maxHeartbeats 4000000 in
theorem back_ok (s t : Stat) (s0 : 0 ≤ s.d) (s1 : s.d ≤ 255) (s2 : 0 ≤ s.br) (s3 : s.br ≤ 255) (t0 : 0 ≤ t.d) (t1 : t.d ≤ 255) (t2 : 0 ≤ t.br) (t3 : t.br ≤ 255) (v : List UInt8) : @Tree.ok (rhoB s t v) backTree := by
  have hs := mget_mput s s0 s2
  have hinj := mput_inj s t s0 s2 t0 t2
  have hshort := mput_short s
  rw [eq_fields] at hinj
  have S0 : @Tm.den (rhoB s t v) (.app 0 (pairT 0)) = .dS (mput s).1 := rfl
  have S1 : @Tm.den (rhoB s t v) (.app 1 (pairT 0)) = .dI (mput s).2 := rfl
  have T0 : @Tm.den (rhoB s t v) (.app 0 (pairT 8)) = .dS (mput t).1 := rfl
  have T1 : @Tm.den (rhoB s t v) (.app 1 (pairT 8)) = .dI (mput t).2 := rfl
  have G0 : @Tm.den (rhoB s t v) (.app 0 (gotT (.var 16))) = .dS (mput (mget v).1).1 := rfl
  have G1 : @Tm.den (rhoB s t v) (.app 1 (gotT (.var 16))) = .dI (mput (mget v).1).2 := rfl
  have A : ∀ f x, @Tm.den (rhoB s t v) (.app f x) = mscFn f (@Tm.den (rhoB s t v) x) := fun _ _ => rfl
  have V : ∀ n, @Tm.den (rhoB s t v) (.var n) = [Dat.dI s.d, .dB s.fc, .dB s.rtc, .dB s.rtr, .dB s.ic, .dB s.dv, .dB s.hb, .dI s.br, .dI t.d, .dB t.fc, .dB t.rtc, .dB t.rtr, .dB t.ic, .dB t.dv, .dB t.hb, .dI t.br, .dS v].getD n (.dI 0) := fun _ => rfl
  have leaf1 : @Tree.ok (rhoB s t v) (.leaf (.bool true)) := ⟨.cb true, rfl, rfl⟩
  have leaf0 : ¬ @Tree.ok (rhoB s t v) (.leaf (.bool false)) := fun ⟨t, h1, h2⟩ => by cases h1; cases h2
  have fail0 : ¬ @Tree.ok (rhoB s t v) .fail := fun h => h
  have fork : ∀ c x y, @Tree.ok (rhoB s t v) (.fork c x y) ↔ ((@Tm.den (rhoB s t v) c).asB = true → @Tree.ok (rhoB s t v) x) ∧ ((@Tm.den (rhoB s t v) c).asB = false → @Tree.ok (rhoB s t v) y) := fun _ _ _ => Iff.rfl
  have I : ∀ op k x y, @Tm.den (rhoB s t v) (.ib op k x y) = iop op k (@Tm.den (rhoB s t v) x).asI (@Tm.den (rhoB s t v) y).asI := fun _ _ _ _ => rfl
  have Sb : ∀ op x y, @Tm.den (rhoB s t v) (.sb op x y) = sop op (@Tm.den (rhoB s t v) x).asS (@Tm.den (rhoB s t v) y).asS := fun _ _ _ => rfl
  have N : ∀ x, @Tm.den (rhoB s t v) (.not x) = .dB (!(@Tm.den (rhoB s t v) x).asB) := fun _ => rfl
  have An : ∀ x y, @Tm.den (rhoB s t v) (.and x y) = .dB ((@Tm.den (rhoB s t v) x).asB && (@Tm.den (rhoB s t v) y).asB) := fun _ _ => rfl
  have Be : ∀ x y, @Tm.den (rhoB s t v) (.beq x y) = .dB ((@Tm.den (rhoB s t v) x).asB == (@Tm.den (rhoB s t v) y).asB) := fun _ _ => rfl
  have L : ∀ x, @Tm.den (rhoB s t v) (.len x) = .dI ((@Tm.den (rhoB s t v) x).asS.length : Int) := fun _ => rfl
  have C : ∀ n, @Tm.den (rhoB s t v) (.ci n) = .dI n := fun _ => rfl
  have B : ∀ n, @Tm.den (rhoB s t v) (.cb n) = .dB n := fun _ => rfl
  have SS : ∀ x, (Dat.dS x).asS = x := fun _ => rfl
  have II : ∀ x, (Dat.dI x).asI = x := fun _ => rfl
  have BB : ∀ x, (Dat.dB x).asB = x := fun _ => rfl
  unfold backTree
  simp only [fork, leaf1, leaf0, fail0, S0, S1, T0, T1, G0, G1, I, Sb, N, An, Be, L, C, B, SS, II, BB, iop, sop, A, mscFn, V, List.getD_cons_succ, List.getD_cons_zero]
  clear S0 S1 T0 T1 G0 G1 A V leaf1 leaf0 fail0 fork I Sb N An Be L C B SS II BB
  have hq := mget_cases v
  have hl : ((mput s).1.length : Int) ≤ 1000 := by omega
  by_cases h50 : (v.length : Int) > 50
  · simp [h50]
  have hl2 : (v.length : Int) ≤ 1000 := by omega
  by_cases h1 : (mput s).2 = 0
  · have hs' := hs h1
    by_cases h2 : (mput t).2 = 0
    · have hi : ((mput s).1 == (mput t).1) = (s.d == t.d && (s.fc == t.fc && (s.rtc == t.rtc && (s.rtr == t.rtr && (s.ic == t.ic && (s.dv == t.dv && (s.hb == t.hb && s.br == t.br))))))) := by
        rw [Bool.eq_iff_iff]
        simp only [beq_iff_eq, Bool.and_eq_true]
        exact hinj h1 h2
      rcases hq with hv | hv | ⟨q, hv, hp, q0, q1, q2, q3⟩
      all_goals
        simp_all
        try omega
    · rcases hq with hv | hv | ⟨q, hv, hp, q0, q1, q2, q3⟩
      all_goals
        simp_all
        try omega
  · rcases hq with hv | hv | ⟨q, hv, hp, q0, q1, q2, q3⟩
    all_goals
      simp_all
      try omega
theorem mscBack_w (s t : Stat) (s0 : 0 ≤ s.d) (s1 : s.d ≤ 255) (s2 : 0 ≤ s.br) (s3 : s.br ≤ 255) (t0 : 0 ≤ t.d) (t1 : t.d ≤ 255) (t2 : 0 ≤ t.br) (t3 : t.br ≤ 255) (v : List UInt8) (w : World) :
    Calls Try.prog 9 #[statV s, statV t, .string (S v)] w fun e w' => e = .returned (.bool true) ∧ RowKit.Below w.heap.size w w' := by
  letI ρ : Rho := rhoB s t v
  refine call_true (evFun_ok noCount (envM_ok rfl) 1000) (args := [stB 0, stB 8, .sstr (.var 16)]) ?_ (cargs := [statV s, statV t, .string (S v)])
    ⟨_, _, stB_VR 0 _ rfl rfl rfl rfl rfl rfl rfl rfl, ⟨_, _, stB_VR 8 _ rfl rfl rfl rfl rfl rfl rfl rfl, ⟨_, _, rfl, rfl, rfl⟩, rfl⟩, rfl⟩ w
  have := back_tree
  unfold leafT at this
  rw [this]
  exact back_ok s t s0 s1 s2 s3 t0 t1 t2 t3 v
end Go.Proofs.Ytmnflfjcfkblbaa.Ab
namespace Go.Proofs.Ytmnflfjcfkblbaa
open Go
theorem mscBack_walk (d : Int) (wd : (Lit.int .u8 d).wf = true) (fc rtc rtr ic dv hb : Bool) (br : Int) (wb : (Lit.int .u8 br).wf = true) (d' : Int) (wd' : (Lit.int .u8 d').wf = true) (fc' rtc' rtr' ic' dv' hb' : Bool) (br' : Int) (wb' : (Lit.int .u8 br').wf = true) (v : List UInt8) (_hl : v.length ≤ maxLen) (w : World) :
    Calls Try.prog 9 #[statV ⟨d, fc, rtc, rtr, ic, dv, hb, br⟩, statV ⟨d', fc', rtc', rtr', ic', dv', hb', br'⟩, .string (S v)] w fun e w' => e = .returned (.bool true) ∧ RowKit.Below w.heap.size w w' :=
  Ab.mscBack_w ⟨d, fc, rtc, rtr, ic, dv, hb, br⟩ ⟨d', fc', rtc', rtr', ic', dv', hb', br'⟩ (wf8 wd).1 (wf8 wd).2 (wf8 wb).1 (wf8 wb).2 (wf8 wd').1 (wf8 wd').2 (wf8 wb').1 (wf8 wb').2 v w
end Go.Proofs.Ytmnflfjcfkblbaa
