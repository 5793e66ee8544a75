/-
  Get of layer 10, both: the message with which octets begin.
  Conditions: at most 2^47 octets.
-/
import Derived.Test.YtamibbjpapkfeaaMsgN
namespace Go.Proofs.Ytamibbjpapkfeaa.Ab
set_option linter.unusedSimpArgs false
set_option linter.unusedVariables false
open Go
/-- A message's cells. -/
def mrow (k : Int) (c : Bool) (p : Prm) (m : Stat) (t : Int) (b : List UInt8) : List Dat := [.dI k, .dB c, .dI p.d, .dI p.f, .dI p.c, .dI p.p, .dI p.t1, .dI p.n1, .dI p.n2, .dI p.k, .dI m.d, .dB m.fc, .dB m.rtc, .dB m.rtr, .dB m.ic, .dB m.dv, .dB m.hb, .dI m.br, .dI t, .dS b]
def shM : List Kd := [.ki .u8, .kb, .ki .u8, .ki .u8, .ki .u8, .ki .u8, .ki .i64, .ki .i64, .ki .i64, .ki .i64, .ki .u8, .kb, .kb, .kb, .kb, .kb, .kb, .ki .u8, .ki .u8, .ks]
structure MGot where
  row : List Dat
  n : Int
  e : Int
def noMsg (e : Int) : MGot := ⟨mrow 0 false noPrm noStat 0 [], 0, e⟩
/-- What is got of octets. -/
def mgot (s : List UInt8) : MGot :=
  if (tget s).e ≠ 0 then noMsg (tget s).e else if kindF (tget s).k = 1 then (if (pget (tget s).v).2 ≠ 0 then noMsg 70 else ⟨mrow 1 (tget s).c (pget (tget s).v).1 noStat 0 [], (tget s).n, 0⟩)
  else if kindF (tget s).k = 2 then (if (mget (tget s).v).2 ≠ 0 then noMsg 70 else ⟨mrow 2 (tget s).c noPrm (mget (tget s).v).1 0 [], (tget s).n, 0⟩)
  else if kindF (tget s).k = 5 then ⟨mrow 5 (tget s).c noPrm noStat 0 (tget s).v, (tget s).n, 0⟩
  else if kindF (tget s).k = 7 then (if (tget s).v.length = 1 then ⟨mrow 7 (tget s).c noPrm noStat (octAt (tget s).v 0) [], (tget s).n, 0⟩ else noMsg 70)
  else if kindF (tget s).k = 8 then ⟨mrow 8 (tget s).c noPrm noStat (tget s).k (tget s).v, (tget s).n, 0⟩
  else if (tget s).v ≠ [] then noMsg 70 else ⟨mrow (kindF (tget s).k) (tget s).c noPrm noStat 0 [], (tget s).n, 0⟩
abbrev mgotV (s : List UInt8) : Value := .tuple #[.agg (List.zipWith kdV shM (mgot s).row).toArray, .int .i64 (mgot s).n, .int .i64 (mgot s).e]
abbrev mv : Tm := .app 24 (.var 0)
abbrev mk : Tm := .app 22 (.var 0)
abbrev mK : Tm := .app 30 mk
abbrev mc : Tm := .app 23 (.var 0)
abbrev mn : Tm := .app 25 (.var 0)
abbrev me : Tm := .app 26 (.var 0)
abbrev mE (e : AV) : Tree AV := .leaf (.tuple [.agg [.int .u8 0, .bool false, .int .u8 0, .int .u8 0, .int .u8 0, .int .u8 0, .int .i64 0, .int .i64 0, .int .i64 0, .int .i64 0, .int .u8 0, .bool false, .bool false, .bool false, .bool false, .bool false, .bool false, .int .u8 0, .int .u8 0, .str []], .int .i64 0, e])
def mgT : Tree AV := .fork (.ib .leq .i64 (.len (.var 0)) (.ci 140737488355328)) (.fork (.ib .neq .i64 me (.ci 0)) (mE (.sint .i64 me)) (.fork (.and (.ib .leq .u8 (.ci 0) mk) (.ib .leq .u8 mk (.ci 63))) (.fork (.ib .eql .u8 mK (.ci 1)) (.fork (.ib .neq .i64 (.app 48 mv) (.ci 0)) (mE (.int .i64 70)) (.leaf (.tuple [.agg [.sint .u8 mK, .sbool mc, .sint .u8 (.app 40 mv), .sint .u8 (.app 41 mv), .sint .u8 (.app 42 mv), .sint .u8 (.app 43 mv), .sint .i64 (.app 44 mv), .sint .i64 (.app 45 mv), .sint .i64 (.app 46 mv), .sint .i64 (.app 47 mv), .int .u8 0, .bool false, .bool false, .bool false, .bool false, .bool false, .bool false, .int .u8 0, .int .u8 0, .str []], .sint .i64 mn, .int .i64 0]))) (.fork (.ib .eql .u8 mK (.ci 2)) (.fork (.ib .leq .i64 (.len mv) (.ci 1000)) (.fork (.ib .neq .i64 (.app 58 mv) (.ci 0)) (mE (.int .i64 70)) (.leaf (.tuple [.agg [.sint .u8 mK, .sbool mc, .int .u8 0, .int .u8 0, .int .u8 0, .int .u8 0, .int .i64 0, .int .i64 0, .int .i64 0, .int .i64 0, .sint .u8 (.app 50 mv), .sbool (.app 51 mv), .sbool (.app 52 mv), .sbool (.app 53 mv), .sbool (.app 54 mv), .sbool (.app 55 mv), .sbool (.app 56 mv), .sint .u8 (.app 57 mv), .int .u8 0, .str []], .sint .i64 mn, .int .i64 0]))) .fail) (.fork (.ib .eql .u8 mK (.ci 5)) (.leaf (.tuple [.agg [.sint .u8 mK, .sbool mc, .int .u8 0, .int .u8 0, .int .u8 0, .int .u8 0, .int .i64 0, .int .i64 0, .int .i64 0, .int .i64 0, .int .u8 0, .bool false, .bool false, .bool false, .bool false, .bool false, .bool false, .int .u8 0, .int .u8 0, .sstr mv], .sint .i64 mn, .int .i64 0])) (.fork (.ib .eql .u8 mK (.ci 7)) (.fork (.ib .eql .i64 (.len mv) (.ci 1)) (.fork (.ib .lss .i64 (.ci 0) (.len mv)) (.leaf (.tuple [.agg [.sint .u8 mK, .sbool mc, .int .u8 0, .int .u8 0, .int .u8 0, .int .u8 0, .int .i64 0, .int .i64 0, .int .i64 0, .int .i64 0, .int .u8 0, .bool false, .bool false, .bool false, .bool false, .bool false, .bool false, .int .u8 0, .sint .u8 (.at mv (.ci 0)), .str []], .sint .i64 mn, .int .i64 0])) .fail) (mE (.int .i64 70))) (.fork (.ib .eql .u8 mK (.ci 8)) (.leaf (.tuple [.agg [.sint .u8 mK, .sbool mc, .int .u8 0, .int .u8 0, .int .u8 0, .int .u8 0, .int .i64 0, .int .i64 0, .int .i64 0, .int .i64 0, .int .u8 0, .bool false, .bool false, .bool false, .bool false, .bool false, .bool false, .int .u8 0, .sint .u8 mk, .sstr mv], .sint .i64 mn, .int .i64 0])) (.fork (.sb .neq mv (.cs [])) (mE (.int .i64 70)) (.leaf (.tuple [.agg [.sint .u8 mK, .sbool mc, .int .u8 0, .int .u8 0, .int .u8 0, .int .u8 0, .int .i64 0, .int .i64 0, .int .i64 0, .int .i64 0, .int .u8 0, .bool false, .bool false, .bool false, .bool false, .bool false, .bool false, .int .u8 0, .int .u8 0, .str []], .sint .i64 mn, .int .i64 0])))))))) .fail)) .fail
set_option maxRecDepth 100000 in
theorem mgT_eq : evFun Try.prog envN 1000 11 [.sstr (.var 0)] heap0 leafT = mgT := by kernel_rfl
set_option maxRecDepth 100000 in
theorem rmgT_eq : evFun Try.prog envN 1000 12 [.sstr (.var 0)] heap0 leafT = mgT := by kernel_rfl
theorem kindF_cases (t : Int) : kindF t = 1 ∨ kindF t = 2 ∨ kindF t = 3 ∨ kindF t = 4 ∨ kindF t = 5 ∨ kindF t = 6 ∨ kindF t = 7 ∨ kindF t = 8 := by
  unfold kindF; repeat' split
  all_goals simp
theorem mg_sel (s : List UInt8) (hl : s.length ≤ 140737488355328) : ∃ u, @Tree.sel _ (rhoN [.dS s]) mgT = some u ∧ @VR (rhoN [.dS s]) (fun _ => none) u (mgotV s) := by
  letI ρ : Rho := rhoN [.dS s]
  have dl : (Tm.len (.var 0)).den.asI = (s.length : Int) := rfl
  have de : me.den.asI = (tget s).e := rfl
  have dk : mk.den.asI = (tget s).k := rfl
  have dK : mK.den.asI = kindF (tget s).k := rfl
  have dv : mv.den.asS = (tget s).v := rfl
  have dvl : (Tm.len mv).den.asI = ((tget s).v.length : Int) := rfl
  have d48 : (Tm.app 48 mv).den.asI = (pget (tget s).v).2 := rfl
  have d58 : (Tm.app 58 mv).den.asI = (mget (tget s).v).2 := rfl
  have bad : ∀ (e : AV) (n : Int), VR (fun _ => none) e (.int .i64 n) → mgot s = noMsg n → VR (fun _ => none) (.tuple [.agg [.int .u8 0, .bool false, .int .u8 0, .int .u8 0, .int .u8 0, .int .u8 0, .int .i64 0, .int .i64 0, .int .i64 0, .int .i64 0, .int .u8 0, .bool false, .bool false, .bool false, .bool false, .bool false, .bool false, .int .u8 0, .int .u8 0, .str []], .int .i64 0, e]) (mgotV s) := fun e n he hm => by
    unfold mgotV; rw [hm]
    exact ⟨_, ⟨_, _, ⟨_, ⟨_, _, rfl, ⟨_, _, rfl, ⟨_, _, rfl, ⟨_, _, rfl, ⟨_, _, rfl, ⟨_, _, rfl, ⟨_, _, rfl, ⟨_, _, rfl, ⟨_, _, rfl, ⟨_, _, rfl, ⟨_, _, rfl, ⟨_, _, rfl, ⟨_, _, rfl, ⟨_, _, rfl, ⟨_, _, rfl, ⟨_, _, rfl, ⟨_, _, rfl, ⟨_, _, rfl, ⟨_, _, rfl, ⟨_, _, rfl, rfl, rfl⟩, rfl⟩, rfl⟩, rfl⟩, rfl⟩, rfl⟩, rfl⟩, rfl⟩, rfl⟩, rfl⟩, rfl⟩, rfl⟩, rfl⟩, rfl⟩, rfl⟩, rfl⟩, rfl⟩, rfl⟩, rfl⟩, rfl⟩, rfl⟩, ⟨_, _, rfl, ⟨_, _, he, rfl, rfl⟩, rfl⟩, rfl⟩, rfl⟩
  have h0 : (Tm.ib .leq .i64 (.len (.var 0)) (.ci 140737488355328)).den.asB = true := leq_T (by rw [dl, ci_asI]; omega)
  rcases tput_tget s with hb | ⟨g0, g1, g2, g3, g4⟩
  · have hne : (tget s).e ≠ 0 := by rcases hb with hb | hb <;> rw [hb] <;> decide
    refine ⟨_, sel_T h0 (sel_T (neq_T (by rw [de, ci_asI]; exact hne)) rfl), bad _ _ rfl ?_⟩
    exact if_pos hne
  · have hok : (Tm.ib .neq .i64 me (.ci 0)).den.asB = false := neq_F (by rw [de, ci_asI]; exact g0)
    have hoct : (Tm.and (.ib .leq .u8 (.ci 0) mk) (.ib .leq .u8 mk (.ci 63))).den.asB = true := and_T (leq_T (by rw [dk, ci_asI]; exact g1)) (leq_T (by rw [dk, ci_asI]; exact g2))
    have hm0 : mgot s = (if kindF (tget s).k = 1 then (if (pget (tget s).v).2 ≠ 0 then noMsg 70 else ⟨mrow 1 (tget s).c (pget (tget s).v).1 noStat 0 [], (tget s).n, 0⟩)
      else if kindF (tget s).k = 2 then (if (mget (tget s).v).2 ≠ 0 then noMsg 70 else ⟨mrow 2 (tget s).c noPrm (mget (tget s).v).1 0 [], (tget s).n, 0⟩)
      else if kindF (tget s).k = 5 then ⟨mrow 5 (tget s).c noPrm noStat 0 (tget s).v, (tget s).n, 0⟩
      else if kindF (tget s).k = 7 then (if (tget s).v.length = 1 then ⟨mrow 7 (tget s).c noPrm noStat (octAt (tget s).v 0) [], (tget s).n, 0⟩ else noMsg 70)
      else if kindF (tget s).k = 8 then ⟨mrow 8 (tget s).c noPrm noStat (tget s).k (tget s).v, (tget s).n, 0⟩
      else if (tget s).v ≠ [] then noMsg 70 else ⟨mrow (kindF (tget s).k) (tget s).c noPrm noStat 0 [], (tget s).n, 0⟩) := if_neg (by rw [g0]; simp)
    have kT : ∀ n : Int, kindF (tget s).k = n → (Tm.ib .eql .u8 mK (.ci n)).den.asB = true := fun n h => eql_T (by rw [dK, ci_asI]; exact h)
    have kF : ∀ n : Int, kindF (tget s).k ≠ n → (Tm.ib .eql .u8 mK (.ci n)).den.asB = false := fun n h => eql_F (by rw [dK, ci_asI]; exact h)
    unfold mgT
    by_cases k1 : kindF (tget s).k = 1
    · rw [if_pos k1] at hm0
      by_cases hp : (pget (tget s).v).2 = 0
      · rw [if_neg (by rw [hp]; simp)] at hm0
        refine ⟨_, sel_T h0 (sel_F hok (sel_T hoct (sel_T (kT 1 k1) (sel_F (neq_F (by rw [d48, ci_asI]; exact hp)) rfl)))), ?_⟩
        unfold mgotV; rw [hm0]
        refine ⟨_, ⟨_, _, ⟨_, ⟨_, _, rfl, ⟨_, _, rfl, ⟨_, _, rfl, ⟨_, _, rfl, ⟨_, _, rfl, ⟨_, _, rfl, ⟨_, _, rfl, ⟨_, _, rfl, ⟨_, _, rfl, ⟨_, _, rfl, ⟨_, _, rfl, ⟨_, _, rfl, ⟨_, _, rfl, ⟨_, _, rfl, ⟨_, _, rfl, ⟨_, _, rfl, ⟨_, _, rfl, ⟨_, _, rfl, ⟨_, _, rfl, ⟨_, _, rfl, rfl, rfl⟩, rfl⟩, rfl⟩, rfl⟩, rfl⟩, rfl⟩, rfl⟩, rfl⟩, rfl⟩, rfl⟩, rfl⟩, rfl⟩, rfl⟩, rfl⟩, rfl⟩, rfl⟩, rfl⟩, rfl⟩, rfl⟩, rfl⟩, rfl⟩, ⟨_, _, rfl, ⟨_, _, rfl, rfl, rfl⟩, rfl⟩, rfl⟩, ?_⟩
        rw [dK, k1]; rfl
      · rw [if_pos hp] at hm0
        exact ⟨_, sel_T h0 (sel_F hok (sel_T hoct (sel_T (kT 1 k1) (sel_T (neq_T (by rw [d48, ci_asI]; exact hp)) rfl)))), bad _ _ rfl hm0⟩
    rw [if_neg k1] at hm0
    by_cases k2 : kindF (tget s).k = 2
    · rw [if_pos k2] at hm0
      have h1000 : (Tm.ib .leq .i64 (.len mv) (.ci 1000)).den.asB = true := leq_T (by rw [dvl, ci_asI]; omega)
      by_cases hp : (mget (tget s).v).2 = 0
      · rw [if_neg (by rw [hp]; simp)] at hm0
        refine ⟨_, sel_T h0 (sel_F hok (sel_T hoct (sel_F (kF 1 k1) (sel_T (kT 2 k2) (sel_T h1000 (sel_F (neq_F (by rw [d58, ci_asI]; exact hp)) rfl)))))), ?_⟩
        unfold mgotV; rw [hm0]
        refine ⟨_, ⟨_, _, ⟨_, ⟨_, _, rfl, ⟨_, _, rfl, ⟨_, _, rfl, ⟨_, _, rfl, ⟨_, _, rfl, ⟨_, _, rfl, ⟨_, _, rfl, ⟨_, _, rfl, ⟨_, _, rfl, ⟨_, _, rfl, ⟨_, _, rfl, ⟨_, _, rfl, ⟨_, _, rfl, ⟨_, _, rfl, ⟨_, _, rfl, ⟨_, _, rfl, ⟨_, _, rfl, ⟨_, _, rfl, ⟨_, _, rfl, ⟨_, _, rfl, rfl, rfl⟩, rfl⟩, rfl⟩, rfl⟩, rfl⟩, rfl⟩, rfl⟩, rfl⟩, rfl⟩, rfl⟩, rfl⟩, rfl⟩, rfl⟩, rfl⟩, rfl⟩, rfl⟩, rfl⟩, rfl⟩, rfl⟩, rfl⟩, rfl⟩, ⟨_, _, rfl, ⟨_, _, rfl, rfl, rfl⟩, rfl⟩, rfl⟩, ?_⟩
        rw [dK, k2]; rfl
      · rw [if_pos hp] at hm0
        exact ⟨_, sel_T h0 (sel_F hok (sel_T hoct (sel_F (kF 1 k1) (sel_T (kT 2 k2) (sel_T h1000 (sel_T (neq_T (by rw [d58, ci_asI]; exact hp)) rfl)))))), bad _ _ rfl hm0⟩
    rw [if_neg k2] at hm0
    by_cases k5 : kindF (tget s).k = 5
    · rw [if_pos k5] at hm0
      refine ⟨_, sel_T h0 (sel_F hok (sel_T hoct (sel_F (kF 1 k1) (sel_F (kF 2 k2) (sel_T (kT 5 k5) rfl))))), ?_⟩
      unfold mgotV; rw [hm0]
      refine ⟨_, ⟨_, _, ⟨_, ⟨_, _, rfl, ⟨_, _, rfl, ⟨_, _, rfl, ⟨_, _, rfl, ⟨_, _, rfl, ⟨_, _, rfl, ⟨_, _, rfl, ⟨_, _, rfl, ⟨_, _, rfl, ⟨_, _, rfl, ⟨_, _, rfl, ⟨_, _, rfl, ⟨_, _, rfl, ⟨_, _, rfl, ⟨_, _, rfl, ⟨_, _, rfl, ⟨_, _, rfl, ⟨_, _, rfl, ⟨_, _, rfl, ⟨_, _, rfl, rfl, rfl⟩, rfl⟩, rfl⟩, rfl⟩, rfl⟩, rfl⟩, rfl⟩, rfl⟩, rfl⟩, rfl⟩, rfl⟩, rfl⟩, rfl⟩, rfl⟩, rfl⟩, rfl⟩, rfl⟩, rfl⟩, rfl⟩, rfl⟩, rfl⟩, ⟨_, _, rfl, ⟨_, _, rfl, rfl, rfl⟩, rfl⟩, rfl⟩, ?_⟩
      rw [dK, k5]; rfl
    rw [if_neg k5] at hm0
    by_cases k7 : kindF (tget s).k = 7
    · rw [if_pos k7] at hm0
      by_cases hp : (tget s).v.length = 1
      · rw [if_pos hp] at hm0
        refine ⟨_, sel_T h0 (sel_F hok (sel_T hoct (sel_F (kF 1 k1) (sel_F (kF 2 k2) (sel_F (kF 5 k5) (sel_T (kT 7 k7) (sel_T (eql_T (by rw [dvl, ci_asI, hp]; rfl)) (sel_T (lss_T (by rw [dvl, ci_asI, hp]; decide)) rfl)))))))), ?_⟩
        unfold mgotV; rw [hm0]
        refine ⟨_, ⟨_, _, ⟨_, ⟨_, _, rfl, ⟨_, _, rfl, ⟨_, _, rfl, ⟨_, _, rfl, ⟨_, _, rfl, ⟨_, _, rfl, ⟨_, _, rfl, ⟨_, _, rfl, ⟨_, _, rfl, ⟨_, _, rfl, ⟨_, _, rfl, ⟨_, _, rfl, ⟨_, _, rfl, ⟨_, _, rfl, ⟨_, _, rfl, ⟨_, _, rfl, ⟨_, _, rfl, ⟨_, _, rfl, ⟨_, _, rfl, ⟨_, _, rfl, rfl, rfl⟩, rfl⟩, rfl⟩, rfl⟩, rfl⟩, rfl⟩, rfl⟩, rfl⟩, rfl⟩, rfl⟩, rfl⟩, rfl⟩, rfl⟩, rfl⟩, rfl⟩, rfl⟩, rfl⟩, rfl⟩, rfl⟩, rfl⟩, rfl⟩, ⟨_, _, rfl, ⟨_, _, rfl, rfl, rfl⟩, rfl⟩, rfl⟩, ?_⟩
        rw [dK, k7]; rfl
      · rw [if_neg hp] at hm0
        exact ⟨_, sel_T h0 (sel_F hok (sel_T hoct (sel_F (kF 1 k1) (sel_F (kF 2 k2) (sel_F (kF 5 k5) (sel_T (kT 7 k7) (sel_F (eql_F (by rw [dvl, ci_asI]; omega)) rfl))))))), bad _ _ rfl hm0⟩
    rw [if_neg k7] at hm0
    by_cases k8 : kindF (tget s).k = 8
    · rw [if_pos k8] at hm0
      refine ⟨_, sel_T h0 (sel_F hok (sel_T hoct (sel_F (kF 1 k1) (sel_F (kF 2 k2) (sel_F (kF 5 k5) (sel_F (kF 7 k7) (sel_T (kT 8 k8) rfl))))))), ?_⟩
      unfold mgotV; rw [hm0]
      refine ⟨_, ⟨_, _, ⟨_, ⟨_, _, rfl, ⟨_, _, rfl, ⟨_, _, rfl, ⟨_, _, rfl, ⟨_, _, rfl, ⟨_, _, rfl, ⟨_, _, rfl, ⟨_, _, rfl, ⟨_, _, rfl, ⟨_, _, rfl, ⟨_, _, rfl, ⟨_, _, rfl, ⟨_, _, rfl, ⟨_, _, rfl, ⟨_, _, rfl, ⟨_, _, rfl, ⟨_, _, rfl, ⟨_, _, rfl, ⟨_, _, rfl, ⟨_, _, rfl, rfl, rfl⟩, rfl⟩, rfl⟩, rfl⟩, rfl⟩, rfl⟩, rfl⟩, rfl⟩, rfl⟩, rfl⟩, rfl⟩, rfl⟩, rfl⟩, rfl⟩, rfl⟩, rfl⟩, rfl⟩, rfl⟩, rfl⟩, rfl⟩, rfl⟩, ⟨_, _, rfl, ⟨_, _, rfl, rfl, rfl⟩, rfl⟩, rfl⟩, ?_⟩
      rw [dK, k8]; rfl
    rw [if_neg k8] at hm0
    by_cases hp : (tget s).v = []
    · rw [if_neg (by rw [hp]; simp)] at hm0
      refine ⟨_, sel_T h0 (sel_F hok (sel_T hoct (sel_F (kF 1 k1) (sel_F (kF 2 k2) (sel_F (kF 5 k5) (sel_F (kF 7 k7) (sel_F (kF 8 k8) (sel_F ?_ rfl)))))))), ?_⟩
      · show (mv.den.asS != []) = false
        rw [dv, hp]; rfl
      unfold mgotV; rw [hm0]
      exact ⟨_, ⟨_, _, ⟨_, ⟨_, _, rfl, ⟨_, _, rfl, ⟨_, _, rfl, ⟨_, _, rfl, ⟨_, _, rfl, ⟨_, _, rfl, ⟨_, _, rfl, ⟨_, _, rfl, ⟨_, _, rfl, ⟨_, _, rfl, ⟨_, _, rfl, ⟨_, _, rfl, ⟨_, _, rfl, ⟨_, _, rfl, ⟨_, _, rfl, ⟨_, _, rfl, ⟨_, _, rfl, ⟨_, _, rfl, ⟨_, _, rfl, ⟨_, _, rfl, rfl, rfl⟩, rfl⟩, rfl⟩, rfl⟩, rfl⟩, rfl⟩, rfl⟩, rfl⟩, rfl⟩, rfl⟩, rfl⟩, rfl⟩, rfl⟩, rfl⟩, rfl⟩, rfl⟩, rfl⟩, rfl⟩, rfl⟩, rfl⟩, rfl⟩, ⟨_, _, rfl, ⟨_, _, rfl, rfl, rfl⟩, rfl⟩, rfl⟩, rfl⟩
    · rw [if_pos hp] at hm0
      refine ⟨_, sel_T h0 (sel_F hok (sel_T hoct (sel_F (kF 1 k1) (sel_F (kF 2 k2) (sel_F (kF 5 k5) (sel_F (kF 7 k7) (sel_F (kF 8 k8) (sel_T ?_ rfl)))))))), bad _ _ rfl hm0⟩
      show (mv.den.asS != []) = true
      rw [dv]; exact bne_iff_ne.2 hp
theorem msgs_Get (s : List UInt8) (hl : s.length ≤ 140737488355328) (w : World) : Calls Try.prog 11 #[.string ⟨s.toArray⟩] w fun e w' => e = .returned (mgotV s) ∧ RowKit.Below w.heap.size w w' := by
  letI ρ : Rho := rhoN [.dS s]
  obtain ⟨u, h1, h2⟩ := mg_sel s hl
  exact call_val (cf := evFun Try.prog envN 1000) (evFun_ok noCount (envN_ok rfl) 1000) (args := [.sstr (.var 0)]) (v := u) (by have := mgT_eq; unfold leafT at this; rw [this]; exact h1) h2 (cargs := [.string ⟨s.toArray⟩]) ⟨_, _, rfl, rfl, rfl⟩ w
theorem msgs_RGet (s : List UInt8) (hl : s.length ≤ 140737488355328) (w : World) : Calls Try.prog 12 #[.string ⟨s.toArray⟩] w fun e w' => e = .returned (mgotV s) ∧ RowKit.Below w.heap.size w w' := by
  letI ρ : Rho := rhoN [.dS s]
  obtain ⟨u, h1, h2⟩ := mg_sel s hl
  exact call_val (cf := evFun Try.prog envN 1000) (evFun_ok noCount (envN_ok rfl) 1000) (args := [.sstr (.var 0)]) (v := u) (by have := rmgT_eq; unfold leafT at this; rw [this]; exact h1) h2 (cargs := [.string ⟨s.toArray⟩]) ⟨_, _, rfl, rfl, rfl⟩ w
end Go.Proofs.Ytamibbjpapkfeaa.Ab
