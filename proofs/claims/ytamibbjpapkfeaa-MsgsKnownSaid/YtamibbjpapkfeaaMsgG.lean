/-
  MsgsPuts, called: it returns true and makes at most new blocks (all kinds).
  Conditions: arguments as the model reads them.
-/
import Derived.Test.YtamibbjpapkfeaaMsgF
namespace Go.Proofs.Ytamibbjpapkfeaa.Ab
set_option linter.unusedSimpArgs false
set_option linter.unusedVariables false
open Go
/-- A way through a tree: what is asked on it, and its end. -/
def pathT : List Bool → Tree AV → Option (List (Tm × Bool) × AV)
  | [], .leaf v => some ([], v)
  | b :: p, .fork c x y => match pathT p (bif b then x else y) with
    | some (l, v) => some ((c, b) :: l, v)
    | none => none
  | _, _ => none
theorem pathT_sel [ρ : Rho] : ∀ (p : List Bool) (t : Tree AV) (l : List (Tm × Bool)) (v : AV), pathT p t = some (l, v) → (∀ q ∈ l, q.1.den.asB = q.2) → t.sel = some v
  | [], t, l, v, h, hl => by
    cases t <;> simp [pathT] at h
    rw [h.2]; rfl
  | b :: p, t, l, v, h, hl => by
    cases t with
    | fail => simp [pathT] at h
    | leaf v => simp [pathT] at h
    | fork c x y =>
      simp only [pathT] at h
      split at h
      · rename_i l' v' hp
        cases h
        have hc := hl (c, b) (by simp)
        simp only at hc
        have := pathT_sel p _ l' _ hp fun q hq => hl q (by simp [hq])
        cases b
        · simpa [Tree.sel, hc] using this
        · simpa [Tree.sel, hc] using this
      · cases h
noncomputable section
def treeK : Tree AV := evFun Try.prog envG 1000 19 [msgA (.sint .u8 (.var 0))] heap0 fun v _ => .leaf v
def tree0 : Tree AV := evFun Try.prog envG 1000 19 [msgA (.int .u8 0)] heap0 fun v _ => .leaf v
end
def pathK : List (Tm × Bool) := [(Tm.ib .gtr .i64 (Tm.var 19).len (Tm.ci 300), false), (Tm.ib .eql .u8 (Tm.var 0) (Tm.ci 1), false), (Tm.ib .eql .u8 (Tm.var 0) (Tm.ci 2), false), (Tm.ib .eql .u8 (Tm.var 0) (Tm.ci 5), false), (Tm.ib .eql .u8 (Tm.var 0) (Tm.ci 7), false), (Tm.ib .eql .u8 (Tm.var 0) (Tm.ci 8), false), (Tm.ib .eql .u8 (Tm.var 0) (Tm.ci 3), false), (Tm.ib .eql .u8 (Tm.var 0) (Tm.ci 4), false), (Tm.ib .eql .u8 (Tm.var 0) (Tm.ci 6), false), (Tm.ib .geq .u8 (Tm.var 0) (Tm.ci 1), true), (Tm.ib .leq .u8 (Tm.var 0) (Tm.ci 8), false)]
set_option maxRecDepth 100000 in
theorem path_k : pathT [false, false, false, false, false, false, false, false, false, true, false] treeK = some (pathK, .bool true) := by kernel_rfl
set_option maxRecDepth 100000 in
theorem path_k1 : pathT [true] treeK = some ([(Tm.ib .gtr .i64 (Tm.var 19).len (Tm.ci 300), true)], .bool true) := by kernel_rfl
set_option maxRecDepth 100000 in
theorem path_0 : pathT [false] tree0 = some ([(Tm.ib .gtr .i64 (Tm.var 19).len (Tm.ci 300), false)], .bool true) := by kernel_rfl
set_option maxRecDepth 100000 in
theorem path_01 : pathT [true] tree0 = some ([(Tm.ib .gtr .i64 (Tm.var 19).len (Tm.ci 300), true)], .bool true) := by kernel_rfl
abbrev msgV (k : Int) (c : Bool) (x : Prm) (s : Stat) (ty : Int) (b : List UInt8) : Value := .agg #[.int .u8 k, .bool c, .int .u8 x.d, .int .u8 x.f, .int .u8 x.c, .int .u8 x.p, .int .i64 x.t1, .int .i64 x.n1, .int .i64 x.n2, .int .i64 x.k, .int .u8 s.d, .bool s.fc, .bool s.rtc, .bool s.rtr, .bool s.ic, .bool s.dv, .bool s.hb, .int .u8 s.br, .int .u8 ty, .string ⟨b.toArray⟩]
section
variable (k : Int) (c : Bool) (x : Prm) (s : Stat) (ty : Int) (b : List UInt8)
theorem msgA_VR {ka : AV} (h : @VR (rhoQ k c x s ty b) (fun _ => none) ka (.int .u8 k)) : @VRs (rhoQ k c x s ty b) (fun _ => none) [msgA ka] [msgV k c x s ty b] :=
  ⟨_, _, ⟨[_, _, _, _, _, _, _, _, _, _, _, _, _, _, _, _, _, _, _, _], ⟨_, _, h, ⟨_, _, rfl, ⟨_, _, rfl, ⟨_, _, rfl, ⟨_, _, rfl, ⟨_, _, rfl, ⟨_, _, rfl, ⟨_, _, rfl, ⟨_, _, rfl, ⟨_, _, rfl, ⟨_, _, rfl, ⟨_, _, rfl, ⟨_, _, rfl, ⟨_, _, rfl, ⟨_, _, rfl, ⟨_, _, rfl, ⟨_, _, rfl, ⟨_, _, rfl, ⟨_, _, rfl, ⟨_, _, rfl, rfl, rfl⟩, rfl⟩, rfl⟩, rfl⟩, rfl⟩, rfl⟩, rfl⟩, rfl⟩, rfl⟩, rfl⟩, rfl⟩, rfl⟩, rfl⟩, rfl⟩, rfl⟩, rfl⟩, rfl⟩, rfl⟩, rfl⟩, rfl⟩, rfl⟩, rfl, rfl⟩
theorem puts_known {kn : Nat} {t : Tree AV} (he : evFun Try.prog envG 1000 19 [msgA (.int .u8 (kn : Int))] heap0 (fun v _ => .leaf v) = t) (hk : k = kn) (h : @Tree.ok (rhoQ k c x s ty b) t) (w : World) :
    Calls Try.prog 19 #[msgV k c x s ty b] w fun e w' => e = .returned (.bool true) ∧ RowKit.Below w.heap.size w w' := by
  letI ρ : Rho := rhoQ k c x s ty b
  exact call_true (evFun_ok noCount (envG_ok rfl) 1000) (args := [msgA (.int .u8 (kn : Int))]) (by rw [he]; exact h) (cargs := [msgV k c x s ty b]) (msgA_VR k c x s ty b (by rw [hk]; rfl)) w
theorem msgsPuts_w (k0 : 0 ≤ k) (k1 : k ≤ 255) (hx : x.ok) (s0 : 0 ≤ s.d) (s1 : s.d ≤ 255) (s2 : 0 ≤ s.br) (s3 : s.br ≤ 255) (t0 : 0 ≤ ty) (t1 : ty ≤ 255) (w : World) :
    Calls Try.prog 19 #[msgV k c x s ty b] w fun e w' => e = .returned (.bool true) ∧ RowKit.Below w.heap.size w w' := by
  by_cases h1 : k = 1
  · exact puts_known k c x s ty b (kn := 1) gt1_eq h1 (ok_1 k c x s ty b hx) w
  by_cases h2 : k = 2
  · exact puts_known k c x s ty b (kn := 2) gt2_eq h2 (ok_2 k c x s ty b s0 s1 s2 s3) w
  by_cases h3 : k = 3
  · exact puts_known k c x s ty b (kn := 3) gt3_eq h3 (ok_3 k c x s ty b).1 w
  by_cases h4 : k = 4
  · exact puts_known k c x s ty b (kn := 4) gt4_eq h4 (ok_3 k c x s ty b).2.1 w
  by_cases h5 : k = 5
  · exact puts_known k c x s ty b (kn := 5) gt5_eq h5 (ok_5 k c x s ty b).1 w
  by_cases h6 : k = 6
  · exact puts_known k c x s ty b (kn := 6) gt6_eq h6 (ok_3 k c x s ty b).2.2 w
  by_cases h7 : k = 7
  · exact puts_known k c x s ty b (kn := 7) gt7_eq h7 (ok_5 k c x s ty b).2 w
  by_cases h8 : k = 8
  · exact puts_known k c x s ty b (kn := 8) gt8_eq h8 (ok_8 k c x s ty b t0 t1) w
  letI ρ : Rho := rhoQ k c x s ty b
  have V0 : (Tm.var 0).den = .dI k := rfl
  have V19 : (Tm.var 19).den = .dS b := rfl
  by_cases hz : k = 0
  · refine call_bool (evFun_ok noCount (envG_ok rfl) 1000) (args := [msgA (.int .u8 0)]) ?_ (cargs := [msgV k c x s ty b]) (msgA_VR k c x s ty b (by rw [hz]; rfl)) w
    show tree0.sel = some (.bool true)
    by_cases hb : (b.length : Int) > 300
    · refine pathT_sel _ _ _ _ path_01 fun q hq => ?_
      simp only [List.mem_cons, List.not_mem_nil, or_false] at hq
      subst hq
      exact decide_eq_true hb
    · refine pathT_sel _ _ _ _ path_0 fun q hq => ?_
      simp only [List.mem_cons, List.not_mem_nil, or_false] at hq
      subst hq
      exact decide_eq_false hb
  · refine call_bool (evFun_ok noCount (envG_ok rfl) 1000) (args := [msgA (.sint .u8 (.var 0))]) ?_ (cargs := [msgV k c x s ty b]) (msgA_VR k c x s ty b rfl) w
    show treeK.sel = some (.bool true)
    by_cases hb : (b.length : Int) > 300
    · refine pathT_sel _ _ _ _ path_k1 fun q hq => ?_
      simp only [List.mem_cons, List.not_mem_nil, or_false] at hq
      subst hq
      exact decide_eq_true hb
    · refine pathT_sel _ _ _ _ path_k fun q hq => ?_
      unfold pathK at hq
      simp only [List.mem_cons, List.not_mem_nil, or_false] at hq
      rcases hq with rfl | rfl | rfl | rfl | rfl | rfl | rfl | rfl | rfl | rfl | rfl
      · exact decide_eq_false hb
      · exact beq_eq_false_iff_ne.2 h1
      · exact beq_eq_false_iff_ne.2 h2
      · exact beq_eq_false_iff_ne.2 h5
      · exact beq_eq_false_iff_ne.2 h7
      · exact beq_eq_false_iff_ne.2 h8
      · exact beq_eq_false_iff_ne.2 h3
      · exact beq_eq_false_iff_ne.2 h4
      · exact beq_eq_false_iff_ne.2 h6
      · exact decide_eq_true (show k ≥ 1 by omega)
      · exact decide_eq_false (show ¬ k ≤ 8 by omega)
end
end Go.Proofs.Ytamibbjpapkfeaa.Ab
namespace Go.Proofs.Ytamibbjpapkfeaa
open Go Go.Proofs.Ytamibbjpapkfeaa.Ab
theorem msgsPuts_walk (k : Int) (wk : (Lit.int .u8 k).wf = true) (c : Bool) (a0 : Int) (w0 : (Lit.int .u8 a0).wf = true) (a1 : Int) (w1 : (Lit.int .u8 a1).wf = true) (a2 : Int) (w2 : (Lit.int .u8 a2).wf = true) (a3 : Int) (w3 : (Lit.int .u8 a3).wf = true) (a4 : Int) (_w4 : (Lit.int .i64 a4).wf = true) (a5 : Int) (_w5 : (Lit.int .i64 a5).wf = true) (a6 : Int) (_w6 : (Lit.int .i64 a6).wf = true) (a7 : Int) (_w7 : (Lit.int .i64 a7).wf = true)
    (d : Int) (wd : (Lit.int .u8 d).wf = true) (fc rtc rtr ic dv hb : Bool) (br : Int) (wb : (Lit.int .u8 br).wf = true) (ty : Int) (wt : (Lit.int .u8 ty).wf = true) (b : List UInt8) (_hb : b.length ≤ maxLen) (w : World) :
    Calls Try.prog 19 #[msgV k c ⟨a0, a1, a2, a3, a4, a5, a6, a7⟩ ⟨d, fc, rtc, rtr, ic, dv, hb, br⟩ ty b] w fun e w' => e = .returned (.bool true) ∧ RowKit.Below w.heap.size w w' :=
  msgsPuts_w k c ⟨a0, a1, a2, a3, a4, a5, a6, a7⟩ ⟨d, fc, rtc, rtr, ic, dv, hb, br⟩ ty b (wf8 wk).1 (wf8 wk).2 ⟨wf8 w0, wf8 w1, wf8 w2, wf8 w3⟩ (wf8 wd).1 (wf8 wd).2 (wf8 wb).1 (wf8 wb).2 (wf8 wt).1 (wf8 wt).2 w
end Go.Proofs.Ytamibbjpapkfeaa
