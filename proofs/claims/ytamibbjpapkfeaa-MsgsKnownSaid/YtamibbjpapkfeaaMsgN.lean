/-
  The Gets of layers 7 to 9, both, as contracts of the evaluator.
  Conditions: the functions' letters stand for what is got.
-/
import Derived.Test.YtamibbjpapkfeaaMsgE
import Derived.Test.YtamibbjpapkfeaaPnG
import Derived.Test.YtamibbjpapkfeaaTlvG
import Derived.Test.YtamibbjpapkfeaaMscP
namespace Go.Proofs.Ytamibbjpapkfeaa.Ab
set_option linter.unusedSimpArgs false
set_option linter.unusedVariables false
open Go
/-- What the functions' letters stand for. -/
def gotFn : Nat → Dat → Dat
  | 22, s => .dI (tget s.asS).k
  | 23, s => .dB (tget s.asS).c
  | 24, s => .dS (tget s.asS).v
  | 25, s => .dI (tget s.asS).n
  | 26, s => .dI (tget s.asS).e
  | 40, s => .dI (pget s.asS).1.d
  | 41, s => .dI (pget s.asS).1.f
  | 42, s => .dI (pget s.asS).1.c
  | 43, s => .dI (pget s.asS).1.p
  | 44, s => .dI (pget s.asS).1.t1
  | 45, s => .dI (pget s.asS).1.n1
  | 46, s => .dI (pget s.asS).1.n2
  | 47, s => .dI (pget s.asS).1.k
  | 48, s => .dI (pget s.asS).2
  | 50, s => .dI (mget s.asS).1.d
  | 51, s => .dB (mget s.asS).1.fc
  | 52, s => .dB (mget s.asS).1.rtc
  | 53, s => .dB (mget s.asS).1.rtr
  | 54, s => .dB (mget s.asS).1.ic
  | 55, s => .dB (mget s.asS).1.dv
  | 56, s => .dB (mget s.asS).1.hb
  | 57, s => .dI (mget s.asS).1.br
  | 58, s => .dI (mget s.asS).2
  | n, d => msgFn n d
/-- A contract of a function of one text. -/
def strC (o : Tm → Tm) (v : Tm → AV) : List AV → Heap → Option (Tm × AV × Heap)
  | [x], H => match tmS x with
    | some s => some (o s, v s, H)
    | none => none
  | _, _ => none
abbrev o47 (s : Tm) : Tm := iopT .leq .i64 (lenT s) (.ci 140737488355328)
abbrev o1000 (s : Tm) : Tm := iopT .leq .i64 (lenT s) (.ci 1000)
abbrev tgA (s : Tm) : AV := .tuple [.sint .u8 (.app 22 s), .sbool (.app 23 s), .sstr (.app 24 s), .sint .i64 (.app 25 s), .sint .i64 (.app 26 s)]
abbrev rgA (s : Tm) : AV := .tuple [.agg [.sint .u8 (.app 22 s), .sbool (.app 23 s), .sstr (.app 24 s)], .sint .i64 (.app 25 s), .sint .i64 (.app 26 s)]
abbrev pgA (s : Tm) : AV := .tuple [.agg [.sint .u8 (.app 40 s), .sint .u8 (.app 41 s), .sint .u8 (.app 42 s), .sint .u8 (.app 43 s), .sint .i64 (.app 44 s), .sint .i64 (.app 45 s), .sint .i64 (.app 46 s), .sint .i64 (.app 47 s)], .sint .i64 (.app 48 s)]
abbrev mgA (s : Tm) : AV := .tuple [.agg [.sint .u8 (.app 50 s), .sbool (.app 51 s), .sbool (.app 52 s), .sbool (.app 53 s), .sbool (.app 54 s), .sbool (.app 55 s), .sbool (.app 56 s), .sint .u8 (.app 57 s)], .sint .i64 (.app 58 s)]
def tabN : List (Nat × (List AV → Heap → Option (Tm × AV × Heap))) := [(20, strC o47 tgA), (25, strC o47 rgA), (23, strC (fun _ => .cb true) pgA), (27, strC (fun _ => .cb true) pgA), (24, strC o1000 mgA), (28, strC o1000 mgA),
  (22, kindC), (26, kindC), (10, trueC)]
def envN : Env := ⟨tabGet tabN, fun _ _ => none⟩
section
variable [ρ : Rho]
theorem o_len {s : Tm} {n : Int} (h : (iopT .leq .i64 (lenT s) (.ci n)).den.asB = true) : (s.den.asS.length : Int) ≤ n := leqL h
theorem strC_ok {f : FuncId} {o : Tm → Tm} {v : Tm → AV} {ok : List UInt8 → Prop} (V : List UInt8 → Value) (h : ∀ s, ok s → ∀ w, Calls Try.prog f #[.string ⟨s.toArray⟩] w fun e w' => e = .returned (V s) ∧ RowKit.Below w.heap.size w w') (ho : ∀ t, (o t).den.asB = true → ok t.den.asS)
    (hv : ∀ t (μ : Mu), VR μ (v t) (V t.den.asS)) {args : List AV} {H H' : Heap} {q : Tm} {u : AV} (hg : strC o v args H = some (q, u, H')) (hq : q.den.asB = true) : CallS Try.prog f args H u H' ∧ LG H H' := by
  unfold strC at hg
  split at hg
  · rename_i x H
    split at hg
    · rename_i s hs
      cases hg
      refine ⟨callS_new fun μ cargs w hvs => ?_, LG.refl _⟩
      obtain ⟨c, r, hc, hr, rfl⟩ := hvs
      cases hr
      rw [hc.tmS hs]
      exact (h _ (ho s hq) w).mono fun e w' he => ⟨_, he.1, hv s μ, he.2⟩
    · cases hg
  · cases hg
theorem kindN_ok (hf : ρ.fn = gotFn) {f : FuncId} (h : ((List.range 64).all fun n => kindIs f n) = true)
    {args : List AV} {H H' : Heap} {o : Tm} {v : AV} (hg : kindC args H = some (o, v, H')) (ho : o.den.asB = true) : CallS Try.prog f args H v H' ∧ LG H H' := by
  unfold kindC at hg
  split at hg
  · split at hg
    · rename_i k hk
      cases hg
      rw [andT_den, iopT_den, iopT_den] at ho
      have ho' : (decide ((0:Int) ≤ k.den.asI) && decide (k.den.asI ≤ 63)) = true := ho
      simp only [Bool.and_eq_true, decide_eq_true_eq] at ho'
      refine ⟨callS_new fun μ cargs w hv => ?_, LG.refl _⟩
      obtain ⟨_, _, h1, rfl, rfl⟩ := hv
      obtain rfl := h1.tmI hk
      refine (kind_calls h k.den.asI ho'.1 ho'.2 w).mono fun e w' he => ⟨_, he.1, ?_, he.2⟩
      show _ = _
      rw [den_app, hf]; rfl
    · cases hg
  · cases hg
theorem envN_ok (hf : ρ.fn = gotFn) : EnvOK Try.prog envN := by
  have app : ∀ (n : Nat) (t : Tm), (Tm.app n t).den = gotFn n t.den := fun n t => by rw [den_app, hf]
  have tg : ∀ t (μ : Mu), VR μ (tgA t) (getV t.den.asS) := fun t μ =>
    ⟨_, ⟨_, _, rfl, ⟨_, _, rfl, ⟨_, _, rfl, ⟨_, _, rfl, ⟨_, _, rfl, rfl, rfl⟩, rfl⟩, rfl⟩, rfl⟩, rfl⟩, by simp only [app]; rfl⟩
  have rg : ∀ t (μ : Mu), VR μ (rgA t) (rgetV t.den.asS) := fun t μ =>
    ⟨_, ⟨_, _, ⟨_, ⟨_, _, rfl, ⟨_, _, rfl, ⟨_, _, rfl, rfl, rfl⟩, rfl⟩, rfl⟩, rfl⟩, ⟨_, _, rfl, ⟨_, _, rfl, rfl, rfl⟩, rfl⟩, rfl⟩, by simp only [app]; rfl⟩
  have pg : ∀ t (μ : Mu), VR μ (pgA t) (pgetV t.den.asS) := fun t μ =>
    ⟨_, ⟨_, _, ⟨_, ⟨_, _, rfl, ⟨_, _, rfl, ⟨_, _, rfl, ⟨_, _, rfl, ⟨_, _, rfl, ⟨_, _, rfl, ⟨_, _, rfl, ⟨_, _, rfl, rfl, rfl⟩, rfl⟩, rfl⟩, rfl⟩, rfl⟩, rfl⟩, rfl⟩, rfl⟩, rfl⟩, ⟨_, _, rfl, rfl, rfl⟩, rfl⟩, by simp only [app]; rfl⟩
  have mg : ∀ t (μ : Mu), VR μ (mgA t) (.tuple #[statV (mget t.den.asS).1, .int .i64 (mget t.den.asS).2]) := fun t μ =>
    ⟨_, ⟨_, _, ⟨_, ⟨_, _, rfl, ⟨_, _, rfl, ⟨_, _, rfl, ⟨_, _, rfl, ⟨_, _, rfl, ⟨_, _, rfl, ⟨_, _, rfl, ⟨_, _, rfl, rfl, rfl⟩, rfl⟩, rfl⟩, rfl⟩, rfl⟩, rfl⟩, rfl⟩, rfl⟩, rfl⟩, ⟨_, _, rfl, rfl, rfl⟩, rfl⟩, by simp only [app]; rfl⟩
  have l47 : ∀ t, (o47 t).den.asB = true → t.den.asS.length ≤ 140737488355328 := fun t h => by have := o_len h; omega
  have l1000 : ∀ t, (o1000 t).den.asB = true → t.den.asS.length ≤ 1000 := fun t h => by have := o_len h; omega
  refine tab_ok _ fun p hp args H o v H' _ hg ho => ?_
  simp only [tabN, List.mem_cons, List.not_mem_nil, or_false] at hp
  rcases hp with rfl | rfl | rfl | rfl | rfl | rfl | rfl | rfl | rfl
  · exact strC_ok getV tlv_Get l47 tg hg ho
  · exact strC_ok rgetV tlv_RGet l47 rg hg ho
  · exact strC_ok pgetV (ok := fun _ => True) (fun s _ w => pn_Get s w) (fun _ _ => trivial) pg hg ho
  · exact strC_ok pgetV (ok := fun _ => True) (fun s _ w => pn_RGet s w) (fun _ _ => trivial) pg hg ho
  · exact strC_ok _ msc_Get l1000 mg hg ho
  · exact strC_ok _ (fun s hs w => by have := mscR_Get s hs w; rw [← mget_rget] at this; exact this) l1000 mg hg ho
  · exact kindN_ok hf kinds1 hg ho
  · exact kindN_ok hf kinds2 hg ho
  · exact true_ok msgs_works hg
end
abbrev rhoN (l : List Dat) : Rho := ⟨fun n => l.getD n (.dI 0), gotFn⟩
end Go.Proofs.Ytamibbjpapkfeaa.Ab
