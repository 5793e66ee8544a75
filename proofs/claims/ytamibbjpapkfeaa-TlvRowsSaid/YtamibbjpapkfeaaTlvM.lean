/-
  The functions of layer 7 (tlv) as contracts of the evaluator: what they answer, as terms.
  Conditions: the functions' letters stand for what is put and got.
-/
import Derived.Test.YtamibbjpapkfeaaTlvL
import Derived.Test.YtamibbjpapkfeaaTlvE2
namespace Go.Proofs.Ytamibbjpapkfeaa.Ab
set_option linter.unusedSimpArgs false
set_option linter.unusedVariables false
open Go
noncomputable section
/-- What the functions' letters stand for. -/
def tlvFn : Nat → Dat → Dat
  | 0, .dP k (.dP c v) => .dS (tput k.asI c.asB v.asS).1
  | 1, .dP k (.dP c v) => .dI (tput k.asI c.asB v.asS).2
  | 2, s => .dI (tget s.asS).k
  | 3, s => .dB (tget s.asS).c
  | 4, s => .dS (tget s.asS).v
  | 5, s => .dI (tget s.asS).n
  | 6, s => .dI (tget s.asS).e
  | _, d => d
def octT (a : Tm) : Tm := andT (iopT .leq .u8 (.ci 0) a) (iopT .leq .u8 a (.ci 255))
def putC : List AV → Heap → Option (Tm × AV × Heap)
  | [x, y, z], H => match tmI x, tmB y, tmS z with
    | some (.u8, k), some c, some v => some (andT (octT k) (iopT .leq .i64 (lenT v) (.ci 9223372036854775807)), .tuple [.sstr (.app 0 (.pair k (.pair c v))), .sint .i64 (.app 1 (.pair k (.pair c v)))], H)
    | _, _, _ => none
  | _, _ => none
def getC : List AV → Heap → Option (Tm × AV × Heap)
  | [x], H => match tmS x with
    | some s => some (iopT .leq .i64 (lenT s) (.ci 140737488355328), .tuple [.sint .u8 (.app 2 s), .sbool (.app 3 s), .sstr (.app 4 s), .sint .i64 (.app 5 s), .sint .i64 (.app 6 s)], H)
    | _ => none
  | _, _ => none
def fnM (f : FuncId) : Option (List AV → Heap → Option (Tm × AV × Heap)) := bif Nat.beq f 8 then some putC else bif Nat.beq f 49 then some putC else bif Nat.beq f 20 then some getC else bif Nat.beq f 7 then some trueC else none
def envM : Env := ⟨fnM, fun _ _ => none⟩
variable [ρ : Rho]
theorem octT_den {a : Tm} (h : (octT a).den.asB = true) : 0 ≤ a.den.asI ∧ a.den.asI ≤ 255 := by
  unfold octT at h
  rw [andT_den, iopT_den, iopT_den] at h
  have h' : (decide ((0:Int) ≤ a.den.asI) && decide (a.den.asI ≤ 255)) = true := h
  simpa using h'
theorem den_app (f : Nat) (t : Tm) : (Tm.app f t).den = ρ.fn f t.den := rfl
theorem putC_ok (hf : ρ.fn = tlvFn) {f : FuncId} (h : ∀ (k : Int) (c : Bool) (v : List UInt8), 0 ≤ k → k ≤ 255 → v.length ≤ 9223372036854775807 → ∀ w, Calls Try.prog f #[.int .u8 k, .bool c, .string ⟨v.toArray⟩] w fun e w' => e = .returned (putV k c v) ∧ RowKit.Below w.heap.size w w')
    {args : List AV} {H H' : Heap} {o : Tm} {v : AV} (hg : putC args H = some (o, v, H')) (ho : o.den.asB = true) : CallS Try.prog f args H v H' ∧ LG H H' := by
  unfold putC at hg
  split at hg
  · split at hg
    · rename_i k c u hk hc hu
      cases hg
      rw [andT_den] at ho
      simp only [Bool.and_eq_true] at ho
      obtain ⟨b1, b2⟩ := octT_den ho.1
      have hl := leqL ho.2
      refine ⟨callS_new fun μ cargs w hv => ?_, LG.refl _⟩
      obtain ⟨_, _, h1, ⟨_, _, h2, ⟨_, _, h3, rfl, rfl⟩, rfl⟩, rfl⟩ := hv
      obtain rfl := h1.tmI hk
      obtain rfl := h2.tmB hc
      obtain rfl := h3.tmS hu
      refine (h k.den.asI c.den.asB u.den.asS b1 b2 (by omega) w).mono fun e w' he => ⟨_, he.1, ?_, he.2⟩
      refine ⟨[_, _], ⟨_, _, ?_, ⟨_, _, ?_, rfl, rfl⟩, rfl⟩, rfl⟩
      · show _ = _
        rw [den_app, hf]; rfl
      · show _ = _
        rw [den_app, hf]; rfl
    · cases hg
  · cases hg
theorem getC_ok (hf : ρ.fn = tlvFn) {args : List AV} {H H' : Heap} {o : Tm} {v : AV} (hg : getC args H = some (o, v, H')) (ho : o.den.asB = true) : CallS Try.prog 20 args H v H' ∧ LG H H' := by
  unfold getC at hg
  split at hg
  · split at hg
    · rename_i t ht
      cases hg
      have hl := leqL ho
      refine ⟨callS_new fun μ cargs w hv => ?_, LG.refl _⟩
      obtain ⟨_, _, h1, rfl, rfl⟩ := hv
      obtain rfl := h1.tmS ht
      refine (tlv_Get t.den.asS (by omega) w).mono fun e w' he => ⟨_, he.1, ?_, he.2⟩
      refine ⟨[_, _, _, _, _], ⟨_, _, ?_, ⟨_, _, ?_, ⟨_, _, ?_, ⟨_, _, ?_, ⟨_, _, ?_, rfl, rfl⟩, rfl⟩, rfl⟩, rfl⟩, rfl⟩, rfl⟩
      all_goals
        show _ = _
        rw [den_app, hf]; rfl
    · cases hg
  · cases hg
theorem envM_ok (hf : ρ.fn = tlvFn) : EnvOK Try.prog envM := by
  refine envOK_fn (fun f g hg args H o v H' _ hgs ho => ?_) fun _ _ => rfl
  simp only [envM, fnM] at hg
  cases h0 : Nat.beq f 8 with
  | true =>
    simp only [h0, cond_true, Option.some.injEq] at hg; subst hg
    obtain rfl := Nat.eq_of_beq_eq_true h0
    exact putC_ok hf tlv_Put hgs ho
  | false =>
  simp only [h0, cond_false] at hg
  cases h1 : Nat.beq f 49 with
  | true =>
    simp only [h1, cond_true, Option.some.injEq] at hg; subst hg
    obtain rfl := Nat.eq_of_beq_eq_true h1
    exact putC_ok hf tlv_RPut hgs ho
  | false =>
  simp only [h1, cond_false] at hg
  cases h2 : Nat.beq f 20 with
  | true =>
    simp only [h2, cond_true, Option.some.injEq] at hg; subst hg
    obtain rfl := Nat.eq_of_beq_eq_true h2
    exact getC_ok hf hgs ho
  | false =>
  simp only [h2, cond_false] at hg
  cases h6 : Nat.beq f 7 with
  | true =>
    simp only [h6, cond_true, Option.some.injEq] at hg; subst hg
    obtain rfl := Nat.eq_of_beq_eq_true h6
    exact true_ok tlv_works hgs
  | false => simp [h6] at hg
end
abbrev rhoL (l : List Dat) : Rho := ⟨fun n => l.getD n (.dI 0), tlvFn⟩
end Go.Proofs.Ytamibbjpapkfeaa.Ab
