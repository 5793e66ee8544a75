/-
  The functions of layer 9 (msc) as contracts of the evaluator: what they answer, as terms.
  Conditions: the functions' letters stand for what is put and got.
-/
import Derived.Test.YtmnflfjcfkblbaaAbC
import Derived.Test.YtmnflfjcfkblbaaMscL
namespace Go.Proofs.Ytmnflfjcfkblbaa.Ab
set_option linter.unusedSimpArgs false
set_option linter.unusedVariables false
open Go
noncomputable section
def datStat : Dat → Stat
  | .dP a (.dP b (.dP c (.dP d (.dP e (.dP f (.dP g h)))))) => ⟨a.asI, b.asB, c.asB, d.asB, e.asB, f.asB, g.asB, h.asI⟩
  | _ => noStat
/-- What the functions' letters stand for. -/
def mscFn : Nat → Dat → Dat
  | 0, d => .dS (mput (datStat d)).1
  | 1, d => .dI (mput (datStat d)).2
  | 2, d => .dI (mbits (datStat d))
  | 3, d => .dI (mget d.asS).1.d
  | 4, d => .dB (mget d.asS).1.fc
  | 5, d => .dB (mget d.asS).1.rtc
  | 6, d => .dB (mget d.asS).1.rtr
  | 7, d => .dB (mget d.asS).1.ic
  | 8, d => .dB (mget d.asS).1.dv
  | 9, d => .dB (mget d.asS).1.hb
  | 10, d => .dI (mget d.asS).1.br
  | 11, d => .dI (mget d.asS).2
  | _, d => d
/-- A status as a term, and its numbers. -/
def stTm : AV → Option (Tm × Tm × Tm)
  | .agg [x0, x1, x2, x3, x4, x5, x6, x7] => match tmI x0, tmB x1, tmB x2, tmB x3, tmB x4, tmB x5, tmB x6, tmI x7 with
    | some (.u8, a), some b, some c, some d, some e, some f, some g, some (.u8, h) => some (a, h, .pair a (.pair b (.pair c (.pair d (.pair e (.pair f (.pair g h)))))))
    | _, _, _, _, _, _, _, _ => none
  | _ => none
def octT (a : Tm) : Tm := andT (iopT .leq .u8 (.ci 0) a) (iopT .leq .u8 a (.ci 255))
def putC : List AV → Heap → Option (Tm × AV × Heap)
  | [s], H => match stTm s with
    | some (a, h, t) => some (andT (octT a) (octT h), .tuple [.sstr (.app 0 t), .sint .i64 (.app 1 t)], H)
    | none => none
  | _, _ => none
def bitsC : List AV → Heap → Option (Tm × AV × Heap)
  | [s], H => match stTm s with
    | some (_, _, t) => some (.cb true, .sint .u8 (.app 2 t), H)
    | none => none
  | _, _ => none
def getC : List AV → Heap → Option (Tm × AV × Heap)
  | [s], H => match tmS s with
    | some t => some (iopT .leq .i64 (lenT t) (.ci 1000), .tuple [.agg [.sint .u8 (.app 3 t), .sbool (.app 4 t), .sbool (.app 5 t), .sbool (.app 6 t), .sbool (.app 7 t), .sbool (.app 8 t), .sbool (.app 9 t), .sint .u8 (.app 10 t)], .sint .i64 (.app 11 t)], H)
    | none => none
  | _, _ => none
def trueC : List AV → Heap → Option (Tm × AV × Heap)
  | [], H => some (.cb true, .bool true, H)
  | _, _ => none
def envM : Env := ⟨fun f => bif Nat.beq f 21 then some putC else bif Nat.beq f 22 then some putC else bif Nat.beq f 24 then some bitsC else
  bif Nat.beq f 25 then some bitsC else bif Nat.beq f 27 then some getC else bif Nat.beq f 28 then some getC else bif Nat.beq f 26 then some trueC else none, fun _ _ => none⟩
theorem noCount : NoCount Try.prog := noCount_of (by kernel_rfl) (by kernel_rfl)
variable [ρ : Rho]
theorem octT_den {a : Tm} (h : (octT a).den.asB = true) : 0 ≤ a.den.asI ∧ a.den.asI ≤ 255 := by
  unfold octT at h
  rw [andT_den, iopT_den, iopT_den] at h
  have h' : (decide ((0:Int) ≤ a.den.asI) && decide (a.den.asI ≤ 255)) = true := h
  simpa using h'
theorem stTm_VR {μ : Mu} {s : AV} {c : Value} {a h t : Tm} (hs : stTm s = some (a, h, t)) (hv : VR μ s c) : c = statV (datStat t.den) ∧ (datStat t.den).d = a.den.asI ∧ (datStat t.den).br = h.den.asI := by
  unfold stTm at hs
  split at hs
  · rename_i x0 x1 x2 x3 x4 x5 x6 x7
    split at hs
    · rename_i a b c d e f g h q0 q1 q2 q3 q4 q5 q6 q7
      cases hs
      obtain ⟨l, ⟨y0, l0, r0, ⟨y1, l1, r1, ⟨y2, l2, r2, ⟨y3, l3, r3, ⟨y4, l4, r4, ⟨y5, l5, r5, ⟨y6, l6, r6, ⟨y7, l7, r7, rfl, rfl⟩, rfl⟩, rfl⟩, rfl⟩, rfl⟩, rfl⟩, rfl⟩, rfl⟩, rfl⟩ := hv
      rw [r0.tmI q0, r1.tmB q1, r2.tmB q2, r3.tmB q3, r4.tmB q4, r5.tmB q5, r6.tmB q6, r7.tmI q7]
      exact ⟨rfl, rfl, rfl⟩
    · cases hs
  · cases hs
theorem den_app (f : Nat) (t : Tm) : (Tm.app f t).den = ρ.fn f t.den := rfl
theorem put_ok (hf : ρ.fn = mscFn) {f : FuncId} (h : ∀ (d : Int) (fc rtc rtr ic dv hb : Bool) (br : Int), 0 ≤ d → d ≤ 255 → 0 ≤ br → br ≤ 255 → ∀ w, Calls Try.prog f #[statV ⟨d, fc, rtc, rtr, ic, dv, hb, br⟩] w fun e w' => e = .returned (.tuple #[.string (S (mput ⟨d, fc, rtc, rtr, ic, dv, hb, br⟩).1), .int .i64 (mput ⟨d, fc, rtc, rtr, ic, dv, hb, br⟩).2]) ∧ RowKit.Below w.heap.size w w')
    {args : List AV} {H H' : Heap} {o : Tm} {v : AV} (hg : putC args H = some (o, v, H')) (ho : o.den.asB = true) : CallS Try.prog f args H v H' ∧ LG H H' := by
  unfold putC at hg
  split at hg
  · rename_i s H
    split at hg
    · rename_i a b t ht
      cases hg
      rw [andT_den] at ho
      simp only [Bool.and_eq_true] at ho
      obtain ⟨b1, b2⟩ := octT_den ho.1
      obtain ⟨b3, b4⟩ := octT_den ho.2
      refine ⟨callS_new fun μ cargs w hv => ?_, LG.refl _⟩
      obtain ⟨x, l, hx, rfl, rfl⟩ := hv
      obtain ⟨rfl, e1, e2⟩ := stTm_VR ht hx
      refine (h (datStat t.den).d (datStat t.den).fc (datStat t.den).rtc (datStat t.den).rtr (datStat t.den).ic (datStat t.den).dv (datStat t.den).hb (datStat t.den).br (by rw [e1]; exact b1) (by rw [e1]; exact b2) (by rw [e2]; exact b3) (by rw [e2]; exact b4) w).mono fun e w' he => ?_
      refine ⟨_, he.1, ?_, he.2⟩
      refine ⟨[_, _], ⟨_, _, ?_, ⟨_, _, ?_, rfl, rfl⟩, rfl⟩, rfl⟩
      · show _ = _
        rw [den_app, hf]; rfl
      · show _ = _
        rw [den_app, hf]; rfl
    · cases hg
  · cases hg
theorem bits_ok (hf : ρ.fn = mscFn) {f : FuncId} (h : ∀ (d : Int) (fc rtc rtr ic dv hb : Bool) (br : Int), ∀ w, Calls Try.prog f #[statV ⟨d, fc, rtc, rtr, ic, dv, hb, br⟩] w fun e w' => e = .returned (.int .u8 (mbits ⟨d, fc, rtc, rtr, ic, dv, hb, br⟩)) ∧ RowKit.Below w.heap.size w w')
    {args : List AV} {H H' : Heap} {o : Tm} {v : AV} (hg : bitsC args H = some (o, v, H')) : CallS Try.prog f args H v H' ∧ LG H H' := by
  unfold bitsC at hg
  split at hg
  · rename_i s H
    split at hg
    · rename_i a b t ht
      cases hg
      refine ⟨callS_new fun μ cargs w hv => ?_, LG.refl _⟩
      obtain ⟨x, l, hx, rfl, rfl⟩ := hv
      obtain ⟨rfl, e1, e2⟩ := stTm_VR ht hx
      refine (h (datStat t.den).d (datStat t.den).fc (datStat t.den).rtc (datStat t.den).rtr (datStat t.den).ic (datStat t.den).dv (datStat t.den).hb (datStat t.den).br w).mono fun e w' he => ?_
      refine ⟨_, he.1, ?_, he.2⟩
      show _ = _
      rw [den_app, hf]; rfl
    · cases hg
  · cases hg
theorem get_ok (hf : ρ.fn = mscFn) {f : FuncId} (h : ∀ v : List UInt8, v.length ≤ 1000 → ∀ w, Calls Try.prog f #[.string (S v)] w fun e w' => e = .returned (.tuple #[statV (mget v).1, .int .i64 (mget v).2]) ∧ RowKit.Below w.heap.size w w')
    {args : List AV} {H H' : Heap} {o : Tm} {v : AV} (hg : getC args H = some (o, v, H')) (ho : o.den.asB = true) : CallS Try.prog f args H v H' ∧ LG H H' := by
  unfold getC at hg
  split at hg
  · rename_i s H
    split at hg
    · rename_i t ht
      cases hg
      have hl : t.den.asS.length ≤ 1000 := by
        rw [iopT_den, lenT_den] at ho
        have ho' : decide ((t.den.asS.length : Int) ≤ 1000) = true := ho
        simp only [decide_eq_true_eq] at ho'
        omega
      refine ⟨callS_new fun μ cargs w hv => ?_, LG.refl _⟩
      obtain ⟨x, l, hx, rfl, rfl⟩ := hv
      obtain rfl := hx.tmS ht
      refine (h t.den.asS hl w).mono fun e w' he => ?_
      refine ⟨_, he.1, ?_, he.2⟩
      refine ⟨[_, _], ⟨_, _, ⟨[_, _, _, _, _, _, _, _], ⟨_, _, ?_, ⟨_, _, ?_, ⟨_, _, ?_, ⟨_, _, ?_, ⟨_, _, ?_, ⟨_, _, ?_, ⟨_, _, ?_, ⟨_, _, ?_, rfl, rfl⟩, rfl⟩, rfl⟩, rfl⟩, rfl⟩, rfl⟩, rfl⟩, rfl⟩, rfl⟩, ⟨_, _, ?_, rfl, rfl⟩, rfl⟩, rfl⟩
      all_goals
        show _ = _
        rw [den_app, hf]; rfl
    · cases hg
  · cases hg
theorem envM_ok (hf : ρ.fn = mscFn) : EnvOK Try.prog envM := by
  refine envOK_fn (fun f g hg args H o v H' hp hgs ho => ?_) fun _ _ => rfl
  simp only [envM] at hg
  cases h0 : Nat.beq f 21 with
  | true =>
    simp only [h0, cond_true, Option.some.injEq] at hg; subst hg
    obtain rfl := Nat.eq_of_beq_eq_true h0
    exact put_ok hf (fun d fc rtc rtr ic dv hb br b1 b2 b3 b4 w => msc_Put d fc rtc rtr ic dv hb br b1 b2 b3 b4 w) hgs ho
  | false =>
  simp only [h0, cond_false] at hg
  cases h1 : Nat.beq f 22 with
  | true =>
    simp only [h1, cond_true, Option.some.injEq] at hg; subst hg
    obtain rfl := Nat.eq_of_beq_eq_true h1
    exact put_ok hf (fun d fc rtc rtr ic dv hb br b1 b2 b3 b4 w => mscR_Put d fc rtc rtr ic dv hb br b1 b2 b3 b4 w) hgs ho
  | false =>
  simp only [h1, cond_false] at hg
  cases h2 : Nat.beq f 24 with
  | true =>
    simp only [h2, cond_true, Option.some.injEq] at hg; subst hg
    obtain rfl := Nat.eq_of_beq_eq_true h2
    exact bits_ok hf (fun d fc rtc rtr ic dv hb br w => msc_Bits d fc rtc rtr ic dv hb br w) hgs
  | false =>
  simp only [h2, cond_false] at hg
  cases h3 : Nat.beq f 25 with
  | true =>
    simp only [h3, cond_true, Option.some.injEq] at hg; subst hg
    obtain rfl := Nat.eq_of_beq_eq_true h3
    exact bits_ok hf (fun d fc rtc rtr ic dv hb br w => mscR_Bits d fc rtc rtr ic dv hb br w) hgs
  | false =>
  simp only [h3, cond_false] at hg
  cases h4 : Nat.beq f 27 with
  | true =>
    simp only [h4, cond_true, Option.some.injEq] at hg; subst hg
    obtain rfl := Nat.eq_of_beq_eq_true h4
    exact get_ok hf (fun v hl w => msc_Get v hl w) hgs ho
  | false =>
  simp only [h4, cond_false] at hg
  cases h5 : Nat.beq f 28 with
  | true =>
    simp only [h5, cond_true, Option.some.injEq] at hg; subst hg
    obtain rfl := Nat.eq_of_beq_eq_true h5
    exact get_ok hf (fun v hl w => by rw [mget_rget]; exact mscR_Get v hl w) hgs ho
  | false =>
  simp only [h5, cond_false] at hg
  cases h6 : Nat.beq f 26 with
  | true =>
    simp only [h6, cond_true, Option.some.injEq] at hg; subst hg
    obtain rfl := Nat.eq_of_beq_eq_true h6
    unfold trueC at hgs
    split at hgs
    · cases hgs; exact ⟨works_ok msc_works, LG.refl _⟩
    · cases hgs
  | false => simp [h6] at hg
/-- The letters of the laws' arguments. -/
abbrev rhoM (l : List Dat) : Rho := ⟨fun n => l.getD n (.dI 0), mscFn⟩
end
end Go.Proofs.Ytmnflfjcfkblbaa.Ab
