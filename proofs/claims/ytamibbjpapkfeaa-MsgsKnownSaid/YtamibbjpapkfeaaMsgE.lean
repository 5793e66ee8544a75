/-
  The functions that layer 10 (msgs) calls, as contracts of the evaluator: what they answer, as terms.
  Conditions: the functions' letters stand for what is put.
-/
import Derived.Test.YtamibbjpapkfeaaPn
import Derived.Test.YtamibbjpapkfeaaMscS
namespace Go.Proofs.Ytamibbjpapkfeaa.Ab
set_option linter.unusedSimpArgs false
set_option linter.unusedVariables false
open Go
def kindF (t : Int) : Int := if t = 32 then 1 else if t = 56 then 2 else if t = 40 then 3 else if t = 24 then 4 else if t = 8 then 5 else if t = 48 then 6 else if t = 4 then 7 else 8
noncomputable section
def kindIs (f : FuncId) (n : Nat) : Bool := match evFun Try.prog envT 1000 f [.int .u8 n] heap0 fun v _ => Tree.leaf v with
  | .leaf v => match v with
    | .int k m => eqK k .u8 && eqZ m (kindF n)
    | _ => false
  | _ => false
set_option maxRecDepth 100000 in
theorem kinds1 : ((List.range 64).all fun n => kindIs 22 n) = true := by kernel_rfl
set_option maxRecDepth 100000 in
theorem kinds2 : ((List.range 64).all fun n => kindIs 26 n) = true := by kernel_rfl
theorem kind_calls {f : FuncId} (h : ((List.range 64).all fun n => kindIs f n) = true) (t : Int) (t0 : 0 ≤ t) (t1 : t ≤ 63) (w : World) : Calls Try.prog f #[.int .u8 t] w fun e w' => e = .returned (.int .u8 (kindF t)) ∧ RowKit.Below w.heap.size w w' := by
  letI ρ : Rho := rho1 0
  have hn := List.all_eq_true.1 h t.toNat (List.mem_range.2 (by omega))
  have et : ((t.toNat : Nat) : Int) = t := by omega
  unfold kindIs at hn
  rw [et] at hn
  split at hn
  · rename_i v hv
    split at hn
    · rename_i k m
      simp only [Bool.and_eq_true] at hn
      obtain rfl := eqK_eq _ _ hn.1
      obtain rfl := eqZ_eq _ _ hn.2
      exact call_val (cf := evFun Try.prog envT 1000) (evFun_ok noCount envT_ok 1000) (args := [.int .u8 t]) (v := .int .u8 (kindF t)) (by rw [hv]; rfl) rfl (cargs := [.int .u8 t]) ⟨_, _, rfl, rfl, rfl⟩ w
    · cases hn
  · cases hn
set_option maxRecDepth 100000 in
theorem msgs_works (w : World) : Calls Try.prog 10 #[] w fun e w' => e = .returned (.bool true) ∧ RowKit.Below w.heap.size w w' := by
  letI ρ : Rho := rho1 0
  refine call_bool (evFun_ok noCount envT_ok 1000) (args := []) ?_ (cargs := []) rfl w
  have : evFun Try.prog envT 1000 10 [] heap0 (fun v _ => .leaf v) = .leaf (.bool true) := by kernel_rfl
  rw [this]; rfl
def mscDat : Dat → Stat
  | .dP a (.dP b (.dP c (.dP d (.dP e (.dP f (.dP g h)))))) => ⟨a.asI, b.asB, c.asB, d.asB, e.asB, f.asB, g.asB, h.asI⟩
  | _ => ⟨0, false, false, false, false, false, false, 0⟩
def prDat : Dat → Prm
  | .dP a (.dP b (.dP c (.dP d (.dP e (.dP f (.dP g h)))))) => ⟨a.asI, b.asI, c.asI, d.asI, e.asI, f.asI, g.asI, h.asI⟩
  | _ => ⟨0, 0, 0, 0, 0, 0, 0, 0⟩
/-- What the functions' letters stand for. -/
def msgFn : Nat → Dat → Dat
  | 0, d => .dS (mput (mscDat d)).1
  | 1, d => .dI (mput (mscDat d)).2
  | 10, d => .dS (pput (prDat d)).1
  | 11, d => .dI (pput (prDat d)).2
  | 12, d => .dB (pmay (prDat d))
  | 20, .dP k (.dP c v) => .dS (tput k.asI c.asB v.asS).1
  | 21, .dP k (.dP c v) => .dI (tput k.asI c.asB v.asS).2
  | 30, d => .dI (kindF d.asI)
  | _, d => d
def octT (a : Tm) : Tm := andT (iopT .leq .u8 (.ci 0) a) (iopT .leq .u8 a (.ci 255))
def stTm : AV → Option (Tm × Tm × Tm)
  | .agg [x0, x1, x2, x3, x4, x5, x6, x7] => match tmI x0, tmB x1, tmB x2, tmB x3, tmB x4, tmB x5, tmB x6, tmI x7 with
    | some (.u8, a), some b, some c, some d, some e, some f, some g, some (.u8, h) => some (a, h, .pair a (.pair b (.pair c (.pair d (.pair e (.pair f (.pair g h)))))))
    | _, _, _, _, _, _, _, _ => none
  | _ => none
def prTm : AV → Option (Tm × Tm)
  | .agg [x0, x1, x2, x3, x4, x5, x6, x7] => match tmI x0, tmI x1, tmI x2, tmI x3, tmI x4, tmI x5, tmI x6, tmI x7 with
    | some (.u8, a), some (.u8, b), some (.u8, c), some (.u8, d), some (.i64, e), some (.i64, f), some (.i64, g), some (.i64, h) => some (andT (andT (octT a) (octT b)) (andT (octT c) (octT d)), .pair a (.pair b (.pair c (.pair d (.pair e (.pair f (.pair g h)))))))
    | _, _, _, _, _, _, _, _ => none
  | _ => none
def mscC : List AV → Heap → Option (Tm × AV × Heap)
  | [s], H => match stTm s with
    | some (a, h, t) => some (andT (octT a) (octT h), .tuple [.sstr (.app 0 t), .sint .i64 (.app 1 t)], H)
    | none => none
  | _, _ => none
def pnC : List AV → Heap → Option (Tm × AV × Heap)
  | [s], H => match prTm s with
    | some (o, t) => some (o, .tuple [.sstr (.app 10 t), .sint .i64 (.app 11 t)], H)
    | none => none
  | _, _ => none
def pmayC : List AV → Heap → Option (Tm × AV × Heap)
  | [s], H => match prTm s with
    | some (o, t) => some (o, .sbool (.app 12 t), H)
    | none => none
  | _, _ => none
def putC : List AV → Heap → Option (Tm × AV × Heap)
  | [x, y, z], H => match tmI x, tmB y, tmS z with
    | some (.u8, k), some c, some v => some (andT (octT k) (iopT .leq .i64 (lenT v) (.ci 1000)), .tuple [.sstr (.app 20 (.pair k (.pair c v))), .sint .i64 (.app 21 (.pair k (.pair c v)))], H)
    | _, _, _ => none
  | _, _ => none
def kindC : List AV → Heap → Option (Tm × AV × Heap)
  | [x], H => match tmI x with
    | some (.u8, k) => some (andT (iopT .leq .u8 (.ci 0) k) (iopT .leq .u8 k (.ci 63)), .sint .u8 (.app 30 k), H)
    | _ => none
  | _, _ => none
/-- The contracts: by function. -/
def tabG : List (Nat × (List AV → Heap → Option (Tm × AV × Heap))) := [(35, cloneC), (10, trueC), (47, pnC), (57, pnC), (45, pmayC), (42, mscC), (50, mscC), (8, putC), (49, putC), (22, kindC), (26, kindC)]
def tabGet : List (Nat × (List AV → Heap → Option (Tm × AV × Heap))) → Nat → Option (List AV → Heap → Option (Tm × AV × Heap))
  | [], _ => none
  | p :: l, f => bif Nat.beq f p.1 then some p.2 else tabGet l f
def envG : Env := ⟨tabGet tabG, fun _ _ => none⟩
variable [ρ : Rho]
theorem tab_ok : ∀ (l : List (Nat × (List AV → Heap → Option (Tm × AV × Heap)))), (∀ p ∈ l, ∀ args H o v H', PC H → p.2 args H = some (o, v, H') → o.den.asB = true → CallS Try.prog p.1 args H v H' ∧ LG H H') →
    EnvOK Try.prog ⟨tabGet l, fun _ _ => none⟩ := fun l h => by
  refine envOK_fn (fun f g hg args H o v H' hp hgs ho => ?_) fun _ _ => rfl
  have key : ∀ (l : List (Nat × (List AV → Heap → Option (Tm × AV × Heap)))), tabGet l f = some g → ∃ p ∈ l, f = p.1 ∧ g = p.2 := by
    intro l
    induction l with
    | nil => intro h; cases h
    | cons p l ih =>
      intro h
      simp only [tabGet] at h
      cases hb : Nat.beq f p.1 with
      | true =>
        rw [hb] at h; cases h
        exact ⟨p, by simp, Nat.eq_of_beq_eq_true hb, rfl⟩
      | false =>
        rw [hb] at h
        obtain ⟨q, q1, q2⟩ := ih h
        exact ⟨q, by simp [q1], q2⟩
  obtain ⟨p, h1, rfl, rfl⟩ := key l hg
  exact h p h1 args H o v H' hp hgs ho
theorem octT_den {a : Tm} (h : (octT a).den.asB = true) : 0 ≤ a.den.asI ∧ a.den.asI ≤ 255 := by
  unfold octT at h
  rw [andT_den, iopT_den, iopT_den] at h
  have h' : (decide ((0:Int) ≤ a.den.asI) && decide (a.den.asI ≤ 255)) = true := h
  simpa using h'
theorem den_app (f : Nat) (t : Tm) : (Tm.app f t).den = ρ.fn f t.den := rfl
theorem stTm_VR {μ : Mu} {s : AV} {c : Value} {a h t : Tm} (hs : stTm s = some (a, h, t)) (hv : VR μ s c) : c = .agg #[.int .u8 (mscDat t.den).d, .bool (mscDat t.den).fc, .bool (mscDat t.den).rtc, .bool (mscDat t.den).rtr, .bool (mscDat t.den).ic, .bool (mscDat t.den).dv, .bool (mscDat t.den).hb, .int .u8 (mscDat t.den).br] ∧ (mscDat t.den).d = a.den.asI ∧ (mscDat t.den).br = h.den.asI := by
  unfold stTm at hs
  split at hs
  · split at hs
    · rename_i a b c d e f g h q0 q1 q2 q3 q4 q5 q6 q7
      cases hs
      obtain ⟨l, ⟨y0, l0, r0, ⟨y1, l1, r1, ⟨y2, l2, r2, ⟨y3, l3, r3, ⟨y4, l4, r4, ⟨y5, l5, r5, ⟨y6, l6, r6, ⟨y7, l7, r7, rfl, rfl⟩, rfl⟩, rfl⟩, rfl⟩, rfl⟩, rfl⟩, rfl⟩, rfl⟩, rfl⟩ := hv
      rw [r0.tmI q0, r1.tmB q1, r2.tmB q2, r3.tmB q3, r4.tmB q4, r5.tmB q5, r6.tmB q6, r7.tmI q7]
      exact ⟨rfl, rfl, rfl⟩
    · cases hs
  · cases hs
theorem prTm_VR {μ : Mu} {s : AV} {c : Value} {o t : Tm} (hs : prTm s = some (o, t)) (hv : VR μ s c) (ho : o.den.asB = true) : c = prmV (prDat t.den) ∧ (prDat t.den).ok := by
  unfold prTm at hs
  split at hs
  · split at hs
    · rename_i a b c d e f g h q0 q1 q2 q3 q4 q5 q6 q7
      cases hs
      obtain ⟨l, ⟨y0, l0, r0, ⟨y1, l1, r1, ⟨y2, l2, r2, ⟨y3, l3, r3, ⟨y4, l4, r4, ⟨y5, l5, r5, ⟨y6, l6, r6, ⟨y7, l7, r7, rfl, rfl⟩, rfl⟩, rfl⟩, rfl⟩, rfl⟩, rfl⟩, rfl⟩, rfl⟩, rfl⟩ := hv
      rw [r0.tmI q0, r1.tmI q1, r2.tmI q2, r3.tmI q3, r4.tmI q4, r5.tmI q5, r6.tmI q6, r7.tmI q7]
      rw [andT_den, andT_den, andT_den] at ho
      simp only [Bool.and_eq_true] at ho
      exact ⟨rfl, octT_den ho.1.1, octT_den ho.1.2, octT_den ho.2.1, octT_den ho.2.2⟩
    · cases hs
  · cases hs
theorem mscC_ok (hf : ρ.fn = msgFn) {f : FuncId} (h : ∀ (d : Int) (fc rtc rtr ic dv hb : Bool) (br : Int), 0 ≤ d → d ≤ 255 → 0 ≤ br → br ≤ 255 → ∀ w, Calls Try.prog f #[.agg #[.int .u8 d, .bool fc, .bool rtc, .bool rtr, .bool ic, .bool dv, .bool hb, .int .u8 br]] w fun e w' => e = .returned (.tuple #[.string (S (mput ⟨d, fc, rtc, rtr, ic, dv, hb, br⟩).1), .int .i64 (mput ⟨d, fc, rtc, rtr, ic, dv, hb, br⟩).2]) ∧ RowKit.Below w.heap.size w w')
    {args : List AV} {H H' : Heap} {o : Tm} {v : AV} (hg : mscC args H = some (o, v, H')) (ho : o.den.asB = true) : CallS Try.prog f args H v H' ∧ LG H H' := by
  unfold mscC at hg
  split at hg
  · split at hg
    · rename_i a b t ht
      cases hg
      rw [andT_den] at ho
      simp only [Bool.and_eq_true] at ho
      obtain ⟨b1, b2⟩ := octT_den ho.1
      obtain ⟨b3, b4⟩ := octT_den ho.2
      refine ⟨callS_new fun μ cargs w hv => ?_, LG.refl _⟩
      obtain ⟨x, l, hx, rfl, rfl⟩ := hv
      obtain ⟨rfl, e1, e2⟩ := stTm_VR ht hx
      refine (h (mscDat t.den).d (mscDat t.den).fc (mscDat t.den).rtc (mscDat t.den).rtr (mscDat t.den).ic (mscDat t.den).dv (mscDat t.den).hb (mscDat t.den).br (by rw [e1]; exact b1) (by rw [e1]; exact b2) (by rw [e2]; exact b3) (by rw [e2]; exact b4) w).mono fun e w' he => ?_
      refine ⟨_, he.1, ?_, he.2⟩
      refine ⟨[_, _], ⟨_, _, ?_, ⟨_, _, ?_, rfl, rfl⟩, rfl⟩, rfl⟩
      · show _ = _
        rw [den_app, hf]; rfl
      · show _ = _
        rw [den_app, hf]; rfl
    · cases hg
  · cases hg
theorem pnC_ok (hf : ρ.fn = msgFn) {f : FuncId} (h : ∀ x : Prm, x.ok → ∀ w, Calls Try.prog f #[prmV x] w fun e w' => e = .returned (pputV x) ∧ RowKit.Below w.heap.size w w')
    {args : List AV} {H H' : Heap} {o : Tm} {v : AV} (hg : pnC args H = some (o, v, H')) (ho : o.den.asB = true) : CallS Try.prog f args H v H' ∧ LG H H' := by
  unfold pnC at hg
  split at hg
  · split at hg
    · rename_i o t ht
      cases hg
      refine ⟨callS_new fun μ cargs w hv => ?_, LG.refl _⟩
      obtain ⟨x, l, hx, rfl, rfl⟩ := hv
      obtain ⟨rfl, hok⟩ := prTm_VR ht hx ho
      refine (h (prDat t.den) hok w).mono fun e w' he => ⟨_, he.1, ?_, he.2⟩
      refine ⟨[_, _], ⟨_, _, ?_, ⟨_, _, ?_, rfl, rfl⟩, rfl⟩, rfl⟩
      · show _ = _
        rw [den_app, hf]; rfl
      · show _ = _
        rw [den_app, hf]; rfl
    · cases hg
  · cases hg
theorem pmayC_ok (hf : ρ.fn = msgFn) {f : FuncId} (h : ∀ x : Prm, x.ok → ∀ w, Calls Try.prog f #[prmV x] w fun e w' => e = .returned (.bool (pmay x)) ∧ RowKit.Below w.heap.size w w')
    {args : List AV} {H H' : Heap} {o : Tm} {v : AV} (hg : pmayC args H = some (o, v, H')) (ho : o.den.asB = true) : CallS Try.prog f args H v H' ∧ LG H H' := by
  unfold pmayC at hg
  split at hg
  · split at hg
    · rename_i o t ht
      cases hg
      refine ⟨callS_new fun μ cargs w hv => ?_, LG.refl _⟩
      obtain ⟨x, l, hx, rfl, rfl⟩ := hv
      obtain ⟨rfl, hok⟩ := prTm_VR ht hx ho
      refine (h (prDat t.den) hok w).mono fun e w' he => ⟨_, he.1, ?_, he.2⟩
      show _ = _
      rw [den_app, hf]; rfl
    · cases hg
  · cases hg
theorem putC_ok (hf : ρ.fn = msgFn) {f : FuncId} (h : ∀ (k : Int) (c : Bool) (v : List UInt8), 0 ≤ k → k ≤ 255 → v.length ≤ 1000 → ∀ w, Calls Try.prog f #[.int .u8 k, .bool c, .string ⟨v.toArray⟩] w fun e w' => e = .returned (putV k c v) ∧ RowKit.Below w.heap.size w w')
    {args : List AV} {H H' : Heap} {o : Tm} {v : AV} (hg : putC args H = some (o, v, H')) (ho : o.den.asB = true) : CallS Try.prog f args H v H' ∧ LG H H' := by
  unfold putC at hg
  split at hg
  · split at hg
    · rename_i k c u hk hc hu
      cases hg
      rw [andT_den] at ho
      simp only [Bool.and_eq_true] at ho
      obtain ⟨b1, b2⟩ := octT_den ho.1
      have hl := leqL ho.2
      refine ⟨callS_new fun μ cargs w hv => ?_, LG.refl _⟩
      obtain ⟨_, _, h1, ⟨_, _, h2, ⟨_, _, h3, rfl, rfl⟩, rfl⟩, rfl⟩ := hv
      obtain rfl := h1.tmI hk
      obtain rfl := h2.tmB hc
      obtain rfl := h3.tmS hu
      refine (h k.den.asI c.den.asB u.den.asS b1 b2 (by omega) w).mono fun e w' he => ⟨_, he.1, ?_, he.2⟩
      refine ⟨[_, _], ⟨_, _, ?_, ⟨_, _, ?_, rfl, rfl⟩, rfl⟩, rfl⟩
      · show _ = _
        rw [den_app, hf]; rfl
      · show _ = _
        rw [den_app, hf]; rfl
    · cases hg
  · cases hg
theorem kindC_ok (hf : ρ.fn = msgFn) {f : FuncId} (h : ((List.range 64).all fun n => kindIs f n) = true)
    {args : List AV} {H H' : Heap} {o : Tm} {v : AV} (hg : kindC args H = some (o, v, H')) (ho : o.den.asB = true) : CallS Try.prog f args H v H' ∧ LG H H' := by
  unfold kindC at hg
  split at hg
  · split at hg
    · rename_i k hk
      cases hg
      rw [andT_den, iopT_den, iopT_den] at ho
      have ho' : (decide ((0:Int) ≤ k.den.asI) && decide (k.den.asI ≤ 63)) = true := ho
      simp only [Bool.and_eq_true, decide_eq_true_eq] at ho'
      refine ⟨callS_new fun μ cargs w hv => ?_, LG.refl _⟩
      obtain ⟨_, _, h1, rfl, rfl⟩ := hv
      obtain rfl := h1.tmI hk
      refine (kind_calls h k.den.asI ho'.1 ho'.2 w).mono fun e w' he => ⟨_, he.1, ?_, he.2⟩
      show _ = _
      rw [den_app, hf]; rfl
    · cases hg
  · cases hg
theorem envG_ok (hf : ρ.fn = msgFn) : EnvOK Try.prog envG := by
  refine tab_ok tabG fun p hp args H o v H' _ hgs ho => ?_
  simp only [tabG, List.mem_cons, List.not_mem_nil, or_false] at hp
  rcases hp with rfl | rfl | rfl | rfl | rfl | rfl | rfl | rfl | rfl | rfl | rfl
  · exact clone_ok hgs ho
  · exact true_ok msgs_works hgs
  · exact pnC_ok hf pn_Put hgs ho
  · exact pnC_ok hf pn_RPut hgs ho
  · exact pmayC_ok hf pn_RMay hgs ho
  · exact mscC_ok hf (fun d fc rtc rtr ic dv hb br b1 b2 b3 b4 w => msc_Put d fc rtc rtr ic dv hb br b1 b2 b3 b4 w) hgs ho
  · exact mscC_ok hf (fun d fc rtc rtr ic dv hb br b1 b2 b3 b4 w => mscR_Put d fc rtc rtr ic dv hb br b1 b2 b3 b4 w) hgs ho
  · exact putC_ok hf (fun k c v k0 k1 hl w => tlv_Put k c v k0 k1 (by omega) w) hgs ho
  · exact putC_ok hf (fun k c v k0 k1 hl w => tlv_RPut k c v k0 k1 (by omega) w) hgs ho
  · exact kindC_ok hf kinds1 hgs ho
  · exact kindC_ok hf kinds2 hgs ho
end
abbrev rhoG (l : List Dat) : Rho := ⟨fun n => l.getD n (.dI 0), msgFn⟩
end Go.Proofs.Ytamibbjpapkfeaa.Ab
