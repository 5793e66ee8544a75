/-
  Get of layer 8 (pn), both: what they answer.
  Conditions: any octets.
-/
import Derived.Test.YtamibbjpapkfeaaPn
namespace Go.Proofs.Ytamibbjpapkfeaa.Ab
set_option linter.unusedSimpArgs false
set_option linter.unusedVariables false
open Go
abbrev noPrm : Prm := ⟨0, 0, 0, 0, 0, 0, 0, 0⟩
abbrev pdec (a b c d e f g h : UInt8) : Prm := ⟨a.toNat, (b.toNat % 16 : Nat), (b.toNat / 16 : Nat), c.toNat, d.toNat, (e.toNat + 256 * f.toNat : Nat), g.toNat, h.toNat⟩
/-- What is got of octets, and the error. -/
def pget : List UInt8 → Prm × Int
  | [a, b, c, d, e, f, g, h] => if pmay (pdec a b c d e f g h) = true then (pdec a b c d e f g h, 0) else (noPrm, 70)
  | _ :: _ :: _ :: _ :: _ :: _ :: _ :: _ :: _ :: _ => (noPrm, 70)
  | _ => (noPrm, 20)
abbrev pgetV (v : List UInt8) : Value := .tuple #[prmV (pget v).1, .int .i64 (pget v).2]
def prDP : Dat → Prm
  | .dP a (.dP b (.dP c (.dP d (.dP e (.dP f (.dP g h)))))) => ⟨a.asI, b.asI, c.asI, d.asI, e.asI, f.asI, g.asI, h.asI⟩
  | _ => ⟨0, 0, 0, 0, 0, 0, 0, 0⟩
def octP (a : Tm) : Tm := andT (iopT .leq .u8 (.ci 0) a) (iopT .leq .u8 a (.ci 255))
def prTP : AV → Option (Tm × Tm)
  | .agg [x0, x1, x2, x3, x4, x5, x6, x7] => match tmI x0, tmI x1, tmI x2, tmI x3, tmI x4, tmI x5, tmI x6, tmI x7 with
    | some (.u8, a), some (.u8, b), some (.u8, c), some (.u8, d), some (.i64, e), some (.i64, f), some (.i64, g), some (.i64, h) => some (andT (andT (octP a) (octP b)) (andT (octP c) (octP d)), .pair a (.pair b (.pair c (.pair d (.pair e (.pair f (.pair g h)))))))
    | _, _, _, _, _, _, _, _ => none
  | _ => none
def pmayP : List AV → Heap → Option (Tm × AV × Heap)
  | [s], H => match prTP s with
    | some (o, t) => some (o, .sbool (.app 12 t), H)
    | none => none
  | _, _ => none
def fnP (f : FuncId) : Option (List AV → Heap → Option (Tm × AV × Heap)) := bif Nat.beq f 39 then some pmayP else bif Nat.beq f 45 then some pmayP else none
def envP : Env := ⟨fnP, fun _ _ => none⟩
abbrev av (i : Int) : Tm := .at (.var 0) (.ci i)
abbrev av64 (i : Int) : Tm := .wrap .i64 (av i)
abbrev ltT (i : Int) : Tm := .ib .lss .i64 (.ci i) (.len (.var 0))
abbrev noPrmA (e : Int) : Tree AV := .leaf (.tuple [.agg [.int .u8 0, .int .u8 0, .int .u8 0, .int .u8 0, .int .i64 0, .int .i64 0, .int .i64 0, .int .i64 0], .int .i64 e])
abbrev oc (t : Tm) : Tm := .and (.ib .leq .u8 (.ci 0) t) (.ib .leq .u8 t (.ci 255))
abbrev prP (f c n : Tm) : Tm := .pair (av 0) (.pair f (.pair c (.pair (av 2) (.pair (av64 3) (.pair n (.pair (av64 6) (av64 7)))))))
abbrev pgLeaf (f c n : Tm) : AV := .tuple [.agg [.sint .u8 (av 0), .sint .u8 f, .sint .u8 c, .sint .u8 (av 2), .sint .i64 (av64 3), .sint .i64 n, .sint .i64 (av64 6), .sint .i64 (av64 7)], .int .i64 0]
def pgIn (f c n : Tm) : Tree AV := .fork (.ib .gtr .i64 (.len (.var 0)) (.ci 8)) (noPrmA 70) (.fork (.and (.and (oc (av 0)) (oc f)) (.and (oc c) (oc (av 2)))) (.fork (.not (.app 12 (prP f c n))) (noPrmA 70) (.leaf (pgLeaf f c n))) .fail)
/-- The tree of both; they differ in three terms. -/
def pgT (f c n : Tm) : Tree AV := .fork (.ib .lss .i64 (.len (.var 0)) (.ci 8)) (noPrmA 20) (.fork (ltT 0) (.fork (ltT 1) (.fork (ltT 2) (.fork (ltT 3) (.fork (ltT 4) (.fork (ltT 5) (.fork (ltT 6) (.fork (ltT 7) (pgIn f c n) .fail) .fail) .fail) .fail) .fail) .fail) .fail) .fail)
abbrev fP : Tm := .ib .and .u8 (av 1) (.ci 15)
abbrev cP : Tm := .ib .shr .u8 (av 1) (.ci 4)
abbrev nP : Tm := .ib .or .i64 (av64 4) (.ib .shl .i64 (av64 5) (.ci 8))
abbrev fR : Tm := .ib .rem .u8 (av 1) (.ci 16)
abbrev cR : Tm := .ib .quo .u8 (av 1) (.ci 16)
abbrev nR : Tm := .ib .add .i64 (av64 4) (.ib .mul .i64 (.ci 256) (av64 5))
set_option maxRecDepth 100000 in
theorem pg_eq : evFun Try.prog envP 1000 23 [.sstr (.var 0)] heap0 leafT = pgT fP cP nP := by kernel_rfl
set_option maxRecDepth 100000 in
theorem rpg_eq : evFun Try.prog envP 1000 27 [.sstr (.var 0)] heap0 leafT = pgT fR cR nR := by kernel_rfl
set_option maxRecDepth 100000 in
theorem pmay_eq : evFun Try.prog envT 1000 39 [prmA] heap0 leafT = .leaf (.sbool pnCond) := by kernel_rfl
theorem pn_May (x : Prm) (w : World) : Calls Try.prog 39 #[prmV x] w fun e w' => e = .returned (.bool (pmay x)) ∧ RowKit.Below w.heap.size w w' := by
  letI ρ : Rho := rhoP x
  refine call_val (cf := evFun Try.prog envT 1000) (evFun_ok noCount envT_ok 1000) (args := [prmA]) (v := .sbool pnCond) (by have := pmay_eq; unfold leafT at this; rw [this]; rfl) ?_ (cargs := [prmV x]) ⟨_, _, prmA_VR x, rfl, rfl⟩ w
  show Value.bool (pmay x) = .bool pnCond.den.asB
  rw [pn_cond x]
def pnFn : Nat → Dat → Dat
  | 12, d => .dB (pmay (prDP d))
  | _, d => d
section
variable [ρ : Rho]
theorem octP_den {a : Tm} (h : (octP a).den.asB = true) : 0 ≤ a.den.asI ∧ a.den.asI ≤ 255 := by
  unfold octP at h
  rw [andT_den, iopT_den, iopT_den] at h
  have h' : (decide ((0:Int) ≤ a.den.asI) && decide (a.den.asI ≤ 255)) = true := h
  simpa using h'
theorem prTP_VR {μ : Mu} {s : AV} {c : Value} {o t : Tm} (hs : prTP s = some (o, t)) (hv : VR μ s c) (ho : o.den.asB = true) : c = prmV (prDP t.den) ∧ (prDP t.den).ok := by
  unfold prTP at hs
  split at hs
  · rename_i x0 x1 x2 x3 x4 x5 x6 x7
    split at hs
    · rename_i a b c d e f g h h0 h1 h2 h3 h4 h5 h6 h7
      cases hs
      obtain ⟨y, hy, rfl⟩ := hv
      obtain ⟨c0, r0, q0, hy, rfl⟩ := hy
      obtain ⟨c1, r1, q1, hy, rfl⟩ := hy
      obtain ⟨c2, r2, q2, hy, rfl⟩ := hy
      obtain ⟨c3, r3, q3, hy, rfl⟩ := hy
      obtain ⟨c4, r4, q4, hy, rfl⟩ := hy
      obtain ⟨c5, r5, q5, hy, rfl⟩ := hy
      obtain ⟨c6, r6, q6, hy, rfl⟩ := hy
      obtain ⟨c7, r7, q7, hy, rfl⟩ := hy
      cases hy
      rw [q0.tmI h0, q1.tmI h1, q2.tmI h2, q3.tmI h3, q4.tmI h4, q5.tmI h5, q6.tmI h6, q7.tmI h7]
      rw [andT_den, andT_den, andT_den] at ho
      simp only [Bool.and_eq_true] at ho
      exact ⟨rfl, octP_den ho.1.1, octP_den ho.1.2, octP_den ho.2.1, octP_den ho.2.2⟩
    · cases hs
  · cases hs
theorem pmayP_ok (hf : ∀ d, ρ.fn 12 d = .dB (pmay (prDP d))) {f : FuncId} (h : ∀ x : Prm, x.ok → ∀ w, Calls Try.prog f #[prmV x] w fun e w' => e = .returned (.bool (pmay x)) ∧ RowKit.Below w.heap.size w w')
    {args : List AV} {H H' : Heap} {o : Tm} {v : AV} (hg : pmayP args H = some (o, v, H')) (ho : o.den.asB = true) : CallS Try.prog f args H v H' ∧ LG H H' := by
  unfold pmayP at hg
  split at hg
  · rename_i s H
    split at hg
    · rename_i o' t hs
      cases hg
      refine ⟨callS_new fun μ cargs w hv => ?_, LG.refl _⟩
      obtain ⟨c, r, hc, hr, rfl⟩ := hv
      cases hr
      obtain ⟨rfl, hx⟩ := prTP_VR hs hc ho
      refine (h _ hx w).mono fun e w' he => ⟨_, he.1, ?_, he.2⟩
      show Value.bool (pmay (prDP t.den)) = .bool (ρ.fn 12 t.den).asB
      rw [hf]; rfl
    · cases hg
  · cases hg
end
abbrev rhoV (v : List UInt8) : Rho := ⟨fun _ => .dS v, pnFn⟩
theorem envP_ok (v : List UInt8) : @EnvOK (rhoV v) Try.prog envP := by
  letI ρ : Rho := rhoV v
  refine envOK_fn (fun f g hg args H o v H' _ hgs ho => ?_) fun _ _ => rfl
  simp only [envP, fnP] at hg
  cases h0 : Nat.beq f 39 with
  | true =>
    simp only [h0, cond_true, Option.some.injEq] at hg; subst hg
    obtain rfl := Nat.eq_of_beq_eq_true h0
    exact pmayP_ok (fun _ => rfl) (fun x _ w => pn_May x w) hgs ho
  | false =>
  simp only [h0, cond_false] at hg
  cases h1 : Nat.beq f 45 with
  | true =>
    simp only [h1, cond_true, Option.some.injEq] at hg; subst hg
    obtain rfl := Nat.eq_of_beq_eq_true h1
    exact pmayP_ok (fun _ => rfl) pn_RMay hgs ho
  | false => simp [h1] at hg
theorem noPrm_VR {ρ : Rho} (e : Int) : @VR ρ (fun _ => none) (.tuple [.agg [.int .u8 0, .int .u8 0, .int .u8 0, .int .u8 0, .int .i64 0, .int .i64 0, .int .i64 0, .int .i64 0], .int .i64 e]) (.tuple #[prmV noPrm, .int .i64 e]) :=
  ⟨[_, _], ⟨_, _, ⟨[_, _, _, _, _, _, _, _], ⟨_, _, rfl, ⟨_, _, rfl, ⟨_, _, rfl, ⟨_, _, rfl, ⟨_, _, rfl, ⟨_, _, rfl, ⟨_, _, rfl, ⟨_, _, rfl, rfl, rfl⟩, rfl⟩, rfl⟩, rfl⟩, rfl⟩, rfl⟩, rfl⟩, rfl⟩, rfl⟩, ⟨_, _, rfl, rfl, rfl⟩, rfl⟩, rfl⟩
theorem pg_short (v : List UInt8) (hv : v.length < 8) (f c n : Tm) : ∃ u, @Tree.sel _ (rhoV v) (pgT f c n) = some u ∧ @VR (rhoV v) (fun _ => none) u (pgetV v) := by
  letI ρ : Rho := rhoV v
  have dl : (Tm.len (.var 0)).den.asI = (v.length : Int) := rfl
  have hp : pget v = (noPrm, 20) := by
    unfold pget
    split
    · simp at hv
    · simp at hv; omega
    · rfl
  unfold pgetV; rw [hp]
  exact ⟨_, sel_T (lss_T (by rw [dl, ci_asI]; omega)) rfl, noPrm_VR 20⟩
theorem lts {v : List UInt8} (hv : 8 ≤ v.length) : ∀ i : Int, i < 8 → (@Tm.den (rhoV v) (ltT i)).asB = true := fun i hi => by
  letI ρ : Rho := rhoV v
  have dl : (Tm.len (.var 0)).den.asI = (v.length : Int) := rfl
  exact lss_T (by rw [dl, ci_asI]; omega)
theorem pg_long (v : List UInt8) (hv : 8 < v.length) (f c n : Tm) : ∃ u, @Tree.sel _ (rhoV v) (pgT f c n) = some u ∧ @VR (rhoV v) (fun _ => none) u (pgetV v) := by
  have l := lts (v := v) (by omega)
  letI ρ : Rho := rhoV v
  have dl : (Tm.len (.var 0)).den.asI = (v.length : Int) := rfl
  have hp : pget v = (noPrm, 70) := by
    match v, hv with
    | _ :: _ :: _ :: _ :: _ :: _ :: _ :: _ :: _ :: _, _ => rfl
  unfold pgetV; rw [hp]
  exact ⟨_, sel_F (lss_F (by rw [dl, ci_asI]; omega)) (sel_T (l 0 (by omega)) (sel_T (l 1 (by omega)) (sel_T (l 2 (by omega)) (sel_T (l 3 (by omega)) (sel_T (l 4 (by omega)) (sel_T (l 5 (by omega)) (sel_T (l 6 (by omega)) (sel_T (l 7 (by omega)) (show (pgIn f c n).sel = _ from sel_T (gtr_T (by rw [dl, ci_asI]; omega)) rfl))))))))), noPrm_VR 70⟩
theorem pg_eight (a b c d e f g h : UInt8) (fT cT nT : Tm) (hf : (@Tm.den (rhoV [a, b, c, d, e, f, g, h]) fT).asI = ((b.toNat % 16 : Nat) : Int)) (hc : (@Tm.den (rhoV [a, b, c, d, e, f, g, h]) cT).asI = ((b.toNat / 16 : Nat) : Int)) (hn : (@Tm.den (rhoV [a, b, c, d, e, f, g, h]) nT).asI = ((e.toNat + 256 * f.toNat : Nat) : Int)) :
    ∃ u, @Tree.sel _ (rhoV [a, b, c, d, e, f, g, h]) (pgT fT cT nT) = some u ∧ @VR (rhoV [a, b, c, d, e, f, g, h]) (fun _ => none) u (pgetV [a, b, c, d, e, f, g, h]) := by
  have l := lts (v := [a, b, c, d, e, f, g, h]) (by simp)
  have ha := a.toNat_lt
  have hb := b.toNat_lt
  have hcc := c.toNat_lt
  have hd := d.toNat_lt
  have hg := g.toNat_lt
  have hh := h.toNat_lt
  letI ρ : Rho := rhoV [a, b, c, d, e, f, g, h]
  have dl : (Tm.len (.var 0)).den.asI = 8 := rfl
  have d0 : (av 0).den.asI = (a.toNat : Int) := rfl
  have d2 : (av 2).den.asI = (c.toNat : Int) := rfl
  have d3 : (av64 3).den.asI = (d.toNat : Int) := w64 _ (by show _ ≤ (d.toNat : Int); omega) (by show (d.toNat : Int) ≤ _; omega)
  have d6 : (av64 6).den.asI = (g.toNat : Int) := w64 _ (by show _ ≤ (g.toNat : Int); omega) (by show (g.toNat : Int) ≤ _; omega)
  have d7 : (av64 7).den.asI = (h.toNat : Int) := w64 _ (by show _ ≤ (h.toNat : Int); omega) (by show (h.toNat : Int) ≤ _; omega)
  have hpr : prDP (prP fT cT nT).den = pdec a b c d e f g h := by
    show Prm.mk (av 0).den.asI fT.den.asI cT.den.asI (av 2).den.asI (av64 3).den.asI nT.den.asI (av64 6).den.asI (av64 7).den.asI = _
    rw [d0, hf, hc, d2, d3, hn, d6, d7]
  have happ : (Tm.app 12 (prP fT cT nT)).den.asB = pmay (pdec a b c d e f g h) := by
    show pmay (prDP (prP fT cT nT).den) = _
    rw [hpr]
  have ho : ∀ t : Tm, 0 ≤ t.den.asI → t.den.asI ≤ 255 → (oc t).den.asB = true := fun t h0 h1 => and_T (leq_T (by rw [ci_asI]; exact h0)) (leq_T (by rw [ci_asI]; exact h1))
  have pre : ∀ {u : AV}, (Tree.fork (.not (.app 12 (prP fT cT nT))) (noPrmA 70) (.leaf (pgLeaf fT cT nT))).sel = some u → (pgT fT cT nT).sel = some u := fun hx =>
    sel_F (lss_F (by rw [dl, ci_asI]; omega)) (sel_T (l 0 (by omega)) (sel_T (l 1 (by omega)) (sel_T (l 2 (by omega)) (sel_T (l 3 (by omega)) (sel_T (l 4 (by omega)) (sel_T (l 5 (by omega)) (sel_T (l 6 (by omega)) (sel_T (l 7 (by omega))
      (show (pgIn fT cT nT).sel = _ from sel_F (gtr_F (by rw [dl, ci_asI]; omega)) (sel_T (and_T (and_T (ho _ (by rw [d0]; omega) (by rw [d0]; omega)) (ho _ (by rw [hf]; omega) (by rw [hf]; omega))) (and_T (ho _ (by rw [hc]; omega) (by rw [hc]; omega)) (ho _ (by rw [d2]; omega) (by rw [d2]; omega)))) hx))))))))))
  have hnot : (Tm.not (.app 12 (prP fT cT nT))).den.asB = !pmay (pdec a b c d e f g h) := by
    show (!(Tm.app 12 (prP fT cT nT)).den.asB) = _
    rw [happ]
  cases hm : pmay (pdec a b c d e f g h) with
  | true =>
    have hp : pget [a, b, c, d, e, f, g, h] = (pdec a b c d e f g h, 0) := by
      exact if_pos hm
    unfold pgetV; rw [hp]
    refine ⟨pgLeaf fT cT nT, pre (sel_F (by rw [hnot, hm]; rfl) rfl), ?_⟩
    refine ⟨[_, _], ⟨_, _, ⟨[_, _, _, _, _, _, _, _], ⟨_, _, rfl, ⟨_, _, rfl, ⟨_, _, rfl, ⟨_, _, rfl, ⟨_, _, rfl, ⟨_, _, rfl, ⟨_, _, rfl, ⟨_, _, rfl, rfl, rfl⟩, rfl⟩, rfl⟩, rfl⟩, rfl⟩, rfl⟩, rfl⟩, rfl⟩, rfl⟩, ⟨_, _, rfl, rfl, rfl⟩, rfl⟩, ?_⟩
    rw [d0, hf, hc, d2, d3, hn, d6, d7]
  | false =>
    have hp : pget [a, b, c, d, e, f, g, h] = (noPrm, 70) := by
      exact if_neg (by rw [hm]; simp)
    unfold pgetV; rw [hp]
    exact ⟨_, pre (sel_T (by rw [hnot, hm]; rfl) rfl), noPrm_VR 70⟩
theorem and15 (b : UInt8) : (iop .and .u8 (b.toNat : Int) 15).asI = ((b.toNat % 16 : Nat) : Int) := all_byte (p := fun x => (iop .and .u8 (x.toNat : Int) 15).asI = ((x.toNat % 16 : Nat) : Int)) (by decide +kernel) b
theorem shr4 (b : UInt8) : (iop .shr .u8 (b.toNat : Int) 4).asI = ((b.toNat / 16 : Nat) : Int) := all_byte (p := fun x => (iop .shr .u8 (x.toNat : Int) 4).asI = ((x.toNat / 16 : Nat) : Int)) (by decide +kernel) b
theorem rem16 (b : UInt8) : (iop .rem .u8 (b.toNat : Int) 16).asI = ((b.toNat % 16 : Nat) : Int) := all_byte (p := fun x => (iop .rem .u8 (x.toNat : Int) 16).asI = ((x.toNat % 16 : Nat) : Int)) (by decide +kernel) b
theorem quo16 (b : UInt8) : (iop .quo .u8 (b.toNat : Int) 16).asI = ((b.toNat / 16 : Nat) : Int) := all_byte (p := fun x => (iop .quo .u8 (x.toNat : Int) 16).asI = ((x.toNat / 16 : Nat) : Int)) (by decide +kernel) b
theorem or_shl8 (e f : UInt8) : (iop .or .i64 (e.toNat : Int) (iop .shl .i64 (f.toNat : Int) 8).asI).asI = ((e.toNat + 256 * f.toNat : Nat) : Int) := by
  have he := e.toNat_lt
  have hf := f.toNat_lt
  have h1 : (iop .shl .i64 (f.toNat : Int) 8).asI = ((256 * f.toNat : Nat) : Int) := by
    show IntKind.i64.wrap ((f.toNat : Int) * 2 ^ (min (8 : Int).toNat 64)) = _
    rw [show (2 : Int) ^ (min (8 : Int).toNat 64) = 256 from rfl, w64 _ (by omega) (by omega)]; omega
  rw [h1]
  have h2 : (iop .or .i64 (e.toNat : Int) ((256 * f.toNat : Nat) : Int)) = .dI (IntKind.i64.wrap ((BitVec.ofInt 64 (e.toNat : Int) ||| BitVec.ofInt 64 ((256 * f.toNat : Nat) : Int)).toNat : Int)) := rfl
  rw [h2]
  have h3 : (BitVec.ofInt 64 (e.toNat : Int) ||| BitVec.ofInt 64 ((256 * f.toNat : Nat) : Int)).toNat = e.toNat + 256 * f.toNat := by
    rw [BitVec.toNat_or, BitVec.ofInt_natCast, BitVec.ofInt_natCast, BitVec.toNat_ofNat, BitVec.toNat_ofNat, Nat.mod_eq_of_lt (by omega), Nat.mod_eq_of_lt (by omega)]
    have := Nat.two_pow_add_eq_or_of_lt (i := 8) (b := e.toNat) (by omega) f.toNat
    rw [Nat.or_comm]
    rw [show 256 * f.toNat = 2 ^ 8 * f.toNat from rfl, ← this]; omega
  rw [h3]
  exact w64 _ (by omega) (by omega)
theorem pn_get_sel (v : List UInt8) : (∃ u, @Tree.sel _ (rhoV v) (pgT fP cP nP) = some u ∧ @VR (rhoV v) (fun _ => none) u (pgetV v)) ∧ ∃ u, @Tree.sel _ (rhoV v) (pgT fR cR nR) = some u ∧ @VR (rhoV v) (fun _ => none) u (pgetV v) := by
  rcases Nat.lt_trichotomy v.length 8 with h | h | h
  · exact ⟨pg_short v h _ _ _, pg_short v h _ _ _⟩
  · match v, h with
    | [a, b, c, d, e, f, g, h], _ =>
      have he := e.toNat_lt
      have hf := f.toNat_lt
      have w4 : IntKind.i64.wrap (e.toNat : Int) = (e.toNat : Int) := w64 _ (by omega) (by omega)
      have w5 : IntKind.i64.wrap (f.toNat : Int) = (f.toNat : Int) := w64 _ (by omega) (by omega)
      refine ⟨pg_eight a b c d e f g h _ _ _ (and15 b) (shr4 b) ?_, pg_eight a b c d e f g h _ _ _ (rem16 b) (quo16 b) ?_⟩
      · show (iop .or .i64 (IntKind.i64.wrap (e.toNat : Int)) (iop .shl .i64 (IntKind.i64.wrap (f.toNat : Int)) 8).asI).asI = _
        rw [w4, w5]; exact or_shl8 e f
      · show (iop .add .i64 (IntKind.i64.wrap (e.toNat : Int)) (iop .mul .i64 256 (IntKind.i64.wrap (f.toNat : Int))).asI).asI = _
        rw [w4, w5]
        show IntKind.i64.wrap ((e.toNat : Int) + IntKind.i64.wrap (256 * (f.toNat : Int))) = _
        rw [w64 (256 * (f.toNat : Int)) (by omega) (by omega), w64 _ (by omega) (by omega)]; omega
  · exact ⟨pg_long v h _ _ _, pg_long v h _ _ _⟩
theorem pn_Get (v : List UInt8) (w : World) : Calls Try.prog 23 #[.string ⟨v.toArray⟩] w fun e w' => e = .returned (pgetV v) ∧ RowKit.Below w.heap.size w w' := by
  letI ρ : Rho := rhoV v
  obtain ⟨u, h1, h2⟩ := (pn_get_sel v).1
  exact call_val (cf := evFun Try.prog envP 1000) (evFun_ok noCount (envP_ok v) 1000) (args := [.sstr (.var 0)]) (v := u) (by have := pg_eq; unfold leafT at this; rw [this]; exact h1) h2 (cargs := [.string ⟨v.toArray⟩]) ⟨_, _, rfl, rfl, rfl⟩ w
theorem pn_RGet (v : List UInt8) (w : World) : Calls Try.prog 27 #[.string ⟨v.toArray⟩] w fun e w' => e = .returned (pgetV v) ∧ RowKit.Below w.heap.size w w' := by
  letI ρ : Rho := rhoV v
  obtain ⟨u, h1, h2⟩ := (pn_get_sel v).2
  exact call_val (cf := evFun Try.prog envP 1000) (evFun_ok noCount (envP_ok v) 1000) (args := [.sstr (.var 0)]) (v := u) (by have := rpg_eq; unfold leafT at this; rw [this]; exact h1) h2 (cargs := [.string ⟨v.toArray⟩]) ⟨_, _, rfl, rfl, rfl⟩ w
end Go.Proofs.Ytamibbjpapkfeaa.Ab
