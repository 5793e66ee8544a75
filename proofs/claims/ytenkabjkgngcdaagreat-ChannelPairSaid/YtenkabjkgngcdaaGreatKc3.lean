import Derived.Test.YtenkabjkgngcdaaGreatKb5
set_option linter.unusedVariables false
set_option linter.unusedSimpArgs false
set_option linter.unusedSectionVars false
namespace Go.Proofs.YtenkabjkgngcdaaGreat.Ab
open Go
noncomputable section
variable {P : Program}
theorem zM8 {a b : Nat} (h : a < b) : Nat.blt a b = true := by rw [Nat.blt_eq]; exact h
theorem zSm {a b : Nat} (h : Nat.blt a b = true) : a < b := by rw [Nat.blt_eq] at h; exact h
def xEn (S : Sum) (base : Nat) (ρ : Rho) (τ : (Nat → Option Tm) → Nat → Option Tm) (χ : (Nat → Option Tm) → Bool) : Prop :=
 ∀ (σ : Nat → Option Tm) (ρ0 : Rho), ρ0.fn = ρ.fn → χ σ = true → (∀ n, n < S.m → ∃ t, σ n = some t ∧ ρ0.val n = @Tm.den ρ t) → ∀ n, ∃ t, τ σ n = some t ∧ (zAc S base ρ0).val n = @Tm.den ρ t
def xEp (S : Sum) (base r : Nat) (ρ : Rho) (δ : (Nat → Option Tm) → Tm) (χ : (Nat → Option Tm) → Bool) : Prop :=
 ∀ (σ : Nat → Option Tm) (ρ0 : Rho), ρ0.fn = ρ.fn → χ σ = true → (∀ n, n < S.m → ∃ t, σ n = some t ∧ ρ0.val n = @Tm.den ρ t) → (@Tm.den ρ (δ σ)).asB = true → (ρ.fn (base + r) (zFf ρ0.val S.us)).asB = true
def xCj (S : Sum) (τ : (Nat → Option Tm) → Nat → Option Tm) (δ : (Nat → Option Tm) → Tm) (χ : (Nat → Option Tm) → Bool) (args : List AV) (H : Heap) (g : List (Nat × Nat)) : Option (Tm × AV × Heap) :=
 bif S.ok && (g.all (fun p => Nat.blt p.1 S.n0) && distinct (zCY ⟨0, 0, g, zAW H H.objs⟩ S.po)) then
  match zYf (zLg ⟨0, 0, g, zAW H H.objs⟩ S.pa args) (xBg ⟨0, 0, g, zAW H H.objs⟩ (kfA ⟨0, 0, g, zAW H H.objs⟩ args H S.po) H S.po) with
  | some es => match xE8 (zDX es) es with
   | some t => bif zIz (zDX es) S.m && χ (zDX es) then
     some (zSr t (δ (zDX es)), zMX (zBW S g H.next) (τ (zDX es)) S.vo,
      ⟨H.next + (S.n1 - S.n0), S.qo.map (fun p => (zBW S g H.next p.1, zIq (zBW S g H.next) (τ (zDX es)) p.2)) ++ H.objs.filter (fun p => !zFw p.1 (zCY ⟨0, 0, g, zAW H H.objs⟩ S.po)),
       (zCY ⟨0, 0, g, zAW H H.objs⟩ S.po).filter (fun id => !still H (S.qo.map (fun p => (zBW S g H.next p.1, zIq (zBW S g H.next) (τ (zDX es)) p.2))) id) ++ H.log, H.pc⟩) else none
   | none => none
  | none => none else none
def xCh (S : Sum) (τ : (Nat → Option Tm) → Nat → Option Tm) (δ : (Nat → Option Tm) → Tm) (χ : (Nat → Option Tm) → Bool) : List AV → Heap → Option (Tm × AV × Heap) := fun args H => match zAF S.po S.pa args H with
 | (args1, H1) => match zDC S.po (zEx (xAq S args1 H1)) S.po H1 with
  | H2 => xCj S τ δ χ args1 H2 (xAq S args1 H2)
theorem zY2 (hn : NoCount P) {ρ : Rho} {f : FuncId} {S : Sum} {base r : Nat} {τ : (Nat → Option Tm) → Nat → Option Tm} {δ : (Nat → Option Tm) → Tm} {χ : (Nat → Option Tm) → Bool} (hτ : xEn S base ρ τ χ) (hδ : xEp S base r ρ δ χ) (hS : zYp P f S base r ρ.fn) {args : List AV} {H : Heap} {g : List (Nat × Nat)} {q : Tm} {v : AV} {H' : Heap} (h : xCj S τ δ χ args H g = some (q, v, H')) (hq : (@Tm.den ρ q).asB = true) :
  @zCM ρ P f args H v H' ∧ LG H H' := by
 unfold xCj at h;cases hb : (S.ok && (g.all (fun p => Nat.blt p.1 S.n0) && distinct (zCY ⟨0, 0, g, zAW H H.objs⟩ S.po))) with
 | false => rw [hb] at h; cases h
 | true =>
 rw [hb] at h;obtain ⟨hok, hb⟩ := Bool.and_eq_true_iff.1 hb;obtain ⟨hg, hd⟩ := Bool.and_eq_true_iff.1 hb;simp only [cond_true] at h;split at h
 case h_2 => cases h
 rename_i es hes;split at h
 case h_2 => cases h
 rename_i t ht;cases hbx : (zIz (zDX es) S.m && χ (zDX es)) with
 | false => rw [hbx] at h; cases h
 | true =>
 rw [hbx] at h;obtain ⟨hbd, hχ⟩ := Bool.and_eq_true_iff.1 hbx;simp only [cond_true, Option.some.injEq, Prod.mk.injEq] at h;obtain ⟨rfl, rfl, rfl⟩ := h;rw [@zBD ρ, Bool.and_eq_true] at hq;obtain ⟨hq1, hq2⟩ := hq;obtain ⟨ea, eo, hma, hmh, rfl⟩ := zAR hes;generalize hM : (⟨0, 0, g, zAW H H.objs⟩ : Mt) = M at *;generalize hσ : zDX (ea ++ eo) = σ at *;simp only [Sum.ok, Bool.and_eq_true] at hok;obtain ⟨⟨⟨⟨k1, k2⟩, k3⟩, k4⟩, k5⟩ := hok;have k4 : ∀ i ∈ S.us, i < S.m := fun i hi => by
  have := List.all_eq_true.1 k4 i hi; simpa [Nat.blt_eq] using this
 have k1 := Nat.le_of_ble_eq_true k1;have k2 : ∀ p ∈ S.po, p.1 < S.n0 := fun p hp => by
  have := List.all_eq_true.1 k2 p hp; simpa [Nat.blt_eq] using this
 have k3 : ∀ p ∈ S.qo, p.1 < S.n1 ∧ (S.n0 ≤ p.1 ∨ p.1 ∈ S.po.map (·.1)) := fun p hp => by
  have := List.all_eq_true.1 k3 p hp;rw [Bool.and_eq_true, Bool.or_eq_true] at this;refine ⟨by have := this.1; simpa [Nat.blt_eq] using this, this.2.imp Nat.le_of_ble_eq_true fun h => (@zB2 zOM _ _).1 h⟩
 have hto : ∀ i, M.to i = zEx g i := fun i => by rw [← hM]; rfl
 have hglt : ∀ i j, zEx g i = some j → i < S.n0 := fun i j h => by
  have := List.all_eq_true.1 hg (i, j) (zGZ h);simpa [Nat.blt_eq] using this
 let ρ0 : Rho := ⟨fun n => match σ n with
  | some t => @Tm.den ρ t
  | none => ρ.val n, ρ.fn⟩
 have hσ0 : ∀ n, ρ0.val n = match σ n with
  | some t => @Tm.den ρ t
  | none => ρ.val n := fun n => rfl
 have hbound : ∀ n, n < S.m → ∃ t, σ n = some t ∧ ρ0.val n = @Tm.den ρ t := fun n hnm => by
  have := List.all_eq_true.1 hbd n (List.mem_range.2 hnm);obtain ⟨t, ht⟩ := Option.isSome_iff_exists.1 this;exact ⟨t, ht, by rw [hσ0, ht]⟩
 have ok0 : EqsOk ρ0 ρ (ea ++ eo) := zDZ hσ0 rfl ht hq1;obtain ⟨oka, oko⟩ := ok0.append;have hlow : Low M.m ρ0 ρ := by rw [← hM]; exact ⟨fun n hn => absurd hn (Nat.not_lt_zero n), rfl⟩
 have pre : (ρ0.fn (base + r) (zFf ρ0.val S.us)).asB = true := hδ σ ρ0 rfl hχ hbound hq2;obtain ⟨env, hE, es1, hsel, hok1⟩ := hS ρ0 rfl pre;have hcf := @zC5 ρ0 P hn env hE (Option Eqs) 1000;obtain ⟨v1, H1, r1, r2, r3, r4⟩ := hcf f S.pa S.H _ (some es1) (fun p hp => by cases hp) hsel
 simp only [Tree.sel, Option.some.injEq] at r1;have hobj : ∀ i o', look S.po i = some o' → ∃ j o e, M.to i = some j ∧ H.get j = some o ∧ zW2 M (kfA M args H S.po j) o' o = some e ∧ EqsOk ρ0 ρ e ∧ j ∈ zCY M S.po := fun i o' h => zGH hmh oko i o' h;have hin : ∀ i, i < S.n0 → ∀ j, M.to i = some j → zBW S g H.next i = j := fun i hi j hj => by
  unfold zBW;rw [show Nat.blt i S.n0 = true by rw [Nat.blt_eq]; exact hi]
  rw [hto] at hj;simp [hj]
 have hout : ∀ i, S.n0 ≤ i → zBW S g H.next i = H.next + (i - S.n0) := fun i hi => by
  unfold zBW;rw [show Nat.blt i S.n0 = false by cases h : Nat.blt i S.n0 with | false => rfl | true => rw [Nat.blt_eq] at h; omega]; rfl
 have hnew : ∀ id o, look (S.qo.map (fun p => (zBW S g H.next p.1, zIq (zBW S g H.next) (τ σ) p.2))) id = some o → ∃ i o', look S.qo i = some o' ∧ id = zBW S g H.next i ∧ o = zIq (zBW S g H.next) (τ σ) o' ∧ i < S.n1 ∧
   ((S.n0 ≤ i ∧ id = H.next + (i - S.n0)) ∨ (i < S.n0 ∧ ∃ op oc e, look S.po i = some op ∧ M.to i = some id ∧ H.get id = some oc ∧ zW2 M (kfA M args H S.po id) op oc = some e ∧ id ∈ zCY M S.po)) := fun id o h => by
  obtain ⟨i, o', h1, h2, h3, h4⟩ := zMo h;obtain ⟨q1, q2⟩ := k3 _ h4;refine ⟨i, o', h1, h2, h3, q1, ?_⟩;rcases q2 with q2 | q2
  ·exact .inl ⟨q2, by rw [h2, hout i q2]⟩
  ·obtain ⟨op, hop⟩ := zFM q2;have hlt := k2 _ (zGJ hop);obtain ⟨j, oc, e, e1, e2, e3, _, e5⟩ := hobj i op hop;have : id = j := by rw [h2, hin i hlt j e1]
   subst this;exact .inr ⟨hlt, op, oc, e, hop, e1, e2, e3, e5⟩
 have hget : ∀ id o, look (S.qo.map (fun p => (zBW S g H.next p.1, zIq (zBW S g H.next) (τ σ) p.2)) ++ H.objs.filter (fun p => !zFw p.1 (zCY M S.po))) id = some o →
   look (S.qo.map (fun p => (zBW S g H.next p.1, zIq (zBW S g H.next) (τ σ) p.2))) id = some o ∨ (H.get id = some o ∧ id ∉ zCY M S.po) := fun id o h => by
  rw [zGK] at h;split at h
  ·rename_i o' h'; cases h; exact .inl h'
  ·have := zBH (fun x => !zFw x (zCY M S.po)) H.objs id;rw [this] at h;split at h
   ·rename_i hm;refine .inr ⟨h, fun hmem => ?_⟩;rw [(@zB2 zOM _ _).2 hmem] at hm; cases hm
   ·cases h
 refine ⟨?_, ?_⟩
 ·intro μ w cargs hv rp dm;have hkf : ∀ j k, kfA M args H S.po j = some k → ∀ l, μ j = some l → l.k = k ∧ 0 < k := fun j k hk l hl => by
   unfold kfA at hk;split at hk
   ·rename_i k' hk';cases hk;refine @zGL ρ _ _ _ _ hk' (fun x hx => ?_) _ hl;obtain ⟨n, hn⟩ := List.getElem?_of_mem hx;obtain ⟨y, _, q⟩ := @VRs.get ρ _ _ _ hv n x hn;exact ⟨y, q⟩
   ·refine @zDT ρ _ w _ _ _ _ (fun i vs own lf hi x hx => ?_) _ hk _ hl;obtain ⟨_, c, e, lo, hi', _, _, _, _, _, _, q7⟩ := @Rep.obj ρ _ _ _ rp i _ hi;obtain ⟨n, hn⟩ := List.getElem?_of_mem hx;obtain ⟨_, y, _, q8⟩ := q7 n x hn;exact ⟨y, q8⟩
  let ν : Mu := fun i => match M.to i with
   | some j => μ j
   | none => none
  have hν : ∀ i j, M.to i = some j → ν i = μ j := fun i j h => by
   show (match M.to i with | some j => μ j | none => none) = _
   rw [h]
  have hνs : ∀ i l, ν i = some l → ∃ j, M.to i = some j ∧ μ j = some l := fun i l h => by
   have h' : (match M.to i with | some j => μ j | none => none) = some l := h
   split at h'
   ·rename_i j hj; exact ⟨j, hj, h'⟩
   ·cases h'
  have hmu : xEE M μ ν := fun i j l h1 h2 => by
   unfold Mt.id at h1;split at h1
   ·rename_i k hk;obtain rfl := Nat.eq_of_beq_eq_true h1;rw [hν i k hk]; exact h2
   ·cases h1
  have hid : ∀ i j, M.to i = some j → M.id i j = true := fun i j h => by unfold Mt.id; rw [h]; simp
  have hFit : Fits M μ := fun j l hj hl => by
   rw [← hM] at hj;obtain ⟨o, ho, hnm, hns, hnp⟩ := zBz _ hj;have ro := @Rep.obj ρ _ _ _ rp j o ho;cases o with
   | map es => exact absurd rfl (hnm es)
   | row vs own lf =>
    obtain ⟨l', c, e, lo, hi, ⟨q1, qz⟩, q2, q3, q4, _⟩ := ro;rw [hl] at q1; cases q1; exact ⟨q4, qz⟩
   | bytes u own =>
    obtain ⟨l', c, e, lo, hi, ⟨q1, qz⟩, q2, q3, q4, _⟩ := ro;rw [hl] at q1; cases q1; exact ⟨q4, qz⟩
   | seq sh u own => exact absurd rfl (hns sh u own)
   | pin b q => exact absurd rfl (hnp b q)
   | nst sh u jn z N k2 =>
    obtain ⟨l', c, e, lo, hi, ⟨q1, qz⟩, q2, q3, q4, _⟩ := ro;rw [hl] at q1; cases q1; exact ⟨q4, qz⟩
   | abs p u =>
    obtain ⟨l', c, e, lo, hi, ⟨q1, qz⟩, q2, q3, q4, _⟩ := ro;rw [hl] at q1; cases q1; exact ⟨q4, qz⟩
  have hva : @VRs ρ0 ν S.pa cargs := zFK hlow hmu hFit S.pa args ea hma oka cargs hv;have hdv : Dom ν S.n0 := fun i hi => by
   cases hx : ν i with
   | none => rfl
   | some l =>
    obtain ⟨j, q1, _⟩ := hνs i l hx;rw [hto] at q1;have := hglt i j q1; omega
  have hrv : @Rep ρ0 ν S.H.get w := by
   refine ⟨fun i o' h => ?_, fun i j oi oj li lj h1 h2 hij ho h3 h4 z1 z2 => ?_⟩
   ·obtain ⟨j, o, e, q1, q2, q3, q4, _⟩ := hobj i o' h;exact zMf hlow hmu hFit q3 q4 (hid i j q1) (hkf j) (@Rep.obj ρ _ _ _ rp j o q2)
   ·obtain ⟨p, op, ep, p1, p2, p3, p4, _⟩ := hobj i oi h1;obtain ⟨s, os, eq, s1, s2, s3, s4, _⟩ := hobj j oj h2;rw [hν i p p1] at h3;rw [hν j s s1] at h4;refine @Rep.inj ρ _ _ _ rp p s op os li lj p2 s2 (fun e => hij ?_) (ho.imp (zBT p3) (zBT s3)) h3 h4 z1 z2;subst e;exact zL4 hmh hd i j oi oj p h1 h2 p1 s1
  refine (r3 ν w cargs hva hrv hdv).mono fun e w' he => ?_;obtain ⟨ν1, c, rfl, hc, ev1⟩ := he;have sr1 : @SRel ρ0 P ν1 (stV v1 H1) ⟨#[c], []⟩ w' := by
   refine ⟨fun tt v' hv' => ?_, rfl, rfl, @Evo.rep ρ0 _ _ _ _ _ _ _ _ ev1, @Evo.dom ρ0 _ _ _ _ _ _ _ _ ev1⟩;have hv'' : lk [(0, v1)] tt = some v' := hv';rw [zDD] at hv'';split at hv''
   ·rename_i e; subst e; cases hv'';exact ⟨c, by simp, hc⟩
   ·cases hv''
  have hlow2 : Low S.m (zAc S base ρ0) ρ0 := ⟨fun n hn => by
   show (bif Nat.blt n S.m then _ else _) = _
   rw [show Nat.blt n S.m = true by rw [Nat.blt_eq]; exact hn]; rfl, rfl⟩
  have hmatN : zR2 S.n0 S.m S.stO (stV v1 H1) = some es1 := r1;obtain ⟨ν2, ev2, sr2⟩ := zD3 (P := P) hmatN hok1 hlow2 hdv ev1 sr1;have hvo : @VR (zAc S base ρ0) ν2 S.vo c := by
   obtain ⟨c', q1, q2⟩ := @SRel.fr (zAc S base ρ0) _ _ _ _ _ sr2 0 S.vo rfl;have : (#[c] : Array Value)[0]? = some c' := q1;simp at this;rw [this]; exact q2
  obtain ⟨e_ext, e_rep, e_lo, e_dom, e_old, e_keep, e_mine, e_live, e_size, e_os, e_tape, e_output⟩ := ev2
  let μ2 : Mu := fun id => if id < H.next then μ id else ν2 (S.n0 + (id - H.next))
  have hσ2 : ∀ n, (zAc S base ρ0).val n = match τ σ n with
   | some t => @Tm.den ρ t
   | none => ρ.val n := fun n => by
   obtain ⟨t, h1, h2⟩ := hτ σ ρ0 rfl hχ hbound n;rw [h1]; exact h2
  have hback : ∀ i l, i < S.n0 → ν2 i = some l → ∃ j, M.to i = some j ∧ μ j = some l ∧ j < H.next := fun i l hi hl => by
   cases hx : ν i with
   | none => have := (e_old i l hl hx).1; omega
   | some l0 =>
    have := e_ext i l0 hx;rw [hl] at this; cases this;obtain ⟨j, q1, q2⟩ := hνs i l hx;refine ⟨j, q1, q2, ?_⟩;rcases Nat.lt_or_ge j H.next with h1 | h1
    ·exact h1
    ·rw [dm j h1] at q2; cases q2
  have hκ : ∀ i l, ν2 i = some l → μ2 (zBW S g H.next i) = some l := fun i l hl => by
   rcases Nat.lt_or_ge i S.n0 with h1 | h1
   ·obtain ⟨j, q1, q2, q3⟩ := hback i l h1 hl;rw [hin i h1 j q1];show (if j < H.next then μ j else _) = _
    rw [if_pos q3]; exact q2
   ·rw [hout i h1];show (if H.next + (i - S.n0) < H.next then _ else ν2 (S.n0 + (H.next + (i - S.n0) - H.next))) = _
    rw [if_neg (by omega), show S.n0 + (H.next + (i - S.n0) - H.next) = i by omega]; exact hl
  have hextμ : Ext μ μ2 := fun id l hl => by
   show (if id < H.next then μ id else _) = _
   rw [if_pos]
   ·exact hl
   ·rcases Nat.lt_or_ge id H.next with h1 | h1
    ·exact h1
    ·rw [dm id h1] at hl; cases hl
  have hminν : ∀ b, Mine ν S.H.get b → Mine μ H.get b := fun b m => by
   obtain ⟨i, o, l, m1, m2, ⟨m3, mz⟩, m4⟩ := m;obtain ⟨j, oc, e, q1, q2, q3, _⟩ := hobj i o m1;rw [hν i j q1] at m3;exact ⟨j, oc, l, q2, zBT q3 m2, ⟨m3, mz⟩, m4⟩
  have hμlt : ∀ id o, H.get id = some o → id < H.next := fun id o h => @Rep.lt ρ _ _ _ rp _ dm _ _ h;have hμ2old : ∀ id, id < H.next → μ2 id = μ id := fun id h => by
   show (if id < H.next then μ id else _) = _
   rw [if_pos h]
  have hfar : ∀ id o l, H.get id = some o → id ∉ zCY M S.po → μ id = some l → l.nil = false → ∀ i oi li, look S.po i = some oi → ν i = some li → li.nil = false → owned o = true ∨ owned oi = true → l.b ≠ li.b := fun id o l h1 h2 h3 h4 i oi li h5 h6 h7 h8 => by
   obtain ⟨j, oc, e, q1, q2, q3, _, q5⟩ := hobj i oi h5;rw [hν i j q1] at h6;refine @Rep.inj ρ _ _ _ rp id j o oc l li h1 q2 (fun e => h2 (e ▸ q5)) (h8.imp (fun x => x) (zBT q3)) h3 h6 h4 h7
  have hnotmine : ∀ id o l, H.get id = some o → id ∉ zCY M S.po → μ id = some l → l.nil = false → ¬ Mine ν S.H.get l.b := fun id o l h1 h2 h3 h4 m => by
   obtain ⟨i, oi, li, m1, m2, ⟨m3, mz⟩, m4⟩ := m;exact hfar id o l h1 h2 h3 h4 i oi li m1 m3 mz (.inr m2) m4.symm
  have hrep2 : @Rep ρ μ2 (Heap.get ⟨H.next + (S.n1 - S.n0), S.qo.map (fun p => (zBW S g H.next p.1, zIq (zBW S g H.next) (τ σ) p.2)) ++ H.objs.filter (fun p => !zFw p.1 (zCY M S.po)), (zCY M S.po).filter (fun id => !still H (S.qo.map (fun p => (zBW S g H.next p.1, zIq (zBW S g H.next) (τ σ) p.2))) id) ++ H.log, H.pc⟩) w' := by
   refine @Rep.mk ρ _ _ _ (fun id o ho => ?_) (fun id jd oi oj li lj h1 h2 hij ho h3 h4 z1 z2 => ?_)
   ·rcases hget id o ho with h | ⟨h, hnm⟩
    ·obtain ⟨i, o', q1, q2, q3, _⟩ := hnew id o h;rw [q2, q3];exact zQI hσ2 rfl hκ (List.all_eq_true.1 k5 _ (zGJ q1)) (@Rep.obj (zAc S base ρ0) _ _ _ e_rep i o' q1)
    ·refine @RepO.keep ρ _ _ hextμ _ _ _ _ (@Rep.obj ρ _ _ _ rp id o h) fun l hl hz => ?_;obtain ⟨l', hl', hlt⟩ := @RepO.mu ρ _ _ _ _ (@Rep.obj ρ _ _ _ rp id o h);rw [hl] at hl'; cases hl';exact e_keep l.b (hlt hz) (hnotmine id o l h hnm hl hz)
   ·
    have far : ∀ {id jd oi oj li lj}, look (S.qo.map (fun p => (zBW S g H.next p.1, zIq (zBW S g H.next) (τ σ) p.2))) id = some oi → H.get jd = some oj → jd ∉ zCY M S.po → owned oi = true ∨ owned oj = true → μ2 id = some li → μ2 jd = some lj → li.nil = false → lj.nil = false → li.b ≠ lj.b := fun {id jd oi oj li lj} h1 h2 hnm ho h3 h4 z1 z2 => by
     obtain ⟨i, o', q1, q2, q3, q4, q5⟩ := hnew id oi h1;rw [hμ2old jd (hμlt jd oj h2)] at h4;obtain ⟨l', hl', hlt⟩ := @RepO.mu ρ _ _ _ _ (@Rep.obj ρ _ _ _ rp jd oj h2);rw [h4] at hl'; cases hl';have hlt := hlt z2;obtain ⟨l'', hl'', _⟩ := @RepO.mu (zAc S base ρ0) _ _ _ _ (@Rep.obj (zAc S base ρ0) _ _ _ e_rep i o' q1);have := hκ i l'' hl'';rw [← q2, h3] at this; cases this;have ho' : owned o' = true ∨ owned oj = true := by rw [q3, zDy] at ho; exact ho
     intro hb;rcases q5 with ⟨q5, _⟩ | ⟨q5, op, oc, e, q6, q7, q8, q9, q10⟩
     ·have hνn : ν i = none := hdv i q5;rcases (e_old i li hl'' hνn).2 with w1 | w1 | w1
      ·rw [z1] at w1; cases w1
      ·omega
      ·exact hnotmine jd oj lj h2 hnm h4 z2 (hb ▸ w1)
     ·obtain ⟨j, w1, w2, w3⟩ := hback i li q5 hl'';rw [q7] at w1; cases w1;rcases ho' with ho' | ho'
      ·have hm := e_mine li.b ⟨i, o', li, q1, ho', ⟨hl'', z1⟩, rfl⟩ (by omega)
       exact hnotmine jd oj lj h2 hnm h4 z2 (hb ▸ hm)
      ·exact hfar jd oj lj h2 hnm h4 z2 i op li q6 (by rw [hν i id q7]; exact w2) z1 (.inl ho') hb.symm
    rcases hget id oi h1 with k1 | ⟨k1, kn1⟩
    ·rcases hget jd oj h2 with k2 | ⟨k2, kn2⟩
     ·obtain ⟨i, o', q1, q2, q3, _⟩ := hnew id oi k1;obtain ⟨j, o'', p1, p2, p3, _⟩ := hnew jd oj k2;obtain ⟨l1, hl1, _⟩ := @RepO.mu (zAc S base ρ0) _ _ _ _ (@Rep.obj (zAc S base ρ0) _ _ _ e_rep i o' q1);obtain ⟨l2, hl2, _⟩ := @RepO.mu (zAc S base ρ0) _ _ _ _ (@Rep.obj (zAc S base ρ0) _ _ _ e_rep j o'' p1);have e1 := hκ i l1 hl1;have e2 := hκ j l2 hl2;rw [← q2, h3] at e1; cases e1;rw [← p2, h4] at e2; cases e2;refine @Rep.inj (zAc S base ρ0) _ _ _ e_rep i j o' o'' li lj q1 p1 (fun e => ?_) (by rw [q3, p3, zDy, zDy] at ho; exact ho) hl1 hl2 z1 z2
      subst e; exact hij (q2.trans p2.symm)
     ·exact far k1 k2 kn2 ho h3 h4 z1 z2
    ·rcases hget jd oj h2 with k2 | ⟨k2, kn2⟩
     ·exact (far k2 k1 kn1 ho.symm h4 h3 z2 z1).symm
     ·rw [hμ2old id (hμlt id oi k1)] at h3;rw [hμ2old jd (hμlt jd oj k2)] at h4;exact @Rep.inj ρ _ _ _ rp id jd oi oj li lj k1 k2 hij ho h3 h4 z1 z2
  refine ⟨μ2, c, rfl, zIF hσ2 rfl hκ S.vo c hvo, @Evo.mk ρ _ _ _ _ _ _ _ _ hextμ hrep2 (Nat.le_add_right _ _) (fun id hid => ?_) (fun id l h1 h2 => ?_) (fun b hb hm => ?_) (fun b hm hb => ?_) (fun id o ho => ?_) e_size e_os e_tape e_output⟩
  ·have hid : H.next + (S.n1 - S.n0) ≤ id := hid;show (if id < H.next then μ id else ν2 (S.n0 + (id - H.next))) = none
   rw [if_neg (by omega)]
   exact e_dom _ (show S.n1 ≤ _ by omega)
  ·have h1' : (if id < H.next then μ id else ν2 (S.n0 + (id - H.next))) = some l := h1
   split at h1'
   ·rw [h2] at h1'; cases h1'
   ·refine ⟨by omega, ?_⟩
    have hνn : ν (S.n0 + (id - H.next)) = none := hdv _ (by omega)
    rcases (e_old _ l h1' hνn).2 with w1 | w1 | w1
    ·exact .inl w1
    ·exact .inr (.inl w1)
    ·exact .inr (.inr (hminν _ w1))
  ·exact e_keep b hb fun m => hm (hminν b m)
  ·obtain ⟨id, o, l, m1, m2, ⟨m3, mz⟩, m4⟩ := hm;rcases hget id o m1 with k1 | ⟨k1, kn1⟩
   ·obtain ⟨i, o', q1, q2, q3, _⟩ := hnew id o k1;obtain ⟨l1, hl1, _⟩ := @RepO.mu (zAc S base ρ0) _ _ _ _ (@Rep.obj (zAc S base ρ0) _ _ _ e_rep i o' q1);have e1 := hκ i l1 hl1;rw [← q2, m3] at e1; cases e1;exact hminν b (e_mine b ⟨i, o', l, q1, by rw [q3, zDy] at m2; exact m2, ⟨hl1, mz⟩, m4⟩ hb)
   ·rw [hμ2old id (hμlt id o k1)] at m3;exact ⟨id, o, l, k1, m2, ⟨m3, mz⟩, m4⟩
  ·rcases hget id o ho with k1 | ⟨k1, _⟩
   ·obtain ⟨i, o', q1, q2, q3, _, q5⟩ := hnew id o k1;rcases q5 with ⟨q5, q6⟩ | ⟨q5, op, oc, e, q6, q7, q8, _⟩
    ·exact .inr (by omega)
    ·exact .inl ⟨oc, q8⟩
   ·exact .inl ⟨o, k1⟩
 ·intro bd;refine ⟨fun id o ho => ?_, _, rfl, fun id hid hnm => ?_, Nat.le_add_right _ _⟩
  ·show id < H.next + (S.n1 - S.n0);rcases hget id o ho with k1 | ⟨k1, _⟩
   ·obtain ⟨i, o', q1, q2, q3, q4, q5⟩ := hnew id o k1;rcases q5 with ⟨q5, q6⟩ | ⟨q5, op, oc, e, q6, q7, q8, _⟩
    ·omega
    ·have := bd id oc q8; omega
   ·have := bd id o k1; omega
  ·show look _ id = H.get id;have hst : id ∈ zCY M S.po → still H (S.qo.map (fun p => (zBW S g H.next p.1, zIq (zBW S g H.next) (τ σ) p.2))) id = true := fun hm => by
    cases hs : still H (S.qo.map (fun p => (zBW S g H.next p.1, zIq (zBW S g H.next) (τ σ) p.2))) id with
    | true => rfl
    | false => exact absurd (List.mem_filter.2 ⟨hm, by rw [hs]; rfl⟩) hnm
   rw [zGK];split
   ·rename_i o ho;obtain ⟨i, o', q1, q2, q3, q4, q5⟩ := hnew id o ho;rcases q5 with ⟨q5, q6⟩ | ⟨q5, op, oc, e, q6, q7, q8, _, q10⟩
    ·omega
    ·have hs := hst q10;unfold still at hs;rw [ho, q8] at hs;rw [q8, @zXl ρ _ _ hs]
   ·rename_i hno;have hnm : id ∉ zCY M S.po := fun hm => by
     have hs := hst hm;unfold still at hs;rw [hno] at hs; cases hs
    rw [zBH (fun x => !zFw x (zCY M S.po)) H.objs id, if_pos]
    ·rfl
    ·cases hx : zFw id (zCY M S.po) with
     | false => rfl
     | true => exact absurd ((@zB2 zOM _ _).1 hx) hnm
theorem zYz (hn : NoCount P) {ρ : Rho} {f : FuncId} {S : Sum} {base r : Nat} {τ : (Nat → Option Tm) → Nat → Option Tm} {δ : (Nat → Option Tm) → Tm} {χ : (Nat → Option Tm) → Bool} (hτ : xEn S base ρ τ χ) (hδ : xEp S base r ρ δ χ) (hS : zYp P f S base r ρ.fn) {args : List AV} {H : Heap} {q : Tm} {v : AV} {H' : Heap} (h : xCh S τ δ χ args H = some (q, v, H')) (hq : (@Tm.den ρ q).asB = true) :
  @zCM ρ P f args H v H' ∧ LG H H' := by
 unfold xCh at h;split at h;rename_i args1 H1 hnil;simp only at h;obtain ⟨c1, c2⟩ := zY2 hn hτ hδ hS h hq;have e1 : (zAF S.po S.pa args H).1 = args1 := by rw [hnil]
 have e2 : (zAF S.po S.pa args H).2 = H1 := by rw [hnil]
 refine ⟨fun μ w cargs hv rp dm => ?_, ?_⟩
 ·obtain ⟨μ1, ev1, hv1⟩ := @zEj ρ w S.po S.pa args μ H cargs hv rp dm;rw [e2] at ev1;rw [e1] at hv1;obtain ⟨μ2, ev2⟩ := @zDq ρ w S.po (zEx (xAq S args1 H1)) S.po μ1 H1 (@Evo.rep ρ _ _ _ _ _ _ _ _ ev1) (@Evo.dom ρ _ _ _ _ _ _ _ _ ev1);have ev := @Evo.trans ρ _ _ _ _ _ _ _ _ _ _ _ _ ev1 ev2;refine (c1 μ2 w cargs (@VRs.ext ρ _ _ (@Evo.ext ρ _ _ _ _ _ _ _ _ ev2) _ _ hv1) (@Evo.rep ρ _ _ _ _ _ _ _ _ ev) (@Evo.dom ρ _ _ _ _ _ _ _ _ ev)).mono fun e w' he => ?_;obtain ⟨μ3, c, q1, q2, q3⟩ := he;exact ⟨μ3, c, q1, q2, @Evo.trans ρ _ _ _ _ _ _ _ _ _ _ _ _ ev q3⟩
 ·refine @LG.trans ρ _ _ _ (@LG.trans ρ _ _ _ ?_ (@zFi ρ S.po (zEx (xAq S args1 H1)) S.po H1)) c2;rw [← e2]; exact @zDP ρ S.po S.pa args H
abbrev prj (D : Tm) (j : Nat) : Tm := .lget D (.ci 0) j
def xIo : Tm → Option Tm
 | .lget D (.ci 0) 0 => some D
 | _ => none
def xGr (σ : Nat → Option Tm) : Option Tm := match σ 0 with
 | some t => xIo t
 | none => none
def zOy (N : Nat) (σ : Nat → Option Tm) : Bool := match xGr σ with
 | some D => (List.range N).all fun j => match σ j with
  | some t => t.eqv (prj D j)
  | none => false
 | none => false
def zXv (N m : Nat) (σ : Nat → Option Tm) : Tm := .pair ((xGr σ).getD (.ci 0)) (zYu σ ((List.range (m - N)).map (N + ·)))
def zVY : List Nat → Nat → Option Nat
 | [], _ => none
 | a :: l, j => bif Nat.beq a j then some 0 else (zVY l j).map (· + 1)
def zXw (S : Sum) (base N nres F : Nat) (chg : List Nat) (σ : Nat → Option Tm) (n : Nat) : Option Tm :=
 bif Nat.blt n N then (match zVY chg n with
  | some _ => σ n
  | none => some (prj (.app F (zXv N S.m σ)) n)) else
 bif Nat.blt n S.m then σ n else
 bif Nat.blt n (S.m + nres) then some (.app (F + 1 + (n - S.m)) (zXv N S.m σ)) else
 match chg[n - S.m - nres]? with
  | some j => bif Nat.blt j N then some (prj (.app F (zXv N S.m σ)) j) else zMC S base σ n
  | none => zMC S base σ n
def zXx (S : Sum) (N nres F : Nat) (σ : Nat → Option Tm) : Tm := .app (F + 1 + nres) (zXv N S.m σ)
def xJO (l : List Dat) : List Dat := (l.getD 0 (.dI 0)).asL.getD 0 []
def xFM (N : Nat) (l : List Dat) (n : Nat) : Dat := bif Nat.blt n N then (xJO l).getD n (.dI 0) else l.getD (n - N + 1) (.dI 0)
def zYl (N nres : Nat) (chg : List Nat) (out : List Dat) (v : Nat → Dat) (j : Nat) : Dat := match zVY chg j with
 | some i => out.getD (nres + i) (.dB true)
 | none => v j
def xFP (N nres r : Nat) (chg : List Nat) (out : List Dat) (v : Nat → Dat) : List Dat :=
 .dL [(List.range N).map (zYl N nres chg out v)] :: (((List.range nres).map fun i => out.getD i (.dB true)) ++ [out.getD r (.dB true)])
def zRy (mm : Nat → List Dat → List Dat) (S : Sum) (N nres idx r : Nat) (chg : List Nat) (l : List Dat) : List Dat :=
 xFP N nres r chg (mm idx (S.us.map (xFM N l))) (xFM N l)
def zZL (S : Sum) (base N nres F : Nat) (chg : List Nat) : List AV → Heap → Option (Tm × AV × Heap) := xCh S (zXw S base N nres F chg) (zXx S N nres F) (zOy N)
theorem zGV (v : Nat → Dat) : ∀ us : List Nat, cellsD (zFf v us) = us.map v
 | [] => rfl
 | i :: l => by rw [zFf, cellsD, zGV v l, List.map_cons]
theorem zJx : ∀ {l : List Nat} {j i : Nat}, l.Nodup → l[i]? = some j → zVY l j = some i
 | [], _, _, _, h => by simp at h
 | a :: l, j, i, hd, h => by
  unfold zVY;obtain ⟨h1, h2⟩ := List.nodup_cons.1 hd;cases i with
  | zero => simp at h; subst h; simp
  | succ i =>
   simp at h;have hne : ¬ a = j := fun e => h1 (e ▸ List.mem_of_getElem? h);rw [show Nat.beq a j = false by
    cases hb : Nat.beq a j with
    | false => rfl
    | true => exact absurd (Nat.eq_of_beq_eq_true hb) hne, cond_false, zJx h2 h]
   rfl
section
variable {mm : Nat → List Dat → List Dat} {S : Sum} {N nres idx q r : Nat} {chg : List Nat} {ρ : Rho}
theorem zZ8 {out : List Dat} {i nres : Nat} (h : i < nres) {z : Dat} : (((List.range nres).map fun i => out.getD i (.dB true)) ++ [z]).getD i (.dB true) = out.getD i (.dB true) := by
 rw [List.getD_eq_getElem?_getD, List.getElem?_append_left (by rw [List.length_map, List.length_range]; exact h), List.getElem?_map, List.getElem?_range h]
 rfl
theorem zTa {out : List Dat} {v v' : Nat → Dat} (h : ∀ j, j < N → v j = v' j) : xFP N nres r chg out v = xFP N nres r chg out v' := by
 unfold xFP;rw [show (List.range N).map (zYl N nres chg out v) = (List.range N).map (zYl N nres chg out v') from List.map_congr_left fun j hj => by
  unfold zYl;split
  ·rfl
  ·exact h j (List.mem_range.1 hj)]
theorem zXu (hq : ∀ l, mm q l = zRy mm S N nres idx r chg l) (hN : N ≤ S.m) (hus : S.us.all (fun i => Nat.blt i S.m) = true) (hf : ρ.fn = zCV mm) {σ : Nat → Option Tm} {ρ0 : Rho} (hχ : zOy N σ = true) (hσ : ∀ n, n < S.m → ∃ t, σ n = some t ∧ ρ0.val n = @Tm.den ρ t) (h0 : 0 < N) :
  ∀ i, i < 64 → ρ.fn (64 * q + i) (@Tm.den ρ (zXv N S.m σ)) = (xFP N nres r chg (mm idx (S.us.map ρ0.val)) ρ0.val).getD i (.dB true) := by
 unfold zOy at hχ;split at hχ
 case h_2 => cases hχ
 rename_i D hD;have hall := List.all_eq_true.1 hχ;have hv : ∀ j, j < N → ρ0.val j = (((@Tm.den ρ D).asL.getD 0 []).getD j (.dI 0)) := fun j hj => by
  have h1 := hall j (List.mem_range.2 hj);obtain ⟨t, ht, hv⟩ := hσ j (by omega)
  rw [ht] at h1;rw [hv, Tm.eqv_eq _ _ h1];rfl
 intro i hi;have hx : @Tm.den ρ (zXv N S.m σ) = .dP (@Tm.den ρ D) (zFf ρ0.val ((List.range (S.m - N)).map (N + ·))) := by
  unfold zXv;rw [hD];show Dat.dP _ _ = _;rw [zIk hσ _ (fun i hi => by
   obtain ⟨k, hk, rfl⟩ := List.mem_map.1 hi;have := List.mem_range.1 hk; omega)]
  rfl
 rw [hf, hx];unfold zCV;rw [show (64 * q + i) / 64 = q by omega, show (64 * q + i) % 64 = i by omega, hq]
 unfold zRy;have hval : ∀ n, n < S.m → xFM N (cellsD (.dP (@Tm.den ρ D) (zFf ρ0.val ((List.range (S.m - N)).map (N + ·))))) n = ρ0.val n := fun n hlt => by
  unfold xFM;cases hb : Nat.blt n N with
  | true => rw [cond_true, hv n (zSm hb)]; rfl
  | false =>
   have hb : ¬ n < N := fun h => by rw [zM8 h] at hb; cases hb
   rw [cond_false];show (cellsD (zFf ρ0.val ((List.range (S.m - N)).map (N + ·)))).getD (n - N) (.dI 0) = _;rw [zGV, List.getD_eq_getElem?_getD, List.getElem?_map, List.getElem?_map, List.getElem?_range (by omega)]
   show ρ0.val (N + (n - N)) = _;rw [show N + (n - N) = n by omega]
 rw [show S.us.map (xFM N (cellsD (.dP (@Tm.den ρ D) (zFf ρ0.val ((List.range (S.m - N)).map (N + ·)))))) = S.us.map ρ0.val from List.map_congr_left fun n hn => hval n (by
  have := List.all_eq_true.1 hus n hn;exact zSm this)]
 rw [zTa fun j hj => hval j (by omega)]
theorem xDO (hq : ∀ l, mm q l = zRy mm S N nres idx r chg l) (hN : N ≤ S.m) (hus : S.us.all (fun i => Nat.blt i S.m) = true) (hf : ρ.fn = zCV mm) (h0 : 0 < N) (hd : chg.Nodup) (hl : nres + chg.length ≤ 62) : xEn S (64 * idx) ρ (zXw S (64 * idx) N nres (64 * q) chg) (zOy N) := by
 intro σ ρ0 hf0 hχ hσ n;have hfn := zXu (q := q) (r := r) (nres := nres) (idx := idx) (chg := chg) hq hN hus hf hχ hσ h0;have hsum : ∀ n, S.m ≤ n → ∃ t, zMC S (64 * idx) σ n = some t ∧ (zAc S (64 * idx) ρ0).val n = @Tm.den ρ t := fun n hn => by
  have hb : Nat.blt n S.m = false := by
   cases h : Nat.blt n S.m with
   | false => rfl
   | true => rw [Nat.blt_eq] at h; omega
  unfold zMC;rw [hb];refine ⟨_, rfl, ?_⟩;show (bif Nat.blt n S.m then ρ0.val n else ρ0.fn _ _) = ρ.fn _ (@Tm.den ρ (zYu σ S.us))
  rw [hb, cond_false, hf0, zIk hσ _ (fun i hi => by have := List.all_eq_true.1 hus i hi; simpa [Nat.blt_eq] using this)]
 have hout : ∀ i, i < 64 → S.m ≤ S.m + i → (zAc S (64 * idx) ρ0).val (S.m + i) = (mm idx (S.us.map ρ0.val)).getD i (.dB true) := fun i hi _ => by
  show (bif Nat.blt (S.m + i) S.m then ρ0.val _ else ρ0.fn _ _) = _
  rw [show Nat.blt (S.m + i) S.m = false by
   cases h : Nat.blt (S.m + i) S.m with
   | false => rfl
   | true => rw [Nat.blt_eq] at h; omega, cond_false, hf0, hf]
  unfold zCV;rw [show S.m + i - S.m = i by omega, show (64 * idx + i) / 64 = idx by omega, show (64 * idx + i) % 64 = i by omega, zGV]
 unfold zXw;cases h1 : Nat.blt n N with
 | true =>
  rw [Nat.blt_eq] at h1;rw [cond_true];have hlow : (zAc S (64 * idx) ρ0).val n = ρ0.val n := by
   show (bif Nat.blt n S.m then ρ0.val n else _) = _
   rw [zM8 (show n < S.m by omega), cond_true]
  split
  ·obtain ⟨t, ht, e⟩ := hσ n (by omega)
   exact ⟨t, ht, hlow.trans e⟩
  ·rename_i hp;refine ⟨_, rfl, ?_⟩;rw [hlow];show _ = ((ρ.fn (64 * q) (@Tm.den ρ (zXv N S.m σ))).asL.getD 0 []).getD n (.dI 0);have := hfn 0 (by omega)
   rw [Nat.add_zero] at this;rw [this];show _ = ((List.range N).map (zYl N nres chg (mm idx (S.us.map ρ0.val)) ρ0.val)).getD n (.dI 0);rw [List.getD_eq_getElem?_getD, List.getElem?_map, List.getElem?_range h1];show _ = zYl N nres chg (mm idx (S.us.map ρ0.val)) ρ0.val n;unfold zYl;rw [hp]
 | false =>
  have h1 : N ≤ n := by
   rcases Nat.lt_or_ge n N with h | h
   ·rw [zM8 h] at h1; cases h1
   ·exact h
  rw [cond_false];cases h2 : Nat.blt n S.m with
  | true =>
   rw [Nat.blt_eq] at h2;rw [cond_true];obtain ⟨t, ht, e⟩ := hσ n h2;refine ⟨t, ht, ?_⟩;rw [← e];show (bif Nat.blt n S.m then ρ0.val n else _) = _
   rw [zM8 h2, cond_true]
  | false =>
   have h2 : S.m ≤ n := by
    rcases Nat.lt_or_ge n S.m with h | h
    ·rw [zM8 h] at h2; cases h2
    ·exact h
   rw [cond_false];cases h3 : Nat.blt n (S.m + nres) with
   | true =>
    rw [Nat.blt_eq] at h3;rw [cond_true];refine ⟨_, rfl, ?_⟩;show _ = ρ.fn (64 * q + 1 + (n - S.m)) (@Tm.den ρ (zXv N S.m σ));rw [show 64 * q + 1 + (n - S.m) = 64 * q + (1 + (n - S.m)) by omega, hfn _ (by omega)]
    have := hout (n - S.m) (by omega) (by omega)
    rw [show S.m + (n - S.m) = n by omega] at this
    rw [this, show 1 + (n - S.m) = (n - S.m) + 1 by omega]
    show _ = (((List.range nres).map fun i => (mm idx (S.us.map ρ0.val)).getD i (.dB true)) ++ [(mm idx (S.us.map ρ0.val)).getD r (.dB true)]).getD (n - S.m) (.dB true);rw [zZ8 (by omega)]
   | false =>
    have h3 : S.m + nres ≤ n := by
     rcases Nat.lt_or_ge n (S.m + nres) with h | h
     ·rw [zM8 h] at h3; cases h3
     ·exact h
    rw [cond_false];split
    ·rename_i j hj;have hlen : n - S.m - nres < chg.length := (List.getElem?_eq_some_iff.1 hj).1;cases h4 : Nat.blt j N with
     | false => exact hsum n h2
     | true =>
      rw [Nat.blt_eq] at h4;refine ⟨_, rfl, ?_⟩;show _ = ((ρ.fn (64 * q) (@Tm.den ρ (zXv N S.m σ))).asL.getD 0 []).getD j (.dI 0);have := hfn 0 (by omega)
      rw [Nat.add_zero] at this;rw [this];show _ = ((List.range N).map (zYl N nres chg (mm idx (S.us.map ρ0.val)) ρ0.val)).getD j (.dI 0);rw [List.getD_eq_getElem?_getD, List.getElem?_map, List.getElem?_range h4];show _ = zYl N nres chg (mm idx (S.us.map ρ0.val)) ρ0.val j;unfold zYl;rw [zJx hd hj];show _ = (mm idx (S.us.map ρ0.val)).getD (nres + (n - S.m - nres)) (.dB true);have := hout (n - S.m) (by omega) (by omega)
      rw [show S.m + (n - S.m) = n by omega] at this
      rw [this, show nres + (n - S.m - nres) = n - S.m by omega]
    ·exact hsum n h2
theorem xDP (hq : ∀ l, mm q l = zRy mm S N nres idx r chg l) (hN : N ≤ S.m) (hus : S.us.all (fun i => Nat.blt i S.m) = true) (hf : ρ.fn = zCV mm) (h0 : 0 < N) (hl : nres ≤ 60) (hr : r < 64) : xEp S (64 * idx) r ρ (zXx S N nres (64 * q)) (zOy N) := by
 intro σ ρ0 hf0 hχ hσ ho;have hfn := zXu (q := q) (r := r) (nres := nres) (idx := idx) (chg := chg) hq hN hus hf hχ hσ h0;have e : @Tm.den ρ (zXx S N nres (64 * q) σ) = (mm idx (S.us.map ρ0.val)).getD r (.dB true) := by
  show ρ.fn (64 * q + 1 + nres) (@Tm.den ρ (zXv N S.m σ)) = _;rw [show 64 * q + 1 + nres = 64 * q + (nres + 1) by omega, hfn _ (by omega)]
  show (((List.range nres).map fun i => (mm idx (S.us.map ρ0.val)).getD i (.dB true)) ++ [(mm idx (S.us.map ρ0.val)).getD r (.dB true)]).getD nres (.dB true) = _;rw [List.getD_eq_getElem?_getD, List.getElem?_append_right (by rw [List.length_map, List.length_range]; exact Nat.le_refl _), List.length_map, List.length_range, Nat.sub_self]
  rfl
 rw [e] at ho;rw [hf];unfold zCV;rw [show (64 * idx + r) / 64 = idx by omega, show (64 * idx + r) % 64 = r by omega, zGV]
 exact ho
theorem xDQ (hn : NoCount P) {f : FuncId} (hq : ∀ l, mm q l = zRy mm S N nres idx r chg l) (hN : N ≤ S.m) (hus : S.us.all (fun i => Nat.blt i S.m) = true) (hf : ρ.fn = zCV mm) (h0 : 0 < N) (hd : chg.Nodup) (hl : nres + chg.length ≤ 62) (hn6 : nres ≤ 60) (hr : r < 64)
  (hS : zYp P f S (64 * idx) r (zCV mm)) {args : List AV} {H : Heap} {o : Tm} {v : AV} {H' : Heap} (h : zZL S (64 * idx) N nres (64 * q) chg args H = some (o, v, H')) (ho : (@Tm.den ρ o).asB = true) : @zCM ρ P f args H v H' ∧ LG H H' :=
 zYz hn (xDO (r := r) hq hN hus hf h0 hd hl) (xDP (chg := chg) hq hN hus hf h0 hn6 hr) (by rw [hf]; exact hS) h ho
end
end
end Go.Proofs.YtenkabjkgngcdaaGreat.Ab
