import Derived.Test.YtenkabjkgngcdaaGreatKa4
import Derived.Test.YtenkabjkgngcdaaGreatKa5
import Derived.Test.YtenkabjkgngcdaaGreatKa6
set_option linter.unusedVariables false
set_option linter.unusedSimpArgs false
set_option linter.unusedSectionVars false
namespace Go.Proofs.YtenkabjkgngcdaaGreat.Ab
open Go
noncomputable section
def zSe : List AV → Heap → Option (Tm × AV × Heap)
 | [s], H => match tmS s with
  | some t => some (zFA .leq .i64 (zCP t) (.ci 281474976710656), mkS t, H)
  | none => none
 | _, _ => none
def zTZ : List AV → Heap → Option (Tm × AV × Heap)
 | [s, .int .i64 n], H => match tmS s with
  | some t => bif Nat.ble 2 n.toNat && Nat.ble n.toNat 128 then some (zFA .leq .i64 (zCP t) (.ci (n - 1)), .tuple [.slice H.next 0 1 (.unk 1), .int .i64 0], H.new (.row [mkS (zY6 .add (.cs [193]) t)] true true)) else none
  | none => none
 | _, _ => none
section
variable [ρ : Rho]
theorem xJy {t : Tm} {n : Int} (ho : (zFA .leq .i64 (zCP t) (.ci n)).den.asB = true) : (t.den.asS.length : Int) ≤ n := by
 rw [zAz, zA8] at ho;have ho' : decide ((t.den.asS.length : Int) ≤ n) = true := ho;simpa using ho'
theorem zSd {μ : Mu} (t : Tm) : VR μ (mkS t) (.string ⟨t.den.asS.toArray⟩) := by
 cases t <;> rfl
theorem zSc {args : List AV} {H H' : Heap} {o : Tm} {v : AV} (hgs : zSe args H = some (o, v, H')) (ho : o.den.asB = true) : zCM Tryz.prog 146 args H v H' ∧ LG H H' := by
 unfold zSe at hgs;split at hgs
 ·split at hgs
  ·rename_i t ht;cases hgs;have hl := xJy ho;refine ⟨zO6 fun μ cargs w hv => ?_, LG.refl _⟩;obtain ⟨x, l, hx, rfl, rfl⟩ := hv;obtain rfl := hx.tmS ht;exact (zLA ⟨t.den.asS.toArray⟩ w (by show t.den.asS.toArray.size ≤ _; rw [List.size_toArray]; omega)).mono fun e w' he => ⟨_, he.1, zSd t, he.2⟩
  ·cases hgs
 ·cases hgs
theorem xBF {f : FuncId} (h : ∀ w, Calls Tryz.prog f #[] w fun e w' => e = .returned (.bool true) ∧ RowKit.Below w.heap.size w w') {args : List AV} {H H' : Heap} {o : Tm} {v : AV} (hgs : xBG args H = some (o, v, H')) : zCM Tryz.prog f args H v H' ∧ LG H H' := by
 unfold xBG at hgs;split at hgs
 ·cases hgs; exact ⟨zYr h, LG.refl _⟩
 ·cases hgs
theorem zD1 {μ : Mu} {H : Heap} {w w' : World} (r : Rep μ H.get w) (d : Dom μ H.next) (p : RowKit.Below w.heap.size w w') (o : AObj) (l : Loc)
  (hb : w.heap.size ≤ l.b) (ho : ∀ μ', μ' H.next = some l → RepO μ' H.next w' o) :
  Evo μ H.get H.next w (setMu μ H.next l) (H.new o).get (H.new o).next w' := by
 have hd := d H.next (Nat.le_refl _);have he : Ext μ (setMu μ H.next l) := Ext.set hd;have hne : ∀ {id o}, H.get id = some o → id ≠ H.next := fun h => Nat.ne_of_lt (r.lt d h);refine ⟨he, ⟨fun id o h => ?_, fun i j oi oj li lj h1 h2 hij ho h3 h4 z1 z2 => ?_⟩, Nat.le_succ _, fun id h => ?_, fun id m h1 h2 => ?_, fun b h _ => p.block b h, fun b m h => ?_, fun id o h => ?_, p.size, p.os, p.tape, p.output⟩
 ·rw [zBi] at h;split at h
  ·rename_i hid;cases h; subst hid;exact ho _ (by simp [setMu])
  ·refine (r.obj id o h).keep he fun m hm hz => ?_;obtain ⟨m', hm', hlt⟩ := (r.obj id o h).mu;rw [hm] at hm'; cases hm';exact p.block _ (hlt hz)
 ·rw [zBi] at h1 h2;have hb' : ∀ {k ok lk}, H.get k = some ok → setMu μ H.next l k = some lk → lk.nil = false → lk.b < w.heap.size := fun {k ok lk} h h' hz => by
   obtain ⟨m', hm', hlt⟩ := (r.obj k ok h).mu;simp [setMu, hne h] at h';rw [h'] at hm'; cases hm'; exact hlt hz
  split at h1
  ·rename_i hi;rw [if_neg (by omega)] at h2
   have h5 := hb' h2 h4 z2;simp [setMu, hi] at h3; subst h3; omega
  ·split at h2
   ·rename_i hj;have h5 := hb' h1 h3 z1;simp [setMu, hj] at h4; subst h4; omega
   ·simp [setMu, hne h1] at h3;simp [setMu, hne h2] at h4;exact r.inj i j oi oj li lj h1 h2 hij ho h3 h4 z1 z2
 ·have : H.next < id := h;simp [setMu, Nat.ne_of_gt this];exact d id (by omega)
 ·unfold setMu at h1;split at h1
  ·rename_i hid; cases h1; exact ⟨by omega, .inr (.inl (by omega))⟩
  ·rw [h2] at h1; cases h1
 ·obtain ⟨j, o, m, h1, h2, ⟨h3, hz⟩, h4⟩ := m;rw [zBi] at h1;split at h1
  ·rename_i hj;simp [setMu, hj] at h3; subst h3; omega
  ·simp [setMu, hne h1] at h3;exact ⟨j, o, m, h1, h2, ⟨h3, hz⟩, h4⟩
 ·rw [zBi] at h;split at h
  ·exact .inr (by omega)
  ·exact .inl ⟨o, h⟩
theorem zY3 {args : List AV} {H H' : Heap} {o : Tm} {v : AV} (hgs : zTZ args H = some (o, v, H')) (ho : o.den.asB = true) : zCM Tryz.prog 107 args H v H' ∧ LG H H' := by
 unfold zTZ at hgs;split at hgs
 ·rename_i H s n;split at hgs
  ·rename_i t ht;cases hc : (Nat.ble 2 n.toNat && Nat.ble n.toNat 128) with
   | false => rw [hc] at hgs; cases hgs
   | true =>
    rw [hc] at hgs; cases hgs;rw [Bool.and_eq_true] at hc;have h2 := Nat.le_of_ble_eq_true hc.1;have h3 := Nat.le_of_ble_eq_true hc.2;have hl := xJy ho;refine ⟨fun μ w cargs hv r d => ?_, LG.new _ _⟩;obtain ⟨x, l, hx, hl2, rfl⟩ := hv;obtain ⟨y, l2, hy, rfl, rfl⟩ := hl2;obtain rfl := hx.tmS ht;obtain rfl : y = .int .i64 n := hy;refine (zML t.den.asS n (by omega) (by omega) hl w).mono fun e w' he => ?_
    obtain ⟨v, rfl, hrow, hb⟩ := he;obtain ⟨g, cap, rfl⟩ := ownsRow_succ hrow;rcases hrow.2 with ⟨_, h0⟩ | ⟨g', cap', cur, he', hge, hg, hcap, hmx, hcur, htk⟩
    ·omega
    ·simp only [Value.slice.injEq, Option.some.injEq, Addr.mk.injEq] at he';obtain ⟨⟨rfl, _⟩, _, rfl⟩ := he';refine ⟨_, _, rfl, ?_, zD1 r d hb _ ⟨g, 0, cap, 1, 1, false⟩ hge fun μ' hm => ?_⟩
     ·exact ⟨_, ⟨_, _, ⟨⟨g, 0, cap, 1, 1, false⟩, if_pos rfl, Nat.one_pos, rfl, rfl, Nat.le_refl _, .inl rfl⟩, ⟨_, _, rfl, rfl, rfl⟩, rfl⟩, rfl⟩
     ·refine ⟨_, cur, _, 0, 0, ⟨hm, rfl⟩, hg, rfl, by simp; omega, by simp; omega, fun _ => .inr (Nat.le_refl _), fun i x hx => ?_⟩
      match i, hx with
      | 0, hx =>
       simp only [List.getElem?_cons_zero, Option.some.injEq] at hx;subst hx;refine ⟨?_, .string (S (193 :: t.den.asS)), ?_, ?_⟩
       ·cases (zY6 .add (.cs [193]) t) <;> rfl
       ·have h0 : cur.toList[0]? = some (.string (S (193 :: t.den.asS))) := by
         have := congrArg (·[0]?) htk;simpa [List.getElem?_take] using this
        simpa using h0
       ·have := zSd (μ := μ') (zY6 .add (.cs [193]) t);rw [zGd] at this;exact this
      | i + 1, hx => simp at hx
  ·cases hgs
 ·cases hgs
def xI0 : Env := ⟨fun f => bif Nat.beq f 107 then some zTZ else bif Nat.beq f 146 then some zSe else none, fun _ _ => none⟩
theorem xDM : EnvOK Tryz.prog xI0 := zM4 (fun f g hg args H o v H' _ hgs ho => by
 simp only [xI0] at hg;cases h0 : Nat.beq f 107 with
 | true =>
  simp only [h0, cond_true, Option.some.injEq] at hg; subst hg;obtain rfl := Nat.eq_of_beq_eq_true h0;exact zY3 hgs ho
 | false =>
  cases h1 : Nat.beq f 146 with
  | true =>
   simp only [h0, h1, cond_true, cond_false, Option.some.injEq] at hg; subst hg;obtain rfl := Nat.eq_of_beq_eq_true h1;exact zSc hgs ho
  | false => simp [h0, h1] at hg) fun _ _ => rfl
end
set_option maxRecDepth 100000 in
theorem zSt : Tree.allT (zCD Tryz.prog xI0 1000 8 [] heap0 fun v _ => .leaf v) = true := by kernel_rfl
set_option maxRecDepth 100000 in
theorem zOQ [ρ : Rho] (w : World) : Calls Tryz.prog 8 #[] w fun e w' => e = .returned (.bool true) ∧ RowKit.Below w.heap.size w w' :=
 zO5 (zC5 zCq xDM 1000) (args := []) (Tree.allT_ok _ zSt) (cargs := []) rfl w
end
end Go.Proofs.YtenkabjkgngcdaaGreat.Ab
