import Derived.Test.YtenkabjkgngcdaaGreatKb0
set_option linter.unusedVariables false
set_option linter.unusedSimpArgs false
set_option linter.unusedSectionVars false
namespace Go.Proofs.YtenkabjkgngcdaaGreat.Ab
open Go Go.Proofs.YtenkabjkgngcdaaGreat Go.RowKit
noncomputable section
theorem zMu [ρ : Rho] {μ : Mu} {H : Heap} {w w' : World} (r : Rep μ H.get w) (d : Dom μ H.next) {id : Nat} {o o' : AObj} (hg : H.get id = some o) (hown : owned o = true)
  {l : Loc} (hl : μ id = some l ∧ l.nil = false) (hk : ∀ b, b < w.heap.size → b ≠ l.b → w'.heap[b]? = w.heap[b]?) (hs : w.heap.size ≤ w'.heap.size) (hos : w'.os = w.os) (htp : w'.tape = w.tape) (hou : w'.output = w.output)
  (ho : RepO μ id w' o') : Evo μ H.get H.next w μ (H.upd id o').get (H.upd id o').next w' := by
 have hgu : ∀ j, (H.upd id o').get j = if j = id then some o' else H.get j := fun j => by rw [zH2, hg]; rfl
 refine ⟨Ext.refl μ, ⟨fun j oj h => ?_, fun i j oi oj li lj h1 h2 hij hoo h3 h4 z1 z2 => ?_⟩, Nat.le_refl _, d, fun j m h1 h2 => (by rw [h2] at h1; cases h1), fun b hlt hm => hk b hlt fun hb => hm ⟨id, o, l, hg, hown, hl, hb.symm⟩, fun b m _ => ?_, fun j oj h => ?_, hs, hos, htp, hou⟩
 ·rw [hgu] at h;split at h
  ·rename_i e; cases h; subst e; exact ho
  ·rename_i e;obtain ⟨l', hl', hlt⟩ := (r.obj j oj h).mu;refine (r.obj j oj h).keep (Ext.refl μ) fun m hm hz => ?_;rw [hl'] at hm; cases hm;exact hk _ (hlt hz) fun hb => r.inj j id oj o l' l h hg e (.inr hown) hl' hl.1 hz hl.2 hb
 ·rw [hgu] at h1 h2;split at h1
  ·rename_i e1;split at h2
   ·rename_i e2; omega
   ·subst e1;rw [hl.1] at h3; cases h3;exact r.inj i j o oj l lj hg h2 hij (.inl hown) hl.1 h4 z1 z2
  ·split at h2
   ·rename_i e2; subst e2;rw [hl.1] at h4; cases h4;exact r.inj i j oi o li l h1 hg hij (.inr hown) h3 hl.1 z1 z2
   ·exact r.inj i j oi oj li lj h1 h2 hij hoo h3 h4 z1 z2
 ·obtain ⟨j, oj, m, h1, h2, h3, h4⟩ := m;rw [hgu] at h1;split at h1
  ·rename_i e; subst e;rw [hl.1] at h3;obtain ⟨h3, _⟩ := h3;cases h3;exact ⟨j, o, l, hg, hown, hl, h4⟩
  ·exact ⟨j, oj, m, h1, h2, h3, h4⟩
 ·rw [hgu] at h;split at h
  ·rename_i e; subst e; exact .inl ⟨o, hg⟩
  ·exact .inl ⟨oj, h⟩
def xCY : List AV → Heap → Option (Tm × AV × Heap)
 | [.ptr id 0, s], H => match H.get id, xEY s with
  | some (.abs 1 (.pair R h)), some t => some (.cb true, mkI .i64 (zCP (zKl t (.ci 0) (zS2 R (zCP h)))), H.upd id (.abs 1 (.pair R (xH6 h (zKl t (.ci 0) (zS2 R (zCP h)))))))
  | _, _ => none
 | _, _ => none
theorem zGU (s : List UInt8) (m : Int) : zBl s 0 m = s.take m.toNat := by simp [zBl]
theorem xCX {ρ : Rho} {args : List AV} {H H' : Heap} {o : Tm} {v : AV} (h : xCY args H = some (o, v, H')) : zCM Tryz.prog 131 args H v H' ∧ LG H H' := by
 letI : Rho := ρ
 unfold xCY at h;split at h
 ·rename_i id s H;split at h
  ·rename_i R hd t hg hs;cases h;refine ⟨fun μ w cargs hv r d => ?_, LG.upd _ _ _⟩;obtain ⟨x, l', ⟨l, hl, rfl⟩, ⟨y, l2, hy, rfl, rfl⟩, rfl⟩ := hv;obtain rfl := zOX hs hy;obtain ⟨e1, e2, e3, e4, e5, room, fr, s0, c, e, lo, hi, d1, d2, hb, hr⟩ := zIx r hg hl;rw [e1];have hk : zBl t.den.asS 0 (R.den.asI - (hd.den.asS.length : Int)) = t.den.asS.take (room - s0.length) := by
    rw [zGU, d1, d2];congr 1; have := hr.n; omega
   have hp : (zKl t (.ci 0) (zS2 R (zCP hd))).den = .dS (t.den.asS.take (room - s0.length)) := by
    rw [zFd, zL9, zA8, ← hk]; rfl
   refine (xFC t.den.asS s0 l.b room fr w c e lo hi hb hr).mono fun e' w' he => ?_;obtain ⟨rfl, c', hb', hr'⟩ := he;refine ⟨μ, _, rfl, ?_, ?_⟩
   ·have := @zCO ρ μ .i64 (zCP (zKl t (.ci 0) (zS2 R (zCP hd))));rw [zA8, hp] at this;have e8 : ((Dat.dI ((Dat.dS (t.den.asS.take (room - s0.length))).asS.length : Int)).asI) = ((min t.den.asS.length (room - s0.length) : Nat) : Int) := by
     show (((t.den.asS.take (room - s0.length)).length : Nat) : Int) = _;rw [List.length_take]; omega
    rw [e8] at this;exact this
   ·refine zMu r d hg rfl ⟨hl, e2⟩ (fun b _ hb2 => hb'.block b hb2) (Nat.le_of_eq hb'.size.symm) hb'.os hb'.tape hb'.output (zSl hl e1 e2 e3 e4 e5 d1 ?_ hb' hr');rw [zSp, hp, d2];rfl
  ·cases h
 ·cases h
def xD4 : List AV → Heap → Option (Tm × AV × Heap)
 | [.ptr id 0, m], H => match H.get id, zTi m with
  | some (.abs 1 (.pair R h)), some t => some (.cb true, mkS (zKl h (.ci 0) t), H.upd id (.abs 1 (.pair R (zKl h (zCP (zKl h (.ci 0) t)) (zCP h)))))
  | _, _ => none
 | _, _ => none
theorem xD3 {ρ : Rho} {args : List AV} {H H' : Heap} {o : Tm} {v : AV} (h : xD4 args H = some (o, v, H')) : zCM Tryz.prog 30 args H v H' ∧ LG H H' := by
 letI : Rho := ρ
 unfold xD4 at h;split at h
 ·rename_i id m H;split at h
  ·rename_i R hd t hg hs;cases h;refine ⟨fun μ w cargs hv r d => ?_, LG.upd _ _ _⟩;obtain ⟨x, l', ⟨l, hl, rfl⟩, ⟨y, l2, hy, rfl, rfl⟩, rfl⟩ := hv;obtain rfl := zFJ hs hy;obtain ⟨e1, e2, e3, e4, e5, room, fr, s0, c, e, lo, hi, d1, d2, hb, hr⟩ := zIx r hg hl;rw [e1];have hp : (zKl hd (.ci 0) t).den = .dS (s0.take t.den.asI.toNat) := by
    rw [zFd, d2, ← zGU]; rfl
   refine (xGe s0 t.den.asI l.b room fr w c e lo hi hb hr).mono fun e' w' he => ?_;obtain ⟨rfl, c', fr', ⟨w1, hB, hb'⟩, hr'⟩ := he;refine ⟨μ, _, rfl, ?_, ?_⟩
   ·have := @zRz ρ μ (zKl hd (.ci 0) t);rw [hp] at this;exact this
   ·refine zMu r d hg rfl ⟨hl, e2⟩ (fun b hlt hb2 => (hb'.block b hb2).trans (hB.block b hlt)) (Nat.le_trans hB.size (Nat.le_of_eq hb'.size.symm)) (hb'.os.trans hB.os) (hb'.tape.trans hB.tape) (hb'.output.trans hB.output) (zSl hl e1 e2 e3 e4 e5 d1 ?_ hb' hr');rw [zFd, zA8, zA8, hp, d2];show zBl s0 (((s0.take t.den.asI.toNat).length : Nat) : Int) (s0.length : Int) = _;unfold zBl;simp only [Int.toNat_natCast, List.length_take];rw [List.take_of_length_le (by simp)]
    by_cases h : t.den.asI.toNat ≤ s0.length
    ·rw [show min t.den.asI.toNat s0.length = t.den.asI.toNat by omega]
    ·rw [List.drop_eq_nil_of_le (by omega), List.drop_eq_nil_of_le (by omega)]
  ·cases h
 ·cases h
end
end Go.Proofs.YtenkabjkgngcdaaGreat.Ab
