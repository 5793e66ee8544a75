import Derived.Test.YtenkabjkgngcdaaGreatKb1
import Derived.Test.YtenkabjkgngcdaaGreatKc2
import Derived.Test.YtenkabjkgngcdaaGreatKb4
import Derived.Test.YtenkabjkgngcdaaGreatKc4
import Derived.Test.YtenkabjkgngcdaaGreatKc5
import Derived.Test.YtenkabjkgngcdaaGreatKb9
import Derived.Test.YtenkabjkgngcdaaGreatKc7
set_option linter.unusedVariables false
set_option linter.unusedSimpArgs false
set_option linter.unusedSectionVars false
namespace Go.Proofs.YtenkabjkgngcdaaGreat.Ab
open Go
noncomputable section
theorem zJy (k : Nat) : ∀ (f : Nat) (h : UInt8) (m : List UInt8), 0 < (zAx k f h m).length
 | 0, _, _ => Nat.one_pos
 | f + 1, h, m => by
  show 0 < (bif Nat.blt k m.length then _ else _ : List (List UInt8)).length
  cases Nat.blt k m.length with
  | true => exact Nat.succ_pos _
  | false => exact Nat.one_pos
section
variable [ρ : Rho]
end
end
end Go.Proofs.YtenkabjkgngcdaaGreat.Ab
namespace Go.Proofs.YtenkabjkgngcdaaGreat.Ab
open Go
noncomputable section
theorem zTW {ρ : Rho} (hfn : ∀ m n : Dat, (ρ.fn 3520 (.dP m (.dP n (.dB false)))).asL = zA1 m.asS n.asI) {args : List AV} {H H' : Heap} {o : Tm} {v : AV} (hgs : zTY args H = some (o, v, H')) (ho : (@Tm.den ρ o).asB = true) : @zCM ρ Tryz.prog 107 args H v H' ∧ LG H H' := by
 letI : Rho := ρ
 unfold zTY at hgs;split at hgs
 ·rename_i s n;split at hgs
  ·rename_i t k ht hk;cases hgs;rw [zBD, zBD, zAz, zAz, zAz, zA8] at ho;simp only [Bool.and_eq_true] at ho;have h2 : 2 ≤ k.den.asI := of_decide_eq_true ho.1.1;have h3 : k.den.asI ≤ 128 := of_decide_eq_true ho.1.2;have h4 : (t.den.asS.length : Int) ≤ 99999 := of_decide_eq_true ho.2;have hL : (xCl t k).den.asL = zA1 t.den.asS k.den.asI := hfn t.den k.den;have hn : k.den.asI = ((k.den.asI.toNat - 1 : Nat) : Int) + 1 := by omega
   have hp := zJy (k.den.asI.toNat - 1) t.den.asS.length 129 t.den.asS;refine ⟨fun μ w cargs hv r d => ?_, LG.new _ _⟩;obtain ⟨x, l, hx, hl2, rfl⟩ := hv;obtain ⟨y, l2, hy, rfl, rfl⟩ := hl2;obtain rfl := zOX ht hx;obtain rfl := zFJ hk hy;have hs := zKu t.den.asS (k.den.asI.toNat - 1) (by omega) (by omega) (by omega) w
   rw [← hn] at hs;refine hs.mono fun e w' he => ?_;obtain ⟨v, rfl, hrow, hb⟩ := he;unfold zA1 at hL;generalize hps : zAx (k.den.asI.toNat - 1) t.den.asS.length 129 t.den.asS = ps at hrow hp hL;have hlen : (xCl t k).den.asL.length = ps.length := by rw [hL, List.length_map]
   rcases hrow.2 with ⟨_, h0⟩ | ⟨g, cap, cur, rfl, hge, hg, hcap, hmx, hcur, htk⟩
   ·omega
   ·refine ⟨_, _, rfl, ?_, zD1 r d hb _ ⟨g, 0, cap, 1, ps.length, false⟩ hge fun μ' hm => ?_⟩
    ·have e0 : (@Tm.den ρ (.ci 0)).asI = 0 := rfl;have e1 : (@Tm.den ρ (.llen (xCl t k))).asI = (ps.length : Int) := by
      show (((xCl t k).den.asL.length : Nat) : Int) = _;rw [hlen]
     refine ⟨_, ⟨_, _, ⟨⟨g, 0, cap, 1, ps.length, false⟩, if_pos rfl, rfl, Nat.one_pos, by rw [e0]; omega, by rw [e1]; omega, ⟨by rw [e0, e1]; simp, by rw [e0, e1]; simpa using hcap⟩, .inl ⟨rfl, .inl rfl⟩⟩, ⟨_, _, rfl, rfl, rfl⟩, rfl⟩, ?_⟩
     rw [e0, e1];simp
    ·refine ⟨_, hm, ⟨rfl, by rw [hlen]; simp⟩, by simpa using hcap, .inr ⟨rfl, cur, _, 0, 0, hg, fun _ => by simp; omega, fun _ => .inr (Nat.le_refl _), fun i hi j kd hj => ?_⟩⟩
     rw [hlen] at hi;rcases j with _ | j
     ·obtain rfl := Option.some.inj hj;have h0 : cur.toList[i]? = some (.string (S ps[i])) := by
       have h5 := congrArg (·[i]?) htk;simp only [Nat.mul_one, List.getElem?_take, if_pos hi, List.getElem?_map, List.getElem?_eq_getElem hi, Option.map_some] at h5;exact h5
      have h1 : (xCl t k).den.asL.getD i [] = [.dS ps[i]] := by
       rw [hL, List.getD_eq_getElem?_getD, List.getElem?_map, List.getElem?_eq_getElem hi]; rfl
      rw [h1];have h6 : cur[0 + (i * 1 + 0)]? = some (Value.string (S ps[i])) := by simpa using h0
      exact h6
     ·simp at hj
  ·cases hgs
 ·cases hgs
theorem zXd (m n : Dat) : (fnC 3520 (.dP m (.dP n (.dB false)))).asL = zA1 m.asS n.asI := by
 show (zCV xFT 3520 (.dP m (.dP n (.dB false)))).asL = _;rfl
end
end Go.Proofs.YtenkabjkgngcdaaGreat.Ab
namespace Go.Proofs.YtenkabjkgngcdaaGreat.Ab
open Go
noncomputable section
theorem zA6 {ρ : Rho} (hf : ρ.fn = fnC) {f : FuncId} {S : Sum} {base r : Nat} (hS : zYp Tryz.prog f S base r fnC) : CG ρ f (zFX S base r) := fun args H o v H' _ h ho => xCi zCq (by rw [hf]; exact hS) h ho
theorem zBR : ∀ ρ0 : Rho, ρ0.fn = fnC → @EnvOK ρ0 Tryz.prog none0 := fun ρ0 _ => by letI : Rho := ρ0; exact zZk
section
variable {P : Program} {env : Env} {f : FuncId} {S : Sum} {base r M : Nat} {t : Tree (Option Eqs)}
theorem SumOK.toC (h : SumOK P env f S base r (zCV zEf)) (e : S.tree P env f = t) (hc : zO0 M 2048 t = true) (hM : S.m ≤ M) (hb : base + (M - S.m) ≤ 2048) (hr : base + r < 2048) : SumOK P env f S base r fnC :=
 h.change (M := M) (B := 2048) (by rw [e]; exact hc) hM (fun k d hk => xDE hk) hb hr
end
theorem zQr {ρ : Rho} (hf : ρ.fn = fnC) : TabOK ρ xHC := ⟨zA6 hf (SumOK.all zBR ((xHd zTU).toC (M := 64) zTU (by kernel_rfl) (by decide) (by decide) (by decide))), zA6 hf (SumOK.all zBR ((xEP zTP).toC (M := 64) zTP (by kernel_rfl) (by decide) (by decide) (by decide))), trivial⟩
theorem zJU : ∀ ρ0 : Rho, ρ0.fn = fnC → @EnvOK ρ0 Tryz.prog xH4 := fun ρ0 hf => zET (zQr hf)
theorem zYx {ρ : Rho} (hf : ρ.fn = fnC) : TabOK ρ xIJ := ⟨zA6 hf (SumOK.all zJU ((xEi zQ3).toC (M := 64) zQ3 (by kernel_rfl) (by decide) (by decide) (by decide))), zA6 hf (SumOK.all zBR ((zZO zMJ).toC (M := 64) zMJ (by kernel_rfl) (by decide) (by decide) (by decide))), zA6 hf (SumOK.all zJU ((xAk zMK).toC (M := 64) zMK (by kernel_rfl) (by decide) (by decide) (by decide))), zA6 hf (SumOK.all zJU ((xBJ zQu).toC (M := 64) zQu (by kernel_rfl) (by decide) (by decide) (by decide))), zA6 hf (SumOK.all zBR ((xBl zL7).toC (M := 64) zL7 (by kernel_rfl) (by decide) (by decide) (by decide))), zQr hf⟩
theorem zEV : ∀ ρ0 : Rho, ρ0.fn = fnC → @EnvOK ρ0 Tryz.prog xE4 := fun ρ0 hf => zET (zYx hf)
theorem zI3 {ρ : Rho} (hf : ρ.fn = fnC) : TabOK ρ xEt := ⟨zA6 hf (SumOK.all zBR ((xBl zL7).toC (M := 64) zL7 (by kernel_rfl) (by decide) (by decide) (by decide))), zA6 hf (SumOK.all zEV ((xCZ zQv).toC (M := 64) zQv (by kernel_rfl) (by decide) (by decide) (by decide))), zA6 hf (SumOK.all zEV ((xDg zQw).toC (M := 64) zQw (by kernel_rfl) (by decide) (by decide) (by decide))), zA6 hf (SumOK.all zEV ((xD1 zQx).toC (M := 64) zQx (by kernel_rfl) (by decide) (by decide) (by decide))), zA6 hf (SumOK.all zEV ((xBB zQs).toC (M := 64) zQs (by kernel_rfl) (by decide) (by decide) (by decide))), zA6 hf (SumOK.all zEV ((xBH zQt).toC (M := 64) zQt (by kernel_rfl) (by decide) (by decide) (by decide))),
 fun _ _ _ _ _ _ h ho => zP4 h, fun _ _ _ _ _ _ h ho => zZB h, fun _ _ _ _ _ _ h ho => xCX h, fun _ _ _ _ _ _ h ho => xD3 h, fun _ _ _ _ _ _ h ho => zWv h ho,
 fun _ _ _ _ _ _ h ho => xCV h, fun _ _ _ _ _ _ h ho => zZm h, fun _ _ _ _ _ _ h ho => zX7 h, fun _ _ _ _ _ _ h ho => zWu h ho, fun _ _ _ _ _ _ h ho => zSc h ho, trivial⟩
theorem zGM : ∀ ρ0 : Rho, ρ0.fn = fnC → @EnvOK ρ0 Tryz.prog zZF := fun ρ0 hf => zET (zI3 hf)
theorem TabOK.app {ρ : Rho} : ∀ {l m : List (Nat × zM9)}, TabOK ρ l → TabOK ρ m → TabOK ρ (l ++ m)
 | [], _, _, h => h
 | _ :: _, _, hl, h => ⟨hl.1, TabOK.app hl.2 h⟩
theorem xBO {ρ : Rho} (hf : ρ.fn = fnC) : TabOK ρ xIH := ⟨zA6 hf (SumOK.all zBR zWI), zA6 hf (SumOK.all zBR zTd), zA6 hf (SumOK.all zBR zZ0), zA6 hf (SumOK.all zBR zWL), trivial⟩
theorem zQo {ρ : Rho} (hf : ρ.fn = fnC) : TabOK ρ xBM := ⟨zA6 hf (SumOK.all zGM zSg), zA6 hf (SumOK.all zGM xEd), TabOK.app (xBO hf) (zI3 hf)⟩
theorem zJT : ∀ ρ0 : Rho, ρ0.fn = fnC → @EnvOK ρ0 Tryz.prog zPO := fun ρ0 hf => zET (zQo hf)
theorem zQm {ρ : Rho} (hf : ρ.fn = fnC) : TabOK ρ xBL := ⟨zA6 hf (SumOK.all zJT xAe), zQo hf⟩
theorem zJQ : ∀ ρ0 : Rho, ρ0.fn = fnC → @EnvOK ρ0 Tryz.prog zPG := fun ρ0 hf => zET (zQm hf)
theorem zYw {ρ : Rho} (hf : ρ.fn = fnC) : TabOK ρ xEU := ⟨zA6 hf (SumOK.all zJT zO3), zA6 hf (SumOK.all zJQ zT4), zQm hf⟩
theorem zOi : ∀ ρ0 : Rho, ρ0.fn = fnC → @EnvOK ρ0 Tryz.prog zXp := fun ρ0 hf => zET (zYw hf)
end
end Go.Proofs.YtenkabjkgngcdaaGreat.Ab
