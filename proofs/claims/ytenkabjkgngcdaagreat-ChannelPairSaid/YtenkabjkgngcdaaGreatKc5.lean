import Derived.Test.YtenkabjkgngcdaaGreatKc4
import Derived.Test.YtenkabjkgngcdaaGreatKa4
set_option linter.unusedVariables false
set_option linter.unusedSimpArgs false
set_option linter.unusedSectionVars false
namespace Go.Proofs.YtenkabjkgngcdaaGreat.Ab
open Go
noncomputable section
abbrev fFl : FuncId := 51
abbrev flX : Tm := (tp [vt 4, vt 5, vt 6, vt 7, vt 8, vt 9, vt 10, vt 11, vt 12, vt 13, vt 14, vt 15, vt 16, vt 17, vt 18, vt 19, vt 20, vt 21, vt 22, vt 23, vt 24, vt 25, vt 26, vt 27, vt 29, vt 31, vt 33, vt 34, vt 35, vt 36, vt 41, vt 45, vt 46, vt 50, vt 51, vt 52, vt 68])
def TFl : St := ⟨78, [(0, .ptr 0 0), (1, bv 68)], ⟨13, [(0, .row [.ptr 1 0, .ptr 2 0, .ptr 4 0, .ptr 5 0, .ptr 6 0, .ptr 7 0, .ptr 9 0, bv 39, bv 40, iv 41, iv 42, iv 43, iv 44, iv 45, iv 46, uv 47, uv 48, bv 49, .sslice 12 1 (vt 77) (vt 78), iv 53, uv 54, bv 55, uv 56, bv 57, uv 58, uv 59, .sstr (vt 60), uv 61, bv 62, uv 63, bv 64, uv 65, uv 66, .sstr (vt 67)] true false), (1, .row [uv 0, bv 1, iv 2, iv 3] true true), (2, .row [uv 4, uv 5, uv 6, iv 7, iv 8, iv 9, iv 69, bv 11, bv 12, bv 13, bv 14, bv 15, bv 16, iv 17, iv 18, iv 19, .sslice 11 1 (vt 70) (vt 71), iv 23, bv 24, bv 25, bv 26, bv 27] true false), (11, .seq [.ks] (vt 72) true), (4, .row [bv 28] true true), (5, .row [iv 73, iv 30] true true), (6, .row [iv 31, iv 32, iv 74] true true), (7, .row [.sslice 8 1 (.ci 0) (vt 36), iv 75, .sint .i64 (.len (vt 76))] true false), (8, .abs 2 (.pair (vt 75) (.pair (vt 36) (vt 76)))), (9, .abs 1 (.pair (vt 37) (vt 38))), (12, .seq [.ks] (vt 79) true)], [], []⟩, []⟩
def FFl : St := ⟨78, [], ⟨13, [(0, .row [.ptr 1 0, .ptr 2 0, .ptr 4 0, .ptr 5 0, .ptr 6 0, .ptr 7 0, .ptr 9 0, bv 39, bv 40, iv 41, iv 42, iv 43, iv 44, iv 45, iv 46, uv 47, uv 48, bv 49, .sslice 12 1 (.app 3272 flX) (.app 3273 flX), iv 53, uv 54, bv 55, uv 56, bv 57, uv 58, uv 59, .sstr (vt 60), uv 61, bv 62, uv 63, bv 64, uv 65, uv 66, .sstr (vt 67)] true false), (1, .row [uv 0, bv 1, iv 2, iv 3] true true), (2, .row [uv 4, uv 5, uv 6, iv 7, iv 8, iv 9, .sint .i64 (.app 3264 flX), bv 11, bv 12, bv 13, bv 14, bv 15, bv 16, iv 17, iv 18, iv 19, .sslice 11 1 (.app 3265 flX) (.app 3266 flX), iv 23, bv 24, bv 25, bv 26, bv 27] true false), (11, .seq [.ks] (.app 3267 flX) true), (4, .row [bv 28] true true), (5, .row [.sint .i64 (.app 3268 flX), iv 30] true true), (6, .row [iv 31, iv 32, .sint .i64 (.app 3269 flX)] true true), (7, .row [.sslice 8 1 (.ci 0) (vt 36), .sint .i64 (.app 3270 flX), .sint .i64 (.len (.app 3271 flX))] true false), (8, .abs 2 (.pair (.app 3270 flX) (.pair (vt 36) (.app 3271 flX)))), (9, .abs 1 (.pair (vt 37) (vt 38))), (12, .seq [.ks] (.app 3274 flX) true)], [], []⟩, []⟩
def sFl (i : Nat) : Option Tm := bif Nat.blt i 69 then none else ([vt 10, vt 20, vt 21, vt 22, vt 29, vt 33, vt 34, vt 35, vt 50, vt 51, vt 52] : List Tm)[i - 69]?
def gFl (x : AX) : LpG := zWA 11 69 TFl FFl sFl x
def zZJ (g : LpG) : Env := ⟨zBP xBK, zWw fFl 0 g⟩
set_option maxRecDepth 100000 in
theorem xFZ : keyAt Tryz.prog fFl 0 0 = true := by kernel_rfl
end
end Go.Proofs.YtenkabjkgngcdaaGreat.Ab
namespace Go.Proofs.YtenkabjkgngcdaaGreat.Ab
open Go
def clo (m B : Nat) : Tm → Bool
 | .var n => Nat.blt n m
 | .cb _ => true
 | .ci _ => true
 | .cs _ => true
 | .ib _ _ x y => clo m B x && clo m B y
 | .sb _ x y => clo m B x && clo m B y
 | .beq x y => clo m B x && clo m B y
 | .not x => clo m B x
 | .and x y => clo m B x && clo m B y
 | .wrap _ x => clo m B x
 | .ite c x y => clo m B c && clo m B x && clo m B y
 | .len x => clo m B x
 | .oct x => clo m B x
 | .at x y => clo m B x && clo m B y
 | .cut x y z => clo m B x && clo m B y && clo m B z
 | .llen x => clo m B x
 | .lget x y _ => clo m B x && clo m B y
 | .plus x y => clo m B x && clo m B y
 | .minus x y => clo m B x && clo m B y
 | .pair x y => clo m B x && clo m B y
 | .app k x => Nat.blt k B && clo m B x
 | .lapp x y => clo m B x && clo m B y
 | .row x => clo m B x
 | .flat x => clo m B x
 | .lput x y z => clo m B x && clo m B y && clo m B z
 | .lcut x y z => clo m B x && clo m B y && clo m B z
def Agr (m B : Nat) (ρ ρ' : Rho) : Prop := (∀ n, n < m → ρ.val n = ρ'.val n) ∧ ∀ k d, k < B → ρ.fn k d = ρ'.fn k d
theorem zAr {m B : Nat} {ρ ρ' : Rho} (h : Agr m B ρ ρ') : ∀ (t : Tm), clo m B t = true → @Tm.den ρ t = @Tm.den ρ' t
 | .var n, hc => h.1 n (by simpa [clo] using hc)
 | .cb _, _ => rfl
 | .ci _, _ => rfl
 | .cs _, _ => rfl
 | .ib _ _ x y, hc => by
  simp only [clo, Bool.and_eq_true] at hc;simp only [Tm.den, zAr h x hc.1, zAr h y hc.2]
 | .sb _ x y, hc => by
  simp only [clo, Bool.and_eq_true] at hc;simp only [Tm.den, zAr h x hc.1, zAr h y hc.2]
 | .beq x y, hc => by
  simp only [clo, Bool.and_eq_true] at hc;simp only [Tm.den, zAr h x hc.1, zAr h y hc.2]
 | .not x, hc => by
  simp only [clo] at hc;simp only [Tm.den, zAr h x hc]
 | .and x y, hc => by
  simp only [clo, Bool.and_eq_true] at hc;simp only [Tm.den, zAr h x hc.1, zAr h y hc.2]
 | .wrap _ x, hc => by
  simp only [clo] at hc;simp only [Tm.den, zAr h x hc]
 | .ite c x y, hc => by
  simp only [clo, Bool.and_eq_true] at hc;simp only [Tm.den, zAr h c hc.1.1, zAr h x hc.1.2, zAr h y hc.2]
 | .len x, hc => by
  simp only [clo] at hc;simp only [Tm.den, zAr h x hc]
 | .oct x, hc => by
  simp only [clo] at hc;simp only [Tm.den, zAr h x hc]
 | .at x y, hc => by
  simp only [clo, Bool.and_eq_true] at hc;simp only [Tm.den, zAr h x hc.1, zAr h y hc.2]
 | .cut x y z, hc => by
  simp only [clo, Bool.and_eq_true] at hc;simp only [Tm.den, zAr h x hc.1.1, zAr h y hc.1.2, zAr h z hc.2]
 | .llen x, hc => by
  simp only [clo] at hc;simp only [Tm.den, zAr h x hc]
 | .lget x y _, hc => by
  simp only [clo, Bool.and_eq_true] at hc;simp only [Tm.den, zAr h x hc.1, zAr h y hc.2]
 | .plus x y, hc => by
  simp only [clo, Bool.and_eq_true] at hc;simp only [Tm.den, zAr h x hc.1, zAr h y hc.2]
 | .minus x y, hc => by
  simp only [clo, Bool.and_eq_true] at hc;simp only [Tm.den, zAr h x hc.1, zAr h y hc.2]
 | .pair x y, hc => by
  simp only [clo, Bool.and_eq_true] at hc;simp only [Tm.den, zAr h x hc.1, zAr h y hc.2]
 | .app k x, hc => by
  simp only [clo, Bool.and_eq_true, Nat.blt_eq] at hc;simp only [Tm.den, zAr h x hc.2];exact h.2 k _ hc.1
 | .lapp x y, hc => by
  simp only [clo, Bool.and_eq_true] at hc;simp only [Tm.den, zAr h x hc.1, zAr h y hc.2]
 | .row x, hc => by
  simp only [clo] at hc;simp only [Tm.den, zAr h x hc]
 | .flat x, hc => by
  simp only [clo] at hc;simp only [Tm.den, zAr h x hc]
 | .lput x y z, hc => by
  simp only [clo, Bool.and_eq_true] at hc;simp only [Tm.den, zAr h x hc.1.1, zAr h y hc.1.2, zAr h z hc.2]
 | .lcut x y z, hc => by
  simp only [clo, Bool.and_eq_true] at hc;simp only [Tm.den, zAr h x hc.1.1, zAr h y hc.1.2, zAr h z hc.2]
end Go.Proofs.YtenkabjkgngcdaaGreat.Ab
namespace Go.Proofs.YtenkabjkgngcdaaGreat.Ab
open Go
noncomputable section
def zX6 (M B : Nat) : Eqs → Bool
 | [] => true
 | (_, x, t) :: l => clo M B x && clo M B t && zX6 M B l
def zO0 (M B : Nat) : Tree (Option Eqs) → Bool
 | .fail => true
 | .leaf none => true
 | .leaf (some es) => zX6 M B es
 | .fork c x y => clo M B c && (zO0 M B x && zO0 M B y)
theorem zPb {M B : Nat} {ρ ρ' : Rho} (h : Agr M B ρ ρ') : ∀ (t : Tree (Option Eqs)), zO0 M B t = true → @Tree.sel _ ρ t = @Tree.sel _ ρ' t
 | .fail, _ => rfl
 | .leaf _, _ => rfl
 | .fork c x y, hw => by
  simp only [zO0, Bool.and_eq_true] at hw;simp only [Tree.sel, zAr h c hw.1, zPb h x hw.2.1, zPb h y hw.2.2]
theorem zLC {M B : Nat} {ρ : Rho} {es : Eqs} : ∀ (t : Tree (Option Eqs)), zO0 M B t = true → @Tree.sel _ ρ t = some (some es) → zX6 M B es = true
 | .fail, _, h => by cases h
 | .leaf none, _, h => by cases h
 | .leaf (some e), hw, h => by
  simp only [Tree.sel, Option.some.injEq] at h;subst h; exact hw
 | .fork c x y, hw, h => by
  simp only [zO0, Bool.and_eq_true] at hw;simp only [Tree.sel] at h;cases hc : (@Tm.den ρ c).asB with
  | true => rw [hc] at h; exact zLC x hw.2.1 h
  | false => rw [hc] at h; exact zLC y hw.2.2 h
theorem zXe {M B : Nat} {a a' b b' : Rho} (h : Agr M B a a') (k : Agr M B b b') : ∀ {es : Eqs}, zX6 M B es = true → EqsOk a b es → EqsOk a' b' es
 | [], _, _ => trivial
 | (s, x, t) :: l, hc, he => by
  simp only [zX6, Bool.and_eq_true] at hc;refine ⟨?_, zXe h k hc.2 he.2⟩;have := he.1;simp only at this ⊢;rw [← zAr h x hc.1.1, ← zAr k t hc.1.2];exact this
theorem SumOK.change {P : Program} {env : Env} {f : FuncId} {S : Sum} {base r M B : Nat} {fn fn' : Nat → Dat → Dat} (h : SumOK P env f S base r fn) (hc : zO0 M B (S.tree P env f) = true) (hM : S.m ≤ M) (hfn : ∀ k d, k < B → fn k d = fn' k d) (hb : base + (M - S.m) ≤ B) (hr : base + r < B) : SumOK P env f S base r fn' := by
 intro ρ hf hok;obtain ⟨es, h1, h2⟩ := h ⟨ρ.val, fn⟩ rfl (by rw [hfn _ _ hr]; exact hok)
 have hag : Agr M B ⟨ρ.val, fn⟩ ρ := ⟨fun _ _ => rfl, fun k d hk => by rw [hf]; exact hfn k d hk⟩
 have hag2 : Agr M B (zAc S base ⟨ρ.val, fn⟩) (zAc S base ρ) := by
  refine ⟨fun n hn => ?_, fun k d hk => by
   show fn k d = ρ.fn k d;rw [hf]; exact hfn k d hk⟩
  show (bif Nat.blt n S.m then ρ.val n else fn (base + (n - S.m)) (zFf ρ.val S.us)) = (bif Nat.blt n S.m then ρ.val n else ρ.fn (base + (n - S.m)) (zFf ρ.val S.us))
  cases hn' : Nat.blt n S.m with
  | true => rfl
  | false =>
   simp only [cond_false];rw [hf];exact hfn _ _ (by omega)
 exact ⟨es, (zPb hag _ hc).symm.trans h1, zXe hag2 hag (zLC _ hc h1) h2⟩
end
end Go.Proofs.YtenkabjkgngcdaaGreat.Ab
