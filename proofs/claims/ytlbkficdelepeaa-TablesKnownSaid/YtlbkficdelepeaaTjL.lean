/-
  TablesJudge: contracts, its loops as states with letters.
  Conditions: as each theorem tells.
-/
import Derived.Test.YtlbkficdelepeaaTjM
import Derived.Test.YtlbkficdelepeaaNx
namespace Go.Proofs.Ytlbkficdelepeaa.Ab
set_option linter.unusedSimpArgs false
set_option linter.unusedVariables false
open Go
set_option linter.unusedSectionVars false
noncomputable section
def zF : Nat → Dat → Dat := fun _ _ => .dB true
def fnT : Nat → Dat → Dat := fun k d => bif Nat.beq (k / 64) 2 then autF zF tJ 17 10 (cellsD d) (k % 64) else bif Nat.beq (k / 64) 3 then autF zF tR 23 16 (cellsD d) (k % 64) else .dB true
theorem fnT_J {j : Nat} {d : Dat} (h : j ≤ 10) : fnT (128 + j) d = autF zF tJ 17 10 (cellsD d) j := by
  unfold fnT
  rw [show (128 + j) / 64 = 2 by omega, show (128 + j) % 64 = j by omega, show Nat.beq 2 2 = true from rfl, cond_true]
theorem fnT_R {j : Nat} {d : Dat} (h : j ≤ 16) : fnT (192 + j) d = autF zF tR 23 16 (cellsD d) j := by
  unfold fnT
  rw [show (192 + j) / 64 = 3 by omega, show (192 + j) % 64 = j by omega, show Nat.beq 3 2 = false from rfl, show Nat.beq 3 3 = true from rfl, cond_true, cond_false]
theorem evJ_ok : SumOK Try.prog none0 fJE SJ 128 10 fnT := aut_ok (B := 0) (fl := zF) rfl tJ_wf (fun k d hk => absurd hk (Nat.not_lt_zero _)) fun j d hj => fnT_J hj
theorem evR_ok : SumOK Try.prog none0 fRE SR 192 16 fnT := aut_ok (B := 0) (fl := zF) rfl tR_wf (fun k d hk => absurd hk (Nat.not_lt_zero _)) fun j d hj => fnT_R hj
set_option maxRecDepth 100000 in
theorem works24_tree : Tree.allT (evFun Try.prog none0 1000 11 [] heap0 fun v _ => .leaf v) = true := by kernel_rfl
set_option maxRecDepth 100000 in
theorem works24 [ρ : Rho] (w : World) : Calls Try.prog 11 #[] w fun e w' => e = .returned (.bool true) ∧ RowKit.Below w.heap.size w w' :=
  call_true (evFun_ok noCount none0_ok 1000) (args := []) (Tree.allT_ok _ works24_tree) (cargs := []) rfl w
theorem sumT_CG {ρ : Rho} (hf : ρ.fn = fnT) {f : FuncId} {S : Sum} {base r : Nat} (hS : SumE Try.prog f S base r fnT) : CG ρ f (sumG S base r) := fun args H o v H' _ h ho => sumG_ok noCount (by rw [hf]; exact hS) h ho
def tabT : List (Nat × CtrG) := [(11, trueC), (fJE, sumG SJ 128 10), (fRE, sumG SR 192 16)]
theorem tabT_ok {ρ : Rho} (hf : ρ.fn = fnT) : TabOK ρ tabT := ⟨true_CG (@works24 ρ), sumT_CG hf (SumOK.all (fun ρ0 _ => by letI : Rho := ρ0; exact none0_ok) evJ_ok), sumT_CG hf (SumOK.all (fun ρ0 _ => by letI : Rho := ρ0; exact none0_ok) evR_ok), trivial⟩
def envT : Env := ⟨tabGet tabT, fun _ _ => none⟩
theorem envT_ok {ρ : Rho} (hf : ρ.fn = fnT) : @EnvOK ρ Try.prog envT := @envOK_fn ρ _ ⟨tabGet tabT, fun _ _ => none⟩ (fun f g hg => tabOK_get (tabT_ok hf) f g hg) fun _ _ => rfl
/-! ### states -/
abbrev fTj : FuncId := 3
abbrev fAj : FuncId := 19
abbrev fAr : FuncId := 20
def shE : List Kd := [.ki .u8, .ki .u8, .kb, .ki .u8, .kb, .ki .u8, .ki .u8, .ks]
def H0T : Heap := ⟨1, [(0, .seq shE (vt 0) false)], [], []⟩
def argT : AV := .sslice 0 8 (.ci 0) (.llen (vt 0))
def argB : AV := .sslice 5 8 (.ci 0) (.llen (vt 18))
def rowJ (m b : Nat) : AObj := .row [.map m, uv b, bv (b+1), iv (b+2), iv (b+3), uv (b+4), bv (b+5), uv (b+6), bv (b+7), bv (b+8)] true false
def rowR (l b : Nat) : AObj := .row [.ptr l 0, uv (b+4), bv (b+9), bv (b+5), uv (b+10), uv (b+11), uv (b+6), bv (b+12), bv (b+7), uv (b+13), uv (b+14), bv (b+8)] true false
def rowK (b : Nat) : AObj := .row [uv b, bv (b+1), iv (b+3), iv (b+2)] true true
def T1T : St := ⟨119, [(8, iv 2), (7, argB), (6, .ptr 4 0), (5, .ptr 2 0), (0, iv 1), (1, argT)], ⟨7, [(6, rowK 3), (5, .seq shE (vt 18) true), (4, rowR 6 3), (2, rowJ 1 3), (1, .map TBL), (0, .seq shE (vt 0) false)], [], []⟩, []⟩
def HB (n : Nat) : Heap := ⟨n, [(5, .seq shE (vt 18) true), (0, .seq shE (vt 0) false)], [], []⟩
def F1T : St := ⟨119, [(7, argB), (0, iv 1), (1, argT)], HB 7, []⟩
abbrev loT : Tm := .ite (.ib .lss .i64 (.ci 255) (vt 1)) (.ci 255) (vt 1)
abbrev moT : Tm := .ite (.ib .gtr .i64 loT (.ci 0)) loT (.ci 0)
abbrev hiT : Tm := .ite (.ib .gtr .i64 (.ci 0) (vt 1)) (.ci 0) (vt 1)
abbrev noT : Tm := .ite (.ib .lss .i64 (.ci 255) hiT) (.ci 255) hiT
/-- A judge's first values. -/
def sC (b i : Nat) : Option Tm := bif Nat.beq i b then some (.ci 1) else bif Nat.beq i (b + 3) then some moT else
  bif Nat.beq i (b + 1) || Nat.beq i (b + 5) || Nat.beq i (b + 7) || Nat.beq i (b + 8) || Nat.beq i (b + 9) || Nat.beq i (b + 12) then some (.cb false) else some (.ci 0)
def s1T (i : Nat) : Option Tm := bif Nat.ble i 1 then none else bif Nat.ble 19 i then none else bif Nat.beq i 2 then some (.ci 0) else bif Nat.beq i 18 then some (.cb false) else sC 3 i
def g1T : LpG := loopN 5 2 T1T F1T s1T (.exit 0)
def T2T : St := ⟨26, [(13, iv 19), (12, .sint .i64 (.llen (vt 0))), (11, argT), (6, .ptr 8 0), (1, argT)], ⟨9, [(8, rowJ 7 20), (7, .map TBL), (5, .seq shE (vt 18) true), (0, .seq shE (vt 0) false)], [], []⟩, []⟩
def F2A : St := ⟨26, [(1, argT)], HB 9, []⟩
def F2B : St := ⟨26, [(4, iv 19), (5, .bool false)], HB 9, []⟩
def s2T (i : Nat) : Option Tm := bif Nat.ble i 18 then none else bif Nat.ble 29 i then none else bif Nat.beq i 19 then some (.ci 0) else sC 20 i
def g2A : LpG := loopN 9 19 T2T F2A s2T (.exit 0)
def g2B : LpG := loopN 9 19 T2T F2B s2T .ret
def T3T : St := ⟨26, [(7, iv 29), (6, .ptr 10 0), (1, argB)], ⟨12, [(11, rowK 30), (10, rowR 11 30), (5, .seq shE (vt 18) true), (0, .seq shE (vt 0) false)], [], []⟩, []⟩
def F3A : St := ⟨26, [(1, argB)], HB 12, []⟩
def F3B : St := ⟨26, [(4, iv 29), (5, .bool false)], HB 12, []⟩
def s3T (i : Nat) : Option Tm := bif Nat.ble i 28 then none else bif Nat.ble 45 i then none else bif Nat.beq i 29 then some (.ci 0) else sC 30 i
def g3A : LpG := loopN 11 29 T3T F3A s3T (.exit 0)
def g3B : LpG := loopN 11 29 T3T F3B s3T .ret
def lpT (a b c : LpG) : FuncId → LoopF := fun f => bif Nat.beq f fTj then lf1 6 a else bif Nat.beq f fAj then lf1 3 b else bif Nat.beq f fAr then lf1 3 c else fun _ => none
def envTj (a b c : LpG) : Env := ⟨tabGet tabT, lpT a b c⟩
def lawT (a b c : LpG) : Tree AV := evFun Try.prog (envTj a b c) 1000 fTj [iv 1, argT] H0T fun v _ => .leaf v
set_option maxRecDepth 100000 in
theorem keyT1 : keyAt Try.prog fTj 6 0 = true := by kernel_rfl
set_option maxRecDepth 100000 in
theorem keyT2 : keyAt Try.prog fAj 3 0 = true := by kernel_rfl
set_option maxRecDepth 100000 in
theorem keyT3 : keyAt Try.prog fAr 3 0 = true := by kernel_rfl
end
end Go.Proofs.Ytlbkficdelepeaa.Ab
