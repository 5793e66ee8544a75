/-
  ChannelFails, called: it returns true and makes at most new blocks.
  Conditions: arguments as the model reads them.
-/
import Derived.Test.YtenkabjkgngcdaaGreatChW
namespace Go.Proofs.YtenkabjkgngcdaaGreat.Ab
set_option linter.unusedSimpArgs false
set_option linter.unusedVariables false
open Go
set_option linter.unusedSectionVars false
noncomputable section
def fnW (f : FuncId) : Option (List AV → Heap → Option (Tm × AV × Heap)) := bif Nat.beq f 8 then some trueC else none
theorem fnW_ok [ρ : Rho] : ∀ f g, fnW f = some g → ∀ args H o v H', PC H → g args H = some (o, v, H') → o.den.asB = true → CallS Tryz.prog f args H v H' ∧ LG H H' := fun f g hg args H o v H' hp h ho => by
  simp only [fnW] at hg
  cases hb : Nat.beq f 8 with
  | false => rw [hb] at hg; cases hg
  | true =>
    simp only [hb, cond_true, Option.some.injEq] at hg; subst hg
    obtain rfl := Nat.eq_of_beq_eq_true hb
    exact true_ok works_calls h
/-- The loop's contract, where the numbers may be. -/
def gF (b : Bool) : St → Option (Tm × AX × St) := bif b then loopG 20 2 TF FF sgC (.exit 0) else fun st => some (.cb false, .ret, st)
def envL (b : Bool) : Env := ⟨fnW, fun f => bif Nat.beq f fF then lf1 11 (gF b) else fun _ => none⟩
set_option maxRecDepth 100000 in
theorem key_ok : keyAt Tryz.prog fF 11 0 = true := by kernel_rfl
theorem envL_ok (b : Bool) (n2 t1 : Nat) (h : b = true → n2 ≤ 12 ∧ 1 ≤ t1 ∧ t1 ≤ 12) : @EnvOK (rhoC n2 t1 ((n2 + 1) * t1 + 1)) Tryz.prog (envL b) := by
  letI ρ : Rho := rhoC n2 t1 ((n2 + 1) * t1 + 1)
  refine ⟨fnW_ok, fun f fn c hf hc => ?_⟩
  simp only [envL]
  cases hb : Nat.beq f fF with
  | false => exact lf0_ok
  | true =>
    obtain rfl := Nat.eq_of_beq_eq_true hb
    refine lf1_ok key_ok (fun st o x st' hg ho => ?_) hf hc
    cases b with
    | false => cases hg; cases ho
    | true =>
      obtain ⟨h2, h3, h4⟩ := h rfl
      have hp : 1 ≤ (n2 + 1) * t1 := Nat.mul_pos (by omega) (by omega)
      refine loopG_ok noCount ρ (fun k => rhoC n2 t1 k) ((n2 + 1) * t1 + 1) (fuel := 1000000) (cf := evFun Tryz.prog none0 1000) (lf := fun _ => none) (by simp) rfl (fun k _ => by letI : Rho := rhoC n2 t1 k; exact evFun_ok noCount none0_ok 1000) (fun k _ => by letI : Rho := rhoC n2 t1 k; exact lf0_ok) (fun k _ => ⟨fun n hn => ?_, rfl⟩) (fun k hk => ?_) ?_ (fun n => ?_) st o x st' hg ho
      · rw [show (rhoC n2 t1 k).val n = valC n2 t1 k n from rfl, val0 n (by omega)]
        exact (val0 n (by omega)).symm
      · match k, hk with
        | 0, _ => exact roundC0 h2 h3 h4
        | d + 1, hk => exact roundCs h2 h3 h4 (by omega)
      · exact lastC h2 h4 rfl
      · match n with
        | 0 => rfl
        | 1 => rfl
        | 2 => rfl
        | 3 => rfl
        | 4 => rfl
        | 5 => show Dat.dI (t1 : Int) = .dI (IntKind.i64.wrap (t1 : Int)); rw [wn t1 (by omega)]
        | 6 => rfl
        | 7 => rfl
        | 8 => rfl
        | 9 => rfl
        | 10 => rfl
        | 11 => rfl
        | 12 => rfl
        | 13 =>
          show Dat.dI (n2 : Int) = (bif decide ((bif decide ((255 : Int) < IntKind.i64.wrap (n2 : Int)) then Dat.dI 255 else .dI (IntKind.i64.wrap (n2 : Int))).asI > 0) then (bif decide ((255 : Int) < IntKind.i64.wrap (n2 : Int)) then Dat.dI 255 else .dI (IntKind.i64.wrap (n2 : Int))) else .dI 0)
          rw [wn n2 (by omega), decide_eq_false (show ¬ (255 : Int) < (n2 : Int) by omega)]
          show Dat.dI (n2 : Int) = (bif decide ((n2 : Int) > 0) then .dI (n2 : Int) else .dI 0)
          rcases Nat.eq_zero_or_pos n2 with rfl | hz
          · rfl
          · rw [decide_eq_true (by omega)]; rfl
        | n + 14 => rfl
theorem ok_of_sel [Rho] : ∀ (t : Tree AV), t.sel = some (.bool true) → t.ok
  | .fail, h => by cases h
  | .leaf v, h => by cases h; exact ⟨.cb true, rfl, rfl⟩
  | .fork c x y, h => by
    simp only [Tree.sel] at h
    exact ⟨fun k => ok_of_sel x (by rw [k] at h; exact h), fun k => ok_of_sel y (by rw [k] at h; exact h)⟩
def lawT (b : Bool) : Tree AV := evFun Tryz.prog (envL b) 1000 fF [.sint .u8 (vt 0), .sint .u8 (vt 1)] heap0 fun v _ => .leaf v
def pTrue (v : AV) (_ : Fc) : Bool := match v with
  | .bool true => true
  | _ => false
def F1 : Fc := ⟨[(10, 6)], [], [(.ib .eql .i64 (vt 3) (.ib .add .i64 (.wrap .i64 (vt 0)) (.ci 1)), true)], [(vt 0, 0, 12), (vt 1, 1, 12), (.wrap .i64 (vt 0), 0, 12), (.wrap .i64 (vt 1), 1, 12)], [], false⟩
def F2 : Fc := ⟨[], [], [], [(vt 0, 13, 255)], [], false⟩
def F3 : Fc := ⟨[], [], [], [(vt 0, 0, 12), (vt 1, 0, 0)], [], false⟩
def F4 : Fc := ⟨[], [], [], [(vt 0, 0, 12), (vt 1, 13, 255)], [], false⟩
set_option maxRecDepth 100000 in
theorem law1 : chkT pTrue (lawT true) F1 = true := by kernel_rfl
set_option maxRecDepth 100000 in
theorem law2 : chkT pTrue (lawT false) F2 = true := by kernel_rfl
set_option maxRecDepth 100000 in
theorem law3 : chkT pTrue (lawT false) F3 = true := by kernel_rfl
set_option maxRecDepth 100000 in
theorem law4 : chkT pTrue (lawT false) F4 = true := by kernel_rfl
section
variable {a b : Nat}
theorem w8 (n : Nat) (h : n ≤ 255) : IntKind.i64.wrap (n : Int) = (n : Int) := wn n (by omega)
set_option maxRecDepth 100000 in
theorem law_in (h2 : a ≤ 12) (h3 : 1 ≤ b) (h4 : b ≤ 12) : @Tree.ok (rhoC a b ((a + 1) * b + 1)) (lawT true) := by
  letI ρ : Rho := rhoC a b ((a + 1) * b + 1)
  have e0 : valC a b ((a + 1) * b + 1) 0 = .dI (a : Int) := val0 0 (.inl rfl)
  have e1 : valC a b ((a + 1) * b + 1) 1 = .dI (b : Int) := val0 1 (.inr rfl)
  have hF : @Fc.Ok ρ F1 := by
    refine fcOk (fun p hp => ?_) (fun p hp => by cases hp) (fun p hp => ?_) (fun p hp => ?_) rfl rfl
    · simp only [F1, List.mem_cons, List.not_mem_nil, or_false] at hp
      subst hp
      show (if (a + 1) * b + 1 = (a + 1) * b + 1 then (6 : Int) else 2) = 6
      rw [if_pos rfl]
    · simp only [F1, List.mem_cons, List.not_mem_nil, or_false] at hp
      subst hp
      refine beq_iff_eq.2 ?_
      show ((min ((a + 1) * b / b) a + 1 : Nat) : Int) = (iop .add .i64 (IntKind.i64.wrap (valC a b ((a + 1) * b + 1) 0).asI) 1).asI
      rw [e0]
      show ((min ((a + 1) * b / b) a + 1 : Nat) : Int) = (iop .add .i64 (IntKind.i64.wrap (a : Int)) 1).asI
      rw [wn a (by omega), add1 _ (by omega), Nat.mul_div_cancel _ (by omega), Nat.min_eq_right (by omega)]
    · simp only [F1, List.mem_cons, List.not_mem_nil, or_false] at hp
      rcases hp with rfl | rfl | rfl | rfl
      · show 0 ≤ (valC a b ((a + 1) * b + 1) 0).asI ∧ (valC a b ((a + 1) * b + 1) 0).asI ≤ 12
        rw [e0]; show 0 ≤ (a : Int) ∧ (a : Int) ≤ 12; omega
      · show 1 ≤ (valC a b ((a + 1) * b + 1) 1).asI ∧ (valC a b ((a + 1) * b + 1) 1).asI ≤ 12
        rw [e1]; show 1 ≤ (b : Int) ∧ (b : Int) ≤ 12; omega
      · show 0 ≤ IntKind.i64.wrap (valC a b ((a + 1) * b + 1) 0).asI ∧ IntKind.i64.wrap (valC a b ((a + 1) * b + 1) 0).asI ≤ 12
        rw [e0]; show 0 ≤ IntKind.i64.wrap (a : Int) ∧ IntKind.i64.wrap (a : Int) ≤ 12
        rw [wn a (by omega)]; omega
      · show 1 ≤ IntKind.i64.wrap (valC a b ((a + 1) * b + 1) 1).asI ∧ IntKind.i64.wrap (valC a b ((a + 1) * b + 1) 1).asI ≤ 12
        rw [e1]; show 1 ≤ IntKind.i64.wrap (b : Int) ∧ IntKind.i64.wrap (b : Int) ≤ 12
        rw [wn b (by omega)]; omega
  obtain ⟨v, F', sl, _, hp⟩ := chkT_ok (lawT true) law1 hF
  refine ok_of_sel _ ?_
  rw [sl]
  unfold pTrue at hp
  split at hp
  · rfl
  · cases hp
set_option maxRecDepth 100000 in
theorem law_of {F : Fc} {ρ : Rho} (hc : chkT pTrue (lawT false) F = true) (h : F.si = [] ∧ F.sb = [] ∧ F.tv = [] ∧ F.ne = [] ∧ F.bad = false) (hr : ∀ p ∈ F.rg, p.2.1 ≤ (@Tm.den ρ p.1).asI ∧ (@Tm.den ρ p.1).asI ≤ p.2.2) : @Tree.ok ρ (lawT false) := by
  letI := ρ
  obtain ⟨h1, h2, h3, h4, h5⟩ := h
  obtain ⟨v, F', sl, _, hp⟩ := chkT_ok (lawT false) hc (fcOk (ρ := ρ) (F := F) (by rw [h1]; intro p hp; cases hp) (by rw [h2]; intro p hp; cases hp) (by rw [h3]; intro p hp; cases hp) hr h4 h5)
  refine ok_of_sel _ ?_
  rw [sl]
  unfold pTrue at hp
  split at hp
  · rfl
  · cases hp
set_option maxRecDepth 100000 in
theorem law_out (ha : a ≤ 255) (hb : b ≤ 255) (h : ¬ (a ≤ 12 ∧ 1 ≤ b ∧ b ≤ 12)) : @Tree.ok (rhoC a b ((a + 1) * b + 1)) (lawT false) := by
  have e0 : valC a b ((a + 1) * b + 1) 0 = .dI (a : Int) := val0 0 (.inl rfl)
  have e1 : valC a b ((a + 1) * b + 1) 1 = .dI (b : Int) := val0 1 (.inr rfl)
  have r0 : ∀ lo hi : Int, lo ≤ (a : Int) → (a : Int) ≤ hi → lo ≤ (@Tm.den (rhoC a b ((a + 1) * b + 1)) (vt 0)).asI ∧ (@Tm.den (rhoC a b ((a + 1) * b + 1)) (vt 0)).asI ≤ hi := fun lo hi x y => by
    show lo ≤ (valC a b ((a + 1) * b + 1) 0).asI ∧ (valC a b ((a + 1) * b + 1) 0).asI ≤ hi
    rw [e0]; exact ⟨x, y⟩
  have r1 : ∀ lo hi : Int, lo ≤ (b : Int) → (b : Int) ≤ hi → lo ≤ (@Tm.den (rhoC a b ((a + 1) * b + 1)) (vt 1)).asI ∧ (@Tm.den (rhoC a b ((a + 1) * b + 1)) (vt 1)).asI ≤ hi := fun lo hi x y => by
    show lo ≤ (valC a b ((a + 1) * b + 1) 1).asI ∧ (valC a b ((a + 1) * b + 1) 1).asI ≤ hi
    rw [e1]; exact ⟨x, y⟩
  rcases Nat.lt_or_ge 12 a with h1 | h1
  · refine law_of law2 ⟨rfl, rfl, rfl, rfl, rfl⟩ fun p hp => ?_
    simp only [F2, List.mem_cons, List.not_mem_nil, or_false] at hp
    subst hp; exact r0 13 255 (by omega) (by omega)
  · rcases Nat.eq_zero_or_pos b with h2 | h2
    · refine law_of law3 ⟨rfl, rfl, rfl, rfl, rfl⟩ fun p hp => ?_
      simp only [F3, List.mem_cons, List.not_mem_nil, or_false] at hp
      rcases hp with rfl | rfl
      · exact r0 0 12 (by omega) (by omega)
      · exact r1 0 0 (by omega) (by omega)
    · refine law_of law4 ⟨rfl, rfl, rfl, rfl, rfl⟩ fun p hp => ?_
      simp only [F4, List.mem_cons, List.not_mem_nil, or_false] at hp
      rcases hp with rfl | rfl
      · exact r0 0 12 (by omega) (by omega)
      · exact r1 13 255 (by omega) (by omega)
end
end
end Go.Proofs.YtenkabjkgngcdaaGreat.Ab
namespace Go.Proofs.YtenkabjkgngcdaaGreat
open Go Go.Proofs.YtenkabjkgngcdaaGreat.Ab
set_option maxRecDepth 100000 in
theorem channelFails_walk (n2 : Int) (w2 : (Lit.int .u8 n2).wf = true) (t1 : Int) (w1 : (Lit.int .u8 t1).wf = true) (w : World) :
    Calls Tryz.prog 4 #[.int .u8 n2, .int .u8 t1] w fun e w' => e = .returned (.bool true) ∧ RowKit.Below w.heap.size w w' := by
  simp [Lit.wf, IntKind.min, IntKind.max, IntKind.signed, IntKind.bits] at w2 w1
  have p2 : 0 ≤ n2 := w2.1
  have p1 : 0 ≤ t1 := w1.1
  obtain ⟨a, rfl⟩ := Int.eq_ofNat_of_zero_le p2
  obtain ⟨b, rfl⟩ := Int.eq_ofNat_of_zero_le p1
  have ha : a ≤ 255 := by have := w2.2; omega
  have hb : b ≤ 255 := by have := w1.2; omega
  letI ρ : Rho := rhoC a b ((a + 1) * b + 1)
  have hv : VRs (fun _ => none) [.sint .u8 (.var 0), .sint .u8 (.var 1)] [.int .u8 (a : Int), .int .u8 (b : Int)] := ⟨_, _, rfl, ⟨_, _, rfl, rfl, rfl⟩, rfl⟩
  by_cases h : a ≤ 12 ∧ 1 ≤ b ∧ b ≤ 12
  · exact call_true (evFun_ok noCount (envL_ok true a b fun _ => h) 1000) (args := [.sint .u8 (.var 0), .sint .u8 (.var 1)]) (law_in h.1 h.2.1 h.2.2) (cargs := [.int .u8 (a : Int), .int .u8 (b : Int)]) hv w
  · exact call_true (evFun_ok noCount (envL_ok false a b fun h => by cases h) 1000) (args := [.sint .u8 (.var 0), .sint .u8 (.var 1)]) (law_out ha hb h) (cargs := [.int .u8 (a : Int), .int .u8 (b : Int)]) hv w
end Go.Proofs.YtenkabjkgngcdaaGreat
