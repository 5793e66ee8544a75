/-
  ArqFails, called: it returns true and makes at most new blocks. Its loop by rounds with letters.
  Conditions: arguments as the model reads them.
-/
import Derived.Test.YtlbkficdelepeaaAbF
import Derived.Test.YtlbkficdelepeaaB0
namespace Go.Proofs.Ytlbkficdelepeaa.Ab.Af
set_option linter.unusedSimpArgs false
set_option linter.unusedVariables false
open Go
theorem noCountF : NoCount Try.prog := noCount_of (by kernel_rfl) (by kernel_rfl)
def env0 : Env := ⟨fun _ => none, fun _ _ => none⟩
theorem env0_ok [ρ : Rho] : EnvOK Try.prog env0 := envOK_fn (fun f g hg => by cases hg) fun _ _ => rfl
set_option maxRecDepth 100000 in
theorem works_tree : Tree.allT (evFun Try.prog env0 1000 22 [] heap0 fun v _ => .leaf v) = true := by kernel_rfl
set_option maxRecDepth 100000 in
theorem works_calls [ρ : Rho] (w : World) : Calls Try.prog 22 #[] w fun e w' => e = .returned (.bool true) ∧ RowKit.Below w.heap.size w w' :=
  call_true (evFun_ok noCountF env0_ok 1000) (args := []) (Tree.allT_ok _ works_tree) (cargs := []) rfl w
def trueC : List AV → Heap → Option (Tm × AV × Heap)
  | [], H => some (.cb true, .bool true, H)
  | _, _ => none
theorem true_ok [ρ : Rho] {f : FuncId} (h : ∀ w, Calls Try.prog f #[] w fun e w' => e = .returned (.bool true) ∧ RowKit.Below w.heap.size w w') {args : List AV} {H : Heap} {o : Tm} {v : AV} {H' : Heap} (hgs : trueC args H = some (o, v, H')) : CallS Try.prog f args H v H' ∧ LG H H' := by
  unfold trueC at hgs
  split at hgs
  · cases hgs; exact ⟨works_ok h, LG.refl _⟩
  · cases hgs
def fnW (f : FuncId) : Option (List AV → Heap → Option (Tm × AV × Heap)) := bif Nat.beq f 22 then some trueC else none
theorem fnW_ok [ρ : Rho] : ∀ f g, fnW f = some g → ∀ args H o v H', PC H → g args H = some (o, v, H') → o.den.asB = true → CallS Try.prog f args H v H' ∧ LG H H' := fun f g hg args H o v H' hp h ho => by
  simp only [fnW] at hg
  cases hb : Nat.beq f 22 with
  | false => rw [hb] at hg; cases hg
  | true =>
    simp only [hb, cond_true, Option.some.injEq] at hg; subst hg
    obtain rfl := Nat.eq_of_beq_eq_true hb
    exact true_ok works_calls h
/-- The loop's state: n, asked, Tries, Left, Asks, Failed are letters 2 to 7; N2 and T1 are 0 and 1. -/
def aRow : List AV := [.int .u8 0, .int .u8 0, .int .u8 0, .int .i64 0, .int .i64 1, .sint .i64 (.var 4), .sint .i64 (.var 5), .bool false, .bool false, .bool false, .sbool (.var 6), .bool false, .sbool (.var 7), .int .i64 3, .sint .i64 (.wrap .i64 (.var 0)), .sint .i64 (.wrap .i64 (.var 1)), .slice 2 0 1 (.unk 1), .int .i64 1, .bool false, .bool false, .bool false, .bool false]
def lpT : St := ⟨97, [(9, .sint .i64 (.var 2)), (8, .sint .i64 (.var 3)), (5, .ptr 0 0), (0, .sint .u8 (.var 0)), (1, .sint .u8 (.var 1))], ⟨6, [(0, .row aRow true false), (2, .row [.str [120]] true true)], [], []⟩, []⟩
def lpFi : St := ⟨97, [(8, .sint .i64 (.var 3)), (0, .sint .u8 (.var 0))], ⟨6, [], [], []⟩, []⟩
abbrev tM : Tm := .ib .mul .i64 (.ib .add .i64 (.wrap .i64 (.var 0)) (.ci 1)) (.wrap .i64 (.var 1))
abbrev isM : Tm := .ib .eql .i64 (.var 2) tM
abbrev n1 : Tm := .ib .add .i64 (.var 2) (.ci 1)
abbrev l1 : Tm := .ib .sub .i64 (.var 5) (.ci 1)
abbrev t1T : Tm := .ib .add .i64 (.var 4) (.ci 1)
abbrev eqs (a t l b f : Tm) : Eqs := [(.sI, .var 2, n1), (.sI, .var 3, a), (.sI, .var 4, t), (.sI, .var 5, l), (.sB, .var 6, b), (.sB, .var 7, f)]
abbrev bad : Tree (AX × Option Eqs) := .leaf (.ret, some [(.sI, .var 3, .var 3)])
abbrev go1 (e : Eqs) : Tree (AX × Option Eqs) := .leaf (.normal, some e)
def rt : Tree (AX × Option Eqs) := .fork (.ib .leq .i64 (.var 2) tM)
  (.fork (.var 7) (.fork isM bad bad)
    (.fork (.ib .eql .i64 (.var 5) (.ci 0)) (.fork isM bad (.fork (.not (.var 6)) (go1 (eqs (.var 3) (.var 4) (.var 5) (.var 6) (.var 7))) (go1 (eqs (.var 3) (.var 4) (.var 5) (.var 6) (.var 7)))))
      (.fork (.ib .gtr .i64 l1 (.ci 0)) (.fork isM bad (.fork (.not (.var 6)) (go1 (eqs (.var 3) (.var 4) l1 (.var 6) (.var 7))) (go1 (eqs (.var 3) (.var 4) l1 (.var 6) (.var 7)))))
        (.fork (.ib .gtr .i64 t1T (.wrap .i64 (.var 0))) (.fork (.ib .neq .i64 (.var 2) tM) bad (go1 (eqs (.var 3) t1T (.ci 0) (.var 6) (.cb true))))
          (.fork isM bad (.fork (.ib .eql .i64 (.wrap .i64 (.var 1)) (.ci 0)) (go1 (eqs (.ib .add .i64 (.var 3) (.ci 1)) t1T (.wrap .i64 (.var 1)) (.cb true) (.var 7))) (go1 (eqs (.ib .add .i64 (.var 3) (.ci 1)) t1T (.wrap .i64 (.var 1)) (.cb true) (.var 7)))))))))
  (.leaf (.exit 0, some [(.sI, .var 3, .var 3)]))
def envF : Env := ⟨fnW, fun _ _ => none⟩
theorem envF_ok [ρ : Rho] : EnvOK Try.prog envF := envOK_fn fnW_ok fun _ _ => rfl
set_option maxRecDepth 100000 in
theorem rt_eq : evCode Try.prog (evFun Try.prog envF 1000) (fun _ => none) 1000000 (lpBody Try.prog 39 0) lpT (outS 6 2 lpT lpFi) = rt := by kernel_rfl
/-- What the letters stand for ahead of round k. -/
abbrev rhoK (n2 t1 k : Nat) : Rho := ⟨fun i => [Dat.dI n2, .dI t1, .dI (k + 1 : Nat), .dI (min (k / t1) n2 : Nat), .dI (k / t1 : Nat), .dI (if k = (n2 + 1) * t1 then 0 else t1 - k % t1 : Nat), .dB (decide (t1 ≤ min k ((n2 + 1) * t1 - 1))), .dB (decide (k = (n2 + 1) * t1))].getD i (.dI 0), fun _ d => d⟩
def sg (i : Nat) : Option Tm := [none, none, some (Tm.ci 1), some (.ci 0), some (.ci 0), some (.wrap .i64 (.var 1)), some (.cb false), some (.cb false)].getD i none
theorem w64s (n : Int) (h0 : 0 ≤ n) (h1 : n ≤ 1000000) : IntKind.i64.wrap n = n := by
  rw [IntKind.wrap_i64]; omega
theorem add1 (n : Nat) (h : n ≤ 10000) : (iop .add .i64 (n : Int) 1).asI = ((n + 1 : Nat) : Int) := by
  show IntKind.i64.wrap ((n : Int) + 1) = _
  rw [w64s _ (by omega) (by omega)]; omega
theorem sub1 (n : Nat) (h : n ≤ 10000) (h1 : 1 ≤ n) : (iop .sub .i64 (n : Int) 1).asI = ((n - 1 : Nat) : Int) := by
  show IntKind.i64.wrap ((n : Int) - 1) = _
  rw [w64s _ (by omega) (by omega)]; omega
theorem wn (n : Nat) (h : n ≤ 10000) : IntKind.i64.wrap (n : Int) = (n : Int) := w64s _ (by omega) (by omega)
section
variable {n2 t1 k : Nat}
theorem mBound (h2 : n2 ≤ 12) (h4 : t1 ≤ 12) : (n2 + 1) * t1 ≤ 156 := by
  have := Nat.mul_le_mul (show n2 + 1 ≤ 13 by omega) h4
  omega
theorem tM_den (h2 : n2 ≤ 12) (h4 : t1 ≤ 12) : (@Tm.den (rhoK n2 t1 k) tM).asI = (((n2 + 1) * t1 : Nat) : Int) := by
  have hb := mBound h2 h4
  show IntKind.i64.wrap ((iop .add .i64 (IntKind.i64.wrap (n2 : Int)) 1).asI * IntKind.i64.wrap (t1 : Int)) = _
  rw [wn n2 (by omega), wn t1 (by omega), add1 n2 (by omega), ← Int.natCast_mul, wn _ (by omega)]
theorem nextDiv (h3 : 1 ≤ t1) : (k % t1 + 1 < t1 ∧ (k + 1) / t1 = k / t1 ∧ (k + 1) % t1 = k % t1 + 1) ∨ (k % t1 + 1 = t1 ∧ (k + 1) / t1 = k / t1 + 1 ∧ (k + 1) % t1 = 0) := by
  have e := Nat.div_add_mod k t1
  have hr := Nat.mod_lt k (show t1 > 0 by omega)
  rcases Nat.lt_or_ge (k % t1 + 1) t1 with h | h
  · left
    have := (Nat.div_mod_unique (show 0 < t1 by omega) (a := k + 1) (d := k / t1) (c := k % t1 + 1)).2 ⟨by omega, h⟩
    exact ⟨h, this.1, this.2⟩
  · right
    have := (Nat.div_mod_unique (show 0 < t1 by omega) (a := k + 1) (d := k / t1 + 1) (c := 0)).2 ⟨by rw [Nat.mul_add]; omega, by omega⟩
    exact ⟨by omega, this.1, this.2⟩
/-- A round. -/
theorem roundA (h2 : n2 ≤ 12) (h3 : 1 ≤ t1) (h4 : t1 ≤ 12) (hk : k < (n2 + 1) * t1) : ∃ es, @Tree.sel _ (rhoK n2 t1 k) rt = some (.normal, some es) ∧ EqsOk (rhoK n2 t1 (k + 1)) (rhoK n2 t1 k) es := by
  have hb := mBound h2 h4
  have eM := tM_den (k := k) h2 h4
  have e := Nat.div_add_mod k t1
  have hr := Nat.mod_lt k (show t1 > 0 by omega)
  have hM : (n2 + 1) * t1 = t1 * n2 + t1 := by rw [Nat.mul_comm, Nat.mul_add, Nat.mul_one]
  have hq : k / t1 ≤ n2 := by
    have := (Nat.div_lt_iff_lt_mul (show 0 < t1 by omega)).2 hk
    omega
  have hq1 : t1 * (k / t1) ≤ t1 * n2 := Nat.mul_le_mul_left _ hq
  have hkM : k ≠ (n2 + 1) * t1 := by omega
  letI ρ : Rho := rhoK n2 t1 k
  have dn : (Tm.var 2).den.asI = ((k + 1 : Nat) : Int) := rfl
  have d0 : (Tm.wrap .i64 (.var 0)).den.asI = (n2 : Int) := wn n2 (by omega)
  have d1 : (Tm.wrap .i64 (.var 1)).den.asI = (t1 : Int) := wn t1 (by omega)
  have d4 : (Tm.var 4).den.asI = ((k / t1 : Nat) : Int) := rfl
  have d5 : (Tm.var 5).den.asI = ((t1 - k % t1 : Nat) : Int) := by
    show ((if k = (n2 + 1) * t1 then 0 else t1 - k % t1 : Nat) : Int) = _
    rw [if_neg hkM]
  have d7 : (Tm.var 7).den.asB = false := decide_eq_false hkM
  have s1 : (Tm.ib .leq .i64 (.var 2) tM).den.asB = true := decide_eq_true (by
    rw [dn]; exact Int.le_trans (by omega) (Int.le_of_eq eM.symm))
  have s2 : (Tm.ib .eql .i64 (.var 5) (.ci 0)).den.asB = false := beq_eq_false_iff_ne.2 (by rw [d5]; show ¬ _ = (0 : Int); omega)
  have dl1 : l1.den.asI = ((t1 - k % t1 - 1 : Nat) : Int) := by
    show (iop .sub .i64 (Tm.var 5).den.asI 1).asI = _
    rw [d5, sub1 _ (by omega) (by omega)]
  have dt1 : t1T.den.asI = ((k / t1 + 1 : Nat) : Int) := add1 _ (by omega)
  have g2 : (@Tm.den (rhoK n2 t1 (k + 1)) (.var 2)).asI = n1.den.asI := (add1 (k + 1) (by omega)).symm
  have isF : (((k + 1 : Nat) : Int) ≠ (((n2 + 1) * t1 : Nat) : Int)) → isM.den.asB = false := fun h => beq_eq_false_iff_ne.2 (by rw [dn]; show ¬ _ = tM.den.asI; rw [show tM.den.asI = _ from eM]; exact h)
  unfold rt
  simp only [Tree.sel, s1, d7, s2, cond_true, cond_false]
  rcases nextDiv (k := k) h3 with ⟨n1', n2', n3'⟩ | ⟨n1', n2', n3'⟩
  · -- the timer runs on
    have s3 : (Tm.ib .gtr .i64 l1 (.ci 0)).den.asB = true := decide_eq_true (by rw [dl1]; show _ > (0 : Int); omega)
    have s4 : isM.den.asB = false := isF (by omega)
    simp only [s3, s4, cond_true, cond_false, Bool.cond_self]
    refine ⟨_, rfl, g2, ?_, ?_, ?_, ?_, ?_, trivial⟩
    · show ((min ((k + 1) / t1) n2 : Nat) : Int) = ((min (k / t1) n2 : Nat) : Int)
      rw [n2']
    · show (((k + 1) / t1 : Nat) : Int) = ((k / t1 : Nat) : Int)
      rw [n2']
    · show ((if k + 1 = (n2 + 1) * t1 then 0 else t1 - (k + 1) % t1 : Nat) : Int) = l1.den.asI
      rw [dl1, if_neg (by omega), n3']; omega
    · show decide (t1 ≤ min (k + 1) ((n2 + 1) * t1 - 1)) = decide (t1 ≤ min k ((n2 + 1) * t1 - 1))
      refine decide_eq_decide.2 ?_
      rw [Nat.min_eq_left (by omega), Nat.min_eq_left (by omega)]
      rcases Nat.eq_zero_or_pos (k / t1) with h | h
      · rw [h] at e; omega
      · have := Nat.mul_le_mul_left t1 h; omega
    · show decide (k + 1 = (n2 + 1) * t1) = decide (k = (n2 + 1) * t1)
      rw [decide_eq_false (by omega), decide_eq_false (by omega)]
  · have s3 : (Tm.ib .gtr .i64 l1 (.ci 0)).den.asB = false := decide_eq_false (by rw [dl1]; show ¬ _ > (0 : Int); omega)
    rcases Nat.eq_or_lt_of_le hq with h | h
    · -- it fails
      have hend : k + 1 = (n2 + 1) * t1 := by rw [hM, ← h]; omega
      have s4 : (Tm.ib .gtr .i64 t1T (.wrap .i64 (.var 0))).den.asB = true := decide_eq_true (by rw [dt1, d0]; omega)
      have s5 : (Tm.ib .neq .i64 (.var 2) tM).den.asB = false := bne_eq_false_iff_eq.2 (by rw [dn]; exact (by rw [hend]; exact eM.symm))
      simp only [s3, s4, s5, cond_true, cond_false]
      refine ⟨_, rfl, g2, ?_, ?_, ?_, ?_, ?_, trivial⟩
      · show ((min ((k + 1) / t1) n2 : Nat) : Int) = ((min (k / t1) n2 : Nat) : Int)
        rw [n2']; omega
      · show (((k + 1) / t1 : Nat) : Int) = t1T.den.asI
        rw [dt1, n2']
      · show ((if k + 1 = (n2 + 1) * t1 then 0 else t1 - (k + 1) % t1 : Nat) : Int) = 0
        rw [if_pos hend]; rfl
      · show decide (t1 ≤ min (k + 1) ((n2 + 1) * t1 - 1)) = decide (t1 ≤ min k ((n2 + 1) * t1 - 1))
        rw [Nat.min_eq_right (by omega), show (n2 + 1) * t1 - 1 = k by omega, Nat.min_self]
      · show decide (k + 1 = (n2 + 1) * t1) = true
        exact decide_eq_true hend
    · -- it asks
      have hq2 : t1 * (k / t1) + t1 ≤ t1 * n2 := by
        have := Nat.mul_le_mul_left t1 (show k / t1 + 1 ≤ n2 by omega)
        rw [Nat.mul_add, Nat.mul_one] at this; exact this
      have s4 : (Tm.ib .gtr .i64 t1T (.wrap .i64 (.var 0))).den.asB = false := decide_eq_false (by rw [dt1, d0]; omega)
      have s5 : isM.den.asB = false := isF (by omega)
      simp only [s3, s4, s5, cond_false, Bool.cond_self]
      refine ⟨_, rfl, g2, ?_, ?_, ?_, ?_, ?_, trivial⟩
      · show ((min ((k + 1) / t1) n2 : Nat) : Int) = (iop .add .i64 ((min (k / t1) n2 : Nat) : Int) 1).asI
        rw [add1 _ (by omega), n2']; omega
      · show (((k + 1) / t1 : Nat) : Int) = t1T.den.asI
        rw [dt1, n2']
      · show ((if k + 1 = (n2 + 1) * t1 then 0 else t1 - (k + 1) % t1 : Nat) : Int) = (Tm.wrap .i64 (.var 1)).den.asI
        rw [d1, if_neg (by omega), n3']; rfl
      · show decide (t1 ≤ min (k + 1) ((n2 + 1) * t1 - 1)) = true
        refine decide_eq_true ?_
        rw [Nat.min_eq_left (by omega)]
        omega
      · show decide (k + 1 = (n2 + 1) * t1) = decide (k = (n2 + 1) * t1)
        rw [decide_eq_false (by omega), decide_eq_false (by omega)]
theorem lastA (h2 : n2 ≤ 12) (h4 : t1 ≤ 12) (hk : k = (n2 + 1) * t1) : ∃ es, @Tree.sel _ (rhoK n2 t1 k) rt = some (.exit 0, some es) ∧ EqsOk (rhoK n2 t1 k) (rhoK n2 t1 k) es := by
  have eM := tM_den (k := k) h2 h4
  letI ρ : Rho := rhoK n2 t1 k
  have s1 : (Tm.ib .leq .i64 (.var 2) tM).den.asB = false := decide_eq_false (by
    rw [show tM.den.asI = _ from eM]
    show ¬ ((k + 1 : Nat) : Int) ≤ _
    omega)
  unfold rt
  simp only [Tree.sel, s1, cond_false]
  exact ⟨_, rfl, rfl, trivial⟩
end
/-- The loop's contract, where the numbers may be. -/
noncomputable def gF (b : Bool) : St → Option (Tm × AX × St) := bif b then loopG 6 2 lpT lpFi sg (.exit 0) else fun st => some (.cb false, .ret, st)
noncomputable def envL (b : Bool) : Env := ⟨fnW, fun f => bif Nat.beq f 39 then lf1 11 (gF b) else fun _ => none⟩
set_option maxRecDepth 100000 in
theorem key_ok : keyAt Try.prog 39 11 0 = true := by kernel_rfl
theorem envL_ok (b : Bool) (n2 t1 : Nat) (h : b = true → n2 ≤ 12 ∧ 1 ≤ t1 ∧ t1 ≤ 12) : @EnvOK (rhoK n2 t1 ((n2 + 1) * t1)) Try.prog (envL b) := by
  letI ρ : Rho := rhoK n2 t1 ((n2 + 1) * t1)
  refine ⟨fnW_ok, fun f fn c hf hc => ?_⟩
  simp only [envL]
  cases hb : Nat.beq f 39 with
  | false => exact lf0_ok
  | true =>
    obtain rfl := Nat.eq_of_beq_eq_true hb
    refine lf1_ok key_ok (fun st o x st' hg ho => ?_) hf hc
    cases b with
    | false => cases hg; cases ho
    | true =>
      obtain ⟨h2, h3, h4⟩ := h rfl
      refine loopG_ok noCountF ρ (fun k => rhoK n2 t1 k) ((n2 + 1) * t1) (fuel := 1000000) (cf := evFun Try.prog envF 1000) (lf := fun _ => none) (by simp) rfl (fun k _ => by letI : Rho := rhoK n2 t1 k; exact evFun_ok noCountF envF_ok 1000) (fun k _ => by letI : Rho := rhoK n2 t1 k; exact lf0_ok) (fun k _ => ⟨fun n hn => ?_, rfl⟩) (fun k hk => ?_) ?_ (fun n => ?_) st o x st' hg ho
      · match n, hn with
        | 0, _ => rfl
        | 1, _ => rfl
      · rw [rt_eq]; exact roundA h2 h3 h4 hk
      · rw [rt_eq]; exact lastA h2 h4 rfl
      · match n with
        | 0 => rfl
        | 1 => rfl
        | 2 => rfl
        | 3 =>
          show Dat.dI ((min (0 / t1) n2 : Nat) : Int) = .dI 0
          rw [Nat.zero_div, Nat.zero_min]; rfl
        | 4 =>
          show Dat.dI ((0 / t1 : Nat) : Int) = .dI 0
          rw [Nat.zero_div]; rfl
        | 5 =>
          show Dat.dI ((if 0 = (n2 + 1) * t1 then 0 else t1 - 0 % t1 : Nat) : Int) = .dI (IntKind.i64.wrap (t1 : Int))
          have hp : 0 < (n2 + 1) * t1 := Nat.mul_pos (by omega) (by omega)
          rw [if_neg (by omega), Nat.zero_mod, wn t1 (by omega)]; rfl
        | 6 =>
          show Dat.dB (decide (t1 ≤ min 0 ((n2 + 1) * t1 - 1))) = .dB false
          rw [decide_eq_false (by omega)]
        | 7 =>
          show Dat.dB (decide (0 = (n2 + 1) * t1)) = .dB false
          have hp : 0 < (n2 + 1) * t1 := Nat.mul_pos (by omega) (by omega)
          rw [decide_eq_false (by omega)]
        | n + 8 => rfl
noncomputable def lawT (b : Bool) : Tree AV := evFun Try.prog (envL b) 1000 39 [.sint .u8 (.var 0), .sint .u8 (.var 1)] heap0 fun v _ => .leaf v
abbrev leafB (b : Bool) : Tree AV := .leaf (.bool b)
/-- The law's tree; z: what stands behind the loop. -/
def lawA (z : Tree AV) : Tree AV := .fork (.ib .gtr .u8 (.var 0) (.ci 12)) (leafB true) (.fork (.ib .lss .u8 (.var 1) (.ci 1)) (leafB true) (.fork (.ib .gtr .u8 (.var 1) (.ci 12)) (leafB true)
  (.fork (.ib .geq .i64 (.wrap .i64 (.var 0)) (.ci 0)) (.fork (.ib .gtr .i64 (.wrap .i64 (.var 0)) (.ci 255)) (leafB false)
    (.fork (.ib .geq .i64 (.wrap .i64 (.var 1)) (.ci 1)) (.fork (.ib .gtr .i64 (.wrap .i64 (.var 1)) (.ci 255)) (leafB false) z) (leafB false))) (leafB false))))
def behind : Tree AV := .fork (.ib .eql .i64 (.var 3) (.wrap .i64 (.var 0))) (leafB true) (leafB false)
set_option maxRecDepth 100000 in
theorem lawT_in : lawT true = lawA behind := by kernel_rfl
set_option maxRecDepth 100000 in
theorem lawT_out : lawT false = lawA .fail := by kernel_rfl
theorem ok_out [Rho] {c : Tm} {x y : Tree AV} (h : c.den.asB = true) (hx : x.ok) : (Tree.fork c x y).ok := ⟨fun _ => hx, fun k => absurd (h.symm.trans k) (by simp)⟩
theorem ok_on [Rho] {c : Tm} {x y : Tree AV} (h : c.den.asB = false) (hy : y.ok) : (Tree.fork c x y).ok := ⟨fun k => absurd (h.symm.trans k) (by simp), fun _ => hy⟩
theorem ok_tt [Rho] : (leafB true).ok := ⟨.cb true, rfl, rfl⟩
theorem law_in {n2 t1 : Nat} (h2 : n2 ≤ 12) (h3 : 1 ≤ t1) (h4 : t1 ≤ 12) : @Tree.ok (rhoK n2 t1 ((n2 + 1) * t1)) (lawA behind) := by
  letI ρ : Rho := rhoK n2 t1 ((n2 + 1) * t1)
  have d0 : (Tm.wrap .i64 (.var 0)).den.asI = (n2 : Int) := wn n2 (by omega)
  have d1 : (Tm.wrap .i64 (.var 1)).den.asI = (t1 : Int) := wn t1 (by omega)
  have e0 : (Tm.var 0).den.asI = (n2 : Int) := rfl
  have e1 : (Tm.var 1).den.asI = (t1 : Int) := rfl
  have c0 : ∀ n : Int, (Tm.ci n).den.asI = n := fun _ => rfl
  refine ok_on (decide_eq_false (by rw [e0, c0]; omega)) (ok_on (decide_eq_false (by rw [e1, c0]; omega)) (ok_on (decide_eq_false (by rw [e1, c0]; omega)) (ok_out (decide_eq_true (by rw [d0, c0]; omega)) (ok_on (decide_eq_false (by rw [d0, c0]; omega))
    (ok_out (decide_eq_true (by rw [d1, c0]; omega)) (ok_on (decide_eq_false (by rw [d1, c0]; omega)) (ok_out (beq_iff_eq.2 ?_) ok_tt)))))))
  rw [d0]
  show ((min ((n2 + 1) * t1 / t1) n2 : Nat) : Int) = _
  rw [Nat.mul_div_cancel _ (by omega)]; omega
theorem law_out {n2 t1 : Nat} (h : ¬ (n2 ≤ 12 ∧ 1 ≤ t1 ∧ t1 ≤ 12)) : @Tree.ok (rhoK n2 t1 ((n2 + 1) * t1)) (lawA .fail) := by
  letI ρ : Rho := rhoK n2 t1 ((n2 + 1) * t1)
  have e0 : (Tm.var 0).den.asI = (n2 : Int) := rfl
  have e1 : (Tm.var 1).den.asI = (t1 : Int) := rfl
  have c0 : ∀ n : Int, (Tm.ci n).den.asI = n := fun _ => rfl
  rcases Nat.lt_or_ge 12 n2 with h2 | h2
  · exact ok_out (decide_eq_true (by rw [e0, c0]; omega)) ok_tt
  · rcases Nat.lt_or_ge t1 1 with h3 | h3
    · exact ok_on (decide_eq_false (by rw [e0, c0]; omega)) (ok_out (decide_eq_true (by rw [e1, c0]; omega)) ok_tt)
    · exact ok_on (decide_eq_false (by rw [e0, c0]; omega)) (ok_on (decide_eq_false (by rw [e1, c0]; omega)) (ok_out (decide_eq_true (by rw [e1, c0]; omega)) ok_tt))
end Go.Proofs.Ytlbkficdelepeaa.Ab.Af
namespace Go.Proofs.Ytlbkficdelepeaa
open Go Go.Proofs.Ytlbkficdelepeaa.Ab Go.Proofs.Ytlbkficdelepeaa.Ab.Af
set_option maxRecDepth 100000 in
theorem arqFails_walk (n2 : Int) (w2 : (Lit.int .u8 n2).wf = true) (t1 : Int) (w1 : (Lit.int .u8 t1).wf = true) (w : World) :
    Calls Try.prog 39 #[.int .u8 n2, .int .u8 t1] w fun e w' => e = .returned (.bool true) ∧ RowKit.Below w.heap.size w w' := by
  simp [Lit.wf, IntKind.min, IntKind.max, IntKind.signed, IntKind.bits] at w2 w1
  have p2 : 0 ≤ n2 := w2.1
  have p1 : 0 ≤ t1 := w1.1
  obtain ⟨a, rfl⟩ := Int.eq_ofNat_of_zero_le p2
  obtain ⟨b, rfl⟩ := Int.eq_ofNat_of_zero_le p1
  letI ρ : Rho := rhoK a b ((a + 1) * b)
  have hv : VRs (fun _ => none) [.sint .u8 (.var 0), .sint .u8 (.var 1)] [.int .u8 (a : Int), .int .u8 (b : Int)] := ⟨_, _, rfl, ⟨_, _, rfl, rfl, rfl⟩, rfl⟩
  by_cases h : a ≤ 12 ∧ 1 ≤ b ∧ b ≤ 12
  · refine call_true (evFun_ok noCountF (envL_ok true a b fun _ => h) 1000) (args := [.sint .u8 (.var 0), .sint .u8 (.var 1)]) ?_ (cargs := [.int .u8 (a : Int), .int .u8 (b : Int)]) hv w
    have := law_in h.1 h.2.1 h.2.2
    rw [← lawT_in] at this; exact this
  · refine call_true (evFun_ok noCountF (envL_ok false a b fun h => by cases h) 1000) (args := [.sint .u8 (.var 0), .sint .u8 (.var 1)]) ?_ (cargs := [.int .u8 (a : Int), .int .u8 (b : Int)]) hv w
    have := law_out h
    rw [← lawT_out] at this; exact this
end Go.Proofs.Ytlbkficdelepeaa
