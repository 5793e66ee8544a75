/-
  TablesJudge, called: it returns true and makes at most new blocks.
  Conditions: arguments as the model reads them.
-/
import Derived.Test.YtlbkficdelepeaaTjT
import Derived.Test.YtlbkficdelepeaaTjP
import Derived.Test.YtlbkficdelepeaaBase
namespace Go.Proofs.Ytlbkficdelepeaa.Ab.Tj
set_option linter.unusedSimpArgs false
set_option linter.unusedVariables false
open Go
set_option linter.unusedSectionVars false
noncomputable section
theorem eqW {α : Type} {x y u v : α} (h : u = v) (h1 : x = u) (h2 : y = v) : x = y := h1.trans (h.trans h2.symm)
theorem first_not (p : Nat → Prop) (n : Nat) : (∀ i, i < n → p i) ∨ ∃ m, m < n ∧ ¬ p m ∧ ∀ i, i < m → p i := by
  induction n with
  | zero => exact .inl fun i hi => by omega
  | succ n ih =>
    rcases ih with h | ⟨m, h1, h2, h3⟩
    · by_cases hp : p n
      · refine .inl fun i hi => ?_
        rcases Nat.lt_or_ge i n with h4 | h4
        · exact h i h4
        · obtain rfl : i = n := by omega
          exact hp
      · exact .inr ⟨n, by omega, hp, h⟩
    · exact .inr ⟨m, by omega, h2, h3⟩
def moD (n2 : Int) : Dat := @Tm.den ⟨fun _ => .dI n2, fnT⟩ moT
def seqC (L : List (List Dat)) (n2 : Int) : Nat → List Dat
  | 0 => [.dI 1, .dB false, .dI 0, moD n2, .dI 0, .dB false, .dI 0, .dB false, .dB false]
  | k + 1 => cNext (seqC L n2 k) (L.getD k [])
def seqX (L : List (List Dat)) (n2 : Int) : Nat → List Dat
  | 0 => [.dB false, .dI 0, .dI 0, .dB false, .dI 0, .dI 0]
  | k + 1 => xNext (seqC L n2 k) (L.getD k []) (seqX L n2 k)
def rowsD (L : List (List Dat)) : Nat → Dat
  | 0 => .dB false
  | k + 1 => .dL ((rowsD L k).asL ++ [[(L.getD k []).getD 0 (.dI 0), (L.getD k []).getD 1 (.dI 0), (L.getD k []).getD 2 (.dI 0), (L.getD k []).getD 3 (.dI 0), (L.getD k []).getD 4 (.dI 0), (L.getD k []).getD 5 (.dI 0), (L.getD k []).getD 6 (.dI 0), (L.getD k []).getD 7 (.dI 0)]])
abbrev rhoT (L : List (List Dat)) (n2 : Int) (k1 : Nat) (c x : List Dat) (R : Dat) (k2 : Nat) (c2 : List Dat) (k3 : Nat) (c3 x3 : List Dat) : Rho := ⟨fun j => bif Nat.blt j 3 then [Dat.dL L, .dI n2, .dI k1].getD j (.dI 0) else bif Nat.blt j 12 then c.getD (j - 3) (.dI 0) else bif Nat.blt j 18 then x.getD (j - 12) (.dI 0) else bif Nat.blt j 19 then R else bif Nat.blt j 20 then .dI k2 else bif Nat.blt j 29 then c2.getD (j - 20) (.dI 0) else bif Nat.blt j 30 then .dI k3 else bif Nat.blt j 39 then c3.getD (j - 30) (.dI 0) else x3.getD (j - 39) (.dI 0), fnT⟩
def RowsE (L : List (List Dat)) : Prop := ∀ i, i < L.length → RowE (L.getD i []) ∧ (L.getD i []).length = 8
section
variable {L : List (List Dat)} {n2 : Int}
theorem moD_ok (n2 : Int) : 0 ≤ (moD n2).asI ∧ (moD n2).asI ≤ 255 ∧ (moD n2).asI = (@Tm.den ⟨fun _ => .dI n2, fnT⟩ noT).asI := by
  have e1 : ∀ c x y : Tm, ∀ ρ : Rho, (@Tm.den ρ (.ite c x y)).asI = if (@Tm.den ρ c).asB = true then (@Tm.den ρ x).asI else (@Tm.den ρ y).asI := fun c x y ρ => by
    show (bif (@Tm.den ρ c).asB then @Tm.den ρ x else @Tm.den ρ y).asI = _
    cases (@Tm.den ρ c).asB <;> rfl
  have e2 : ∀ x y : Tm, ∀ ρ : Rho, (@Tm.den ρ (.ib .lss .i64 x y)).asB = decide ((@Tm.den ρ x).asI < (@Tm.den ρ y).asI) := fun _ _ _ => rfl
  have e3 : ∀ x y : Tm, ∀ ρ : Rho, (@Tm.den ρ (.ib .gtr .i64 x y)).asB = decide ((@Tm.den ρ x).asI > (@Tm.den ρ y).asI) := fun _ _ _ => rfl
  have e4 : ∀ n : Int, ∀ ρ : Rho, (@Tm.den ρ (.ci n)).asI = n := fun _ _ => rfl
  have e5 : (@Tm.den ⟨fun _ => .dI n2, fnT⟩ (vt 1)).asI = n2 := rfl
  unfold moD
  simp only [moT, loT, noT, hiT, e1, e2, e3, e4, e5, decide_eq_true_eq]
  repeat' split
  all_goals omega
theorem core_ok (hL : RowsE L) : ∀ k, k ≤ L.length → CoreOk (seqC L n2 k)
  | 0, _ => ⟨by show 1 ≤ (1 : Int) ∧ (1 : Int) ≤ 5; omega, ⟨(moD_ok n2).1, (moD_ok n2).2.1⟩, .inl rfl⟩
  | k + 1, hk => (evRel (core_ok hL k (by omega)) (hL k (by omega)).1 []).ok
theorem ev_at (hL : RowsE L) {k : Nat} (hk : k < L.length) (x : List Dat) : EvRel (seqC L n2 k) (L.getD k []) x := evRel (core_ok hL k (by omega)) (hL k hk).1 x
theorem row8 {r : List Dat} (h : r.length = 8) : [r.getD 0 (.dI 0), r.getD 1 (.dI 0), r.getD 2 (.dI 0), r.getD 3 (.dI 0), r.getD 4 (.dI 0), r.getD 5 (.dI 0), r.getD 6 (.dI 0), r.getD 7 (.dI 0)] = r := by
  match r, h with
  | [_, _, _, _, _, _, _, _], _ => rfl
theorem rowsD_eq (hL : RowsE L) : ∀ k, k ≤ L.length → (rowsD L k).asL = L.take k
  | 0, _ => rfl
  | k + 1, hk => by
    show (rowsD L k).asL ++ [_] = _
    rw [rowsD_eq hL k (by omega), row8 (hL k (by omega)).2, List.take_add_one, List.getElem?_eq_getElem (by omega)]
    simp [List.getD_eq_getElem?_getD, List.getElem?_eq_getElem (show k < L.length by omega)]
theorem rowsD_all (hL : RowsE L) : (rowsD L L.length).asL = L := by rw [rowsD_eq hL _ (Nat.le_refl _), List.take_length]
theorem seqX_len : ∀ k, (seqX L n2 k).length = 6
  | 0 => rfl
  | _ + 1 => rfl
theorem valT {L' : List (List Dat)} {m2 : Int} {k1 k2 k3 k1' k2' k3' : Nat} {c x c2 c3 x3 c' x' c2' c3' x3' : List Dat} {R R' : Dat} (h1 : x3.length = 6) (h2 : x3'.length = 6) (n : Nat) : (rhoT L n2 k1 c x R k2 c2 k3 c3 x3).val (n + 45) = (rhoT L' m2 k1' c' x' R' k2' c2' k3' c3' x3').val (n + 45) := by
  have b : ∀ m : Nat, m ≤ 45 → Nat.blt (n + 45) m = false := fun m hm => by
    rw [Bool.eq_false_iff]; intro h; rw [Nat.blt_eq] at h; omega
  show (bif Nat.blt (n + 45) 3 then _ else bif Nat.blt (n + 45) 12 then _ else bif Nat.blt (n + 45) 18 then _ else bif Nat.blt (n + 45) 19 then _ else bif Nat.blt (n + 45) 20 then _ else bif Nat.blt (n + 45) 29 then _ else bif Nat.blt (n + 45) 30 then _ else bif Nat.blt (n + 45) 39 then _ else x3.getD (n + 45 - 39) (.dI 0)) = (bif Nat.blt (n + 45) 3 then _ else bif Nat.blt (n + 45) 12 then _ else bif Nat.blt (n + 45) 18 then _ else bif Nat.blt (n + 45) 19 then _ else bif Nat.blt (n + 45) 20 then _ else bif Nat.blt (n + 45) 29 then _ else bif Nat.blt (n + 45) 30 then _ else bif Nat.blt (n + 45) 39 then _ else x3'.getD (n + 45 - 39) (.dI 0))
  simp only [b 3 (by omega), b 12 (by omega), b 18 (by omega), b 19 (by omega), b 20 (by omega), b 29 (by omega), b 30 (by omega), b 39 (by omega), cond_false]
  rw [List.getD_eq_getElem?_getD, List.getD_eq_getElem?_getD, List.getElem?_eq_none (by omega), List.getElem?_eq_none (by omega)]
theorem addK {t : Nat} {ρ ρ' : Rho} {i : Nat} (h : i ≤ 1000) (e : (ρ.val t).asI = (i : Int)) (e' : (ρ'.val t).asI = ((i + 1 : Nat) : Int)) : (@Tm.den ρ' (vt t)).asI = (@Tm.den ρ (.ib .add .i64 (vt t) (.ci 1))).asI := by
  show (ρ'.val t).asI = IntKind.i64.wrap ((ρ.val t).asI + 1)
  rw [e, e', i64wrap (by omega) (by omega)]
  omega
theorem insideK {t : Nat} {ρ : Rho} {i n : Nat} {l : Tm} (e : (ρ.val t).asI = (i : Int)) (el : (@Tm.den ρ (.llen l)).asI = (n : Int)) (h : i < n) : (@Tm.den ρ (.ib .lss .i64 (vt t) (.llen l))).asB = true ∧ (@Tm.den ρ (.and (.ib .leq .i64 (.ci 0) (vt t)) (.ib .lss .i64 (vt t) (.llen l)))).asB = true := by
  have e1 : (@Tm.den ρ (.ib .lss .i64 (vt t) (.llen l))).asB = true := by
    rw [lss_t, el]
    show (ρ.val t).asI < _ ∧ ¬ _ ≤ (ρ.val t).asI
    rw [e]; omega
  refine ⟨e1, ?_⟩
  rw [and_t]
  refine ⟨?_, e1⟩
  rw [leq_t]
  show (0 : Int) ≤ (ρ.val t).asI ∧ ¬ (ρ.val t).asI < 0
  rw [e]; omega
theorem outsK {t : Nat} {ρ : Rho} {i n : Nat} {l : Tm} (e : (ρ.val t).asI = (i : Int)) (el : (@Tm.den ρ (.llen l)).asI = (n : Int)) (h : n ≤ i) : (@Tm.den ρ (.ib .lss .i64 (vt t) (.llen l))).asB = false := by
  rw [lss_f, el]
  show _ ≤ (ρ.val t).asI ∧ ¬ (ρ.val t).asI < _
  rw [e]; omega
abbrev Nx (ρ ρ' : Rho) (t : Tree (AX × Option Eqs)) : Prop := ∃ es, @Tree.sel _ ρ t = some (AX.normal, some es) ∧ EqsOk ρ' ρ es
theorem nxT {ρ ρ' : Rho} {c : Tm} {x y : Tree (AX × Option Eqs)} (h : (@Tm.den ρ c).asB = true) (n : Nx ρ ρ' x) : Nx ρ ρ' (.fork c x y) := by
  obtain ⟨es, h1, h2⟩ := n
  exact ⟨es, by rw [sel_T h]; exact h1, h2⟩
theorem nxF {ρ ρ' : Rho} {c : Tm} {x y : Tree (AX × Option Eqs)} (h : (@Tm.den ρ c).asB = false) (n : Nx ρ ρ' y) : Nx ρ ρ' (.fork c x y) := by
  obtain ⟨es, h1, h2⟩ := n
  exact ⟨es, by rw [sel_F h]; exact h1, h2⟩
theorem nxL {ρ ρ' : Rho} {es : Eqs} (h : EqsOk ρ' ρ es) : Nx ρ ρ' (.leaf (.normal, some es)) := ⟨es, rfl, h⟩
section
variable {k2 k3 : Nat} {c2 c3 x3 : List Dat}
/-- The letters in the first loop. -/
abbrev rho1 (L : List (List Dat)) (n2 : Int) (k2 : Nat) (c2 : List Dat) (k3 : Nat) (c3 x3 : List Dat) (k : Nat) : Rho := rhoT L n2 k (seqC L n2 k) (seqX L n2 k) (rowsD L k) k2 c2 k3 c3 x3
theorem round1 (hL : RowsE L) (hN : L.length ≤ 300) {k : Nat} (hk : k < L.length) : Nx (rho1 L n2 k2 c2 k3 c3 x3 k) (rho1 L n2 k2 c2 k3 c3 x3 (k + 1)) rt1T := by
  have E := ev_at (n2 := n2) hL hk (seqX L n2 k)
  have er := rowsD_eq hL k (by omega)
  obtain ⟨i1, i2⟩ := insideK (t := 2) (ρ := rho1 L n2 k2 c2 k3 c3 x3 k) (i := k) (n := L.length) (l := vt 0) rfl rfl hk
  refine nxT i1 (nxT i2 (nxT ?_ (nxT (eqW (congrArg Dat.asB E.dJ) (by kernel_rfl) (by kernel_rfl)) (nxT (eqW (congrArg Dat.asB E.dR) (by kernel_rfl) (by kernel_rfl)) (nxF ?_ (nxL ?_))))))
  · rw [lss_t]
    show ((rowsD L k).asL.length : Int) < 4294967295 ∧ ¬ (4294967295 : Int) ≤ ((rowsD L k).asL.length : Int)
    rw [er, List.length_take]
    omega
  · rw [not_f, beq_t]
    exact eqW (congrArg Dat.asB E.e0) (by kernel_rfl) (by kernel_rfl)
  · exact (eI _ _ _ _).2 ⟨addK (t := 2) (i := k) (by omega) rfl rfl, (eI _ _ _ _).2 ⟨(by kernel_rfl), (eI _ _ _ _).2 ⟨eqW (congrArg Dat.asI E.e1) (by kernel_rfl) (by kernel_rfl), (eB _ _ _ _).2 ⟨eqW (congrArg Dat.asB E.e2) (by kernel_rfl) (by kernel_rfl), (eI _ _ _ _).2 ⟨eqW (congrArg Dat.asI E.e4) (by kernel_rfl) (by kernel_rfl), (eI _ _ _ _).2 ⟨eqW (congrArg Dat.asI E.e3) (by kernel_rfl) (by kernel_rfl), (eL _ _ _ _).2 ⟨(by kernel_rfl), (eI _ _ _ _).2 ⟨eqW (congrArg Dat.asI E.e5) (by kernel_rfl) (by kernel_rfl), (eB _ _ _ _).2 ⟨(by kernel_rfl), (eB _ _ _ _).2 ⟨eqW (congrArg Dat.asB E.e6) (by kernel_rfl) (by kernel_rfl), (eI _ _ _ _).2 ⟨(by kernel_rfl), (eI _ _ _ _).2 ⟨(by kernel_rfl), (eI _ _ _ _).2 ⟨eqW (congrArg Dat.asI E.e7) (by kernel_rfl) (by kernel_rfl), (eB _ _ _ _).2 ⟨(by kernel_rfl), (eB _ _ _ _).2 ⟨eqW (congrArg Dat.asB E.e8) (by kernel_rfl) (by kernel_rfl), (eI _ _ _ _).2 ⟨(by kernel_rfl), (eI _ _ _ _).2 ⟨(by kernel_rfl), (eB _ _ _ _).2 ⟨eqW (congrArg Dat.asB E.e9) (by kernel_rfl) (by kernel_rfl), (eI _ _ _ _).2 ⟨(by kernel_rfl), (eB _ _ _ _).2 ⟨(by kernel_rfl), (eI _ _ _ _).2 ⟨(by kernel_rfl), (eI _ _ _ _).2 ⟨(by kernel_rfl), (eI _ _ _ _).2 ⟨(by kernel_rfl), (eB _ _ _ _).2 ⟨(by kernel_rfl), (eI _ _ _ _).2 ⟨(by kernel_rfl), (eB _ _ _ _).2 ⟨(by kernel_rfl), (eB _ _ _ _).2 ⟨(by kernel_rfl), trivial⟩⟩⟩⟩⟩⟩⟩⟩⟩⟩⟩⟩⟩⟩⟩⟩⟩⟩⟩⟩⟩⟩⟩⟩⟩⟩⟩
theorem g1T_ok (hL : RowsE L) (hN : L.length ≤ 300) (h3 : x3.length = 6) : GOk (rho1 L n2 k2 c2 k3 c3 x3 L.length) fTj 0 g1T := by
  refine loopN_ok noCount (rho1 L n2 k2 c2 k3 c3 x3 L.length) (fun k => rho1 L n2 k2 c2 k3 c3 x3 k) L.length (fuel := 1000000) (cf := evFun Try.prog envT 1000) (lf := fun _ => none) (by simp) rfl (fun k _ => by letI : Rho := rho1 L n2 k2 c2 k3 c3 x3 k; exact evFun_ok noCount (envT_ok rfl) 1000) (fun k _ => by letI : Rho := rho1 L n2 k2 c2 k3 c3 x3 k; exact lf0_ok) (fun k _ => ⟨fun n hn => ?_, rfl⟩) (fun k hk => ?_) ?_ (fun n => ?_)
  · match n, hn with
    | 0, _ => rfl
    | 1, _ => rfl
  · rw [rt1T_eq]; exact round1 hL hN hk
  · rw [rt1T_eq]
    refine ⟨_, sel_F (outsK (t := 2) (i := L.length) (n := L.length) (l := vt 0) rfl rfl (Nat.le_refl _)), ?_⟩
    exact ⟨rfl, rfl, trivial⟩
  · match n with
    | 0 => (show _ = _; kernel_rfl)
    | 1 => (show _ = _; kernel_rfl)
    | 2 => (show _ = _; kernel_rfl)
    | 3 => (show _ = _; kernel_rfl)
    | 4 => (show _ = _; kernel_rfl)
    | 5 => (show _ = _; kernel_rfl)
    | 6 => (show _ = _; kernel_rfl)
    | 7 => (show _ = _; kernel_rfl)
    | 8 => (show _ = _; kernel_rfl)
    | 9 => (show _ = _; kernel_rfl)
    | 10 => (show _ = _; kernel_rfl)
    | 11 => (show _ = _; kernel_rfl)
    | 12 => (show _ = _; kernel_rfl)
    | 13 => (show _ = _; kernel_rfl)
    | 14 => (show _ = _; kernel_rfl)
    | 15 => (show _ = _; kernel_rfl)
    | 16 => (show _ = _; kernel_rfl)
    | 17 => (show _ = _; kernel_rfl)
    | 18 => (show _ = _; kernel_rfl)
    | 19 => (show _ = _; kernel_rfl)
    | 20 => (show _ = _; kernel_rfl)
    | 21 => (show _ = _; kernel_rfl)
    | 22 => (show _ = _; kernel_rfl)
    | 23 => (show _ = _; kernel_rfl)
    | 24 => (show _ = _; kernel_rfl)
    | 25 => (show _ = _; kernel_rfl)
    | 26 => (show _ = _; kernel_rfl)
    | 27 => (show _ = _; kernel_rfl)
    | 28 => (show _ = _; kernel_rfl)
    | 29 => (show _ = _; kernel_rfl)
    | 30 => (show _ = _; kernel_rfl)
    | 31 => (show _ = _; kernel_rfl)
    | 32 => (show _ = _; kernel_rfl)
    | 33 => (show _ = _; kernel_rfl)
    | 34 => (show _ = _; kernel_rfl)
    | 35 => (show _ = _; kernel_rfl)
    | 36 => (show _ = _; kernel_rfl)
    | 37 => (show _ = _; kernel_rfl)
    | 38 => (show _ = _; kernel_rfl)
    | 39 => (show _ = _; kernel_rfl)
    | 40 => (show _ = _; kernel_rfl)
    | 41 => (show _ = _; kernel_rfl)
    | 42 => (show _ = _; kernel_rfl)
    | 43 => (show _ = _; kernel_rfl)
    | 44 => (show _ = _; kernel_rfl)
    | n + 45 => exact valT h3 h3 n
section
variable {c x : List Dat} {R : Dat} {k1 k3 : Nat} {c3 x3 : List Dat}
abbrev rho2A (L : List (List Dat)) (n2 : Int) (k1 : Nat) (c x : List Dat) (R : Dat) (k3 : Nat) (c3 x3 : List Dat) (k : Nat) : Rho := rhoT L n2 k1 c x R k (seqC L n2 k) k3 c3 x3
theorem round2A (hL : RowsE L) (hN : L.length ≤ 300) {k : Nat} (hk : k < L.length) (hb : (Jm (seqC L n2 k) (L.getD k []) 0).asB = true) : Nx (rho2A L n2 k1 c x R k3 c3 x3 k) (rho2A L n2 k1 c x R k3 c3 x3 (k + 1)) rt2A := by
  have E := ev_at (n2 := n2) hL hk []
  obtain ⟨i1, i2⟩ := insideK (t := 19) (ρ := rho2A L n2 k1 c x R k3 c3 x3 k) (i := k) (n := L.length) (l := vt 0) rfl rfl hk
  refine nxT i1 (nxT i2 (nxT (eqW (congrArg Dat.asB E.dJ) (by kernel_rfl) (by kernel_rfl)) (nxF ?_ (nxL ?_))))
  · rw [not_f]
    exact eqW hb (by kernel_rfl) rfl
  · exact (eI _ _ _ _).2 ⟨addK (t := 19) (i := k) (by omega) rfl rfl, (eI _ _ _ _).2 ⟨(by kernel_rfl), (eB _ _ _ _).2 ⟨(by kernel_rfl), (eI _ _ _ _).2 ⟨(by kernel_rfl), (eI _ _ _ _).2 ⟨(by kernel_rfl), (eI _ _ _ _).2 ⟨(by kernel_rfl), (eB _ _ _ _).2 ⟨(by kernel_rfl), (eI _ _ _ _).2 ⟨(by kernel_rfl), (eB _ _ _ _).2 ⟨(by kernel_rfl), (eB _ _ _ _).2 ⟨(by kernel_rfl), trivial⟩⟩⟩⟩⟩⟩⟩⟩⟩⟩
theorem g2A_ok (hL : RowsE L) (hN : L.length ≤ 300) (h3 : x3.length = 6) (hb : ∀ k, k < L.length → (Jm (seqC L n2 k) (L.getD k []) 0).asB = true) : GOk (rho2A L n2 k1 c x R k3 c3 x3 L.length) fAj 0 g2A := by
  refine loopN_ok noCount (rho2A L n2 k1 c x R k3 c3 x3 L.length) (fun k => rho2A L n2 k1 c x R k3 c3 x3 k) L.length (fuel := 1000000) (cf := evFun Try.prog envT 1000) (lf := fun _ => none) (by simp) rfl (fun k _ => by letI : Rho := rho2A L n2 k1 c x R k3 c3 x3 k; exact evFun_ok noCount (envT_ok rfl) 1000) (fun k _ => by letI : Rho := rho2A L n2 k1 c x R k3 c3 x3 k; exact lf0_ok) (fun k _ => ⟨fun n hn => ?_, rfl⟩) (fun k hk => ?_) ?_ (fun n => ?_)
  · match n, hn with
    | 0, _ => (show _ = _; kernel_rfl)
    | 1, _ => (show _ = _; kernel_rfl)
    | 2, _ => (show _ = _; kernel_rfl)
    | 3, _ => (show _ = _; kernel_rfl)
    | 4, _ => (show _ = _; kernel_rfl)
    | 5, _ => (show _ = _; kernel_rfl)
    | 6, _ => (show _ = _; kernel_rfl)
    | 7, _ => (show _ = _; kernel_rfl)
    | 8, _ => (show _ = _; kernel_rfl)
    | 9, _ => (show _ = _; kernel_rfl)
    | 10, _ => (show _ = _; kernel_rfl)
    | 11, _ => (show _ = _; kernel_rfl)
    | 12, _ => (show _ = _; kernel_rfl)
    | 13, _ => (show _ = _; kernel_rfl)
    | 14, _ => (show _ = _; kernel_rfl)
    | 15, _ => (show _ = _; kernel_rfl)
    | 16, _ => (show _ = _; kernel_rfl)
    | 17, _ => (show _ = _; kernel_rfl)
    | 18, _ => (show _ = _; kernel_rfl)
    | n + 19, hn => exact absurd hn (by omega)
  · rw [rt2A_eq]; exact round2A hL hN (by omega) (hb k hk)
  · rw [rt2A_eq]
    exact ⟨[], sel_F (outsK (t := 19) (i := L.length) (n := L.length) (l := vt 0) rfl rfl (Nat.le_refl _)), trivial⟩
  · match n with
    | 0 => (show _ = _; kernel_rfl)
    | 1 => (show _ = _; kernel_rfl)
    | 2 => (show _ = _; kernel_rfl)
    | 3 => (show _ = _; kernel_rfl)
    | 4 => (show _ = _; kernel_rfl)
    | 5 => (show _ = _; kernel_rfl)
    | 6 => (show _ = _; kernel_rfl)
    | 7 => (show _ = _; kernel_rfl)
    | 8 => (show _ = _; kernel_rfl)
    | 9 => (show _ = _; kernel_rfl)
    | 10 => (show _ = _; kernel_rfl)
    | 11 => (show _ = _; kernel_rfl)
    | 12 => (show _ = _; kernel_rfl)
    | 13 => (show _ = _; kernel_rfl)
    | 14 => (show _ = _; kernel_rfl)
    | 15 => (show _ = _; kernel_rfl)
    | 16 => (show _ = _; kernel_rfl)
    | 17 => (show _ = _; kernel_rfl)
    | 18 => (show _ = _; kernel_rfl)
    | 19 => (show _ = _; kernel_rfl)
    | 20 => (show _ = _; kernel_rfl)
    | 21 => (show _ = _; kernel_rfl)
    | 22 => (show _ = _; kernel_rfl)
    | 23 => (show _ = _; kernel_rfl)
    | 24 => (show _ = _; kernel_rfl)
    | 25 => (show _ = _; kernel_rfl)
    | 26 => (show _ = _; kernel_rfl)
    | 27 => (show _ = _; kernel_rfl)
    | 28 => (show _ = _; kernel_rfl)
    | 29 => (show _ = _; kernel_rfl)
    | 30 => (show _ = _; kernel_rfl)
    | 31 => (show _ = _; kernel_rfl)
    | 32 => (show _ = _; kernel_rfl)
    | 33 => (show _ = _; kernel_rfl)
    | 34 => (show _ = _; kernel_rfl)
    | 35 => (show _ = _; kernel_rfl)
    | 36 => (show _ = _; kernel_rfl)
    | 37 => (show _ = _; kernel_rfl)
    | 38 => (show _ = _; kernel_rfl)
    | 39 => (show _ = _; kernel_rfl)
    | 40 => (show _ = _; kernel_rfl)
    | 41 => (show _ = _; kernel_rfl)
    | 42 => (show _ = _; kernel_rfl)
    | 43 => (show _ = _; kernel_rfl)
    | 44 => (show _ = _; kernel_rfl)
    | n + 45 => exact valT h3 h3 n
end
section
variable {c x : List Dat} {R : Dat} {k1 k3 : Nat} {c3 x3 : List Dat}
abbrev rho2B (L : List (List Dat)) (n2 : Int) (k1 : Nat) (c x : List Dat) (R : Dat) (k3 : Nat) (c3 x3 : List Dat) (k : Nat) : Rho := rhoT L n2 k1 c x R k (seqC L n2 k) k3 c3 x3
theorem round2B (hL : RowsE L) (hN : L.length ≤ 300) {k : Nat} (hk : k < L.length) (hb : (Jm (seqC L n2 k) (L.getD k []) 0).asB = true) : Nx (rho2B L n2 k1 c x R k3 c3 x3 k) (rho2B L n2 k1 c x R k3 c3 x3 (k + 1)) rt2B := by
  have E := ev_at (n2 := n2) hL hk []
  obtain ⟨i1, i2⟩ := insideK (t := 19) (ρ := rho2B L n2 k1 c x R k3 c3 x3 k) (i := k) (n := L.length) (l := vt 0) rfl rfl hk
  refine nxT i1 (nxT i2 (nxT (eqW (congrArg Dat.asB E.dJ) (by kernel_rfl) (by kernel_rfl)) (nxF ?_ (nxL ?_))))
  · rw [not_f]
    exact eqW hb (by kernel_rfl) rfl
  · exact (eI _ _ _ _).2 ⟨addK (t := 19) (i := k) (by omega) rfl rfl, (eI _ _ _ _).2 ⟨(by kernel_rfl), (eB _ _ _ _).2 ⟨(by kernel_rfl), (eI _ _ _ _).2 ⟨(by kernel_rfl), (eI _ _ _ _).2 ⟨(by kernel_rfl), (eI _ _ _ _).2 ⟨(by kernel_rfl), (eB _ _ _ _).2 ⟨(by kernel_rfl), (eI _ _ _ _).2 ⟨(by kernel_rfl), (eB _ _ _ _).2 ⟨(by kernel_rfl), (eB _ _ _ _).2 ⟨(by kernel_rfl), trivial⟩⟩⟩⟩⟩⟩⟩⟩⟩⟩
theorem g2B_ok (hL : RowsE L) (hN : L.length ≤ 300) (h3 : x3.length = 6) {m : Nat} (hm : m < L.length) (hb : ∀ k, k < m → (Jm (seqC L n2 k) (L.getD k []) 0).asB = true) (hf : (Jm (seqC L n2 m) (L.getD m []) 0).asB = false) : GOk (rho2B L n2 k1 c x R k3 c3 x3 m) fAj 0 g2B := by
  refine loopN_ok noCount (rho2B L n2 k1 c x R k3 c3 x3 m) (fun k => rho2B L n2 k1 c x R k3 c3 x3 k) m (fuel := 1000000) (cf := evFun Try.prog envT 1000) (lf := fun _ => none) (by simp) rfl (fun k _ => by letI : Rho := rho2B L n2 k1 c x R k3 c3 x3 k; exact evFun_ok noCount (envT_ok rfl) 1000) (fun k _ => by letI : Rho := rho2B L n2 k1 c x R k3 c3 x3 k; exact lf0_ok) (fun k _ => ⟨fun n hn => ?_, rfl⟩) (fun k hk => ?_) ?_ (fun n => ?_)
  · match n, hn with
    | 0, _ => (show _ = _; kernel_rfl)
    | 1, _ => (show _ = _; kernel_rfl)
    | 2, _ => (show _ = _; kernel_rfl)
    | 3, _ => (show _ = _; kernel_rfl)
    | 4, _ => (show _ = _; kernel_rfl)
    | 5, _ => (show _ = _; kernel_rfl)
    | 6, _ => (show _ = _; kernel_rfl)
    | 7, _ => (show _ = _; kernel_rfl)
    | 8, _ => (show _ = _; kernel_rfl)
    | 9, _ => (show _ = _; kernel_rfl)
    | 10, _ => (show _ = _; kernel_rfl)
    | 11, _ => (show _ = _; kernel_rfl)
    | 12, _ => (show _ = _; kernel_rfl)
    | 13, _ => (show _ = _; kernel_rfl)
    | 14, _ => (show _ = _; kernel_rfl)
    | 15, _ => (show _ = _; kernel_rfl)
    | 16, _ => (show _ = _; kernel_rfl)
    | 17, _ => (show _ = _; kernel_rfl)
    | 18, _ => (show _ = _; kernel_rfl)
    | n + 19, hn => exact absurd hn (by omega)
  · rw [rt2B_eq]; exact round2B hL hN (by omega) (hb k hk)
  · rw [rt2B_eq]
    have E := ev_at (n2 := n2) hL hm []
    obtain ⟨i1, i2⟩ := insideK (t := 19) (ρ := rho2B L n2 k1 c x R k3 c3 x3 m) (i := m) (n := L.length) (l := vt 0) rfl rfl hm
    refine ⟨_, (sel_T i1).trans ((sel_T i2).trans ((sel_T (eqW (congrArg Dat.asB E.dJ) (by kernel_rfl) (by kernel_rfl))).trans (sel_T ?_))), ⟨rfl, trivial⟩⟩
    rw [not_t]
    exact eqW hf (by kernel_rfl) rfl
  · match n with
    | 0 => (show _ = _; kernel_rfl)
    | 1 => (show _ = _; kernel_rfl)
    | 2 => (show _ = _; kernel_rfl)
    | 3 => (show _ = _; kernel_rfl)
    | 4 => (show _ = _; kernel_rfl)
    | 5 => (show _ = _; kernel_rfl)
    | 6 => (show _ = _; kernel_rfl)
    | 7 => (show _ = _; kernel_rfl)
    | 8 => (show _ = _; kernel_rfl)
    | 9 => (show _ = _; kernel_rfl)
    | 10 => (show _ = _; kernel_rfl)
    | 11 => (show _ = _; kernel_rfl)
    | 12 => (show _ = _; kernel_rfl)
    | 13 => (show _ = _; kernel_rfl)
    | 14 => (show _ = _; kernel_rfl)
    | 15 => (show _ = _; kernel_rfl)
    | 16 => (show _ = _; kernel_rfl)
    | 17 => (show _ = _; kernel_rfl)
    | 18 => (show _ = _; kernel_rfl)
    | 19 => (show _ = _; kernel_rfl)
    | 20 => (show _ = _; kernel_rfl)
    | 21 => (show _ = _; kernel_rfl)
    | 22 => (show _ = _; kernel_rfl)
    | 23 => (show _ = _; kernel_rfl)
    | 24 => (show _ = _; kernel_rfl)
    | 25 => (show _ = _; kernel_rfl)
    | 26 => (show _ = _; kernel_rfl)
    | 27 => (show _ = _; kernel_rfl)
    | 28 => (show _ = _; kernel_rfl)
    | 29 => (show _ = _; kernel_rfl)
    | 30 => (show _ = _; kernel_rfl)
    | 31 => (show _ = _; kernel_rfl)
    | 32 => (show _ = _; kernel_rfl)
    | 33 => (show _ = _; kernel_rfl)
    | 34 => (show _ = _; kernel_rfl)
    | 35 => (show _ = _; kernel_rfl)
    | 36 => (show _ = _; kernel_rfl)
    | 37 => (show _ = _; kernel_rfl)
    | 38 => (show _ = _; kernel_rfl)
    | 39 => (show _ = _; kernel_rfl)
    | 40 => (show _ = _; kernel_rfl)
    | 41 => (show _ = _; kernel_rfl)
    | 42 => (show _ = _; kernel_rfl)
    | 43 => (show _ = _; kernel_rfl)
    | 44 => (show _ = _; kernel_rfl)
    | n + 45 => exact valT h3 h3 n
end
section
variable {D : Dat} {c x : List Dat} {k1 k2 : Nat} {c2 : List Dat}
abbrev rho3A (L : List (List Dat)) (n2 : Int) (D : Dat) (k1 : Nat) (c x : List Dat) (k2 : Nat) (c2 : List Dat) (k : Nat) : Rho := rhoT L n2 k1 c x D k2 c2 k (seqC D.asL n2 k) (seqX D.asL n2 k)
theorem round3A (hL : RowsE D.asL) (hN : D.asL.length ≤ 300) {k : Nat} (hk : k < D.asL.length) (hb : (Jm (seqC D.asL n2 k) (D.asL.getD k []) 0).asB = true) : Nx (rho3A L n2 D k1 c x k2 c2 k) (rho3A L n2 D k1 c x k2 c2 (k + 1)) rt3A := by
  have E := ev_at (n2 := n2) hL hk (seqX D.asL n2 k)
  obtain ⟨i1, i2⟩ := insideK (t := 29) (ρ := rho3A L n2 D k1 c x k2 c2 k) (i := k) (n := D.asL.length) (l := vt 18) rfl rfl hk
  refine nxT i1 (nxT i2 (nxT (eqW (congrArg Dat.asB E.dR) (by kernel_rfl) (by kernel_rfl)) (nxF ?_ (nxL ?_))))
  · rw [not_f]
    exact eqW ((congrArg Dat.asB E.e0).symm.trans hb) (by kernel_rfl) rfl
  · exact (eI _ _ _ _).2 ⟨addK (t := 29) (i := k) (by omega) rfl rfl, (eI _ _ _ _).2 ⟨eqW (congrArg Dat.asI E.e1) (by kernel_rfl) (by kernel_rfl), (eB _ _ _ _).2 ⟨eqW (congrArg Dat.asB E.e2) (by kernel_rfl) (by kernel_rfl), (eI _ _ _ _).2 ⟨eqW (congrArg Dat.asI E.e4) (by kernel_rfl) (by kernel_rfl), (eI _ _ _ _).2 ⟨eqW (congrArg Dat.asI E.e3) (by kernel_rfl) (by kernel_rfl), (eI _ _ _ _).2 ⟨eqW (congrArg Dat.asI E.e5) (by kernel_rfl) (by kernel_rfl), (eB _ _ _ _).2 ⟨(by kernel_rfl), (eB _ _ _ _).2 ⟨eqW (congrArg Dat.asB E.e6) (by kernel_rfl) (by kernel_rfl), (eI _ _ _ _).2 ⟨(by kernel_rfl), (eI _ _ _ _).2 ⟨(by kernel_rfl), (eI _ _ _ _).2 ⟨eqW (congrArg Dat.asI E.e7) (by kernel_rfl) (by kernel_rfl), (eB _ _ _ _).2 ⟨(by kernel_rfl), (eB _ _ _ _).2 ⟨eqW (congrArg Dat.asB E.e8) (by kernel_rfl) (by kernel_rfl), (eI _ _ _ _).2 ⟨(by kernel_rfl), (eI _ _ _ _).2 ⟨(by kernel_rfl), (eB _ _ _ _).2 ⟨eqW (congrArg Dat.asB E.e9) (by kernel_rfl) (by kernel_rfl), trivial⟩⟩⟩⟩⟩⟩⟩⟩⟩⟩⟩⟩⟩⟩⟩⟩
theorem g3A_ok (hL : RowsE D.asL) (hN : D.asL.length ≤ 300) (hb : ∀ k, k < D.asL.length → (Jm (seqC D.asL n2 k) (D.asL.getD k []) 0).asB = true) : GOk (rho3A L n2 D k1 c x k2 c2 D.asL.length) fAr 0 g3A := by
  refine loopN_ok noCount (rho3A L n2 D k1 c x k2 c2 D.asL.length) (fun k => rho3A L n2 D k1 c x k2 c2 k) (D.asL.length) (fuel := 1000000) (cf := evFun Try.prog envT 1000) (lf := fun _ => none) (by simp) rfl (fun k _ => by letI : Rho := rho3A L n2 D k1 c x k2 c2 k; exact evFun_ok noCount (envT_ok rfl) 1000) (fun k _ => by letI : Rho := rho3A L n2 D k1 c x k2 c2 k; exact lf0_ok) (fun k _ => ⟨fun n hn => ?_, rfl⟩) (fun k hk => ?_) ?_ (fun n => ?_)
  · match n, hn with
    | 0, _ => (show _ = _; kernel_rfl)
    | 1, _ => (show _ = _; kernel_rfl)
    | 2, _ => (show _ = _; kernel_rfl)
    | 3, _ => (show _ = _; kernel_rfl)
    | 4, _ => (show _ = _; kernel_rfl)
    | 5, _ => (show _ = _; kernel_rfl)
    | 6, _ => (show _ = _; kernel_rfl)
    | 7, _ => (show _ = _; kernel_rfl)
    | 8, _ => (show _ = _; kernel_rfl)
    | 9, _ => (show _ = _; kernel_rfl)
    | 10, _ => (show _ = _; kernel_rfl)
    | 11, _ => (show _ = _; kernel_rfl)
    | 12, _ => (show _ = _; kernel_rfl)
    | 13, _ => (show _ = _; kernel_rfl)
    | 14, _ => (show _ = _; kernel_rfl)
    | 15, _ => (show _ = _; kernel_rfl)
    | 16, _ => (show _ = _; kernel_rfl)
    | 17, _ => (show _ = _; kernel_rfl)
    | 18, _ => (show _ = _; kernel_rfl)
    | 19, _ => (show _ = _; kernel_rfl)
    | 20, _ => (show _ = _; kernel_rfl)
    | 21, _ => (show _ = _; kernel_rfl)
    | 22, _ => (show _ = _; kernel_rfl)
    | 23, _ => (show _ = _; kernel_rfl)
    | 24, _ => (show _ = _; kernel_rfl)
    | 25, _ => (show _ = _; kernel_rfl)
    | 26, _ => (show _ = _; kernel_rfl)
    | 27, _ => (show _ = _; kernel_rfl)
    | 28, _ => (show _ = _; kernel_rfl)
    | n + 29, hn => exact absurd hn (by omega)
  · rw [rt3A_eq]; exact round3A hL hN (by omega) (hb k hk)
  · rw [rt3A_eq]
    exact ⟨[], sel_F (outsK (t := 29) (i := D.asL.length) (n := D.asL.length) (l := vt 18) rfl rfl (Nat.le_refl _)), trivial⟩
  · match n with
    | 0 => (show _ = _; kernel_rfl)
    | 1 => (show _ = _; kernel_rfl)
    | 2 => (show _ = _; kernel_rfl)
    | 3 => (show _ = _; kernel_rfl)
    | 4 => (show _ = _; kernel_rfl)
    | 5 => (show _ = _; kernel_rfl)
    | 6 => (show _ = _; kernel_rfl)
    | 7 => (show _ = _; kernel_rfl)
    | 8 => (show _ = _; kernel_rfl)
    | 9 => (show _ = _; kernel_rfl)
    | 10 => (show _ = _; kernel_rfl)
    | 11 => (show _ = _; kernel_rfl)
    | 12 => (show _ = _; kernel_rfl)
    | 13 => (show _ = _; kernel_rfl)
    | 14 => (show _ = _; kernel_rfl)
    | 15 => (show _ = _; kernel_rfl)
    | 16 => (show _ = _; kernel_rfl)
    | 17 => (show _ = _; kernel_rfl)
    | 18 => (show _ = _; kernel_rfl)
    | 19 => (show _ = _; kernel_rfl)
    | 20 => (show _ = _; kernel_rfl)
    | 21 => (show _ = _; kernel_rfl)
    | 22 => (show _ = _; kernel_rfl)
    | 23 => (show _ = _; kernel_rfl)
    | 24 => (show _ = _; kernel_rfl)
    | 25 => (show _ = _; kernel_rfl)
    | 26 => (show _ = _; kernel_rfl)
    | 27 => (show _ = _; kernel_rfl)
    | 28 => (show _ = _; kernel_rfl)
    | 29 => (show _ = _; kernel_rfl)
    | 30 => (show _ = _; kernel_rfl)
    | 31 => (show _ = _; kernel_rfl)
    | 32 => (show _ = _; kernel_rfl)
    | 33 => (show _ = _; kernel_rfl)
    | 34 => (show _ = _; kernel_rfl)
    | 35 => (show _ = _; kernel_rfl)
    | 36 => (show _ = _; kernel_rfl)
    | 37 => (show _ = _; kernel_rfl)
    | 38 => (show _ = _; kernel_rfl)
    | 39 => (show _ = _; kernel_rfl)
    | 40 => (show _ = _; kernel_rfl)
    | 41 => (show _ = _; kernel_rfl)
    | 42 => (show _ = _; kernel_rfl)
    | 43 => (show _ = _; kernel_rfl)
    | 44 => (show _ = _; kernel_rfl)
    | n + 45 => exact valT (seqX_len _) (seqX_len _) n
end
section
variable {D : Dat} {c x : List Dat} {k1 k2 : Nat} {c2 : List Dat}
abbrev rho3B (L : List (List Dat)) (n2 : Int) (D : Dat) (k1 : Nat) (c x : List Dat) (k2 : Nat) (c2 : List Dat) (k : Nat) : Rho := rhoT L n2 k1 c x D k2 c2 k (seqC D.asL n2 k) (seqX D.asL n2 k)
theorem round3B (hL : RowsE D.asL) (hN : D.asL.length ≤ 300) {k : Nat} (hk : k < D.asL.length) (hb : (Jm (seqC D.asL n2 k) (D.asL.getD k []) 0).asB = true) : Nx (rho3B L n2 D k1 c x k2 c2 k) (rho3B L n2 D k1 c x k2 c2 (k + 1)) rt3B := by
  have E := ev_at (n2 := n2) hL hk (seqX D.asL n2 k)
  obtain ⟨i1, i2⟩ := insideK (t := 29) (ρ := rho3B L n2 D k1 c x k2 c2 k) (i := k) (n := D.asL.length) (l := vt 18) rfl rfl hk
  refine nxT i1 (nxT i2 (nxT (eqW (congrArg Dat.asB E.dR) (by kernel_rfl) (by kernel_rfl)) (nxF ?_ (nxL ?_))))
  · rw [not_f]
    exact eqW ((congrArg Dat.asB E.e0).symm.trans hb) (by kernel_rfl) rfl
  · exact (eI _ _ _ _).2 ⟨addK (t := 29) (i := k) (by omega) rfl rfl, (eI _ _ _ _).2 ⟨eqW (congrArg Dat.asI E.e1) (by kernel_rfl) (by kernel_rfl), (eB _ _ _ _).2 ⟨eqW (congrArg Dat.asB E.e2) (by kernel_rfl) (by kernel_rfl), (eI _ _ _ _).2 ⟨eqW (congrArg Dat.asI E.e4) (by kernel_rfl) (by kernel_rfl), (eI _ _ _ _).2 ⟨eqW (congrArg Dat.asI E.e3) (by kernel_rfl) (by kernel_rfl), (eI _ _ _ _).2 ⟨eqW (congrArg Dat.asI E.e5) (by kernel_rfl) (by kernel_rfl), (eB _ _ _ _).2 ⟨(by kernel_rfl), (eB _ _ _ _).2 ⟨eqW (congrArg Dat.asB E.e6) (by kernel_rfl) (by kernel_rfl), (eI _ _ _ _).2 ⟨(by kernel_rfl), (eI _ _ _ _).2 ⟨(by kernel_rfl), (eI _ _ _ _).2 ⟨eqW (congrArg Dat.asI E.e7) (by kernel_rfl) (by kernel_rfl), (eB _ _ _ _).2 ⟨(by kernel_rfl), (eB _ _ _ _).2 ⟨eqW (congrArg Dat.asB E.e8) (by kernel_rfl) (by kernel_rfl), (eI _ _ _ _).2 ⟨(by kernel_rfl), (eI _ _ _ _).2 ⟨(by kernel_rfl), (eB _ _ _ _).2 ⟨eqW (congrArg Dat.asB E.e9) (by kernel_rfl) (by kernel_rfl), trivial⟩⟩⟩⟩⟩⟩⟩⟩⟩⟩⟩⟩⟩⟩⟩⟩
theorem g3B_ok (hL : RowsE D.asL) (hN : D.asL.length ≤ 300) {m : Nat} (hm : m < D.asL.length) (hb : ∀ k, k < m → (Jm (seqC D.asL n2 k) (D.asL.getD k []) 0).asB = true) (hf : (Jm (seqC D.asL n2 m) (D.asL.getD m []) 0).asB = false) : GOk (rho3B L n2 D k1 c x k2 c2 m) fAr 0 g3B := by
  refine loopN_ok noCount (rho3B L n2 D k1 c x k2 c2 m) (fun k => rho3B L n2 D k1 c x k2 c2 k) (m) (fuel := 1000000) (cf := evFun Try.prog envT 1000) (lf := fun _ => none) (by simp) rfl (fun k _ => by letI : Rho := rho3B L n2 D k1 c x k2 c2 k; exact evFun_ok noCount (envT_ok rfl) 1000) (fun k _ => by letI : Rho := rho3B L n2 D k1 c x k2 c2 k; exact lf0_ok) (fun k _ => ⟨fun n hn => ?_, rfl⟩) (fun k hk => ?_) ?_ (fun n => ?_)
  · match n, hn with
    | 0, _ => (show _ = _; kernel_rfl)
    | 1, _ => (show _ = _; kernel_rfl)
    | 2, _ => (show _ = _; kernel_rfl)
    | 3, _ => (show _ = _; kernel_rfl)
    | 4, _ => (show _ = _; kernel_rfl)
    | 5, _ => (show _ = _; kernel_rfl)
    | 6, _ => (show _ = _; kernel_rfl)
    | 7, _ => (show _ = _; kernel_rfl)
    | 8, _ => (show _ = _; kernel_rfl)
    | 9, _ => (show _ = _; kernel_rfl)
    | 10, _ => (show _ = _; kernel_rfl)
    | 11, _ => (show _ = _; kernel_rfl)
    | 12, _ => (show _ = _; kernel_rfl)
    | 13, _ => (show _ = _; kernel_rfl)
    | 14, _ => (show _ = _; kernel_rfl)
    | 15, _ => (show _ = _; kernel_rfl)
    | 16, _ => (show _ = _; kernel_rfl)
    | 17, _ => (show _ = _; kernel_rfl)
    | 18, _ => (show _ = _; kernel_rfl)
    | 19, _ => (show _ = _; kernel_rfl)
    | 20, _ => (show _ = _; kernel_rfl)
    | 21, _ => (show _ = _; kernel_rfl)
    | 22, _ => (show _ = _; kernel_rfl)
    | 23, _ => (show _ = _; kernel_rfl)
    | 24, _ => (show _ = _; kernel_rfl)
    | 25, _ => (show _ = _; kernel_rfl)
    | 26, _ => (show _ = _; kernel_rfl)
    | 27, _ => (show _ = _; kernel_rfl)
    | 28, _ => (show _ = _; kernel_rfl)
    | n + 29, hn => exact absurd hn (by omega)
  · rw [rt3B_eq]; exact round3B hL hN (by omega) (hb k hk)
  · rw [rt3B_eq]
    have E := ev_at (n2 := n2) hL hm (seqX D.asL n2 m)
    obtain ⟨i1, i2⟩ := insideK (t := 29) (ρ := rho3B L n2 D k1 c x k2 c2 m) (i := m) (n := D.asL.length) (l := vt 18) rfl rfl hm
    refine ⟨_, (sel_T i1).trans ((sel_T i2).trans ((sel_T (eqW (congrArg Dat.asB E.dR) (by kernel_rfl) (by kernel_rfl))).trans (sel_T ?_))), ⟨rfl, trivial⟩⟩
    rw [not_t]
    exact eqW ((congrArg Dat.asB E.e0).symm.trans hf) (by kernel_rfl) rfl
  · match n with
    | 0 => (show _ = _; kernel_rfl)
    | 1 => (show _ = _; kernel_rfl)
    | 2 => (show _ = _; kernel_rfl)
    | 3 => (show _ = _; kernel_rfl)
    | 4 => (show _ = _; kernel_rfl)
    | 5 => (show _ = _; kernel_rfl)
    | 6 => (show _ = _; kernel_rfl)
    | 7 => (show _ = _; kernel_rfl)
    | 8 => (show _ = _; kernel_rfl)
    | 9 => (show _ = _; kernel_rfl)
    | 10 => (show _ = _; kernel_rfl)
    | 11 => (show _ = _; kernel_rfl)
    | 12 => (show _ = _; kernel_rfl)
    | 13 => (show _ = _; kernel_rfl)
    | 14 => (show _ = _; kernel_rfl)
    | 15 => (show _ = _; kernel_rfl)
    | 16 => (show _ = _; kernel_rfl)
    | 17 => (show _ = _; kernel_rfl)
    | 18 => (show _ = _; kernel_rfl)
    | 19 => (show _ = _; kernel_rfl)
    | 20 => (show _ = _; kernel_rfl)
    | 21 => (show _ = _; kernel_rfl)
    | 22 => (show _ = _; kernel_rfl)
    | 23 => (show _ = _; kernel_rfl)
    | 24 => (show _ = _; kernel_rfl)
    | 25 => (show _ = _; kernel_rfl)
    | 26 => (show _ = _; kernel_rfl)
    | 27 => (show _ = _; kernel_rfl)
    | 28 => (show _ = _; kernel_rfl)
    | 29 => (show _ = _; kernel_rfl)
    | 30 => (show _ = _; kernel_rfl)
    | 31 => (show _ = _; kernel_rfl)
    | 32 => (show _ = _; kernel_rfl)
    | 33 => (show _ = _; kernel_rfl)
    | 34 => (show _ = _; kernel_rfl)
    | 35 => (show _ = _; kernel_rfl)
    | 36 => (show _ = _; kernel_rfl)
    | 37 => (show _ = _; kernel_rfl)
    | 38 => (show _ = _; kernel_rfl)
    | 39 => (show _ = _; kernel_rfl)
    | 40 => (show _ = _; kernel_rfl)
    | 41 => (show _ = _; kernel_rfl)
    | 42 => (show _ = _; kernel_rfl)
    | 43 => (show _ = _; kernel_rfl)
    | 44 => (show _ = _; kernel_rfl)
    | n + 45 => exact valT (seqX_len _) (seqX_len _) n
end
end
theorem envTj_ok {ρ : Rho} (hf : ρ.fn = fnT) {a b c : LpG} (h1 : GOk ρ fTj 0 a) (h2 : GOk ρ fAj 0 b) (h3 : GOk ρ fAr 0 c) : @EnvOK ρ Try.prog (envTj a b c) := by
  refine ⟨(envT_ok hf).fn, fun f fn cd q1 q2 => ?_⟩
  simp only [envTj, lpT]
  cases e1 : Nat.beq f fTj with
  | true =>
    obtain rfl := Nat.eq_of_beq_eq_true e1
    exact lf1_ok keyT1 h1 q1 q2
  | false =>
    simp only [cond_false]
    cases e2 : Nat.beq f fAj with
    | true =>
      obtain rfl := Nat.eq_of_beq_eq_true e2
      exact lf1_ok keyT2 h2 q1 q2
    | false =>
      simp only [cond_false]
      cases e3 : Nat.beq f fAr with
      | true =>
        obtain rfl := Nat.eq_of_beq_eq_true e3
        exact lf1_ok keyT3 h3 q1 q2
      | false => exact lf0_ok
theorem okT [Rho] {c : Tm} {x y : Tree AV} (h : c.den.asB = true) (hx : x.ok) : (Tree.fork c x y).ok := ⟨fun _ => hx, fun k => absurd (h.symm.trans k) (by simp)⟩
theorem okF [Rho] {c : Tm} {x y : Tree AV} (h : c.den.asB = false) (hy : y.ok) : (Tree.fork c x y).ok := ⟨fun k => absurd (h.symm.trans k) (by simp), fun _ => hy⟩
theorem okL1 [Rho] : (Tree.leaf (AV.bool true)).ok := ⟨.cb true, rfl, rfl⟩
theorem lawAt_ok {ρ : Rho} (h0 : (@Tm.den ρ (.llen (vt 0))).asI ≤ 300) (hm : (@Tm.den ρ moT).asI = (@Tm.den ρ noT).asI) {x y : Tm} (hxy : (@Tm.den ρ x).asI = (@Tm.den ρ y).asI) : @Tree.ok ρ (lawAt x y) := by
  letI : Rho := ρ
  have e : (Tm.ib .eql .i64 moT noT).den.asB = true := by rw [eql_t]; exact hm
  refine okF (by rw [gtr_f]; show _ ≤ (300 : Int) ∧ ¬ (300 : Int) < _; omega) (okT (by rw [and_t]; exact ⟨rfl, e⟩) (okT e (okT (by rw [eql_t]; exact hxy) okL1)))
theorem moT_no {ρ : Rho} (h : (ρ.val 1) = .dI n2) : (@Tm.den ρ moT).asI = (@Tm.den ρ noT).asI := by
  have e := (moD_ok n2).2.2
  have e1 : @Tm.den ρ moT = moD n2 := den_agr (m := 2) (B := 0) (ρ' := ⟨fun n => bif Nat.beq n 0 then ρ.val 0 else .dI n2, ρ.fn⟩) ⟨fun n hn => by
    match n, hn with
    | 0, _ => rfl
    | 1, _ => exact h, fun _ _ hk => absurd hk (Nat.not_lt_zero _)⟩ moT (by decide)
  have e2 : @Tm.den ρ noT = @Tm.den ⟨fun _ => .dI n2, fnT⟩ noT := den_agr (m := 2) (B := 0) (ρ' := ⟨fun n => bif Nat.beq n 0 then ρ.val 0 else .dI n2, ρ.fn⟩) ⟨fun n hn => by
    match n, hn with
    | 0, _ => rfl
    | 1, _ => exact h, fun _ _ hk => absurd hk (Nat.not_lt_zero _)⟩ noT (by decide)
  rw [e1, e2]; exact e
set_option maxRecDepth 100000 in
/-- The law holds of any rows. -/
theorem law_judge (hL : RowsE L) : ∃ (ρ : Rho) (a b c : LpG), ρ.val 0 = .dL L ∧ ρ.val 1 = .dI n2 ∧ @EnvOK ρ Try.prog (envTj a b c) ∧ @Tree.ok ρ (lawT a b c) := by
  by_cases hN : L.length ≤ 300
  · have hD := rowsD_all hL
    rcases first_not (fun i => (Jm (seqC L n2 i) (L.getD i []) 0).asB = true) L.length with hb | ⟨m, hm, hf, hb⟩
    · let ρ := rhoT L n2 L.length (seqC L n2 L.length) (seqX L n2 L.length) (rowsD L L.length) L.length (seqC L n2 L.length) (rowsD L L.length).asL.length (seqC (rowsD L L.length).asL n2 (rowsD L L.length).asL.length) (seqX (rowsD L L.length).asL n2 (rowsD L L.length).asL.length)
      refine ⟨ρ, g1T, g2A, g3A, rfl, rfl, envTj_ok rfl (g1T_ok hL hN (seqX_len _)) (g2A_ok hL hN (seqX_len _) hb) (g3A_ok (by rw [hD]; exact hL) (by rw [hD]; exact hN) (by rw [hD]; exact hb)), ?_⟩
      rw [lawA_eq]
      refine lawAt_ok (by show (L.length : Int) ≤ 300; omega) (moT_no (n2 := n2) rfl) ?_
      show (L.length : Int) = ((rowsD L L.length).asL.length : Int)
      rw [hD]
    · have hf : (Jm (seqC L n2 m) (L.getD m []) 0).asB = false := by simpa using hf
      let ρ := rhoT L n2 L.length (seqC L n2 L.length) (seqX L n2 L.length) (rowsD L L.length) m (seqC L n2 m) m (seqC (rowsD L L.length).asL n2 m) (seqX (rowsD L L.length).asL n2 m)
      refine ⟨ρ, g1T, g2B, g3B, rfl, rfl, envTj_ok rfl (g1T_ok hL hN (seqX_len _)) (g2B_ok hL hN (seqX_len _) hm hb hf) (g3B_ok (by rw [hD]; exact hL) (by rw [hD]; exact hN) (by rw [hD]; exact hm) (by rw [hD]; exact hb) (by rw [hD]; exact hf)), ?_⟩
      rw [lawB_eq]
      exact lawAt_ok (by show (L.length : Int) ≤ 300; omega) (moT_no (n2 := n2) rfl) rfl
  · refine ⟨rhoT L n2 0 [] [] (.dI 0) 0 [] 0 [] [], dead, dead, dead, rfl, rfl, envTj_ok rfl (dead_ok _ _ _) (dead_ok _ _ _) (dead_ok _ _ _), ?_⟩
    rw [lawD_eq]
    letI : Rho := rhoT L n2 0 [] [] (.dI 0) 0 [] 0 [] []
    exact okT (by rw [gtr_t]; show (300 : Int) < (L.length : Int) ∧ ¬ (L.length : Int) ≤ 300; omega) okL1
end
end
set_option maxRecDepth 100000 in
theorem tablesJudge_w (n2 : Int) (v : Value) (w : World) (h : v = .slice none 0 0 ∨ ∃ a len cap rows, v = .slice (some a) len cap ∧ len ≤ maxLen ∧ SliceAt w a len cap shE rows) :
    Calls Try.prog 3 #[.int .i64 n2, v] w fun e w' => e = .returned (.bool true) ∧ RowKit.Below w.heap.size w w' := by
  rcases h with rfl | ⟨a, len, cap, L, rfl, hmx, hs⟩
  · letI ρ : Rho := rhoT [] n2 0 [] [] (.dI 0) 0 [] 0 [] []
    exact call_true (evFun_ok noCount (envT_ok rfl) 1000) (args := [iv 1, .nilSlice]) (Tree.allT_ok _ lawN_all) (cargs := [.int .i64 n2, .slice none 0 0]) ⟨_, _, rfl, ⟨_, _, rfl, rfl, rfl⟩, rfl⟩ w
  · have hR : RowsE L := fun i hi => by
      rw [hs.n] at hi
      have u8 : ∀ j, shE[j]? = some (.ki .u8) → 0 ≤ ((L.getD i []).getD j (.dI 0)).asI ∧ ((L.getD i []).getD j (.dI 0)).asI ≤ 255 := fun j hj => by
        obtain ⟨n, h1, h2⟩ := hs.ok i hi j _ hj
        rw [h1]
        simp [Lit.wf, IntKind.min, IntKind.max, IntKind.signed, IntKind.bits] at h2
        show 0 ≤ n ∧ n ≤ 255
        omega
      exact ⟨⟨u8 0 rfl, u8 3 rfl⟩, hs.row i hi⟩
    obtain ⟨ρ, g1, g2, g3, h0, h1, hE, hT⟩ := law_judge (n2 := n2) hR
    letI := ρ
    have ht : (vt 0).den.asL = L := by
      show (ρ.val 0).asL = L
      rw [h0]; rfl
    have e1 : (vt 1).den.asI = n2 := by
      show (ρ.val 1).asI = n2
      rw [h1]; rfl
    have hm : (fun id => if id = 0 then some (⟨a.block, a.off, cap, shE.length, len * shE.length, false⟩ : Loc) else none) 0 = some ⟨a.block, a.off, cap, shE.length, len * shE.length, false⟩ := rfl
    have hobj : ∀ id o, H0T.get id = some o → id = 0 ∧ o = .seq shE (vt 0) false := fun id o hg => by
      have hg' : look [(0, AObj.seq shE (vt 0) false)] id = some o := hg
      rw [look_cons'] at hg'
      split at hg'
      · rename_i e; cases hg'; exact ⟨e, rfl⟩
      · cases hg'
    refine call_true_at (evFun_ok noCount hE 1000) (args := [iv 1, argT]) (H := H0T) rfl (fun id o hg => ?_) hT (μ := fun id => if id = 0 then some (⟨a.block, a.off, cap, shE.length, len * shE.length, false⟩ : Loc) else none) (cargs := [.int .i64 n2, .slice (some a) len cap]) ?_ ⟨fun id o hg => ?_, fun i j oi oj li lj h1 h2 hij _ _ _ => ?_⟩ (fun id hid => ?_)
    · obtain ⟨_, rfl⟩ := hobj id o hg; rfl
    · exact ⟨_, _, (by rw [← e1]; exact rfl), ⟨_, _, hs.val (by decide) ht hm, rfl, rfl⟩, rfl⟩
    · obtain ⟨rfl, rfl⟩ := hobj id o hg
      exact hs.rep ht hm
    · obtain ⟨rfl, _⟩ := hobj i oi h1
      obtain ⟨rfl, _⟩ := hobj j oj h2
      exact absurd rfl hij
    · have : id ≠ 0 := by
        have h1 : 1 ≤ id := hid
        omega
      exact if_neg this
end Go.Proofs.Ytlbkficdelepeaa.Ab.Tj
namespace Go.Proofs.Ytlbkficdelepeaa
open Go Go.Proofs.Ytlbkficdelepeaa.Ab
theorem tablesJudge_walk (n2 : Int) (_ : (Lit.int .i64 n2).wf = true) (v : Value) (w : World) (h : v = .slice none 0 0 ∨ ∃ a len cap rows, v = .slice (some a) len cap ∧ len ≤ maxLen ∧ SliceAt w a len cap shE rows) :
    Calls Try.prog 3 #[.int .i64 n2, v] w fun e w' => e = .returned (.bool true) ∧ RowKit.Below w.heap.size w w' := Ab.Tj.tablesJudge_w n2 v w h
end Go.Proofs.Ytlbkficdelepeaa
