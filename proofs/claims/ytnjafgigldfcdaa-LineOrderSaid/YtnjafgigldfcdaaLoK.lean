/-
  LineOrder, called: it returns true and makes at most new blocks.
  Conditions: arguments as the model reads them.
-/
import Derived.Test.YtnjafgigldfcdaaLoJ
namespace Go.Proofs.Ytnjafgigldfcdaa.Ab
set_option linter.unusedSimpArgs false
set_option linter.unusedVariables false
open Go Go.ChangeShapes Go.WideShapes
set_option linter.unusedSectionVars false
set_option linter.unusedSimpArgs false
noncomputable section
theorem lpLw_ok {ρ : Rho} {g gm ge : LpG} (h1 : GOk ρ fFew 0 g) (h2 : GOk ρ fLaw 0 gm) (h3 : GOk ρ fLaw 2 ge) (hf : ρ.fn = fnLo) : @EnvOK ρ Try.prog ⟨tabGet tabLw, fun f => bif Nat.beq f fFew then lf1 4 g else bif Nat.beq f fLaw then lf2 6 gm 23 ge else fun _ => none⟩ := by
  refine ⟨(envTb_ok hf).fn, fun f fn cd e1 e2 => ?_⟩
  show @LpOK ρ Try.prog (bif Nat.beq f fFew then lf1 4 g else bif Nat.beq f fLaw then lf2 6 gm 23 ge else fun _ => none) cd
  cases b1 : Nat.beq f fFew with
  | true =>
    obtain rfl := Nat.eq_of_beq_eq_true b1
    exact lf1_ok keyFw h1 e1 e2
  | false =>
    cases b2 : Nat.beq f fLaw with
    | true =>
      obtain rfl := Nat.eq_of_beq_eq_true b2
      exact lf2_ok keyMn keyEn h2 h3 e1 e2
    | false => exact lf0_ok
/-! ### calls that few does not let pass; too many; none -/
def lawB : Tree AV := evFun Try.prog ⟨tabGet tabLw, fun f => bif Nat.beq f fFew then lf1 4 gFwR else bif Nat.beq f fLaw then lf2 6 dead 23 dead else fun _ => none⟩ 1000 fLaw [argC] HC fun v _ => .leaf v
set_option maxRecDepth 100000 in
theorem lawB_ok : Tree.allT lawB = true := by kernel_rfl
def HL : Heap := ⟨1, [], [], []⟩
def lawL : Tree AV := evFun Try.prog ⟨tabGet tabLw, fun f => bif Nat.beq f fFew then lf1 4 dead else bif Nat.beq f fLaw then lf2 6 dead 23 dead else fun _ => none⟩ 1000 fLaw [.sslice 0 4 (.ci 0) (vt 0)] HL fun v _ => .leaf v
def lawL' : Tree AV → Bool
  | .fork c x _ => c.eqv (.ib .gtr .i64 (vt 0) (.ci 40)) && x.allT
  | _ => false
set_option maxRecDepth 100000 in
theorem lawL_chk : lawL' lawL = true := by kernel_rfl
def lawN : Tree AV := evFun Try.prog ⟨tabGet [(fWorks, trueC)], fun _ _ => none⟩ 1000 fLaw [.nilSlice] heap0 fun v _ => .leaf v
set_option maxRecDepth 100000 in
theorem lawN_ok : Tree.allT lawN = true := by kernel_rfl
/-! ### what the calls read as -/
structure CallsAt (w : World) (a : Addr) (len cap : Nat) (rows : List (List Dat)) : Prop where
  spot : a.spot = none
  le : len ≤ cap
  n : rows.length = len
  at_ : ∃ c e lo hi, w.heap[a.block]? = some (.cells c e (lo, hi)) ∧ ∀ i, i < len → ∃ k s v D n, rows.getD i [] = [.dI k, .dS s, .dL D, .dI n] ∧
    c[a.off + i * 4]? = some (.int .i64 k) ∧ c[a.off + (i * 4 + 1)]? = some (.string ⟨s.toArray⟩) ∧ c[a.off + (i * 4 + 2)]? = some v ∧ c[a.off + (i * 4 + 3)]? = some (.int .i64 n) ∧
    ((v = .slice none 0 0 ∧ D = []) ∨ (D = [] ∧ ∃ a', v = .slice (some a') 0 0) ∨ ∃ a' len' cap', v = .slice (some a') len' cap' ∧ SliceAt w a' len' cap' shD D)
abbrev rhoC (c0 : Dat) : Rho := rhoF c0
theorem look_dmg : ∀ (n r id : Nat) (o : AObj), look (dmgO n r) id = some o → ∃ q, id = 1 + q ∧ o = .seq shD (cellT q 2) false ∧ q < r + n
  | 0, r, id, o, h => by cases h
  | n + 1, r, id, o, h => by
    simp only [dmgO] at h
    rw [@look_cons rho0] at h
    cases hb : Nat.beq (1 + r) id with
    | true =>
      rw [hb] at h
      simp only [cond_true, Option.some.injEq] at h
      exact ⟨r, (Nat.eq_of_beq_eq_true hb).symm, h.symm, by omega⟩
    | false =>
      rw [hb] at h
      obtain ⟨q, h1, h2, h3⟩ := look_dmg n (r + 1) id o h
      exact ⟨q, h1, h2, by omega⟩
theorem hc_ro : ∀ id o, HC.get id = some o → owned o = false := fun id o ho => by
  have h3 : look ((0, .nst shC (vt 0) 2 1 40 4) :: dmgO 40 0) id = some o := ho
  rw [@look_cons rho0] at h3
  cases hb : Nat.beq 0 id with
  | true =>
    rw [hb] at h3
    simp only [cond_true, Option.some.injEq] at h3
    subst h3; rfl
  | false =>
    rw [hb] at h3
    obtain ⟨q, rfl, rfl, hq⟩ := look_dmg 40 0 id o h3
    rfl
section
variable {w : World} {a : Addr} {len cap : Nat} {rows : List (List Dat)} (h : CallsAt w a len cap rows)
include h
theorem CallsAt.rows_ok {c0 : Dat} (hc : c0 = .dL rows) : ∀ k, k < c0.asL.length → ∀ r ∈ (cS c0 k 2).asL, okRow r := by
  subst hc
  intro k hk r hr
  have hk : k < rows.length := hk
  obtain ⟨c, e, lo, hi, _, h2⟩ := h.at_
  obtain ⟨kd, s, v, D, n, e1, _, _, _, _, e6⟩ := h2 k (by rw [← h.n]; exact hk)
  have hD : (cS (.dL rows) k 2).asL = D := by
    show (((rows.getD k []).getD 2 (.dI 0))).asL = D
    rw [e1]; rfl
  rw [hD] at hr
  rcases e6 with ⟨_, rfl⟩ | ⟨rfl, _⟩ | ⟨a', len', cap', _, hs⟩
  · cases hr
  · cases hr
  · obtain ⟨i, hi'⟩ := List.mem_iff_getElem?.1 hr
    have hlt := (List.getElem?_eq_some_iff.1 hi').1
    have hr' : D.getD i [] = r := by rw [List.getD_eq_getElem?_getD, hi']; rfl
    have := hs.ok i (by rw [← hs.n]; exact hlt) 0 (.ki .u8) rfl
    rw [hr'] at this
    obtain ⟨m, hm, hw⟩ := this
    show 0 ≤ (r.getD 0 (.dI 0)).asI
    have hm : r.getD 0 (.dI 0) = .dI m := hm
    rw [hm]
    exact (wf8 hw).1
/-- A place for the damages of call q. -/
theorem CallsAt.place (ρ : Rho) (hρ : (ρ.val 0).asL = rows) (q : Nat) : ∃ l : Loc, ∀ μ : Mu, μ (1 + q) = some l → @RepO ρ μ (1 + q) w (.seq shD (cellT q 2) false) ∧
    (q < len → ∃ c e lo hi v, w.heap[a.block]? = some (.cells c e (lo, hi)) ∧ c[a.off + (q * 4 + 2)]? = some v ∧ @VR ρ μ (.sslice (1 + q) 4 (.ci 0) (.llen (cellT q 2))) v) := by
  letI := ρ
  obtain ⟨c, e, lo, hi, h1, h2⟩ := h.at_
  have hd : ∀ D, (rows.getD q []).getD 2 (.dI 0) = .dL D → (@Tm.den ρ (cellT q 2)).asL = D := fun D hD => by
    show (((ρ.val 0).asL.getD q []).getD 2 (.dI 0)).asL = D
    rw [hρ, hD]; rfl
  by_cases hq : q < len
  · obtain ⟨kd, s, v, D, n, e1, _, _, e4, _, e6⟩ := h2 q hq
    have hD := hd D (by rw [e1]; rfl)
    rcases e6 with ⟨rfl, rfl⟩ | ⟨rfl, a', rfl⟩ | ⟨a', len', cap', rfl, hs⟩
    · refine ⟨⟨0, 0, 0, 4, 0, true⟩, fun μ hμ => ⟨⟨_, hμ, ⟨rfl, by rw [hD]; rfl⟩, Nat.zero_le _, .inl ⟨rfl, rfl, hD⟩⟩, fun _ => ⟨c, e, lo, hi, _, h1, e4, ⟨_, hμ, rfl, by decide, Int.le_refl 0, ?_, ⟨?_, ?_⟩, .inr ⟨rfl, ?_, rfl⟩⟩⟩⟩⟩
      all_goals (show _; simp only [show (@Tm.den ρ (.llen (cellT q 2))).asI = (((@Tm.den ρ (cellT q 2)).asL.length : Nat) : Int) from rfl, hD, List.length_nil]; first | rfl | exact Nat.le_refl 0 | exact Int.le_refl 0)
    · refine ⟨⟨a.block, 0, 0, 4, 0, false⟩, fun μ hμ => ⟨⟨_, hμ, ⟨rfl, by rw [hD]; rfl⟩, Nat.zero_le _, .inr ⟨rfl, c, e, lo, hi, h1, fun h => (by cases h), fun h => (by cases h), fun i hi' => ?_⟩⟩, fun _ => ⟨c, e, lo, hi, _, h1, e4, ⟨_, hμ, rfl, by decide, Int.le_refl 0, ?_, ⟨?_, ?_⟩, .inl ⟨rfl, .inr ⟨?_, a', rfl⟩⟩⟩⟩⟩⟩
      · rw [hD] at hi'; cases hi'
      all_goals (show _; simp only [show (@Tm.den ρ (.llen (cellT q 2))).asI = (((@Tm.den ρ (cellT q 2)).asL.length : Nat) : Int) from rfl, hD, List.length_nil]; first | rfl | exact Nat.le_refl 0 | exact Int.le_refl 0)
    · refine ⟨⟨a'.block, a'.off, cap', 4, len' * 4, false⟩, fun μ hμ => ⟨hs.rep hD hμ, fun _ => ⟨c, e, lo, hi, _, h1, e4, hs.val (by decide) hD hμ⟩⟩⟩
  · have hD : (@Tm.den ρ (cellT q 2)).asL = [] := by
      show (((ρ.val 0).asL.getD q []).getD 2 (.dI 0)).asL = []
      rw [hρ, show rows.getD q [] = [] from by rw [List.getD_eq_getElem?_getD, List.getElem?_eq_none (by rw [h.n]; omega)]; rfl]; rfl
    exact ⟨⟨0, 0, 0, 4, 0, true⟩, fun μ hμ => ⟨⟨_, hμ, ⟨rfl, by rw [hD]; rfl⟩, Nat.zero_le _, .inl ⟨rfl, rfl, hD⟩⟩, fun hq' => absurd hq' hq⟩⟩
theorem CallsAt.rep (ρ : Rho) (hρ : (ρ.val 0).asL = rows) (hn : len ≤ 40) : ∃ μ : Mu, @Rep ρ μ HC.get w ∧ Dom μ HC.next ∧ @VR ρ μ argC (.slice (some a) len cap) := by
  letI := ρ
  let μ : Mu := fun id => if id = 0 then some ⟨a.block, a.off, cap, 4, len * 4, false⟩ else if id < 41 then some (Classical.choose (h.place ρ hρ (id - 1))) else none
  have hμ0 : μ 0 = some ⟨a.block, a.off, cap, 4, len * 4, false⟩ := rfl
  have hμq : ∀ q, q < 40 → μ (1 + q) = some (Classical.choose (h.place ρ hρ q)) := fun q hq => by
    show (if 1 + q = 0 then _ else if 1 + q < 41 then _ else _) = _
    rw [if_neg (by omega), if_pos (by omega), show 1 + q - 1 = q by omega]
  have hl := h.le
  have e1 : (@Tm.den ρ (.llen (vt 0))).asI = (len : Int) := by
    show (((ρ.val 0).asL.length : Nat) : Int) = _
    rw [hρ, h.n]
  have hden : (@Tm.den ρ (vt 0)).asL = rows := hρ
  refine ⟨μ, ⟨fun id o ho => ?_, fun i j oi oj li lj h1 h2 _ ho => ?_⟩, fun id hid => ?_, ⟨_, hμ0, rfl, by decide, Int.le_refl 0, by rw [e1]; omega, ⟨?_, ?_⟩, .inl ⟨rfl, .inl ?_⟩⟩⟩
  · have h3 : look ((0, .nst shC (vt 0) 2 1 40 4) :: dmgO 40 0) id = some o := ho
    rw [look_cons] at h3
    cases hb : Nat.beq 0 id with
    | true =>
      rw [hb] at h3
      simp only [cond_true, Option.some.injEq] at h3
      obtain rfl := Nat.eq_of_beq_eq_true hb
      subst h3
      obtain ⟨c, e, lo, hi, g1, g2⟩ := h.at_
      refine ⟨_, c, e, lo, hi, ⟨hμ0, rfl⟩, g1, ⟨rfl, by rw [hden, h.n]⟩, Nat.mul_le_mul_right 4 hl, by rw [hden, h.n]; exact hn, fun i hi' j kd hj => ?_⟩
      rw [hden, h.n] at hi'
      obtain ⟨kk, s, v, D, n, q1, q2, q3, q4, q5, _⟩ := g2 i hi'
      have hcell : ∀ j, @Tm.den ρ (.lget (vt 0) (.ci (i : Int)) j) = (rows.getD i []).getD j (.dI 0) := fun j => by
        show (((ρ.val 0).asL.getD i []).getD j (.dI 0)) = _
        rw [hρ]
      match j, hj with
      | 0, hj =>
        cases hj
        refine ⟨_, q2, ?_⟩
        show Value.int .i64 kk = .int .i64 (@Tm.den ρ (.lget (vt 0) (.ci (i : Int)) 0)).asI
        rw [hcell, q1]; rfl
      | 1, hj =>
        cases hj
        refine ⟨_, q3, ?_⟩
        show Value.string ⟨s.toArray⟩ = .string ⟨(@Tm.den ρ (.lget (vt 0) (.ci (i : Int)) 1)).asS.toArray⟩
        rw [hcell, q1]; rfl
      | 2, hj =>
        obtain ⟨_, p⟩ := Classical.choose_spec (h.place ρ hρ i) μ (hμq i (by omega))
        obtain ⟨c', e', lo', hi'', v', p1, p2, p3⟩ := p hi'
        rw [g1] at p1; cases p1
        exact ⟨v', p2, p3⟩
      | 3, hj =>
        cases hj
        refine ⟨_, q5, ?_⟩
        show Value.int .i64 n = .int .i64 (@Tm.den ρ (.lget (vt 0) (.ci (i : Int)) 3)).asI
        rw [hcell, q1]; rfl
      | j + 4, hj => cases hj
    | false =>
      rw [hb] at h3
      obtain ⟨q, rfl, rfl, hq⟩ := look_dmg 40 0 id o h3
      exact (Classical.choose_spec (h.place ρ hρ q) μ (hμq q (by omega))).1
  · exfalso
    have key : ∀ id o, HC.get id = some o → owned o = false := fun id o ho => by
      have ho : look ((0, .nst shC (vt 0) 2 1 40 4) :: dmgO 40 0) id = some o := ho
      rw [look_cons] at ho
      cases hb : Nat.beq 0 id with
      | true =>
        rw [hb] at ho
        simp only [cond_true, Option.some.injEq] at ho
        subst ho; rfl
      | false =>
        rw [hb] at ho
        obtain ⟨q, rfl, rfl, hq⟩ := look_dmg 40 0 id o ho
        rfl
    rcases ho with ho | ho
    · rw [key i oi h1] at ho; cases ho
    · rw [key j oj h2] at ho; cases ho
  · have hid : 41 ≤ id := hid
    show (if id = 0 then _ else if id < 41 then _ else none) = none
    rw [if_neg (by omega), if_neg (by omega)]
  · rw [e1]; show (0 + (len : Int).toNat) * 4 ≤ len * 4; simp
  · rw [e1]; show 0 + (len : Int).toNat ≤ cap; simpa using hl
  · rw [e1]
    obtain ⟨b, o, s⟩ := a
    have hs := h.spot
    simp only at hs
    subst hs
    rw [show (@Tm.den ρ (.ci 0)).asI.toNat = 0 from rfl]
    simp
end
end
end Go.Proofs.Ytnjafgigldfcdaa.Ab
