/-
  Octets as messages one behind the other; the Gets of layer 10 as contracts; rounds of both All.
  Conditions: as each theorem tells.
-/
import Derived.Test.YtamibbjpapkfeaaMsgPl
import Derived.Test.YtamibbjpapkfeaaAbF
namespace Go.Proofs.Ytamibbjpapkfeaa.Ab
set_option linter.unusedSimpArgs false
set_option linter.unusedVariables false
open Go
/-! ### plain: messages, one behind the other -/
theorem mgot_row (s : List UInt8) : ∃ k c p m t b, (mgot s).row = mrow k c p m t b := by
  unfold mgot noMsg
  repeat' split
  all_goals exact ⟨_, _, _, _, _, _, rfl⟩
theorem mgot_len (s : List UInt8) : (mgot s).row.length = 20 := by
  obtain ⟨k, c, p, m, t, b, h⟩ := mgot_row s
  rw [h]; rfl
theorem mgot_n (s : List UInt8) (h : (mgot s).e = 0) : 2 ≤ (mgot s).n ∧ (mgot s).n ≤ (s.length : Int) := by
  rcases tput_tget s with hb | ⟨g0, g1, g2, g3, g4, g5, _⟩
  · exfalso
    have hne : (tget s).e ≠ 0 := by rcases hb with hb | hb <;> rw [hb] <;> decide
    have hm : mgot s = noMsg (tget s).e := if_pos hne
    rw [hm] at h; exact hne h
  · have hm : (mgot s).n = (tget s).n ∨ (mgot s).e = 70 := by
      unfold mgot noMsg
      rw [if_neg (by rw [g0]; simp)]
      repeat' split
      all_goals first | exact .inl rfl | exact .inr rfl
    rcases hm with hm | hm
    · rw [hm]; exact ⟨g4, g5⟩
    · rw [hm] at h; exact absurd h (by decide)
def atM (s : List UInt8) : Nat → Nat
  | 0 => 0
  | k + 1 => atM s k + (mgot (s.drop (atM s k))).n.toNat
def GoodM (s : List UInt8) (a : Nat) : Prop := a < s.length ∧ (mgot (s.drop a)).e = 0
abbrev rowM (s : List UInt8) (k : Nat) : List Dat := (mgot (s.drop (atM s k))).row
def rowsM (s : List UInt8) (k : Nat) : List (List Dat) := (List.range k).map (rowM s)
theorem rowsM_len (s : List UInt8) (k : Nat) : (rowsM s k).length = k := by unfold rowsM; simp
theorem rowsM_succ (s : List UInt8) (k : Nat) : rowsM s (k + 1) = rowsM s k ++ [rowM s k] := by
  unfold rowsM; rw [List.range_succ, List.map_append]; rfl
theorem rowsM_get (s : List UInt8) {n k : Nat} (h : k < n) : (rowsM s n).getD k [] = rowM s k := by
  unfold rowsM
  rw [List.getD_eq_getElem?_getD, List.getElem?_map, List.getElem?_range h]; rfl
theorem at_step {s : List UInt8} {k : Nat} (h : GoodM s (atM s k)) : atM s k + 2 ≤ atM s (k + 1) ∧ atM s (k + 1) ≤ s.length ∧ ((mgot (s.drop (atM s k))).n = ((atM s (k + 1) - atM s k : Nat) : Int)) := by
  obtain ⟨h1, h2⟩ := h
  obtain ⟨h3, h4⟩ := mgot_n _ h2
  rw [List.length_drop] at h4
  show atM s k + 2 ≤ atM s k + (mgot (s.drop (atM s k))).n.toNat ∧ atM s k + (mgot (s.drop (atM s k))).n.toNat ≤ s.length ∧ (mgot (s.drop (atM s k))).n = ((atM s k + (mgot (s.drop (atM s k))).n.toNat - atM s k : Nat) : Int)
  omega
theorem at_le {s : List UInt8} {n : Nat} (h : ∀ k, k < n → GoodM s (atM s k)) : 2 * n ≤ atM s n ∧ atM s n ≤ s.length := by
  induction n with
  | zero => exact ⟨Nat.le_refl _, Nat.zero_le _⟩
  | succ n ih =>
    have := ih fun k hk => h k (by omega)
    have := at_step (h n (by omega))
    omega
/-- Where it ends. -/
def EndM (s : List UInt8) (N : Nat) : Prop := (∀ k, k < N → GoodM s (atM s k)) ∧ ¬ GoodM s (atM s N)
theorem chain (s : List UInt8) : ∃ N, EndM s N := by
  have key : ∀ n, (∀ k, k < n → GoodM s (atM s k)) ∨ ∃ N, EndM s N := by
    intro n
    induction n with
    | zero => exact .inl fun k hk => by omega
    | succ n ih =>
      rcases ih with h | h
      · by_cases hg : GoodM s (atM s n)
        · refine .inl fun k hk => ?_
          rcases Nat.lt_or_ge k n with h2 | h2
          · exact h k h2
          · obtain rfl : k = n := by omega
            exact hg
        · exact .inr ⟨n, h, hg⟩
      · exact .inr h
  rcases key (s.length + 1) with h | h
  · have := at_le h
    omega
  · exact h
/-! ### the contracts of both Gets -/
def allFn (n : Nat) (d : Dat) : Dat := bif Nat.beq n 80 then .dI (mgot d.asS).n else bif Nat.beq n 81 then .dI (mgot d.asS).e else bif Nat.ble 60 n && Nat.blt n 80 then (mgot d.asS).row.getD (n - 60) (.dI 0) else bif Nat.beq n 90 then .dI (parR (cellsD d)).1 else bif Nat.beq n 91 then .dS (parR (cellsD d)).2.1 else bif Nat.beq n 92 then .dB (parR (cellsD d)).2.2 else gotFn n d
def celA (k : Kd) (t : Tm) : AV := match k with
  | .ki i => .sint i t
  | .kb => .sbool t
  | .ks => .sstr t
def celsA (s : Tm) : List Kd → Nat → List AV
  | [], _ => []
  | k :: l, n => celA k (.app n s) :: celsA s l (n + 1)
def mqA (s : Tm) : AV := .tuple [.agg (celsA s shM 60), .sint .i64 (.app 80 s), .sint .i64 (.app 81 s)]
def cels (s : Tm) : List Kd → Nat → Tm
  | [], _ => .cb false
  | _ :: l, n => .pair (.app n s) (cels s l (n + 1))
def rowT10 (c : Tm) : Tm := .row (cels c shM 60)
section
variable [ρ : Rho]
theorem app_all (hf : ρ.fn = allFn) (n : Nat) (t : Tm) : (Tm.app n t).den = allFn n t.den := by rw [den_app, hf]
theorem mq_VR (hf : ρ.fn = allFn) (t : Tm) (μ : Mu) : VR μ (mqA t) (mgotV t.den.asS) := by
  have app := app_all hf
  obtain ⟨k, c, p, m, ty, b, h⟩ := mgot_row t.den.asS
  have e : ∀ i, i < 20 → (Tm.app (60 + i) t).den = (mrow k c p m ty b).getD i (.dI 0) := fun i hi => by
    rw [app]
    unfold allFn
    have h1 : Nat.beq (60 + i) 80 = false := by
      cases hb : Nat.beq (60 + i) 80 with
      | false => rfl
      | true => have := Nat.eq_of_beq_eq_true hb; omega
    have h2 : Nat.beq (60 + i) 81 = false := by
      cases hb : Nat.beq (60 + i) 81 with
      | false => rfl
      | true => have := Nat.eq_of_beq_eq_true hb; omega
    have h3 : (Nat.ble 60 (60 + i) && Nat.blt (60 + i) 80) = true := by
      rw [Bool.and_eq_true]; exact ⟨by rw [Nat.ble_eq]; omega, by rw [Nat.blt_eq]; omega⟩
    rw [h1, h2, h3, h]
    simp only [cond_false, cond_true]
    congr 1; omega
  have en : (Tm.app 80 t).den = .dI (mgot t.den.asS).n := by rw [app]; rfl
  have ee : (Tm.app 81 t).den = .dI (mgot t.den.asS).e := by rw [app]; rfl
  unfold mgotV mqA
  rw [h]
  refine ⟨_, ⟨_, _, ⟨_, ⟨_, _, rfl, ⟨_, _, rfl, ⟨_, _, rfl, ⟨_, _, rfl, ⟨_, _, rfl, ⟨_, _, rfl, ⟨_, _, rfl, ⟨_, _, rfl, ⟨_, _, rfl, ⟨_, _, rfl, ⟨_, _, rfl, ⟨_, _, rfl, ⟨_, _, rfl, ⟨_, _, rfl, ⟨_, _, rfl, ⟨_, _, rfl, ⟨_, _, rfl, ⟨_, _, rfl, ⟨_, _, rfl, ⟨_, _, rfl, rfl, rfl⟩, rfl⟩, rfl⟩, rfl⟩, rfl⟩, rfl⟩, rfl⟩, rfl⟩, rfl⟩, rfl⟩, rfl⟩, rfl⟩, rfl⟩, rfl⟩, rfl⟩, rfl⟩, rfl⟩, rfl⟩, rfl⟩, rfl⟩, rfl⟩, ⟨_, _, rfl, ⟨_, _, rfl, rfl, rfl⟩, rfl⟩, rfl⟩, ?_⟩
  rw [en, ee, e 0 (by omega), e 1 (by omega), e 2 (by omega), e 3 (by omega), e 4 (by omega), e 5 (by omega), e 6 (by omega), e 7 (by omega), e 8 (by omega), e 9 (by omega), e 10 (by omega), e 11 (by omega), e 12 (by omega), e 13 (by omega), e 14 (by omega), e 15 (by omega), e 16 (by omega), e 17 (by omega), e 18 (by omega), e 19 (by omega)]
  rfl
theorem rowT_den (hf : ρ.fn = allFn) (t : Tm) : (rowT10 t).den.asL = [(mgot t.den.asS).row] := by
  have app := app_all hf
  obtain ⟨k, c, p, m, ty, b, h⟩ := mgot_row t.den.asS
  have e : (rowT10 t).den.asL = [[(Tm.app 60 t).den, (Tm.app 61 t).den, (Tm.app 62 t).den, (Tm.app 63 t).den, (Tm.app 64 t).den, (Tm.app 65 t).den, (Tm.app 66 t).den, (Tm.app 67 t).den, (Tm.app 68 t).den, (Tm.app 69 t).den, (Tm.app 70 t).den, (Tm.app 71 t).den, (Tm.app 72 t).den, (Tm.app 73 t).den, (Tm.app 74 t).den, (Tm.app 75 t).den, (Tm.app 76 t).den, (Tm.app 77 t).den, (Tm.app 78 t).den, (Tm.app 79 t).den]] := rfl
  rw [e]
  simp only [app]
  show [[(mgot t.den.asS).row.getD 0 _, (mgot t.den.asS).row.getD 1 _, (mgot t.den.asS).row.getD 2 _, (mgot t.den.asS).row.getD 3 _, (mgot t.den.asS).row.getD 4 _, (mgot t.den.asS).row.getD 5 _, (mgot t.den.asS).row.getD 6 _, (mgot t.den.asS).row.getD 7 _, (mgot t.den.asS).row.getD 8 _, (mgot t.den.asS).row.getD 9 _, (mgot t.den.asS).row.getD 10 _, (mgot t.den.asS).row.getD 11 _, (mgot t.den.asS).row.getD 12 _, (mgot t.den.asS).row.getD 13 _, (mgot t.den.asS).row.getD 14 _, (mgot t.den.asS).row.getD 15 _, (mgot t.den.asS).row.getD 16 _, (mgot t.den.asS).row.getD 17 _, (mgot t.den.asS).row.getD 18 _, (mgot t.den.asS).row.getD 19 _]] = _
  rw [h]; rfl
end
def tabQ : List (Nat × (List AV → Heap → Option (Tm × AV × Heap))) := [(11, strC o47 mqA), (12, strC o47 mqA), (10, trueC)]
theorem tabQ_ok [ρ : Rho] (hf : ρ.fn = allFn) : ∀ p ∈ tabQ, ∀ args H o v H', H.pc = [] ∨ True → p.2 args H = some (o, v, H') → o.den.asB = true → CallS Try.prog p.1 args H v H' ∧ LG H H' := by
  intro p hp args H o v H' _ hg ho
  have l47 : ∀ t, (o47 t).den.asB = true → t.den.asS.length ≤ 140737488355328 := fun t h => by have := o_len h; omega
  simp only [tabQ, List.mem_cons, List.not_mem_nil, or_false] at hp
  rcases hp with rfl | rfl | rfl
  · exact strC_ok mgotV msgs_Get l47 (mq_VR hf) hg ho
  · exact strC_ok mgotV msgs_RGet l47 (mq_VR hf) hg ho
  · exact true_ok msgs_works hg
/-! ### rounds of All -/
abbrev LTree : Type := Tree (AX × Option Eqs)
abbrev v0 : Tm := .var 0
abbrev v1 : Tm := .var 1
abbrev v2 : Tm := .var 2
abbrev v3 : Tm := .var 3
abbrev v4 : Tm := .var 4
abbrev v5 : Tm := .var 5
abbrev v6 : Tm := .var 6
abbrev cutM (a : Tm) : Tm := .cut v0 a (.len v0)
def rtAll (a l : Tm) (x y : AX × Option Eqs) : LTree := .fork (.ib .lss .i64 a (.len v0)) (.fork (.and (.ib .leq .i64 (.ci 0) a) (.ib .leq .i64 a (.len v0))) (.fork (.ib .leq .i64 (.len (cutM a)) (.ci 140737488355328)) (.fork (.ib .neq .i64 (.app 81 (cutM a)) (.ci 0)) (.leaf y)
  (.fork (.ib .lss .i64 (.llen l) (.ci 4294967295)) (.leaf (.normal, some [(.sI, a, .ib .add .i64 a (.app 80 (cutM a))), (.sI, .llen l, .llen (.lapp l (rowT10 (cutM a)))), (.sL, l, .lapp l (rowT10 (cutM a)))])) .fail)) .fail) .fail) (.leaf x)
theorem cut_end (s : List UInt8) (n : Nat) : cutS s (n : Int) (s.length : Int) = s.drop n := by
  unfold cutS
  simp only [Int.toNat_natCast]
  exact List.take_of_length_le (by simp)
theorem wadd (n m : Nat) (h : n + m ≤ 1000000) : (iop .add .i64 (n : Int) (m : Int)).asI = ((n + m : Nat) : Int) := by
  show IntKind.i64.wrap ((n : Int) + m) = _
  rw [w64 _ (by omega) (by omega)]; omega
section
variable {s : List UInt8} {a l : Tm} {x y : AX × Option Eqs}
theorem roundAll {ρ' ρ : Rho} (hf : ρ.fn = allFn) (h0 : (@Tm.den ρ v0).asS = s) {k : Nat} (ha : (@Tm.den ρ a).asI = (atM s k : Int)) (hl : (@Tm.den ρ l).asL = rowsM s k) (ha' : (@Tm.den ρ' a).asI = (atM s (k + 1) : Int)) (hl' : (@Tm.den ρ' l).asL = rowsM s (k + 1))
    (hn : s.length ≤ 100000) (hg : GoodM s (atM s k)) (hk : k ≤ 100000) : ∃ es, @Tree.sel _ ρ (rtAll a l x y) = some (.normal, some es) ∧ EqsOk ρ' ρ es := by
  obtain ⟨b1, b2, b3⟩ := at_step hg
  obtain ⟨g1, g2⟩ := hg
  have ec : (@Tm.den ρ (cutM a)).asS = s.drop (atM s k) := by
    show cutS (@Tm.den ρ v0).asS (@Tm.den ρ a).asI (((@Tm.den ρ v0).asS.length : Nat) : Int) = _
    rw [h0, ha]; exact cut_end _ _
  have d2 : (@Tm.den ρ (.len v0)).asI = (s.length : Int) := by
    show (((@Tm.den ρ v0).asS.length : Nat) : Int) = _
    rw [h0]
  have dc : (@Tm.den ρ (.len (cutM a))).asI = ((s.drop (atM s k)).length : Int) := by
    show (((@Tm.den ρ (cutM a)).asS.length : Nat) : Int) = _
    rw [ec]
  have dl : (@Tm.den ρ (.llen l)).asI = (k : Int) := by
    show (((@Tm.den ρ l).asL.length : Nat) : Int) = _
    rw [hl, rowsM_len]
  have a6 : (@Tm.den ρ (.app 81 (cutM a))).asI = 0 := by
    rw [app_all hf]
    show (mgot (@Tm.den ρ (cutM a)).asS).e = _
    rw [ec, g2]
  have a5 : (@Tm.den ρ (.app 80 (cutM a))).asI = ((atM s (k + 1) - atM s k : Nat) : Int) := by
    rw [app_all hf]
    show (mgot (@Tm.den ρ (cutM a)).asS).n = _
    rw [ec, b3]
  have hlist : (@Tm.den ρ (.lapp l (rowT10 (cutM a)))).asL = rowsM s (k + 1) := by
    show (@Tm.den ρ l).asL ++ (@Tm.den ρ (rowT10 (cutM a))).asL = _
    rw [hl, rowT_den hf, ec, rowsM_succ]
  unfold rtAll
  refine ⟨_, sel_T (lss_T (by rw [ha, d2]; omega)) (sel_T (and_T (leq_T (by rw [ci_asI, ha]; omega)) (leq_T (by rw [ha, d2]; omega))) (sel_T (leq_T (by rw [ci_asI, dc, List.length_drop]; omega)) (sel_F (neq_F (by rw [ci_asI, a6])) (sel_T (lss_T (by rw [ci_asI, dl]; omega)) rfl)))), ?_, ?_, ?_, trivial⟩
  · show (@Tm.den ρ' a).asI = (iop .add .i64 (@Tm.den ρ a).asI (@Tm.den ρ (.app 80 (cutM a))).asI).asI
    rw [ha', ha, a5, wadd _ _ (by omega)]
    congr 1; omega
  · show (((@Tm.den ρ' l).asL.length : Nat) : Int) = ((@Tm.den ρ (.lapp l (rowT10 (cutM a)))).asL.length : Int)
    rw [hl', hlist]
  · show (@Tm.den ρ' l).asL = (@Tm.den ρ (.lapp l (rowT10 (cutM a)))).asL
    rw [hl', hlist]
theorem lastAll {ρ : Rho} (hf : ρ.fn = allFn) (h0 : (@Tm.den ρ v0).asS = s) {k : Nat} (ha : (@Tm.den ρ a).asI = (atM s k : Int)) (hn : s.length ≤ 100000) (hk : atM s k ≤ s.length) (hg : ¬ GoodM s (atM s k)) :
    @Tree.sel _ ρ (rtAll a l x y) = some (if atM s k < s.length then y else x) := by
  have ec : (@Tm.den ρ (cutM a)).asS = s.drop (atM s k) := by
    show cutS (@Tm.den ρ v0).asS (@Tm.den ρ a).asI (((@Tm.den ρ v0).asS.length : Nat) : Int) = _
    rw [h0, ha]; exact cut_end _ _
  have d2 : (@Tm.den ρ (.len v0)).asI = (s.length : Int) := by
    show (((@Tm.den ρ v0).asS.length : Nat) : Int) = _
    rw [h0]
  have dc : (@Tm.den ρ (.len (cutM a))).asI = ((s.drop (atM s k)).length : Int) := by
    show (((@Tm.den ρ (cutM a)).asS.length : Nat) : Int) = _
    rw [ec]
  unfold rtAll
  by_cases hlt : atM s k < s.length
  · rw [if_pos hlt]
    have he : (mgot (s.drop (atM s k))).e ≠ 0 := fun h => hg ⟨hlt, h⟩
    have a6 : (@Tm.den ρ (.app 81 (cutM a))).asI = (mgot (s.drop (atM s k))).e := by
      rw [app_all hf]
      show (mgot (@Tm.den ρ (cutM a)).asS).e = _
      rw [ec]
    exact sel_T (lss_T (by rw [ha, d2]; omega)) (sel_T (and_T (leq_T (by rw [ci_asI, ha]; omega)) (leq_T (by rw [ha, d2]; omega))) (sel_T (leq_T (by rw [ci_asI, dc, List.length_drop]; omega)) (sel_T (neq_T (by rw [ci_asI, a6]; exact he)) rfl)))
  · rw [if_neg hlt]
    exact sel_F (lss_F (by rw [ha, d2]; omega)) rfl
end
end Go.Proofs.Ytamibbjpapkfeaa.Ab
