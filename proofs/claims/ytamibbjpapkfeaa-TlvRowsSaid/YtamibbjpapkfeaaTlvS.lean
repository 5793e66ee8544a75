/-
  TlvRows, called: its loops as contracts, its tree, and the call.
  Conditions: arguments as the model reads them.
-/
import Derived.Test.YtamibbjpapkfeaaTlvR
namespace Go.Proofs.Ytamibbjpapkfeaa.Ab
set_option linter.unusedSimpArgs false
set_option linter.unusedVariables false
open Go
abbrev LpG : Type := St → Option (Tm × AX × St)
def lf2 (k1 : Nat) (g1 : LpG) (k2 : Nat) (g2 : LpG) : LoopF := fun k => bif Nat.beq k k1 then some g1 else bif Nat.beq k k2 then some g2 else none
/-- What a contract of a loop says holds. -/
def GOk (ρ : Rho) (f : FuncId) (i : Nat) (g : LpG) : Prop := ∀ st o x st', g st = some (o, x, st') → (@Tm.den ρ o).asB = true → @LoopS ρ Try.prog (lpBody Try.prog f i) st x st'
theorem lf2_ok {ρ : Rho} {f : FuncId} {k1 k2 i1 i2 : Nat} {g1 g2 : LpG} (h1 : keyAt Try.prog f k1 i1 = true) (h2 : keyAt Try.prog f k2 i2 = true) (o1 : GOk ρ f i1 g1) (o2 : GOk ρ f i2 g2) {fn : Func} {c : Code} (hf : Try.prog.funcs[f]? = some fn) (hc : fn.body = some c) : @LpOK ρ Try.prog (lf2 k1 g1 k2 g2) c := by
  intro body hb g hl
  unfold lf2 at hl
  cases e1 : Nat.beq (loopKey body) k1 with
  | true =>
    rw [e1] at hl
    exact lf1_ok h1 o1 hf hc body hb g (by unfold lf1; rw [e1]; exact hl)
  | false =>
    rw [e1] at hl
    simp only [cond_false] at hl
    cases e2 : Nat.beq (loopKey body) k2 with
    | true =>
      rw [e2] at hl
      exact lf1_ok h2 o2 hf hc body hb g (by unfold lf1; rw [e2]; exact hl)
    | false => rw [e2] at hl; cases hl
def dead : LpG := fun st => some (.cb false, .ret, st)
theorem dead_ok (ρ : Rho) (f : FuncId) (i : Nat) : GOk ρ f i dead := fun st o x st' h ho => by cases h; cases ho
/-- The same where it must not come. -/
def shut (g : LpG) : LpG := fun st => match g st with
  | some (_, x, st') => some (.cb false, x, st')
  | none => none
theorem shut_ok (ρ : Rho) (f : FuncId) (i : Nat) (g : LpG) : GOk ρ f i (shut g) := fun st o x st' h ho => by
  unfold shut at h
  split at h
  · cases h; cases ho
  · cases h
def lpR (a b c : LpG) : FuncId → LoopF := fun f => bif Nat.beq f 3 then lf2 5 a 17 c else bif Nat.beq f 9 then lf1 3 b else fun _ => none
def envR (a b c : LpG) : Env := ⟨fnM, lpR a b c⟩
set_option maxRecDepth 100000 in
theorem key1 : keyAt Try.prog 3 5 0 = true := by kernel_rfl
set_option maxRecDepth 100000 in
theorem key3 : keyAt Try.prog 3 17 1 = true := by kernel_rfl
set_option maxRecDepth 100000 in
theorem key2 : keyAt Try.prog 9 3 0 = true := by kernel_rfl
theorem envR_ok {ρ : Rho} (hf : ρ.fn = tlvFn) {a b c : LpG} (ha : GOk ρ 3 0 a) (hb : GOk ρ 9 0 b) (hc : GOk ρ 3 1 c) : @EnvOK ρ Try.prog (envR a b c) := by
  refine ⟨(envM_ok hf).fn, fun f fn cd h1 h2 => ?_⟩
  simp only [envR, lpR]
  cases e1 : Nat.beq f 3 with
  | true =>
    obtain rfl := Nat.eq_of_beq_eq_true e1
    exact lf2_ok key1 key3 ha hc h1 h2
  | false =>
    simp only [cond_false]
    cases e2 : Nat.beq f 9 with
    | true =>
      obtain rfl := Nat.eq_of_beq_eq_true e2
      exact lf1_ok key2 hb h1 h2
    | false => exact lf0_ok
noncomputable def g1R : LpG := loopG 1 1 T1R F1R s1R (.exit 0)
noncomputable def g1B : LpG := loopG 1 1 T1R F1B s1R .ret
noncomputable def g2R : LpG := loopG 3 3 T2R F2R s2R (.exit 0)
noncomputable def g3R : LpG := loopG 4 5 T3R F3R s3R (.exit 2)
abbrev rhoA (L : List (List Dat)) : Rho := rhoR L L.length (cat L) (cat L).length (L.map item) L.length
section
variable {L : List (List Dat)}
theorem cat_takes (L : List (List Dat)) (k : Nat) : (cat (L.take k)).length ≤ 129 * L.length := by
  have := cat_small (L.take k)
  have h2 : (L.take k).length ≤ L.length := by rw [List.length_take]; omega
  omega
theorem g1R_ok (hR : Rows7 L) (hN : L.length ≤ 20) (hg : ∀ i, i < L.length → (pv (L.getD i [])).length ≤ 127) : GOk (rhoA L) 3 0 g1R := by
  refine loopG_ok noCount (rhoA L) (fun k => rhoR L k (cat (L.take k)) (cat L).length (L.map item) L.length) L.length (fuel := 1000000) (cf := evFun Try.prog envM 1000) (lf := fun _ => none) (by simp) rfl
    (fun k _ => by letI : Rho := rhoR L k (cat (L.take k)) (cat L).length (L.map item) L.length; exact evFun_ok noCount (envM_ok rfl) 1000) (fun k _ => by letI : Rho := rhoR L k (cat (L.take k)) (cat L).length (L.map item) L.length; exact lf0_ok) (fun k _ => ⟨fun n hn => ?_, rfl⟩) (fun k hk => ?_) ?_ (fun n => ?_)
  · match n, hn with
    | 0, _ => rfl
  · have := cat_takes L k
    rw [rt1_eq, cat_take hk]
    exact round1 hR hk (by omega) (by omega) (hg k hk) _ _ _ _ _ _
  · rw [rt1_eq]
    refine ⟨_, last1 _ _ _ rfl, ?_, trivial⟩
    show cat L = cat (L.take L.length)
    rw [List.take_length]
  · match n with
    | 0 => rfl
    | 1 => rfl
    | 2 => rfl
    | 3 => rfl
    | 4 => rfl
    | 5 => rfl
    | n + 6 => rfl
theorem g3R_ok (hN : L.length ≤ 20) : GOk (rhoA L) 3 1 g3R := by
  refine loopG_ok noCount (rhoA L) (fun k => rhoR L L.length (cat L) (cat L).length (L.map item) k) L.length (fuel := 1000000) (cf := evFun Try.prog envM 1000) (lf := fun _ => none) (by simp) rfl
    (fun k _ => by letI : Rho := rhoR L L.length (cat L) (cat L).length (L.map item) k; exact evFun_ok noCount (envM_ok rfl) 1000) (fun k _ => by letI : Rho := rhoR L L.length (cat L) (cat L).length (L.map item) k; exact lf0_ok) (fun k _ => ⟨fun n hn => ?_, rfl⟩) (fun k hk => ?_) ?_ (fun n => ?_)
  · match n, hn with
    | 0, _ => rfl
    | 1, _ => rfl
    | 2, _ => rfl
    | 3, _ => rfl
    | 4, _ => rfl
  · rw [rt3_eq]
    exact round3 hk (by omega) _ _ _
  · rw [rt3_eq]
    exact ⟨_, last3 rfl, trivial⟩
  · match n with
    | 0 => rfl
    | 1 => rfl
    | 2 => rfl
    | 3 => rfl
    | 4 => rfl
    | 5 => rfl
    | n + 6 => rfl
theorem g2R_ok (hR : Rows7 L) (h1 : 1 ≤ L.length) (hN : L.length ≤ 20) (hg : ∀ i, i < L.length → (pv (L.getD i [])).length ≤ 127) : GOk (rhoA L) 9 0 g2R := by
  have hend : L.length - 1 + 1 = L.length := by omega
  refine loopG_ok noCount (rhoA L) (fun k => rhoR L L.length (cat L) (cat (L.take (k + 1))).length ((L.take (k + 1)).map item) L.length) (L.length - 1) (fuel := 1000000) (cf := evFun Try.prog envM 1000) (lf := fun _ => none) (by simp) rfl
    (fun k _ => by letI : Rho := rhoR L L.length (cat L) (cat (L.take (k + 1))).length ((L.take (k + 1)).map item) L.length; exact evFun_ok noCount (envM_ok rfl) 1000) (fun k _ => by letI : Rho := rhoR L L.length (cat L) (cat (L.take (k + 1))).length ((L.take (k + 1)).map item) L.length; exact lf0_ok) (fun k _ => ⟨fun n hn => ?_, rfl⟩) (fun k hk => ?_) ?_ (fun n => ?_)
  · match n, hn with
    | 0, _ => rfl
    | 1, _ => rfl
    | 2, _ => rfl
  · rw [rt2_eq]
    exact round2 hR hN hg (show k + 1 < L.length by omega) _ _
  · rw [rt2_eq, hend, List.take_length]
    exact ⟨_, last2 rfl, rfl, rfl, trivial⟩
  · have hgot := got hR hg (show 0 < L.length by omega)
    have hsm := cat_small (L.take 1)
    have ec : @Dat.asS (@Tm.den (rhoA L) cut0) = cat L := by
      show cutS (cat L) 0 ((cat L).length : Int) = _
      exact cut_end (cat L) 0
    have hz : (cat L).drop (cat (L.take 0)).length = cat L := rfl
    rw [hz] at hgot
    have e1 : cat (L.take 1) = put1 (L.getD 0 []) := by
      have := cat_take (L := L) (k := 0) (by omega)
      rw [this]; rfl
    match n with
    | 0 => rfl
    | 1 => rfl
    | 2 => rfl
    | 3 =>
      show Dat.dI ((cat (L.take 1)).length : Int) = iop .add .i64 0 (tget (@Dat.asS (@Tm.den (rhoA L) cut0))).n
      rw [ec, hgot, e1]
      have hl := cat_takes L 1
      rw [e1] at hl
      show _ = Dat.dI (IntKind.i64.wrap ((0 : Int) + (((put1 (L.getD 0 [])).length : Nat) : Int)))
      rw [w64 _ (by omega) (by omega)]
      congr 1; omega
    | 4 =>
      show Dat.dL ((L.take 1).map item) = .dL [[Dat.dI (tget (@Dat.asS (@Tm.den (rhoA L) cut0))).k, .dB (tget (@Dat.asS (@Tm.den (rhoA L) cut0))).c, .dS (tget (@Dat.asS (@Tm.den (rhoA L) cut0))).v]]
      rw [ec, hgot]
      have := items_take (L := L) (k := 0) (by omega)
      rw [show (0 : Nat) + 1 = 1 from rfl] at this
      rw [this]; rfl
    | 5 => rfl
    | n + 6 => rfl
/-- The first item that may not be. -/
abbrev rhoB (L : List (List Dat)) (m : Nat) : Rho := rhoR L m (cat (L.take m)) 0 [] 0
theorem g1B_ok (hR : Rows7 L) (hN : L.length ≤ 20) {m : Nat} (hm : m < L.length) (hg : ∀ i, i < m → (pv (L.getD i [])).length ≤ 127) (hb : 127 < (pv (L.getD m [])).length) : GOk (rhoB L m) 3 0 g1B := by
  refine loopG_ok noCount (rhoB L m) (fun k => rhoB L k) m (fuel := 1000000) (cf := evFun Try.prog envM 1000) (lf := fun _ => none) (by simp) rfl
    (fun k _ => by letI : Rho := rhoB L k; exact evFun_ok noCount (envM_ok rfl) 1000) (fun k _ => by letI : Rho := rhoB L k; exact lf0_ok) (fun k _ => ⟨fun n hn => ?_, rfl⟩) (fun k hk => ?_) ?_ (fun n => ?_)
  · match n, hn with
    | 0, _ => rfl
  · have := cat_takes L k
    rw [rt1B_eq]
    have h := round1 (L := L) (s := cat (L.take k)) (at_ := 0) (j := 0) (l := []) hR (show k < L.length by omega) (by omega) (by omega) (hg k hk) (some []) none none 0 [] 0
    rw [← cat_take (by omega)] at h
    exact h
  · rw [rt1B_eq]
    exact ⟨_, last1B hR hm hb _ _ _, trivial⟩
  · match n with
    | 0 => rfl
    | 1 => rfl
    | 2 => rfl
    | 3 => rfl
    | 4 => rfl
    | 5 => rfl
    | n + 6 => rfl
end
abbrev tt7 : Tree AV := .leaf (.bool true)
abbrev ff7 : Tree AV := .leaf (.bool false)
def lawX (z : Tree AV) : Tree AV := .fork (.ib .gtr .i64 (.llen v0) (.ci 20)) tt7 (.fork (.ib .lss .i64 (.ci 0) (.len v2)) (.fork (.ib .leq .i64 (.ci 0) (.len v2)) (.fork (.ib .leq .i64 (.len cut0) (.ci 140737488355328)) (.fork (.ib .neq .i64 (.app 6 cut0) (.ci 0)) ff7 z) .fail) .fail)
  (.fork (.ib .neq .i64 (.llen v0) (.ci 0)) ff7 (.fork (.ib .lss .i64 (.ci 0) (.llen v0)) .fail tt7)))
def behindX : Tree AV := .fork (.ib .eql .i64 (.llen (rowT cut0)) (.ci 1)) (.fork (.ib .neq .i64 (.llen v4) (.llen v0)) ff7 tt7) .fail
noncomputable def lawR (a b c : LpG) : Tree AV := evFun Try.prog (envR a b c) 1000 3 [argR] H0R fun v _ => .leaf v
set_option maxRecDepth 100000 in
theorem lawR_A : lawR g1R g2R g3R = lawX behindX := by kernel_rfl
set_option maxRecDepth 100000 in
theorem lawR_Z : lawR g1R (shut g2R) g3R = lawX .fail := by kernel_rfl
set_option maxRecDepth 100000 in
theorem lawR_B : lawR g1B dead dead = .fork (.ib .gtr .i64 (.llen v0) (.ci 20)) tt7 tt7 := by kernel_rfl
set_option maxRecDepth 100000 in
theorem lawR_D : lawR dead dead dead = .fork (.ib .gtr .i64 (.llen v0) (.ci 20)) tt7 .fail := by kernel_rfl
set_option maxRecDepth 100000 in
theorem nil_tree : Tree.allT (evFun Try.prog envM 1000 3 [.nilSlice] heap0 fun v _ => .leaf v) = true := by kernel_rfl
theorem okT [Rho] {c : Tm} {x y : Tree AV} (h : c.den.asB = true) (hx : x.ok) : (Tree.fork c x y).ok := ⟨fun _ => hx, fun k => absurd (h.symm.trans k) (by simp)⟩
theorem okF [Rho] {c : Tm} {x y : Tree AV} (h : c.den.asB = false) (hy : y.ok) : (Tree.fork c x y).ok := ⟨fun k => absurd (h.symm.trans k) (by simp), fun _ => hy⟩
theorem ok7 [Rho] : tt7.ok := ⟨.cb true, rfl, rfl⟩
section
variable {L : List (List Dat)}
theorem lawX_A (hR : Rows7 L) (h1 : 1 ≤ L.length) (hN : L.length ≤ 20) (hg : ∀ i, i < L.length → (pv (L.getD i [])).length ≤ 127) : @Tree.ok (rhoA L) (lawX behindX) := by
  have hgot := got hR hg (show 0 < L.length by omega)
  have hz : (cat L).drop (cat (L.take 0)).length = cat L := rfl
  rw [hz] at hgot
  have hsm := cat_small L
  have hp := put_len (pk_le hR (show 0 < L.length by omega)).2 (hg 0 (by omega))
  have hct := cat_take (L := L) (k := 0) (by omega)
  have hsp := cat_split L 1
  rw [show (0 : Nat) + 1 = 1 from rfl] at hct
  have hlen : 2 ≤ (cat L).length := by
    rw [hsp, hct, List.length_append, List.length_append]; omega
  letI ρ : Rho := rhoA L
  have d0 : (Tm.llen v0).den.asI = (L.length : Int) := rfl
  have d2 : (Tm.len v2).den.asI = ((cat L).length : Int) := rfl
  have d4 : (Tm.llen v4).den.asI = (L.length : Int) := by
    show ((L.map item).length : Int) = _
    rw [List.length_map]
  have ec : cut0.den.asS = cat L := cut_end (cat L) 0
  have dc : (Tm.len cut0).den.asI = ((cat L).length : Int) := by
    show (cut0.den.asS.length : Int) = _
    rw [ec]
  have a6 : (Tm.app 6 cut0).den.asI = 0 := by
    show (tget cut0.den.asS).e = _
    rw [ec, hgot]
  have ar : (Tm.llen (rowT cut0)).den.asI = 1 := rfl
  exact okF (gtr_F (by rw [d0, ci_asI]; omega)) (okT (lss_T (by rw [d2, ci_asI]; omega)) (okT (leq_T (by rw [d2, ci_asI]; omega)) (okT (leq_T (by rw [dc, ci_asI]; omega)) (okF (neq_F (by rw [a6, ci_asI])) (okT (eql_T (by rw [ar, ci_asI])) (okF (neq_F (by rw [d4, d0])) ok7))))))
theorem lawX_Z : @Tree.ok (rhoA []) (lawX .fail) := by
  letI ρ : Rho := rhoA []
  have d0 : (Tm.llen v0).den.asI = 0 := rfl
  have d2 : (Tm.len v2).den.asI = 0 := rfl
  exact okF (gtr_F (by rw [d0, ci_asI]; omega)) (okF (lss_F (by rw [d2, ci_asI]; omega)) (okF (neq_F (by rw [d0, ci_asI])) (okF (lss_F (by rw [d0, ci_asI]; omega)) ok7)))
/-- The law holds of any rows. -/
theorem law_rows (hR : Rows7 L) : ∃ (ρ : Rho) (a b c : LpG), ρ.val 0 = .dL L ∧ @EnvOK ρ Try.prog (envR a b c) ∧ @Tree.ok ρ (lawR a b c) := by
  rcases Nat.lt_or_ge 20 L.length with h20 | hN
  · refine ⟨rhoB L 0, dead, dead, dead, rfl, envR_ok rfl (dead_ok _ _ _) (dead_ok _ _ _) (dead_ok _ _ _), ?_⟩
    rw [lawR_D]
    letI ρ : Rho := rhoB L 0
    have d0 : (Tm.llen v0).den.asI = (L.length : Int) := rfl
    exact okT (gtr_T (by rw [d0, ci_asI]; omega)) ok7
  · by_cases hg : ∀ i, i < L.length → (pv (L.getD i [])).length ≤ 127
    · rcases Nat.eq_zero_or_pos L.length with h0 | h1
      · obtain rfl := List.eq_nil_of_length_eq_zero h0
        refine ⟨rhoA [], g1R, shut g2R, g3R, rfl, envR_ok rfl (g1R_ok hR hN hg) (shut_ok _ _ _ _) (g3R_ok hN), ?_⟩
        rw [lawR_Z]; exact lawX_Z
      · refine ⟨rhoA L, g1R, g2R, g3R, rfl, envR_ok rfl (g1R_ok hR hN hg) (g2R_ok hR h1 hN hg) (g3R_ok hN), ?_⟩
        rw [lawR_A]; exact lawX_A hR h1 hN hg
    · -- the first that is too long
      have hex : ∃ m, m < L.length ∧ 127 < (pv (L.getD m [])).length ∧ ∀ i, i < m → (pv (L.getD i [])).length ≤ 127 := by
        have key : ∀ n, n ≤ L.length → (∀ i, i < n → (pv (L.getD i [])).length ≤ 127) ∨ ∃ m, m < L.length ∧ 127 < (pv (L.getD m [])).length ∧ ∀ i, i < m → (pv (L.getD i [])).length ≤ 127 := by
          intro n
          induction n with
          | zero => intro _; exact .inl fun i hi => by omega
          | succ n ih =>
            intro hn
            rcases ih (by omega) with h | h
            · rcases Nat.lt_or_ge 127 (pv (L.getD n [])).length with h2 | h2
              · exact .inr ⟨n, by omega, h2, h⟩
              · refine .inl fun i hi => ?_
                rcases Nat.lt_or_ge i n with h3 | h3
                · exact h i h3
                · obtain rfl : i = n := by omega
                  exact h2
            · exact .inr h
        rcases key L.length (Nat.le_refl _) with h | h
        · exact absurd h hg
        · exact h
      obtain ⟨m, hm, hb, hg'⟩ := hex
      refine ⟨rhoB L m, g1B, dead, dead, rfl, envR_ok rfl (g1B_ok hR hN hm hg' hb) (dead_ok _ _ _) (dead_ok _ _ _), ?_⟩
      rw [lawR_B]
      letI ρ : Rho := rhoB L m
      exact ⟨fun _ => ok7, fun _ => ok7⟩
end
set_option maxRecDepth 100000 in
theorem tlvRows_w (v : Value) (w : World) (h : v = .slice none 0 0 ∨ ∃ a len cap rows, v = .slice (some a) len cap ∧ len ≤ maxLen ∧ SliceAt w a len cap shI rows) :
    Calls Try.prog 3 #[v] w fun e w' => e = .returned (.bool true) ∧ RowKit.Below w.heap.size w w' := by
  rcases h with rfl | ⟨a, len, cap, L, rfl, _, hs⟩
  · letI ρ : Rho := rhoA []
    exact call_true (evFun_ok noCount (envM_ok rfl) 1000) (args := [.nilSlice]) (Tree.allT_ok _ nil_tree) (cargs := [.slice none 0 0]) ⟨_, _, rfl, rfl, rfl⟩ w
  · have hR : Rows7 L := fun i hi => by
      rw [hs.n] at hi
      exact ⟨hs.ok i hi 0 _ rfl, hs.ok i hi 2 _ rfl⟩
    obtain ⟨ρ, g1, g2, g3, h0, hE, hT⟩ := law_rows hR
    letI := ρ
    have ht : v0.den.asL = L := by
      show (ρ.val 0).asL = L
      rw [h0]; rfl
    have hm : (fun id => if id = 0 then some (⟨a.block, a.off, cap, shI.length, len * shI.length⟩ : Loc) else none) 0 = some ⟨a.block, a.off, cap, shI.length, len * shI.length⟩ := rfl
    have hobj : ∀ id o, H0R.get id = some o → id = 0 ∧ o = .seq shI v0 false := fun id o hg => by
      have hg' : look [(0, AObj.seq shI v0 false)] id = some o := hg
      rw [look_cons'] at hg'
      split at hg'
      · rename_i e; cases hg'; exact ⟨e, rfl⟩
      · cases hg'
    refine call_true_at (evFun_ok noCount hE 1000) (args := [argR]) (H := H0R) rfl (fun id o hg => ?_) hT (μ := fun id => if id = 0 then some (⟨a.block, a.off, cap, shI.length, len * shI.length⟩ : Loc) else none) (cargs := [.slice (some a) len cap]) ?_ ⟨fun id o hg => ?_, fun i j oi oj li lj h1 h2 hij _ _ _ => ?_⟩ (fun id hid => ?_)
    · obtain ⟨_, rfl⟩ := hobj id o hg; rfl
    · exact ⟨_, _, hs.val (by decide) ht hm, rfl, rfl⟩
    · obtain ⟨rfl, rfl⟩ := hobj id o hg
      exact hs.rep ht hm
    · obtain ⟨rfl, _⟩ := hobj i oi h1
      obtain ⟨rfl, _⟩ := hobj j oj h2
      exact absurd rfl hij
    · have : id ≠ 0 := by
        have h1 : 1 ≤ id := hid
        omega
      exact if_neg this
end Go.Proofs.Ytamibbjpapkfeaa.Ab
namespace Go.Proofs.Ytamibbjpapkfeaa
open Go Go.Proofs.Ytamibbjpapkfeaa.Ab
theorem tlvRows_walk (v : Value) (w : World) (h : v = .slice none 0 0 ∨ ∃ a len cap rows, v = .slice (some a) len cap ∧ len ≤ maxLen ∧ SliceAt w a len cap shI rows) :
    Calls Try.prog 3 #[v] w fun e w' => e = .returned (.bool true) ∧ RowKit.Below w.heap.size w w' := tlvRows_w v w h
end Go.Proofs.Ytamibbjpapkfeaa
