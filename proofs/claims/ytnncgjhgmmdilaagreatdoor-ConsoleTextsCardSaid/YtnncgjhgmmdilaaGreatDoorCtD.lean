/-
  ConsoleTexts: the calls of both Bytes and both Text answer what plain Lean says.
  Conditions: texts of at most 100000 bytes; strings.IndexByte as the kit's contract of it says.
-/
import Derived.Test.YtnncgjhgmmdilaaGreatDoorCtC
import Derived.Test.YtnncgjhgmmdilaaGreatDoorShelf
namespace Go.Proofs.YtnncgjhgmmdilaaGreatDoor.Ab
set_option linter.unusedSimpArgs false
set_option linter.unusedVariables false
open Go Go.Proofs.YtnncgjhgmmdilaaGreatDoor
set_option linter.unusedSectionVars false
set_option linter.unusedVariables false
noncomputable section
abbrev stL (l : List UInt8) : Value := .string ⟨l.toArray⟩
/-! ### a digit -/
def digChk (n : Nat) : Bool := match @Tree.sel _ ⟨fun _ => .dI (n : Int), fun _ d => d⟩ lDg with
  | some (.sint .i64 t) => (@Tm.den ⟨fun _ => .dI (n : Int), fun _ d => d⟩ t).asI == undig (UInt8.ofNat n)
  | some (.int .i64 k) => k == undig (UInt8.ofNat n)
  | _ => false
theorem digAll : ∀ n : Fin 256, digChk n.val = true := by decide +kernel
theorem digit_nat (n : Nat) (h1 : n < 256) (w : World) : Calls Tryz.prog fDg #[.int .u8 (n : Int)] w fun e w' => e = .returned (.int .i64 (undig (UInt8.ofNat n))) ∧ RowKit.Below w.heap.size w w' := by
  letI ρ : Rho := ⟨fun _ => .dI (n : Int), fun _ d => d⟩
  have hc : digChk n = true := digAll ⟨n, h1⟩
  unfold digChk at hc
  have ha : VRs (fun _ => none) [uv 0] [.int .u8 (n : Int)] := ⟨_, _, rfl, rfl, rfl⟩
  split at hc
  · rename_i t hs
    refine call_val (evFun_ok noCount none0_ok 1000) (f := fDg) (args := [uv 0]) (v := .sint .i64 t) ?_ ?_ (cargs := [.int .u8 (n : Int)]) ha w
    · rw [lDg_eq]; exact hs
    · exact congrArg _ (beq_iff_eq.1 hc).symm
  · rename_i k hs
    refine call_val (evFun_ok noCount none0_ok 1000) (f := fDg) (args := [uv 0]) (v := .int .i64 k) ?_ ?_ (cargs := [.int .u8 (n : Int)]) ha w
    · rw [lDg_eq]; exact hs
    · exact congrArg _ (beq_iff_eq.1 hc).symm
  · cases hc
theorem digit_calls (n : Int) (h0 : 0 ≤ n) (h1 : n ≤ 255) (w : World) : Calls Tryz.prog fDg #[.int .u8 n] w fun e w' => e = .returned (.int .i64 (undig (UInt8.ofNat n.toNat))) ∧ RowKit.Below w.heap.size w w' := by
  obtain ⟨m, rfl⟩ := Int.eq_ofNat_of_zero_le h0
  exact digit_nat m (by omega) w
theorem ix_dig (c : UInt8) : Lib.indexByte digL c = undig c := all8 (p := fun c => Lib.indexByte digL c = undig c) (by decide +kernel) c
theorem dgG_some {args : List AV} {H : Heap} {o : Tm} {v : AV} {H' : Heap} (h : dgG args H = some (o, v, H')) : ∃ c, args = [.sint .u8 c] ∧ o = andT (iopT .leq .u8 (.ci 0) c) (iopT .leq .u8 c (.ci 255)) ∧ v = .sint .i64 (.app 0 c) ∧ H' = H := by
  unfold dgG at h
  split at h
  · cases h; exact ⟨_, rfl, rfl, rfl, rfl⟩
  · cases h
theorem leqT_den [Rho] (x y : Tm) : (iopT .leq .u8 x y).den.asB = decide (x.den.asI ≤ y.den.asI) := by
  rw [iopT_den]; rfl
theorem dg_debt [Rho] {c : Tm} (h : (andT (iopT .leq .u8 (.ci 0) c) (iopT .leq .u8 c (.ci 255))).den.asB = true) : 0 ≤ c.den.asI ∧ c.den.asI ≤ 255 := by
  rw [andT_den, leqT_den, leqT_den, Bool.and_eq_true] at h
  exact ⟨of_decide_eq_true h.1, of_decide_eq_true h.2⟩
theorem dg_CG {ρ : Rho} (hf : ρ.fn 0 = fnCt 0) : CG ρ fDg dgG := fun args H o v H' _ h ho => by
  letI : Rho := ρ
  obtain ⟨c, rfl, rfl, rfl, rfl⟩ := dgG_some h
  have ho := dg_debt ho
  refine ⟨callS_new fun μ cargs w hv => ?_, LG.refl _⟩
  obtain ⟨x, r, rfl, rfl, rfl⟩ := hv
  refine (digit_calls c.den.asI ho.1 ho.2 w).mono fun e w' he => ⟨_, he.1, ?_, he.2⟩
  show _ = Value.int .i64 (ρ.fn 0 c.den).asI
  rw [hf]; rfl
theorem ix_CG {ρ : Rho} (hf : ρ.fn 0 = fnCt 0) : CG ρ fIx ixG := fun args H o v H' _ h ho => by
  letI : Rho := ρ
  unfold ixG at h
  split at h
  · cases hb : eqL ‹_› digL with
    | false => rw [hb] at h; cases h
    | true =>
      rw [hb] at h
      simp only [cond_true] at h
      obtain ⟨c, e, rfl, rfl, rfl⟩ := dgG_some h
      cases e
      have ho := dg_debt ho
      refine ⟨callS_new fun μ cargs w hv => ?_, LG.refl _⟩
      obtain ⟨y, r, rfl, ⟨x, r', rfl, rfl, rfl⟩, rfl⟩ := hv
      refine (Tryz.strings_IndexByte ⟨(_ : List UInt8).toArray⟩ c.den.asI w).mono fun e w' he => ⟨_, he.1, ?_, by rw [he.2]; exact RowKit.Below.refl _ _⟩
      show _ = Value.int .i64 (ρ.fn 0 c.den).asI
      rw [hf, eqL_eq _ _ hb]
      show Value.int .i64 (Lib.indexByte digL (UInt8.ofNat c.den.asI.toNat)) = Value.int .i64 (undig (UInt8.ofNat c.den.asI.toNat))
      rw [ix_dig]
  · cases h
theorem tabCt_ok {ρ : Rho} (hf : ρ.fn 0 = fnCt 0) : TabOK ρ tabCt := ⟨dg_CG hf, ix_CG hf, trivial⟩
theorem envCt_ok {ρ : Rho} (hf : ρ.fn 0 = fnCt 0) : @EnvOK ρ Tryz.prog envCt := env_of (tabCt_ok hf)
theorem tabCt_fn {ρ : Rho} (hf : ρ.fn 0 = fnCt 0) : ∀ f g, tabGet tabCt f = some g → ∀ args H o v H', @PC ρ H → g args H = some (o, v, H') → (@Tm.den ρ o).asB = true → @CallS ρ Tryz.prog f args H v H' ∧ LG H H' := fun f g hg => tabOK_get (tabCt_ok hf) f g hg
/-- The loop's contract of a function of this chapter. -/
theorem loopCt {f : FuncId} {n0 : Nat} {T F : St} {sg : Nat → Option Tm} {x : AX} {rt : Tree (AX × Option Eqs)} (ht : rndC f n0 1 T F = rt) (hx : x ≠ .normal) (hpc : T.H.pc = []) (ρ : Rho) (ρs : Nat → Rho) (N : Nat) (hf : ρ.fn 0 = fnCt 0) (low : ∀ k, k ≤ N → Low 1 (ρs k) ρ)
    (hstep : ∀ k, k < N → ∃ es, @Tree.sel _ (ρs k) rt = some (.normal, some es) ∧ EqsOk (ρs (k + 1)) (ρs k) es)
    (hlast : ∃ es, @Tree.sel _ (ρs N) rt = some (x, some es) ∧ EqsOk ρ (ρs N) es)
    (hσ : ∀ n, (ρs 0).val n = match sg n with
      | some t => @Tm.den ρ t
      | none => ρ.val n) : GOk ρ f 0 (loopN n0 1 T F sg x) := by
  subst ht
  exact loopN_ok noCount ρ ρs N (fuel := 1000000) (cf := evFun Tryz.prog envCt 1000) (lf := fun _ => none) hx hpc
    (fun k hk => by letI : Rho := ρs k; exact evFun_ok noCount (envCt_ok (by rw [(low k hk).2]; exact hf)) 1000) (fun k _ => by letI : Rho := ρs k; exact lf0_ok) low hstep hlast hσ
theorem lawCt {f : FuncId} {key : Nat} {g : LpG} {t : Tree AV} (ht : lawC f (lpC f key g) = t) (hk : keyAt Tryz.prog f key 0 = true) {ρ : Rho} (hf : ρ.fn 0 = fnCt 0) (hg : GOk ρ f 0 g) {v : AV} (hs : @Tree.sel _ ρ t = some v) {c : Value} (hv : @VR ρ (fun _ => none) v c) {s : List UInt8} (h0 : ρ.val 0 = .dS s) (w : World) :
    Calls Tryz.prog f #[stL s] w fun e w' => e = .returned c ∧ RowKit.Below w.heap.size w w' := by
  subst ht
  letI : Rho := ρ
  refine call_val (evFun_ok noCount (envOne_ok (tabCt_fn hf) hk hg) 1000) (args := [.sstr (vt 0)]) hs hv (cargs := [stL s]) ⟨_, _, ?_, rfl, rfl⟩ w
  show stL s = Value.string ⟨(ρ.val 0).asS.toArray⟩
  rw [h0]; rfl
set_option maxRecDepth 100000 in
theorem kCB : keyAt Tryz.prog fCB 3 0 = true := by kernel_rfl
set_option maxRecDepth 100000 in
theorem kRB : keyAt Tryz.prog fRB 3 0 = true := by kernel_rfl
set_option maxRecDepth 100000 in
theorem kCT : keyAt Tryz.prog fCT 6 0 = true := by kernel_rfl
set_option maxRecDepth 100000 in
theorem kRT : keyAt Tryz.prog fRT 5 0 = true := by kernel_rfl
/-! ### both Bytes -/
theorem refBytes_calls (s : List UInt8) (hs : s.length ≤ 100000) (w : World) : Calls Tryz.prog fRB #[stL s] w fun e w' => e = .returned (stL (bytesL s)) ∧ RowKit.Below w.heap.size w w' := by
  refine lawCt lRB_eq kRB (ρ := rhoRB s s.length) rfl (loopCt rRB_eq (by simp) rfl (rhoRB s s.length) (fun k => rhoRB s k) s.length rfl (fun k _ => ⟨fun n hn => ?_, rfl⟩) (fun k hk => rRB_step hs hk) rRB_last (fun n => ?_)) rfl ?_ rfl w
  · match n, hn with
    | 0, _ => rfl
  · match n with
    | 0 => rfl
    | 1 => rfl
    | 2 => rfl
    | 3 => rfl
    | n + 4 => rfl
  · show stL (bytesL s) = stL (61 :: (s.take s.length).flatMap two)
    rw [List.take_length]; rfl
theorem nilCB : (rhoT [] 1 (.dL (rowsB [61, 48, 48])) []).val 2 = @Tm.den (rhoT [] 1 (.dL (rowsB [61, 48, 48])) []) (.lapp (row1 (.ci 61)) (.lapp (row1 (.at (.cs digL) (.ib .shr .u8 (.at (vt 0) (.ci 0)) (.ci 4)))) (row1 (.at (.cs digL) (.ib .and .u8 (.at (vt 0) (.ci 0)) (.ci 15)))))) := by kernel_rfl
theorem gt_len (s : List UInt8) (h : s ≠ []) : 0 < s.length := List.length_pos_iff.2 h
theorem bytes_calls (s : List UInt8) (hs : s.length ≤ 100000) (w : World) : Calls Tryz.prog fCB #[stL s] w fun e w' => e = .returned (stL (bytesL s)) ∧ RowKit.Below w.heap.size w w' := by
  rcases s with _ | ⟨b, s⟩
  · letI ρ : Rho := rhoT [] 1 (.dL (rowsB [61, 48, 48])) []
    refine lawCt lCB_eq kCB (ρ := ρ) rfl (loopCt rCB_eq (by simp) rfl ρ (fun _ => ρ) 0 rfl (fun k _ => ⟨fun n hn => rfl, rfl⟩) (fun k hk => by omega) ?_ (fun n => ?_)) (v := .str [61]) ?_ rfl rfl w
    · unfold rCB
      exact ⟨_, selF (lss_F (by show ¬ (1 : Int) < 0; omega)) rfl, rfl, rfl, trivial⟩
    · match n with
      | 0 => rfl
      | 1 => rfl
      | 2 => exact nilCB
      | n + 3 => rfl
    · unfold lCB
      exact selF (lss_F (by show ¬ (0 : Int) < 0; omega)) rfl
  · obtain ⟨n, hn⟩ : ∃ n, n + 1 = (b :: s).length := ⟨s.length, rfl⟩
    letI ρ : Rho := rhoCB (b :: s) n
    have hq : (Tm.ib .shr .u8 (.at (vt 0) (.ci 0)) (.ci 4)).den.asI = (((oc (b :: s) 0).val / 16 : Nat) : Int) := o_shr (oc (b :: s) 0)
    have hr : (Tm.ib .and .u8 (.at (vt 0) (.ci 0)) (.ci 15)).den.asI = (((oc (b :: s) 0).val % 16 : Nat) : Int) := o_and (oc (b :: s) 0)
    have bq : (oc (b :: s) 0).val / 16 < 16 := by have := (oc (b :: s) 0).isLt; omega
    have br : (oc (b :: s) 0).val % 16 < 16 := by omega
    refine lawCt lCB_eq kCB (ρ := ρ) rfl (loopCt rCB_eq (by simp) rfl ρ (fun k => rhoCB (b :: s) k) n rfl (fun k _ => ⟨fun n hn => ?_, rfl⟩) (fun k hk => rCB_step hs (by omega)) (rCB_last hn) (fun n => ?_))
      (v := .sstr (.flat (vt 2))) ?_ ?_ rfl w
    · match n, hn with
      | 0, _ => rfl
    · match n with
      | 0 => rfl
      | 1 => rfl
      | 2 =>
        show Dat.dL (rowsB (61 :: ((b :: s).take 1).flatMap two)) = .dL ([[Dat.dI 61]] ++ ([[Dat.dI (octAt digL (Tm.ib .shr .u8 (.at (vt 0) (.ci 0)) (.ci 4)).den.asI.toNat)]] ++ [[Dat.dI (octAt digL (Tm.ib .and .u8 (.at (vt 0) (.ci 0)) (.ci 15)).den.asI.toNat)]]))
        rw [hq, hr, Int.toNat_natCast, Int.toNat_natCast]; rfl
      | 3 => rfl
      | n + 4 => rfl
    · unfold lCB
      exact selT (lss_T (by show (0 : Int) < ((b :: s).length : Int); simp only [List.length_cons]; omega)) (selT (and_T (leq_T (by rw [ci_asI, hq]; omega)) (lss_T (by rw [hq, ci_asI]; omega)))
        (selT (and_T (leq_T (by rw [ci_asI, hr]; omega)) (lss_T (by rw [hr, ci_asI]; omega))) (selT (eql_T rfl) rfl)))
    · show stL (bytesL (b :: s)) = stL ((rowsB (61 :: ((b :: s).take (n + 1)).flatMap two)).map fun r => UInt8.ofNat (r.getD 0 (.dI 0)).asI.toNat)
      rw [flat_rows, hn, List.take_length]; rfl
/-! ### both Text -/
theorem pair_VR [ρ : Rho] {μ : Mu} {t : Tm} {s : List UInt8} (h : t.den.asS = s) (b : Bool) : VR μ (.tuple [.sstr t, .bool b]) (.tuple #[stL s, .bool b]) := ⟨[_, _], ⟨_, _, by rw [← h]; rfl, ⟨_, _, rfl, rfl, rfl⟩, rfl⟩, rfl⟩
theorem none_VR [ρ : Rho] {μ : Mu} : VR μ (.tuple [.str [], .bool false]) (.tuple #[stL [], .bool false]) := ⟨[_, _], ⟨_, _, rfl, ⟨_, _, rfl, rfl, rfl⟩, rfl⟩, rfl⟩
theorem cut_all (c : UInt8) (r : List UInt8) : cutS (c :: r) 1 ((c :: r).length : Int) = r := by
  unfold cutS
  show List.take ((c :: r).length - 1) r = r
  simp
theorem leastB {p : Nat → Prop} [DecidablePred p] : ∀ n : Nat, (∃ k, k < n ∧ p k) → ∃ b, b < n ∧ p b ∧ ∀ k, k < b → ¬ p k
  | 0, h => by obtain ⟨k, hk, _⟩ := h; omega
  | n + 1, h => by
    by_cases h1 : ∃ k, k < n ∧ p k
    · obtain ⟨b, h2, h3, h4⟩ := leastB n h1
      exact ⟨b, by omega, h3, h4⟩
    · obtain ⟨k, hk, hp⟩ := h
      refine ⟨n, by omega, ?_, fun k hk hp => h1 ⟨k, hk, hp⟩⟩
      have : k = n := by
        rcases Nat.lt_or_ge k n with h | h
        · exact absurd ⟨k, h, hp⟩ h1
        · omega
      exact this ▸ hp
instance bad2_dec (r : List UInt8) (j : Nat) : Decidable (bad2 r j) := by unfold bad2; infer_instance
/-- A word that begins with '=' and has an even number of digits. -/
theorem text_even {r : List UInt8} {n : Nat} (hn : r.length = 2 * n) : ((∀ j, j < n → ¬ bad2 r j) ∧ textL (61 :: r) = (decL r n, true)) ∨ ∃ b, b < n ∧ bad2 r b ∧ (∀ j, j < b → ¬ bad2 r j) ∧ textL (61 :: r) = ([], false) := by
  by_cases h : ∃ j, j < n ∧ bad2 r j
  · obtain ⟨b, h1, h2, h3⟩ := leastB n h
    refine .inr ⟨b, h1, h2, h3, ?_⟩
    show (if (61 : UInt8) = 61 then (match pairsL r with | some b => (b, true) | none => ([], false)) else ([], false)) = _
    rw [if_pos rfl, pairs_bad n r hn b h1 h2]
  · refine .inl ⟨fun j hj hb => h ⟨j, hj, hb⟩, ?_⟩
    show (if (61 : UInt8) = 61 then (match pairsL r with | some b => (b, true) | none => ([], false)) else ([], false)) = _
    rw [if_pos rfl, pairs_dec n r hn fun j hj hb => h ⟨j, hj, hb⟩]
theorem text_odd {r : List UInt8} (h : r.length % 2 = 1) : textL (61 :: r) = ([], false) := by
  show (if (61 : UInt8) = 61 then (match pairsL r with | some b => (b, true) | none => ([], false)) else ([], false)) = _
  rw [if_pos rfl, pairs_odd r h]
theorem text_other {c : UInt8} {r : List UInt8} (h : c ≠ 61) : textL (c :: r) = ([], false) := by
  show (if c = 61 then _ else _) = _
  rw [if_neg h]
theorem zrem (n : Nat) : (iop .rem .i64 (n : Int) 2).asI = ((n % 2 : Nat) : Int) := by
  show Int.tmod (n : Int) 2 = _
  rw [Int.tmod_eq_emod_of_nonneg (by omega)]; omega
theorem zquo (n : Nat) (h : n ≤ 1000000) : (iop .quo .i64 (n : Int) 2).asI = ((n / 2 : Nat) : Int) := by
  show IntKind.i64.wrap (Int.tdiv (n : Int) 2) = _
  rw [Int.tdiv_eq_ediv_of_nonneg (by omega), show (n : Int) / 2 = ((n / 2 : Nat) : Int) by omega]
  simp [IntKind.wrap, IntKind.bits, IntKind.signed]; omega
def lCTd : Tree AV :=
 (.fork (.ib .geq .i64 (.len (vt 0)) (.ci 1))
 (.fork (.ib .leq .i64 (.ci 1) (.len (vt 0)))
  (.fork (.not (.sb .eql (.cut (vt 0) (.ci 0) (.ci 1)) (.cs [61])))
   (.leaf (.tuple [(.str []), (.bool false)]))
   (.fork lCT_0
    (.leaf (.tuple [(.str []), (.bool false)]))
    (.fork (.and lCT_1 lCT_2)
     .fail
     .fail)))
  .fail)
 (.leaf (.tuple [(.str []), (.bool false)])))
set_option maxRecDepth 100000 in
theorem lCTd_eq : lawC fCT (lpC fCT 6 (shut gCT)) = lCTd := by kernel_rfl
def lRTd : Tree AV :=
 (.fork (.ib .eql .i64 (.ib .rem .i64 (.len (vt 0)) (.ci 2)) (.ci 0))
 (.leaf (.tuple [(.str []), (.bool false)]))
 (.fork (.ib .lss .i64 (.ci 0) (.len (vt 0)))
  (.fork (.ib .neq .u8 (.at (vt 0) (.ci 0)) (.ci 61))
   (.leaf (.tuple [(.str []), (.bool false)]))
   .fail)
  .fail))
set_option maxRecDepth 100000 in
theorem lRTd_eq : lawC fRT (lpC fRT 5 (shut gRT)) = lRTd := by kernel_rfl
/-- A word that is none ahead of all digits. -/
theorem text_off (s : List UInt8) (h : s.length ≤ 100000) (ho : ∀ r : List UInt8, s = 61 :: r → r.length % 2 = 1) (w : World) : Calls Tryz.prog fCT #[stL s] w fun e w' => e = .returned (.tuple #[stL (textL s).1, .bool (textL s).2]) ∧ RowKit.Below w.heap.size w w' := by
  letI ρ : Rho := rhoT s 0 (.dI 0) []
  have ht : textL s = ([], false) := by
    rcases s with _ | ⟨c, r⟩
    · rfl
    · by_cases hc : c = 61
      · subst hc; exact text_odd (ho r rfl)
      · exact text_other hc
  rw [ht]
  refine lawCt lCTd_eq kCT (ρ := ρ) rfl (shut_ok ρ fCT 0 gCT) (v := .tuple [.str [], .bool false]) ?_ none_VR rfl w
  have dl : (Tm.len (vt 0)).den.asI = (s.length : Int) := rfl
  unfold lCTd
  rcases s with _ | ⟨c, r⟩
  · exact selF (geq_F (by rw [dl, ci_asI]; simp)) rfl
  · have hl : ((c :: r).length : Int) = r.length + 1 := by simp
    refine selT (geq_T (by rw [dl, ci_asI]; omega)) (selT (leq_T (by rw [dl, ci_asI]; omega)) ?_)
    by_cases hc : c = 61
    · subst hc
      refine selF (not_F (seql_T rfl)) (selT (neq_T ?_) rfl)
      have e1 : (Tm.len (.cut (vt 0) (.ci 1) (.len (vt 0)))).den.asI = (r.length : Int) := by
        show ((cutS (61 :: r) 1 ((61 :: r).length : Int)).length : Int) = _
        rw [cut_all]
      show ¬ (iop .rem .i64 (Tm.len (.cut (vt 0) (.ci 1) (.len (vt 0)))).den.asI 2).asI = 0
      rw [e1, zrem, ho r rfl]; decide
    · refine selT (not_T (seql_F ?_)) rfl
      show ¬ [c] = [61]
      simpa using hc
theorem refText_off (s : List UInt8) (h : s.length ≤ 100000) (ho : ∀ r : List UInt8, s = 61 :: r → r.length % 2 = 1) (w : World) : Calls Tryz.prog fRT #[stL s] w fun e w' => e = .returned (.tuple #[stL (textL s).1, .bool (textL s).2]) ∧ RowKit.Below w.heap.size w w' := by
  letI ρ : Rho := rhoT s 0 (.dI 0) []
  have ht : textL s = ([], false) := by
    rcases s with _ | ⟨c, r⟩
    · rfl
    · by_cases hc : c = 61
      · subst hc; exact text_odd (ho r rfl)
      · exact text_other hc
  rw [ht]
  refine lawCt lRTd_eq kRT (ρ := ρ) rfl (shut_ok ρ fRT 0 gRT) (v := .tuple [.str [], .bool false]) ?_ none_VR rfl w
  have er : (Tm.ib .rem .i64 (.len (vt 0)) (.ci 2)).den.asI = ((s.length % 2 : Nat) : Int) := zrem s.length
  unfold lRTd
  by_cases h2 : s.length % 2 = 0
  · exact selT (eql_T (by rw [er, h2]; rfl)) rfl
  · refine selF (eql_F (by rw [er, ci_asI]; omega)) ?_
    rcases s with _ | ⟨c, r⟩
    · simp at h2
    · refine selT (lss_T (by show (0 : Int) < ((c :: r).length : Int); simp only [List.length_cons]; omega)) (selT (neq_T ?_) rfl)
      show ¬ ((c.toNat : Nat) : Int) = 61
      intro hc
      have hc : c = 61 := by
        have : c.toNat = 61 := by omega
        exact UInt8.toNat_inj.1 this
      subst hc
      have := ho r rfl
      simp only [List.length_cons] at h2
      omega
theorem nil_rows (r : List UInt8) (n : Nat) (k : Nat) : (Dat.dL (rowsB (decL r 0))) = (@Tm.den (rhoCT (61 :: r) r k) nilT) := rfl
theorem sgCT_ok (r : List UInt8) (N n : Nat) : (rhoCT (61 :: r) r 0).val n = match sgCT n with
      | some t => @Tm.den (rhoCT (61 :: r) r N) t
      | none => (rhoCT (61 :: r) r N).val n := by
  match n with
  | 0 => rfl
  | 1 => rfl
  | 2 => rfl
  | 3 =>
    show Dat.dS r = .dS (cutS (61 :: r) 1 ((61 :: r).length : Int))
    rw [cut_all]
  | n + 4 => rfl
theorem sgRT_ok (r : List UInt8) (N n : Nat) : (rhoRT r 0).val n = match sgRT n with
      | some t => @Tm.den (rhoRT r N) t
      | none => (rhoRT r N).val n := by
  match n with
  | 0 => rfl
  | 1 => rfl
  | 2 => rfl
  | 3 => rfl
  | n + 4 => rfl
theorem lowT {s r : List UInt8} {i j : Int} {d e : Dat} {q : List UInt8} : Low 1 (rhoT s i d r) (rhoT s j e q) := ⟨fun n hn => (by match n, hn with | 0, _ => rfl), rfl⟩
theorem text_calls (s : List UInt8) (hs : s.length ≤ 100000) (w : World) : Calls Tryz.prog fCT #[stL s] w fun e w' => e = .returned (.tuple #[stL (textL s).1, .bool (textL s).2]) ∧ RowKit.Below w.heap.size w w' := by
  by_cases ho : ∃ r : List UInt8, s = 61 :: r ∧ ¬ r.length % 2 = 1
  · obtain ⟨r, rfl, hr⟩ := ho
    obtain ⟨n, hn⟩ : ∃ n, r.length = 2 * n := ⟨r.length / 2, by omega⟩
    have hl : r.length ≤ 100000 := by simp only [List.length_cons] at hs; omega
    have dl : ∀ k, letI : Rho := rhoCT (61 :: r) r k
        (Tm.ib .geq .i64 (.len (vt 0)) (.ci 1)).den.asB = true ∧ (Tm.ib .leq .i64 (.ci 1) (.len (vt 0))).den.asB = true ∧ (Tm.not (.sb .eql (.cut (vt 0) (.ci 0) (.ci 1)) (.cs [61]))).den.asB = false ∧ lCT_0.den.asB = false ∧ (Tm.and lCT_1 lCT_2).den.asB = true := fun k => by
      letI ρ : Rho := rhoCT (61 :: r) r k
      have h0 : (Tm.len (vt 0)).den.asI = (r.length : Int) + 1 := by
        show ((61 :: r).length : Int) = _
        simp
      have e1 : (Tm.len (.cut (vt 0) (.ci 1) (.len (vt 0)))).den.asI = (r.length : Int) := by
        show ((cutS (61 :: r) 1 ((61 :: r).length : Int)).length : Int) = _
        rw [cut_all]
      have e2 : (Tm.ib .rem .i64 (.len (.cut (vt 0) (.ci 1) (.len (vt 0)))) (.ci 2)).den.asI = 0 := by
        show (iop .rem .i64 (Tm.len (.cut (vt 0) (.ci 1) (.len (vt 0)))).den.asI 2).asI = 0
        rw [e1, zrem]; omega
      have e3 : (Tm.ib .quo .i64 (.len (.cut (vt 0) (.ci 1) (.len (vt 0)))) (.ci 2)).den.asI = ((r.length / 2 : Nat) : Int) := by
        show (iop .quo .i64 (Tm.len (.cut (vt 0) (.ci 1) (.len (vt 0)))).den.asI 2).asI = _
        rw [e1, zquo _ (by omega)]
      exact ⟨geq_T (by rw [h0, ci_asI]; omega), leq_T (by rw [h0, ci_asI]; omega), not_F (seql_T rfl), neq_F (by rw [e2, ci_asI]), and_T (leq_T (by rw [e3, ci_asI]; omega)) (leq_T (by rw [e3, ci_asI]; omega))⟩
    rcases text_even hn with ⟨hg, ht⟩ | ⟨b, h1, h2, h3, ht⟩
    · rw [ht]
      letI ρ : Rho := rhoCT (61 :: r) r n
      refine lawCt lCT_eq kCT (ρ := ρ) rfl (loopCt rCT_eq (by simp) rfl ρ (fun k => rhoCT (61 :: r) r k) n rfl (fun k _ => lowT) (fun k hk => ?_) (rCT_last hn.symm) (sgCT_ok r n)) (v := .tuple [.sstr (.flat (vt 2)), .bool true]) ?_ (pair_VR ?_ true) rfl w
      · obtain ⟨es, e1, e2⟩ := rCT_step (s := 61 :: r) hl (k := k) (by omega) (hg k hk)
        exact ⟨es, e1.1, e2⟩
      · obtain ⟨d1, d2, d3, d4, d5⟩ := dl n
        unfold lCT
        exact selT d1 (selT d2 (selF d3 (selF d4 (selT d5 (selT (eql_T rfl) rfl)))))
      · exact flat_rows (decL r n)
    · rw [ht]
      letI ρ : Rho := rhoCT (61 :: r) r b
      refine lawCt lCTr_eq kCT (ρ := ρ) rfl (loopCt rCTr_eq (by simp) rfl ρ (fun k => rhoCT (61 :: r) r k) b rfl (fun k _ => lowT) (fun k hk => ?_) (rCTr_last hl (by omega) h2) (sgCT_ok r b)) (v := .tuple [.str [], .bool false]) ?_ none_VR rfl w
      · obtain ⟨es, e1, e2⟩ := rCT_step (s := 61 :: r) hl (k := k) (by omega) (h3 k hk)
        exact ⟨es, e1.2, e2⟩
      · obtain ⟨d1, d2, d3, d4, d5⟩ := dl b
        unfold lCTr
        exact selT d1 (selT d2 (selF d3 (selF d4 (selT d5 (selT (eql_T rfl) rfl)))))
  · exact text_off s hs (fun r hr => by
      by_cases h : r.length % 2 = 1
      · exact h
      · exact absurd ⟨r, hr, h⟩ ho) w
theorem refText_calls (s : List UInt8) (hs : s.length ≤ 100000) (w : World) : Calls Tryz.prog fRT #[stL s] w fun e w' => e = .returned (.tuple #[stL (textL s).1, .bool (textL s).2]) ∧ RowKit.Below w.heap.size w w' := by
  by_cases ho : ∃ r : List UInt8, s = 61 :: r ∧ ¬ r.length % 2 = 1
  · obtain ⟨r, rfl, hr⟩ := ho
    obtain ⟨n, hn⟩ : ∃ n, r.length = 2 * n := ⟨r.length / 2, by omega⟩
    have hl : r.length ≤ 100000 := by simp only [List.length_cons] at hs; omega
    have dl : ∀ k, letI : Rho := rhoRT r k
        (Tm.ib .eql .i64 (.ib .rem .i64 (.len (vt 0)) (.ci 2)) (.ci 0)).den.asB = false ∧ (Tm.ib .lss .i64 (.ci 0) (.len (vt 0))).den.asB = true ∧ (Tm.ib .neq .u8 (.at (vt 0) (.ci 0)) (.ci 61)).den.asB = false := fun k => by
      letI ρ : Rho := rhoRT r k
      have h0 : (Tm.len (vt 0)).den.asI = (r.length : Int) + 1 := by
        show ((61 :: r).length : Int) = _
        simp
      have e2 : (Tm.ib .rem .i64 (.len (vt 0)) (.ci 2)).den.asI = 1 := by
        show (iop .rem .i64 ((61 :: r).length : Int) 2).asI = 1
        rw [zrem, List.length_cons]; omega
      exact ⟨eql_F (by rw [e2, ci_asI]; omega), lss_T (by rw [h0, ci_asI]; omega), neq_F rfl⟩
    rcases text_even hn with ⟨hg, ht⟩ | ⟨b, h1, h2, h3, ht⟩
    · rw [ht]
      letI ρ : Rho := rhoRT r n
      refine lawCt lRT_eq kRT (ρ := ρ) rfl (loopCt rRT_eq (by simp) rfl ρ (fun k => rhoRT r k) n rfl (fun k _ => lowT) (fun k hk => ?_) (rRT_last hn.symm) (sgRT_ok r n)) (v := .tuple [.sstr (.flat (vt 2)), .bool true]) ?_ (pair_VR ?_ true) rfl w
      · obtain ⟨es, e1, e2⟩ := rRT_step hl (k := k) (by omega) (hg k hk)
        exact ⟨es, e1.1, e2⟩
      · obtain ⟨d1, d2, d3⟩ := dl n
        unfold lRT
        exact selF d1 (selT d2 (selF d3 (selT (eql_T rfl) rfl)))
      · show (rowD (decL r n)).asL.map (fun r : List Dat => UInt8.ofNat (r.getD 0 (.dI 0)).asI.toNat) = _
        rw [rowD_asL]; exact flat_rows (decL r n)
    · rw [ht]
      letI ρ : Rho := rhoRT r b
      refine lawCt lRTr_eq kRT (ρ := ρ) rfl (loopCt rRTr_eq (by simp) rfl ρ (fun k => rhoRT r k) b rfl (fun k _ => lowT) (fun k hk => ?_) (rRTr_last hl (by omega) h2) (sgRT_ok r b)) (v := .tuple [.str [], .bool false]) ?_ none_VR rfl w
      · obtain ⟨es, e1, e2⟩ := rRT_step hl (k := k) (by omega) (h3 k hk)
        exact ⟨es, e1.2, e2⟩
      · obtain ⟨d1, d2, d3⟩ := dl b
        unfold lRTr
        exact selF d1 (selT d2 (selF d3 (selT (eql_T rfl) rfl)))
  · exact refText_off s hs (fun r hr => by
      by_cases h : r.length % 2 = 1
      · exact h
      · exact absurd ⟨r, hr, h⟩ ho) w
end
end Go.Proofs.YtnncgjhgmmdilaaGreatDoor.Ab
