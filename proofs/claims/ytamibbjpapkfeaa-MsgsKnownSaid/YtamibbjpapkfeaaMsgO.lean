/-
  MsgsGets, called: it returns true and makes at most new blocks. Its loops by rounds with letters.
  Conditions: arguments as the model reads them.
-/
import Derived.Test.YtamibbjpapkfeaaMsgQ
namespace Go.Proofs.Ytamibbjpapkfeaa.Ab
set_option linter.unusedSimpArgs false
set_option linter.unusedVariables false
open Go
abbrev LpG : Type := St → Option (Tm × AX × St)
/-- What a contract of a loop says holds. -/
def GOk (ρ : Rho) (f : FuncId) (i : Nat) (g : LpG) : Prop := ∀ st o x st', g st = some (o, x, st') → (@Tm.den ρ o).asB = true → @LoopS ρ Try.prog (lpBody Try.prog f i) st x st'
/-- The same where it must not come. -/
def shut (g : LpG) : LpG := fun st => match g st with
  | some (_, x, st') => some (.cb false, x, st')
  | none => none
theorem shut_ok (ρ : Rho) (f : FuncId) (i : Nat) (g : LpG) : GOk ρ f i (shut g) := fun st o x st' h ho => by
  unfold shut at h
  split at h
  · cases h; cases ho
  · cases h
def orG (a b : LpG) : LpG := fun st => match a st with
  | some r => some r
  | none => b st
theorem orG_ok {ρ : Rho} {f : FuncId} {i : Nat} {a b : LpG} (ha : GOk ρ f i a) (hb : GOk ρ f i b) : GOk ρ f i (orG a b) := fun st o x st' h ho => by
  unfold orG at h
  split at h
  · rename_i r hr
    cases h
    exact ha _ _ _ _ hr ho
  · exact hb _ _ _ _ h ho
def lstM (i : Nat) (t : Tm) : AV := .sslice i 20 (.ci 0) (.llen t)
def HA : Heap := ⟨6, [(5, .seq shM v2 true)], [], []⟩
def TA : St := ⟨34, [(5, .sint .i64 v1), (4, lstM 5 v2), (0, .sstr v0)], HA, []⟩
def FA : St := ⟨34, [(5, .sint .i64 v1), (4, lstM 5 v2)], HA, []⟩
def FAR : St := ⟨34, [(2, lstM 5 v2), (3, .sint .i64 v1)], HA, []⟩
def HB (n : Nat) : Heap := ⟨n + 1, [(n, .seq shM v4 true), (5, .seq shM v2 true)], [], []⟩
def TB (n : Nat) : St := ⟨30, [(3, .sint .i64 v3), (2, lstM n v4), (0, .sstr v0)], HB n, []⟩
def FB (n : Nat) : St := ⟨30, [(3, .sint .i64 v3), (2, lstM n v4)], HB n, []⟩
def TJ (t : Int) (n : Nat) : St := ⟨90, [(14, .sint .i64 v5), (12, lstM n v6), (11, .int .i64 t), (10, .sint .i64 v1), (9, lstM 5 v2), (0, .sstr v0)], ⟨n + 1, [(n, .seq shM v6 true), (5, .seq shM v2 true)], [], []⟩, []⟩
def FJ (t : Int) (n : Nat) : St := ⟨90, [(11, .int .i64 t), (10, .sint .i64 v1), (9, lstM 5 v2), (0, .sstr v0)], ⟨n + 1, [(5, .seq shM v2 true)], [], []⟩, []⟩
abbrev cutZ : Tm := cutM (.ci 0)
def sA (i : Nat) : Option Tm := [none, some (.ib .add .i64 (.ci 0) (.app 80 cutZ)), some (rowT10 cutZ)].getD i none
def sB (i : Nat) : Option Tm := [none, none, none, some (.ib .add .i64 (.ci 0) (.app 80 cutZ)), some (rowT10 cutZ)].getD i none
def sJ (i : Nat) : Option Tm := [none, none, none, none, none, some (.ci 0), some v4].getD i none
def envQ0 : Env := ⟨tabGet tabQ, fun _ _ => none⟩
abbrev eA1 : Option Eqs := some [(.sI, v1, v1), (.sI, .llen v2, .llen v2), (.sL, v2, v2)]
abbrev eA2 : Option Eqs := some [(.sI, .llen v2, .llen v2), (.sI, v1, v1), (.sL, v2, v2)]
abbrev eB1 : Option Eqs := some [(.sI, v3, v3), (.sI, .llen v4, .llen v4), (.sL, v4, v4)]
set_option maxRecDepth 100000 in
theorem rtA_eq : evCode Try.prog (evFun Try.prog envQ0 1000) (fun _ => none) 1000000 (lpBody Try.prog 14 0) TA (outS 5 1 TA FA) = rtAll v1 v2 (.exit 0, eA1) (.ret, eA1) := by kernel_rfl
set_option maxRecDepth 100000 in
theorem rtAR_eq : evCode Try.prog (evFun Try.prog envQ0 1000) (fun _ => none) 1000000 (lpBody Try.prog 14 0) TA (outS 5 1 TA FAR) = rtAll v1 v2 (.exit 0, none) (.ret, eA2) := by kernel_rfl
set_option maxRecDepth 100000 in
theorem rtB1_eq : evCode Try.prog (evFun Try.prog envQ0 1000) (fun _ => none) 1000000 (lpBody Try.prog 15 0) (TB 9) (outS 9 3 (TB 9) (FB 9)) = rtAll v3 v4 (.exit 0, eB1) (.exit 0, eB1) := by kernel_rfl
set_option maxRecDepth 100000 in
theorem rtB2_eq : evCode Try.prog (evFun Try.prog envQ0 1000) (fun _ => none) 1000000 (lpBody Try.prog 15 0) (TB 14) (outS 14 3 (TB 14) (FB 14)) = rtAll v3 v4 (.exit 0, eB1) (.exit 0, eB1) := by kernel_rfl
abbrev qI (k : IntKind) (c : Nat) : Tm := .ib .eql k (.lget v6 v5 c) (.lget v2 v5 c)
abbrev qB (c : Nat) : Tm := .beq (.lget v6 v5 c) (.lget v2 v5 c)
def zT : Tm := .pair (.ci 0) (.pair (.cb false) (.pair (.ci 0) (.pair (.ci 0) (.pair (.ci 0) (.pair (.ci 0) (.pair (.ci 0) (.pair (.ci 0) (.pair (.ci 0) (.pair (.ci 0) (.pair (.ci 0) (.pair (.cb false) (.pair (.cb false) (.pair (.cb false) (.pair (.cb false) (.pair (.cb false) (.pair (.cb false) (.pair (.ci 0) (.pair (.ci 0) (.pair (.cs []) (.cb false))))))))))))))))))))
def eqJ : Tm := .and (qI .u8 0) (.and (qB 1) (.and (.and (qI .u8 2) (.and (qI .u8 3) (.and (qI .u8 4) (.and (qI .u8 5) (.and (qI .i64 6) (.and (qI .i64 7) (.and (qI .i64 8) (qI .i64 9)))))))) (.and (.and (qI .u8 10) (.and (qB 11) (.and (qB 12) (.and (qB 13) (.and (qB 14) (.and (qB 15) (.and (qB 16) (qI .u8 17)))))))) (.and (qI .u8 18) (.sb .eql (.lget v6 v5 19) (.lget v2 v5 19))))))
def rtJ : LTree := .fork (.ib .lss .i64 v5 (.llen v6)) (.fork (.and (.ib .leq .i64 (.ci 0) v5) (.ib .lss .i64 v5 (.llen v6))) (.fork (.and (.ib .leq .i64 (.ci 0) v5) (.ib .lss .i64 v5 (.llen v2))) (.fork (.not eqJ) (.leaf (.ret, some [])) (.leaf (.normal, some [(.sI, v5, .ib .add .i64 v5 (.ci 1)), (.sI, .llen v6, .llen v6), (.sL, v6, .lput v6 v5 zT)]))) .fail) .fail) (.leaf (.exit 2, some []))
set_option maxRecDepth 100000 in
theorem rtJ1_eq : evCode Try.prog (evFun Try.prog envQ0 1000) (fun _ => none) 1000000 (lpBody Try.prog 4 1) (TJ 0 10) (outS 10 5 (TJ 0 10) (FJ 0 10)) = rtJ := by kernel_rfl
set_option maxRecDepth 100000 in
theorem rtJ2_eq : evCode Try.prog (evFun Try.prog envQ0 1000) (fun _ => none) 1000000 (lpBody Try.prog 4 1) (TJ 1 15) (outS 15 5 (TJ 1 15) (FJ 1 15)) = rtJ := by kernel_rfl
def lpQ (a b c : LpG) : FuncId → LoopF := fun f => bif Nat.beq f 14 then lf1 3 a else bif Nat.beq f 15 then lf1 1 b else bif Nat.beq f 4 then lf1 15 c else fun _ => none
def envQ (a b c : LpG) : Env := ⟨tabGet tabQ, lpQ a b c⟩
set_option maxRecDepth 100000 in
theorem keyA : keyAt Try.prog 14 3 0 = true := by kernel_rfl
set_option maxRecDepth 100000 in
theorem keyB : keyAt Try.prog 15 1 0 = true := by kernel_rfl
set_option maxRecDepth 100000 in
theorem keyJ : keyAt Try.prog 4 15 1 = true := by kernel_rfl
theorem envQ0_ok {ρ : Rho} (hf : ρ.fn = allFn) : EnvOK Try.prog envQ0 := tab_ok _ fun p hp args H o v H' _ hg ho => tabQ_ok hf p hp args H o v H' (.inr trivial) hg ho
theorem envQ_ok {ρ : Rho} (hf : ρ.fn = allFn) {a b c : LpG} (ha : GOk ρ 14 0 a) (hb : GOk ρ 15 0 b) (hc : GOk ρ 4 1 c) : @EnvOK ρ Try.prog (envQ a b c) := by
  refine ⟨(envQ0_ok hf).fn, fun f fn cd h1 h2 => ?_⟩
  simp only [envQ, lpQ]
  cases e1 : Nat.beq f 14 with
  | true =>
    obtain rfl := Nat.eq_of_beq_eq_true e1
    exact lf1_ok keyA ha h1 h2
  | false =>
    simp only [cond_false]
    cases e2 : Nat.beq f 15 with
    | true =>
      obtain rfl := Nat.eq_of_beq_eq_true e2
      exact lf1_ok keyB hb h1 h2
    | false =>
      simp only [cond_false]
      cases e3 : Nat.beq f 4 with
      | true =>
        obtain rfl := Nat.eq_of_beq_eq_true e3
        exact lf1_ok keyJ hc h1 h2
      | false => exact lf0_ok
noncomputable def gA : LpG := loopG 5 1 TA FA sA (.exit 0)
noncomputable def gAR : LpG := loopG 5 1 TA FAR sA .ret
noncomputable def gB (n : Nat) : LpG := loopG n 3 (TB n) (FB n) sB (.exit 0)
noncomputable def gJ (t : Int) (n : Nat) : LpG := loopG n 5 (TJ t n) (FJ t n) sJ (.exit 2)
/-! ### the letters -/
def zrow : List Dat := [.dI 0, .dB false, .dI 0, .dI 0, .dI 0, .dI 0, .dI 0, .dI 0, .dI 0, .dI 0, .dI 0, .dB false, .dB false, .dB false, .dB false, .dB false, .dB false, .dI 0, .dI 0, .dS []]
def wipe (L : List (List Dat)) : Nat → List (List Dat)
  | 0 => L
  | k + 1 => (wipe L k).set k zrow
theorem wipe_len (L : List (List Dat)) : ∀ k, (wipe L k).length = L.length
  | 0 => rfl
  | k + 1 => by rw [wipe, List.length_set, wipe_len L k]
theorem wipe_get (L : List (List Dat)) : ∀ k i, k ≤ i → (wipe L k)[i]? = L[i]?
  | 0, _, _ => rfl
  | k + 1, i, h => by rw [wipe, List.getElem?_set_ne (by omega), wipe_get L k i (by omega)]
abbrev rhoX (s : List UInt8) (a : Nat) (w : List (List Dat)) (b : Nat) (l : List (List Dat)) (j : Nat) (o : List (List Dat)) : Rho := ⟨fun n => [Dat.dS s, .dI (a : Int), .dL w, .dI (b : Int), .dL l, .dI (j : Int), .dL o].getD n (.dI 0), allFn⟩
abbrev rhoZ (s : List UInt8) (N : Nat) : Rho := rhoX s (atM s N) (rowsM s N) (atM s N) (rowsM s N) N (wipe (rowsM s N) N)
section
variable {s : List UInt8} {N : Nat}
theorem first_at (hn : s.length ≤ 500) (hg : GoodM s (atM s 0)) (a : Nat) (w : List (List Dat)) (b : Nat) (l : List (List Dat)) (j : Nat) (o : List (List Dat)) : Dat.dI (atM s 1 : Int) = @Tm.den (rhoX s a w b l j o) (.ib .add .i64 (.ci 0) (.app 80 cutZ)) := by
  obtain ⟨b1, b2, b3⟩ := at_step hg
  show _ = Dat.dI (IntKind.i64.wrap ((0 : Int) + (mgot (cutS s 0 (s.length : Int))).n))
  have e : cutS s 0 (s.length : Int) = s.drop (atM s 0) := cut_end s 0
  rw [e, b3, w64 _ (by omega) (by omega)]
  congr 1
  have : atM s 0 = 0 := rfl
  have e1 : atM s (0 + 1) = atM s 1 := rfl
  omega
theorem first_row (a : Nat) (w : List (List Dat)) (b : Nat) (l : List (List Dat)) (j : Nat) (o : List (List Dat)) : Dat.dL (rowsM s 1) = @Tm.den (rhoX s a w b l j o) (rowT10 cutZ) := by
  have h := @rowT_den (rhoX s a w b l j o) rfl cutZ
  have e : (@Tm.den (rhoX s a w b l j o) cutZ).asS = s.drop (atM s 0) := cut_end s 0
  rw [e] at h
  have h2 : @Tm.den (rhoX s a w b l j o) (rowT10 cutZ) = .dL (@Tm.den (rhoX s a w b l j o) (rowT10 cutZ)).asL := rfl
  rw [h2, h]; rfl
theorem gA_gen {F : St} {x : AX} {e : Eqs} (X Y : AX × Option Eqs) (hrt : evCode Try.prog (evFun Try.prog envQ0 1000) (fun _ => none) 1000000 (lpBody Try.prog 14 0) TA (outS 5 1 TA F) = rtAll v1 v2 X Y)
    (hx : x ≠ .normal) (hn : s.length ≤ 500) (h1 : 1 ≤ N) (hE : EndM s N) (hl : (if atM s N < s.length then Y else X) = (x, some e)) (he : EqsOk (rhoZ s N) (rhoZ s N) e) : GOk (rhoZ s N) 14 0 (loopG 5 1 TA F sA x) := by
  obtain ⟨hg, hb⟩ := hE
  have hend : N - 1 + 1 = N := by omega
  have hle := at_le hg
  refine loopG_ok noCount (rhoZ s N) (fun k => rhoX s (atM s (k + 1)) (rowsM s (k + 1)) (atM s N) (rowsM s N) N (wipe (rowsM s N) N)) (N - 1) (fuel := 1000000) (cf := evFun Try.prog envQ0 1000) (lf := fun _ => none) hx rfl
    (fun k _ => by letI : Rho := rhoX s (atM s (k + 1)) (rowsM s (k + 1)) (atM s N) (rowsM s N) N (wipe (rowsM s N) N); exact evFun_ok noCount (envQ0_ok rfl) 1000) (fun k _ => by letI : Rho := rhoX s (atM s (k + 1)) (rowsM s (k + 1)) (atM s N) (rowsM s N) N (wipe (rowsM s N) N); exact lf0_ok) (fun k _ => ⟨fun n hn => ?_, rfl⟩) (fun k hk => ?_) ?_ (fun n => ?_)
  · match n, hn with
    | 0, _ => rfl
  · rw [hrt]
    exact roundAll (s := s) (k := k + 1) rfl rfl rfl rfl rfl rfl (by omega) (hg _ (by omega)) (by omega)
  · rw [hrt]
    have := lastAll (ρ := rhoX s (atM s (N - 1 + 1)) (rowsM s (N - 1 + 1)) (atM s N) (rowsM s N) N (wipe (rowsM s N) N)) (s := s) (a := v1) (l := v2) (x := X) (y := Y) (k := N - 1 + 1) rfl rfl rfl (by omega) (by rw [hend]; omega) (by rw [hend]; exact hb)
    rw [hend] at this ⊢
    rw [hl] at this
    exact ⟨_, this, he⟩
  · match n with
    | 0 => rfl
    | 1 => exact first_at hn (hg 0 (by omega)) _ _ _ _ _ _
    | 2 => exact first_row _ _ _ _ _ _
    | 3 => rfl
    | 4 => rfl
    | 5 => rfl
    | 6 => rfl
    | n + 7 => rfl
theorem gB_gen {n0 : Nat} (hrt : evCode Try.prog (evFun Try.prog envQ0 1000) (fun _ => none) 1000000 (lpBody Try.prog 15 0) (TB n0) (outS n0 3 (TB n0) (FB n0)) = rtAll v3 v4 (.exit 0, eB1) (.exit 0, eB1))
    (hn : s.length ≤ 500) (h1 : 1 ≤ N) (hE : EndM s N) : GOk (rhoZ s N) 15 0 (gB n0) := by
  obtain ⟨hg, hb⟩ := hE
  have hend : N - 1 + 1 = N := by omega
  have hle := at_le hg
  refine loopG_ok noCount (rhoZ s N) (fun k => rhoX s (atM s N) (rowsM s N) (atM s (k + 1)) (rowsM s (k + 1)) N (wipe (rowsM s N) N)) (N - 1) (fuel := 1000000) (cf := evFun Try.prog envQ0 1000) (lf := fun _ => none) (by simp) rfl
    (fun k _ => by letI : Rho := rhoX s (atM s N) (rowsM s N) (atM s (k + 1)) (rowsM s (k + 1)) N (wipe (rowsM s N) N); exact evFun_ok noCount (envQ0_ok rfl) 1000) (fun k _ => by letI : Rho := rhoX s (atM s N) (rowsM s N) (atM s (k + 1)) (rowsM s (k + 1)) N (wipe (rowsM s N) N); exact lf0_ok) (fun k _ => ⟨fun n hn => ?_, rfl⟩) (fun k hk => ?_) ?_ (fun n => ?_)
  · match n, hn with
    | 0, _ => rfl
    | 1, _ => rfl
    | 2, _ => rfl
  · rw [hrt]
    exact roundAll (s := s) (k := k + 1) rfl rfl rfl rfl rfl rfl (by omega) (hg _ (by omega)) (by omega)
  · rw [hrt]
    have := lastAll (ρ := rhoX s (atM s N) (rowsM s N) (atM s (N - 1 + 1)) (rowsM s (N - 1 + 1)) N (wipe (rowsM s N) N)) (s := s) (a := v3) (l := v4) (x := (.exit 0, eB1)) (y := (.exit 0, eB1)) (k := N - 1 + 1) rfl rfl rfl (by omega) (by rw [hend]; omega) (by rw [hend]; exact hb)
    rw [hend] at this ⊢
    rw [ite_self] at this
    exact ⟨_, this, rfl, rfl, rfl, trivial⟩
  · match n with
    | 0 => rfl
    | 1 => rfl
    | 2 => rfl
    | 3 => exact first_at hn (hg 0 (by omega)) _ _ _ _ _ _
    | 4 => exact first_row _ _ _ _ _ _
    | 5 => rfl
    | 6 => rfl
    | n + 7 => rfl
theorem not_F [Rho] {x : Tm} (h : x.den.asB = true) : (Tm.not x).den.asB = false := by
  show (!x.den.asB) = false
  rw [h]; rfl
theorem beq_T [Rho] {x y : Tm} (h : x.den.asB = y.den.asB) : (Tm.beq x y).den.asB = true := by
  show (x.den.asB == y.den.asB) = true
  rw [h]; simp
theorem roundJ {W : List (List Dat)} {a b j2 : Nat} {l : List (List Dat)} {k : Nat} (hk : k < W.length) (hn : k ≤ 100000) : ∃ es, @Tree.sel _ (rhoX s a W b l k (wipe W k)) rtJ = some (.normal, some es) ∧ EqsOk (rhoX s a W b l (k + 1) (wipe W (k + 1))) (rhoX s a W b l k (wipe W k)) es := by
  letI ρ : Rho := rhoX s a W b l k (wipe W k)
  have d5 : v5.den.asI = (k : Int) := rfl
  have d2 : (Tm.llen v2).den.asI = (W.length : Int) := rfl
  have d6 : (Tm.llen v6).den.asI = (W.length : Int) := by
    show ((wipe W k).length : Int) = _
    rw [wipe_len]
  have e : ∀ c, (Tm.lget v6 v5 c).den = (Tm.lget v2 v5 c).den := fun c => by
    show ((wipe W k).getD k []).getD c (.dI 0) = (W.getD k []).getD c (.dI 0)
    rw [show (wipe W k).getD k [] = W.getD k [] by rw [List.getD_eq_getElem?_getD, List.getD_eq_getElem?_getD, wipe_get W k k (Nat.le_refl _)]]
  have qi : ∀ i c, (qI i c).den.asB = true := fun i c => eql_T (by rw [e])
  have qb : ∀ c, (qB c).den.asB = true := fun c => beq_T (by rw [e])
  have hq : eqJ.den.asB = true := and_T (qi _ _) (and_T (qb _) (and_T (and_T (qi _ _) (and_T (qi _ _) (and_T (qi _ _) (and_T (qi _ _) (and_T (qi _ _) (and_T (qi _ _) (and_T (qi _ _) (qi _ _)))))))) (and_T (and_T (qi _ _) (and_T (qb _) (and_T (qb _) (and_T (qb _) (and_T (qb _) (and_T (qb _) (and_T (qb _) (qi _ _)))))))) (and_T (qi _ _) (seql_T (by rw [e]))))))
  unfold rtJ
  refine ⟨_, sel_T (lss_T (by rw [d5, d6]; omega)) (sel_T (and_T (leq_T (by rw [ci_asI, d5]; omega)) (lss_T (by rw [d5, d6]; omega))) (sel_T (and_T (leq_T (by rw [ci_asI, d5]; omega)) (lss_T (by rw [d5, d2]; omega))) (sel_F (not_F hq) rfl))), ?_, ?_, ?_, trivial⟩
  · show ((k + 1 : Nat) : Int) = (iop .add .i64 (k : Int) 1).asI
    exact (wadd k 1 (by omega)).symm
  · show ((wipe W (k + 1)).length : Int) = ((wipe W k).length : Int)
    rw [wipe_len, wipe_len]
  · rfl
theorem lastJ {W : List (List Dat)} {a b : Nat} {l : List (List Dat)} : @Tree.sel _ (rhoX s a W b l W.length (wipe W W.length)) rtJ = some (.exit 2, some []) := by
  letI ρ : Rho := rhoX s a W b l W.length (wipe W W.length)
  have d5 : v5.den.asI = (W.length : Int) := rfl
  have d6 : (Tm.llen v6).den.asI = (W.length : Int) := by
    show ((wipe W W.length).length : Int) = _
    rw [wipe_len]
  unfold rtJ
  exact sel_F (lss_F (by rw [d5, d6]; omega)) rfl
theorem gJ_gen {t : Int} {n0 : Nat} (hrt : evCode Try.prog (evFun Try.prog envQ0 1000) (fun _ => none) 1000000 (lpBody Try.prog 4 1) (TJ t n0) (outS n0 5 (TJ t n0) (FJ t n0)) = rtJ) (hN : N ≤ 1000) : GOk (rhoZ s N) 4 1 (gJ t n0) := by
  refine loopG_ok noCount (rhoZ s N) (fun k => rhoX s (atM s N) (rowsM s N) (atM s N) (rowsM s N) k (wipe (rowsM s N) k)) N (fuel := 1000000) (cf := evFun Try.prog envQ0 1000) (lf := fun _ => none) (by simp) rfl
    (fun k _ => by letI : Rho := rhoX s (atM s N) (rowsM s N) (atM s N) (rowsM s N) k (wipe (rowsM s N) k); exact evFun_ok noCount (envQ0_ok rfl) 1000) (fun k _ => by letI : Rho := rhoX s (atM s N) (rowsM s N) (atM s N) (rowsM s N) k (wipe (rowsM s N) k); exact lf0_ok) (fun k _ => ⟨fun n hn => ?_, rfl⟩) (fun k hk => ?_) ?_ (fun n => ?_)
  · match n, hn with
    | 0, _ => rfl
    | 1, _ => rfl
    | 2, _ => rfl
    | 3, _ => rfl
    | 4, _ => rfl
  · rw [hrt]
    exact roundJ (j2 := 0) (by rw [rowsM_len]; omega) (by omega)
  · rw [hrt]
    have := @lastJ s (rowsM s N) (atM s N) (atM s N) (rowsM s N)
    rw [rowsM_len] at this
    exact ⟨_, this, trivial⟩
  · match n with
    | 0 => rfl
    | 1 => rfl
    | 2 => rfl
    | 3 => rfl
    | 4 => rfl
    | 5 => rfl
    | 6 => rfl
    | n + 7 => rfl
end
abbrev ttM : Tree AV := .leaf (.bool true)
abbrev ffM : Tree AV := .leaf (.bool false)
/-- The law's tree; z: behind the first loops. -/
def lawG (z : Tree AV) : Tree AV := .fork (.ib .gtr .i64 (.len v0) (.ci 500)) ttM (.fork (.ib .leq .i64 (.len v0) (.ci 140737488355328)) (.fork (.ib .lss .i64 (.ci 0) (.len v0)) (.fork (.ib .leq .i64 (.ci 0) (.len v0)) (.fork (.ib .leq .i64 (.len cutZ) (.ci 140737488355328)) (.fork (.ib .neq .i64 (.app 81 cutZ) (.ci 0)) ttM z) .fail) .fail) ttM) .fail)
def behindG : Tree AV := .fork (.ib .eql .i64 (.llen (rowT10 cutZ)) (.ci 1)) (.fork (.ib .neq .i64 v3 v1) ffM (.fork (.ib .neq .i64 (.llen v4) (.llen v2)) ffM ttM)) .fail
noncomputable def lawQ (a b c : LpG) : Tree AV := evFun Try.prog (envQ a b c) 1000 4 [.sstr v0] heap0 fun v _ => .leaf v
set_option maxRecDepth 100000 in
theorem lawQ_A : lawQ gA (orG (gB 9) (gB 14)) (orG (gJ 0 10) (gJ 1 15)) = lawG behindG := by kernel_rfl
set_option maxRecDepth 100000 in
theorem lawQ_R : lawQ gAR (orG (gB 9) (gB 14)) (orG (gJ 0 10) (gJ 1 15)) = lawG behindG := by kernel_rfl
set_option maxRecDepth 100000 in
theorem lawQ_Z : lawQ (shut gA) (orG (gB 9) (gB 14)) (orG (gJ 0 10) (gJ 1 15)) = lawG .fail := by kernel_rfl
end Go.Proofs.Ytamibbjpapkfeaa.Ab
