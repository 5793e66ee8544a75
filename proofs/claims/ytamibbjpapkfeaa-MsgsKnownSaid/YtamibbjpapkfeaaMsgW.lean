/-
  MsgsBack, called: it returns true and makes at most new blocks.
  Conditions: arguments as the model reads them.
-/
import Derived.Test.YtamibbjpapkfeaaMsgR
import Derived.Test.YtamibbjpapkfeaaMsgO2
namespace Go.Proofs.Ytamibbjpapkfeaa.Ab
set_option linter.unusedSimpArgs false
set_option linter.unusedVariables false
open Go
/-! ### All, on what was put -/
abbrev zB : Tm := .sb .add v2 (.cs [0])
abbrev cutG (z a : Tm) : Tm := .cut z a (.len z)
abbrev cutB : Tm := cutG zB (.ci 0)
def rtAllG (z a l : Tm) (x y : AX × Option Eqs) : LTree := .fork (.ib .lss .i64 a (.len z)) (.fork (.and (.ib .leq .i64 (.ci 0) a) (.ib .leq .i64 a (.len z))) (.fork (.ib .leq .i64 (.len (cutG z a)) (.ci 140737488355328)) (.fork (.ib .neq .i64 (.app 81 (cutG z a)) (.ci 0)) (.leaf y)
  (.fork (.ib .lss .i64 (.llen l) (.ci 4294967295)) (.leaf (.normal, some [(.sI, a, .ib .add .i64 a (.app 80 (cutG z a))), (.sI, .llen l, .llen (.lapp l (rowT10 (cutG z a)))), (.sL, l, .lapp l (rowT10 (cutG z a)))])) .fail)) .fail) .fail) (.leaf x)
section
variable {s : List UInt8} {z a l : Tm} {x y : AX × Option Eqs}
theorem roundG {ρ' ρ : Rho} (hf : ρ.fn = allFn) (h0 : (@Tm.den ρ z).asS = s) {k : Nat} (ha : (@Tm.den ρ a).asI = (atM s k : Int)) (hl : (@Tm.den ρ l).asL = rowsM s k) (ha' : (@Tm.den ρ' a).asI = (atM s (k + 1) : Int)) (hl' : (@Tm.den ρ' l).asL = rowsM s (k + 1))
    (hn : s.length ≤ 100000) (hg : GoodM s (atM s k)) (hk : k ≤ 100000) : ∃ es, @Tree.sel _ ρ (rtAllG z a l x y) = some (.normal, some es) ∧ EqsOk ρ' ρ es := by
  obtain ⟨b1, b2, b3⟩ := at_step hg
  obtain ⟨g1, g2⟩ := hg
  have ec : (@Tm.den ρ (cutG z a)).asS = s.drop (atM s k) := by
    show cutS (@Tm.den ρ z).asS (@Tm.den ρ a).asI (((@Tm.den ρ z).asS.length : Nat) : Int) = _
    rw [h0, ha]; exact cut_end _ _
  have d2 : (@Tm.den ρ (.len z)).asI = (s.length : Int) := by
    show (((@Tm.den ρ z).asS.length : Nat) : Int) = _
    rw [h0]
  have dc : (@Tm.den ρ (.len (cutG z a))).asI = ((s.drop (atM s k)).length : Int) := by
    show (((@Tm.den ρ (cutG z a)).asS.length : Nat) : Int) = _
    rw [ec]
  have dl : (@Tm.den ρ (.llen l)).asI = (k : Int) := by
    show (((@Tm.den ρ l).asL.length : Nat) : Int) = _
    rw [hl, rowsM_len]
  have a6 : (@Tm.den ρ (.app 81 (cutG z a))).asI = 0 := by
    rw [app_all hf]
    show (mgot (@Tm.den ρ (cutG z a)).asS).e = _
    rw [ec, g2]
  have a5 : (@Tm.den ρ (.app 80 (cutG z a))).asI = ((atM s (k + 1) - atM s k : Nat) : Int) := by
    rw [app_all hf]
    show (mgot (@Tm.den ρ (cutG z a)).asS).n = _
    rw [ec, b3]
  have hlist : (@Tm.den ρ (.lapp l (rowT10 (cutG z a)))).asL = rowsM s (k + 1) := by
    show (@Tm.den ρ l).asL ++ (@Tm.den ρ (rowT10 (cutG z a))).asL = _
    rw [hl, rowT_den hf, ec, rowsM_succ]
  unfold rtAllG
  refine ⟨_, sel_T (lss_T (by rw [ha, d2]; omega)) (sel_T (and_T (leq_T (by rw [ci_asI, ha]; omega)) (leq_T (by rw [ha, d2]; omega))) (sel_T (leq_T (by rw [ci_asI, dc, List.length_drop]; omega)) (sel_F (neq_F (by rw [ci_asI, a6])) (sel_T (lss_T (by rw [ci_asI, dl]; omega)) rfl)))), ?_, ?_, ?_, trivial⟩
  · show (@Tm.den ρ' a).asI = (iop .add .i64 (@Tm.den ρ a).asI (@Tm.den ρ (.app 80 (cutG z a))).asI).asI
    rw [ha', ha, a5, wadd _ _ (by omega)]
    congr 1; omega
  · show (((@Tm.den ρ' l).asL.length : Nat) : Int) = ((@Tm.den ρ (.lapp l (rowT10 (cutG z a)))).asL.length : Int)
    rw [hl', hlist]
  · show (@Tm.den ρ' l).asL = (@Tm.den ρ (.lapp l (rowT10 (cutG z a)))).asL
    rw [hl', hlist]
theorem lastG {ρ : Rho} (hf : ρ.fn = allFn) (h0 : (@Tm.den ρ z).asS = s) {k : Nat} (ha : (@Tm.den ρ a).asI = (atM s k : Int)) (hn : s.length ≤ 100000) (hk : atM s k ≤ s.length) (hg : ¬ GoodM s (atM s k)) :
    @Tree.sel _ ρ (rtAllG z a l x x) = some x := by
  have ec : (@Tm.den ρ (cutG z a)).asS = s.drop (atM s k) := by
    show cutS (@Tm.den ρ z).asS (@Tm.den ρ a).asI (((@Tm.den ρ z).asS.length : Nat) : Int) = _
    rw [h0, ha]; exact cut_end _ _
  have d2 : (@Tm.den ρ (.len z)).asI = (s.length : Int) := by
    show (((@Tm.den ρ z).asS.length : Nat) : Int) = _
    rw [h0]
  have dc : (@Tm.den ρ (.len (cutG z a))).asI = ((s.drop (atM s k)).length : Int) := by
    show (((@Tm.den ρ (cutG z a)).asS.length : Nat) : Int) = _
    rw [ec]
  unfold rtAllG
  by_cases hlt : atM s k < s.length
  · have he : (mgot (s.drop (atM s k))).e ≠ 0 := fun h => hg ⟨hlt, h⟩
    have a6 : (@Tm.den ρ (.app 81 (cutG z a))).asI = (mgot (s.drop (atM s k))).e := by
      rw [app_all hf]
      show (mgot (@Tm.den ρ (cutG z a)).asS).e = _
      rw [ec]
    exact sel_T (lss_T (by rw [ha, d2]; omega)) (sel_T (and_T (leq_T (by rw [ci_asI, ha]; omega)) (leq_T (by rw [ha, d2]; omega))) (sel_T (leq_T (by rw [ci_asI, dc, List.length_drop]; omega)) (sel_T (neq_T (by rw [ci_asI, a6]; exact he)) rfl)))
  · exact sel_F (lss_F (by rw [ha, d2]; omega)) rfl
end
def HCB : Heap := ⟨6, [(5, .seq shM v6 true), (1, .seq shM v3 true), (0, .seq shM v0 false)], [], []⟩
def TCB : St := ⟨30, [(3, .sint .i64 v5), (2, lstM 5 v6), (0, .sstr zB)], HCB, []⟩
def FCB : St := ⟨30, [(3, .sint .i64 v5), (2, lstM 5 v6)], HCB, []⟩
def sCB (i : Nat) : Option Tm := [none, none, none, none, none, some (.ib .add .i64 (.ci 0) (.app 80 cutB)), some (rowT10 cutB)].getD i none
noncomputable def gCB : LpG := loopG 5 5 TCB FCB sCB (.exit 0)
abbrev eCB : Option Eqs := some [(.sI, v5, v5), (.sI, .llen v6, .llen v6), (.sL, v6, v6)]
set_option maxRecDepth 100000 in
theorem rtC_eq : evCode Try.prog (evFun Try.prog envB0 1000) (fun _ => none) 1000000 (lpBody Try.prog 15 0) TCB (outS 5 5 TCB FCB) = rtAllG zB v5 v6 (.exit 0, eCB) (.exit 0, eCB) := by kernel_rfl
/-! ### the rows, compared -/
def TDB : St := ⟨161, [(12, .sint .i64 v7), (10, lstM 5 v6), (6, lstM 1 v3), (1, .sstr v1)], HCB, []⟩
def FDB : St := ⟨161, [(1, .sstr v1)], HCB, []⟩
def sDB (i : Nat) : Option Tm := [none, none, none, none, none, none, none, some (.ci 0)].getD i none
noncomputable def gDB : LpG := loopG 6 7 TDB FDB sDB (.exit 2)
abbrev qJI (k : IntKind) (c : Nat) : Tm := .ib .eql k (.lget v6 v7 c) (.lget v3 v7 c)
abbrev qJB (c : Nat) : Tm := .beq (.lget v6 v7 c) (.lget v3 v7 c)
def eqDB : Tm := .and (qJI .u8 0) (.and (qJB 1) (.and (.and (qJI .u8 2) (.and (qJI .u8 3) (.and (qJI .u8 4) (.and (qJI .u8 5) (.and (qJI .i64 6) (.and (qJI .i64 7) (.and (qJI .i64 8) (qJI .i64 9)))))))) (.and (.and (qJI .u8 10) (.and (qJB 11) (.and (qJB 12) (.and (qJB 13) (.and (qJB 14) (.and (qJB 15) (.and (qJB 16) (qJI .u8 17)))))))) (.and (qJI .u8 18) (.sb .eql (.lget v6 v7 19) (.lget v3 v7 19))))))
def rtDB : LTree := .fork (.ib .lss .i64 v7 (.llen v6)) (.fork (.and (.ib .leq .i64 (.ci 0) v7) (.ib .lss .i64 v7 (.llen v6))) (.fork (.and (.ib .leq .i64 (.ci 0) v7) (.ib .lss .i64 v7 (.llen v3))) (.fork (.not eqDB) (.leaf (.ret, some [])) (.leaf (.normal, some [(.sI, v7, .ib .add .i64 v7 (.ci 1))]))) .fail) .fail) (.leaf (.exit 2, some []))
set_option maxRecDepth 100000 in
theorem rtD_eq : evCode Try.prog (evFun Try.prog envB0 1000) (fun _ => none) 1000000 (lpBody Try.prog 5 1) TDB (outS 6 7 TDB FDB) = rtDB := by kernel_rfl
/-! ### the environment -/
def lf2 (k1 : Nat) (g1 : LpG) (k2 : Nat) (g2 : LpG) : LoopF := fun k => bif Nat.beq k k1 then some g1 else bif Nat.beq k k2 then some g2 else none
theorem lf2_ok {ρ : Rho} {f : FuncId} {k1 k2 i1 i2 : Nat} {g1 g2 : LpG} (h1 : keyAt Try.prog f k1 i1 = true) (h2 : keyAt Try.prog f k2 i2 = true) (o1 : GOk ρ f i1 g1) (o2 : GOk ρ f i2 g2) {fn : Func} {c : Code} (hf : Try.prog.funcs[f]? = some fn) (hc : fn.body = some c) : @LpOK ρ Try.prog (lf2 k1 g1 k2 g2) c := by
  intro body hb g hl
  unfold lf2 at hl
  cases e1 : Nat.beq (loopKey body) k1 with
  | true =>
    rw [e1] at hl
    exact lf1_ok h1 o1 hf hc body hb g (by unfold lf1; rw [e1]; exact hl)
  | false =>
    rw [e1] at hl
    simp only [cond_false] at hl
    cases e2 : Nat.beq (loopKey body) k2 with
    | true =>
      rw [e2] at hl
      exact lf1_ok h2 o2 hf hc body hb g (by unfold lf1; rw [e2]; exact hl)
    | false => rw [e2] at hl; cases hl
/-- It comes but once, with so many objects. -/
def once (n : Nat) : LpG := fun st => bif Nat.beq st.H.next n then none else some (.cb false, .ret, st)
theorem once_ok (ρ : Rho) (f : FuncId) (i n : Nat) : GOk ρ f i (once n) := fun st o x st' h ho => by
  unfold once at h
  cases hb : Nat.beq st.H.next n with
  | true => rw [hb] at h; cases h
  | false => rw [hb] at h; cases h; cases ho
def none1 : LpG := fun _ => none
theorem none1_ok (ρ : Rho) (f : FuncId) (i : Nat) : GOk ρ f i none1 := fun st o x st' h ho => by cases h
def lpB (a b c : LpG) : FuncId → LoopF := fun f => bif Nat.beq f 5 then lf2 6 a 20 c else bif Nat.beq f 15 then lf1 1 b else fun _ => none
def envB (a b c : LpG) : Env := ⟨tabGet tabB, lpB a b c⟩
set_option maxRecDepth 100000 in
theorem keyB1 : keyAt Try.prog 5 6 0 = true := by kernel_rfl
set_option maxRecDepth 100000 in
theorem keyB2 : keyAt Try.prog 5 20 1 = true := by kernel_rfl
theorem envB_ok {ρ : Rho} (hf : ρ.fn = allFn) {a b c : LpG} (ha : GOk ρ 5 0 a) (hb : GOk ρ 15 0 b) (hc : GOk ρ 5 1 c) : @EnvOK ρ Try.prog (envB a b c) := by
  refine ⟨(envB0_ok hf).fn, fun f fn cd h1 h2 => ?_⟩
  simp only [envB, lpB]
  cases e1 : Nat.beq f 5 with
  | true =>
    obtain rfl := Nat.eq_of_beq_eq_true e1
    exact lf2_ok keyB1 keyB2 ha hc h1 h2
  | false =>
    simp only [cond_false]
    cases e2 : Nat.beq f 15 with
    | true =>
      obtain rfl := Nat.eq_of_beq_eq_true e2
      exact lf1_ok keyB hb h1 h2
    | false => exact lf0_ok
/-! ### trees of the law -/
abbrev zeB : Tm := .and (.ib .eql .u8 (.app 60 v1) (.ci 0)) (.and (.not (.app 61 v1)) (.and (.and (.ib .eql .u8 (.app 62 v1) (.ci 0)) (.and (.ib .eql .u8 (.app 63 v1) (.ci 0)) (.and (.ib .eql .u8 (.app 64 v1) (.ci 0)) (.and (.ib .eql .u8 (.app 65 v1) (.ci 0)) (.and (.ib .eql .i64 (.app 66 v1) (.ci 0)) (.and (.ib .eql .i64 (.app 67 v1) (.ci 0)) (.and (.ib .eql .i64 (.app 68 v1) (.ci 0)) (.ib .eql .i64 (.app 69 v1) (.ci 0))))))))) (.and (.and (.ib .eql .u8 (.app 70 v1) (.ci 0)) (.and (.not (.app 71 v1)) (.and (.not (.app 72 v1)) (.and (.not (.app 73 v1)) (.and (.not (.app 74 v1)) (.and (.not (.app 75 v1)) (.and (.not (.app 76 v1)) (.ib .eql .u8 (.app 77 v1) (.ci 0))))))))) (.and (.ib .eql .u8 (.app 78 v1) (.ci 0)) (.sb .eql (.app 79 v1) (.cs []))))))
abbrev octS (c : Nat) : Tm := .and (.ib .leq .u8 (.ci 0) (.app (60 + c) v1)) (.ib .leq .u8 (.app (60 + c) v1) (.ci 255))
def debS : Tm := .and (octS 0) (.and (octS 2) (.and (octS 3) (.and (octS 4) (.and (octS 5) (.and (octS 10) (.and (octS 17) (octS 18)))))))
def rowS : Tm := .pair (.app 60 v1) (.pair (.app 61 v1) (.pair (.app 62 v1) (.pair (.app 63 v1) (.pair (.app 64 v1) (.pair (.app 65 v1) (.pair (.app 66 v1) (.pair (.app 67 v1) (.pair (.app 68 v1) (.pair (.app 69 v1) (.pair (.app 70 v1) (.pair (.app 71 v1) (.pair (.app 72 v1) (.pair (.app 73 v1) (.pair (.app 74 v1) (.pair (.app 75 v1) (.pair (.app 76 v1) (.pair (.app 77 v1) (.pair (.app 78 v1) (.pair (.app 79 v1) (.cb false))))))))))))))))))))
abbrev tyS : Tm := .app 90 rowS
abbrev vaS : Tm := .app 91 rowS
abbrev okS : Tm := .app 92 rowS
abbrev puS : Tm := .app 20 (.pair tyS (.pair (.app 61 v1) vaS))
abbrev erS : Tm := .app 21 (.pair tyS (.pair (.app 61 v1) vaS))
def tailB : Tree AV := .fork (.ib .leq .i64 (.len v1) (.ci 140737488355328)) (.fork (.ib .neq .i64 (.app 81 v1) (.ci 0)) (.fork zeB (.fork (.ib .eql .i64 (.app 80 v1) (.ci 0)) ttM ffM) ffM)
  (.fork debS (.fork (.not okS) ffM (.fork (.and (.and (.ib .leq .u8 (.ci 0) tyS) (.ib .leq .u8 tyS (.ci 255))) (.ib .leq .i64 (.len vaS) (.ci 1000))) (.fork (.ib .eql .i64 erS (.ci 0)) (.fork (.ib .leq .i64 (.app 80 v1) (.len v1)) (.fork (.and (.ib .leq .i64 (.ci 0) (.app 80 v1)) (.ib .leq .i64 (.app 80 v1) (.len v1))) (.fork (.sb .eql puS (.cut v1 (.ci 0) (.app 80 v1))) ttM ffM) .fail) ffM) ffM) .fail)) .fail)) .fail
def lawS (x y : Tree AV) : Tree AV := .fork (.ib .gtr .i64 (.llen v0) (.ci 20)) ttM (.fork (.ib .gtr .i64 (.len v1) (.ci 300)) ttM (.fork (.ib .leq .i64 (.plus (.len v2) (.ci 1)) (.ci 9223372036854775807)) (.fork (.ib .lss .i64 (.ci 0) (.len zB)) (.fork (.ib .leq .i64 (.ci 0) (.len zB)) (.fork (.ib .leq .i64 (.len cutB) (.ci 140737488355328)) (.fork (.ib .neq .i64 (.app 81 cutB) (.ci 0)) x y) .fail) .fail) x) .fail))
def xA1 : Tree AV := .fork (.ib .neq .i64 (.len v2) (.ci 0)) ffM tailB
def xB1 : Tree AV := .fork (.ib .neq .i64 (.len v2) (.ci 0)) ffM (.fork (.ib .neq .i64 (.llen v3) (.ci 0)) ffM tailB)
def yB1 : Tree AV := .fork (.ib .eql .i64 (.llen (rowT10 cutB)) (.ci 1)) (.fork (.ib .neq .i64 v5 (.len v2)) ffM (.fork (.ib .neq .i64 (.llen v6) (.llen v3)) ffM tailB)) .fail
noncomputable def lawB (a b c : LpG) : Tree AV := evFun Try.prog (envB a b c) 1000 5 [argB, .sstr v1] H0B fun v _ => .leaf v
set_option maxRecDepth 100000 in
theorem lawB_A : lawB (g1 EA (.exit 0)) (once 1) none1 = lawS xA1 .fail := by kernel_rfl
set_option maxRecDepth 100000 in
theorem lawB_B : lawB (g1 EB (.exit 0)) gCB gDB = lawS xB1 yB1 := by kernel_rfl
set_option maxRecDepth 100000 in
theorem lawB_R : lawB (g1 ER .ret) none1 none1 = .fork (.ib .gtr .i64 (.llen v0) (.ci 20)) ttM (.fork (.ib .gtr .i64 (.len v1) (.ci 300)) ttM ttM) := by kernel_rfl
set_option maxRecDepth 100000 in
theorem lawB_D : lawB (once 777) none1 none1 = .fork (.ib .gtr .i64 (.llen v0) (.ci 20)) ttM (.fork (.ib .gtr .i64 (.len v1) (.ci 300)) ttM .fail) := by kernel_rfl
set_option maxRecDepth 100000 in
theorem lawB_N : evFun Try.prog (envB none1 (once 0) none1) 1000 5 [.nilSlice, .sstr v1] heap0 (fun v _ => .leaf v) = .fork (.ib .gtr .i64 (.len v1) (.ci 300)) ttM (.fork (.ib .neq .i64 (.app 81 (.cs [0])) (.ci 0)) tailB .fail) := by kernel_rfl
section
variable {L : List (List Dat)} {s a : List UInt8} {m : List (List Dat)} {k p : Nat} {g : List (List Dat)} {j : Nat}
theorem zero_row (h : (mgot s).e ≠ 0) : (@Tm.den (rhoB L s a m k p g j) zeB).asB = true := by
  letI ρ : Rho := rhoB L s a m k p g j
  obtain ⟨hrow, _⟩ := mgot_bad h
  exact and_T (eql_T (by show ((mgot s).row.getD 0 (.dI 0)).asI = 0; rw [hrow]; rfl)) (and_T (not_T (by show ((mgot s).row.getD 1 (.dI 0)).asB = false; rw [hrow]; rfl)) (and_T (and_T (eql_T (by show ((mgot s).row.getD 2 (.dI 0)).asI = 0; rw [hrow]; rfl)) (and_T (eql_T (by show ((mgot s).row.getD 3 (.dI 0)).asI = 0; rw [hrow]; rfl)) (and_T (eql_T (by show ((mgot s).row.getD 4 (.dI 0)).asI = 0; rw [hrow]; rfl)) (and_T (eql_T (by show ((mgot s).row.getD 5 (.dI 0)).asI = 0; rw [hrow]; rfl)) (and_T (eql_T (by show ((mgot s).row.getD 6 (.dI 0)).asI = 0; rw [hrow]; rfl)) (and_T (eql_T (by show ((mgot s).row.getD 7 (.dI 0)).asI = 0; rw [hrow]; rfl)) (and_T (eql_T (by show ((mgot s).row.getD 8 (.dI 0)).asI = 0; rw [hrow]; rfl)) (eql_T (by show ((mgot s).row.getD 9 (.dI 0)).asI = 0; rw [hrow]; rfl))))))))) (and_T (and_T (eql_T (by show ((mgot s).row.getD 10 (.dI 0)).asI = 0; rw [hrow]; rfl)) (and_T (not_T (by show ((mgot s).row.getD 11 (.dI 0)).asB = false; rw [hrow]; rfl)) (and_T (not_T (by show ((mgot s).row.getD 12 (.dI 0)).asB = false; rw [hrow]; rfl)) (and_T (not_T (by show ((mgot s).row.getD 13 (.dI 0)).asB = false; rw [hrow]; rfl)) (and_T (not_T (by show ((mgot s).row.getD 14 (.dI 0)).asB = false; rw [hrow]; rfl)) (and_T (not_T (by show ((mgot s).row.getD 15 (.dI 0)).asB = false; rw [hrow]; rfl)) (and_T (not_T (by show ((mgot s).row.getD 16 (.dI 0)).asB = false; rw [hrow]; rfl)) (eql_T (by show ((mgot s).row.getD 17 (.dI 0)).asI = 0; rw [hrow]; rfl))))))))) (and_T (eql_T (by show ((mgot s).row.getD 18 (.dI 0)).asI = 0; rw [hrow]; rfl)) (seql_T (by show ((mgot s).row.getD 19 (.dI 0)).asS = []; rw [hrow]; rfl))))))
theorem oct_got (h : (mgot s).e = 0) : (@Tm.den (rhoB L s a m k p g j) debS).asB = true := by
  letI ρ : Rho := rhoB L s a m k p g j
  obtain ⟨⟨q, c, x, y, t, b, e, ⟨⟨⟨a0, a1⟩, ⟨a2, a3⟩, ⟨a4, a5⟩, a6, a7⟩, d0, d1, b0, b1, t0, t1⟩, q0, q1⟩, _⟩ := row_got h
  have o2 : ∀ (n : Nat) (z : Int), ((mrow q c x y t b).getD n (.dI 0)).asI = z → 0 ≤ z → z ≤ 255 → (Tm.app (60 + n) v1).den = (mgot s).row.getD n (.dI 0) → (octS n).den.asB = true := fun n z hz h0 h1 hd => by
    have e2 : (Tm.app (60 + n) v1).den.asI = z := by rw [hd, e]; exact hz
    exact and_T (leq_T (by rw [ci_asI, e2]; exact h0)) (leq_T (by rw [ci_asI, e2]; exact h1))
  unfold debS
  exact and_T (o2 0 (q) rfl q0 (by omega) rfl) (and_T (o2 2 (x.d) rfl a0 a1 rfl) (and_T (o2 3 (x.f) rfl a2 a3 rfl) (and_T (o2 4 (x.c) rfl a4 a5 rfl) (and_T (o2 5 (x.p) rfl a6 a7 rfl) (and_T (o2 10 (y.d) rfl d0 d1 rfl) (and_T (o2 17 (y.br) rfl b0 b1 rfl) (o2 18 (t) rfl t0 t1 rfl)))))))
theorem tail_ok (hs : s.length ≤ 300) : @Tree.ok (rhoB L s a m k p g j) tailB := by
  letI ρ : Rho := rhoB L s a m k p g j
  have d1 : (Tm.len v1).den.asI = (s.length : Int) := rfl
  have d80 : (Tm.app 80 v1).den.asI = (mgot s).n := rfl
  have d81 : (Tm.app 81 v1).den.asI = (mgot s).e := rfl
  unfold tailB
  refine okT (leq_T (by rw [d1, ci_asI]; omega)) ?_
  by_cases he : (mgot s).e = 0
  · obtain ⟨hr, ho, ⟨t0, t1⟩, hv, hp, n0, n1⟩ := row_got he
    have dO : okS.den.asB = okR (mgot s).row := rfl
    have dT : tyS.den.asI = (parR (mgot s).row).1 := rfl
    have dV : (Tm.len vaS).den.asI = ((parR (mgot s).row).2.1.length : Int) := rfl
    have dE : erS.den.asI = (tput (parR (mgot s).row).1 (rC (mgot s).row) (parR (mgot s).row).2.1).2 := rfl
    have dP : puS.den.asS = (tput (parR (mgot s).row).1 (rC (mgot s).row) (parR (mgot s).row).2.1).1 := rfl
    have dC : (Tm.cut v1 (.ci 0) (.app 80 v1)).den.asS = s.take (mgot s).n.toNat := by
      show (s.drop 0).take ((mgot s).n.toNat - 0) = _
      rfl
    refine okF (neq_F (by rw [d81, ci_asI]; exact he)) (okT (oct_got he) (okF (not_F (by rw [dO, ho])) (okT (and_T (and_T (leq_T (by rw [ci_asI, dT]; exact t0)) (leq_T (by rw [ci_asI, dT]; omega))) (leq_T (by rw [ci_asI, dV]; omega)))
      (okT (eql_T (by rw [dE, hp, ci_asI])) (okT (leq_T (by rw [d80, d1]; exact n1)) (okT (and_T (leq_T (by rw [d80, ci_asI]; omega)) (leq_T (by rw [d80, d1]; exact n1))) (okT (seql_T (by rw [dP, hp, dC])) okM)))))))
  · exact okT (neq_T (by rw [d81, ci_asI]; exact he)) (okT (zero_row he) (okT (eql_T (by rw [d80, ci_asI]; exact (mgot_bad he).2)) okM))
end
section
variable {L : List (List Dat)} {s : List UInt8}
abbrev sAll (L : List (List Dat)) : List UInt8 := catM (acc L L.length) ++ [0]
abbrev rhoF (L : List (List Dat)) (s : List UInt8) : Rho := rho1B L s L.length (atM (sAll L) (acc L L.length).length) (rowsM (sAll L) (acc L L.length).length) (acc L L.length).length L.length
theorem all_small (hL : RowsOk L) (hn : L.length ≤ 20) (hb : ∀ i, i < L.length → (rB (L.getD i [])).length ≤ 127) : (sAll L).length ≤ 3000 := by
  have h1 := catM_len (acc_ok hL (Nat.le_refl _) hb)
  have h2 := acc_len L L.length
  simp only [sAll, List.length_append, List.length_cons, List.length_nil]; omega
theorem gC_ok (hL : RowsOk L) (hn : L.length ≤ 20) (hb : ∀ i, i < L.length → (rB (L.getD i [])).length ≤ 127) (h1 : 1 ≤ (acc L L.length).length) : GOk (rhoF L s) 15 0 gCB := by
  have hA := acc_ok hL (Nat.le_refl _) hb
  have hsm := all_small hL hn hb
  have hal := acc_len L L.length
  have hE : EndM (sAll L) (acc L L.length).length := end_back hA
  obtain ⟨hg, hbad⟩ := hE
  have hend : (acc L L.length).length - 1 + 1 = (acc L L.length).length := by omega
  have hle := at_le hg
  have hz : ∀ (q : Nat) (w : List (List Dat)), (@Tm.den (rhoB L s (catM (acc L L.length)) (lst L L.length L.length) L.length q w (acc L L.length).length) zB).asS = sAll L := fun _ _ => rfl
  refine loopG_ok noCount (rhoF L s) (fun k => rhoB L s (catM (acc L L.length)) (lst L L.length L.length) L.length (atM (sAll L) (k + 1)) (rowsM (sAll L) (k + 1)) (acc L L.length).length) ((acc L L.length).length - 1) (fuel := 1000000) (cf := evFun Try.prog envB0 1000) (lf := fun _ => none) (by simp) rfl
    (fun k _ => by letI : Rho := rhoB L s (catM (acc L L.length)) (lst L L.length L.length) L.length (atM (sAll L) (k + 1)) (rowsM (sAll L) (k + 1)) (acc L L.length).length; exact evFun_ok noCount (envB0_ok rfl) 1000) (fun k _ => by letI : Rho := rhoB L s (catM (acc L L.length)) (lst L L.length L.length) L.length (atM (sAll L) (k + 1)) (rowsM (sAll L) (k + 1)) (acc L L.length).length; exact lf0_ok) (fun k _ => ⟨fun n hn => ?_, rfl⟩) (fun k hk => ?_) ?_ (fun n => ?_)
  · match n, hn with
    | 0, _ => rfl
    | 1, _ => rfl
    | 2, _ => rfl
    | 3, _ => rfl
    | 4, _ => rfl
  · rw [rtC_eq]
    exact roundG (s := sAll L) (k := k + 1) rfl (hz _ _) rfl rfl rfl rfl (by omega) (hg _ (by omega)) (by omega)
  · rw [rtC_eq]
    have := lastG (ρ := rhoB L s (catM (acc L L.length)) (lst L L.length L.length) L.length (atM (sAll L) ((acc L L.length).length - 1 + 1)) (rowsM (sAll L) ((acc L L.length).length - 1 + 1)) (acc L L.length).length) (s := sAll L) (z := zB) (a := v5) (l := v6) (x := (.exit 0, eCB)) (k := (acc L L.length).length - 1 + 1) rfl (hz _ _) rfl (by omega) (by rw [hend]; omega) (by rw [hend]; exact hbad)
    rw [hend] at this ⊢
    exact ⟨_, this, rfl, rfl, rfl, trivial⟩
  · have ec : (@Tm.den (rhoF L s) cutB).asS = sAll L := cut_end (sAll L) 0
    match n with
    | 0 => rfl
    | 1 => rfl
    | 2 => rfl
    | 3 => rfl
    | 4 => rfl
    | 5 =>
      obtain ⟨_, _, b3⟩ := at_step (hg 0 (by omega))
      have h0 : atM (sAll L) 0 = 0 := rfl
      rw [h0, List.drop_zero] at b3
      show Dat.dI (atM (sAll L) (0 + 1) : Int) = iop .add .i64 0 (mgot (@Tm.den (rhoF L s) cutB).asS).n
      rw [ec, b3]
      have hle1 := at_le (n := 1) (s := sAll L) fun k hk => hg k (by omega)
      have e1 : atM (sAll L) (0 + 1) = atM (sAll L) 1 := rfl
      show _ = Dat.dI (IntKind.i64.wrap ((0 : Int) + ((atM (sAll L) (0 + 1) - 0 : Nat) : Int)))
      rw [w64 _ (by omega) (by omega)]
      congr 1; omega
    | 6 =>
      have h := @rowT_den (rhoF L s) rfl cutB
      rw [ec] at h
      have h2 : @Tm.den (rhoF L s) (rowT10 cutB) = .dL (@Tm.den (rhoF L s) (rowT10 cutB)).asL := rfl
      show Dat.dL (rowsM (sAll L) (0 + 1)) = @Tm.den (rhoF L s) (rowT10 cutB)
      rw [h2, h]; rfl
    | 7 => rfl
    | n + 8 => rfl
theorem gD_ok (hL : RowsOk L) (hn : L.length ≤ 20) (hb : ∀ i, i < L.length → (rB (L.getD i [])).length ≤ 127) : GOk (rhoF L s) 5 1 gDB := by
  have hA := acc_ok hL (Nat.le_refl _) hb
  have hal := acc_len L L.length
  have hrows : rowsM (sAll L) (acc L L.length).length = acc L L.length := by rw [rows_back hA _ (Nat.le_refl _), List.take_length]
  have hlst : lst L L.length L.length = acc L L.length := lst_end
  refine loopG_ok noCount (rhoF L s) (fun k => rhoB L s (catM (acc L L.length)) (lst L L.length L.length) L.length (atM (sAll L) (acc L L.length).length) (rowsM (sAll L) (acc L L.length).length) k) (acc L L.length).length (fuel := 1000000) (cf := evFun Try.prog envB0 1000) (lf := fun _ => none) (by simp) rfl
    (fun k _ => by letI : Rho := rhoB L s (catM (acc L L.length)) (lst L L.length L.length) L.length (atM (sAll L) (acc L L.length).length) (rowsM (sAll L) (acc L L.length).length) k; exact evFun_ok noCount (envB0_ok rfl) 1000) (fun k _ => by letI : Rho := rhoB L s (catM (acc L L.length)) (lst L L.length L.length) L.length (atM (sAll L) (acc L L.length).length) (rowsM (sAll L) (acc L L.length).length) k; exact lf0_ok) (fun k _ => ⟨fun n hn => ?_, rfl⟩) (fun k hk => ?_) ?_ (fun n => ?_)
  · match n, hn with
    | 0, _ => rfl
    | 1, _ => rfl
    | 2, _ => rfl
    | 3, _ => rfl
    | 4, _ => rfl
    | 5, _ => rfl
    | 6, _ => rfl
  · rw [rtD_eq]
    letI ρ : Rho := rhoB L s (catM (acc L L.length)) (lst L L.length L.length) L.length (atM (sAll L) (acc L L.length).length) (rowsM (sAll L) (acc L L.length).length) k
    have d7 : v7.den.asI = (k : Int) := rfl
    have d6 : (Tm.llen v6).den.asI = ((acc L L.length).length : Int) := by
      show ((rowsM (sAll L) (acc L L.length).length).length : Int) = _
      rw [rowsM_len]
    have d3 : (Tm.llen v3).den.asI = ((acc L L.length).length : Int) := by
      show ((lst L L.length L.length).length : Int) = _
      rw [hlst]
    have e : ∀ c, (Tm.lget v6 v7 c).den = (Tm.lget v3 v7 c).den := fun c => by
      show ((rowsM (sAll L) (acc L L.length).length).getD k []).getD c (.dI 0) = ((lst L L.length L.length).getD k []).getD c (.dI 0)
      rw [hrows, hlst]
    have qi : ∀ i c, (qJI i c).den.asB = true := fun i c => eql_T (by rw [e])
    have qb : ∀ c, (qJB c).den.asB = true := fun c => beq_T (by rw [e])
    have hq : eqDB.den.asB = true := and_T (qi .u8 0) (and_T (qb 1) (and_T (and_T (qi .u8 2) (and_T (qi .u8 3) (and_T (qi .u8 4) (and_T (qi .u8 5) (and_T (qi .i64 6) (and_T (qi .i64 7) (and_T (qi .i64 8) (qi .i64 9)))))))) (and_T (and_T (qi .u8 10) (and_T (qb 11) (and_T (qb 12) (and_T (qb 13) (and_T (qb 14) (and_T (qb 15) (and_T (qb 16) (qi .u8 17)))))))) (and_T (qi .u8 18) (seql_T (by rw [e]))))))
    unfold rtDB
    refine ⟨_, sel_T (lss_T (by rw [d7, d6]; omega)) (sel_T (and_T (leq_T (by rw [ci_asI, d7]; omega)) (lss_T (by rw [d7, d6]; omega))) (sel_T (and_T (leq_T (by rw [ci_asI, d7]; omega)) (lss_T (by rw [d7, d3]; omega))) (sel_F (not_F hq) rfl))), ?_, trivial⟩
    show ((k + 1 : Nat) : Int) = (iop .add .i64 (k : Int) 1).asI
    exact (wadd k 1 (by omega)).symm
  · rw [rtD_eq]
    letI ρ : Rho := rhoB L s (catM (acc L L.length)) (lst L L.length L.length) L.length (atM (sAll L) (acc L L.length).length) (rowsM (sAll L) (acc L L.length).length) (acc L L.length).length
    have d7 : v7.den.asI = ((acc L L.length).length : Int) := rfl
    have d6 : (Tm.llen v6).den.asI = ((acc L L.length).length : Int) := by
      show ((rowsM (sAll L) (acc L L.length).length).length : Int) = _
      rw [rowsM_len]
    refine ⟨[], ?_, trivial⟩
    unfold rtDB
    exact sel_F (lss_F (by rw [d7, d6]; omega)) rfl
  · match n with
    | 0 => rfl
    | 1 => rfl
    | 2 => rfl
    | 3 => rfl
    | 4 => rfl
    | 5 => rfl
    | 6 => rfl
    | 7 => rfl
    | n + 8 => rfl
theorem lawS_ok {x y : Tree AV} (hn : L.length ≤ 20) (hs : s.length ≤ 300) (hsm : (sAll L).length ≤ 3000) (hx : (mgot (sAll L)).e ≠ 0 → @Tree.ok (rhoF L s) x) (hy : (mgot (sAll L)).e = 0 → @Tree.ok (rhoF L s) y) : @Tree.ok (rhoF L s) (lawS x y) := by
  letI ρ : Rho := rhoF L s
  have d0 : (Tm.llen v0).den.asI = (L.length : Int) := rfl
  have d1 : (Tm.len v1).den.asI = (s.length : Int) := rfl
  have d2 : (Tm.len v2).den.asI = ((catM (acc L L.length)).length : Int) := rfl
  have dz : (Tm.len zB).den.asI = ((sAll L).length : Int) := rfl
  have hl : (sAll L).length = (catM (acc L L.length)).length + 1 := by simp [sAll]
  have ec : cutB.den.asS = sAll L := cut_end (sAll L) 0
  have dc : (Tm.len cutB).den.asI = ((sAll L).length : Int) := by
    show ((cutB.den.asS.length : Nat) : Int) = _
    rw [ec]
  have a6 : (Tm.app 81 cutB).den.asI = (mgot (sAll L)).e := by
    show (mgot cutB.den.asS).e = _
    rw [ec]
  have hpl : (Tm.ib .leq .i64 (.plus (.len v2) (.ci 1)) (.ci 9223372036854775807)).den.asB = true := leq_T (by
    rw [ci_asI]
    show (Tm.len v2).den.asI + 1 ≤ 9223372036854775807
    rw [d2]; omega)
  unfold lawS
  refine okF (gtr_F (by rw [d0, ci_asI]; omega)) (okF (gtr_F (by rw [d1, ci_asI]; omega)) (okT hpl (okT (lss_T (by rw [dz, ci_asI]; omega)) (okT (leq_T (by rw [dz, ci_asI]; omega)) (okT (leq_T (by rw [dc, ci_asI]; omega)) ?_)))))
  by_cases he : (mgot (sAll L)).e = 0
  · exact okF (neq_F (by rw [a6, ci_asI]; exact he)) (hy he)
  · exact okT (neq_T (by rw [a6, ci_asI]; exact he)) (hx he)
/-- The law holds of any rows. -/
theorem law_back (hL : RowsOk L) (s : List UInt8) : ∃ (ρ : Rho) (a b c : LpG), ρ.val 0 = .dL L ∧ ρ.val 1 = .dS s ∧ @EnvOK ρ Try.prog (envB a b c) ∧ @Tree.ok ρ (lawB a b c) := by
  by_cases h20 : 20 < L.length ∨ 300 < s.length
  · refine ⟨rhoF L s, once 777, none1, none1, rfl, rfl, envB_ok rfl (once_ok _ _ _ _) (none1_ok _ _ _) (none1_ok _ _ _), ?_⟩
    rw [lawB_D]
    letI ρ : Rho := rhoF L s
    have d0 : (Tm.llen v0).den.asI = (L.length : Int) := rfl
    have d1 : (Tm.len v1).den.asI = (s.length : Int) := rfl
    rcases Nat.lt_or_ge 20 L.length with h | h
    · exact okT (gtr_T (by rw [d0, ci_asI]; omega)) okM
    · exact okF (gtr_F (by rw [d0, ci_asI]; omega)) (okT (gtr_T (by rw [d1, ci_asI]; omega)) okM)
  have hn : L.length ≤ 20 := by omega
  have hs : s.length ≤ 300 := by omega
  by_cases hb : ∀ i, i < L.length → (rB (L.getD i [])).length ≤ 127
  · have hA := acc_ok hL (Nat.le_refl _) hb
    have hsm := all_small hL hn hb
    cases hq : bk L L.length with
    | false =>
      have hacc := bk_no hq
      have hl : ∃ es, @Tree.sel _ (rhoF L s) (rtB (KK (bk L L.length)) (KK (bk L L.length)) EA) = some (.exit 0, some es) ∧ EqsOk (rhoF L s) (rhoF L s) es := by
        rw [hq, KK_f, rA_AA]
        exact ⟨_, rt1_out (by omega), rfl, trivial⟩
      refine ⟨rhoF L s, g1 EA (.exit 0), once 1, none1, rfl, rfl, envB_ok rfl (g1_gen (by simp) rA_AA rA_AB rA_BB hL hn (Nat.le_refl _) hb hl) (once_ok _ _ _ _) (none1_ok _ _ _), ?_⟩
      rw [lawB_A]
      have hz : sAll L = [0] := by show catM (acc L L.length) ++ [0] = _; rw [hacc]; rfl
      refine lawS_ok hn hs hsm (fun _ => ?_) fun he => ?_
      · have d2 : (@Tm.den (rhoF L s) (Tm.len v2)).asI = 0 := by
          show ((catM (acc L L.length)).length : Int) = 0
          rw [hacc]; rfl
        letI ρ : Rho := rhoF L s
        exact okF (neq_F (by rw [d2, ci_asI])) (tail_ok hs)
      · rw [hz] at he; exact absurd he bad0
    | true =>
      have hacc := bk_yes hq
      have h1 : 1 ≤ (acc L L.length).length := by
        rcases Nat.eq_zero_or_pos (acc L L.length).length with h | h
        · exact absurd (List.eq_nil_of_length_eq_zero h) hacc
        · exact h
      have hl : ∃ es, @Tree.sel _ (rhoF L s) (rtB (KK (bk L L.length)) (KK (bk L L.length)) EB) = some (.exit 0, some es) ∧ EqsOk (rhoF L s) (rhoF L s) es := by
        rw [hq, KK_t, rB_BB]
        exact ⟨_, rt1_out (by omega), rfl, rfl, rfl, trivial⟩
      refine ⟨rhoF L s, g1 EB (.exit 0), gCB, gDB, rfl, rfl, envB_ok rfl (g1_gen (by simp) rB_AA rB_AB rB_BB hL hn (Nat.le_refl _) hb hl) (gC_ok hL hn hb h1) (gD_ok hL hn hb), ?_⟩
      rw [lawB_B]
      have hE := end_back hA
      have hgood : (mgot (sAll L)).e = 0 := (hE.1 0 (by omega)).2
      refine lawS_ok hn hs hsm (fun he => absurd hgood he) fun _ => ?_
      have hat : atM (sAll L) (acc L L.length).length = (catM (acc L L.length)).length := by
        rw [at_back hA [0] _ (Nat.le_refl _), List.take_length]
      have d5 : (@Tm.den (rhoF L s) v5).asI = ((catM (acc L L.length)).length : Int) := by
        show ((atM (sAll L) (acc L L.length).length : Nat) : Int) = _
        rw [hat]
      have d2 : (@Tm.den (rhoF L s) (Tm.len v2)).asI = ((catM (acc L L.length)).length : Int) := rfl
      have d6 : (@Tm.den (rhoF L s) (Tm.llen v6)).asI = ((acc L L.length).length : Int) := by
        show ((rowsM (sAll L) (acc L L.length).length).length : Int) = _
        rw [rowsM_len]
      have d3 : (@Tm.den (rhoF L s) (Tm.llen v3)).asI = ((acc L L.length).length : Int) := by
        show ((lst L L.length L.length).length : Int) = _
        rw [lst_end]
      letI ρ : Rho := rhoF L s
      have ar : (Tm.llen (rowT10 cutB)).den.asI = 1 := rfl
      exact okT (eql_T (by rw [ar, ci_asI])) (okF (neq_F (by rw [d5, d2])) (okF (neq_F (by rw [d6, d3])) (tail_ok hs)))
  · -- the first that is too long
    have hex : ∃ n, n < L.length ∧ 127 < (rB (L.getD n [])).length ∧ ∀ i, i < n → (rB (L.getD i [])).length ≤ 127 := by
      have key : ∀ n, n ≤ L.length → (∀ i, i < n → (rB (L.getD i [])).length ≤ 127) ∨ ∃ n, n < L.length ∧ 127 < (rB (L.getD n [])).length ∧ ∀ i, i < n → (rB (L.getD i [])).length ≤ 127 := by
        intro n
        induction n with
        | zero => intro _; exact .inl fun i hi => by omega
        | succ n ih =>
          intro hn
          rcases ih (by omega) with h | h
          · rcases Nat.lt_or_ge 127 (rB (L.getD n [])).length with h2 | h2
            · exact .inr ⟨n, by omega, h2, h⟩
            · refine .inl fun i hi => ?_
              rcases Nat.lt_or_ge i n with h3 | h3
              · exact h i h3
              · obtain rfl : i = n := by omega
                exact h2
          · exact .inr h
      rcases key L.length (Nat.le_refl _) with h | h
      · exact absurd h hb
      · exact h
    obtain ⟨n, hm, hlong, hb'⟩ := hex
    have hl : ∃ es, @Tree.sel _ (rho1B L s n 0 [] 0 n) (rtB (KK (bk L n)) (KK (bk L n)) ER) = some (.ret, some es) ∧ EqsOk (rho1B L s n 0 [] 0 n) (rho1B L s n 0 [] 0 n) es := by
      cases bk L n with
      | false => rw [KK_f, rR_AA]; exact ⟨_, rt1_long hm hlong, trivial⟩
      | true => rw [KK_t, rR_BB]; exact ⟨_, rt1_long hm hlong, trivial⟩
    refine ⟨rho1B L s n 0 [] 0 n, g1 ER .ret, none1, none1, rfl, rfl, envB_ok rfl (g1_gen (by simp) rR_AA rR_AB rR_BB hL hn (by omega) hb' hl) (none1_ok _ _ _) (none1_ok _ _ _), ?_⟩
    rw [lawB_R]
    letI ρ : Rho := rho1B L s n 0 [] 0 n
    exact ⟨fun _ => okM, fun _ => ⟨fun _ => okM, fun _ => okM⟩⟩
end
/-! ### the call -/
theorem row_of {r : List Dat} (hl : r.length = 20) (h : ∀ (j : Nat) (kd : Kd), shM[j]? = some kd → okD kd (r.getD j (.dI 0))) : RowM r := by
  have at_ : ∀ j, j < 20 → r[j]? = some (r.getD j (.dI 0)) := fun j hj => by
    rw [List.getD_eq_getElem?_getD, List.getElem?_eq_getElem (by omega)]; rfl
  have lt : ∀ (j : Nat) (kd : Kd), shM[j]? = some kd → j < 20 := fun j kd hj => (List.getElem?_eq_some_iff.1 hj).1
  have gi : ∀ (j : Nat) (k : IntKind), shM[j]? = some (.ki k) → r[j]? = some (.dI (r.getD j (.dI 0)).asI) := fun j k hj => by
    obtain ⟨n, e, _⟩ := h j _ hj
    rw [at_ j (lt j _ hj), e]; rfl
  have gb : ∀ (j : Nat), shM[j]? = some .kb → r[j]? = some (.dB (r.getD j (.dI 0)).asB) := fun j hj => by
    obtain ⟨n, e⟩ := h j _ hj
    rw [at_ j (lt j _ hj), e]; rfl
  have gs : ∀ (j : Nat), shM[j]? = some .ks → r[j]? = some (.dS (r.getD j (.dI 0)).asS) := fun j hj => by
    obtain ⟨n, e, _⟩ := h j _ hj
    rw [at_ j (lt j _ hj), e]; rfl
  have u8 : ∀ (j : Nat), shM[j]? = some (.ki .u8) → 0 ≤ (r.getD j (.dI 0)).asI ∧ (r.getD j (.dI 0)).asI ≤ 255 := fun j hj => by
    obtain ⟨n, e, hw⟩ := h j _ hj
    rw [e]; exact wf8 hw
  refine ⟨rK r, rC r, rP r, rS r, rT r, rB r, List.ext_getElem? fun j => ?_, ⟨⟨u8 2 rfl, u8 3 rfl, u8 4 rfl, u8 5 rfl⟩, (u8 10 rfl).1, (u8 10 rfl).2, (u8 17 rfl).1, (u8 17 rfl).2, (u8 18 rfl).1, (u8 18 rfl).2⟩, (u8 0 rfl).1, (u8 0 rfl).2⟩
  match j with
  | 0 => exact gi 0 _ rfl
  | 1 => exact gb 1 rfl
  | 2 => exact gi 2 _ rfl
  | 3 => exact gi 3 _ rfl
  | 4 => exact gi 4 _ rfl
  | 5 => exact gi 5 _ rfl
  | 6 => exact gi 6 _ rfl
  | 7 => exact gi 7 _ rfl
  | 8 => exact gi 8 _ rfl
  | 9 => exact gi 9 _ rfl
  | 10 => exact gi 10 _ rfl
  | 11 => exact gb 11 rfl
  | 12 => exact gb 12 rfl
  | 13 => exact gb 13 rfl
  | 14 => exact gb 14 rfl
  | 15 => exact gb 15 rfl
  | 16 => exact gb 16 rfl
  | 17 => exact gi 17 _ rfl
  | 18 => exact gi 18 _ rfl
  | 19 => exact gs 19 rfl
  | j + 20 => rw [List.getElem?_eq_none (by omega), List.getElem?_eq_none (by simp [mrow])]
set_option maxRecDepth 100000 in
theorem msgsBack_w (v : Value) (s : List UInt8) (w : World) (h : v = .slice none 0 0 ∨ ∃ a len cap rows, v = .slice (some a) len cap ∧ SliceAt w a len cap shM rows) :
    Calls Try.prog 5 #[v, .string ⟨s.toArray⟩] w fun e w' => e = .returned (.bool true) ∧ RowKit.Below w.heap.size w w' := by
  rcases h with rfl | ⟨a, len, cap, L, rfl, hs⟩
  · letI ρ : Rho := rhoF [] s
    refine call_true (evFun_ok noCount (envB_ok (a := none1) (b := once 0) (c := none1) rfl (none1_ok _ _ _) (once_ok _ _ _ _) (none1_ok _ _ _)) 1000) (args := [.nilSlice, .sstr v1]) ?_ (cargs := [.slice none 0 0, .string ⟨s.toArray⟩]) ⟨_, _, rfl, ⟨_, _, rfl, rfl, rfl⟩, rfl⟩ w
    rw [lawB_N]
    have d1 : (Tm.len v1).den.asI = (s.length : Int) := rfl
    rcases Nat.lt_or_ge 300 s.length with h | h
    · exact okT (gtr_T (by rw [d1, ci_asI]; omega)) okM
    · refine okF (gtr_F (by rw [d1, ci_asI]; omega)) (okT (neq_T ?_) (tail_ok h))
      show ¬ (mgot [0]).e = 0
      exact bad0
  · have hL : RowsOk L := fun i hi => by
      rw [hs.n] at hi
      exact row_of (hs.row i hi) (hs.ok i hi)
    obtain ⟨ρ, g1, g2, g3, h0, h1, hE, hT⟩ := law_back hL s
    letI := ρ
    have ht : v0.den.asL = L := by
      show (ρ.val 0).asL = L
      rw [h0]; rfl
    have hm : (fun id => if id = 0 then some (⟨a.block, a.off, cap, shM.length, len * shM.length⟩ : Loc) else none) 0 = some ⟨a.block, a.off, cap, shM.length, len * shM.length⟩ := rfl
    have hobj : ∀ id o, H0B.get id = some o → id = 0 ∧ o = .seq shM v0 false := fun id o hg => by
      have hg' : look [(0, AObj.seq shM v0 false)] id = some o := hg
      rw [look_cons'] at hg'
      split at hg'
      · rename_i e; cases hg'; exact ⟨e, rfl⟩
      · cases hg'
    refine call_true_at (evFun_ok noCount hE 1000) (args := [argB, .sstr v1]) (H := H0B) rfl (fun id o hg => ?_) hT (μ := fun id => if id = 0 then some (⟨a.block, a.off, cap, shM.length, len * shM.length⟩ : Loc) else none) (cargs := [.slice (some a) len cap, .string ⟨s.toArray⟩]) ?_ ⟨fun id o hg => ?_, fun i j oi oj li lj h1 h2 hij _ _ _ => ?_⟩ (fun id hid => ?_)
    · obtain ⟨_, rfl⟩ := hobj id o hg; rfl
    · refine ⟨_, _, hs.val (by decide) ht hm, ⟨_, _, ?_, rfl, rfl⟩, rfl⟩
      show _ = Value.string ⟨(ρ.val 1).asS.toArray⟩
      rw [h1]; rfl
    · obtain ⟨rfl, rfl⟩ := hobj id o hg
      exact hs.rep ht hm
    · obtain ⟨rfl, _⟩ := hobj i oi h1
      obtain ⟨rfl, _⟩ := hobj j oj h2
      exact absurd rfl hij
    · have : id ≠ 0 := by
        have h1 : 1 ≤ id := hid
        omega
      exact if_neg this
end Go.Proofs.Ytamibbjpapkfeaa.Ab
namespace Go.Proofs.Ytamibbjpapkfeaa
open Go Go.Proofs.Ytamibbjpapkfeaa.Ab
theorem msgsBack_walk (v : Value) (s : List UInt8) (_ : s.length ≤ maxLen) (w : World) (h : v = .slice none 0 0 ∨ ∃ a len cap rows, v = .slice (some a) len cap ∧ len ≤ maxLen ∧ SliceAt w a len cap shM rows) :
    Calls Try.prog 5 #[v, .string ⟨s.toArray⟩] w fun e w' => e = .returned (.bool true) ∧ RowKit.Below w.heap.size w w' :=
  msgsBack_w v s w (h.imp id fun ⟨a, len, cap, rows, h1, _, h2⟩ => ⟨a, len, cap, rows, h1, h2⟩)
end Go.Proofs.Ytamibbjpapkfeaa
