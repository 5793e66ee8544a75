/-
  TlvRows, called: it returns true and makes at most new blocks. Its loops by rounds with letters.
  Conditions: arguments as the model reads them.
-/
import Derived.Test.YtamibbjpapkfeaaTlvM
import Derived.Test.YtamibbjpapkfeaaAbR
import Derived.Test.YtamibbjpapkfeaaAbA
namespace Go.Proofs.Ytamibbjpapkfeaa.Ab
set_option linter.unusedSimpArgs false
set_option linter.unusedVariables false
open Go
/-! ### plain: items, put one behind the other -/
def pk (r : List Dat) : Int := (iop .rem .u8 (r.getD 0 (.dI 0)).asI 64).asI
def pc (r : List Dat) : Bool := (r.getD 1 (.dI 0)).asB
def pv (r : List Dat) : List UInt8 := (r.getD 2 (.dI 0)).asS
def put1 (r : List Dat) : List UInt8 := (tput (pk r) (pc r) (pv r)).1
def cat (L : List (List Dat)) : List UInt8 := (L.map put1).flatten
def item (r : List Dat) : List Dat := [.dI (pk r), .dB (pc r), .dS (pv r)]
/-- Rows as they come in. -/
def Rows7 (L : List (List Dat)) : Prop := ∀ i, i < L.length → okD (.ki .u8) ((L.getD i []).getD 0 (.dI 0)) ∧ okD .ks ((L.getD i []).getD 2 (.dI 0))
theorem pk_le {L : List (List Dat)} (h : Rows7 L) {i : Nat} (hi : i < L.length) : 0 ≤ pk (L.getD i []) ∧ pk (L.getD i []) ≤ 63 := by
  obtain ⟨n, hn, hw⟩ := (h i hi).1
  simp [Lit.wf, IntKind.min, IntKind.max, IntKind.signed, IntKind.bits] at hw
  unfold pk
  rw [hn]
  show 0 ≤ (n.tmod 64) ∧ (n.tmod 64) ≤ 63
  rw [Int.tmod_eq_emod_of_nonneg hw.1]; omega
theorem pv_le {L : List (List Dat)} (h : Rows7 L) {i : Nat} (hi : i < L.length) : (pv (L.getD i [])).length ≤ 9223372036854775807 := by
  obtain ⟨s, hs, hl⟩ := (h i hi).2
  unfold pv
  rw [hs]
  show s.length ≤ _
  unfold maxLen at hl; omega
theorem put_good {r : List Dat} (h1 : pk r ≤ 63) (h2 : (pv r).length ≤ 127) : (tput (pk r) (pc r) (pv r)).2 = 0 := by
  unfold tput; rw [if_neg (by omega), if_neg (by omega)]
theorem put_bad {r : List Dat} (h1 : pk r ≤ 63) (h2 : 127 < (pv r).length) : (tput (pk r) (pc r) (pv r)).2 = 3 := by
  unfold tput; rw [if_neg (by omega), if_pos h2]
theorem put_len {r : List Dat} (h1 : pk r ≤ 63) (h2 : (pv r).length ≤ 127) : 2 ≤ (put1 r).length := by
  unfold put1 tput; rw [if_neg (by omega), if_neg (by omega)]; simp
theorem cat_take {L : List (List Dat)} {k : Nat} (h : k < L.length) : cat (L.take (k + 1)) = cat (L.take k) ++ put1 (L.getD k []) := by
  unfold cat
  rw [List.take_add_one, List.getElem?_eq_getElem h]
  simp only [Option.toList_some, List.map_append, List.map_cons, List.map_nil, List.flatten_append, List.flatten_cons, List.flatten_nil, List.append_nil, List.getD_eq_getElem?_getD, List.getElem?_eq_getElem h, Option.getD_some]
theorem cat_split (L : List (List Dat)) (k : Nat) : cat L = cat (L.take k) ++ cat (L.drop k) := by
  unfold cat
  rw [← List.flatten_append, ← List.map_append, List.take_append_drop]
theorem cat_drop {L : List (List Dat)} {k : Nat} (h : k < L.length) : cat (L.drop k) = put1 (L.getD k []) ++ cat (L.drop (k + 1)) := by
  unfold cat
  rw [List.drop_eq_getElem_cons h]
  simp only [List.map_cons, List.flatten_cons, List.getD_eq_getElem?_getD, List.getElem?_eq_getElem h, Option.getD_some]
theorem cat_small (L : List (List Dat)) : (cat L).length ≤ 129 * L.length := by
  unfold cat
  induction L with
  | nil => simp
  | cons r L ih =>
    have := tput_len (pk r) (pc r) (pv r)
    simp only [List.map_cons, List.flatten_cons, List.length_append, List.length_cons]
    show (tput _ _ _).1.length + _ ≤ _
    omega
theorem items_take {L : List (List Dat)} {k : Nat} (h : k < L.length) : (L.take (k + 1)).map item = (L.take k).map item ++ [item (L.getD k [])] := by
  rw [List.take_add_one, List.getElem?_eq_getElem h]
  simp only [Option.toList_some, List.map_append, List.map_cons, List.map_nil, List.getD_eq_getElem?_getD, List.getElem?_eq_getElem h, Option.getD_some]
theorem cut_end (s : List UInt8) (n : Nat) : cutS s (n : Int) (s.length : Int) = s.drop n := by
  unfold cutS
  simp only [Int.toNat_natCast]
  exact List.take_of_length_le (by simp)
/-! ### the letters -/
abbrev rhoR (L : List (List Dat)) (i : Nat) (s : List UInt8) (at_ : Nat) (l : List (List Dat)) (j : Nat) : Rho := ⟨fun n => [Dat.dL L, .dI (i : Int), .dS s, .dI (at_ : Int), .dL l, .dI (j : Int)].getD n (.dI 0), tlvFn⟩
abbrev v0 : Tm := .var 0
abbrev v1 : Tm := .var 1
abbrev v2 : Tm := .var 2
abbrev v3 : Tm := .var 3
abbrev v4 : Tm := .var 4
abbrev v5 : Tm := .var 5
abbrev kT : Tm := .ib .rem .u8 (.lget v0 v1 0) (.ci 64)
abbrev prT : Tm := .pair kT (.pair (.lget v0 v1 1) (.lget v0 v1 2))
abbrev lenT1 : Tm := .len (.lget v0 v1 2)
def shI : List Kd := [.ki .u8, .kb, .ks]
def H0R : Heap := ⟨1, [(0, .seq shI v0 false)], [], []⟩
def H2R : Heap := ⟨4, [(3, .seq shI v4 true), (0, .seq shI v0 false)], [], []⟩
def argR : AV := .sslice 0 3 (.ci 0) (.llen v0)
def lstR : AV := .sslice 3 3 (.ci 0) (.llen v4)
def T1R : St := ⟨122, [(3, .sstr v2), (4, .sint .i64 v1), (0, argR)], H0R, []⟩
def F1R : St := ⟨122, [(3, .sstr v2), (0, argR)], H0R, []⟩
def F1B : St := ⟨122, [(2, .bool true)], H0R, []⟩
def T2R : St := ⟨41, [(6, .sint .i64 v3), (5, lstR), (0, .sstr v2)], H2R, []⟩
def F2R : St := ⟨41, [(5, lstR)], H2R, []⟩
def T3R : St := ⟨122, [(10, .sint .i64 v5), (7, lstR), (0, argR)], H2R, []⟩
def F3R : St := ⟨122, [], H2R, []⟩
abbrev cut0 : Tm := .cut v2 (.ci 0) (.len v2)
abbrev cut3 : Tm := .cut v2 v3 (.len v2)
abbrev rowT (c : Tm) : Tm := .row (.pair (.app 2 c) (.pair (.app 3 c) (.pair (.app 4 c) (.cb false))))
def s1R (i : Nat) : Option Tm := [none, some (.ci 0), some (.cs [])].getD i none
def s2R (i : Nat) : Option Tm := [none, none, none, some (.ib .add .i64 (.ci 0) (.app 5 cut0)), some (rowT cut0)].getD i none
def s3R (i : Nat) : Option Tm := [none, none, none, none, none, some (.ci 0)].getD i none
abbrev LTree : Type := Tree (AX × Option Eqs)
def rt1 (a b c : Option Eqs) : LTree := .fork (.ib .lss .i64 v1 (.llen v0)) (.fork (.and (.ib .leq .i64 (.ci 0) v1) (.ib .lss .i64 v1 (.llen v0))) (.fork (.and (.and (.ib .leq .u8 (.ci 0) kT) (.ib .leq .u8 kT (.ci 255))) (.ib .leq .i64 lenT1 (.ci 9223372036854775807)))
  (.fork (.ib .gtr .i64 lenT1 (.ci 127)) (.fork (.ib .eql .i64 (.app 1 prT) (.ci 3)) (.leaf (.ret, a)) (.leaf (.ret, b)))
    (.fork (.ib .neq .i64 (.app 1 prT) (.ci 0)) (.leaf (.ret, b)) (.fork (.ib .leq .i64 (.plus (.len v2) (.len (.app 0 prT))) (.ci 9223372036854775807)) (.leaf (.normal, some [(.sS, v2, .sb .add v2 (.app 0 prT)), (.sI, v1, .ib .add .i64 v1 (.ci 1))])) .fail))) .fail) .fail) (.leaf (.exit 0, c))
def rt2 : LTree := .fork (.ib .lss .i64 v3 (.len v2)) (.fork (.and (.ib .leq .i64 (.ci 0) v3) (.ib .leq .i64 v3 (.len v2))) (.fork (.ib .leq .i64 (.len cut3) (.ci 140737488355328))
  (.fork (.ib .neq .i64 (.app 6 cut3) (.ci 0)) (.leaf (.ret, some [(.sI, .llen v4, .llen v4), (.sL, v4, v4)])) (.fork (.ib .lss .i64 (.llen v4) (.ci 4294967295))
    (.leaf (.normal, some [(.sI, v3, .ib .add .i64 v3 (.app 5 cut3)), (.sI, .llen v4, .llen (.lapp v4 (rowT cut3))), (.sL, v4, .lapp v4 (rowT cut3))])) .fail)) .fail) .fail)
  (.leaf (.exit 0, some [(.sI, .llen v4, .llen v4), (.sL, v4, v4)]))
def rt3 : LTree := .fork (.ib .lss .i64 v5 (.llen v0)) (.fork (.and (.ib .leq .i64 (.ci 0) v5) (.ib .lss .i64 v5 (.llen v4))) (.fork (.and (.ib .leq .i64 (.ci 0) v5) (.ib .lss .i64 v5 (.llen v0)))
  (.fork (.ib .neq .u8 (.lget v4 v5 0) (.ib .rem .u8 (.lget v0 v5 0) (.ci 64))) (.leaf (.ret, some [])) (.fork (.not (.beq (.lget v4 v5 1) (.lget v0 v5 1))) (.leaf (.ret, some [])) (.fork (.sb .neq (.lget v4 v5 2) (.lget v0 v5 2)) (.leaf (.ret, some []))
    (.leaf (.normal, some [(.sI, v5, .ib .add .i64 v5 (.ci 1))]))))) .fail) .fail) (.leaf (.exit 2, some []))
set_option maxRecDepth 100000 in
theorem rt1_eq : evCode Try.prog (evFun Try.prog envM 1000) (fun _ => none) 1000000 (lpBody Try.prog 3 0) T1R (outS 1 1 T1R F1R) = rt1 (some [(.sS, v2, v2)]) (some [(.sS, v2, v2)]) (some [(.sS, v2, v2)]) := by kernel_rfl
set_option maxRecDepth 100000 in
theorem rt1B_eq : evCode Try.prog (evFun Try.prog envM 1000) (fun _ => none) 1000000 (lpBody Try.prog 3 0) T1R (outS 1 1 T1R F1B) = rt1 (some []) none none := by kernel_rfl
set_option maxRecDepth 100000 in
theorem rt2_eq : evCode Try.prog (evFun Try.prog envM 1000) (fun _ => none) 1000000 (lpBody Try.prog 9 0) T2R (outS 3 3 T2R F2R) = rt2 := by kernel_rfl
set_option maxRecDepth 100000 in
theorem rt3_eq : evCode Try.prog (evFun Try.prog envM 1000) (fun _ => none) 1000000 (lpBody Try.prog 3 1) T3R (outS 4 5 T3R F3R) = rt3 := by kernel_rfl
section
variable {L : List (List Dat)} {s : List UInt8} {at_ i j : Nat} {l : List (List Dat)}
theorem lgetR [ρ : Rho] (x y : Tm) (c : Nat) : (Tm.lget x y c).den = ((x.den.asL.getD y.den.asI.toNat []).getD c (.dI 0)) := rfl
theorem wadd (n m : Nat) (h : n + m ≤ 1000000) : (iop .add .i64 (n : Int) (m : Int)).asI = ((n + m : Nat) : Int) := by
  show IntKind.i64.wrap ((n : Int) + m) = _
  rw [w64 _ (by omega) (by omega)]; omega
/-- A round of the first loop. -/
theorem round1 (hR : Rows7 L) (hi : i < L.length) (hs : s.length ≤ 1000000) (hn : i ≤ 100000) (hg : (pv (L.getD i [])).length ≤ 127) (a b c : Option Eqs) (at2 : Nat) (l2 : List (List Dat)) (j2 : Nat) :
    ∃ es, @Tree.sel _ (rhoR L i s at_ l j) (rt1 a b c) = some (.normal, some es) ∧ EqsOk (rhoR L (i + 1) (s ++ put1 (L.getD i [])) at2 l2 j2) (rhoR L i s at_ l j) es := by
  obtain ⟨k0, k1⟩ := pk_le hR hi
  have hv := pv_le hR hi
  have hp := tput_len (pk (L.getD i [])) (pc (L.getD i [])) (pv (L.getD i []))
  letI ρ : Rho := rhoR L i s at_ l j
  have d1 : v1.den.asI = (i : Int) := rfl
  have dl : (Tm.llen v0).den.asI = (L.length : Int) := rfl
  have dk : kT.den.asI = pk (L.getD i []) := rfl
  have dv : lenT1.den.asI = ((pv (L.getD i [])).length : Int) := rfl
  have d6 : (Tm.app 1 prT).den.asI = (tput (pk (L.getD i [])) (pc (L.getD i [])) (pv (L.getD i []))).2 := rfl
  have d5 : (Tm.app 0 prT).den.asS = put1 (L.getD i []) := rfl
  have dp : (Tm.plus (.len v2) (.len (.app 0 prT))).den.asI = ((s.length + (put1 (L.getD i [])).length : Nat) : Int) := by
    show (s.length : Int) + ((put1 (L.getD i [])).length : Int) = _
    omega
  unfold put1 at dp
  unfold rt1
  refine ⟨_, sel_T (lss_T (by rw [d1, dl]; omega)) (sel_T (and_T (leq_T (by rw [ci_asI, d1]; omega)) (lss_T (by rw [d1, dl]; omega))) (sel_T (and_T (and_T (leq_T (by rw [ci_asI, dk]; omega)) (leq_T (by rw [ci_asI, dk]; omega))) (leq_T (by rw [ci_asI, dv]; omega)))
    (sel_F (gtr_F (by rw [ci_asI, dv]; omega)) (sel_F (neq_F (by rw [ci_asI, d6]; exact put_good k1 hg)) (sel_T (leq_T (by rw [ci_asI, dp]; omega)) rfl))))), ?_, ?_, trivial⟩
  · show s ++ put1 (L.getD i []) = v2.den.asS ++ (Tm.app 0 prT).den.asS
    rw [d5]; rfl
  · show ((i + 1 : Nat) : Int) = (iop .add .i64 (i : Int) 1).asI
    exact (wadd i 1 (by omega)).symm
theorem last1 (a b : Option Eqs) (es : Eqs) (hi : i = L.length) : @Tree.sel _ (rhoR L i s at_ l j) (rt1 a b (some es)) = some (.exit 0, some es) := by
  letI ρ : Rho := rhoR L i s at_ l j
  have d1 : v1.den.asI = (i : Int) := rfl
  have dl : (Tm.llen v0).den.asI = (L.length : Int) := rfl
  unfold rt1
  exact sel_F (lss_F (by rw [d1, dl]; omega)) rfl
theorem last1B (hR : Rows7 L) (hi : i < L.length) (hb : 127 < (pv (L.getD i [])).length) (es : Eqs) (b c : Option Eqs) : @Tree.sel _ (rhoR L i s at_ l j) (rt1 (some es) b c) = some (.ret, some es) := by
  obtain ⟨k0, k1⟩ := pk_le hR hi
  have hv := pv_le hR hi
  letI ρ : Rho := rhoR L i s at_ l j
  have d1 : v1.den.asI = (i : Int) := rfl
  have dl : (Tm.llen v0).den.asI = (L.length : Int) := rfl
  have dk : kT.den.asI = pk (L.getD i []) := rfl
  have dv : lenT1.den.asI = ((pv (L.getD i [])).length : Int) := rfl
  have d6 : (Tm.app 1 prT).den.asI = (tput (pk (L.getD i [])) (pc (L.getD i [])) (pv (L.getD i []))).2 := rfl
  unfold rt1
  exact sel_T (lss_T (by rw [d1, dl]; omega)) (sel_T (and_T (leq_T (by rw [ci_asI, d1]; omega)) (lss_T (by rw [d1, dl]; omega))) (sel_T (and_T (and_T (leq_T (by rw [ci_asI, dk]; omega)) (leq_T (by rw [ci_asI, dk]; omega))) (leq_T (by rw [ci_asI, dv]; omega)))
    (sel_T (gtr_T (by rw [ci_asI, dv]; omega)) (sel_T (eql_T (by rw [ci_asI, d6]; exact put_bad k1 hb)) rfl))))
/-- What is got behind the first k items. -/
theorem got (hR : Rows7 L) (hg : ∀ i, i < L.length → (pv (L.getD i [])).length ≤ 127) {k : Nat} (hk : k < L.length) : tget ((cat L).drop (cat (L.take k)).length) = ⟨pk (L.getD k []), pc (L.getD k []), pv (L.getD k []), ((put1 (L.getD k [])).length : Nat), 0⟩ := by
  rw [cat_split L k, List.drop_left, cat_drop hk]
  exact tget_tput _ _ _ _ (pk_le hR hk).1 (put_good (pk_le hR hk).2 (hg k hk))
theorem round2 (hR : Rows7 L) (hN : L.length ≤ 20) (hg : ∀ i, i < L.length → (pv (L.getD i [])).length ≤ 127) {k : Nat} (hk : k < L.length) (i2 j2 : Nat) :
    ∃ es, @Tree.sel _ (rhoR L i (cat L) (cat (L.take k)).length ((L.take k).map item) j) rt2 = some (.normal, some es) ∧ EqsOk (rhoR L i2 (cat L) (cat (L.take (k + 1))).length ((L.take (k + 1)).map item) j2) (rhoR L i (cat L) (cat (L.take k)).length ((L.take k).map item) j) es := by
  have hgot := got hR hg hk
  have hsm := cat_small L
  have hp := put_len (pk_le hR hk).2 (hg k hk)
  have hct : (cat (L.take (k + 1))).length = (cat (L.take k)).length + (put1 (L.getD k [])).length := by rw [cat_take hk, List.length_append]
  have hle : (cat (L.take (k + 1))).length ≤ (cat L).length := by
    rw [cat_split L (k + 1), List.length_append]; omega
  letI ρ : Rho := rhoR L i (cat L) (cat (L.take k)).length ((L.take k).map item) j
  have dcut : cut3.den.asS = (cat L).drop (cat (L.take k)).length := cut_end _ _
  have d3 : v3.den.asI = ((cat (L.take k)).length : Int) := rfl
  have d2 : (Tm.len v2).den.asI = ((cat L).length : Int) := rfl
  have d4 : (Tm.llen v4).den.asI = (((L.take k).map item).length : Int) := rfl
  have dc : (Tm.len cut3).den.asI = (((cat L).drop (cat (L.take k)).length).length : Int) := by
    show (cut3.den.asS.length : Int) = _
    rw [dcut]
  have a6 : (Tm.app 6 cut3).den.asI = 0 := by
    show (tget cut3.den.asS).e = _
    rw [dcut, hgot]
  have a5 : (Tm.app 5 cut3).den.asI = ((put1 (L.getD k [])).length : Int) := by
    show (tget cut3.den.asS).n = _
    rw [dcut, hgot]
  have arow : (rowT cut3).den.asL = [item (L.getD k [])] := by
    show [[Dat.dI (tget cut3.den.asS).k, .dB (tget cut3.den.asS).c, .dS (tget cut3.den.asS).v]] = _
    rw [dcut, hgot]; rfl
  have hlist : (Tm.lapp v4 (rowT cut3)).den.asL = (L.take (k + 1)).map item := by
    show ((L.take k).map item) ++ (rowT cut3).den.asL = _
    rw [arow, items_take hk]
  unfold rt2
  refine ⟨_, sel_T (lss_T (by rw [d3, d2]; omega)) (sel_T (and_T (leq_T (by rw [ci_asI, d3]; omega)) (leq_T (by rw [d3, d2]; omega))) (sel_T (leq_T (by rw [ci_asI, dc, List.length_drop]; omega)) (sel_F (neq_F (by rw [ci_asI, a6])) (sel_T (lss_T (by rw [ci_asI, d4, List.length_map, List.length_take]; omega)) rfl)))), ?_, ?_, ?_, trivial⟩
  · show ((cat (L.take (k + 1))).length : Int) = (iop .add .i64 v3.den.asI (Tm.app 5 cut3).den.asI).asI
    rw [d3, a5, wadd _ _ (by omega), hct]
  · show (((L.take (k + 1)).map item).length : Int) = ((Tm.lapp v4 (rowT cut3)).den.asL.length : Int)
    rw [hlist]
  · show (L.take (k + 1)).map item = (Tm.lapp v4 (rowT cut3)).den.asL
    rw [hlist]
theorem last2 (hat : at_ = s.length) : @Tree.sel _ (rhoR L i s at_ l j) rt2 = some (.exit 0, some [(.sI, .llen v4, .llen v4), (.sL, v4, v4)]) := by
  letI ρ : Rho := rhoR L i s at_ l j
  have d3 : v3.den.asI = (at_ : Int) := rfl
  have d2 : (Tm.len v2).den.asI = (s.length : Int) := rfl
  unfold rt2
  exact sel_F (lss_F (by rw [d3, d2]; omega)) rfl
theorem round3 {k : Nat} (hk : k < L.length) (hn : k ≤ 100000) (i2 at2 : Nat) (s2 : List UInt8) : ∃ es, @Tree.sel _ (rhoR L i s at_ (L.map item) k) rt3 = some (.normal, some es) ∧ EqsOk (rhoR L i2 s2 at2 (L.map item) (k + 1)) (rhoR L i s at_ (L.map item) k) es := by
  letI ρ : Rho := rhoR L i s at_ (L.map item) k
  have d5 : v5.den.asI = (k : Int) := rfl
  have d0 : (Tm.llen v0).den.asI = (L.length : Int) := rfl
  have d4 : (Tm.llen v4).den.asI = (L.length : Int) := by
    show ((L.map item).length : Int) = _
    rw [List.length_map]
  have hit : (L.map item).getD k [] = item (L.getD k []) := by
    simp [List.getD_eq_getElem?_getD, hk]
  have e : ∀ c, (Tm.lget v4 v5 c).den = (item (L.getD k [])).getD c (.dI 0) := fun c => by
    show ((L.map item).getD k []).getD c (.dI 0) = _
    rw [hit]
  unfold rt3
  refine ⟨_, sel_T (lss_T (by rw [d5, d0]; omega)) (sel_T (and_T (leq_T (by rw [ci_asI, d5]; omega)) (lss_T (by rw [d5, d4]; omega))) (sel_T (and_T (leq_T (by rw [ci_asI, d5]; omega)) (lss_T (by rw [d5, d0]; omega)))
    (sel_F (neq_F ?_) (sel_F ?_ (sel_F ?_ rfl))))), ?_, trivial⟩
  · rw [e 0]; rfl
  · show (!((Tm.lget v4 v5 1).den.asB == (Tm.lget v0 v5 1).den.asB)) = false
    rw [e 1]
    show (!(pc (L.getD k []) == pc (L.getD k []))) = false
    simp
  · show ((Tm.lget v4 v5 2).den.asS != (Tm.lget v0 v5 2).den.asS) = false
    rw [e 2]
    show (pv (L.getD k []) != pv (L.getD k [])) = false
    simp
  · show ((k + 1 : Nat) : Int) = (iop .add .i64 (k : Int) 1).asI
    exact (wadd k 1 (by omega)).symm
theorem last3 (hj : j = L.length) : @Tree.sel _ (rhoR L i s at_ l j) rt3 = some (.exit 2, some []) := by
  letI ρ : Rho := rhoR L i s at_ l j
  have d5 : v5.den.asI = (j : Int) := rfl
  have d0 : (Tm.llen v0).den.asI = (L.length : Int) := rfl
  unfold rt3
  exact sel_F (lss_F (by rw [d5, d0]; omega)) rfl
end
end Go.Proofs.Ytamibbjpapkfeaa.Ab
