/-
  MsgsBack, called: its first loop by rounds with letters.
  Conditions: arguments as the model reads them.
-/
import Derived.Test.YtamibbjpapkfeaaMsgPt
import Derived.Test.YtamibbjpapkfeaaMsgPr
import Derived.Test.YtamibbjpapkfeaaMsgO
namespace Go.Proofs.Ytamibbjpapkfeaa.Ab
set_option linter.unusedSimpArgs false
set_option linter.unusedVariables false
open Go
/-! ### contracts -/
theorem putA_ok [ρ : Rho] (hf : ρ.fn = allFn) {f : FuncId} (h : ∀ (k : Int) (c : Bool) (v : List UInt8), 0 ≤ k → k ≤ 255 → v.length ≤ 1000 → ∀ w, Calls Try.prog f #[.int .u8 k, .bool c, .string ⟨v.toArray⟩] w fun e w' => e = .returned (putV k c v) ∧ RowKit.Below w.heap.size w w')
    {args : List AV} {H H' : Heap} {o : Tm} {v : AV} (hg : putC args H = some (o, v, H')) (ho : o.den.asB = true) : CallS Try.prog f args H v H' ∧ LG H H' := by
  unfold putC at hg
  split at hg
  · split at hg
    · rename_i k c u hk hc hu
      cases hg
      rw [andT_den] at ho
      simp only [Bool.and_eq_true] at ho
      obtain ⟨b1, b2⟩ := octT_den ho.1
      have hl := leqL ho.2
      refine ⟨callS_new fun μ cargs w hv => ?_, LG.refl _⟩
      obtain ⟨_, _, h1, ⟨_, _, h2, ⟨_, _, h3, rfl, rfl⟩, rfl⟩, rfl⟩ := hv
      obtain rfl := h1.tmI hk
      obtain rfl := h2.tmB hc
      obtain rfl := h3.tmS hu
      refine (h k.den.asI c.den.asB u.den.asS b1 b2 (by omega) w).mono fun e w' he => ⟨_, he.1, ?_, he.2⟩
      refine ⟨[_, _], ⟨_, _, ?_, ⟨_, _, ?_, rfl, rfl⟩, rfl⟩, rfl⟩
      · show _ = _
        rw [den_app, hf]; rfl
      · show _ = _
        rw [den_app, hf]; rfl
    · cases hg
  · cases hg
def tabB : List (Nat × (List AV → Heap → Option (Tm × AV × Heap))) := [(29, partsC), (8, putC), (11, strC o47 mqA), (10, trueC)]
def envB0 : Env := ⟨tabGet tabB, fun _ _ => none⟩
theorem envB0_ok {ρ : Rho} (hf : ρ.fn = allFn) : EnvOK Try.prog envB0 := by
  refine tab_ok _ fun p hp args H o v H' _ hg ho => ?_
  have l47 : ∀ t, (o47 t).den.asB = true → t.den.asS.length ≤ 140737488355328 := fun t h => by have := o_len h; omega
  simp only [tabB, List.mem_cons, List.not_mem_nil, or_false] at hp
  rcases hp with rfl | rfl | rfl | rfl
  · exact partsC_ok hf hg ho
  · exact putA_ok hf (fun k c v k0 k1 hl w => tlv_Put k c v k0 k1 (by omega) w) hg ho
  · exact strC_ok mgotV msgs_Get l47 (mq_VR hf) hg ho
  · exact true_ok msgs_works hg
/-! ### the first loop -/
abbrev v7 : Tm := .var 7
abbrev rhoB (L : List (List Dat)) (s a : List UInt8) (m : List (List Dat)) (i p : Nat) (g : List (List Dat)) (j : Nat) : Rho := ⟨fun n => [Dat.dL L, .dS s, .dS a, .dL m, .dI (i : Int), .dI (p : Int), .dL g, .dI (j : Int)].getD n (.dI 0), allFn⟩
def H0B : Heap := ⟨1, [(0, .seq shM v0 false)], [], []⟩
def H1B : Heap := ⟨2, [(1, .seq shM v3 true), (0, .seq shM v0 false)], [], []⟩
def argB : AV := lstM 0 v0
def KA : St := ⟨161, [(0, argB), (1, .sstr v1), (5, .sstr v2), (6, .nilSlice), (7, .sint .i64 v4)], H0B, []⟩
def KB : St := ⟨161, [(0, argB), (1, .sstr v1), (5, .sstr v2), (6, lstM 1 v3), (7, .sint .i64 v4)], H1B, []⟩
def EA : St := ⟨161, [(0, argB), (1, .sstr v1), (5, .sstr v2), (6, .nilSlice)], H0B, []⟩
def EB : St := ⟨161, [(0, argB), (1, .sstr v1), (5, .sstr v2), (6, lstM 1 v3)], H1B, []⟩
def ER : St := ⟨161, [(4, .bool true)], H0B, []⟩
def KK (b : Bool) : St := bif b then KB else KA
theorem KK_f : KK false = KA := rfl
theorem KK_t : KK true = KB := rfl
noncomputable abbrev rtB (T T' F : St) : LTree := evCode Try.prog (evFun Try.prog envB0 1000) (fun _ => none) 1000000 (lpBody Try.prog 5 0) T (outS 1 2 T' F)
abbrev cL (c : Nat) : Tm := .lget v0 v4 c
def rowB : Tm := .pair (cL 0) (.pair (cL 1) (.pair (cL 2) (.pair (cL 3) (.pair (cL 4) (.pair (cL 5) (.pair (cL 6) (.pair (cL 7) (.pair (cL 8) (.pair (cL 9) (.pair (cL 10) (.pair (cL 11) (.pair (cL 12) (.pair (cL 13) (.pair (cL 14) (.pair (cL 15) (.pair (cL 16) (.pair (cL 17) (.pair (cL 18) (.pair (cL 19) (.cb false))))))))))))))))))))
abbrev octC (c : Nat) : Tm := .and (.ib .leq .u8 (.ci 0) (cL c)) (.ib .leq .u8 (cL c) (.ci 255))
def debB : Tm := .and (octC 0) (.and (octC 2) (.and (octC 3) (.and (octC 4) (.and (octC 5) (.and (octC 10) (.and (octC 17) (octC 18)))))))
abbrev tyB : Tm := .app 90 rowB
abbrev vaB : Tm := .app 91 rowB
abbrev okB : Tm := .app 92 rowB
abbrev puB : Tm := .app 20 (.pair tyB (.pair (cL 1) vaB))
abbrev erB : Tm := .app 21 (.pair tyB (.pair (cL 1) vaB))
def rt1 (tl sk bd out : AX × Option Eqs) (ac : LTree) : LTree := .fork (.ib .lss .i64 v4 (.llen v0)) (.fork (.and (.ib .leq .i64 (.ci 0) v4) (.ib .lss .i64 v4 (.llen v0))) (.fork (.ib .gtr .i64 (.len (cL 19)) (.ci 127)) (.leaf tl) (.fork debB (.fork (.not okB) (.leaf sk) (.fork (.and (.and (.ib .leq .u8 (.ci 0) tyB) (.ib .leq .u8 tyB (.ci 255))) (.ib .leq .i64 (.len vaB) (.ci 1000)))
  (.fork (.not (.beq (.ib .eql .i64 erB (.ci 0)) okB)) (.leaf bd) (.fork (.ib .eql .i64 erB (.ci 0)) (.fork (.ib .lss .i64 (.len puB) (.ci 2)) (.leaf bd) (.fork (.ib .lss .i64 (.ci 0) (.len puB))
    (.fork (cL 1) (.fork (.ib .neq .u8 (.at puB (.ci 0)) (.ib .or .u8 (.ib .shl .u8 tyB (.ci 2)) (.ci 3))) (.leaf bd) (.fork (.ib .leq .i64 (.plus (.len v2) (.len puB)) (.ci 9223372036854775807)) ac .fail))
      (.fork (.ib .neq .u8 (.at puB (.ci 0)) (.ib .or .u8 (.ib .shl .u8 tyB (.ci 2)) (.ci 1))) (.leaf bd) (.fork (.ib .leq .i64 (.plus (.len v2) (.len puB)) (.ci 9223372036854775807)) ac .fail))) .fail)) (.leaf sk))) .fail)) .fail)) .fail) (.leaf out)
abbrev inc4 : Tm := .ib .add .i64 v4 (.ci 1)
abbrev eAA : Option Eqs := some [(.sS, v2, v2), (.sI, v4, inc4)]
abbrev eAB : Option Eqs := some [(.sS, v2, .sb .add v2 puB), (.sI, .llen v3, .ci 1), (.sI, v4, inc4), (.sL, v3, .row rowB)]
abbrev eBB : Option Eqs := some [(.sS, v2, v2), (.sI, .llen v3, .llen v3), (.sI, v4, inc4), (.sL, v3, v3)]
abbrev eBC : Option Eqs := some [(.sS, v2, .sb .add v2 puB), (.sI, .llen v3, .llen (.lapp v3 (.row rowB))), (.sI, v4, inc4), (.sL, v3, .lapp v3 (.row rowB))]
abbrev xA : Option Eqs := some [(.sS, v2, v2)]
abbrev xB : Option Eqs := some [(.sS, v2, v2), (.sI, .llen v3, .llen v3), (.sL, v3, v3)]
abbrev acA (e : Option Eqs) : LTree := .leaf (.normal, e)
abbrev acB : LTree := .fork (.ib .lss .i64 (.llen v3) (.ci 4294967295)) (.leaf (.normal, eBC)) .fail
set_option maxRecDepth 100000 in
theorem rA_AA : rtB KA KA EA = rt1 (.ret, xA) (.normal, eAA) (.ret, xA) (.exit 0, xA) (acA none) := by kernel_rfl
set_option maxRecDepth 100000 in
theorem rA_AB : rtB KA KB EA = rt1 (.ret, xA) (.normal, none) (.ret, xA) (.exit 0, xA) (acA eAB) := by kernel_rfl
set_option maxRecDepth 100000 in
theorem rA_BB : rtB KB KB EA = rt1 (.ret, none) (.normal, eBB) (.ret, none) (.exit 0, none) (acB) := by kernel_rfl
set_option maxRecDepth 100000 in
theorem rB_AA : rtB KA KA EB = rt1 (.ret, none) (.normal, eAA) (.ret, none) (.exit 0, none) (acA none) := by kernel_rfl
set_option maxRecDepth 100000 in
theorem rB_AB : rtB KA KB EB = rt1 (.ret, none) (.normal, none) (.ret, none) (.exit 0, none) (acA eAB) := by kernel_rfl
set_option maxRecDepth 100000 in
theorem rB_BB : rtB KB KB EB = rt1 (.ret, xB) (.normal, eBB) (.ret, xB) (.exit 0, xB) (acB) := by kernel_rfl
set_option maxRecDepth 100000 in
theorem rR_AA : rtB KA KA ER = rt1 (.ret, some []) (.normal, eAA) (.ret, none) (.exit 0, none) (acA none) := by kernel_rfl
set_option maxRecDepth 100000 in
theorem rR_AB : rtB KA KB ER = rt1 (.ret, some []) (.normal, none) (.ret, none) (.exit 0, none) (acA eAB) := by kernel_rfl
set_option maxRecDepth 100000 in
theorem rR_BB : rtB KB KB ER = rt1 (.ret, some []) (.normal, eBB) (.ret, none) (.exit 0, none) (acB) := by kernel_rfl
theorem bits4 (ty : Int) (h0 : 0 ≤ ty) (h1 : ty ≤ 63) : (iop .or .u8 (iop .shl .u8 ty 2).asI 3).asI = 4 * ty + 3 ∧ (iop .or .u8 (iop .shl .u8 ty 2).asI 1).asI = 4 * ty + 1 := by
  have h : ∀ n : Fin 64, (iop .or .u8 (iop .shl .u8 (n.val : Int) 2).asI 3).asI = 4 * (n.val : Int) + 3 ∧ (iop .or .u8 (iop .shl .u8 (n.val : Int) 2).asI 1).asI = 4 * (n.val : Int) + 1 := by decide +kernel
  have := h ⟨ty.toNat, by omega⟩
  rw [show ((⟨ty.toNat, by omega⟩ : Fin 64).val : Int) = ty by simp; omega] at this
  exact this
theorem not_T [Rho] {x : Tm} (h : x.den.asB = false) : (Tm.not x).den.asB = true := by
  show (!x.den.asB) = true
  rw [h]; rfl
section
variable {L : List (List Dat)} {s a : List UInt8} {m : List (List Dat)} {k p : Nat} {g : List (List Dat)} {j : Nat} {tl sk bd out : AX × Option Eqs} {ac : LTree}
theorem rowB_par : parR (cellsD (@Tm.den (rhoB L s a m k p g j) rowB)) = parR (L.getD k []) := rfl
theorem rowB_cells (h : RowM (L.getD k [])) : cellsD (@Tm.den (rhoB L s a m k p g j) rowB) = L.getD k [] := by
  obtain ⟨q, c, x, y, t, b, e, _⟩ := h
  show [(L.getD k []).getD 0 (.dI 0), (L.getD k []).getD 1 (.dI 0), (L.getD k []).getD 2 (.dI 0), (L.getD k []).getD 3 (.dI 0), (L.getD k []).getD 4 (.dI 0), (L.getD k []).getD 5 (.dI 0), (L.getD k []).getD 6 (.dI 0), (L.getD k []).getD 7 (.dI 0), (L.getD k []).getD 8 (.dI 0), (L.getD k []).getD 9 (.dI 0), (L.getD k []).getD 10 (.dI 0), (L.getD k []).getD 11 (.dI 0), (L.getD k []).getD 12 (.dI 0), (L.getD k []).getD 13 (.dI 0), (L.getD k []).getD 14 (.dI 0), (L.getD k []).getD 15 (.dI 0), (L.getD k []).getD 16 (.dI 0), (L.getD k []).getD 17 (.dI 0), (L.getD k []).getD 18 (.dI 0), (L.getD k []).getD 19 (.dI 0)] = L.getD k []
  rw [e]; rfl
theorem oct_row (h : RowM (L.getD k [])) : (@Tm.den (rhoB L s a m k p g j) debB).asB = true := by
  letI ρ : Rho := rhoB L s a m k p g j
  obtain ⟨q, c, x, y, t, b, e, ⟨⟨⟨a0, a1⟩, ⟨a2, a3⟩, ⟨a4, a5⟩, a6, a7⟩, d0, d1, b0, b1, t0, t1⟩, q0, q1⟩ := h
  have o2 : ∀ (n : Nat) (z : Int), ((mrow q c x y t b).getD n (.dI 0)).asI = z → 0 ≤ z → z ≤ 255 → (octC n).den.asB = true := fun n z hz h0 h1 => by
    have e2 : (cL n).den.asI = z := by
      show ((L.getD k []).getD n (.dI 0)).asI = z
      rw [e]; exact hz
    exact and_T (leq_T (by rw [ci_asI, e2]; exact h0)) (leq_T (by rw [ci_asI, e2]; exact h1))
  unfold debB
  exact and_T (o2 0 q rfl q0 q1) (and_T (o2 2 _ rfl a0 a1) (and_T (o2 3 _ rfl a2 a3) (and_T (o2 4 _ rfl a4 a5) (and_T (o2 5 _ rfl a6 a7) (and_T (o2 10 _ rfl d0 d1) (and_T (o2 17 _ rfl b0 b1) (o2 18 _ rfl t0 t1)))))))
theorem rt1_no (hk : k < L.length) (hr : RowM (L.getD k [])) (hb : (rB (L.getD k [])).length ≤ 127) (ho : okR (L.getD k []) = false) : @Tree.sel _ (rhoB L s a m k p g j) (rt1 tl sk bd out ac) = some sk := by
  letI ρ : Rho := rhoB L s a m k p g j
  have d4 : v4.den.asI = (k : Int) := rfl
  have d0 : (Tm.llen v0).den.asI = (L.length : Int) := rfl
  have d19 : (Tm.len (cL 19)).den.asI = ((rB (L.getD k [])).length : Int) := rfl
  have dO : okB.den.asB = false := by
    show (parR (cellsD rowB.den)).2.2 = false
    rw [rowB_par]; exact ho
  unfold rt1
  exact sel_T (lss_T (by rw [d4, d0]; omega)) (sel_T (and_T (leq_T (by rw [ci_asI, d4]; omega)) (lss_T (by rw [d4, d0]; omega))) (sel_F (gtr_F (by rw [d19, ci_asI]; omega)) (sel_T (oct_row hr) (sel_T (not_T dO) rfl))))
theorem rt1_yes (hk : k < L.length) (hr : RowM (L.getD k [])) (hb : (rB (L.getD k [])).length ≤ 127) (ho : okR (L.getD k []) = true) (ha : a.length ≤ 100000) {u : AX × Option Eqs} (hu : @Tree.sel _ (rhoB L s a m k p g j) ac = some u) : @Tree.sel _ (rhoB L s a m k p g j) (rt1 tl sk bd out ac) = some u := by
  letI ρ : Rho := rhoB L s a m k p g j
  obtain ⟨⟨t0, t1⟩, hv, h2, ⟨n0, n1⟩, h8, _⟩ := row_par hr hb ho
  have d4 : v4.den.asI = (k : Int) := rfl
  have d0 : (Tm.llen v0).den.asI = (L.length : Int) := rfl
  have d19 : (Tm.len (cL 19)).den.asI = ((rB (L.getD k [])).length : Int) := rfl
  have dO : okB.den.asB = true := by
    show (parR (cellsD rowB.den)).2.2 = true
    rw [rowB_par]; exact ho
  have dT : tyB.den.asI = (parR (L.getD k [])).1 := rfl
  have dV : (Tm.len vaB).den.asI = ((parR (L.getD k [])).2.1.length : Int) := rfl
  have dE : erB.den.asI = 0 := h2
  have dP : (Tm.len puB).den.asI = ((putR (L.getD k [])).length : Int) := rfl
  have d2 : (Tm.len v2).den.asI = (a.length : Int) := rfl
  have dA : (Tm.at puB (.ci 0)).den.asI = 4 * (parR (L.getD k [])).1 + (if rC (L.getD k []) then 3 else 1) := h8
  have dC : (cL 1).den.asB = rC (L.getD k []) := rfl
  have dB : (Tm.beq (.ib .eql .i64 erB (.ci 0)) okB).den.asB = true := beq_T (by rw [dO]; exact eql_T (by rw [dE, ci_asI]))
  obtain ⟨q3, q1⟩ := bits4 _ t0 t1
  have e3 : (Tm.ib .or .u8 (.ib .shl .u8 tyB (.ci 2)) (.ci 3)).den.asI = 4 * (parR (L.getD k [])).1 + 3 := q3
  have e1 : (Tm.ib .or .u8 (.ib .shl .u8 tyB (.ci 2)) (.ci 1)).den.asI = 4 * (parR (L.getD k [])).1 + 1 := q1
  have hpl : (Tm.ib .leq .i64 (.plus (.len v2) (.len puB)) (.ci 9223372036854775807)).den.asB = true := leq_T (by
    rw [ci_asI]
    show (Tm.len v2).den.asI + (Tm.len puB).den.asI ≤ 9223372036854775807
    rw [d2, dP]; omega)
  unfold rt1
  refine sel_T (lss_T (by rw [d4, d0]; omega)) (sel_T (and_T (leq_T (by rw [ci_asI, d4]; omega)) (lss_T (by rw [d4, d0]; omega))) (sel_F (gtr_F (by rw [d19, ci_asI]; omega)) (sel_T (oct_row hr) (sel_F (not_F dO) (sel_T (and_T (and_T (leq_T (by rw [ci_asI, dT]; exact t0)) (leq_T (by rw [ci_asI, dT]; omega))) (leq_T (by rw [ci_asI, dV]; omega)))
    (sel_F (not_F dB) (sel_T (eql_T (by rw [dE, ci_asI])) (sel_F (lss_F (by rw [dP, ci_asI]; omega)) (sel_T (lss_T (by rw [dP, ci_asI]; omega)) ?_)))))))))
  cases hc : rC (L.getD k []) with
  | true =>
    rw [hc] at dA
    exact sel_T (by rw [dC, hc]) (sel_F (neq_F (by rw [dA, e3]; rfl)) (sel_T hpl hu))
  | false =>
    rw [hc] at dA
    exact sel_F (by rw [dC, hc]) (sel_F (neq_F (by rw [dA, e1]; rfl)) (sel_T hpl hu))
theorem rt1_long (hk : k < L.length) (hb : 127 < (rB (L.getD k [])).length) : @Tree.sel _ (rhoB L s a m k p g j) (rt1 tl sk bd out ac) = some tl := by
  letI ρ : Rho := rhoB L s a m k p g j
  have d4 : v4.den.asI = (k : Int) := rfl
  have d0 : (Tm.llen v0).den.asI = (L.length : Int) := rfl
  have d19 : (Tm.len (cL 19)).den.asI = ((rB (L.getD k [])).length : Int) := rfl
  unfold rt1
  exact sel_T (lss_T (by rw [d4, d0]; omega)) (sel_T (and_T (leq_T (by rw [ci_asI, d4]; omega)) (lss_T (by rw [d4, d0]; omega))) (sel_T (gtr_T (by rw [d19, ci_asI]; omega)) rfl))
theorem rt1_out (hk : ¬ k < L.length) : @Tree.sel _ (rhoB L s a m k p g j) (rt1 tl sk bd out ac) = some out := by
  letI ρ : Rho := rhoB L s a m k p g j
  have d4 : v4.den.asI = (k : Int) := rfl
  have d0 : (Tm.llen v0).den.asI = (L.length : Int) := rfl
  unfold rt1
  exact sel_F (lss_F (by rw [d4, d0]; omega)) rfl
end
/-- Was one accepted already? -/
def bk (L : List (List Dat)) (k : Nat) : Bool := !(acc L k).isEmpty
theorem bk_no {L : List (List Dat)} {k : Nat} (h : bk L k = false) : acc L k = [] := by
  unfold bk at h
  simpa using h
theorem bk_yes {L : List (List Dat)} {k : Nat} (h : bk L k = true) : acc L k ≠ [] := by
  unfold bk at h
  simpa using h
/-- The list's letter (where there is none yet: the last one). -/
def lst (L : List (List Dat)) (N k : Nat) : List (List Dat) := bif bk L k then acc L k else acc L N
def sg1 (i : Nat) : Option Tm := [none, none, some (.cs []), none, some (.ci 0)].getD i none
noncomputable def g1 (F : St) (x : AX) : LpG := loopG 1 2 KA F sg1 x
section
variable {L : List (List Dat)} {s : List UInt8} {N p : Nat} {g : List (List Dat)} {j : Nat}
abbrev rho1B (L : List (List Dat)) (s : List UInt8) (N p : Nat) (g : List (List Dat)) (j k : Nat) : Rho := rhoB L s (catM (acc L k)) (lst L N k) k p g j
theorem lst_end : lst L N N = acc L N := by
  unfold lst; cases bk L N <;> rfl
theorem g1_gen {F : St} {x : AX} {a1 b1 c1 a2 b2 c2 a3 b3 c3 : AX × Option Eqs} (hx : x ≠ .normal)
    (hAA : rtB KA KA F = rt1 a1 (.normal, eAA) b1 c1 (acA none)) (hAB : rtB KA KB F = rt1 a2 (.normal, none) b2 c2 (acA eAB)) (hBB : rtB KB KB F = rt1 a3 (.normal, eBB) b3 c3 acB)
    (hL : RowsOk L) (hn : L.length ≤ 20) (hN : N ≤ L.length) (hb : ∀ i, i < N → (rB (L.getD i [])).length ≤ 127)
    (hl : ∃ es, @Tree.sel _ (rho1B L s N p g j N) (rtB (KK (bk L N)) (KK (bk L N)) F) = some (x, some es) ∧ EqsOk (rho1B L s N p g j N) (rho1B L s N p g j N) es) :
    GOk (rho1B L s N p g j N) 5 0 (g1 F x) := by
  have hcl : ∀ k, k ≤ N → (catM (acc L k)).length ≤ 100000 := fun k hk => by
    have h1 := catM_len (acc_ok hL (show k ≤ L.length by omega) fun i hi => hb i (by omega))
    have h2 := acc_len L k
    omega
  refine loopV_ok noCount (rho1B L s N p g j N) (fun k => rho1B L s N p g j k) N (fuel := 1000000) (cf := evFun Try.prog envB0 1000) (lf := fun _ => none) (fun k => KK (bk L (min k N))) hx (fun k => ?_)
    (fun k _ => by letI : Rho := rho1B L s N p g j k; exact evFun_ok noCount (envB0_ok rfl) 1000) (fun k _ => by letI : Rho := rho1B L s N p g j k; exact lf0_ok) (fun k _ => ⟨fun n hn => ?_, rfl⟩) (fun k hk => ?_) ?_ (fun n => ?_)
  · cases bk L (min k N) <;> rfl
  · match n, hn with
    | 0, _ => rfl
    | 1, _ => rfl
  · show ∃ es, @Tree.sel _ (rho1B L s N p g j k) (rtB (KK (bk L (min k N))) (KK (bk L (min (k + 1) N))) F) = some (.normal, some es) ∧ EqsOk (rho1B L s N p g j (k + 1)) (rho1B L s N p g j k) es
    rw [Nat.min_eq_left (by omega : k ≤ N), Nat.min_eq_left (by omega : k + 1 ≤ N)]
    have hkL : k < L.length := by omega
    have hs := acc_succ hkL
    have i4 : (((k + 1 : Nat) : Int)) = (iop .add .i64 (k : Int) 1).asI := (wadd k 1 (by omega)).symm
    cases ho : okR (L.getD k []) with
    | false =>
      rw [if_neg (by rw [ho]; decide)] at hs
      have hbk : bk L (k + 1) = bk L k := by unfold bk; rw [hs]
      have hlk : lst L N (k + 1) = lst L N k := by unfold lst; rw [hbk, hs]
      rw [hbk]
      cases hq : bk L k with
      | false =>
        rw [KK_f, hAA]
        refine ⟨_, rt1_no hkL (hL k hkL) (hb k hk) ho, ?_, i4, trivial⟩
        show catM (acc L (k + 1)) = catM (acc L k)
        rw [hs]
      | true =>
        rw [KK_t, hBB]
        refine ⟨_, rt1_no hkL (hL k hkL) (hb k hk) ho, ?_, ?_, i4, ?_, trivial⟩
        · show catM (acc L (k + 1)) = catM (acc L k)
          rw [hs]
        · show ((lst L N (k + 1)).length : Int) = ((lst L N k).length : Int)
          rw [hlk]
        · show lst L N (k + 1) = lst L N k
          exact hlk
    | true =>
      rw [if_pos ho] at hs
      have hbk : bk L (k + 1) = true := by unfold bk; rw [hs]; simp
      have hl1 : lst L N (k + 1) = acc L k ++ [L.getD k []] := by unfold lst; rw [hbk, hs]; rfl
      have hp : catM (acc L (k + 1)) = catM (acc L k) ++ putR (L.getD k []) := by rw [hs, catM_app, catM_one]
      have hrow : (@Tm.den (rho1B L s N p g j k) (.row rowB)).asL = [L.getD k []] := by
        show [cellsD (@Tm.den (rho1B L s N p g j k) rowB)] = _
        rw [rowB_cells (hL k hkL)]
      rw [hbk]
      cases hq : bk L k with
      | false =>
        rw [KK_f, KK_t, hAB]
        refine ⟨_, rt1_yes hkL (hL k hkL) (hb k hk) ho (hcl k (by omega)) rfl, ?_, ?_, i4, ?_, trivial⟩
        · show catM (acc L (k + 1)) = catM (acc L k) ++ putR (L.getD k [])
          exact hp
        · show ((lst L N (k + 1)).length : Int) = 1
          rw [hl1, bk_no hq]; rfl
        · show lst L N (k + 1) = (@Tm.den (rho1B L s N p g j k) (.row rowB)).asL
          rw [hrow, hl1, bk_no hq]; rfl
      | true =>
        rw [KK_t, hBB]
        have hlk : lst L N k = acc L k := by unfold lst; rw [hq]; rfl
        have hap : (@Tm.den (rho1B L s N p g j k) (.lapp v3 (.row rowB))).asL = lst L N (k + 1) := by
          show lst L N k ++ (@Tm.den (rho1B L s N p g j k) (.row rowB)).asL = _
          rw [hrow, hl1, hlk]
        have hll : (lst L N k).length ≤ 20 := by rw [hlk]; have := acc_len L k; omega
        have hu : @Tree.sel _ (rho1B L s N p g j k) acB = some (.normal, eBC) := by
          letI ρ : Rho := rho1B L s N p g j k
          have d3 : (Tm.llen v3).den.asI = ((lst L N k).length : Int) := rfl
          exact sel_T (lss_T (by rw [d3, ci_asI]; omega)) rfl
        refine ⟨_, rt1_yes hkL (hL k hkL) (hb k hk) ho (hcl k (by omega)) hu, ?_, ?_, i4, ?_, trivial⟩
        · show catM (acc L (k + 1)) = catM (acc L k) ++ putR (L.getD k [])
          exact hp
        · show ((lst L N (k + 1)).length : Int) = ((@Tm.den (rho1B L s N p g j k) (.lapp v3 (.row rowB))).asL.length : Int)
          rw [hap]
        · show lst L N (k + 1) = (@Tm.den (rho1B L s N p g j k) (.lapp v3 (.row rowB))).asL
          rw [hap]
  · show ∃ es, @Tree.sel _ (rho1B L s N p g j N) (rtB (KK (bk L (min N N))) (KK (bk L (min (N + 1) N))) F) = some (x, some es) ∧ EqsOk (rho1B L s N p g j N) (rho1B L s N p g j N) es
    rw [Nat.min_self, Nat.min_eq_right (by omega : N ≤ N + 1)]
    exact hl
  · match n with
    | 0 => rfl
    | 1 => rfl
    | 2 => rfl
    | 3 =>
      show Dat.dL (lst L N 0) = Dat.dL (lst L N N)
      rw [lst_end]; rfl
    | 4 => rfl
    | 5 => rfl
    | 6 => rfl
    | 7 => rfl
    | n + 8 => rfl
end
end Go.Proofs.Ytamibbjpapkfeaa.Ab
