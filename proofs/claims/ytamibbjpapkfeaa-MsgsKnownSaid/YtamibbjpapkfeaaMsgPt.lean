/-
  A message's parts: what the function answers, and its contract over rows.
  Conditions: numbers lie within their types' bounds.
-/
import Derived.Test.YtamibbjpapkfeaaMsgG
import Derived.Test.YtamibbjpapkfeaaMsgQ
namespace Go.Proofs.Ytamibbjpapkfeaa.Ab
set_option linter.unusedSimpArgs false
set_option linter.unusedVariables false
open Go
noncomputable section
def treeP (k : AV) : Tree AV := evFun Try.prog envG 1000 29 [msgA k] heap0 fun v _ => .leaf v
end
abbrev partsV (k : Int) (p : Prm) (s : Stat) (ty : Int) (b : List UInt8) : Value := .tuple #[.int .u8 (pT k p s ty b), .string ⟨(pV k p s ty b).toArray⟩, .bool (pO k p s ty b)]
abbrev octV (n : Nat) : Tm := .and (.ib .leq .u8 (.ci 0) (.var n)) (.ib .leq .u8 (.var n) (.ci 255))
def ansI (t : Int) (v o : AV) : Tree AV := .leaf (.tuple [.int .u8 t, v, o])
def ansS (o : AV) : Tree AV := .leaf (.tuple [.sint .u8 (.var 18), .sstr (.var 19), o])
def pt1 : Tree AV := .fork (.and (.and (octV 2) (octV 3)) (.and (octV 4) (octV 5))) (.fork (.ib .eql .i64 (.app 11 pnP) (.ci 0)) (ansI 32 (.sstr (.app 10 pnP)) (.sbool eqt1)) (ansI 32 (.sstr (.app 10 pnP)) (.bool false))) .fail
def pt2 : Tree AV := .fork (.and (octV 10) (octV 17)) (.fork (.ib .eql .i64 (.app 1 msP) (.ci 0)) (ansI 56 (.sstr (.app 0 msP)) (.sbool eqt2)) (ansI 56 (.sstr (.app 0 msP)) (.bool false))) .fail
def pt3 (t : Int) : Tree AV := ansI t (.str []) (.sbool eqt3)
def pt5 : Tree AV := ansI 8 (.sstr (.var 19)) (.sbool eqt5)
def pt7 : Tree AV := ansI 4 (.sstr (.sb .add (.oct (.var 18)) (.cs []))) (.sbool eqt7)
def pt8 : Tree AV := .fork eqt8 (.fork (.ib .lss .u8 (.var 18) (.ci 64)) (.fork (.and (.ib .leq .u8 (.ci 0) (.var 18)) (.ib .leq .u8 (.var 18) (.ci 63))) (ansS (.sbool (.ib .eql .u8 (.app 30 (.var 18)) (.ci 8)))) .fail) (ansS (.bool false))) (ansS (.bool false))
set_option maxRecDepth 100000 in
theorem ptE1 : treeP (.int .u8 1) = pt1 := by kernel_rfl
set_option maxRecDepth 100000 in
theorem ptE2 : treeP (.int .u8 2) = pt2 := by kernel_rfl
set_option maxRecDepth 100000 in
theorem ptE3 : treeP (.int .u8 3) = pt3 40 := by kernel_rfl
set_option maxRecDepth 100000 in
theorem ptE4 : treeP (.int .u8 4) = pt3 24 := by kernel_rfl
set_option maxRecDepth 100000 in
theorem ptE5 : treeP (.int .u8 5) = pt5 := by kernel_rfl
set_option maxRecDepth 100000 in
theorem ptE6 : treeP (.int .u8 6) = pt3 48 := by kernel_rfl
set_option maxRecDepth 100000 in
theorem ptE7 : treeP (.int .u8 7) = pt7 := by kernel_rfl
set_option maxRecDepth 100000 in
theorem ptE8 : treeP (.int .u8 8) = pt8 := by kernel_rfl
def pathP : List (Tm × Bool) := [(Tm.ib .eql .u8 (Tm.var 0) (Tm.ci 1), false), (Tm.ib .eql .u8 (Tm.var 0) (Tm.ci 2), false), (Tm.ib .eql .u8 (Tm.var 0) (Tm.ci 5), false), (Tm.ib .eql .u8 (Tm.var 0) (Tm.ci 7), false), (Tm.ib .eql .u8 (Tm.var 0) (Tm.ci 8), false), (Tm.ib .eql .u8 (Tm.var 0) (Tm.ci 3), false), (Tm.ib .eql .u8 (Tm.var 0) (Tm.ci 4), false), (Tm.ib .eql .u8 (Tm.var 0) (Tm.ci 6), false)]
set_option maxRecDepth 100000 in
theorem path_p : pathT [false, false, false, false, false, false, false, false] (treeP (.sint .u8 (.var 0))) = some (pathP, .tuple [.int .u8 0, .str [], .bool false]) := by kernel_rfl
section
variable (k : Int) (c : Bool) (p : Prm) (s : Stat) (ty : Int) (b : List UInt8)
theorem eq1_den : (@Tm.den (rhoQ k c p s ty b) eqt1).asB = (zSt s && zTB ty b) := rfl
theorem eq2_den : (@Tm.den (rhoQ k c p s ty b) eqt2).asB = (zPn p && zTB ty b) := rfl
theorem eq3_den : (@Tm.den (rhoQ k c p s ty b) eqt3).asB = (zPn p && (zSt s && zTB ty b)) := rfl
theorem eq5_den : (@Tm.den (rhoQ k c p s ty b) eqt5).asB = (zPn p && (zSt s && ty == 0)) := rfl
theorem eq7_den : (@Tm.den (rhoQ k c p s ty b) eqt7).asB = (zPn p && (zSt s && b == [])) := rfl
theorem eq8_den : (@Tm.den (rhoQ k c p s ty b) eqt8).asB = (zPn p && zSt s) := rfl
theorem ans_VR [ρ : Rho] {t v o : AV} {n : Int} {x : List UInt8} {q : Bool} (ht : VR (fun _ => none) t (.int .u8 n)) (hv : VR (fun _ => none) v (.string ⟨x.toArray⟩)) (ho : VR (fun _ => none) o (.bool q)) : VR (fun _ => none) (.tuple [t, v, o]) (.tuple #[.int .u8 n, .string ⟨x.toArray⟩, .bool q]) :=
  ⟨_, ⟨_, _, ht, ⟨_, _, hv, ⟨_, _, ho, rfl, rfl⟩, rfl⟩, rfl⟩, rfl⟩
/-- What the function answers. -/
theorem parts_w (hf : Fit p s ty b) (w : World) : Calls Try.prog 29 #[msgV k c p s ty b] w fun e w' => e = .returned (partsV k p s ty b) ∧ RowKit.Below w.heap.size w w' := by
  letI ρ : Rho := rhoQ k c p s ty b
  have run : ∀ (a u : AV), VR (fun _ => none) a (.int .u8 k) → (treeP a).sel = some u → VR (fun _ => none) u (partsV k p s ty b) → Calls Try.prog 29 #[msgV k c p s ty b] w fun e w' => e = .returned (partsV k p s ty b) ∧ RowKit.Below w.heap.size w w' := fun a u ha hs hv =>
    call_val (cf := evFun Try.prog envG 1000) (evFun_ok noCount (envG_ok rfl) 1000) (args := [msgA a]) (v := u) hs hv (cargs := [msgV k c p s ty b]) (msgA_VR k c p s ty b ha) w
  have V18 : (Tm.var 18).den.asI = ty := rfl
  have o2 : ∀ (n : Nat) (x : Int), (Tm.var n).den.asI = x → 0 ≤ x → x ≤ 255 → (octV n).den.asB = true := fun n x hx h0 h1 => and_T (leq_T (by rw [ci_asI, hx]; exact h0)) (leq_T (by rw [ci_asI, hx]; exact h1))
  obtain ⟨⟨⟨a0, a1⟩, ⟨a2, a3⟩, ⟨a4, a5⟩, a6, a7⟩, d0, d1, b0, b1, t0, t1⟩ := hf
  by_cases h1 : k = 1
  · have hz : (Tm.and (.and (octV 2) (octV 3)) (.and (octV 4) (octV 5))).den.asB = true := and_T (and_T (o2 2 p.d rfl a0 a1) (o2 3 p.f rfl a2 a3)) (and_T (o2 4 p.c rfl a4 a5) (o2 5 p.p rfl a6 a7))
    have d11 : (Tm.app 11 pnP).den.asI = (pput p).2 := rfl
    have e : partsV k p s ty b = .tuple #[.int .u8 32, .string ⟨((pput p).1).toArray⟩, .bool ((pput p).2 == 0 && (zSt s && zTB ty b))] := by
      unfold partsV pT pV pO partsF; rw [if_pos h1]
    by_cases hm : (pput p).2 = 0
    · refine run (.int .u8 1) _ (by rw [h1]; rfl) (by rw [ptE1]; exact sel_T hz (sel_T (eql_T (by rw [d11, hm, ci_asI])) rfl)) ?_
      rw [e, hm]
      exact ans_VR rfl rfl (by rw [← eq1_den k c p s ty b]; rfl)
    · refine run (.int .u8 1) _ (by rw [h1]; rfl) (by rw [ptE1]; exact sel_T hz (sel_F (eql_F (by rw [d11, ci_asI]; exact hm)) rfl)) ?_
      rw [e, beq_eq_false_iff_ne.2 hm]
      exact ans_VR rfl rfl rfl
  by_cases h2 : k = 2
  · have hz : (Tm.and (octV 10) (octV 17)).den.asB = true := and_T (o2 10 s.d rfl d0 d1) (o2 17 s.br rfl b0 b1)
    have d11 : (Tm.app 1 msP).den.asI = (mput s).2 := rfl
    have e : partsV k p s ty b = .tuple #[.int .u8 56, .string ⟨((mput s).1).toArray⟩, .bool ((mput s).2 == 0 && (zPn p && zTB ty b))] := by
      unfold partsV pT pV pO partsF; rw [if_neg h1, if_pos h2]
    by_cases hm : (mput s).2 = 0
    · refine run (.int .u8 2) _ (by rw [h2]; rfl) (by rw [ptE2]; exact sel_T hz (sel_T (eql_T (by rw [d11, hm, ci_asI])) rfl)) ?_
      rw [e, hm]
      exact ans_VR rfl rfl (by rw [← eq2_den k c p s ty b]; rfl)
    · refine run (.int .u8 2) _ (by rw [h2]; rfl) (by rw [ptE2]; exact sel_T hz (sel_F (eql_F (by rw [d11, ci_asI]; exact hm)) rfl)) ?_
      rw [e, beq_eq_false_iff_ne.2 hm]
      exact ans_VR rfl rfl rfl
  by_cases h3 : k = 3
  · refine run (.int .u8 3) _ (by rw [h3]; rfl) (by rw [ptE3]; rfl) ?_
    have e : partsV k p s ty b = .tuple #[.int .u8 40, .string ⟨([] : List UInt8).toArray⟩, .bool (zPn p && (zSt s && zTB ty b))] := by
      unfold partsV pT pV pO partsF; rw [if_neg h1, if_neg h2, if_pos h3]
    rw [e]
    exact ans_VR rfl rfl (by rw [← eq3_den k c p s ty b]; rfl)
  by_cases h4 : k = 4
  · refine run (.int .u8 4) _ (by rw [h4]; rfl) (by rw [ptE4]; rfl) ?_
    have e : partsV k p s ty b = .tuple #[.int .u8 24, .string ⟨([] : List UInt8).toArray⟩, .bool (zPn p && (zSt s && zTB ty b))] := by
      unfold partsV pT pV pO partsF; rw [if_neg h1, if_neg h2, if_neg h3, if_pos h4]
    rw [e]
    exact ans_VR rfl rfl (by rw [← eq3_den k c p s ty b]; rfl)
  by_cases h5 : k = 5
  · refine run (.int .u8 5) _ (by rw [h5]; rfl) (by rw [ptE5]; rfl) ?_
    have e : partsV k p s ty b = .tuple #[.int .u8 8, .string ⟨b.toArray⟩, .bool (zPn p && (zSt s && ty == 0))] := by
      unfold partsV pT pV pO partsF; rw [if_neg h1, if_neg h2, if_neg h3, if_neg h4, if_pos h5]
    rw [e]
    exact ans_VR rfl rfl (by rw [← eq5_den k c p s ty b]; rfl)
  by_cases h6 : k = 6
  · refine run (.int .u8 6) _ (by rw [h6]; rfl) (by rw [ptE6]; rfl) ?_
    have e : partsV k p s ty b = .tuple #[.int .u8 48, .string ⟨([] : List UInt8).toArray⟩, .bool (zPn p && (zSt s && zTB ty b))] := by
      unfold partsV pT pV pO partsF; rw [if_neg h1, if_neg h2, if_neg h3, if_neg h4, if_neg h5, if_pos h6]
    rw [e]
    exact ans_VR rfl rfl (by rw [← eq3_den k c p s ty b]; rfl)
  by_cases h7 : k = 7
  · refine run (.int .u8 7) _ (by rw [h7]; rfl) (by rw [ptE7]; rfl) ?_
    have e : partsV k p s ty b = .tuple #[.int .u8 4, .string ⟨([c8 ty] : List UInt8).toArray⟩, .bool (zPn p && (zSt s && b == []))] := by
      unfold partsV pT pV pO partsF; rw [if_neg h1, if_neg h2, if_neg h3, if_neg h4, if_neg h5, if_neg h6, if_pos h7]
    rw [e]
    exact ans_VR rfl rfl (by rw [← eq7_den k c p s ty b]; rfl)
  by_cases h8 : k = 8
  · have e : partsV k p s ty b = .tuple #[.int .u8 ty, .string ⟨b.toArray⟩, .bool ((zPn p && zSt s) && (decide (ty < 64) && kindF ty == 8))] := by
      unfold partsV pT pV pO partsF; rw [if_neg h1, if_neg h2, if_neg h3, if_neg h4, if_neg h5, if_neg h6, if_neg h7, if_pos h8]
    cases hq : (zPn p && zSt s) with
    | false =>
      refine run (.int .u8 8) _ (by rw [h8]; rfl) (by rw [ptE8]; exact sel_F (by rw [eq8_den, hq]) rfl) ?_
      rw [e, hq]
      exact ans_VR rfl rfl rfl
    | true =>
      by_cases hl : ty < 64
      · refine run (.int .u8 8) _ (by rw [h8]; rfl) (by rw [ptE8]; exact sel_T (by rw [eq8_den, hq]) (sel_T (lss_T (by rw [V18, ci_asI]; exact hl)) (sel_T (and_T (leq_T (by rw [V18, ci_asI]; exact t0)) (leq_T (by rw [V18, ci_asI]; omega))) rfl))) ?_
        rw [e, hq, decide_eq_true hl]
        exact ans_VR rfl rfl rfl
      · refine run (.int .u8 8) _ (by rw [h8]; rfl) (by rw [ptE8]; exact sel_T (by rw [eq8_den, hq]) (sel_F (lss_F (by rw [V18, ci_asI]; exact hl)) rfl)) ?_
        rw [e, hq, decide_eq_false hl]
        exact ans_VR rfl rfl rfl
  · have e : partsV k p s ty b = .tuple #[.int .u8 0, .string ⟨([] : List UInt8).toArray⟩, .bool false] := by
      unfold partsV pT pV pO partsF; rw [if_neg h1, if_neg h2, if_neg h3, if_neg h4, if_neg h5, if_neg h6, if_neg h7, if_neg h8]
    refine run (.sint .u8 (.var 0)) (.tuple [.int .u8 0, .str [], .bool false]) rfl (pathT_sel _ _ _ _ path_p fun q hq => ?_) ?_
    · unfold pathP at hq
      simp only [List.mem_cons, List.not_mem_nil, or_false] at hq
      rcases hq with rfl | rfl | rfl | rfl | rfl | rfl | rfl | rfl
      · exact beq_eq_false_iff_ne.2 h1
      · exact beq_eq_false_iff_ne.2 h2
      · exact beq_eq_false_iff_ne.2 h5
      · exact beq_eq_false_iff_ne.2 h7
      · exact beq_eq_false_iff_ne.2 h8
      · exact beq_eq_false_iff_ne.2 h3
      · exact beq_eq_false_iff_ne.2 h4
      · exact beq_eq_false_iff_ne.2 h6
    · rw [e]
      exact ans_VR rfl rfl rfl
end
/-! ### the contract -/
def octK : Kd → Tm → Tm
  | .ki .u8, a => octT a
  | _, _ => .cb true
def debR : List Kd → Tm → Tm
  | [], _ => .cb true
  | k :: l, r => match r with
    | .pair a u => andT (octK k a) (debR l u)
    | _ => .cb false
def partsC : List AV → Heap → Option (Tm × AV × Heap)
  | [x], H => match x with
    | .agg vs => match kindsT shM vs with
      | some r => some (debR shM r, .tuple [.sint .u8 (.app 90 r), .sstr (.app 91 r), .sbool (.app 92 r)], H)
      | none => none
    | _ => none
  | _, _ => none
section
variable [ρ : Rho]
theorem debR_spec : ∀ (sh : List Kd) (r : Tm), (debR sh r).den.asB = true → ∀ j : Nat, sh[j]? = some (.ki .u8) → 0 ≤ ((cellsD r.den).getD j (.dI 0)).asI ∧ ((cellsD r.den).getD j (.dI 0)).asI ≤ 255
  | [], _, _, j, hj => by simp at hj
  | k :: l, r, h, j, hj => by
    unfold debR at h
    split at h
    · rename_i a u
      rw [andT_den, Bool.and_eq_true] at h
      obtain ⟨h1, h2⟩ := h
      cases j with
      | zero =>
        simp at hj; subst hj
        have := octT_den (a := a) h1
        simpa [Tm.den, cellsD] using this
      | succ j =>
        have := debR_spec l u h2 j (by simpa using hj)
        simpa [Tm.den, cellsD] using this
    · cases h
theorem partsC_ok (hf : ρ.fn = allFn) {args : List AV} {H H' : Heap} {o : Tm} {v : AV} (hg : partsC args H = some (o, v, H')) (ho : o.den.asB = true) : CallS Try.prog 29 args H v H' ∧ LG H H' := by
  unfold partsC at hg
  split at hg
  · rename_i x H
    split at hg
    · rename_i vs
      split at hg
      · rename_i r hr
        cases hg
        refine ⟨callS_new fun μ cargs w hv => ?_, LG.refl _⟩
        obtain ⟨_, _, ⟨cs, hcs, rfl⟩, rfl, rfl⟩ := hv
        have hl : cs.length = 20 := by rw [hcs.length, kindsT_len hr]; rfl
        have sp := kindsT_spec hr hcs
        have d8 := debR_spec shM r ho
        generalize hd : cellsD r.den = d at sp d8
        have e : cs = [.int .u8 (rK d), .bool (rC d), .int .u8 (rP d).d, .int .u8 (rP d).f, .int .u8 (rP d).c, .int .u8 (rP d).p, .int .i64 (rP d).t1, .int .i64 (rP d).n1, .int .i64 (rP d).n2, .int .i64 (rP d).k, .int .u8 (rS d).d, .bool (rS d).fc, .bool (rS d).rtc, .bool (rS d).rtr, .bool (rS d).ic, .bool (rS d).dv, .bool (rS d).hb, .int .u8 (rS d).br, .int .u8 (rT d), .string ⟨(rB d).toArray⟩] := by
          refine List.ext_getElem? fun j => ?_
          match j with
          | 0 => exact sp 0 _ rfl
          | 1 => exact sp 1 _ rfl
          | 2 => exact sp 2 _ rfl
          | 3 => exact sp 3 _ rfl
          | 4 => exact sp 4 _ rfl
          | 5 => exact sp 5 _ rfl
          | 6 => exact sp 6 _ rfl
          | 7 => exact sp 7 _ rfl
          | 8 => exact sp 8 _ rfl
          | 9 => exact sp 9 _ rfl
          | 10 => exact sp 10 _ rfl
          | 11 => exact sp 11 _ rfl
          | 12 => exact sp 12 _ rfl
          | 13 => exact sp 13 _ rfl
          | 14 => exact sp 14 _ rfl
          | 15 => exact sp 15 _ rfl
          | 16 => exact sp 16 _ rfl
          | 17 => exact sp 17 _ rfl
          | 18 => exact sp 18 _ rfl
          | 19 => exact sp 19 _ rfl
          | j + 20 => rw [List.getElem?_eq_none (by omega), List.getElem?_eq_none (by simp)]
        rw [e]
        have hfit : Fit (rP d) (rS d) (rT d) (rB d) := ⟨⟨d8 2 rfl, d8 3 rfl, d8 4 rfl, d8 5 rfl⟩, (d8 10 rfl).1, (d8 10 rfl).2, (d8 17 rfl).1, (d8 17 rfl).2, (d8 18 rfl).1, (d8 18 rfl).2⟩
        refine (parts_w (rK d) (rC d) (rP d) (rS d) (rT d) (rB d) hfit w).mono fun e w' he => ⟨_, he.1, ?_, he.2⟩
        refine ⟨[_, _, _], ⟨_, _, ?_, ⟨_, _, ?_, ⟨_, _, ?_, rfl, rfl⟩, rfl⟩, rfl⟩, rfl⟩
        · show _ = _
          rw [den_app, hf, ← hd]; rfl
        · show _ = _
          rw [den_app, hf, ← hd]; rfl
        · show _ = _
          rw [den_app, hf, ← hd]; rfl
      · cases hg
    · cases hg
  · cases hg
end
end Go.Proofs.Ytamibbjpapkfeaa.Ab
