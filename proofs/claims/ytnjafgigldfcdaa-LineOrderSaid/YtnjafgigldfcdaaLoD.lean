/-
  LineOrder: Send and Waits as summaries.
  Conditions: as each theorem tells.
-/
import Derived.Test.YtnjafgigldfcdaaLoC
namespace Go.Proofs.Ytnjafgigldfcdaa.Ab
set_option linter.unusedSimpArgs false
set_option linter.unusedVariables false
open Go
set_option linter.unusedSectionVars false
set_option linter.unusedSimpArgs false
noncomputable section
abbrev envA1 : Env := ⟨tabGet tabA1, fun _ _ => none⟩
abbrev rSend_0 : Tm := (.and (.ib .leq .i64 (.ci 0) (vt 5)) (.ib .lss .i64 (vt 5) (.llen (vt 4))))
abbrev rSend_1 : Tm := (tp [(vt 6), (.lget (vt 4) (vt 5) 0), (.lget (vt 4) (vt 5) 1), (.lget (vt 4) (vt 5) 2), (.lget (vt 4) (vt 5) 3)])
def rSend : (Tree (AX × Option Eqs)) :=
 (.fork (.ib .lss .i64 (vt 5) (.llen (vt 4)))
 (.fork rSend_0
  (.fork (.app 65 rSend_1)
   (.leaf (.normal, (some [(.sI, (vt 5), (.ib .add .i64 (vt 5) (.ci 1))), (.sS, (vt 6), (.app 64 rSend_1))])))
   .fail)
  .fail)
 (.leaf ((.exit 0), (some [(.sS, (.app 72 (tp [(vt 3), (vt 4)])), (vt 6))]))))
set_option maxRecDepth 100000 in
theorem rSend_eq : evCode Try.prog (evFun Try.prog envA1 1000) (fun _ => none) 1000000 (lpBody Try.prog fSend 0) TSend (outN 3 5 TSend FSend) = rSend := by kernel_rfl
abbrev tSend_0 : Tm := (.lapp (.lcut (vt 0) (vt 1) (vt 2)) (.row (tp [(.app 72 (tp [(vt 3), (vt 4)]))])))
def tSend : (Tree (Option Eqs)) :=
 (.fork (.sb .neq (.app 72 (tp [(vt 3), (vt 4)])) (.cs []))
 (.fork (.ib .lss .i64 (vt 2) (.ci 4294967295))
  (.leaf (some [(.sI, (vt 5), (.len (.app 72 (tp [(vt 3), (vt 4)])))), (.sI, (vt 7), (.ci 0)), (.sI, (vt 8), (.llen tSend_0)), (.sL, (vt 6), tSend_0)]))
  .fail)
 (.leaf (some [(.sI, (vt 5), (.len (.app 72 (tp [(vt 3), (vt 4)])))), (.sI, (vt 7), (vt 1)), (.sI, (vt 8), (vt 2)), (.sL, (vt 6), (vt 0))])))
set_option maxRecDepth 100000 in
theorem tSend_eq : SSend.tree Try.prog (envS gSend) fSend = tSend := by kernel_rfl
def rWaits : (Tree (AX × Option Eqs)) :=
 (.fork (.ib .lss .i64 (vt 3) (vt 2))
 (.fork (.and (.ib .leq .i64 (.ci 0) (vt 3)) (.ib .lss .i64 (vt 3) (vt 2)))
  (.leaf (.normal, (some [(.sI, (vt 3), (.ib .add .i64 (vt 3) (.ci 1))), (.sI, (vt 4), (.ib .add .i64 (vt 4) (.len (.lget (vt 0) (.plus (vt 1) (vt 3)) 0))))])))
  .fail)
 (.leaf ((.exit 0), (some [(.sI, (.app 96 (tp [(vt 0), (vt 1), (vt 2)])), (vt 4))]))))
set_option maxRecDepth 100000 in
theorem rWaits_eq : evCode Try.prog (evFun Try.prog none0 1000) (fun _ => none) 1000000 (lpBody Try.prog fWaits 0) TWaits (outN 2 3 TWaits FWaits) = rWaits := by kernel_rfl
def tWaits : (Tree (Option Eqs)) :=
 (.leaf (some [(.sI, (vt 3), (.app 96 (tp [(vt 0), (vt 1), (vt 2)])))]))
set_option maxRecDepth 100000 in
theorem tWaits_eq : SWaits.tree Try.prog (envWt gWaits) fWaits = tWaits := by kernel_rfl
set_option maxRecDepth 100000 in
theorem keySend : keyAt Try.prog fSend 4 0 = true := by kernel_rfl
set_option maxRecDepth 100000 in
theorem keyWaits : keyAt Try.prog fWaits 4 0 = true := by kernel_rfl
theorem w64 (n : Int) (h0 : -1000000000000 ≤ n) (h1 : n ≤ 1000000000000) : IntKind.i64.wrap n = n := by
  rw [IntKind.wrap_i64]; omega
theorem applyR_facts (s : Dat) (r : List Dat) (hL : s.asS.length ≤ 100000) (h : okRow r) : (autF flR tApply 5 1 (cellsD (.dP s (.dP (r.getD 0 (.dI 0)) (.dP (r.getD 1 (.dI 0)) (.dP (r.getD 2 (.dI 0)) (.dP (r.getD 3 (.dI 0)) (.dB false))))))) 1).asB = true ∧ (applyR s r).asS.length ≤ s.asS.length + 255 :=
  apply_facts (.dP s (.dP (r.getD 0 (.dI 0)) (.dP (r.getD 1 (.dI 0)) (.dP (r.getD 2 (.dI 0)) (.dP (r.getD 3 (.dI 0)) (.dB false)))))) hL h
theorem foldR_len : ∀ (l : List (List Dat)) (s : Dat), (∀ r ∈ l, okRow r) → s.asS.length + 255 * l.length ≤ 100000 → (foldR s l).asS.length ≤ s.asS.length + 255 * l.length
  | [], s, _, _ => by simp [foldR]
  | r :: l, s, h, hL => by
    simp only [List.length_cons] at hL ⊢
    have h1 := (applyR_facts s r (by omega) (h r (by simp))).2
    have h2 := foldR_len l (applyR s r) (fun r hr => h r (by simp [hr])) (by omega)
    show (foldR (applyR s r) l).asS.length ≤ _
    omega
theorem getD_take {α : Type} (l : List α) (k : Nat) (d : α) (h : k < l.length) : l.take (k + 1) = l.take k ++ [l.getD k d] := by
  rw [List.take_add_one, List.getD_eq_getElem?_getD, List.getElem?_eq_getElem h]; rfl
section
variable (ρ : Rho)
abbrev rhoSd (k : Nat) : Rho := ⟨fun j => bif Nat.beq j 5 then .dI (k : Int) else bif Nat.beq j 6 then foldR (ρ.val 3) ((ρ.val 4).asL.take k) else ρ.val j, ρ.fn⟩
theorem rhoSd_low (k : Nat) : Low 5 (rhoSd ρ k) ρ := ⟨fun j hj => by
  match j, hj with
  | 0, _ | 1, _ | 2, _ | 3, _ | 4, _ => rfl, rfl⟩
end
theorem envA1_ok {ρ : Rho} (hf : ρ.fn = fnLo) : @EnvOK ρ Try.prog envA1 := env_of (tabA1_ok hf)
theorem gSend_ok {ρ : Rho} (hf : ρ.fn = fnLo) (hS : (ρ.val 3).asS.length ≤ 1000) (hD : (ρ.val 4).asL.length ≤ 100) (hr : ∀ r ∈ (ρ.val 4).asL, okRow r) : GOk ρ fSend 0 gSend := by
  refine loopN_ok noCount ρ (fun k => rhoSd ρ k) (ρ.val 4).asL.length (fuel := 1000000) (cf := evFun Try.prog envA1 1000) (lf := fun _ => none) (by simp) rfl
    (fun k _ => by letI : Rho := rhoSd ρ k; exact evFun_ok noCount (@envA1_ok (rhoSd ρ k) hf) 1000) (fun k _ => by letI : Rho := rhoSd ρ k; exact lf0_ok) (fun k _ => rhoSd_low ρ k) (fun k hk => ?_) ?_ (fun n => ?_)
  · rw [rSend_eq]
    unfold rSend
    have hlt : ((k : Nat) : Int) < ((ρ.val 4).asL.length : Int) := by omega
    have hsplit := getD_take (ρ.val 4).asL k [] hk
    have hrk : okRow ((ρ.val 4).asL.getD k []) := hr _ (by rw [List.getD_eq_getElem?_getD, List.getElem?_eq_getElem hk]; exact List.getElem_mem hk)
    have hlen := foldR_len ((ρ.val 4).asL.take k) (ρ.val 3) (fun r h => hr r (List.mem_of_mem_take h)) (by rw [List.length_take]; omega)
    have hfac := applyR_facts (foldR (ρ.val 3) ((ρ.val 4).asL.take k)) ((ρ.val 4).asL.getD k []) (by rw [List.length_take] at hlen; omega) hrk
    rw [sel_T (by show decide ((k : Int) < ((ρ.val 4).asL.length : Int)) = true; exact decide_eq_true hlt), sel_T (by
      show (decide ((0 : Int) ≤ (k : Int)) && decide ((k : Int) < _)) = true
      rw [Bool.and_eq_true]; exact ⟨decide_eq_true (by omega), decide_eq_true hlt⟩), sel_T (by
      rw [d_app]
      show (ρ.fn 65 _).asB = true
      rw [hf]
      exact hfac.1)]
    refine ⟨_, rfl, ?_, ?_, trivial⟩
    · show ((k + 1 : Nat) : Int) = IntKind.i64.wrap ((k : Int) + 1)
      rw [w64 _ (by omega) (by omega)]; omega
    · show (foldR (ρ.val 3) ((ρ.val 4).asL.take (k + 1))).asS = (ρ.fn 64 _).asS
      rw [hf, hsplit, foldR_append]
      rfl
  · rw [rSend_eq]
    unfold rSend
    rw [sel_F (by show decide (((ρ.val 4).asL.length : Int) < ((ρ.val 4).asL.length : Int)) = false; exact decide_eq_false (Int.lt_irrefl _))]
    refine ⟨_, rfl, ?_, trivial⟩
    show (ρ.fn 72 _).asS = (foldR (ρ.val 3) ((ρ.val 4).asL.take (ρ.val 4).asL.length)).asS
    rw [hf, List.take_length]; rfl
  · match n with
    | 5 => rfl
    | 6 => rfl
    | 0 | 1 | 2 | 3 | 4 => rfl
    | n + 7 => rfl
theorem sendE : SumE Try.prog fSend SSend 80 4 fnLo := by
  intro ρ hf hok
  have hok : sendOk (ρ.val 0).asL (ρ.val 1).asI (ρ.val 2).asI (ρ.val 3).asS (ρ.val 4).asL := of_decide_eq_true hok
  obtain ⟨⟨a0, n0, an, n1, _⟩, hS, hD, hr⟩ := hok
  refine ⟨envS gSend, envOne_ok (fun f g h => tabOK_get (tabA1_ok hf) f g h) keySend (gSend_ok hf hS hD hr), ?_⟩
  rw [tSend_eq]
  unfold tSend
  have e72 : @Tm.den ρ (.app 72 (tp [vt 3, vt 4])) = foldR (ρ.val 3) (ρ.val 4).asL := by rw [d_app, hf]; rfl
  refine sel_fork (fun h => ?_) (fun h => ?_)
  · have hne : ¬ (foldR (ρ.val 3) (ρ.val 4).asL).asS = [] := by
      intro e
      have h : (!((@Tm.den ρ (.app 72 (tp [vt 3, vt 4]))).asS == [])) = true := h
      rw [e72, e] at h; cases h
    refine sel_fork (fun h2 => ⟨_, rfl, ?_⟩) (fun h2 => ?_)
    · have hl : (@Tm.den ρ tSend_0).asL = piecesR (ρ.val 0).asL (ρ.val 1).asI (ρ.val 2).asI ++ [[foldR (ρ.val 3) (ρ.val 4).asL]] := by
        rw [d_lapp, d_lcut, d_row]
        show _ ++ [[@Tm.den ρ (.app 72 (tp [vt 3, vt 4]))]] = _
        rw [e72]; rfl
      refine ⟨?_, ?_, ?_, ?_, trivial⟩
      · show (ρ.fn 80 _).asI = ((@Tm.den ρ (.app 72 (tp [vt 3, vt 4]))).asS.length : Int)
        rw [e72, hf]; rfl
      · show (ρ.fn 82 _).asI = 0
        rw [hf]
        show sendA (ρ.val 1).asI (foldR (ρ.val 3) (ρ.val 4).asL).asS = 0
        unfold sendA; rw [if_neg hne]
      · show (ρ.fn 83 _).asI = ((@Tm.den ρ tSend_0).asL.length : Int)
        rw [hl, hf]
        show sendN (ρ.val 2).asI (foldR (ρ.val 3) (ρ.val 4).asL).asS = _
        unfold sendN; rw [if_neg hne]
        simp only [piecesR, List.length_append, List.length_take, List.length_drop, List.length_cons, List.length_nil]
        omega
      · show (ρ.fn 81 _).asL = (@Tm.den ρ tSend_0).asL
        rw [hl, hf]
        show sendL (ρ.val 0).asL (ρ.val 1).asI (ρ.val 2).asI (foldR (ρ.val 3) (ρ.val 4).asL) = _
        unfold sendL; rw [if_neg hne]
    · exfalso
      have h2 : decide ((ρ.val 2).asI < 4294967295) = false := h2
      have h2 := of_decide_eq_false h2
      omega
  · have he : (foldR (ρ.val 3) (ρ.val 4).asL).asS = [] := by
      have h : (!((@Tm.den ρ (.app 72 (tp [vt 3, vt 4]))).asS == [])) = false := h
      rw [e72] at h
      simpa using h
    refine ⟨_, rfl, ?_, ?_, ?_, ?_, trivial⟩
    · show (ρ.fn 80 _).asI = ((@Tm.den ρ (.app 72 (tp [vt 3, vt 4]))).asS.length : Int)
      rw [e72, hf]; rfl
    · show (ρ.fn 82 _).asI = (ρ.val 1).asI
      rw [hf]
      show sendA (ρ.val 1).asI (foldR (ρ.val 3) (ρ.val 4).asL).asS = _
      unfold sendA; rw [if_pos he]
    · show (ρ.fn 83 _).asI = (ρ.val 2).asI
      rw [hf]
      show sendN (ρ.val 2).asI (foldR (ρ.val 3) (ρ.val 4).asL).asS = _
      unfold sendN; rw [if_pos he]
    · show (ρ.fn 81 _).asL = (ρ.val 0).asL
      rw [hf]
      show sendL (ρ.val 0).asL (ρ.val 1).asI (ρ.val 2).asI (foldR (ρ.val 3) (ρ.val 4).asL) = _
      unfold sendL; rw [if_pos he]
/-! ### Waits -/
section
variable (ρ : Rho)
abbrev rhoWa (k : Nat) : Rho := ⟨fun j => bif Nat.beq j 3 then .dI (k : Int) else bif Nat.beq j 4 then .dI (sumR ((piecesR (ρ.val 0).asL (ρ.val 1).asI (ρ.val 2).asI).take k) : Int) else ρ.val j, ρ.fn⟩
theorem rhoWa_low (k : Nat) : Low 3 (rhoWa ρ k) ρ := ⟨fun j hj => by
  match j, hj with
  | 0, _ | 1, _ | 2, _ => rfl, rfl⟩
end
theorem sumR_append (a b : List (List Dat)) : sumR (a ++ b) = sumR a + sumR b := by simp [sumR]
theorem sumR_le (c : Nat) : ∀ l : List (List Dat), (∀ r ∈ l, (strR r).length ≤ c) → sumR l ≤ c * l.length
  | [], _ => by simp [sumR]
  | r :: l, h => by
    have h1 := h r (by simp)
    have h2 := sumR_le c l fun r hr => h r (by simp [hr])
    have e : sumR (r :: l) = (strR r).length + sumR l := by simp [sumR]
    rw [e, List.length_cons, Nat.mul_add]; omega
theorem gWaits_ok {ρ : Rho} (hf : ρ.fn = fnLo) (hok : lineOk (ρ.val 0).asL (ρ.val 1).asI (ρ.val 2).asI) : GOk ρ fWaits 0 gWaits := by
  obtain ⟨a0, n0, an, n1, hp⟩ := hok
  have hpl : (piecesR (ρ.val 0).asL (ρ.val 1).asI (ρ.val 2).asI).length = (ρ.val 2).asI.toNat := by
    simp only [piecesR, List.length_take, List.length_drop]; omega
  refine loopN_ok noCount ρ (fun k => rhoWa ρ k) (ρ.val 2).asI.toNat (fuel := 1000000) (cf := evFun Try.prog none0 1000) (lf := fun _ => none) (by simp) rfl
    (fun k _ => by letI : Rho := rhoWa ρ k; exact evFun_ok noCount none0_ok 1000) (fun k _ => by letI : Rho := rhoWa ρ k; exact lf0_ok) (fun k _ => rhoWa_low ρ k) (fun k hk => ?_) ?_ (fun n => ?_)
  · rw [rWaits_eq]
    unfold rWaits
    have hlt : ((k : Nat) : Int) < (ρ.val 2).asI := by omega
    have hsplit := getD_take (piecesR (ρ.val 0).asL (ρ.val 1).asI (ρ.val 2).asI) k [] (by omega)
    have hb := sumR_le 100000 ((piecesR (ρ.val 0).asL (ρ.val 1).asI (ρ.val 2).asI).take k) (fun r h => hp r (List.mem_of_mem_take h))
    rw [List.length_take] at hb
    have hge : (piecesR (ρ.val 0).asL (ρ.val 1).asI (ρ.val 2).asI).getD k [] = (ρ.val 0).asL.getD ((ρ.val 1).asI.toNat + k) [] := by
      simp only [piecesR, List.getD_eq_getElem?_getD, List.getElem?_take, List.getElem?_drop]
      rw [if_pos (by omega)]
    have hkl : (strR ((piecesR (ρ.val 0).asL (ρ.val 1).asI (ρ.val 2).asI).getD k [])).length ≤ 100000 := hp _ (by
      rw [List.getD_eq_getElem?_getD, List.getElem?_eq_getElem (by omega)]
      exact List.getElem_mem _)
    rw [sel_T (by show decide ((k : Int) < (ρ.val 2).asI) = true; exact decide_eq_true hlt), sel_T (by
      show (decide ((0 : Int) ≤ (k : Int)) && decide ((k : Int) < _)) = true
      rw [Bool.and_eq_true]; exact ⟨decide_eq_true (by omega), decide_eq_true hlt⟩)]
    refine ⟨_, rfl, ?_, ?_, trivial⟩
    · show ((k + 1 : Nat) : Int) = IntKind.i64.wrap ((k : Int) + 1)
      rw [w64 _ (by omega) (by omega)]; omega
    · show ((sumR ((piecesR (ρ.val 0).asL (ρ.val 1).asI (ρ.val 2).asI).take (k + 1)) : Nat) : Int) = IntKind.i64.wrap ((sumR ((piecesR (ρ.val 0).asL (ρ.val 1).asI (ρ.val 2).asI).take k) : Int) + ((strR ((ρ.val 0).asL.getD ((ρ.val 1).asI + (k : Int)).toNat [])).length : Int))
      rw [show ((ρ.val 1).asI + (k : Int)).toNat = (ρ.val 1).asI.toNat + k by omega, ← hge, hsplit, sumR_append]
      have e1 : sumR [(piecesR (ρ.val 0).asL (ρ.val 1).asI (ρ.val 2).asI).getD k []] = (strR ((piecesR (ρ.val 0).asL (ρ.val 1).asI (ρ.val 2).asI).getD k [])).length := by simp [sumR]
      rw [e1, w64 _ (by omega) (by omega)]; omega
  · rw [rWaits_eq]
    unfold rWaits
    rw [sel_F (by show decide (((ρ.val 2).asI.toNat : Int) < (ρ.val 2).asI) = false; exact decide_eq_false (by omega))]
    refine ⟨_, rfl, ?_, trivial⟩
    show (ρ.fn 96 _).asI = ((sumR ((piecesR (ρ.val 0).asL (ρ.val 1).asI (ρ.val 2).asI).take (ρ.val 2).asI.toNat) : Nat) : Int)
    rw [hf, List.take_of_length_le (by omega)]; rfl
  · match n with
    | 3 => rfl
    | 4 => rfl
    | 0 | 1 | 2 => rfl
    | n + 5 => rfl
theorem waitsE : SumE Try.prog fWaits SWaits 96 1 fnLo := by
  intro ρ hf hok
  have hok : lineOk (ρ.val 0).asL (ρ.val 1).asI (ρ.val 2).asI := of_decide_eq_true hok
  refine ⟨envWt gWaits, envOne_ok (fun f g h => by cases h) keyWaits (gWaits_ok hf hok), ?_⟩
  rw [tWaits_eq]
  refine ⟨_, rfl, ?_, trivial⟩
  show (ρ.fn 96 _).asI = (@Tm.den ρ (.app 96 (tp [vt 0, vt 1, vt 2]))).asI
  rw [d_app]; rfl
end
end Go.Proofs.Ytnjafgigldfcdaa.Ab
