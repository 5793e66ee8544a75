/-
  LineOrder: what its rounds keep, in plain terms.
  Conditions: as each theorem tells.
-/
import Derived.Test.YtnjafgigldfcdaaLoD
namespace Go.Proofs.Ytnjafgigldfcdaa.Ab
set_option linter.unusedSimpArgs false
set_option linter.unusedVariables false
open Go
set_option linter.unusedSectionVars false
set_option linter.unusedSimpArgs false
noncomputable section
/-- The line, what was sent, what was got. -/
structure MS where
  L : Dat
  a : Int
  n : Int
  sent : List UInt8
  got : List UInt8
def joinR (P : List (List Dat)) : List UInt8 := P.flatMap strR
structure MInv (k : Nat) (x : MS) : Prop where
  a0 : 0 ≤ x.a
  n0 : 0 ≤ x.n
  an : x.a.toNat + x.n.toNat ≤ x.L.asL.length
  nk : x.n ≤ k
  p : ∀ r ∈ piecesR x.L.asL x.a x.n, strR r ≠ [] ∧ (strR r).length ≤ 2000
  j : x.got ++ joinR (piecesR x.L.asL x.a x.n) = x.sent
  len : x.sent.length ≤ 2000 * k
theorem MInv.line {k : Nat} {x : MS} (h : MInv k x) (hk : k ≤ 40) : lineOk x.L.asL x.a x.n := by
  obtain ⟨h1, h2, h3, h4, h5, _, _⟩ := h
  refine ⟨h1, h2, h3, by omega, fun r hr => ?_⟩
  have := (h5 r hr).2
  omega
theorem pieces_len {L : List (List Dat)} {a n : Int} (h : a.toNat + n.toNat ≤ L.length) : (piecesR L a n).length = n.toNat := by
  simp only [piecesR, List.length_take, List.length_drop]; omega
/-- The first piece, and the others. -/
theorem pieces_cons {L : List (List Dat)} {a n : Int} (a0 : 0 ≤ a) (n1 : 0 < n) (h : a.toNat + n.toNat ≤ L.length) : piecesR L a n = L.getD a.toNat [] :: piecesR L (a + 1) (n - 1) := by
  unfold piecesR
  have e1 : (a + 1).toNat = a.toNat + 1 := by omega
  have e2 : n.toNat = (n - 1).toNat + 1 := by omega
  rw [e1, e2, List.drop_eq_getElem_cons (by omega : a.toNat < L.length), List.take_succ_cons, List.getD_eq_getElem?_getD, List.getElem?_eq_getElem (by omega : a.toNat < L.length)]
  rfl
/-- The first piece, another one. -/
theorem pieces_set {L : List (List Dat)} {a n : Int} (a0 : 0 ≤ a) (n1 : 0 < n) (h : a.toNat + n.toNat ≤ L.length) (r : List Dat) : piecesR (L.set a.toNat r) a n = r :: piecesR L (a + 1) (n - 1) := by
  rw [pieces_cons a0 n1 (by rw [List.length_set]; exact h)]
  congr 1
  · rw [List.getD_eq_getElem?_getD, List.getElem?_set_self (by omega)]; rfl
  · unfold piecesR
    rw [List.drop_set_of_lt (by omega)]
theorem sumR_cons (r : List Dat) (P : List (List Dat)) : sumR (r :: P) = (strR r).length + sumR P := by simp [sumR]
theorem joinR_cons (r : List Dat) (P : List (List Dat)) : joinR (r :: P) = strR r ++ joinR P := by simp [joinR]
theorem joinR_append (P Q : List (List Dat)) : joinR (P ++ Q) = joinR P ++ joinR Q := by simp [joinR]
theorem joinR_len : ∀ P : List (List Dat), (joinR P).length = sumR P
  | [] => rfl
  | r :: P => by rw [joinR_cons, sumR_cons, List.length_append, joinR_len P]
/-- What a round makes of it: a piece more; nothing; a piece less; some of a piece. -/
def msSend (x : MS) (F : Dat) : MS := ⟨if F.asS = [] then x.L else .dL (piecesR x.L.asL x.a x.n ++ [[F]]), sendA x.a F.asS, sendN x.n F.asS, x.sent ++ F.asS, x.got⟩
def msAll (x : MS) : MS := ⟨x.L, x.a + 1, x.n - 1, x.sent, x.got ++ strR (x.L.asL.getD x.a.toNat [])⟩
def msSome (x : MS) (N : Int) : MS := ⟨.dL (x.L.asL.set x.a.toNat [.dS (cutS (strR (x.L.asL.getD x.a.toNat [])) N ((strR (x.L.asL.getD x.a.toNat [])).length : Int))]), x.a, x.n, x.sent, x.got ++ cutS (strR (x.L.asL.getD x.a.toNat [])) 0 N⟩
theorem inv_up {k : Nat} {x : MS} (h : MInv k x) : MInv (k + 1) x := ⟨h.a0, h.n0, h.an, by have := h.nk; omega, h.p, h.j, by have := h.len; omega⟩
theorem inv_send {k : Nat} {x : MS} (h : MInv k x) {F : Dat} (hF : F.asS.length ≤ 2000) : MInv (k + 1) (msSend x F) := by
  have hl := pieces_len h.an
  have hk := h.nk
  have hs := h.len
  by_cases he : F.asS = []
  · have e : msSend x F = x := by
      simp only [msSend, sendA, sendN, he, if_true, List.append_nil]
    rw [e]; exact inv_up h
  · have e : msSend x F = ⟨.dL (piecesR x.L.asL x.a x.n ++ [[F]]), 0, x.n + 1, x.sent ++ F.asS, x.got⟩ := by
      simp only [msSend, sendA, sendN, he, if_false]
    have hn0 := h.n0
    have ep : piecesR (piecesR x.L.asL x.a x.n ++ [[F]]) 0 (x.n + 1) = piecesR x.L.asL x.a x.n ++ [[F]] := by
      show List.take (x.n + 1).toNat (List.drop (0 : Int).toNat _) = _
      rw [show (0 : Int).toNat = 0 from rfl, List.drop_zero, List.take_of_length_le (by rw [List.length_append, hl, List.length_singleton]; omega)]
    rw [e]
    refine ⟨Int.le_refl 0, by show 0 ≤ x.n + 1; omega, ?_, by show x.n + 1 ≤ _; omega, fun r hr => ?_, ?_, ?_⟩
    · show (0 : Int).toNat + (x.n + 1).toNat ≤ (piecesR x.L.asL x.a x.n ++ [[F]]).length
      rw [List.length_append, hl, List.length_singleton, show (0 : Int).toNat = 0 from rfl]; omega
    · have hr : r ∈ piecesR (piecesR x.L.asL x.a x.n ++ [[F]]) 0 (x.n + 1) := hr
      rw [ep, List.mem_append, List.mem_singleton] at hr
      rcases hr with hr | rfl
      · exact h.p r hr
      · exact ⟨he, hF⟩
    · show x.got ++ joinR (piecesR (piecesR x.L.asL x.a x.n ++ [[F]]) 0 (x.n + 1)) = x.sent ++ F.asS
      rw [ep, joinR_append, ← List.append_assoc, h.j]
      simp [joinR, strR]
    · show (x.sent ++ F.asS).length ≤ _
      rw [List.length_append]; omega
theorem inv_all {k : Nat} {x : MS} (h : MInv k x) (hn : 0 < x.n) : MInv (k + 1) (msAll x) := by
  have ec := pieces_cons h.a0 hn h.an
  have a0 := h.a0
  have an := h.an
  have nk := h.nk
  have len := h.len
  refine ⟨by show 0 ≤ x.a + 1; omega, by show 0 ≤ x.n - 1; omega, by show (x.a + 1).toNat + (x.n - 1).toNat ≤ x.L.asL.length; omega, by show x.n - 1 ≤ _; omega, fun r hr => h.p r ?_, ?_, by show x.sent.length ≤ _; omega⟩
  · rw [ec]; exact List.mem_cons_of_mem _ hr
  · show (x.got ++ strR (x.L.asL.getD x.a.toNat [])) ++ joinR (piecesR x.L.asL (x.a + 1) (x.n - 1)) = x.sent
    rw [List.append_assoc, ← joinR_cons, ← ec, h.j]
theorem cut_join (s : List UInt8) (N : Int) (h0 : 0 ≤ N) (h1 : N ≤ (s.length : Int)) : cutS s 0 N ++ cutS s N (s.length : Int) = s := by
  unfold cutS
  rw [show (0 : Int).toNat = 0 from rfl, List.drop_zero, Nat.sub_zero]
  rw [List.take_of_length_le (show (List.drop N.toNat s).length ≤ (s.length : Int).toNat - N.toNat by rw [List.length_drop]; omega)]
  exact List.take_append_drop _ _
theorem inv_some {k : Nat} {x : MS} (h : MInv k x) (hn : 0 < x.n) {N : Int} (h1 : 1 ≤ N) (h2 : N < ((strR (x.L.asL.getD x.a.toNat [])).length : Int)) : MInv (k + 1) (msSome x N) := by
  have ec := pieces_cons h.a0 hn h.an
  have a0 := h.a0
  have n0 := h.n0
  have an := h.an
  have nk := h.nk
  have len := h.len
  have es := pieces_set h.a0 hn h.an [.dS (cutS (strR (x.L.asL.getD x.a.toNat [])) N ((strR (x.L.asL.getD x.a.toNat [])).length : Int))]
  have hp := h.p (x.L.asL.getD x.a.toNat []) (by rw [ec]; exact List.mem_cons_self)
  have hcl := cutS_len (strR (x.L.asL.getD x.a.toNat [])) N ((strR (x.L.asL.getD x.a.toNat [])).length : Int)
  refine ⟨h.a0, h.n0, by show x.a.toNat + x.n.toNat ≤ (x.L.asL.set _ _).length; rw [List.length_set]; exact h.an, by show x.n ≤ _; omega, fun r hr => ?_, ?_, by show x.sent.length ≤ _; omega⟩
  · have hr : r ∈ piecesR (x.L.asL.set x.a.toNat _) x.a x.n := hr
    rw [es, List.mem_cons] at hr
    rcases hr with rfl | hr
    · show cutS _ _ _ ≠ [] ∧ (cutS _ _ _).length ≤ 2000
      refine ⟨fun e => ?_, by omega⟩
      rw [e] at hcl
      simp only [List.length_nil] at hcl
      omega
    · exact h.p r (by rw [ec]; exact List.mem_cons_of_mem _ hr)
  · show (x.got ++ cutS (strR (x.L.asL.getD x.a.toNat [])) 0 N) ++ joinR (piecesR (x.L.asL.set x.a.toNat _) x.a x.n) = x.sent
    rw [es, joinR_cons]
    show (x.got ++ cutS (strR (x.L.asL.getD x.a.toNat [])) 0 N) ++ (cutS (strR (x.L.asL.getD x.a.toNat [])) N _ ++ joinR (piecesR x.L.asL (x.a + 1) (x.n - 1))) = x.sent
    rw [List.append_assoc, ← List.append_assoc (cutS _ 0 N), cut_join _ _ (by omega) (by omega), ← joinR_cons, ← ec, h.j]
end
end Go.Proofs.Ytnjafgigldfcdaa.Ab
