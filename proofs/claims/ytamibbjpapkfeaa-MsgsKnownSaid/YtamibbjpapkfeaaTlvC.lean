/-
  The functions of layer 7 (tlv) and of its reference, called: what they answer.
  Conditions: a number of an octet lies from 0 to 255; texts are not longer than a thousand bytes.
-/
import Derived.Test.YtamibbjpapkfeaaTlvT
namespace Go.Proofs.Ytamibbjpapkfeaa.Ab
set_option linter.unusedSimpArgs false
set_option linter.unusedVariables false
open Go
abbrev rhoT (k : Int) (c : Bool) (v : List UInt8) : Rho := ⟨fun n => match n with
  | 0 => .dI k
  | 1 => .dB c
  | _ => .dS v, fun _ d => d⟩
theorem sel_T {α : Type} [Rho] {c : Tm} {x y : Tree α} {u : α} (h : c.den.asB = true) (k : x.sel = some u) : (Tree.fork c x y).sel = some u := by simp [Tree.sel, h, k]
theorem sel_F {α : Type} [Rho] {c : Tm} {x y : Tree α} {u : α} (h : c.den.asB = false) (k : y.sel = some u) : (Tree.fork c x y).sel = some u := by simp [Tree.sel, h, k]
section
variable [Rho] {k : IntKind} {x y : Tm}
theorem lss_T (h : x.den.asI < y.den.asI) : (Tm.ib .lss k x y).den.asB = true := decide_eq_true h
theorem lss_F (h : ¬ x.den.asI < y.den.asI) : (Tm.ib .lss k x y).den.asB = false := decide_eq_false h
theorem gtr_T (h : x.den.asI > y.den.asI) : (Tm.ib .gtr k x y).den.asB = true := decide_eq_true h
theorem gtr_F (h : ¬ x.den.asI > y.den.asI) : (Tm.ib .gtr k x y).den.asB = false := decide_eq_false h
theorem leq_T (h : x.den.asI ≤ y.den.asI) : (Tm.ib .leq k x y).den.asB = true := decide_eq_true h
theorem leq_F (h : ¬ x.den.asI ≤ y.den.asI) : (Tm.ib .leq k x y).den.asB = false := decide_eq_false h
theorem eql_T (h : x.den.asI = y.den.asI) : (Tm.ib .eql k x y).den.asB = true := beq_iff_eq.2 h
theorem eql_F (h : ¬ x.den.asI = y.den.asI) : (Tm.ib .eql k x y).den.asB = false := beq_eq_false_iff_ne.2 h
theorem neq_T (h : ¬ x.den.asI = y.den.asI) : (Tm.ib .neq k x y).den.asB = true := bne_iff_ne.2 h
theorem neq_F (h : x.den.asI = y.den.asI) : (Tm.ib .neq k x y).den.asB = false := by
  show (x.den.asI != y.den.asI) = false
  rw [h]; exact bne_self_eq_false _
theorem and_T (h : x.den.asB = true) (k : y.den.asB = true) : (Tm.and x y).den.asB = true := by
  show (x.den.asB && y.den.asB) = true
  rw [h, k]; rfl
theorem seql_T (h : x.den.asS = y.den.asS) : (Tm.sb .eql x y).den.asB = true := beq_iff_eq.2 h
theorem seql_F (h : ¬ x.den.asS = y.den.asS) : (Tm.sb .eql x y).den.asB = false := beq_eq_false_iff_ne.2 h
end
abbrev putV (k : Int) (c : Bool) (v : List UInt8) : Value := .tuple #[.string ⟨(tput k c v).1.toArray⟩, .int .i64 (tput k c v).2]
theorem or8 (k : Int) (h0 : 0 ≤ k) (h1 : k ≤ 63) : c8 (iop .or .u8 (iop .shl .u8 k 2).asI 1).asI = c8 (4 * k + 1) ∧ c8 (iop .or .u8 (iop .or .u8 (iop .shl .u8 k 2).asI 1).asI 2).asI = c8 (4 * k + 3) := by
  have h : ∀ n : Fin 64, c8 (iop .or .u8 (iop .shl .u8 (n.val : Int) 2).asI 1).asI = c8 (4 * (n.val : Int) + 1) ∧ c8 (iop .or .u8 (iop .or .u8 (iop .shl .u8 (n.val : Int) 2).asI 1).asI 2).asI = c8 (4 * (n.val : Int) + 3) := by decide +kernel
  have := h ⟨k.toNat, by omega⟩
  rw [show ((⟨k.toNat, by omega⟩ : Fin 64).val : Int) = k by simp; omega] at this
  exact this
theorem len8 (n : Nat) (h : n ≤ 127) : c8 (IntKind.u8.wrap (iop .or .i64 (iop .shl .i64 (n : Int) 1).asI 1).asI) = c8 (2 * (n : Int) + 1) := by
  have h' : ∀ n : Fin 128, c8 (IntKind.u8.wrap (iop .or .i64 (iop .shl .i64 (n.val : Int) 1).asI 1).asI) = c8 (2 * (n.val : Int) + 1) := by decide +kernel
  exact h' ⟨n, by omega⟩
set_option maxRecDepth 100000 in
theorem put_sel (k : Int) (c : Bool) (v : List UInt8) (k0 : 0 ≤ k) (k1 : k ≤ 255) (hl : v.length ≤ 9223372036854775807) : ∃ u, @Tree.sel _ (rhoT k c v) putTree = some u ∧ @VR (rhoT k c v) (fun _ => none) u (putV k c v) := by
  letI ρ : Rho := rhoT k c v
  show ∃ u, putTree.sel = some u ∧ VR (fun _ => none) u (putV k c v)
  unfold putTree putV tput
  by_cases h1 : 63 < k
  · rw [if_pos h1]
    exact ⟨_, sel_T (gtr_T h1) rfl, [_, _], ⟨_, _, rfl, ⟨_, _, rfl, rfl, rfl⟩, rfl⟩, rfl⟩
  rw [if_neg h1]
  by_cases h2 : 127 < v.length
  · rw [if_pos h2]
    exact ⟨_, sel_F (gtr_F h1) (sel_T (gtr_T (show (v.length : Int) > 127 by omega)) rfl), [_, _], ⟨_, _, rfl, ⟨_, _, rfl, rfl, rfl⟩, rfl⟩, rfl⟩
  rw [if_neg h2]
  obtain ⟨e1, e2⟩ := or8 k k0 (by omega)
  have e3 := len8 v.length (by omega)
  cases c with
  | true =>
    refine ⟨_, sel_F (gtr_F h1) (sel_F (gtr_F (show ¬ (v.length : Int) > 127 by omega)) (sel_T rfl
      (sel_F (lss_F (show ¬ (v.length : Int) < 0 by omega)) (sel_F (gtr_F (show ¬ (v.length : Int) > 32767 by omega))
        (sel_T (leq_T ?_) (sel_T (leq_T ?_) rfl)))))), ?_⟩
    · show ((1 : Nat) : Int) + ((1 : Nat) : Int) ≤ 9223372036854775807
      decide
    · show ((2 : Nat) : Int) + (v.length : Int) ≤ 9223372036854775807
      omega
    · refine ⟨[_, _], ⟨_, _, ?_, ⟨_, _, rfl, rfl, rfl⟩, rfl⟩, rfl⟩
      show Value.string ⟨(c8 (4 * k + 1 + 2) :: c8 (2 * (v.length : Int) + 1) :: v).toArray⟩ = .string ⟨((([c8 (iop .or .u8 (iop .or .u8 (iop .shl .u8 k 2).asI 1).asI 2).asI] ++ []) ++ ([c8 (IntKind.u8.wrap (iop .or .i64 (iop .shl .i64 (v.length : Int) 1).asI 1).asI)] ++ [])) ++ v).toArray⟩
      rw [e2, e3, show 4 * k + 1 + 2 = 4 * k + 3 by omega]; rfl
  | false =>
    refine ⟨_, sel_F (gtr_F h1) (sel_F (gtr_F (show ¬ (v.length : Int) > 127 by omega)) (sel_F rfl
      (sel_F (lss_F (show ¬ (v.length : Int) < 0 by omega)) (sel_F (gtr_F (show ¬ (v.length : Int) > 32767 by omega))
        (sel_T (leq_T ?_) (sel_T (leq_T ?_) rfl)))))), ?_⟩
    · show ((1 : Nat) : Int) + ((1 : Nat) : Int) ≤ 9223372036854775807
      decide
    · show ((2 : Nat) : Int) + (v.length : Int) ≤ 9223372036854775807
      omega
    · refine ⟨[_, _], ⟨_, _, ?_, ⟨_, _, rfl, rfl, rfl⟩, rfl⟩, rfl⟩
      show Value.string ⟨(c8 (4 * k + 1 + 0) :: c8 (2 * (v.length : Int) + 1) :: v).toArray⟩ = .string ⟨((([c8 (iop .or .u8 (iop .shl .u8 k 2).asI 1).asI] ++ []) ++ ([c8 (IntKind.u8.wrap (iop .or .i64 (iop .shl .i64 (v.length : Int) 1).asI 1).asI)] ++ [])) ++ v).toArray⟩
      rw [e1, e3, show 4 * k + 1 + 0 = 4 * k + 1 by omega]; rfl
end Go.Proofs.Ytamibbjpapkfeaa.Ab
