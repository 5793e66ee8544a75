/-
  ConsoleTexts: String of a builder that was written to, as a contract.
  Conditions: as each theorem tells.
-/
import Derived.Test.YtnncgjhgmmdilaaGreatDoorCtJ
namespace Go.Proofs.YtnncgjhgmmdilaaGreatDoor.Ab
set_option linter.unusedSimpArgs false
set_option linter.unusedVariables false
open Go Go.Proofs.YtnncgjhgmmdilaaGreatDoor Go.RowKit
set_option linter.unusedSectionVars false
set_option linter.unusedVariables false
noncomputable section
theorem freeze_ne (w : World) (p : Addr) (n k : Nat) (hk : k ≠ p.block) : (w.freeze p n).heap[k]? = w.heap[k]? := by
  unfold World.freeze
  split
  · rfl
  · simp only [Array.getElem?_modify]
    rw [if_neg (fun e => hk e.symm)]
theorem freeze_rest (w : World) (p : Addr) (n : Nat) : (w.freeze p n).heap.size = w.heap.size ∧ (w.freeze p n).os = w.os ∧ (w.freeze p n).tape = w.tape ∧ (w.freeze p n).output = w.output := by
  unfold World.freeze
  split
  · exact ⟨rfl, rfl, rfl, rfl⟩
  · exact ⟨by simp, rfl, rfl, rfl⟩
/-- An object is let go; its block may be another then. -/
theorem evo_lost [Rho] {μ : Mu} {H : Heap} {w w' : World} (r : Rep μ H.get w) (d : Dom μ H.next) {q : Nat} {o : AObj} (hq : H.get q = some o) (hown : owned o = true) {l : Loc} (hl : μ q = some l ∧ l.nil = false)
    (hk : ∀ b, b ≠ l.b → w'.heap[b]? = w.heap[b]?) (hs : w'.heap.size = w.heap.size) (hos : w'.os = w.os) (htp : w'.tape = w.tape) (hou : w'.output = w.output) : Evo μ H.get H.next w μ (H.kill q).get (H.kill q).next w' := by
  have hgk : ∀ j o, (H.kill q).get j = some o → H.get j = some o ∧ j ≠ q := fun j o h => by
    rw [get_kill] at h
    split at h
    · cases h
    · rename_i e; exact ⟨h, e⟩
  refine ⟨Ext.refl μ, ⟨fun j oj h => ?_, fun i j oi oj li lj h1 h2 => r.inj i j oi oj li lj (hgk _ _ h1).1 (hgk _ _ h2).1⟩, Nat.le_refl _, d, fun j m h1 h2 => (by rw [h2] at h1; cases h1), fun b _ hm => hk b fun e => hm ⟨q, o, l, hq, hown, hl, e.symm⟩, fun b m _ => ?_, fun j o h => .inl ⟨o, (hgk _ _ h).1⟩, by omega, hos, htp, hou⟩
  · obtain ⟨h1, h2⟩ := hgk _ _ h
    refine (r.obj j oj h1).keep (Ext.refl μ) fun m hm hz => hk _ fun hb => ?_
    exact r.inj j q oj o m l h1 hq h2 (.inr hown) hm hl.1 hz hl.2 hb
  · obtain ⟨j, oj, m, h1, h2, h3, h4⟩ := m
    exact ⟨j, oj, m, (hgk _ _ h1).1, h2, h3, h4⟩
abbrev fStr : FuncId := 16
/-- String: the octets; the buffer is read for the last time. -/
def strG : CtrG
  | [.ptr id off], H => match H.get id with
    | some (.row vs _ _) => match vs[off + 1]? with
      | some (.slice q 0 n (.unk 1)) => match H.get q with
        | some (.abs 0 (.cs t)) => bif Nat.beq n t.length && (Nat.blt 0 n && Nat.blt n 100000) then some (.cb true, .str t, H.kill q) else none
        | _ => none
      | _ => none
    | _ => none
  | _, _ => none
theorem byteCells_oct (t : List UInt8) : t.map (fun b => Value.int .u8 (b.toNat : Int)) = Lib.byteCells t := rfl
set_option maxHeartbeats 2000000 in
set_option maxRecDepth 100000 in
theorem str_CG {ρ : Rho} : CG ρ fStr strG := fun args H o v H' _ h ho => by
  letI : Rho := ρ
  unfold strG at h
  split at h
  · rename_i id off
    split at h
    · rename_i vs own lf hg
      split at h
      · rename_i q n h1
        split at h
        · rename_i t hq
          cases hb : (Nat.beq n t.length && (Nat.blt 0 n && Nat.blt n 100000)) with
          | false => rw [hb] at h; cases h
          | true =>
            rw [hb] at h
            cases h
            simp only [Bool.and_eq_true, Nat.blt_eq] at hb
            obtain ⟨hn, hn0, hsm⟩ := hb
            have hn := Nat.eq_of_beq_eq_true hn
            refine ⟨fun μ w cargs ha r d => ?_, LG.kill _ _⟩
            obtain ⟨y, r', ⟨l, hl, rfl⟩, rfl, rfl⟩ := ha
            obtain ⟨l', c, e, lo, hi, ⟨q1, qz⟩, q2, _, _, _, _, q7⟩ := rep_row r hg
            rw [hl] at q1; cases q1
            obtain ⟨_, y1, e2, lq, e3, _, _, _, _, e5⟩ := q7 (off + 1) _ h1
            obtain ⟨lq', cq, eq, lo', hi', ⟨a1, az⟩, a2, a3, a4, rfl, a5, a6, a7, a8, a9⟩ := r.obj _ _ hq
            rw [e3] at a1; cases a1
            have ht : (@Tm.den ρ (.cs t)).asS = t := rfl
            rw [ht] at a7 a9
            have c1 : w.drew.cell? ⟨l.b, l.s + off + 1, none⟩ = some (.slice (some ⟨lq.b, 0, none⟩) n lq.cap) := by
              show w.cell? _ = _
              rw [Lib.cell_of_heap q2, Nat.add_assoc, e2]
              rcases e5 with h | ⟨h, _⟩
              · rw [h, a5]; rfl
              · omega
            have hc0 : lq.cap ≠ 0 := by rw [a6, a7] at a4; omega
            have htl : t ≠ [] := fun e => by subst e; simp at hn; omega
            have hSD : (Builtin.unsafeSliceData_ #[31] 60 #[.slice (some ⟨lq.b, 0, none⟩) n lq.cap]).run Tryz.prog w.drew = .ok (.pointer (some ⟨lq.b, 0, none⟩)) w.drew :=
              Lib.run_unsafeSliceData_row _ _ _ _ _ _ hc0
            have hUS : (Builtin.unsafeString_ #[60, 3] 9 #[.pointer (some ⟨lq.b, 0, none⟩), .int .i64 n]).run Tryz.prog w.drew = .ok (.string ⟨t.toArray⟩) (w.drew.freeze ⟨lq.b, 0, none⟩ n) := by
              rw [hn]
              refine Lib.run_unsafeString_row w.drew 60 3 9 5 Tryz.underlying60 (by kernel_rfl) lq.b cq.size (by have hg' : w.drew.heap[lq.b]? = some (.cells cq 5 (lo', hi')) := a2; simp [World.shape?, hg']) t htl (by rw [a8]; rw [a6, a7] at a4; omega) (by omega) ?_
              intro j x hx
              have hj := (List.getElem?_eq_some_iff.1 hx).1
              show w.cell? _ = _
              have ha : ((⟨lq.b, 0, none⟩ : Addr).add j) = ⟨lq.b, j, none⟩ := by
                unfold Addr.add
                by_cases h : j = 0
                · simp [h]
                · simp [h]
              rw [ha, Lib.cell_of_heap a2]
              have := congrArg (fun l => l[j]?) a9
              simp only [List.getElem?_take, if_pos hj, Array.getElem?_toList, List.getElem?_map, hx] at this
              exact this
            have hfin : Evo μ H.get H.next w μ (H.kill q).get (H.kill q).next (w.drew.freeze ⟨lq.b, 0, none⟩ n) := by
              obtain ⟨f1, f2, f3, f4⟩ := freeze_rest w.drew ⟨lq.b, 0, none⟩ n
              exact evo_lost r d hq rfl ⟨e3, az⟩ (fun b hb => freeze_ne w.drew ⟨lq.b, 0, none⟩ n b hb) f1 f2 f3 f4
            clear hn hn0 hsm hq h1 hg e5 a9 ht
            go_enter Tryz.func16, Tryz.ntmps16
            go_wp2
            go_region
            all_goals (go_wp2; go_ret; exact ⟨μ, _, rfl, rfl, hfin⟩)
        · cases h
      · cases h
    · cases h
  · cases h
def tabS : List (Nat × CtrG) := (fStr, strG) :: tabB
theorem tabS_ok {ρ : Rho} : TabOK ρ tabS := ⟨str_CG, tabB_ok⟩
end
end Go.Proofs.YtnncgjhgmmdilaaGreatDoor.Ab
