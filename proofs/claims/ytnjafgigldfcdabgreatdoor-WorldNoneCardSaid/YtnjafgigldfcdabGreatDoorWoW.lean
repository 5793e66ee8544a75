/-
  WorldNone, called: it returns true and makes at most new blocks.
  Conditions: the package's variables read as they are laid; works returns true where they are (told ahead).
-/
import Derived.Test.YtnjafgigldfcdabGreatDoorWoN
import Derived.Test.YtnjafgigldfcdabGreatDoorRd
import Derived.Test.YtnjafgigldfcdabGreatDoorRows
namespace Go.Proofs.YtnjafgigldfcdabGreatDoor.Ab
set_option linter.unusedSimpArgs false
set_option linter.unusedVariables false
open Go Go.ChangeShapes Go.WideShapes
set_option linter.unusedSectionVars false
noncomputable section
def laidL : List (String × DataW Unit) := [("partyline/fcs.half", Rows.laid_partyline_fcs_half), ("partyline/field.octets", Rows.laid_partyline_field_octets)]
set_option maxRecDepth 100000 in
theorem g_half : Tryz.prog.globalNamed "partyline/fcs.half" = some 1 := by kernel_rfl
set_option maxRecDepth 100000 in
theorem g_oct : Tryz.prog.globalNamed "partyline/field.octets" = some 0 := by kernel_rfl
set_option maxRecDepth 100000 in
theorem t_half : (Tryz.prog.globals[1]?).map (·.type) = some 373 := by kernel_rfl
set_option maxRecDepth 100000 in
theorem t_oct : (Tryz.prog.globals[0]?).map (·.type) = some 311 := by kernel_rfl
theorem var_cells {w : World} {n : String} {g : Nat} {cs : Array Value} (hg : Tryz.prog.globalNamed n = some g) (h : w.var? Tryz.prog n = some cs) : ∃ e fz, w.heap[g]? = some (.cells cs e fz) := by
  unfold World.var? at h
  rw [hg] at h
  simp only [Option.bind_some] at h
  split at h
  · rename_i c e fz hc
    cases h
    exact ⟨e, fz, hc⟩
  · cases h
/-- The variables' blocks. -/
theorem laid_blocks {w : World} (h : laidMetH Tryz.prog laidL w) : (∃ c e lo hi, w.heap[1]? = some (.cells c e (lo, hi)) ∧ c.toList = halfL.map fun v => .int .u8 v) ∧ ∃ c e lo hi, w.heap[0]? = some (.cells c e (lo, hi)) ∧ c.toList = octL.map fun v => .int .u8 v := by
  have h : laidMet Tryz.prog laidL w := h
  obtain ⟨ps, hl, _, _⟩ := h
  obtain ⟨g1, t1, c1, f1, p1, q1, a1, a2, a3, a4, hl, _⟩ := hl
  obtain ⟨g2, t2, c2, f2, p2, q2, b1, b2, b3, b4, _, _⟩ := hl
  rw [g_half] at a1; cases a1
  rw [t_half] at a2; cases a2
  rw [g_oct] at b1; cases b1
  rw [t_oct] at b2; cases b2
  obtain ⟨e1, ⟨lo1, hi1⟩, k1⟩ := var_cells g_half a3
  obtain ⟨e2, ⟨lo2, hi2⟩, k2⟩ := var_cells g_oct b3
  exact ⟨⟨c1, e1, lo1, hi1, k1, laid_octets (vals := halfL) Tryz.underlying373 Tryz.underlying5 (by kernel_rfl) (by kernel_rfl) a4⟩,
    c2, e2, lo2, hi2, k2, laid_octets (vals := octL) Tryz.underlying311 Tryz.underlying5 (by kernel_rfl) (by kernel_rfl) b4⟩
theorem oct_rep [ρ : Rho] {μ : Mu} {id b : Nat} {w : World} {l : List Int} {c : Array Value} {e : TypeId} {lo hi : Nat} (hμ : μ id = some ⟨b, 0, l.length, 1, l.length, false⟩) (hb : w.heap[b]? = some (.cells c e (lo, hi))) (hc : c.toList = l.map fun v => .int .u8 v) : RepO μ id w (.row (u8s l) false true) := by
  have hs : c.size = l.length := by
    have := congrArg List.length hc
    simpa using this
  refine ⟨_, c, e, lo, hi, ⟨hμ, rfl⟩, hb, by simp [u8s], by show l.length ≤ l.length * 1; omega, by show 0 + l.length * 1 ≤ c.size; omega, fun h => (by cases h), fun i x hx => ?_⟩
  unfold u8s at hx
  rw [List.getElem?_map] at hx
  cases hv : l[i]? with
  | none => rw [hv] at hx; cases hx
  | some n =>
    rw [hv] at hx
    cases hx
    refine ⟨rfl, .int .u8 n, ?_, rfl⟩
    show c[0 + i]? = _
    rw [Nat.zero_add, ← Array.getElem?_toList, hc, List.getElem?_map, hv]; rfl
theorem laid_rep [ρ : Rho] {w : World} (h : laidMetH Tryz.prog laidL w) (l2 : Loc) : ∃ μ : Mu, μ 2 = some l2 ∧ Rep μ HzW.get w ∧ Dom μ HzW.next := by
  obtain ⟨⟨c1, e1, lo1, hi1, k1, k2⟩, c0, e0, lo0, hi0, j1, j2⟩ := laid_blocks h
  let μ : Mu := fun id => if id = 0 then some ⟨0, 0, 0, 0, 0, true⟩ else if id = 1 then some ⟨0, 0, 0, 0, 0, true⟩ else if id = 2 then some l2 else if id = 3 then some ⟨0, 0, octL.length, 1, octL.length, false⟩ else if id = 4 then some ⟨1, 0, halfL.length, 1, halfL.length, false⟩ else none
  refine ⟨μ, rfl, ⟨fun id o ho => ?_, fun i j oi oj li lj h1 h2 _ ho => ?_⟩, fun id hid => ?_⟩
  · have hm := look_mem ho
    simp only [HzW, pinsW, List.mem_cons, List.not_mem_nil, or_false] at hm
    rcases hm with hm | hm | hm | hm
    · cases hm
      exact ⟨_, _, ⟨rfl, rfl⟩, ⟨rfl, rfl⟩, rfl, rfl⟩
    · cases hm
      exact ⟨_, _, ⟨rfl, rfl⟩, ⟨rfl, rfl⟩, rfl, rfl⟩
    · cases hm
      exact oct_rep rfl j1 j2
    · cases hm
      exact oct_rep rfl k1 k2
  · rcases ho with ho | ho
    · rw [hz_ro i oi h1] at ho; cases ho
    · rw [hz_ro j oj h2] at ho; cases ho
  · have hid : 5 ≤ id := hid
    show (if id = 0 then _ else if id = 1 then _ else if id = 2 then _ else if id = 3 then _ else if id = 4 then _ else none) = none
    rw [if_neg (by omega), if_neg (by omega), if_neg (by omega), if_neg (by omega), if_neg (by omega)]
abbrev rhoWn (a b d n : Int) (s : List UInt8) (m : Int) : Rho := ⟨fun i => [Dat.dI a, .dI b, .dI d, .dI n, .dS s, .dI m].getD i (.dI 0), fun _ d => d⟩
end
end Go.Proofs.YtnjafgigldfcdabGreatDoor.Ab
namespace Go.Proofs.YtnjafgigldfcdabGreatDoor
open Go Go.ChangeShapes Go.WideShapes Go.Proofs.YtnjafgigldfcdabGreatDoor.Ab
/-- A slice whose length alone matters. -/
inductive LenAt (w : World) : Value → Nat → Prop where
  | nil : LenAt w (.slice none 0 0) 0
  | none (a : Addr) : LenAt w (.slice (some a) 0 0) 0
  | some (a : Addr) (len cap : Nat) (hs : a.spot = none) (hl : len ≤ cap) : LenAt w (.slice (some a) len cap) len
set_option maxRecDepth 100000 in
theorem worldNone_walk (a : Int) (b : Int) (d : Int) (n : Int) (s : List UInt8) (v : Value) (w : World) (m : Nat) (hv : LenAt w v m) (hlaid : laidMetH Tryz.prog laidL w) :
    Calls Tryz.prog fWNone #[.agg #[.int .u8 a, .int .u8 b, .int .u8 d, .int .i64 n, .string ⟨s.toArray⟩, v]] w fun e w' => e = .returned (.bool true) ∧ RowKit.Below w.heap.size w w' := by
  letI ρ : Rho := rhoWn a b d n s (m : Int)
  obtain ⟨l2, hl2⟩ : ∃ l2 : Ab.Loc, ∀ μ : Mu, μ 2 = some l2 → VR μ (.sslice 2 4 (.ci 0) (.var 5)) v := by
    cases hv with
    | nil => exact ⟨⟨0, 0, 0, 4, 0, true⟩, fun μ hμ => ⟨_, hμ, rfl, by decide, Int.le_refl 0, Int.le_refl 0, ⟨Nat.le_refl 0, Nat.le_refl 0⟩, .inr ⟨rfl, rfl, rfl⟩⟩⟩
    | none q => exact ⟨⟨0, 0, 0, 4, 0, false⟩, fun μ hμ => ⟨_, hμ, rfl, by decide, Int.le_refl 0, Int.le_refl 0, ⟨Nat.le_refl 0, Nat.le_refl 0⟩, .inl ⟨rfl, .inr ⟨rfl, q, rfl⟩⟩⟩⟩
    | some q len cap hs hl => exact ⟨locOf q cap 4, fun μ hμ => sslice_VR (by decide) hs hl hμ rfl⟩
  obtain ⟨μ, h2, r, dm⟩ := laid_rep hlaid l2
  exact call_true_at (evFun_ok noCountW (envW_ok envM_ok works27) 1000) (f := fWNone) (args := [argStep]) (H := HzW) rfl hz_ro (Tree.allT_ok _ lawW_ok) (μ := μ)
    (cargs := [.agg #[.int .u8 a, .int .u8 b, .int .u8 d, .int .i64 n, .string ⟨s.toArray⟩, v]]) ⟨_, _, ⟨[_, _, _, _, _, _], ⟨_, _, rfl, ⟨_, _, rfl, ⟨_, _, rfl, ⟨_, _, rfl, ⟨_, _, rfl, ⟨_, _, hl2 μ h2, rfl, rfl⟩, rfl⟩, rfl⟩, rfl⟩, rfl⟩, rfl⟩, rfl⟩, rfl, rfl⟩ r dm
end Go.Proofs.YtnjafgigldfcdabGreatDoor
