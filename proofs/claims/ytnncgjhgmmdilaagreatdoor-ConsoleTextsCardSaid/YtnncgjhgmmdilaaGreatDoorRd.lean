/-
  What slices of plain elements read as, wherever they stand; arrays of octets that are laid.
  Conditions: as each theorem tells.
-/
import Derived.Test.YtnncgjhgmmdilaaGreatDoorAbF
import Derived.Test.YtnncgjhgmmdilaaGreatDoorProg
import Derived.OpenShut
namespace Go.Proofs.YtnncgjhgmmdilaaGreatDoor
set_option linter.unusedSimpArgs false
set_option linter.unusedVariables false
open Go Go.ChangeShapes Go.WideShapes Go.Proofs.YtnncgjhgmmdilaaGreatDoor.Ab
set_option linter.unusedSectionVars false
section
variable {H : Type} {enc : TypeId × Value → H} {w : World}
/-- A slice of plain elements, wherever it is read. -/
theorem read_slice {held : Bool} {t e : TypeId} {sh : List Kd} {fuel : Nat} {v : Value} {x : DataW H × List MemPlace} (n : Nat) (ht : Tryz.prog.underlying t = some (.slice e)) (hsh : flatK Tryz.prog n e = some sh) (hk : Tryz.prog.cellsOf e = sh.length) (h0 : 0 < sh.length)
    (hx : DataW.trod enc Tryz.prog w 0 (fun _ => true) held fuel t [v] = some x) : v = .slice none 0 0 ∨ (∃ a, v = .slice (some a) 0 0) ∨ ∃ a len cap rows, v = .slice (some a) len cap ∧ len ≤ maxLen ∧ SliceAt w a len cap sh rows := by
  rcases DataW.trod_slice ht hx with ⟨h1, _⟩ | ⟨a, len, cap, elems, rest, m, _, hcs, _, _, hl, hm, hlen, hel, hsp, _⟩
  · left; simpa using h1
  · right
    have hv : v = .slice (some a) len cap := by simpa using hcs
    subst hv
    by_cases hc0 : cap = 0
    · left
      obtain rfl : len = 0 := by omega
      subst hc0
      exact ⟨a, rfl⟩
    · right
      obtain ⟨hr1, hr2⟩ := hsp rfl
      -- the first element, or the first one behind, can be read
      have hfirst : ∃ cs, w.cells? 0 a (Tryz.prog.cellsOf e) = some cs := by
        by_cases hl0 : 0 < len
        · have := hel 0 hl0
          rw [List.getElem?_eq_getElem (by omega), Option.bind_eq_some_iff] at this
          obtain ⟨cs, h2, _⟩ := this
          exact ⟨cs, by simpa [Addr.add] using h2⟩
        · obtain rfl : len = 0 := by omega
          have := hr2 0 (by omega)
          rw [List.getElem?_eq_getElem (by omega), Option.bind_eq_some_iff] at this
          obtain ⟨cs, h2, _⟩ := this
          exact ⟨cs, by simpa [Addr.add] using h2⟩
      obtain ⟨cs0, hcs0⟩ := hfirst
      obtain ⟨_, hcl0, hat0⟩ := World.cells?_some hcs0
      have hc0' := hat0 0 (by rw [hk]; exact h0)
      have hadd0 : a.add 0 = a := rfl
      rw [hadd0] at hc0'
      obtain ⟨y0, hy0⟩ : ∃ y, cs0[0]? = some y := ⟨_, List.getElem?_eq_getElem (by rw [hcl0, hk]; exact h0)⟩
      rw [hy0] at hc0'
      obtain ⟨c, e0, fz, hc⟩ : ∃ c e0 fz, w.heap[a.block]? = some (.cells c e0 fz) := by
        unfold World.cell? at hc0'
        split at hc0'
        · rename_i c el fz hc; exact ⟨c, el, fz, hc⟩
        · cases hc0'
      have hspot : a.spot = none := by
        unfold World.cell? at hc0'
        rw [hc] at hc0'
        simp only at hc0'
        cases hsq : a.spot with
        | none => rfl
        | some q => rw [hsq] at hc0'; simp at hc0'
      obtain ⟨lo, hi⟩ := fz
      have hrow : ∀ i, i < len → ∃ row, ∃ cs, w.cells? 0 (a.add (i * Tryz.prog.cellsOf e)) (Tryz.prog.cellsOf e) = some cs ∧ RowK sh row cs := fun i hi' => by
        have h1 := hel i hi'
        rw [List.getElem?_eq_getElem (by omega), Option.bind_eq_some_iff] at h1
        obtain ⟨cs, h2, h3⟩ := h1
        obtain ⟨row, h4⟩ := trod_flat n hsh h3
        exact ⟨row, cs, h2, h4⟩
      refine ⟨a, len, cap, (List.range len).map fun i => if h : i < len then Classical.choose (hrow i h) else [], rfl, by omega, ⟨hspot, hl, by simp, ⟨c, e0, lo, hi, hc, fun i hi' j kd hj => ?_⟩, fun i hi' j kd hj => ?_, fun i hi' => ?_⟩⟩
      all_goals
        have hget : ((List.range len).map fun i => if h : i < len then Classical.choose (hrow i h) else []).getD i [] = Classical.choose (hrow i hi') := by
          simp [List.getD_eq_getElem?_getD, hi']
        obtain ⟨cs, h2, h3⟩ := Classical.choose_spec (hrow i hi')
        rw [hget]
      · obtain ⟨_, hcl, h4⟩ := World.cells?_some h2
        have hjl := (List.getElem?_eq_some_iff.1 hj).1
        have h5 := h4 j (by rw [hk]; exact hjl)
        rw [(h3.get j kd hj).1] at h5
        have hadd : (a.add (i * Tryz.prog.cellsOf e)).add j = ⟨a.block, a.off + (i * sh.length + j), none⟩ := by
          obtain ⟨b, o, s⟩ := a
          simp only at hspot
          subst hspot
          rw [hk]
          unfold Addr.add
          by_cases h6 : i * sh.length = 0
          · by_cases h7 : j = 0
            · simp [h6, h7]
            · simp [h6, h7]
          · by_cases h7 : j = 0
            · simp [h6, h7]
            · simp [h6, h7, Nat.add_assoc]
        rw [hadd] at h5
        unfold World.cell? at h5
        simp only [hc] at h5
        simpa using h5
      · exact (h3.get j kd hj).2
      · exact h3.len.1
theorem laid_octets {held : Bool} {t e : TypeId} {n fuel : Nat} {cs : List Value} {vals : List Int} {p : List MemPlace} (ht : Tryz.prog.underlying t = some (.array n e)) (he : Tryz.prog.underlying e = some (.int .u8)) (hk : Tryz.prog.cellsOf e = 1) (hc : Tryz.prog.cellsOf t = n)
    (h : DataW.trod enc Tryz.prog w 0 (fun _ => true) held fuel t cs = some (.agg (vals.map fun v => .lit (.int .u8 v)), p)) : cs = vals.map fun v => .int .u8 v := by
  obtain ⟨xs, m, e1, e2, hl, hxl, hg⟩ := DataW.trod_array ht h
  have e3 : vals.map (fun v => (DataW.lit (.int .u8 v) : DataW H)) = xs.map (·.1) := by
    have := (Prod.mk.inj e2).1
    simpa using this
  have hvl : vals.length = n := by
    have := congrArg List.length e3
    simpa [hxl] using this
  apply List.ext_getElem?
  intro i
  by_cases hi : i < n
  · have h1 := hg i hi
    rw [hk, Nat.mul_one, List.getElem?_eq_getElem (by omega)] at h1
    obtain ⟨v, q1, q2, _⟩ := DataW.trod_int he h1
    have q3 : cs[i]? = some (.int .u8 v) := by
      have : (List.take 1 (List.drop i cs))[0]? = some (.int .u8 v) := by rw [q1]; rfl
      simpa [List.getElem?_take, List.getElem?_drop] using this
    have q4 : (vals.map (fun v => (DataW.lit (.int .u8 v) : DataW H)))[i]? = some (.lit (.int .u8 v)) := by
      rw [e3, List.getElem?_map, List.getElem?_eq_getElem (by omega), q2]; rfl
    rw [q3, List.getElem?_map]
    rw [List.getElem?_map] at q4
    cases hv : vals[i]? with
    | none => rw [hv] at q4; cases q4
    | some u =>
      rw [hv] at q4
      simp at q4
      subst q4; rfl
  · rw [List.getElem?_eq_none (by omega), List.getElem?_eq_none (by simp; omega)]
theorem laid_ints (k : IntKind) {held : Bool} {t e : TypeId} {n fuel : Nat} {cs : List Value} {vals : List Int} {p : List MemPlace} (ht : Tryz.prog.underlying t = some (.array n e)) (he : Tryz.prog.underlying e = some (.int k)) (hk : Tryz.prog.cellsOf e = 1) (hc : Tryz.prog.cellsOf t = n)
    (h : DataW.trod enc Tryz.prog w 0 (fun _ => true) held fuel t cs = some (.agg (vals.map fun v => .lit (.int k v)), p)) : cs = vals.map fun v => .int k v := by
  obtain ⟨xs, m, e1, e2, hl, hxl, hg⟩ := DataW.trod_array ht h
  have e3 : vals.map (fun v => (DataW.lit (.int k v) : DataW H)) = xs.map (·.1) := by
    have := (Prod.mk.inj e2).1
    simpa using this
  have hvl : vals.length = n := by
    have := congrArg List.length e3
    simpa [hxl] using this
  apply List.ext_getElem?
  intro i
  by_cases hi : i < n
  · have h1 := hg i hi
    rw [hk, Nat.mul_one, List.getElem?_eq_getElem (by omega)] at h1
    obtain ⟨v, q1, q2, _⟩ := DataW.trod_int he h1
    have q3 : cs[i]? = some (.int k v) := by
      have : (List.take 1 (List.drop i cs))[0]? = some (.int k v) := by rw [q1]; rfl
      simpa [List.getElem?_take, List.getElem?_drop] using this
    have q4 : (vals.map (fun v => (DataW.lit (.int k v) : DataW H)))[i]? = some (.lit (.int k v)) := by
      rw [e3, List.getElem?_map, List.getElem?_eq_getElem (by omega), q2]; rfl
    rw [q3, List.getElem?_map]
    rw [List.getElem?_map] at q4
    cases hv : vals[i]? with
    | none => rw [hv] at q4; cases q4
    | some u =>
      rw [hv] at q4
      simp at q4
      subst q4; rfl
  · rw [List.getElem?_eq_none (by omega), List.getElem?_eq_none (by simp; omega)]
end
end Go.Proofs.YtnncgjhgmmdilaaGreatDoor
