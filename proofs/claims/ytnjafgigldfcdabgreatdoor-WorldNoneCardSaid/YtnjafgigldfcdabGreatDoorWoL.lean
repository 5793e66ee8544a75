/-
  WorldNone: where its calls begin; what it answers where works is true.
  Conditions: as each theorem tells.
-/
import Derived.Test.YtnjafgigldfcdabGreatDoorMem
import Derived.Test.YtnjafgigldfcdabGreatDoorProg
namespace Go.Proofs.YtnjafgigldfcdabGreatDoor.Ab
set_option linter.unusedSimpArgs false
set_option linter.unusedVariables false
open Go
set_option linter.unusedSectionVars false
noncomputable section
def u8s (l : List Int) : List AV := l.map fun n => .int .u8 n
def octL : List Int := [0, 47, 99, 15, 67, 239, 3, 0, 1, 5, 9]
def halfL : List Int := [0, 28, 56, 36, 112, 108, 72, 84, 224, 252, 216, 196, 144, 140, 168, 180]
/-- The package's variables: 0 field.octets, 1 fcs.half. -/
def pinsW : List (Nat × AObj) := [(0, .pin 0 3), (1, .pin 1 4), (3, .row (u8s octL) false true), (4, .row (u8s halfL) false true)]
def HzW : Heap := ⟨5, pinsW, [], []⟩
abbrev fWks : FuncId := 4
abbrev fWNone : FuncId := 3
/-- Are the variables there? -/
def pinIn (H : Heap) (p : Nat × AObj) : Bool := match H.get p.1 with
  | some o => eqvO o p.2
  | none => false
/-- works, where they are. -/
def worksP (args : List AV) (H : Heap) : Option (Tm × AV × Heap) := match args with
  | [] => bif pinsW.all (pinIn H) then some (.cb true, .bool true, H) else none
  | _ => none
def envW : Env := ⟨fun f => bif Nat.beq f fWks then some worksP else none, fun _ _ => none⟩
/-- A step: 0 to 3 its numbers, 4 its data, 5 how many damages. -/
abbrev argStep : AV := .agg [.sint .u8 (.var 0), .sint .u8 (.var 1), .sint .u8 (.var 2), .sint .i64 (.var 3), .sstr (.var 4), .sslice 2 4 (.ci 0) (.var 5)]
def lawW : Tree AV := evFun Tryz.prog envW 1000 fWNone [argStep] HzW fun v _ => .leaf v
set_option maxRecDepth 100000 in
theorem lawW_ok : Tree.allT lawW = true := by kernel_rfl
theorem noCountW : NoCount Tryz.prog := noCount_of (by kernel_rfl) (by kernel_rfl)
theorem hz_ro : ∀ id o, HzW.get id = some o → owned o = false := fun id o ho => by
  have h := look_mem ho
  simp only [HzW, pinsW, List.mem_cons, List.not_mem_nil, or_false] at h
  rcases h with h | h | h | h <;> (cases h; rfl)
/-- Rows of octets read alike under all maps. -/
theorem octs_cut [ρ : Rho] {μ μ' : Mu} {id : Nat} {w : World} {l : List Int} (he : μ' id = μ id) (h : RepO μ id w (.row (u8s l) false true)) : RepO μ' id w (.row (u8s l) false true) := by
  obtain ⟨L, c, e, lo, hi, ⟨h1, hz⟩, h2, h3, h4, h5, h6, h7⟩ := h
  refine ⟨L, c, e, lo, hi, ⟨he.trans h1, hz⟩, h2, h3, h4, h5, h6, fun i x hx => ?_⟩
  obtain ⟨h8, y, h9, h10⟩ := h7 i x hx
  refine ⟨h8, y, h9, ?_⟩
  unfold u8s at hx
  rw [List.getElem?_map] at hx
  cases hv : l[i]? with
  | none => rw [hv] at hx; cases hx
  | some n =>
    rw [hv] at hx
    cases hx
    exact h10
theorem worksP_ok [ρ : Rho] {env : Env} (he : EnvOK Tryz.prog env) (hT : Tree.allT (evFun Tryz.prog env 1000 fWks [] HzW fun v _ => .leaf v) = true) {args : List AV} {H : Heap} {o : Tm} {v : AV} {H' : Heap} (h : worksP args H = some (o, v, H')) : CallS Tryz.prog fWks args H v H' ∧ LG H H' := by
  unfold worksP at h
  split at h
  · cases hb : pinsW.all (pinIn H) with
    | false => rw [hb] at h; cases h
    | true =>
      rw [hb] at h
      cases h
      have hin : ∀ p ∈ pinsW, H.get p.1 = some p.2 := fun p hp => by
        have := List.all_eq_true.1 hb p hp
        unfold pinIn at this
        split at this
        · rename_i o ho; rw [ho, eqvO_eq this]
        · cases this
      refine ⟨fun μ w cargs hv r d => ?_, LG.refl _⟩
      cases hv
      let μ5 : Mu := fun id => if id < 5 then μ id else none
      have e5 : ∀ id, id < 5 → μ5 id = μ id := fun id hid => if_pos hid
      have r5 : Rep μ5 HzW.get w := by
        refine ⟨fun id o ho => ?_, fun i j oi oj li lj h1 h2 _ ho => ?_⟩
        · have hm := look_mem ho
          have hr := r.obj id o (hin (id, o) hm)
          simp only [HzW, pinsW, List.mem_cons, List.not_mem_nil, or_false] at hm
          rcases hm with hm | hm | hm | hm
          · cases hm
            obtain ⟨l, l', ⟨q1, q2⟩, ⟨q3, q4⟩, q5⟩ := hr
            exact ⟨l, l', ⟨(e5 0 (by omega)).trans q1, q2⟩, ⟨(e5 3 (by omega)).trans q3, q4⟩, q5⟩
          · cases hm
            obtain ⟨l, l', ⟨q1, q2⟩, ⟨q3, q4⟩, q5⟩ := hr
            exact ⟨l, l', ⟨(e5 1 (by omega)).trans q1, q2⟩, ⟨(e5 4 (by omega)).trans q3, q4⟩, q5⟩
          · cases hm
            exact octs_cut (e5 3 (by omega)) hr
          · cases hm
            exact octs_cut (e5 4 (by omega)) hr
        · rcases ho with ho | ho
          · rw [hz_ro i oi h1] at ho; cases ho
          · rw [hz_ro j oj h2] at ho; cases ho
      have d5 : Dom μ5 HzW.next := fun id hid => by
        have hid : 5 ≤ id := hid
        show (if id < 5 then _ else none) = none
        rw [if_neg (by omega)]
      exact (call_true_at (evFun_ok noCountW he 1000) (f := fWks) (args := []) (H := HzW) rfl hz_ro (Tree.allT_ok _ hT) (μ := μ5) (cargs := []) rfl r5 d5).mono fun e w' hh => ⟨μ, _, hh.1, rfl, evo_below r d hh.2⟩
  · cases h
theorem envW_ok [ρ : Rho] {env : Env} (he : EnvOK Tryz.prog env) (hT : Tree.allT (evFun Tryz.prog env 1000 fWks [] HzW fun v _ => .leaf v) = true) : EnvOK Tryz.prog envW := envOK_fn (fun f g hg args H o v H' hp hgs ho => by
  simp only [envW] at hg
  cases hb : Nat.beq f fWks with
  | false => rw [hb] at hg; cases hg
  | true =>
    simp only [hb, cond_true, Option.some.injEq] at hg; subst hg
    obtain rfl := Nat.eq_of_beq_eq_true hb
    exact worksP_ok he hT hgs) fun _ _ => rfl
end
end Go.Proofs.YtnjafgigldfcdabGreatDoor.Ab
