/-
  ConsoleTexts: the law, on contracts of Bytes and Text.
  Conditions: as each theorem tells.
-/
import Derived.Test.YtnncgjhgmmdilaaGreatDoorCtD
import Derived.Test.YtnncgjhgmmdilaaGreatDoorCtR
namespace Go.Proofs.YtnncgjhgmmdilaaGreatDoor.Ab
set_option linter.unusedSimpArgs false
set_option linter.unusedVariables false
open Go Go.Proofs.YtnncgjhgmmdilaaGreatDoor
set_option linter.unusedSectionVars false
set_option linter.unusedVariables false
noncomputable section
abbrev fLaw : FuncId := 3
abbrev fWk : FuncId := 4
/-- A word's bytes: 1; a text's: 3, and whether it is one: 4. -/
def fnTx (f : Nat) (d : Dat) : Dat := match f with
  | 1 => .dS (bytesL d.asS)
  | 3 => .dS (textL d.asS).1
  | 4 => .dB (textL d.asS).2
  | _ => .dI 0
def byG : CtrG
  | [.sstr t], H => some (.ib .leq .i64 (.len t) (.ci 100000), .sstr (.app 1 t), H)
  | _, _ => none
def txG : CtrG
  | [.sstr t], H => some (.ib .leq .i64 (.len t) (.ci 100000), .tuple [.sstr (.app 3 t), .sbool (.app 4 t)], H)
  | _, _ => none
/-- works, where the variables are. -/
def wkG : CtrG
  | [], H => bif pinsC.all (pinIn H) then some (.cb true, .bool true, H) else none
  | _, _ => none
def tabTx : List (Nat × CtrG) := [(fCB, byG), (fRB, byG), (fCT, txG), (fRT, txG), (fWk, wkG)]
def envTx : Env := ⟨tabGet tabTx, fun _ _ => none⟩
theorem by_CG {ρ : Rho} (hf : ρ.fn = fnTx) {f : FuncId} (hc : ∀ s : List UInt8, s.length ≤ 100000 → ∀ w, Calls Tryz.prog f #[stL s] w fun e w' => e = .returned (stL (bytesL s)) ∧ RowKit.Below w.heap.size w w') : CG ρ f byG := fun args H o v H' _ h ho => by
  letI : Rho := ρ
  unfold byG at h
  split at h
  · cases h
    have ho := of_decide_eq_true ho
    refine ⟨callS_new fun μ cargs w hv => ?_, LG.refl _⟩
    obtain ⟨x, r, rfl, rfl, rfl⟩ := hv
    refine (hc _ (by
      have : ((Tm.den _).asS.length : Int) ≤ 100000 := ho
      omega) w).mono fun e w' he => ⟨_, he.1, ?_, he.2⟩
    show _ = Value.string ⟨(ρ.fn 1 _).asS.toArray⟩
    rw [hf]; rfl
  · cases h
theorem tx_CG {ρ : Rho} (hf : ρ.fn = fnTx) {f : FuncId} (hc : ∀ s : List UInt8, s.length ≤ 100000 → ∀ w, Calls Tryz.prog f #[stL s] w fun e w' => e = .returned (.tuple #[stL (textL s).1, .bool (textL s).2]) ∧ RowKit.Below w.heap.size w w') : CG ρ f txG := fun args H o v H' _ h ho => by
  letI : Rho := ρ
  unfold txG at h
  split at h
  · cases h
    have ho := of_decide_eq_true ho
    refine ⟨callS_new fun μ cargs w hv => ?_, LG.refl _⟩
    obtain ⟨x, r, rfl, rfl, rfl⟩ := hv
    refine (hc _ (by
      have : ((Tm.den _).asS.length : Int) ≤ 100000 := ho
      omega) w).mono fun e w' he => ⟨_, he.1, ⟨[_, _], ⟨_, _, ?_, ⟨_, _, ?_, rfl, rfl⟩, rfl⟩, rfl⟩, he.2⟩
    · show _ = Value.string ⟨(ρ.fn 3 _).asS.toArray⟩
      rw [hf]; rfl
    · show _ = Value.bool (ρ.fn 4 _).asB
      rw [hf]; rfl
  · cases h
def lawTx : Tree AV := evFun Tryz.prog envTx 1000 fLaw [.sstr (vt 0)] HzC fun v _ => .leaf v
def lTx : (Tree AV) :=
 (.fork (.ib .gtr .i64 (.len (vt 0)) (.ci 600))
 (.leaf (.bool true))
 (.fork (.ib .leq .i64 (.len (vt 0)) (.ci 100000))
  (.fork (.ib .leq .i64 (.len (.app 1 (vt 0))) (.ci 100000))
   (.fork (.app 4 (.app 1 (vt 0)))
    (.fork (.sb .eql (.app 3 (.app 1 (vt 0))) (vt 0))
     (.fork (.not (.app 4 (vt 0)))
      (.leaf (.bool true))
      (.fork (.ib .leq .i64 (.len (.app 3 (vt 0))) (.ci 100000))
       (.fork (.sb .eql (.app 1 (.app 3 (vt 0))) (vt 0))
        (.leaf (.bool true))
        (.leaf (.bool false)))
       .fail))
     (.leaf (.bool false)))
    (.leaf (.bool false)))
   .fail)
  .fail))
set_option maxRecDepth 100000 in
theorem lTx_eq : lawTx = lTx := by kernel_rfl
theorem text_len (s : List UInt8) : (textL s).1.length ≤ s.length := by
  match s with
  | [] => exact Nat.le_refl _
  | c :: r =>
    unfold textL
    simp only
    by_cases hc : c = 61
    · rw [if_pos hc]
      cases hr : pairsL r with
      | none => exact Nat.zero_le _
      | some b =>
        have := pairs_len r hr
        show b.length ≤ (c :: r).length
        simp only [List.length_cons]; omega
    · rw [if_neg hc]; exact Nat.zero_le _
abbrev rhoX (s : List UInt8) : Rho := ⟨fun _ => .dS s, fnTx⟩
theorem lTx_sel (s : List UInt8) : @Tree.sel _ (rhoX s) lTx = some (.bool true) := by
  letI ρ : Rho := rhoX s
  have h0 : (Tm.len (vt 0)).den.asI = (s.length : Int) := rfl
  have h1 : (Tm.len (.app 1 (vt 0))).den.asI = ((bytesL s).length : Int) := rfl
  have h2 : (Tm.len (.app 3 (vt 0))).den.asI = ((textL s).1.length : Int) := rfl
  have hb := bytes_len s
  have ht := text_len s
  unfold lTx
  by_cases hs : s.length > 600
  · exact selT (gtr_T (by rw [h0, ci_asI]; omega)) rfl
  · refine selF (gtr_F (by rw [h0, ci_asI]; omega)) (selT (leq_T (by rw [h0, ci_asI]; omega)) (selT (leq_T (by rw [h1, ci_asI]; omega)) (selT ?_ (selT (seql_T ?_) ?_))))
    · show (textL (bytesL s)).2 = true
      rw [text_bytes]
    · show (textL (bytesL s)).1 = s
      rw [text_bytes]
    · cases hk : (textL s).2 with
      | false => exact selT (not_T (show (textL s).2 = false from hk)) rfl
      | true =>
        refine selF (not_F (show (textL s).2 = true from hk)) (selT (leq_T (by rw [h2, ci_asI]; omega)) (selT (seql_T ?_) rfl))
        show bytesL (textL s).1 = s
        exact bytes_text hk
/-! ### works -/
def runG : CtrG
  | [.str s], H => bif eqL s exL && pinsC.all (pinIn H) then some (.cb true, .tuple [.str outL, .int .i64 0], H) else none
  | _, _ => none
def envW : Env := ⟨tabGet ((fRun, runG) :: tabB), fun _ _ => none⟩
def RunOK : Prop := ∀ w, PinsAt w → Calls Tryz.prog fRun #[.string (S exL)] w fun e w' => e = .returned (.tuple #[.string (S outL), .int .i64 0]) ∧ RowKit.Below w.heap.size w w'
theorem run_CG {ρ : Rho} (hr : RunOK) : CG ρ fRun runG := fun args H o v H' _ h ho => by
  letI : Rho := ρ
  unfold runG at h
  split at h
  · rename_i s
    cases hb : (eqL s exL && pinsC.all (pinIn H)) with
    | false => rw [hb] at h; cases h
    | true =>
      rw [hb] at h
      cases h
      rw [Bool.and_eq_true] at hb
      obtain rfl := eqL_eq _ _ hb.1
      refine ⟨fun μ w cargs hv r d => ?_, LG.refl _⟩
      obtain ⟨x, r', rfl, rfl, rfl⟩ := hv
      exact (hr w (pins_of r hb.2)).mono fun e w' he => ⟨μ, _, he.1, ⟨[_, _], ⟨_, _, rfl, ⟨_, _, rfl, rfl, rfl⟩, rfl⟩, rfl⟩, evo_below r d he.2⟩
  · cases h
set_option maxRecDepth 100000 in
theorem wkT : (evFun Tryz.prog envW 1000 fWk [] HzC fun v _ => .leaf v : Tree AV) = .leaf (.bool true) := by kernel_rfl
theorem works_calls (hr : RunOK) (w : World) (hp : PinsAt w) : Calls Tryz.prog fWk #[] w fun e w' => e = .returned (.bool true) ∧ RowKit.Below w.heap.size w w' := by
  letI ρ : Rho := ⟨fun _ => .dI 0, fun _ d => d⟩
  obtain ⟨r, d⟩ := pins_rep hp
  exact call_val_at (evFun_ok noCount (env_of (ρ := ρ) (l := (fRun, runG) :: tabB) ⟨run_CG hr, tabB_ok⟩) 1000) (f := fWk) (args := []) (H := HzC) rfl pins_ro (v := .bool true) (by
    show (evFun Tryz.prog envW 1000 fWk [] HzC fun v _ => .leaf v : Tree AV).sel = _
    rw [wkT]; rfl) rfl (cargs := []) rfl r d
theorem wk_CG {ρ : Rho} (hr : RunOK) : CG ρ fWk wkG := fun args H o v H' _ h ho => by
  letI : Rho := ρ
  unfold wkG at h
  split at h
  · cases hb : pinsC.all (pinIn H) with
    | false => rw [hb] at h; cases h
    | true =>
      rw [hb] at h
      cases h
      refine ⟨fun μ w cargs hv r d => ?_, LG.refl _⟩
      cases hv
      exact (works_calls hr w (pins_of r hb)).mono fun e w' he => ⟨μ, _, he.1, rfl, evo_below r d he.2⟩
  · cases h
end
end Go.Proofs.YtnncgjhgmmdilaaGreatDoor.Ab
namespace Go.Proofs.YtnncgjhgmmdilaaGreatDoor
open Go Go.Proofs.YtnncgjhgmmdilaaGreatDoor.Ab
theorem consoleTexts_walk (hr : RunOK) (s : List UInt8) (w : World) (hp : PinsAt w) : Calls Tryz.prog fLaw #[.string ⟨s.toArray⟩] w fun e w' => e = .returned (.bool true) ∧ RowKit.Below w.heap.size w w' := by
  letI ρ : Rho := rhoX s
  obtain ⟨r, d⟩ := pins_rep hp
  exact call_val_at (evFun_ok noCount (env_of (ρ := ρ) (l := tabTx) ⟨by_CG rfl bytes_calls, by_CG rfl refBytes_calls, tx_CG rfl text_calls, tx_CG rfl refText_calls, wk_CG hr, trivial⟩) 1000) (f := fLaw) (args := [.sstr (vt 0)]) (H := HzC) rfl pins_ro (v := .bool true) (by
    show lawTx.sel = _
    rw [lTx_eq]; exact lTx_sel s) rfl (cargs := [.string ⟨s.toArray⟩]) ⟨_, _, rfl, rfl, rfl⟩ r d
end Go.Proofs.YtnncgjhgmmdilaaGreatDoor
