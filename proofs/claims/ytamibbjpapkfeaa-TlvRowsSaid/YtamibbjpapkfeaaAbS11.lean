import Derived.Test.YtamibbjpapkfeaaAbS10
import Derived.Test.YtamibbjpapkfeaaAbS18
namespace Go.Proofs.Ytamibbjpapkfeaa.Ab
set_option linter.unusedSimpArgs false
set_option linter.unusedVariables false
open Go
set_option linter.unusedSectionVars false
variable [Rho]
section
variable {P : Program}

/-- A deferred call. -/
def DefR (P : Program) (μ : Mu) (x : FuncId × List AV) (d : Deferred) : Prop :=
  ∃ fv cap cargs, d.target = .fn fv cap ∧ (∀ w, (invoke d.target d.args).run P w = .ok (.enter x.1 (List.toArray cargs)) w) ∧ VRs μ x.2 cargs
/-- What an operation does, against what it is said to do. -/
def OpRes (P : Program) (o : Oper) (a : Act) (w : World) (μ : Mu) (H : Heap) : AR → Prop
  | .val v H' => ∃ μ' c w', ((execOp a.eval o).run P w = .ok (.value c) w' ∨ ((execOp a.eval o).run P w = .ok .skip w' ∧ c = undef)) ∧ VR μ' v c ∧ Evo μ H.get H.next w μ' H'.get H'.next w'
  | .many l H' => ∀ v, pickM l = some v → ∃ μ' c w', ((execOp a.eval o).run P w = .ok (.value c) w' ∨ ((execOp a.eval o).run P w = .ok .skip w' ∧ c = undef)) ∧ VR μ' v c ∧ Evo μ H.get H.next w μ' H'.get H'.next w'
  | .call f args => ∃ cargs : List Value, (execOp a.eval o).run P w = .ok (.enter f cargs.toArray) w ∧ VRs μ args cargs
  | .ask q v H' => q.den.asB = true → ∃ μ' c w', ((execOp a.eval o).run P w = .ok (.value c) w' ∨ ((execOp a.eval o).run P w = .ok .skip w' ∧ c = undef)) ∧ VR μ' v c ∧ Evo μ H.get H.next w μ' H'.get H'.next w'
  | .dfr f args => ∃ d, (execOp a.eval o).run P w = .ok (.defer d) w ∧ DefR P μ (f, args) d
/-- No function of the program is the one that counts goroutines. -/
structure NoCount (P : Program) : Prop where
  cnt : ∀ (f : FuncId) (fn : Func), P.funcs[f]? = some fn → (fn.name == "runtime.NumGoroutine") = false
  mixed : P.follows .mixedOrders = true

theorem undef_VR (μ : Mu) : VR μ undefA undef := ⟨[], rfl, rfl⟩
theorem res_same {o : Oper} {a : Act} {w : World} {μ : Mu} {H : Heap} (r : Rep μ H.get w) (d : Dom μ H.next) {v : AV} {c : Value} (h : (execOp a.eval o).run P w = .ok (.value c) w) (hv : VR μ v c) : OpRes P o a w μ H (.val v H) :=
  ⟨μ, c, w, .inl h, hv, Evo.refl r d⟩
theorem run_v {s : Sem Value} {w w' : World} {c : Value} (h : s.run P w = .ok c w') : (do pure (.value (← s)) : Sem Next).run P w = .ok (.value c) w' := by
  simp only [Sem.run_bind, h, Result.andThen_ok, Sem.run_pure]
theorem run_u {s : Sem Unit} {w w' : World} (h : s.run P w = .ok () w') : (do s; pure .skip : Sem Next).run P w = .ok .skip w' := by
  simp only [Sem.run_bind, h, Result.andThen_ok, Sem.run_pure]
theorem callFunc_run (hn : NoCount P) {f : FuncId} (h : entersB P f = true) (args : Array Value) (w : World) : (callFunc f args).run P w = .ok (.enter f args) w := by
  unfold entersB at h
  split at h
  · rename_i fn hf
    have h1 := hn.cnt f fn hf
    have h2 : fn.body.isNone = false := by cases hb : fn.body <;> simp [hb] at h ⊢
    simp only [callFunc, Sem.run_bind, run_program, Result.andThen_ok, hf, h1, h2, Bool.false_eq_true, if_false, Sem.run_pure]
  · cases h
theorem VRs.toArray_append {μ : Mu} {a b : List AV} {x y : List Value} (h : VRs μ a x) (k : VRs μ b y) : VRs μ (a ++ b) (x.toArray ++ y.toArray).toList := by
  simpa using h.append k
theorem calleeA_run (hn : NoCount P) {f : AV} {args : List AV} {g : FuncId} {out : List AV} (h : calleeA f args = some (g, out)) (he : entersB P g = true) {μ : Mu} {cf : Value} {ca : List Value} (hf : VR μ f cf) (ha : VRs μ args ca) :
    ∃ (fv : Fn) (cap : Array Value) (al : Array Value) (cargs : List Value), (∀ w, (Deferred.ofValue cf ca.toArray).run P w = .ok { target := .fn fv cap, args := al } w) ∧ (∀ w, (invoke (.fn fv cap) al).run P w = .ok (.enter g cargs.toArray) w) ∧ VRs μ out cargs := by
  unfold calleeA at h
  split at h
  · rename_i k first captured
    cases h
    obtain ⟨x, y, h1, h2, rfl⟩ := hf
    refine ⟨.func g, y.toArray, x.toArray ++ ca.toArray, x ++ ca ++ y, fun w => rfl, fun w => ?_, (h1.append ha).append h2⟩
    have := callFunc_run hn he (x.toArray ++ ca.toArray ++ y.toArray) w
    simp only [invoke]
    rw [this]
    simp
  · cases h
theorem methodA_run (hn : NoCount P) {r : AV} {name : String} {args : List AV} {g : FuncId} {out : List AV} (h : methodA P r name args = some (g, out)) (he : entersB P g = true) {μ : Mu} {cr : Value} {ca : List Value} (hr : VR μ r cr) (ha : VRs μ args ca) (w : World) :
    ∃ cargs : List Value, (invoke (.fn (.method name) #[]) (#[cr] ++ ca.toArray)).run P w = .ok (.enter g cargs.toArray) w ∧ VRs μ out cargs := by
  unfold methodA at h
  split at h
  · rename_i t v
    obtain ⟨cv, hv, rfl⟩ := hr
    split at h
    · rename_i i hi
      have hti : ∀ w, (typeInfo t).run P w = .ok i w := fun w => run_typeInfo w hi
      split at h
      · rename_i m hm
        split at h
        · rename_i hp
          have hpe : m.path.toList = [] := by
            have : m.path = #[] := by simpa using hp
            simp [this]
          have hx : (#[Value.iface t cv] ++ ca.toArray)[0]? = some (.iface t cv) := by simp
          have hex : (#[Value.iface t cv] ++ ca.toArray).extract 1 (#[Value.iface t cv] ++ ca.toArray).size = ca.toArray := by
            apply Array.ext'; simp
          have key : ∀ (pr : Bool), m.func = some (g, pr) → (∀ w, (receiverAt t (.val cv) pr (if m.path.isEmpty then some ((name.splitOn ".").getLastD name) else none)).run P w = .ok cv w) → out = v :: args →
              ∃ cargs : List Value, (invoke (.fn (.method name) #[]) (#[Value.iface t cv] ++ ca.toArray)).run P w = .ok (.enter g cargs.toArray) w ∧ VRs μ out cargs := by
            intro pr hf hrec ho
            subst ho
            refine ⟨cv :: ca, ?_, cv, ca, hv, ha, rfl⟩
            have hfun := callFunc_run hn he (#[cv] ++ ca.toArray) w
            have hd : P.types.size + Made.depth = (P.types.size + 99) + 1 := rfl
            have hmeth : (method (P.types.size + Made.depth) t cv name).run P w = .ok (g, cv) w := by
              rw [hd]
              unfold method
              simp only [Sem.run_bind, Result.andThen_ok, hti, hm, hpe, follow, Sem.run_pure, hf, hrec]
            simp only [invoke, hx, hex, callMethod, Sem.run_bind, run_program, Result.andThen_ok, hmeth, hfun]
            simp
          split at h
          · rename_i f e hf hu
            cases h
            exact key true hf (fun w => by simp only [receiverAt, Sem.run_bind, run_underlying hu, Result.andThen_ok, Place.get, Sem.run_pure]) rfl
          · cases h
          · rename_i f dd hnp hf hu
            cases h
            refine key false hf (fun w => ?_) rfl
            simp only [receiverAt, Sem.run_bind, run_underlying hu, Result.andThen_ok]
            cases dd <;> first | (exact (hnp _ _ rfl rfl).elim) | (exact (hnp _ rfl).elim) | (simp only [Place.get, Sem.run_pure])
          · cases h
        · cases h
      · cases h
    · cases h
  · cases h
end
end Go.Proofs.Ytamibbjpapkfeaa.Ab
