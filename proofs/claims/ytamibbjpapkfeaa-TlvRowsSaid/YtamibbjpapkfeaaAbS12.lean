import Derived.Test.YtamibbjpapkfeaaAbS24
import Derived.Test.YtamibbjpapkfeaaAbS19
namespace Go.Proofs.Ytamibbjpapkfeaa.Ab
set_option linter.unusedSimpArgs false
set_option linter.unusedVariables false
open Go
set_option linter.unusedSectionVars false
variable [Rho]
section
variable {P : Program}

theorem evalO_VO {μ : Mu} {fr : FR} {a : Act} (h : FRel μ fr a.tmps) {x : Option Operand} {v : Option AV} (hx : evalO fr x = some v) : VO μ v (x.map a.eval) := by
  cases x with
  | none => simp [evalO] at hx; subst hx; trivial
  | some o =>
    simp only [evalO] at hx
    split at hx
    · rename_i u hu; cases hx; exact evalA_VR h hu
    · cases hx
theorem VRs.array {μ : Mu} {fr : FR} {a : Act} (h : FRel μ fr a.tmps) {l : Array Operand} {v : List AV} (hx : evals fr l.toList = some v) : VRs μ v (l.map a.eval).toList := by
  simpa using evals_VR h hx

theorem operA_run (hn : NoCount P) {fr : FR} {o : Oper} {H : Heap} {r : AR} (h : operA P fr o H = some r) {μ : Mu} {a : Act} {w : World} (hf : FRel μ fr a.tmps) (hr : Rep μ H.get w) (hd : Dom μ H.next) : OpRes P o a w μ H r := by
  obtain ⟨dst, op, ty, pos, after, guard⟩ := o
  cases op
  case move x =>
    simp only [operA, opMove] at h
    split at h
    · rename_i v hv; cases h
      exact res_same hr hd rfl (evalA_VR hf hv)
    · cases h
  case assign x =>
    simp only [operA, opMove] at h
    split at h
    · rename_i v hv; cases h
      exact res_same hr hd rfl (evalA_VR hf hv)
    · cases h
  case pick c x y =>
    simp only [operA, opPick] at h
    split at h
    · rename_i b u v hc hu hv
      cases h
      have h1 : a.eval c = .bool b := evalA_VR hf hc
      refine res_same (c := if b then a.eval x else a.eval y) hr hd ?_ ?_
      · simp only [execOp, h1, Sem.run_bind, asBool, Sem.run_pure, Result.andThen_ok]
      · cases b
        · exact evalA_VR hf hv
        · exact evalA_VR hf hu
    · rename_i t u v hc hu hv
      cases h
      have h1 : a.eval c = .bool t.den.asB := evalA_VR hf hc
      intro z hz
      refine res_same (c := if t.den.asB then a.eval x else a.eval y) hr hd ?_ ?_
      · simp only [execOp, h1, Sem.run_bind, asBool, Sem.run_pure, Result.andThen_ok]
      · simp only [pickM] at hz
        cases hb : t.den.asB with
        | true => rw [hb] at hz; simp at hz; subst hz; exact evalA_VR hf hu
        | false => rw [hb] at hz; simp [Tm.den, Dat.asB] at hz; subst hz; exact evalA_VR hf hv
    · cases h
  case alloc e =>
    simp only [operA, opAlloc] at h
    split at h
    · rename_i v H' hv
      cases h
      obtain ⟨μ', c, w', h1, h2, h3⟩ := allocA_run (P := P) hv hr hd
      exact ⟨μ', c, w', .inl (run_v h1), h2, h3⟩
    · cases h
  case box e x =>
    simp only [operA, opBox] at h
    split at h
    · rename_i u hu
      split at h
      · rename_i v H' hv
        cases h
        obtain ⟨μ', c, w', h1, h2, h3⟩ := boxA_run (P := P) hv hr hd (evalA_VR hf hu) e
        exact ⟨μ', _, w', .inl (run_v (by simp only [Instr.box, Sem.run_bind, h1, Result.andThen_ok, Sem.run_pure])), h2, h3⟩
      · cases h
    · cases h
  case build t parts =>
    simp only [operA, opBuild] at h
    split at h
    · rename_i l hl
      split at h
      · rename_i v hv
        cases h
        have hp := PR.mk hf hl
        obtain ⟨c, h1, h2⟩ := buildA_run hv (cp := parts.map fun p => (p.1, a.eval p.2)) (by simpa using hp) w
        exact res_same hr hd (run_v h1) h2
      · cases h
    · cases h
  case buildSlice t n parts =>
    simp only [operA, opBuildslice] at h
    split at h
    · rename_i l hl
      split at h
      · rename_i v H' hv
        cases h
        have hp := PR.mk hf hl
        obtain ⟨μ', c, w', h1, h2, h3⟩ := buildSliceA_run (P := P) hv hr hd (cp := parts.map fun p => (p.1, a.eval p.2)) (by simpa using hp)
        exact ⟨μ', c, w', .inl (run_v h1), h2, h3⟩
      · cases h
    · cases h
  case load t x =>
    simp only [operA, opLoad] at h
    split at h
    · rename_i u hu
      split at h
      · rename_i v hv
        cases h
        obtain ⟨c, h1, h2⟩ := loadA_run hv hr (evalA_VR hf hu)
        exact res_same hr hd (run_v h1) h2
      · cases h
    · cases h
  case store t x y =>
    simp only [operA, opStore] at h
    split at h
    · rename_i u v hu hv
      split at h
      · rename_i H' hs
        cases h
        obtain ⟨w', h1, h2⟩ := storeA_run (P := P) hs hr hd (evalA_VR hf hu) (evalA_VR hf hv)
        exact ⟨μ, undef, w', .inr ⟨run_u h1, rfl⟩, undef_VR μ, h2⟩
      · cases h
    · cases h
  case nilCheck x =>
    simp only [operA, opNilcheck] at h
    split at h
    · rename_i id off hv
      cases h
      have h1 := evalA_VR hf hv
      obtain ⟨l, hl, h2⟩ := (show _ from h1)
      exact res_same hr hd (by simp only [execOp, h2, Sem.run_pure]) (h2 ▸ h1)
    · rename_i id k i j hv
      cases h
      have h1 := evalA_VR hf hv
      obtain ⟨l, hl, _, _, _, h2⟩ := (show _ from h1)
      exact res_same hr hd (by simp only [execOp, h2, Sem.run_pure]) (h2 ▸ h1)
    · rename_i t v hv
      cases h
      have h1 := evalA_VR hf hv
      obtain ⟨l, hl, h2⟩ := (show _ from h1)
      exact res_same hr hd (by simp only [execOp, h2, Sem.run_pure]) (h2 ▸ h1)
    · rename_i f b c hv
      cases h
      have h1 := evalA_VR hf hv
      obtain ⟨p, q, _, _, h2⟩ := (show _ from h1)
      exact res_same hr hd (by simp only [execOp, h2, Sem.run_pure]) (h2 ▸ h1)
    · cases h
  case binOp op t x y yt =>
    simp only [operA, opBinop] at h
    split at h
    · rename_i u v hu hv
      split at h
      · rename_i z hz
        cases h
        intro q hq
        obtain ⟨o, z⟩ := z
        simp only [pickM] at hq
        cases ho : o.den.asB with
        | false => rw [ho] at hq; simp at hq
        | true =>
          rw [ho] at hq; simp at hq; subst hq
          obtain ⟨c, h1, h2⟩ := owedA_run (t := t) hz (evalA_VR hf hu) (evalA_VR hf hv) ho w
          exact res_same hr hd (run_v h1) h2
      · split at h
        · rename_i z hz
          cases h
          obtain ⟨c, h1, h2⟩ := binA_run hz (evalA_VR hf hu) (evalA_VR hf hv) w
          exact res_same hr hd (run_v h1) h2
        · cases h
    · cases h
  case unOp op t x =>
    simp only [operA, opUnop] at h
    split at h
    · rename_i u hu
      split at h
      · rename_i z hz
        cases h
        obtain ⟨c, h1, h2⟩ := unA_run (P := P) hz (evalA_VR hf hu) w
        exact res_same hr hd (run_v h1) h2
      · cases h
    · cases h
  case convert s d x =>
    simp only [operA, opConvert] at h
    split at h
    · rename_i u hu
      split at h
      · rename_i v H' hv
        cases h
        obtain ⟨μ', c, w', h1, h2, h3⟩ := convA_run (P := P) hv hr hd (evalA_VR hf hu)
        exact ⟨μ', c, w', .inl (run_v h1), h2, h3⟩
      · cases h
    · cases h
  case makeInterface t x =>
    simp only [operA, opMakeinterface] at h
    split at h
    · cases h
    · rename_i v dd hni hv hu
      cases h
      refine res_same (c := .iface t (a.eval x)) hr hd (run_v ?_) ⟨_, evalA_VR hf hv, rfl⟩
      simp only [Instr.makeInterface, Sem.run_bind, run_underlying hu, Result.andThen_ok]
      cases dd <;> first | (exact absurd rfl (hni _)) | rfl
    · cases h
  case makeFunc fn b c =>
    simp only [operA, opMakefunc] at h
    split at h
    · rename_i u v hu hv
      cases h
      refine res_same (c := .func fn (b.map a.eval) (c.map a.eval)) hr hd rfl ⟨_, _, VRs.array hf hu, VRs.array hf hv, rfl⟩
    · cases h
  case makeSlice t l c =>
    simp only [operA, opMakeslice] at h
    split at h
    · rename_i u v hu hv
      split at h
      · rename_i z H' hz
        cases h
        obtain ⟨μ', c, w', h1, h2, h3⟩ := makeSliceA_run (P := P) hz hr hd (evalA_VR hf hu) (evalA_VR hf hv)
        exact ⟨μ', c, w', .inl (run_v h1), h2, h3⟩
      · cases h
    · cases h
  case makeMap t x =>
    cases x with
    | none =>
      simp only [operA, opMakemap] at h
      cases h
      obtain ⟨μ', c, w', h1, h2, h3⟩ := newMap_run (P := P) hr hd
      exact ⟨μ', c, w', .inl (run_v (by simpa [Instr.makeMap] using h1)), h2, h3⟩
    | some x =>
      simp only [operA, opMakemap] at h
      split at h
      · rename_i k n kt et hx hu
        cases h
        obtain ⟨μ', c, w', h1, h2, h3⟩ := newMap_run (P := P) hr hd
        have hi : a.eval x = .int k n := evalA_VR hf hx
        refine ⟨μ', c, w', .inl (run_v ?_), h2, h3⟩
        simp only [Option.map_some, Instr.makeMap, Sem.run_bind, run_underlying hu, Result.andThen_ok, hi, asInt, asIntOf, Sem.run_pure]
        simpa [Sem.run_bind] using h1
      · cases h
  case lookup t x i ok =>
    simp only [operA, opLookup] at h
    split at h
    · rename_i u v hu hv
      split at h
      · rename_i z hz
        cases h
        obtain ⟨c, h1, h2⟩ := lookupA_run (P := P) hz hr (evalA_VR hf hu) (evalA_VR hf hv)
        exact res_same hr hd (run_v h1) h2
      · cases h
    · cases h
  case mapUpdate t m k x =>
    simp only [operA, opMapupdate] at h
    split at h
    · rename_i u v z hu hv hz
      split at h
      · rename_i H' hs
        cases h
        obtain ⟨w', h1, h2⟩ := mapUpdateA_run (P := P) hs hr hd (evalA_VR hf hu) (evalA_VR hf hv) (evalA_VR hf hz)
        exact ⟨μ, undef, w', .inr ⟨run_u h1, rfl⟩, undef_VR μ, h2⟩
      · cases h
    · cases h
  case insert t m k x =>
    simp only [operA, opMapupdate] at h
    split at h
    · rename_i u v z hu hv hz
      split at h
      · rename_i H' hs
        cases h
        obtain ⟨w', h1, h2⟩ := mapUpdateA_run (P := P) hs hr hd (evalA_VR hf hu) (evalA_VR hf hv) (evalA_VR hf hz)
        exact ⟨μ, undef, w', .inr ⟨run_u h1, rfl⟩, undef_VR μ, h2⟩
      · cases h
    · cases h
  case slice t x lo hi mx =>
    cases mx with
    | some m => simp [operA] at h
    | none =>
      simp only [operA, opSlice] at h
      split at h
      · rename_i u l m hu hl hm
        split at h
        · rename_i z hz
          cases h
          intro q hq
          obtain ⟨o, z⟩ := z
          simp only [pickM] at hq
          cases ho : o.den.asB with
          | false => rw [ho] at hq; simp at hq
          | true =>
            rw [ho] at hq; simp at hq; subst hq
            obtain ⟨c, h1, h2⟩ := sliceM_run (P := P) (w := w) hz ho (evalA_VR hf hu) (evalO_VO hf hl) (evalO_VO hf hm)
            exact res_same hr hd (run_v h1) h2
        · split at h
          · rename_i z hz
            cases h
            obtain ⟨c, h1, h2⟩ := sliceA_run hz hr (evalA_VR hf hu) (evalO_VO hf hl) (evalO_VO hf hm)
            exact res_same hr hd (run_v h1) h2
          · cases h
      · cases h
  case fieldAddr s x f =>
    simp only [operA, opFieldaddr] at h
    split at h
    · rename_i u hu
      split at h
      · rename_i z hz
        cases h
        obtain ⟨c, h1, h2⟩ := fieldAddrA_run hz (evalA_VR hf hu) w
        exact res_same hr hd (run_v h1) h2
      · cases h
    · cases h
  case field t x f =>
    simp only [operA, opField] at h
    split at h
    · rename_i u hu
      split at h
      · rename_i z hz
        cases h
        obtain ⟨c, h1, h2⟩ := fieldA_run hz (evalA_VR hf hu) w
        exact res_same hr hd (run_v h1) h2
      · cases h
    · cases h
  case indexAddr t x i =>
    simp only [operA, opIndexaddr] at h
    split at h
    · rename_i u v hu hv
      split at h
      · rename_i z hz
        cases h
        intro q hq
        obtain ⟨c, h1, h2⟩ := indexAddrM_run hz hq (evalA_VR hf hu) (evalA_VR hf hv) w
        exact res_same hr hd (run_v h1) h2
      · split at h
        · rename_i z hz
          cases h
          obtain ⟨c, h1, h2⟩ := indexAddrA_run hz (evalA_VR hf hu) (evalA_VR hf hv) w
          exact res_same hr hd (run_v h1) h2
        · cases h
    · cases h
  case index t x i =>
    simp only [operA, opIndex] at h
    split at h
    · rename_i u v hu hv
      split at h
      · rename_i z hz
        cases h
        intro q hq
        obtain ⟨o, z⟩ := z
        simp only [pickM] at hq
        cases ho : o.den.asB with
        | false => rw [ho] at hq; simp at hq
        | true =>
          rw [ho] at hq; simp at hq; subst hq
          obtain ⟨c, h1, h2⟩ := indexM_run hz (evalA_VR hf hu) (evalA_VR hf hv) ho w
          exact res_same hr hd (run_v h1) h2
      · split at h
        · rename_i z hz
          cases h
          obtain ⟨c, h1, h2⟩ := indexA_run hz (evalA_VR hf hu) (evalA_VR hf hv) w
          exact res_same hr hd (run_v h1) h2
        · cases h
    · cases h
  case typeAssert x xt t ok =>
    simp only [operA, opTypeassert] at h
    split at h
    · rename_i u hu
      split at h
      · rename_i z hz
        cases h
        obtain ⟨c, h1, h2⟩ := typeAssertA_run (xt := xt) hz (evalA_VR hf hu) w
        exact res_same hr hd (run_v h1) h2
      · cases h
    · cases h
  case extract x i =>
    simp only [operA, opExtract] at h
    split at h
    · rename_i vs hv
      split at h
      · rename_i z hz
        cases h
        obtain ⟨l, hl, h2⟩ := evalA_VR hf hv
        obtain ⟨y, h3, h4⟩ := hl.get i z hz
        refine res_same hr hd (run_v ?_) h4
        rw [h2]
        simp only [Instr.extract, List.getElem?_toArray, h3, Sem.run_pure]
      · cases h
    · cases h
  case call c =>
    simp only [operA, opCall] at h
    split at h
    · rename_i args hargs
      have hav := VRs.array hf hargs
      split at h
      · rename_i b hcb
        split at h
        · rename_i q v H' hb
          cases h
          intro hq
          generalize hca : c.args.map a.eval = ca at hav
          obtain ⟨ca⟩ := ca
          simp only at hav
          obtain ⟨rfl, cs, cx, rfl, μ', y, w', h1, h2, h3⟩ := seqApp_run (P := P) hb hq hr hd hav ty
          refine ⟨μ', y, w', .inl ?_, h2, h3⟩
          simp only [execOp, resolve, hcb, Sem.run_bind, Sem.run_pure, Result.andThen_ok, invoke, hca]
          exact run_v h1
        · split at h
          case h_2 => cases h
          rename_i v H' hb
          cases h
          suffices hs : ∃ μ' y w', (builtin b c.argTypes ty (c.args.map fun | .const _ => true | _ => false) (c.args.map a.eval)).run P w = .ok (.value y) w' ∧ VR μ' v y ∧ Evo μ H.get H.next w μ' H'.get H'.next w' by
            obtain ⟨μ', y, w', h1, h2, h3⟩ := hs
            refine ⟨μ', y, w', .inl ?_, h2, h3⟩
            simp only [execOp, resolve, hcb, Sem.run_bind, Sem.run_pure, Result.andThen_ok, invoke]
            exact h1
          generalize hca : c.args.map a.eval = ca at hav
          obtain ⟨ca⟩ := ca
          simp only at hav
          unfold builtinA at hb
          split at hb
          · obtain ⟨x, r0, hx, hr0, rfl⟩ := hav
            cases hr0
            split at hb
            · rename_i t ht
              split at hb
              · rename_i u hu
                cases hb
                obtain ⟨y, h1, h2⟩ := lenOpA_run hu ht hr hx ty
                exact ⟨μ, y, w, run_v h1, h2, Evo.refl hr hd⟩
              · cases hb
            · cases hb
          · obtain ⟨x, r0, hx, hr0, rfl⟩ := hav
            obtain ⟨x2, r2, hx2, hr2, rfl⟩ := hr0
            cases hr2
            split at hb
            · rename_i t u ht hu
              split at hb
              · cases hb
              · rename_i dd hni hdd
                obtain ⟨μ', y, w', h1, h2, h3⟩ := appendA_run (P := P) hb ht hu hdd (fun k e => hni k (e ▸ rfl)) hr hd hx hx2 ty
                exact ⟨μ', y, w', run_v h1, h2, h3⟩
              · cases hb
            · cases hb
          · obtain ⟨x, r0, hx, hr0, rfl⟩ := hav
            obtain ⟨x2, r2, hx2, hr2, rfl⟩ := hr0
            cases hr2
            split at hb
            · rename_i t ht
              obtain ⟨μ', y, w', h1, h2, h3⟩ := copyA_run (P := P) hb ht hr hd hx hx2 ty
              exact ⟨μ', y, w', run_v h1, h2, h3⟩
            · cases hb
          · obtain ⟨x, r0, hx, hr0, rfl⟩ := hav
            cases hr0
            split at hb
            · rename_i t ht
              obtain ⟨μ', y, w', h1, h2, h3⟩ := clearA_run (P := P) hb ht hr hd hx ty
              exact ⟨μ', y, w', run_v h1, h2, h3⟩
            · cases hb
          · obtain ⟨x, r0, hx, hr0, rfl⟩ := hav
            split at hb
            · rename_i u hu
              cases hb
              obtain ⟨y, h1, h2⟩ := foldA_run (P := P) (fun x y v h cx cy hx hy w => min2A_run h hx hy w) _ _ _ hu x r0 hx hr0 w
              refine ⟨μ, y, w, run_v ?_, h2, Evo.refl hr hd⟩
              simp only [Builtin.min_]
              exact h1
            · cases hb
          · obtain ⟨x, r0, hx, hr0, rfl⟩ := hav
            split at hb
            · rename_i u hu
              cases hb
              obtain ⟨y, h1, h2⟩ := foldA_run (P := P) (fun x y v h cx cy hx hy w => max2A_run h hx hy w) _ _ _ hu x r0 hx hr0 w
              refine ⟨μ, y, w, run_v ?_, h2, Evo.refl hr hd⟩
              simp only [Builtin.max_]
              exact h1
            · cases hb
          · cases hb
      · rename_i f hcf
        split at h
        · rename_i fv hfv
          split at h
          · rename_i g out hg
            split at h
            · rename_i he
              cases h
              obtain ⟨fv', cap, al, cargs, h1, h2, h3⟩ := calleeA_run hn hg he (evalA_VR hf hfv) hav
              refine ⟨cargs, ?_, h3⟩
              have h1' : (Deferred.ofValue (a.eval f) (c.args.map a.eval)).run P w = .ok { target := .fn fv' cap, args := al } w := h1 w
              simp only [execOp, resolve, hcf, Sem.run_bind, h1', Result.andThen_ok, h2]
            · cases h
          · cases h
        · cases h
      · rename_i r0 name hci
        split at h
        · rename_i rv hrv
          split at h
          · rename_i g out hg
            split at h
            · rename_i he
              cases h
              obtain ⟨cargs, h1, h2⟩ := methodA_run hn hg he (evalA_VR hf hrv) hav w
              refine ⟨cargs, ?_, h2⟩
              have h1' : (invoke (.fn (.method name) #[]) (#[a.eval r0] ++ c.args.map a.eval)).run P w = .ok (.enter g cargs.toArray) w := h1
              simp only [execOp, resolve, hci, Sem.run_bind, Sem.run_pure, Result.andThen_ok, h1']
            · cases h
          · cases h
        · cases h
    · cases h
  case defer c =>
    simp only [operA, opDefer] at h
    split at h
    · rename_i args f hargs hcf
      have hav := VRs.array hf hargs
      split at h
      · rename_i fv hfv
        split at h
        · rename_i g out hg
          split at h
          · rename_i he
            cases h
            obtain ⟨fv', cap, al, cargs, h1, h2, h3⟩ := calleeA_run hn hg he (evalA_VR hf hfv) hav
            have h1' : (Deferred.ofValue (a.eval f) (c.args.map a.eval)).run P w = .ok { target := .fn fv' cap, args := al } w := h1 w
            refine ⟨{ target := .fn fv' cap, args := al }, ?_, fv', cap, cargs, rfl, h2, h3⟩
            simp only [execOp, resolve, hcf, Sem.run_bind, h1', Result.andThen_ok, Sem.run_pure]
          · cases h
        · cases h
      · cases h
    · cases h
  all_goals (simp [operA] at h)
end
end Go.Proofs.Ytamibbjpapkfeaa.Ab
