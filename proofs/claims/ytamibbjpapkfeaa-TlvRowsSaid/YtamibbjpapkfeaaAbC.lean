import Derived.Test.YtamibbjpapkfeaaAbS17
namespace Go.Proofs.Ytamibbjpapkfeaa.Ab
set_option linter.unusedSimpArgs false
set_option linter.unusedVariables false
open Go
theorem noCount_of {P : Program} (h : (P.funcs.toList.all fun fn => !(fn.name == "runtime.NumGoroutine")) = true) (hm : P.follows .mixedOrders = true) : NoCount P :=
  ⟨fun f fn hf => by
    have := List.all_eq_true.1 h fn (by
      obtain ⟨hlt, rfl⟩ := Array.getElem?_eq_some_iff.1 hf
      exact Array.mem_toList_iff.2 (Array.getElem_mem hlt))
    simpa using this, hm⟩
set_option linter.unusedSectionVars false
variable [Rho]
section
variable {P : Program}
/-- What a call that makes at most new blocks leaves. -/
theorem evo_below {μ : Mu} {H : Heap} {w w' : World} (r : Rep μ H.get w) (d : Dom μ H.next) (hb : RowKit.Below w.heap.size w w') : Evo μ H.get H.next w μ H.get H.next w' where
  ext := Ext.refl μ
  rep := ⟨fun id o ho => by
    obtain ⟨l, hl, hlt⟩ := (r.obj id o ho).mu
    refine (r.obj id o ho).keep (Ext.refl μ) fun l' hl' => ?_
    rw [hl] at hl'; cases hl'
    exact hb.block _ hlt, r.inj⟩
  lo := Nat.le_refl _
  dom := d
  old := fun id l e1 e2 => by rw [e2] at e1; cases e1
  keep := fun k hk _ => hb.block k hk
  mine := fun _ m _ => m
  live := fun id o h => .inl ⟨o, h⟩
  size := hb.size
  os := hb.os
  tape := hb.tape
  output := hb.output
/-- A contract: a call that answers a value without references, and makes at most new blocks. -/
theorem callS_new {f : FuncId} {args : List AV} {H : Heap} {v : AV} (h : ∀ μ cargs w, VRs μ args cargs → Calls P f (List.toArray cargs) w fun e w' => ∃ c, e = .returned c ∧ VR μ v c ∧ RowKit.Below w.heap.size w w') : CallS P f args H v H := by
  intro μ w cargs hv r d
  refine (h μ cargs w hv).mono fun e w' he => ?_
  obtain ⟨c, rfl, h2, h3⟩ := he
  exact ⟨μ, c, rfl, h2, evo_below r d h3⟩
mutual
/-- A value that holds no reference is one. -/
theorem VR.one {μ : Mu} : ∀ (v : AV) (c c' : Value), VR (fun _ => none) v c → VR μ v c' → c' = c
  | .bool _, _, _, h, k | .int _ _, _, _, h, k | .str _, _, _, h, k | .nilPtr, _, _, h, k | .nilSlice, _, _, h, k | .nilMap, _, _, h, k | .nilFunc, _, _, h, k | .nilIface, _, _, h, k | .sbool _, _, _, h, k | .sint _ _, _, _, h, k | .sstr _, _, _, h, k => by
    simp only [VR] at h k; rw [h, k]
  | .eptr _ _ _ _, _, _, h, _ => by obtain ⟨l, h1, _⟩ := h; cases h1
  | .sslice _ _ _ _, _, _, h, _ => by obtain ⟨l, h1, _⟩ := h; cases h1
  | .ptr _ _, _, _, h, _ => by obtain ⟨l, h1, _⟩ := h; cases h1
  | .slice _ _ _ _, _, _, h, _ => by obtain ⟨l, h1, _⟩ := h; cases h1
  | .map _, _, _, h, _ => by obtain ⟨l, h1, _⟩ := h; cases h1
  | .func _ a b, _, _, h, k => by
    obtain ⟨x0, y0, p, q, rfl⟩ := h; obtain ⟨x, y, h1, h2, rfl⟩ := k
    rw [VRs.one a x0 x p h1, VRs.one b y0 y q h2]
  | .iface _ v, _, _, h, k => by
    obtain ⟨x0, p, rfl⟩ := h; obtain ⟨x, h1, rfl⟩ := k
    rw [VR.one v x0 x p h1]
  | .agg l, _, _, h, k => by
    obtain ⟨x0, p, rfl⟩ := h; obtain ⟨x, h1, rfl⟩ := k
    rw [VRs.one l x0 x p h1]
  | .tuple l, _, _, h, k => by
    obtain ⟨x0, p, rfl⟩ := h; obtain ⟨x, h1, rfl⟩ := k
    rw [VRs.one l x0 x p h1]
theorem VRs.one {μ : Mu} : ∀ (v : List AV) (c c' : List Value), VRs (fun _ => none) v c → VRs μ v c' → c' = c
  | [], _, _, h, k => by simp only [VRs] at h k; rw [h, k]
  | v :: l, _, _, h, k => by
    obtain ⟨x0, r0, p, q, rfl⟩ := h; obtain ⟨x, r, h1, h2, rfl⟩ := k
    rw [VR.one v x0 x p h1, VRs.one l r0 r q h2]
end
/-- A contract's environment out of a list of functions. -/
theorem envOK_fn {env : Env} (h : ∀ f g, env.fn f = some g → ∀ args H o v H', PC H → g args H = some (o, v, H') → o.den.asB = true → CallS P f args H v H' ∧ LG H H') (hl : ∀ f n, env.lp f n = none) : EnvOK P env :=
  ⟨h, fun f fn c _ _ body _ g hg => by rw [hl] at hg; cases hg⟩
/-- Every way leads to what is true. -/
def Tree.ok : Tree AV → Prop
  | .fail => False
  | .leaf v => ∃ t, tmB v = some t ∧ t.den.asB = true
  | .fork c x y => (c.den.asB = true → x.ok) ∧ (c.den.asB = false → y.ok)
theorem Tree.ok_sel : ∀ (t : Tree AV), t.ok → ∃ v u, t.sel = some v ∧ tmB v = some u ∧ u.den.asB = true
  | .fail, h => h.elim
  | .leaf v, h => by obtain ⟨u, h1, h2⟩ := h; exact ⟨v, u, rfl, h1, h2⟩
  | .fork c x y, h => by
    cases hc : c.den.asB with
    | true => simpa [Tree.sel, hc] using Tree.ok_sel x (h.1 hc)
    | false => simpa [Tree.sel, hc] using Tree.ok_sel y (h.2 hc)
/-- All leaves are plainly true. -/
def Tree.allT : Tree AV → Bool
  | .fail => false
  | .leaf v => match v with
    | .bool b => b
    | _ => false
  | .fork _ x y => x.allT && y.allT
theorem Tree.allT_ok : ∀ (t : Tree AV), t.allT = true → t.ok
  | .fail, h => by cases h
  | .leaf v, h => by
    unfold Tree.allT at h
    split at h
    · rename_i b; subst h; exact ⟨.cb true, rfl, rfl⟩
    · cases h
  | .fork c x y, h => by
    simp only [Tree.allT, Bool.and_eq_true] at h
    exact ⟨fun _ => Tree.allT_ok x h.1, fun _ => Tree.allT_ok y h.2⟩
/-- A call whose tree is known: it answers the leaf's value, and makes at most new blocks. -/
theorem call_val {cf : CallF AV} (hc : CfOK P cf) {f : FuncId} {args : List AV} {v : AV} (h : (cf f args heap0 fun v _ => .leaf v).sel = some v) {c : Value} (hv : VR (fun _ => none) v c) {cargs : List Value} (ha : VRs (fun _ => none) args cargs) (w : World) :
    Calls P f cargs.toArray w fun e w' => e = .returned c ∧ RowKit.Below w.heap.size w w' := by
  refine (call_flat hc h ha w).mono fun e w' he => ?_
  obtain ⟨μ', c', rfl, h2, h3⟩ := he
  rw [VR.one v c c' hv h2]
  exact ⟨rfl, h3⟩
/-- A call whose tree is true: it returns true, and makes at most new blocks. -/
theorem call_true {cf : CallF AV} (hc : CfOK P cf) {f : FuncId} {args : List AV} (h : (cf f args heap0 fun v _ => .leaf v).ok) {cargs : List Value} (ha : VRs (fun _ => none) args cargs) (w : World) :
    Calls P f cargs.toArray w fun e w' => e = .returned (.bool true) ∧ RowKit.Below w.heap.size w w' := by
  obtain ⟨v, u, h1, h2, h3⟩ := Tree.ok_sel _ h
  refine (call_flat hc h1 ha w).mono fun e w' he => ?_
  obtain ⟨μ', c, rfl, h5, h6⟩ := he
  refine ⟨?_, h6⟩
  cases v <;> simp only [tmB, Option.some.injEq, reduceCtorEq] at h2
  · subst h2; simp only [Tm.den, Dat.asB] at h3; subst h3; rw [show c = .bool true from h5]
  · subst h2; rw [show c = .bool _ from h5, h3]
/-- A contract of a call without arguments that returns true. -/
theorem works_ok {f : FuncId} {H : Heap} (h : ∀ w, Calls P f #[] w fun e w' => e = .returned (.bool true) ∧ RowKit.Below w.heap.size w w') : CallS P f [] H (.bool true) H := by
  refine callS_new fun μ cargs w hv => ?_
  cases hv
  exact (h w).mono fun e w' he => ⟨_, he.1, rfl, he.2⟩
end
end Go.Proofs.Ytamibbjpapkfeaa.Ab
