/-
  Summaries of functions whose letters stand for what the function's own tree of answers says.
  Conditions: as each theorem tells.
-/
import Derived.Test.YtnjafgigldfcdaaLpg
namespace Go.Proofs.Ytnjafgigldfcdaa.Ab
set_option linter.unusedSimpArgs false
set_option linter.unusedVariables false
open Go
set_option linter.unusedSectionVars false
/-- Letters below m, functions below B. -/
def clo (m B : Nat) : Tm → Bool
  | .var n => Nat.blt n m
  | .cb _ => true
  | .ci _ => true
  | .cs _ => true
  | .ib _ _ x y => clo m B x && clo m B y
  | .sb _ x y => clo m B x && clo m B y
  | .beq x y => clo m B x && clo m B y
  | .not x => clo m B x
  | .and x y => clo m B x && clo m B y
  | .wrap _ x => clo m B x
  | .ite c x y => clo m B c && clo m B x && clo m B y
  | .len x => clo m B x
  | .oct x => clo m B x
  | .at x y => clo m B x && clo m B y
  | .cut x y z => clo m B x && clo m B y && clo m B z
  | .llen x => clo m B x
  | .lget x y _ => clo m B x && clo m B y
  | .plus x y => clo m B x && clo m B y
  | .minus x y => clo m B x && clo m B y
  | .pair x y => clo m B x && clo m B y
  | .app k x => Nat.blt k B && clo m B x
  | .lapp x y => clo m B x && clo m B y
  | .row x => clo m B x
  | .lput x y z => clo m B x && clo m B y && clo m B z
  | .lcut x y z => clo m B x && clo m B y && clo m B z
/-- Alike on these letters and functions. -/
def Agr (m B : Nat) (ρ ρ' : Rho) : Prop := (∀ n, n < m → ρ.val n = ρ'.val n) ∧ ∀ k d, k < B → ρ.fn k d = ρ'.fn k d
theorem den_agr {m B : Nat} {ρ ρ' : Rho} (h : Agr m B ρ ρ') : ∀ (t : Tm), clo m B t = true → @Tm.den ρ t = @Tm.den ρ' t
  | .var n, hc => h.1 n (by simpa [clo] using hc)
  | .cb _, _ => rfl
  | .ci _, _ => rfl
  | .cs _, _ => rfl
  | .ib _ _ x y, hc => by
    simp only [clo, Bool.and_eq_true] at hc
    simp only [Tm.den, den_agr h x hc.1, den_agr h y hc.2]
  | .sb _ x y, hc => by
    simp only [clo, Bool.and_eq_true] at hc
    simp only [Tm.den, den_agr h x hc.1, den_agr h y hc.2]
  | .beq x y, hc => by
    simp only [clo, Bool.and_eq_true] at hc
    simp only [Tm.den, den_agr h x hc.1, den_agr h y hc.2]
  | .not x, hc => by
    simp only [clo] at hc
    simp only [Tm.den, den_agr h x hc]
  | .and x y, hc => by
    simp only [clo, Bool.and_eq_true] at hc
    simp only [Tm.den, den_agr h x hc.1, den_agr h y hc.2]
  | .wrap _ x, hc => by
    simp only [clo] at hc
    simp only [Tm.den, den_agr h x hc]
  | .ite c x y, hc => by
    simp only [clo, Bool.and_eq_true] at hc
    simp only [Tm.den, den_agr h c hc.1.1, den_agr h x hc.1.2, den_agr h y hc.2]
  | .len x, hc => by
    simp only [clo] at hc
    simp only [Tm.den, den_agr h x hc]
  | .oct x, hc => by
    simp only [clo] at hc
    simp only [Tm.den, den_agr h x hc]
  | .at x y, hc => by
    simp only [clo, Bool.and_eq_true] at hc
    simp only [Tm.den, den_agr h x hc.1, den_agr h y hc.2]
  | .cut x y z, hc => by
    simp only [clo, Bool.and_eq_true] at hc
    simp only [Tm.den, den_agr h x hc.1.1, den_agr h y hc.1.2, den_agr h z hc.2]
  | .llen x, hc => by
    simp only [clo] at hc
    simp only [Tm.den, den_agr h x hc]
  | .lget x y _, hc => by
    simp only [clo, Bool.and_eq_true] at hc
    simp only [Tm.den, den_agr h x hc.1, den_agr h y hc.2]
  | .plus x y, hc => by
    simp only [clo, Bool.and_eq_true] at hc
    simp only [Tm.den, den_agr h x hc.1, den_agr h y hc.2]
  | .minus x y, hc => by
    simp only [clo, Bool.and_eq_true] at hc
    simp only [Tm.den, den_agr h x hc.1, den_agr h y hc.2]
  | .pair x y, hc => by
    simp only [clo, Bool.and_eq_true] at hc
    simp only [Tm.den, den_agr h x hc.1, den_agr h y hc.2]
  | .app k x, hc => by
    simp only [clo, Bool.and_eq_true, Nat.blt_eq] at hc
    simp only [Tm.den, den_agr h x hc.2]
    exact h.2 k _ hc.1
  | .lapp x y, hc => by
    simp only [clo, Bool.and_eq_true] at hc
    simp only [Tm.den, den_agr h x hc.1, den_agr h y hc.2]
  | .row x, hc => by
    simp only [clo] at hc
    simp only [Tm.den, den_agr h x hc]
  | .lput x y z, hc => by
    simp only [clo, Bool.and_eq_true] at hc
    simp only [Tm.den, den_agr h x hc.1.1, den_agr h y hc.1.2, den_agr h z hc.2]
  | .lcut x y z, hc => by
    simp only [clo, Bool.and_eq_true] at hc
    simp only [Tm.den, den_agr h x hc.1.1, den_agr h y hc.1.2, den_agr h z hc.2]
/-! ### what the tree says -/
def outE : Eqs → Nat → Option (Sr × Tm)
  | [], _ => none
  | (s, .var n, t) :: l, k => bif Nat.beq n k then some (s, t) else outE l k
  | _ :: l, k => outE l k
def canS : Sr → Dat → Dat
  | .sB, d => .dB d.asB
  | .sI, d => .dI d.asI
  | .sS, d => .dS d.asS
  | .sL, d => .dL d.asL
abbrev autR (fl : Nat → Dat → Dat) (l : List Dat) : Rho := ⟨fun n => l.getD n (.dI 0), fl⟩
def outD (ρ : Rho) (es : Eqs) (k : Nat) : Dat := match outE es k with
  | some (s, t) => canS s (@Tm.den ρ t)
  | none => .dI 0
def autF (fl : Nat → Dat → Dat) (t : Tree (Option Eqs)) (m cnt : Nat) (l : List Dat) (j : Nat) : Dat :=
  match @Tree.sel _ (autR fl l) t with
  | some (some es) => bif Nat.blt j cnt then outD (autR fl l) es (m + j) else .dB true
  | _ => .dB false
def eqSrB : Sr → Sr → Bool
  | .sB, .sB => true
  | .sI, .sI => true
  | .sS, .sS => true
  | .sL, .sL => true
  | _, _ => false
def wfE (m B cnt : Nat) (all : Eqs) : Eqs → Bool
  | [] => true
  | (s, .var n, t) :: l => (bif Nat.blt n m then t.eqv (.var n) else Nat.blt n (m + cnt) && clo m B t && (match outE all n with
    | some (s', t') => eqSrB s s' && t.eqv t'
    | none => false)) && wfE m B cnt all l
  | _ :: _ => false
def wfT (m B cnt : Nat) : Tree (Option Eqs) → Bool
  | .fail => true
  | .leaf none => true
  | .leaf (some es) => wfE m B cnt es es
  | .fork c x y => clo m B c && (wfT m B cnt x && wfT m B cnt y)
theorem sel_agr {m B cnt : Nat} {ρ ρ' : Rho} (h : Agr m B ρ ρ') : ∀ (t : Tree (Option Eqs)), wfT m B cnt t = true → @Tree.sel _ ρ t = @Tree.sel _ ρ' t
  | .fail, _ => rfl
  | .leaf _, _ => rfl
  | .fork c x y, hw => by
    simp only [wfT, Bool.and_eq_true] at hw
    simp only [Tree.sel, den_agr h c hw.1, sel_agr h x hw.2.1, sel_agr h y hw.2.2]
theorem sel_wf {m B cnt : Nat} {ρ : Rho} {es : Eqs} : ∀ (t : Tree (Option Eqs)), wfT m B cnt t = true → @Tree.sel _ ρ t = some (some es) → wfE m B cnt es es = true
  | .fail, _, h => by cases h
  | .leaf none, _, h => by cases h
  | .leaf (some e), hw, h => by
    simp only [Tree.sel, Option.some.injEq] at h
    subst h
    exact hw
  | .fork c x y, hw, h => by
    simp only [wfT, Bool.and_eq_true] at hw
    simp only [Tree.sel] at h
    cases hc : (@Tm.den ρ c).asB with
    | true => rw [hc] at h; exact sel_wf x hw.2.1 h
    | false => rw [hc] at h; exact sel_wf y hw.2.2 h
theorem eqSrB_eq {a b : Sr} (h : eqSrB a b = true) : a = b := by
  cases a <;> cases b <;> first | rfl | cases h
theorem canS_eq (s : Sr) {a b c : Dat} (h : a = canS s b) (h2 : b = c) : eqSr s a c := by
  subst h; subst h2
  cases s <;> rfl
theorem tup_get (v : Nat → Dat) : ∀ (l : List Nat) (j : Nat), (h : j < l.length) → (cellsD (tupD v l)).getD j (.dI 0) = v l[j]
  | [], j, h => by cases h
  | a :: l, 0, _ => rfl
  | a :: l, j + 1, h => tup_get v l j (by simpa using h)
theorem outD_get {m cnt : Nat} {fl : Nat → Dat → Dat} {t : Tree (Option Eqs)} {l : List Dat} {es : Eqs} {j : Nat} (h : @Tree.sel _ (autR fl l) t = some (some es)) (hj : j < cnt) : autF fl t m cnt l j = outD (autR fl l) es (m + j) := by
  unfold autF
  rw [h]
  show (bif Nat.blt j cnt then _ else _) = _
  rw [show Nat.blt j cnt = true by rw [Nat.blt_eq]; exact hj]
  rfl
/-- A SUMMARY BY THE FUNCTION'S OWN TREE. -/
theorem aut_ok {P : Program} {env : Env} {f : FuncId} {S : Sum} {base B cnt : Nat} {fn fl : Nat → Dat → Dat} (hus : S.us = List.range S.m) (hwf : wfT S.m B cnt (S.tree P env f) = true)
    (hlow : ∀ k d, k < B → fn k d = fl k d) (hfn : ∀ j d, j ≤ cnt → fn (base + j) d = autF fl (S.tree P env f) S.m cnt (cellsD d) j) : SumOK P env f S base cnt fn := by
  intro ρ hf hok
  rw [hfn cnt _ (Nat.le_refl _)] at hok
  generalize ht : S.tree P env f = t at *
  have hag : Agr S.m B ρ (autR fl (cellsD (tupD ρ.val S.us))) := by
    refine ⟨fun n hn => ?_, fun k d hk => by rw [hf]; exact hlow k d hk⟩
    show _ = (cellsD (tupD ρ.val S.us)).getD n (.dI 0)
    rw [hus, tup_get _ _ _ (by simpa using hn)]
    simp
  have hsel := sel_agr hag t hwf
  have hex : ∃ es, @Tree.sel _ (autR fl (cellsD (tupD ρ.val S.us))) t = some (some es) := by
    unfold autF at hok
    split at hok
    · exact ⟨_, by assumption⟩
    · cases hok
  obtain ⟨es, he⟩ := hex
  refine ⟨es, hsel.trans he, ?_⟩
  have hw := sel_wf t hwf he
  have key : ∀ l : Eqs, wfE S.m B cnt es l = true → EqsOk (rhoO S base ρ) ρ l := by
    intro l
    induction l with
    | nil => intro _; trivial
    | cons p l ih =>
      intro hl
      obtain ⟨s, x, u⟩ := p
      cases x with
      | var n =>
        simp only [wfE, Bool.and_eq_true] at hl
        obtain ⟨h1, h2⟩ := hl
        refine ⟨?_, ih h2⟩
        cases hn : Nat.blt n S.m with
        | true =>
          rw [hn] at h1
          obtain rfl := Tm.eqv_eq _ _ h1
          have : (rhoO S base ρ).val n = ρ.val n := by
            show (bif Nat.blt n S.m then _ else _) = _
            rw [hn]; rfl
          show eqSr s ((rhoO S base ρ).val n) (ρ.val n)
          rw [this]
          cases s <;> rfl
        | false =>
          rw [hn] at h1
          simp only [cond_false, Bool.and_eq_true] at h1
          obtain ⟨⟨h3, h4⟩, h5⟩ := h1
          rw [Nat.blt_eq] at h3
          have hnm : S.m ≤ n := by
            rcases Nat.lt_or_ge n S.m with h | h
            · rw [← Nat.blt_eq, hn] at h; cases h
            · exact h
          split at h5
          · rename_i s' t' ho
            rw [Bool.and_eq_true] at h5
            obtain rfl := eqSrB_eq h5.1
            obtain rfl := Tm.eqv_eq _ _ h5.2
            show eqSr s ((rhoO S base ρ).val n) _
            refine canS_eq s (b := @Tm.den (autR fl (cellsD (tupD ρ.val S.us))) u) ?_ (den_agr hag u h4).symm
            show (bif Nat.blt n S.m then _ else ρ.fn (base + (n - S.m)) (tupD ρ.val S.us)) = _
            rw [hn, hf]
            simp only [cond_false]
            rw [hfn _ _ (by omega), outD_get he (by omega)]
            unfold outD
            rw [show S.m + (n - S.m) = n by omega, ho]
          · cases h5
      | _ => simp only [wfE] at hl; cases hl
  exact key es hw
end Go.Proofs.Ytnjafgigldfcdaa.Ab
