/-
  LineOrder: the letters' functions; Apply as a summary; the shapes of Send and Waits.
  Conditions: as each theorem tells.
-/
import Derived.Test.YtnjafgigldfcdaaLoB
namespace Go.Proofs.Ytnjafgigldfcdaa.Ab
set_option linter.unusedSimpArgs false
set_option linter.unusedVariables false
open Go
set_option linter.unusedSectionVars false
set_option linter.unusedSimpArgs false
noncomputable section
def flR (k : Nat) (d : Dat) : Dat := bif Nat.beq k 8 then fn8 d else .dI 0
/-- A text, damaged once. -/
def applyD (d : Dat) : Dat := autF flR tApply 5 1 (cellsD d) 0
def applyR (s : Dat) (r : List Dat) : Dat := applyD (.dP s (.dP (r.getD 0 (.dI 0)) (.dP (r.getD 1 (.dI 0)) (.dP (r.getD 2 (.dI 0)) (.dP (r.getD 3 (.dI 0)) (.dB false))))))
def foldR (s : Dat) : List (List Dat) → Dat
  | [] => s
  | r :: l => foldR (applyR s r) l
theorem foldR_append : ∀ (a : List (List Dat)) (s : Dat) (b : List (List Dat)), foldR s (a ++ b) = foldR (foldR s a) b
  | [], _, _ => rfl
  | r :: a, s, b => foldR_append a (applyR s r) b
def okRow (r : List Dat) : Prop := 0 ≤ (r.getD 0 (.dI 0)).asI
instance (r : List Dat) : Decidable (okRow r) := inferInstanceAs (Decidable (0 ≤ _))
theorem apply_sel {ρ : Rho} (hf : ∀ d, ρ.fn 8 d = fn8 d) (hL : (ρ.val 0).asS.length ≤ 100000) (k0 : 0 ≤ (ρ.val 1).asI) : ∃ es, @Tree.sel _ ρ tApply = some (some es) ∧ QAp ρ es := by
  have leaf : QAp ρ [(.sS, (vt 5), (vt 0))] := ⟨_, rfl, by show (ρ.val 0).asS.length ≤ _; omega⟩
  obtain ⟨x0, x1, x2⟩ := @app1_facts ρ
  unfold tApply
  refine sel_fork (fun h => ⟨_, rfl, leaf⟩) (fun h => ?_)
  simp only [gtr_f, d_ci, show (@Tm.den ρ (vt 1)).asI = (ρ.val 1).asI from rfl] at h
  refine sel_fork (fun h1 => ?_) (fun h1 => ?_)
  · simp only [neq_t, d_ci, show (@Tm.den ρ (vt 1)).asI = (ρ.val 1).asI from rfl] at h1
    refine sel_fork (fun h => ⟨_, rfl, leaf⟩) (fun h2 => ?_)
    simp only [lss_f, d_ci, show (@Tm.den ρ (vt 2)).asI = (ρ.val 2).asI from rfl] at h2
    refine sel_fork (fun h => ⟨_, rfl, leaf⟩) (fun h3 => ?_)
    simp only [gtr_f, d_len, show (@Tm.den ρ (vt 0)).asS = (ρ.val 0).asS from rfl, show (@Tm.den ρ (vt 2)).asI = (ρ.val 2).asI from rfl] at h3
    refine sel_fork (fun h4 => ?_) (fun h4 => ?_)
    · refine sel_fork (fun h => ⟨_, rfl, leaf⟩) (fun h5 => ?_)
      simp only [neq_f, d_ci, show (@Tm.den ρ (vt 1)).asI = (ρ.val 1).asI from rfl] at h5
      exact kinds_sel hf hL k0 h.1 (fun e => by omega)
    · simp only [eql_f, d_len, show (@Tm.den ρ (vt 0)).asS = (ρ.val 0).asS from rfl, show (@Tm.den ρ (vt 2)).asI = (ρ.val 2).asI from rfl] at h4
      exact kinds_sel hf hL k0 h.1 (fun e => by omega)
  · simp only [neq_f, d_ci, show (@Tm.den ρ (vt 1)).asI = (ρ.val 1).asI from rfl] at h1
    exact kinds_sel hf hL k0 h.1 (fun e => by omega)
theorem apply_facts (d : Dat) (hL : ((cellsD d).getD 0 (.dI 0)).asS.length ≤ 100000) (k0 : 0 ≤ ((cellsD d).getD 1 (.dI 0)).asI) :
    (autF flR tApply 5 1 (cellsD d) 1).asB = true ∧ (applyD d).asS.length ≤ ((cellsD d).getD 0 (.dI 0)).asS.length + 255 := by
  obtain ⟨es, h1, t, rfl, h2⟩ := @apply_sel (autR flR (cellsD d)) (fun d => rfl) hL k0
  refine ⟨?_, ?_⟩
  · unfold autF
    rw [h1]; rfl
  · unfold applyD autF
    rw [h1]
    exact h2
/-! ### the letters' functions: 64 Apply (65 its debt), 72 damaged by all, 80 to 83 Send (84), 96 Waits (97) -/
def piecesR (l : List (List Dat)) (a n : Int) : List (List Dat) := (l.drop a.toNat).take n.toNat
def strR (r : List Dat) : List UInt8 := (r.getD 0 (.dI 0)).asS
def sumR (l : List (List Dat)) : Nat := (l.map fun r => (strR r).length).sum
def lineOk (l : List (List Dat)) (a n : Int) : Prop := 0 ≤ a ∧ 0 ≤ n ∧ a.toNat + n.toNat ≤ l.length ∧ n ≤ 1000 ∧ ∀ r ∈ piecesR l a n, (strR r).length ≤ 100000
instance (l : List (List Dat)) (a n : Int) : Decidable (lineOk l a n) := inferInstanceAs (Decidable (_ ∧ _))
def sendL (l : List (List Dat)) (a n : Int) (d : Dat) : List (List Dat) := if d.asS = [] then l else piecesR l a n ++ [[d]]
def sendA (a : Int) (s : List UInt8) : Int := if s = [] then a else 0
def sendN (n : Int) (s : List UInt8) : Int := if s = [] then n else n + 1
def sendOk (l : List (List Dat)) (a n : Int) (s : List UInt8) (D : List (List Dat)) : Prop := lineOk l a n ∧ s.length ≤ 1000 ∧ D.length ≤ 100 ∧ ∀ r ∈ D, okRow r
instance (l : List (List Dat)) (a n : Int) (s : List UInt8) (D : List (List Dat)) : Decidable (sendOk l a n s D) := inferInstanceAs (Decidable (_ ∧ _))
abbrev nth0 (d : Dat) (i : Nat) : Dat := (cellsD d).getD i (.dI 0)
def fnLo (k : Nat) (d : Dat) : Dat :=
  bif Nat.beq k 8 then fn8 d else
  bif Nat.beq k 64 then autF flR tApply 5 1 (cellsD d) 0 else
  bif Nat.beq k 65 then autF flR tApply 5 1 (cellsD d) 1 else
  bif Nat.beq k 72 then foldR (nth0 d 0) (nth0 d 1).asL else
  bif Nat.beq k 80 then .dI ((foldR (nth0 d 3) (nth0 d 4).asL).asS.length : Int) else
  bif Nat.beq k 81 then .dL (sendL (nth0 d 0).asL (nth0 d 1).asI (nth0 d 2).asI (foldR (nth0 d 3) (nth0 d 4).asL)) else
  bif Nat.beq k 82 then .dI (sendA (nth0 d 1).asI (foldR (nth0 d 3) (nth0 d 4).asL).asS) else
  bif Nat.beq k 83 then .dI (sendN (nth0 d 2).asI (foldR (nth0 d 3) (nth0 d 4).asL).asS) else
  bif Nat.beq k 84 then .dB (decide (sendOk (nth0 d 0).asL (nth0 d 1).asI (nth0 d 2).asI (nth0 d 3).asS (nth0 d 4).asL)) else
  bif Nat.beq k 96 then .dI (sumR (piecesR (nth0 d 0).asL (nth0 d 1).asI (nth0 d 2).asI) : Int) else
  bif Nat.beq k 97 then .dB (decide (lineOk (nth0 d 0).asL (nth0 d 1).asI (nth0 d 2).asI)) else .dI 0
set_option maxRecDepth 100000 in
theorem tApply_wf : wfT SApply.m 9 1 (SApply.tree Try.prog envRp fApply) = true := by kernel_rfl
theorem tabR_ok {ρ : Rho} (hf : ρ.fn = fnLo) : TabOK ρ tabR := ⟨rep_CG fun d => by rw [hf]; rfl, trivial⟩
theorem apply_ok : SumOK Try.prog envRp fApply SApply 64 1 fnLo := by
  refine aut_ok (fl := flR) (B := 9) (cnt := 1) rfl tApply_wf (fun k d hk => ?_) (fun j d hj => ?_)
  · match k, hk with
    | 8, _ => rfl
    | 0, _ | 1, _ | 2, _ | 3, _ | 4, _ | 5, _ | 6, _ | 7, _ => rfl
  · rw [tApply_eq]
    match j, hj with
    | 0, _ => rfl
    | 1, _ => rfl
theorem applyE : SumE Try.prog fApply SApply 64 1 fnLo := SumOK.all (fun ρ0 hf => env_of (tabR_ok hf)) apply_ok
theorem sumL_CG {ρ : Rho} (hf : ρ.fn = fnLo) {f : FuncId} {S : Sum} {base r : Nat} (hS : SumE Try.prog f S base r fnLo) : CG ρ f (sumG S base r) := fun args H o v H' _ h ho => sumG_ok noCount (by rw [hf]; exact hS) h ho
def tabA1 : List (Nat × CtrG) := [(fApply, sumG SApply 64 1)]
theorem tabA1_ok {ρ : Rho} (hf : ρ.fn = fnLo) : TabOK ρ tabA1 := ⟨sumL_CG hf applyE, trivial⟩
/-! ### Send: 0 the rows, 1 from which on, 2 how many, 3 the text, 4 the damages; 5 what it answers, 6 7 8 the rows behind it -/
abbrev shD : List Kd := [.ki .u8, .ki .i64, .ki .u8, .ki .i64]
abbrev rowLn (i a n : Nat) : AObj := .row [.sslice i 1 (vt a) (vt n)] true false
abbrev argD : AV := .sslice 2 4 (.ci 0) (.llen (vt 4))
def SSend : Sum := ⟨3, 5, [.ptr 0 0, .sstr (vt 3), argD], [(0, rowLn 1 1 2), (1, .seq [.ks] (vt 0) true), (2, .seq shD (vt 4) false)], 4, iv 5, [(0, rowLn 3 7 8), (3, .seq [.ks] (vt 6) true), (2, .seq shD (vt 4) false)], [0, 1, 2, 3, 4]⟩
abbrev fSend : FuncId := 9
def HSend : Heap := ⟨3, SSend.po, [], []⟩
def TSend : St := ⟨35, [(13, iv 5), (1, .sstr (vt 6)), (12, .sint .i64 (.llen (vt 4))), (11, argD), (0, .ptr 0 0)], HSend, []⟩
def FSend : St := ⟨35, [(1, .sstr (.app 72 (tp [vt 3, vt 4]))), (0, .ptr 0 0)], HSend, []⟩
def sSend (i : Nat) : Option Tm := bif Nat.beq i 5 then some (.ci 0) else bif Nat.beq i 6 then some (vt 3) else none
def gSend : LpG := loopN 3 5 TSend FSend sSend (.exit 0)
def envS (g : LpG) : Env := ⟨tabGet tabA1, lpOne fSend 4 g⟩
/-! ### Waits -/
def SWaits : Sum := ⟨2, 3, [.ptr 0 0], [(0, rowLn 1 1 2), (1, .seq [.ks] (vt 0) true)], 2, iv 3, [(0, rowLn 1 1 2), (1, .seq [.ks] (vt 0) true)], [0, 1, 2]⟩
abbrev fWaits : FuncId := 10
def HWaits : Heap := ⟨2, SWaits.po, [], []⟩
def TWaits : St := ⟨22, [(12, iv 3), (2, iv 4), (11, iv 2), (10, .sslice 1 1 (vt 1) (vt 2)), (0, .ptr 0 0)], HWaits, []⟩
def FWaits : St := ⟨22, [(2, .sint .i64 (.app 96 (tp [vt 0, vt 1, vt 2])))], HWaits, []⟩
def sWaits (i : Nat) : Option Tm := bif Nat.beq i 3 then some (.ci 0) else bif Nat.beq i 4 then some (.ci 0) else none
def gWaits : LpG := loopN 2 3 TWaits FWaits sWaits (.exit 0)
def envWt (g : LpG) : Env := ⟨fun _ => none, lpOne fWaits 4 g⟩
end
end Go.Proofs.Ytnjafgigldfcdaa.Ab
