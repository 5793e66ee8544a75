/-
  ArqPair, called: it returns true and makes at most new blocks.
  Conditions: arguments as the model reads them.
-/
import Derived.Test.YtlbkficdelepeaaPrS
import Derived.Test.YtlbkficdelepeaaB0
namespace Go.Proofs.Ytlbkficdelepeaa.Ab
set_option linter.unusedSimpArgs false
set_option linter.unusedVariables false
open Go
set_option linter.unusedSectionVars false
noncomputable section
def DZ (k n2 t1 : Int) : List Dat := [.dI 0, .dI 0, .dI 0, .dI 0, .dI 0, .dI 0, .dI 0, .dB false, .dB false, .dB false, .dB false, .dB false, .dB false, .dI k, .dI n2, .dI t1, .dI 0, .dI 0, .dB false, .dI 0, .dB false, .dB false, .dB false, .dB false]
def DMZ : List Dat := [.dI 0, .dI 0, .dI 0, .dI 0, .dB false, .dI 0, .dI 0, .dB false, .dI 0, .dI 0, .dB false]
def sZ (k n2 t1 : Int) : SSt := ⟨k, n2, t1, 0, 0, [], 0, 0, 0, 0, false, false, false, false, false, false, false, false, false, false, 0, 0⟩
section
variable {L : List (List Dat)} {k n2 t1 : Int}
theorem relZ (h1 : 1 ≤ k) (h2 : k ≤ 7) (h3 : 0 ≤ n2) (h4 : n2 ≤ 255) (h5 : 1 ≤ t1) (h6 : t1 ≤ 255) : Rel 0 (aOf (DZ k n2 t1)) (sZ k n2 t1) :=
  { ek := rfl, en := rfl, et := rfl, k1 := h1, k7 := h2, n0 := h3, n2 := h4, t0 := h5, t2 := h6, va := rfl, vr := rfl, out := rfl, high := rfl, len := rfl, failed := rfl, busy := rfl, rejs := rfl, wants := rfl, pb := rfl, asks := rfl, due := rfl, final := rfl, reject := rfl, poll := rfl, tries := rfl, left := rfl,
    acked0 := Int.le_refl _, sent0 := Int.le_refl _, top0 := Int.le_refl _, len0 := Int.le_refl _, lenk := by show (0 : Int) - 0 ≤ k; omega
    lenN := Int.le_refl _, got0 := Int.le_refl _, gotN := Int.le_refl _, aoff := Int.le_refl _, aL := Int.le_refl _, soff := Int.le_refl _, sL := Int.le_refl _, W := rfl, left0 := Int.le_refl _, left2 := by show (0 : Int) ≤ 255; omega
    tries0 := Int.le_refl _, tries2 := by show (0 : Int) ≤ n2 + 1; omega
    tries3 := fun _ => h3, fleft := fun _ => rfl }
theorem invZ (h1 : 1 ≤ k) (h2 : k ≤ 7) (h3 : 0 ≤ n2) (h4 : n2 ≤ 255) (h5 : 1 ≤ t1) (h6 : t1 ≤ 255) : PInv 0 (aOf (DZ k n2 t1)) (aOf (DZ k n2 t1)) (mOf DMZ) := by
  have hr := relZ h1 h2 h3 h4 h5 h6
  have hd : Dir (sZ k n2 t1) (sZ k n2 t1) 0 0 [] := ⟨rfl, rfl, fun j hj => by
    have : (j : Int) < 0 := hj
    omega, ⟨Int.le_refl _, Int.le_refl _⟩⟩
  have hl : Lok 0 0 0 ([] : List (List Dat)) := ⟨Int.le_refl _, Int.le_refl _, Int.le_refl _, Int.le_refl _⟩
  exact ⟨sZ k n2 t1, sZ k n2 t1, hr, hr, hd, hd, rfl, hl, hl, rfl⟩
theorem valQ {i i' : Nat} {DA DB DM DA' DB' DM' : List Dat} (h1 : DM.length = 11) (h2 : DM'.length = 11) (n : Nat) : (rhoQ L k n2 t1 i DA DB DM).val (n + 64) = (rhoQ L k n2 t1 i' DA' DB' DM').val (n + 64) := by
  have b : ∀ m : Nat, m ≤ 64 → Nat.blt (n + 64) m = false := fun m hm => by
    rw [Bool.eq_false_iff]; intro h; rw [Nat.blt_eq] at h; omega
  show (bif Nat.blt (n + 64) 5 then _ else bif Nat.blt (n + 64) 29 then _ else bif Nat.blt (n + 64) 53 then _ else DM.getD (n + 64 - 53) (.dI 0)) = (bif Nat.blt (n + 64) 5 then _ else bif Nat.blt (n + 64) 29 then _ else bif Nat.blt (n + 64) 53 then _ else DM'.getD (n + 64 - 53) (.dI 0))
  simp only [b 5 (by omega), b 29 (by omega), b 53 (by omega), cond_false]
  rw [List.getD_eq_getElem?_getD, List.getD_eq_getElem?_getD, List.getElem?_eq_none (by omega), List.getElem?_eq_none (by omega)]
/-- What the arguments' rows are. -/
def RowsU (L : List (List Dat)) : Prop := ∀ i, i < L.length → 0 ≤ gI (L.getD i []) 0
theorem envPr_ok {ρ : Rho} (hf : ρ.fn = fnOf mSid) {g : LpG} (h : GOk ρ fPr 0 g) : @EnvOK ρ Try.prog (envPr g) := envOne_ok (fun f g' hg => tabOK_get (tabV_ok hf) f g' hg) keyPr h
theorem gPr_ex (hL : RowsU L) (hN : L.length ≤ 300) (h1 : 1 ≤ k) (h2 : k ≤ 7) (h3 : 0 ≤ n2) (h4 : n2 ≤ 255) (h5 : 1 ≤ t1) (h6 : t1 ≤ 255) : ∃ ρ, IPr L k n2 t1 L.length ρ ∧ GOk ρ fPr 0 gPr := by
  refine loopI (env := envV) (tree := rtPr) L.length (IPr L k n2 t1) (rhoQ L k n2 t1 0 (DZ k n2 t1) (DZ k n2 t1) DMZ) ⟨_, _, _, rfl, rfl, invZ h1 h2 h3 h4 h5 h6, rfl⟩ (by simp) rfl rtPr_eq (fun i ρ h => ?_) (fun i ρ h => ?_) (fun i hi ρ h => ?_) (fun ρ h => ?_) (fun ρ h n => ?_)
  · obtain ⟨DA, DB, DM, rfl, _⟩ := h
    exact envV_ok rfl
  · obtain ⟨DA, DB, DM, rfl, _⟩ := h
    refine ⟨fun n hn => ?_, rfl⟩
    match n, hn with
    | 0, _ => rfl
    | 1, _ => rfl
    | 2, _ => rfl
    | 3, _ => rfl
  · obtain ⟨DA, DB, DM, rfl, _, hI, hk⟩ := h
    exact round_np hI hk (hL i hi) hi (by omega)
  · obtain ⟨DA, DB, DM, rfl, _⟩ := h
    refine ⟨[], ?_, trivial⟩
    have e : (@Tm.den (rhoQ L k n2 t1 L.length DA DB DM) (.ib .lss .i64 (vt 4) (.llen (vt 0)))).asB = false := decide_eq_false (by show ¬ (L.length : Int) < (L.length : Int); omega)
    unfold rtPr
    exact sel_F e
  · obtain ⟨DA, DB, DM, rfl, hl, _⟩ := h
    match n with
    | 0 => (show _ = _; kernel_rfl)
    | 1 => (show _ = _; kernel_rfl)
    | 2 => (show _ = _; kernel_rfl)
    | 3 => (show _ = _; kernel_rfl)
    | 4 => (show _ = _; kernel_rfl)
    | 5 => (show _ = _; kernel_rfl)
    | 6 => (show _ = _; kernel_rfl)
    | 7 => (show _ = _; kernel_rfl)
    | 8 => (show _ = _; kernel_rfl)
    | 9 => (show _ = _; kernel_rfl)
    | 10 => (show _ = _; kernel_rfl)
    | 11 => (show _ = _; kernel_rfl)
    | 12 => (show _ = _; kernel_rfl)
    | 13 => (show _ = _; kernel_rfl)
    | 14 => (show _ = _; kernel_rfl)
    | 15 => (show _ = _; kernel_rfl)
    | 16 => (show _ = _; kernel_rfl)
    | 17 => (show _ = _; kernel_rfl)
    | 18 => (show _ = _; kernel_rfl)
    | 19 => (show _ = _; kernel_rfl)
    | 20 => (show _ = _; kernel_rfl)
    | 21 => (show _ = _; kernel_rfl)
    | 22 => (show _ = _; kernel_rfl)
    | 23 => (show _ = _; kernel_rfl)
    | 24 => (show _ = _; kernel_rfl)
    | 25 => (show _ = _; kernel_rfl)
    | 26 => (show _ = _; kernel_rfl)
    | 27 => (show _ = _; kernel_rfl)
    | 28 => (show _ = _; kernel_rfl)
    | 29 => (show _ = _; kernel_rfl)
    | 30 => (show _ = _; kernel_rfl)
    | 31 => (show _ = _; kernel_rfl)
    | 32 => (show _ = _; kernel_rfl)
    | 33 => (show _ = _; kernel_rfl)
    | 34 => (show _ = _; kernel_rfl)
    | 35 => (show _ = _; kernel_rfl)
    | 36 => (show _ = _; kernel_rfl)
    | 37 => (show _ = _; kernel_rfl)
    | 38 => (show _ = _; kernel_rfl)
    | 39 => (show _ = _; kernel_rfl)
    | 40 => (show _ = _; kernel_rfl)
    | 41 => (show _ = _; kernel_rfl)
    | 42 => (show _ = _; kernel_rfl)
    | 43 => (show _ = _; kernel_rfl)
    | 44 => (show _ = _; kernel_rfl)
    | 45 => (show _ = _; kernel_rfl)
    | 46 => (show _ = _; kernel_rfl)
    | 47 => (show _ = _; kernel_rfl)
    | 48 => (show _ = _; kernel_rfl)
    | 49 => (show _ = _; kernel_rfl)
    | 50 => (show _ = _; kernel_rfl)
    | 51 => (show _ = _; kernel_rfl)
    | 52 => (show _ = _; kernel_rfl)
    | 53 => (show _ = _; kernel_rfl)
    | 54 => (show _ = _; kernel_rfl)
    | 55 => (show _ = _; kernel_rfl)
    | 56 => (show _ = _; kernel_rfl)
    | 57 => (show _ = _; kernel_rfl)
    | 58 => (show _ = _; kernel_rfl)
    | 59 => (show _ = _; kernel_rfl)
    | 60 => (show _ = _; kernel_rfl)
    | 61 => (show _ = _; kernel_rfl)
    | 62 => (show _ = _; kernel_rfl)
    | 63 => (show _ = _; kernel_rfl)
    | n + 64 => exact valQ rfl hl n
theorem okT [Rho] {c : Tm} {x y : Tree AV} (h : c.den.asB = true) (hx : x.ok) : (Tree.fork c x y).ok := ⟨fun _ => hx, fun k => absurd (h.symm.trans k) (by simp)⟩
theorem okL1 [Rho] : (Tree.leaf (AV.bool true)).ok := ⟨.cb true, rfl, rfl⟩
theorem lawD_ok {i : Nat} {DA DB DM : List Dat} (h : ¬ (L.length ≤ 300 ∧ 1 ≤ k ∧ k ≤ 7 ∧ 0 ≤ n2 ∧ n2 ≤ 255 ∧ 1 ≤ t1 ∧ t1 ≤ 255)) : @Tree.ok (rhoQ L k n2 t1 i DA DB DM) lawDt := by
  letI ρ : Rho := rhoQ L k n2 t1 i DA DB DM
  have d0 : (Tm.llen (vt 0)).den.asI = (L.length : Int) := rfl
  have d1 : (vt 1).den.asI = k := rfl
  have d2 : (vt 2).den.asI = n2 := rfl
  have d3 : (vt 3).den.asI = t1 := rfl
  refine ⟨fun _ => okL1, fun q1 => ⟨fun q2 => ⟨fun q3 => ⟨fun q4 => ⟨fun q5 => ⟨fun q6 => ⟨fun _ => okL1, fun q7 => ?_⟩, fun _ => okL1⟩, fun _ => okL1⟩, fun _ => okL1⟩, fun _ => okL1⟩, fun _ => okL1⟩⟩
  simp only [gtr_f, geq_t, leq_t, d0, d1, d2, d3, d_ci] at q1 q2 q3 q4 q5 q6 q7
  exact absurd ⟨by omega, by omega, by omega, by omega, by omega, by omega, by omega⟩ h
set_option maxRecDepth 100000 in
theorem lawPr_ok (ρ : Rho) : @Tree.ok ρ (lawPr gPr) := by
  letI : Rho := ρ
  exact Tree.allT_ok (lawPr gPr) lawPr_all
set_option maxRecDepth 100000 in
/-- The law holds of any rows. -/
theorem law_pair (hL : RowsU L) : ∃ (ρ : Rho) (g : LpG), ρ.val 0 = .dL L ∧ ρ.val 1 = .dI k ∧ ρ.val 2 = .dI n2 ∧ ρ.val 3 = .dI t1 ∧ @EnvOK ρ Try.prog (envPr g) ∧ @Tree.ok ρ (lawPr g) := by
  by_cases h : L.length ≤ 300 ∧ 1 ≤ k ∧ k ≤ 7 ∧ 0 ≤ n2 ∧ n2 ≤ 255 ∧ 1 ≤ t1 ∧ t1 ≤ 255
  · obtain ⟨h0, h1, h2, h3, h4, h5, h6⟩ := h
    obtain ⟨ρ, ⟨DA, DB, DM, rfl, _⟩, hg⟩ := gPr_ex hL h0 h1 h2 h3 h4 h5 h6
    refine ⟨_, gPr, rfl, rfl, rfl, rfl, envPr_ok rfl hg, ?_⟩
    exact lawPr_ok _
  · refine ⟨rhoQ L k n2 t1 0 [] [] [], dead, rfl, rfl, rfl, rfl, envPr_ok rfl (dead_ok _ _ _), ?_⟩
    rw [lawPr_dead]
    exact lawD_ok h
end
end
set_option maxRecDepth 100000 in
theorem arqPair_w (k n2 t1 : Int) (v : Value) (w : World) (h : v = .slice none 0 0 ∨ ∃ a len cap rows, v = .slice (some a) len cap ∧ len ≤ maxLen ∧ SliceAt w a len cap shPr rows) :
    Calls Try.prog 4 #[.int .i64 k, .int .i64 n2, .int .i64 t1, v] w fun e w' => e = .returned (.bool true) ∧ RowKit.Below w.heap.size w w' := by
  rcases h with rfl | ⟨a, len, cap, L, rfl, hmx, hs⟩
  · letI ρ : Rho := rhoQ [] k n2 t1 0 [] [] []
    exact call_true (evFun_ok noCount (envV_ok rfl) 1000) (args := [iv 1, iv 2, iv 3, .nilSlice]) (Tree.allT_ok _ nilPr_all) (cargs := [.int .i64 k, .int .i64 n2, .int .i64 t1, .slice none 0 0]) ⟨_, _, rfl, ⟨_, _, rfl, ⟨_, _, rfl, ⟨_, _, rfl, rfl, rfl⟩, rfl⟩, rfl⟩, rfl⟩ w
  · have hR : RowsU L := fun i hi => by
      rw [hs.n] at hi
      obtain ⟨n, h1, h2⟩ := hs.ok i hi 0 _ rfl
      unfold gI
      rw [h1]
      simp [Lit.wf, IntKind.min, IntKind.max, IntKind.signed, IntKind.bits] at h2
      show 0 ≤ n
      omega
    obtain ⟨ρ, g1, h0, h1, h2, h3, hE, hT⟩ := law_pair (k := k) (n2 := n2) (t1 := t1) hR
    letI := ρ
    have ht : (vt 0).den.asL = L := by
      show (ρ.val 0).asL = L
      rw [h0]; rfl
    have e1 : (vt 1).den.asI = k := by
      show (ρ.val 1).asI = k
      rw [h1]; rfl
    have e2 : (vt 2).den.asI = n2 := by
      show (ρ.val 2).asI = n2
      rw [h2]; rfl
    have e3 : (vt 3).den.asI = t1 := by
      show (ρ.val 3).asI = t1
      rw [h3]; rfl
    have hm : (fun id => if id = 0 then some (⟨a.block, a.off, cap, shPr.length, len * shPr.length, false⟩ : Loc) else none) 0 = some ⟨a.block, a.off, cap, shPr.length, len * shPr.length, false⟩ := rfl
    have hobj : ∀ id o, H0Pr.get id = some o → id = 0 ∧ o = .seq shPr (vt 0) false := fun id o hg => by
      have hg' : look [(0, AObj.seq shPr (vt 0) false)] id = some o := hg
      rw [look_cons'] at hg'
      split at hg'
      · rename_i e; cases hg'; exact ⟨e, rfl⟩
      · cases hg'
    refine call_true_at (evFun_ok noCount hE 1000) (args := argsPr) (H := H0Pr) rfl (fun id o hg => ?_) hT (μ := fun id => if id = 0 then some (⟨a.block, a.off, cap, shPr.length, len * shPr.length, false⟩ : Loc) else none) (cargs := [.int .i64 k, .int .i64 n2, .int .i64 t1, .slice (some a) len cap]) ?_ ⟨fun id o hg => ?_, fun i j oi oj li lj h1 h2 hij _ _ _ => ?_⟩ (fun id hid => ?_)
    · obtain ⟨_, rfl⟩ := hobj id o hg; rfl
    · exact ⟨_, _, (by rw [← e1]; exact rfl), ⟨_, _, (by rw [← e2]; exact rfl), ⟨_, _, (by rw [← e3]; exact rfl), ⟨_, _, hs.val (by decide) ht hm, rfl, rfl⟩, rfl⟩, rfl⟩, rfl⟩
    · obtain ⟨rfl, rfl⟩ := hobj id o hg
      exact hs.rep ht hm
    · obtain ⟨rfl, _⟩ := hobj i oi h1
      obtain ⟨rfl, _⟩ := hobj j oj h2
      exact absurd rfl hij
    · have : id ≠ 0 := by
        have h1 : 1 ≤ id := hid
        omega
      exact if_neg this
end Go.Proofs.Ytlbkficdelepeaa.Ab
namespace Go.Proofs.Ytlbkficdelepeaa
open Go Go.Proofs.Ytlbkficdelepeaa.Ab
theorem arqPair_walk (k : Int) (_ : (Lit.int .i64 k).wf = true) (n2 : Int) (_ : (Lit.int .i64 n2).wf = true) (t1 : Int) (_ : (Lit.int .i64 t1).wf = true) (v : Value) (w : World) (h : v = .slice none 0 0 ∨ ∃ a len cap rows, v = .slice (some a) len cap ∧ len ≤ maxLen ∧ SliceAt w a len cap shPr rows) :
    Calls Try.prog 4 #[.int .i64 k, .int .i64 n2, .int .i64 t1, v] w fun e w' => e = .returned (.bool true) ∧ RowKit.Below w.heap.size w w' := arqPair_w k n2 t1 v w h
end Go.Proofs.Ytlbkficdelepeaa
