import Derived.Test.YtenkabjkgngcdaaGreatKd6
set_option linter.unusedVariables false
set_option linter.unusedSimpArgs false
set_option linter.unusedSectionVars false
namespace Go.Proofs.YtenkabjkgngcdaaGreat.Ab
open Go
section
variable {P : Program}
theorem zW6 (hn : NoCount P) (ρ : Rho) (ρs : Nat → Rho) (N : Nat) {n0 m fuel : Nat} {cf : zCE (AX × Option Eqs)} {lf : zF0} {body : Code} {F F' : St} (T : Nat → St) {x : AX} (hx : x ≠ .normal) (hpc : ∀ k, k ≤ N → @PC (ρs k) (T k).H)
  (hc : ∀ k, k ≤ N → @zOJ (ρs k) _ P cf) (hl : ∀ k, k ≤ N → @zOH (ρs k) P lf body) (low : ∀ k, k ≤ N → Low m (ρs k) ρ)
  (hstep : ∀ k, k < N → ∃ es, @Tree.sel _ (ρs k) (zA9 P cf lf fuel body (T k) (zGF n0 m (T (k + 1)) F')) = some (.normal, some es) ∧ EqsOk (ρs (k + 1)) (ρs k) es)
  (hlast : ∃ es, @Tree.sel _ (ρs N) (zA9 P cf lf fuel body (T N) (zGF n0 m (T (N + 1)) F)) = some (x, some es) ∧ EqsOk ρ (ρs N) es)
  {st : St} (hn0 : st.H.next = n0) {es0 : Eqs} (h0 : zR2 n0 m (T 0) st = some es0) (ok0 : EqsOk (ρs 0) ρ es0) (lg : LG st.H (xBr st F).H) : @zOI ρ P body st x (xBr st F) := by
 refine ⟨lg, fun {Q μ0 a0 w0} s0 hq => ?_⟩;have key : ∀ d k, k + d = N → ∀ ν a w, @Evo (ρs k) μ0 st.H.get n0 w0 ν (T k).H.get (T k).H.next w → @SRel (ρs k) P ν (T k) a w → LoopE P body Q a w := by
  intro d
  induction d with
  | zero =>
   intro k hk ν a w ev s;have hk : k = N := by omega
   subst hk;obtain ⟨es, hs, ok⟩ := hlast;have hp : @PC (ρs k) (T k).H := hpc k (by omega)
   obtain ⟨y, s1, k1, k2, k3, k4⟩ := @zAB (ρs k) P hn _ _ (hc k (Nat.le_refl _)) _ fuel body (hl k (Nat.le_refl _)) (T k) _ _ hp hs;refine LoopE.step (@k4 _ ν a w s fun μ1 a1 w1 ev1 sr1 => ?_).1;have hy : y = x ∧ zR2 n0 m F s1 = some es := by
    unfold zGF at k1;split at k1
    ·simp only [Tree.sel, Option.some.injEq, Prod.mk.injEq] at k1;exact absurd k1.1.symm hx
    ·simp only [Tree.sel, Option.some.injEq, Prod.mk.injEq] at k1;exact k1
   obtain ⟨rfl, hmat⟩ := hy;obtain ⟨ν', q1, q2⟩ := zD3 hmat ok ((low k (Nat.le_refl _)).symm) (by rw [← hn0]; exact s0.dom) (@Evo.trans (ρs k) _ _ _ _ _ _ _ _ _ _ _ _ ev ev1) sr1
   have hQ : Q (zGa y) a1 w1 := hq ν' a1 w1 (by rw [hn0]; exact q1) ⟨q2.fr, q2.nt, q2.df, q2.rep, q2.dom⟩
   cases y with
   | normal => exact absurd rfl hx
   | ret => exact hQ
   | exit j => exact hQ
  | succ d ih =>
   intro k hk ν a w ev s;obtain ⟨es, hs, ok⟩ := hstep k (by omega)
   have hp : @PC (ρs k) (T k).H := hpc k (by omega)
   obtain ⟨y, s1, k1, k2, k3, k4⟩ := @zAB (ρs k) P hn _ _ (hc k (by omega)) _ fuel body (hl k (by omega)) (T k) _ _ hp hs
   refine LoopE.step (@k4 _ ν a w s fun μ1 a1 w1 ev1 sr1 => ?_).1;have hy : y = .normal ∧ zR2 n0 m (T (k + 1)) s1 = some es := by
    unfold zGF at k1;split at k1
    ·simp only [Tree.sel, Option.some.injEq, Prod.mk.injEq] at k1;exact ⟨rfl, k1.2⟩
    ·rename_i hne;simp only [Tree.sel, Option.some.injEq, Prod.mk.injEq] at k1;exact (hne k1.1).elim
   obtain ⟨rfl, hmat⟩ := hy;obtain ⟨ν', q1, q2⟩ := zD3 hmat ok ((low (k + 1) (by omega)).trans (low k (by omega)).symm) (by rw [← hn0]; exact s0.dom) (@Evo.trans (ρs k) _ _ _ _ _ _ _ _ _ _ _ _ ev ev1) sr1
   exact ih (k + 1) (by omega) ν' a1 w1 q1 q2
 have ev0 : @Evo ρ μ0 st.H.get n0 w0 μ0 st.H.get st.H.next w0 := by
  rw [hn0];exact @Evo.refl ρ _ _ _ _ s0.rep (by rw [← hn0]; exact s0.dom)
 obtain ⟨ν', q1, q2⟩ := zD3 h0 ok0 (low 0 (Nat.zero_le _)) (by rw [← hn0]; exact s0.dom) ev0 s0
 exact key N 0 (by omega) ν' a0 w0 q1 q2
def xDe : Tm → Nat → Option Tm
 | .pair a _, 0 => some a
 | .pair _ b, j + 1 => xDe b j
 | _, _ => none
def xDR : Tm → Tm
 | .lget (.row t) (.ci 0) j => (xDe t j).getD (.lget (.row t) (.ci 0) j)
 | .len (.lget (.row t) (.ci 0) j) => zCP ((xDe t j).getD (.lget (.row t) (.ci 0) j))
 | x => x
theorem zRs {ρ : Rho} : ∀ (t : Tm) (j : Nat) (a : Tm), xDe t j = some a → (cellsD (@Tm.den ρ t)).getD j (.dI 0) = @Tm.den ρ a
 | .pair a b, 0, c, h => by cases h; rfl
 | .pair a b, j + 1, c, h => by
  show (cellsD (@Tm.den ρ b)).getD j (.dI 0) = _;exact zRs b j c h
 | .var _, _, _, h | .cb _, _, _, h | .ci _, _, _, h | .cs _, _, _, h | .ib _ _ _ _, _, _, h | .sb _ _ _, _, _, h | .beq _ _, _, _, h | .not _, _, _, h | .and _ _, _, _, h | .wrap _ _, _, _, h | .ite _ _ _, _, _, h | .len _, _, _, h | .oct _, _, _, h | .at _ _, _, _, h | .cut _ _ _, _, _, h | .llen _, _, _, h | .lget _ _ _, _, _, h | .plus _ _, _, _, h | .minus _ _, _, _, h | .app _ _, _, _, h | .lapp _ _, _, _, h | .row _, _, _, h | .lput _ _ _, _, _, h | .lcut _ _ _, _, _, h | .flat _, _, _, h => by simp [xDe] at h
theorem zRE {ρ : Rho} (t : Tm) (j : Nat) : @Tm.den ρ ((xDe t j).getD (.lget (.row t) (.ci 0) j)) = @Tm.den ρ (.lget (.row t) (.ci 0) j) := by
 cases h : xDe t j with
 | none => rfl
 | some a => exact (zRs t j a h).symm
theorem zX8 {ρ : Rho} (x : Tm) : @Tm.den ρ (xDR x) = @Tm.den ρ x := by
 unfold xDR;split
 ·exact zRE _ _
 ·rename_i t j;rw [zA8, zRE];rfl
 ·rfl
def zZK (σ : Nat → Option Tm) : Eqs → Option Tm
 | [] => some (.cb true)
 | e :: l => match eqT e.1 (xDR (e.2.1.subst σ)) e.2.2, zZK σ l with
  | some a, some b => some (zSr a b)
  | _, _ => none
theorem zLq {ρ0 ρ : Rho} {σ : Nat → Option Tm} (h : ∀ n, ρ0.val n = match σ n with
   | some t => @Tm.den ρ t
   | none => ρ.val n) (hf : ρ0.fn = ρ.fn) : ∀ {es : Eqs} {t : Tm}, zZK σ es = some t → (@Tm.den ρ t).asB = true → EqsOk ρ0 ρ es
 | [], _, _, _ => trivial
 | e :: l, t, hd, ht => by
  unfold zZK at hd;split at hd
  ·rename_i a b ha hb;cases hd;rw [@zBD ρ, Bool.and_eq_true] at ht;refine ⟨?_, zLq h hf hb ht.2⟩;have := zRO ha ht.1;rw [zX8, Tm.subst_den h hf] at this;exact this
  ·cases hd
noncomputable def zP0 (n0 m : Nat) (T F : St) (σ : Nat → Option Tm) (x : AX) : St → Option (Tm × AX × St) := fun st =>
 bif Nat.beq st.H.next n0 && (Nat.ble n0 F.H.next && zJA n0 F.H.next (st.H.objs.map (·.1)) F.H.objs) then match zR2 n0 m T st with
  | some es => match zZK σ es with
   | some t => some (t, x, xBr st F)
   | none => none
  | none => none else none
theorem zZr (hn : NoCount P) (ρ : Rho) (ρs : Nat → Rho) (N : Nat) {n0 m fuel : Nat} {cf : zCE (AX × Option Eqs)} {lf : zF0} {body : Code} {F F' : St} (T : Nat → St) {x : AX} (hx : x ≠ .normal) (hpc : ∀ k, k ≤ N → @PC (ρs k) (T k).H)
  (hc : ∀ k, k ≤ N → @zOJ (ρs k) _ P cf) (hl : ∀ k, k ≤ N → @zOH (ρs k) P lf body) (low : ∀ k, k ≤ N → Low m (ρs k) ρ)
  (hstep : ∀ k, k < N → ∃ es, @Tree.sel _ (ρs k) (zA9 P cf lf fuel body (T k) (zGF n0 m (T (k + 1)) F')) = some (.normal, some es) ∧ EqsOk (ρs (k + 1)) (ρs k) es)
  (hlast : ∃ es, @Tree.sel _ (ρs N) (zA9 P cf lf fuel body (T N) (zGF n0 m (T (N + 1)) F)) = some (x, some es) ∧ EqsOk ρ (ρs N) es)
  {σ : Nat → Option Tm} (hσ : ∀ n, (ρs 0).val n = match σ n with
   | some t => @Tm.den ρ t
   | none => ρ.val n) :
  ∀ st o y st', zP0 n0 m (T 0) F σ x st = some (o, y, st') → (@Tm.den ρ o).asB = true → @zOI ρ P body st y st' := by
 intro st o y st' h ho;unfold zP0 at h;cases hb : (Nat.beq st.H.next n0 && (Nat.ble n0 F.H.next && zJA n0 F.H.next (st.H.objs.map (·.1)) F.H.objs)) with
 | false => rw [hb] at h; cases h
 | true =>
  rw [hb] at h;obtain ⟨b1, hb⟩ := Bool.and_eq_true_iff.1 hb;obtain ⟨b2, b3⟩ := Bool.and_eq_true_iff.1 hb;have b1 := Nat.eq_of_beq_eq_true b1;have b2 := Nat.le_of_ble_eq_true b2;simp only [cond_true] at h;split at h
  ·rename_i es hm;split at h
   ·rename_i t hd;cases h;refine zW6 (F' := F') hn ρ ρs N T hx hpc hc hl low hstep hlast b1 hm (zLq hσ (low 0 (Nat.zero_le _)).2 hd ho) ?_;refine fun bd => ⟨fun i o hi => (zDn b3 i o hi).1, st.H.objs.map (·.1), rfl, fun i hi hni => ?_, by rw [b1]; exact b2⟩
    have e1 : st.H.get i = none := by
     cases hg : st.H.get i with
     | none => rfl
     | some o =>
      exfalso;refine hni ?_;have key : ∀ (l : List (Nat × AObj)), look l i = some o → i ∈ l.map (·.1) := by
       intro l
       induction l with
       | nil => intro h; cases h
       | cons p l ih =>
        intro h;obtain ⟨a, b⟩ := p;rw [zAH] at h;split at h
        ·rename_i e; subst e; simp
        ·exact List.mem_cons_of_mem _ (ih h)
      exact key _ hg
    rw [e1];cases hg : (xBr st F).H.get i with
    | none => rfl
    | some o => exact (hni ((zDn b3 i o hg).2 (by omega))).elim
   ·cases h
  ·cases h
end
theorem xBd {f : FuncId} {li n0 m : Nat} {F F' : St} {σ : Nat → Option Tm} {x : AX} {env : Env} (T : Nat → St) (N : Nat) (I : Nat → Rho → Prop) (ρ0 : Rho) (h0 : I 0 ρ0) (hx : x ≠ .normal)
  (hpc : ∀ i, i ≤ N → ∀ ρ, I i ρ → @PC ρ (T i).H)
  (henv : ∀ i ρ, I i ρ → @EnvOK ρ Tryz.prog env) (hlow : ∀ i ρ, I i ρ → Low m ρ0 ρ)
  (hstep : ∀ i, i < N → ∀ ρ, I i ρ → NxP ρ (I (i + 1)) (zA9 Tryz.prog (zCD Tryz.prog env 1000) (fun _ => none) 1000000 (zCB Tryz.prog f li) (T i) (zGF n0 m (T (i + 1)) F')))
  (hlast : ∀ ρ, I N ρ → ∃ es, @Tree.sel _ ρ (zA9 Tryz.prog (zCD Tryz.prog env 1000) (fun _ => none) 1000000 (zCB Tryz.prog f li) (T N) (zGF n0 m (T (N + 1)) F)) = some (x, some es) ∧ EqsOk ρ ρ es)
  (hσ : ∀ ρ, I N ρ → ∀ n, ρ0.val n = match σ n with
   | some t => @Tm.den ρ t
   | none => ρ.val n) : ∃ ρ, I N ρ ∧ GOk ρ f li (zP0 n0 m (T 0) F σ x) := by
 obtain ⟨g, g0, g1, g2⟩ := zKw I (fun i ρ ρ' => ∃ es, @Tree.sel _ ρ (zA9 Tryz.prog (zCD Tryz.prog env 1000) (fun _ => none) 1000000 (zCB Tryz.prog f li) (T i) (zGF n0 m (T (i + 1)) F')) = some (AX.normal, some es) ∧ EqsOk ρ' ρ es) ρ0 h0 N fun i hi ρ hr => hstep i hi ρ hr;refine ⟨g N, g1 N (Nat.le_refl _), ?_⟩;refine zZr (F' := F') zCq (g N) g N (fuel := 1000000) (cf := zCD Tryz.prog env 1000) (lf := fun _ => none) T hx (fun i hi => hpc i hi _ (g1 i hi)) (fun i hi => ?_) (fun i hi => ?_) (fun i hi => ?_) (fun i hi => ?_) ?_ (fun n => ?_)
 ·letI : Rho := g i
  exact zC5 zCq (henv i _ (g1 i hi)) 1000
 ·letI : Rho := g i
  exact zNW
 ·obtain ⟨a1, a2⟩ := hlow i _ (g1 i hi);obtain ⟨b1, b2⟩ := hlow N _ (g1 N (Nat.le_refl _));exact ⟨fun n hn => (a1 n hn).symm.trans (b1 n hn), a2.symm.trans b2⟩
 ·exact g2 i hi
 ·exact hlast _ (g1 N (Nat.le_refl _))
 ·rw [g0]; exact hσ _ (g1 N (Nat.le_refl _)) n
end Go.Proofs.YtenkabjkgngcdaaGreat.Ab
namespace Go.Proofs.YtenkabjkgngcdaaGreat.Ab
open Go
noncomputable section
def xFI : List (Nat × AObj) := (29, .row [bv 147, bv 148, iv 149, iv 150, iv 151, iv 152, iv 153, iv 154] true true) :: poR
def TRi (b : Int) (n0 : Nat) : St := ⟨152, [(7, iv 155), (5, .int .i64 b), (3, .ptr 29 0), (0, .ptr 26 0)], ⟨n0, xFI, [], []⟩, []⟩
def FRi (b : Int) (n0 : Nat) : St := ⟨152, [(5, .int .i64 b), (3, .ptr 29 0), (0, .ptr 26 0)], ⟨n0, xFI, [], []⟩, []⟩
def sRi (i : Nat) : Option Tm := bif Nat.beq i 155 then some (.ci 0) else none
def gRi (b : Int) (n0 : Nat) : LpG := zWA n0 155 (TRi b n0) (FRi b n0) sRi (.exit 2)
def gOr (g h : LpG) : LpG := fun st => match g st with
 | some r => some r
 | none => h st
theorem xGf {ρ : Rho} {f : FuncId} {i : Nat} {g h : LpG} (hg : GOk ρ f i g) (hh : GOk ρ f i h) : GOk ρ f i (gOr g h) := fun st o x st' e ho => by
 unfold gOr at e;split at e
 ·rename_i r hr;cases e;exact hg st o x st' hr ho
 ·exact hh st o x st' e ho
def xBN : List (Nat × zM9) := [(37, zWE)]
def xGo : Env := ⟨zBP xBN, zWw fRi 8 (gOr (gRi 0 31) (gRi 1 32))⟩
def zOp : Env := ⟨zBP xBN, fun _ _ => none⟩
set_option maxRecDepth 100000 in
theorem xIl : keyAt Tryz.prog fRi 8 1 = true := by kernel_rfl
end
end Go.Proofs.YtenkabjkgngcdaaGreat.Ab
namespace Go.Proofs.YtenkabjkgngcdaaGreat.Ab
open Go
noncomputable section
def inT : Tm := .ib .lss .i64 (vt 9) (.llen (vt 0))
def xH1 : Tm := .and (.ib .leq .i64 (.ci 0) (vt 9)) (.ib .lss .i64 (vt 9) (.llen (vt 0)))
def xE9 : Tm := .ib .gtr .i64 (.len (.lget (vt 0) (vt 9) 4)) (.ci 40)
def opT (k : Nat) : Tm := .ib .eql .u8 (.ib .rem .u8 (.lget (vt 0) (vt 9) 0) (.ci 14)) (.ci (k : Int))
def xFE (c : Nat) : List (Tm × Bool) := (List.range 13).map fun k => (opT k, Nat.beq k c)
def pcC (b : Bool) (c : Nat) : List (Tm × Bool) := (inT, true) :: (xH1, true) :: (xE9, false) :: (.lget (vt 0) (vt 9) 1, b) :: xFE c
def zME (pc : List (Tm × Bool)) : St := ⟨59, TCp.fr, ⟨36, TCp.H.objs, [], pc⟩, []⟩
def zF9 (b : Bool) (c : Nat) : Tree (AX × Option Eqs) := zA9 Tryz.prog (zCD Tryz.prog zIg 1000) (fun _ => none) 1000000 (zCB Tryz.prog fCp 0) (zME (pcC b c)) (zGF 28 9 TCp FCp)
end
end Go.Proofs.YtenkabjkgngcdaaGreat.Ab
namespace Go.Proofs.YtenkabjkgngcdaaGreat.Ab
open Go
noncomputable section
def chE (d : Nat) (X : Tm) : Eqs := [(.sB, prj (vt d) 39, prj X 39), (.sB, prj (vt d) 40, prj X 40), (.sI, prj (vt d) 41, prj X 41), (.sI, prj (vt d) 42, prj X 42), (.sI, prj (vt d) 43, prj X 43), (.sI, prj (vt d) 44, prj X 44), (.sI, prj (vt d) 45, prj X 45), (.sI, prj (vt d) 46, prj X 46), (.sI, prj (vt d) 47, prj X 47), (.sI, prj (vt d) 48, prj X 48), (.sB, prj (vt d) 49, prj X 49), (.sI, prj (vt d) 50, prj X 50), (.sI, prj (vt d) 51, prj X 51), (.sI, prj (vt d) 53, prj X 53), (.sI, prj (vt d) 54, prj X 54), (.sB, prj (vt d) 55, prj X 55), (.sI, prj (vt d) 56, prj X 56), (.sB, prj (vt d) 57, prj X 57), (.sI, prj (vt d) 58, prj X 58), (.sI, prj (vt d) 59, prj X 59), (.sS, prj (vt d) 60, prj X 60), (.sI, prj (vt d) 61, prj X 61), (.sB, prj (vt d) 62, prj X 62), (.sI, prj (vt d) 63, prj X 63), (.sB, prj (vt d) 64, prj X 64), (.sI, prj (vt d) 65, prj X 65), (.sI, prj (vt d) 66, prj X 66), (.sS, prj (vt d) 67, prj X 67), (.sI, prj (vt d) 0, prj X 0), (.sB, prj (vt d) 1, prj X 1), (.sI, prj (vt d) 2, prj X 2), (.sI, prj (vt d) 3, prj X 3), (.sI, prj (vt d) 4, prj X 4), (.sI, prj (vt d) 5, prj X 5), (.sI, prj (vt d) 6, prj X 6), (.sI, prj (vt d) 7, prj X 7), (.sI, prj (vt d) 8, prj X 8), (.sI, prj (vt d) 9, prj X 9), (.sI, prj (vt d) 10, prj X 10), (.sB, prj (vt d) 11, prj X 11), (.sB, prj (vt d) 12, prj X 12), (.sB, prj (vt d) 13, prj X 13), (.sB, prj (vt d) 14, prj X 14), (.sB, prj (vt d) 15, prj X 15), (.sB, prj (vt d) 16, prj X 16), (.sI, prj (vt d) 17, prj X 17), (.sI, prj (vt d) 18, prj X 18), (.sI, prj (vt d) 19, prj X 19), (.sI, prj (vt d) 20, prj X 20), (.sI, prj (vt d) 21, prj X 21), (.sI, prj (vt d) 23, prj X 23), (.sB, prj (vt d) 24, prj X 24), (.sB, prj (vt d) 25, prj X 25), (.sB, prj (vt d) 26, prj X 26), (.sB, prj (vt d) 27, prj X 27), (.sL, prj (vt d) 22, prj X 22), (.sB, prj (vt d) 28, prj X 28), (.sI, prj (vt d) 29, prj X 29), (.sI, prj (vt d) 30, prj X 30), (.sI, prj (vt d) 31, prj X 31), (.sI, prj (vt d) 32, prj X 32), (.sI, prj (vt d) 33, prj X 33), (.sI, prj (vt d) 36, prj X 36), (.sI, prj (vt d) 34, prj X 34), (.sI, .len (prj (vt d) 35), .len (prj X 35)), (.sI, prj (vt d) 34, prj X 34), (.sI, prj (vt d) 36, prj X 36), (.sS, prj (vt d) 35, prj X 35), (.sI, prj (vt d) 37, prj X 37), (.sS, prj (vt d) 38, prj X 38), (.sL, prj (vt d) 52, prj X 52)]
def lfE (X Y w0 w1 r0 r1 bad o0 n0 L0 o1 n1 L1 : Tm) : Eqs := (.sI, vt 9, .ib .add .i64 (vt 9) (.ci 1)) :: (chE 10 X ++ (chE 11 Y ++ [(.sI, vt 17, o0), (.sI, vt 18, n0), (.sI, vt 20, o1), (.sI, vt 21, n1), (.sS, vt 12, w0), (.sS, vt 13, w1), (.sS, vt 14, r0), (.sS, vt 15, r1), (.sB, vt 16, bad), (.sL, vt 19, L0), (.sL, vt 22, L1)]))
def rgE (X Y w0 w1 r0 r1 bad o0 n0 L0 o1 n1 L1 : Tm) : Tm := tp [prj X 21, prj X 35, prj X 38, prj X 29, prj X 33, prj Y 21, prj Y 35, prj Y 38, prj Y 29, prj Y 33, w0, w1, r0, r1, bad, o0, n0, L0, o1, n1, L1, vt 3, vt 7, vt 8]
def tlE (X Y w0 w1 r0 r1 bad o0 n0 L0 o1 n1 L1 : Tm) : Tree (AX × Option Eqs) := .fork (.app 5120 (rgE X Y w0 w1 r0 r1 bad o0 n0 L0 o1 n1 L1)) (.leaf (.normal, some (lfE X Y w0 w1 r0 r1 bad o0 n0 L0 o1 n1 L1))) .fail
end
end Go.Proofs.YtenkabjkgngcdaaGreat.Ab
