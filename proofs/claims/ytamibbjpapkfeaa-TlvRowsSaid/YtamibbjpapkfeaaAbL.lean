import Derived.Test.YtamibbjpapkfeaaAbC
namespace Go.Proofs.Ytamibbjpapkfeaa.Ab
set_option linter.unusedSimpArgs false
set_option linter.unusedVariables false
open Go
set_option linter.unusedSectionVars false
noncomputable section
variable {P : Program}
/-- What some slots hold. -/
def FlatI (l : List (Nat × Value)) (tmps : Array Value) : Prop := ∀ p ∈ l, tmps[p.1]? = some p.2
/-- A round of a loop: from these values in these slots to those; it makes at most new blocks. -/
def RoundF (P : Program) (body : Code) (nt : Nat) (l : List (Nat × Value)) (x : Exit) (l' : List (Nat × Value)) : Prop :=
  ∀ a w, FlatI l a.tmps → a.tmps.size = nt → a.defers = [] → body.wp P (fun e a' w' => e = x ∧ FlatI l' a'.tmps ∧ a'.tmps.size = nt ∧ a'.defers = [] ∧ RowKit.Below w.heap.size w w') a w
theorem loop_flat {body : Code} {nt : Nat} (F : Nat → List (Nat × Value)) (x : Exit) (hx : x ≠ .normal) (fin : List (Nat × Value)) : ∀ (N : Nat) (k : Nat), (∀ n, k ≤ n → n < k + N → RoundF P body nt (F n) .normal (F (n + 1))) → RoundF P body nt (F (k + N)) x fin →
    ∀ (a : Act) (w0 w : World), FlatI (F k) a.tmps → a.tmps.size = nt → a.defers = [] → RowKit.Below w0.heap.size w0 w →
      Code.rounds P body (fun e a' w' => e = x ∧ FlatI fin a'.tmps ∧ a'.tmps.size = nt ∧ a'.defers = [] ∧ RowKit.Below w0.heap.size w0 w') (N + 1) a w
  | 0, k, hs, hl, a, w0, w, h1, h2, h3, hb => by
    rw [rounds_succ]
    refine wp_mono (hl a w h1 h2 h3) fun e a' w' hh => ?_
    obtain ⟨rfl, k1, k2, k3, k4⟩ := hh
    have : RowKit.Below w0.heap.size w0 w' := hb.trans (k4.mono hb.size)
    cases e with
    | normal => exact absurd rfl hx
    | _ => exact ⟨rfl, k1, k2, k3, this⟩
  | N + 1, k, hs, hl, a, w0, w, h1, h2, h3, hb => by
    rw [rounds_succ]
    refine wp_mono (hs k (Nat.le_refl _) (by omega) a w h1 h2 h3) fun e a' w' hh => ?_
    obtain ⟨rfl, k1, k2, k3, k4⟩ := hh
    exact loop_flat F x hx fin N (k + 1) (fun n q1 q2 => hs n (by omega) (by omega)) (by rw [show k + 1 + N = k + (N + 1) by omega]; exact hl) a' w0 w' k1 k2 k3 (hb.trans (k4.mono hb.size))
variable [Rho]
/-- The slots' values. -/
def lks (fr : FR) : List Nat → Option (List AV)
  | [] => some []
  | t :: l => match lk fr t, lks fr l with
    | some v, some r => some (v :: r)
    | _, _ => none
theorem lks_VRs {μ : Mu} {fr : FR} {tmps : Array Value} (hf : FRel μ fr tmps) : ∀ (l : List Nat) (vs : List AV), lks fr l = some vs → ∃ cs : List Value, VRs μ vs cs ∧ FlatI (l.zip cs) tmps
  | [], vs, h => by cases h; exact ⟨[], rfl, fun p hp => by cases hp⟩
  | t :: l, vs, h => by
    simp only [lks] at h
    split at h
    · rename_i v r hv hr
      cases h
      obtain ⟨c, h1, h2⟩ := hf t v hv
      obtain ⟨cs, h3, h4⟩ := lks_VRs hf l r hr
      exact ⟨c :: cs, ⟨c, cs, h2, h3, rfl⟩, fun p hp => by
        simp only [List.zip_cons_cons, List.mem_cons] at hp
        rcases hp with rfl | hp
        · exact h1
        · exact h4 p hp⟩
    · cases h
/-- What is left of a round: how it ended, and some slots. -/
def outK (nt : Nat) (outs : List Nat) (x : AX) (st : St) : Tree (AX × List AV) := match st.df, lks st.fr outs with
  | [], some vs => bif flats vs && Nat.beq st.nt nt then .leaf (x, vs) else .fail
  | _, _ => .fail
theorem roundF_of (hn : NoCount P) {cf : CallF (AX × List AV)} (hc : CfOK P cf) {lf : LoopF} {body : Code} (hl : LpOK P lf body) {n nt : Nat} {ins outs : List Nat} {vs us : List AV} {x : AX}
    (h : (evCode P cf lf n body ⟨nt, ins.zip vs, heap0, []⟩ (outK nt outs)).sel = some (x, us)) {cs ds : List Value} (h1 : VRs (fun _ => none) vs cs) (h2 : ∀ ds', VRs (fun _ => none) us ds' → ds' = ds) :
    RoundF P body nt (ins.zip cs) (toExit x) (outs.zip ds) := by
  intro a w hi hs hd
  obtain ⟨y, st', k1, k2, k3, k4⟩ := evCode_sel hn hc n body hl _ _ _ heap0_pc h
  unfold outK at k1
  split at k1
  · rename_i vs' hdf hlk
    cases hq : (flats vs' && Nat.beq st'.nt nt) with
    | false => rw [hq] at k1; simp [Tree.sel] at k1
    | true =>
      rw [hq] at k1
      simp only [cond_true, Tree.sel, Option.some.injEq, Prod.mk.injEq] at k1
      obtain ⟨rfl, rfl⟩ := k1
      simp only [Bool.and_eq_true] at hq
      obtain ⟨hfl, hnt⟩ := hq
      have hnt := Nat.eq_of_beq_eq_true hnt
      have hf : FRel (fun _ => none) (ins.zip vs) a.tmps := by
        intro t v hlv
        have key : ∀ (ins : List Nat) (vs : List AV) (cs : List Value), VRs (fun _ => none) vs cs → lk (ins.zip vs) t = some v → ∃ c, (t, c) ∈ ins.zip cs ∧ VR (fun _ => none) v c := by
          intro ins
          induction ins with
          | nil => intro vs cs _ hq; simp [lk_nil] at hq
          | cons i ins ih =>
            intro vs cs hvr hq
            match vs, hvr with
            | [], hvr => simp [lk_nil] at hq
            | u :: vs, ⟨c, r, hu, hr, e⟩ =>
              subst e
              rw [List.zip_cons_cons, lk_cons] at hq
              split at hq
              · rename_i e; subst e; cases hq; exact ⟨c, by simp, hu⟩
              · obtain ⟨c', q1, q2⟩ := ih vs r hr hq
                exact ⟨c', by simp [q1], q2⟩
        obtain ⟨c, q1, q2⟩ := key ins vs cs h1 hlv
        exact ⟨c, hi _ q1, q2⟩
      have s : SRel P (fun _ => none) ⟨nt, ins.zip vs, heap0, []⟩ a w := ⟨hf, hs, hd, heap0_rep w, heap0_dom⟩
      refine (k4 (Q := fun e a' w' => e = toExit y ∧ FlatI (outs.zip ds) a'.tmps ∧ a'.tmps.size = nt ∧ a'.defers = [] ∧ RowKit.Below w.heap.size w w') s fun μ' a' w' ev s' => ?_).1
      obtain ⟨cs', q1, q2⟩ := lks_VRs s'.fr outs _ hlk
      have q3 : VRs (fun _ => none) vs' cs' := q1.flat _ _ hfl
      obtain rfl := h2 cs' q3
      have hdf' : a'.defers = [] := by have := s'.df; rw [hdf] at this; exact this
      refine ⟨rfl, q2, ?_, hdf', ev.os, ev.tape, ev.output, ev.size, fun k hk => ev.keep k hk fun m => ?_⟩
      · rw [s'.nt, hnt]
      · obtain ⟨j, o, l, m1, _⟩ := m
        cases m1
  · simp [Tree.sel] at k1
mutual
def sameA : AV → AV → Bool
  | .bool a, .bool b => a == b
  | .int k a, .int k' b => eqK k k' && eqZ a b
  | .str a, .str b => eqL a b
  | .agg a, .agg b => sameL a b
  | _, _ => false
def sameL : List AV → List AV → Bool
  | [], [] => true
  | a :: l, b :: m => sameA a b && sameL l m
  | _, _ => false
end
mutual
theorem sameA_eq : ∀ (a b : AV), sameA a b = true → a = b
  | .bool a, b, h => by cases b <;> simp [sameA] at h; rw [h]
  | .int k a, b, h => by
    cases b <;> simp [sameA] at h
    rw [eqK_eq _ _ h.1, eqZ_eq _ _ h.2]
  | .str a, b, h => by cases b <;> simp [sameA] at h; rw [eqL_eq _ _ h]
  | .agg a, b, h => by cases b <;> simp [sameA] at h; rw [sameL_eq _ _ h]
  | .ptr _ _, b, h | .nilPtr, b, h | .slice _ _ _ _, b, h | .nilSlice, b, h | .map _, b, h | .nilMap, b, h | .func _ _ _, b, h | .nilFunc, b, h | .iface _ _, b, h | .nilIface, b, h | .tuple _, b, h | .sbool _, b, h | .sint _ _, b, h | .sstr _, b, h | .eptr _ _ _ _, b, h | .sslice _ _ _ _, b, h => by simp [sameA] at h
theorem sameL_eq : ∀ (a b : List AV), sameL a b = true → a = b
  | [], [], _ => rfl
  | [], _ :: _, h => by simp [sameL] at h
  | _ :: _, [], h => by simp [sameL] at h
  | a :: l, b :: m, h => by
    simp only [sameL, Bool.and_eq_true] at h
    rw [sameA_eq a b h.1, sameL_eq l m h.2]
end
/-- A loop's contract: from these values in these slots to those. -/
def hasAll (fr : FR) : List Nat → List AV → Bool
  | [], [] => true
  | t :: l, v :: r => (match lk fr t with
    | some u => sameA u v
    | none => false) && hasAll fr l r
  | _, _ => false
def lpFlat (nt : Nat) (ins : List Nat) (vs : List AV) (x : AX) (outs : List Nat) (us : List AV) : St → Option (Tm × AX × St) := fun st => match st.df with
  | [] => bif hasAll st.fr ins vs && Nat.beq st.nt nt then some (.cb true, x, ⟨nt, outs.zip us, st.H, []⟩) else none
  | _ => none
theorem hasAll_I {μ : Mu} {fr : FR} {tmps : Array Value} (hf : FRel μ fr tmps) : ∀ (ins : List Nat) (vs : List AV), flats vs = true → hasAll fr ins vs = true → ∃ cs, VRs (fun _ => none) vs cs ∧ FlatI (ins.zip cs) tmps
  | [], [], _, _ => ⟨[], rfl, fun p hp => by cases hp⟩
  | [], _ :: _, _, h => by simp [hasAll] at h
  | _ :: _, [], _, h => by simp [hasAll] at h
  | t :: l, v :: r, hv, h => by
    simp only [hasAll, Bool.and_eq_true] at h
    obtain ⟨h1, h2⟩ := h
    simp only [flats, Bool.and_eq_true] at hv
    split at h1
    · rename_i u hu
      obtain rfl := sameA_eq _ _ h1
      obtain ⟨c, q1, q2⟩ := hf t u hu
      obtain ⟨cs, q3, q4⟩ := hasAll_I hf l r hv.2 h2
      exact ⟨c :: cs, ⟨c, cs, q2.flat _ _ hv.1, q3, rfl⟩, fun p hp => by
        simp only [List.zip_cons_cons, List.mem_cons] at hp
        rcases hp with rfl | hp
        · exact q1
        · exact q4 p hp⟩
    · cases h1
theorem fr_of_I {μ : Mu} {tmps : Array Value} : ∀ (outs : List Nat) (us : List AV) (cs : List Value), VRs μ us cs → FlatI (outs.zip cs) tmps → FRel μ (outs.zip us) tmps
  | [], us, cs, _, _ => fun t v h => by simp [lk_nil] at h
  | _ :: _, [], cs, _, _ => fun t v h => by simp [lk_nil] at h
  | o :: outs, u :: us, _, ⟨c, r, hu, hr, e⟩, hi => fun t v h => by
    subst e
    rw [List.zip_cons_cons, lk_cons] at h
    split at h
    · rename_i e; subst e; cases h
      exact ⟨c, hi (t, c) (by simp), hu⟩
    · exact fr_of_I outs us r hr (fun p hp => hi p (by simp [hp])) t v h
theorem lpFlat_ok {body : Code} {nt : Nat} {ins outs : List Nat} {vs us : List AV} {x : AX} (hv : flats vs = true) (hu : flats us = true)
    (h : ∀ cs, VRs (fun _ => none) vs cs → ∃ ds, VRs (fun _ => none) us ds ∧ ∀ a w, FlatI (ins.zip cs) a.tmps → a.tmps.size = nt → a.defers = [] → LoopE P body (fun e a' w' => e = toExit x ∧ FlatI (outs.zip ds) a'.tmps ∧ a'.tmps.size = nt ∧ a'.defers = [] ∧ RowKit.Below w.heap.size w w') a w)
    {st : St} {o : Tm} {y : AX} {st' : St} (hg : lpFlat nt ins vs x outs us st = some (o, y, st')) : LoopS P body st y st' := by
  unfold lpFlat at hg
  split at hg
  · rename_i hdf
    cases hq : (hasAll st.fr ins vs && Nat.beq st.nt nt) with
    | false => rw [hq] at hg; cases hg
    | true =>
      rw [hq] at hg
      simp only [cond_true, Option.some.injEq, Prod.mk.injEq] at hg
      obtain ⟨rfl, rfl, rfl⟩ := hg
      simp only [Bool.and_eq_true] at hq
      have hnt := Nat.eq_of_beq_eq_true hq.2
      refine ⟨LG.refl _, fun {Q μ a w} s hQ => ?_⟩
      obtain ⟨cs, h1, h2⟩ := hasAll_I s.fr ins vs hv hq.1
      obtain ⟨ds, h3, h4⟩ := h cs h1
      have hd : a.defers = [] := by have := s.df; rw [hdf] at this; exact this
      refine (h4 a w h2 (s.nt.trans hnt) hd).mono fun e a' w' hh => ?_
      obtain ⟨rfl, k1, k2, k3, k4⟩ := hh
      have ev := evo_below s.rep s.dom k4
      exact hQ μ a' w' ev ⟨fr_of_I outs us ds (h3.flat _ _ hu) k1, k2, k3, ev.rep, s.dom⟩
  · cases hg
def eqX : AX → AX → Bool
  | .normal, .normal => true
  | .ret, .ret => true
  | .exit a, .exit b => Nat.beq a b
  | _, _ => false
theorem eqX_eq {a b : AX} (h : eqX a b = true) : a = b := by
  cases a <;> cases b <;> first | rfl | (simp [eqX] at h; rw [h]) | (simp [eqX] at h)
/-- A round of one number: how it ended, and the number. -/
def chkOut (t : Option (AX × List AV)) (x : AX) (m : Int) : Bool := match t with
  | some (y, [u]) => match tmI u with
    | some (k, t) => eqX y x && (eqK k .i64 && eqZ t.den.asI m)
    | none => false
  | _ => false
theorem round_int (hn : NoCount P) {cf : CallF (AX × List AV)} (hc : CfOK P cf) {lf : LoopF} {body : Code} (hl : LpOK P lf body) {k nt slot : Nat} {v : AV} {x : AX} {n m : Int} (hv : VR (fun _ => none) v (.int .i64 n))
    (h : chkOut (evCode P cf lf k body ⟨nt, [(slot, v)], heap0, []⟩ (outK nt [slot])).sel x m = true) : RoundF P body nt [(slot, .int .i64 n)] (toExit x) [(slot, .int .i64 m)] := by
  unfold chkOut at h
  split at h
  · rename_i y u hs
    split at h
    · rename_i kd t ht
      simp only [Bool.and_eq_true] at h
      obtain ⟨h1, h2, h3⟩ := h
      obtain rfl := eqX_eq h1
      obtain rfl := eqK_eq _ _ h2
      have h3 := eqZ_eq _ _ h3
      refine roundF_of hn hc hl (ins := [slot]) (outs := [slot]) (vs := [v]) (us := [u]) hs (cs := [.int .i64 n]) (ds := [.int .i64 m]) ⟨_, _, hv, rfl, rfl⟩ fun ds' hd => ?_
      obtain ⟨c, r, h4, h5, rfl⟩ := hd
      cases h5
      rw [h4.tmI ht, h3]
    · cases h
  · cases h
/-- A loop that counts from 0 up to N. -/
theorem loop_int {body : Code} {nt slot N : Nat} {x : AX} (hx : toExit x ≠ .normal) (h : ∀ n : Nat, n < N → RoundF P body nt [(slot, .int .i64 (n : Int))] .normal [(slot, .int .i64 ((n + 1 : Nat) : Int))]) (hl : RoundF P body nt [(slot, .int .i64 (N : Int))] (toExit x) [(slot, .int .i64 (N : Int))])
    {st : St} {o : Tm} {y : AX} {st' : St} (hg : lpFlat nt [slot] [.int .i64 0] x [slot] [.int .i64 (N : Int)] st = some (o, y, st')) : LoopS P body st y st' := by
  refine lpFlat_ok rfl rfl (fun cs hcs => ?_) hg
  obtain ⟨c, r, h4, h5, rfl⟩ := hcs
  cases h5
  obtain rfl : c = .int .i64 0 := h4
  refine ⟨[.int .i64 (N : Int)], ⟨_, _, rfl, rfl, rfl⟩, fun a w h1 h2 h3 => ?_⟩
  refine LoopE.rounds (N + 1) ?_
  exact loop_flat (fun n => [(slot, .int .i64 (n : Int))]) (toExit x) hx _ N 0 (fun n _ hn => h n (by omega)) (by rw [Nat.zero_add]; exact hl) a w w h1 h2 h3 (RowKit.Below.refl _ _)
/-- The loops of a function. -/
def lpList (P : Program) (f : FuncId) : List Code := match P.funcs[f]? with
  | some fn => match fn.body with
    | some c => loopsOf c
    | none => []
  | none => []
def lpBody (P : Program) (f : FuncId) (i : Nat) : Code := (lpList P f).getD i .skip
/-- The i-th loop alone has this key. -/
def keyAt (P : Program) (f : FuncId) (key i : Nat) : Bool := go (lpList P f) 0
where go : List Code → Nat → Bool
  | [], _ => true
  | c :: l, j => (bif Nat.beq (loopKey c) key then Nat.beq j i else true) && go l (j + 1)
theorem keyAt_go {key i : Nat} : ∀ (l : List Code) (j : Nat), keyAt.go key i l j = true → ∀ (n : Nat) (c : Code), l[n]? = some c → loopKey c = key → j + n = i
  | [], _, _, _, _, h, _ => by simp at h
  | c :: l, j, h, n, d, hn, hk => by
    simp only [keyAt.go, Bool.and_eq_true] at h
    cases n with
    | zero =>
      simp at hn; subst hn
      rw [hk] at h
      have := h.1
      simp at this; omega
    | succ n =>
      simp at hn
      have := keyAt_go l (j + 1) h.2 n d hn hk
      omega
def lf1 (key : Nat) (g : St → Option (Tm × AX × St)) : LoopF := fun k => bif Nat.beq k key then some g else none
theorem lf1_ok {f : FuncId} {key i : Nat} (hk : keyAt P f key i = true) {g : St → Option (Tm × AX × St)} (hg : ∀ st o x st', g st = some (o, x, st') → o.den.asB = true → LoopS P (lpBody P f i) st x st') {fn : Func} {c : Code} (h1 : P.funcs[f]? = some fn) (h2 : fn.body = some c) : LpOK P (lf1 key g) c := by
  intro body hb g' hl st o x st' hp hs ho
  have e : lpList P f = loopsOf c := by simp [lpList, h1, h2]
  unfold lf1 at hl
  cases hkey : Nat.beq (loopKey body) key with
  | false => rw [hkey] at hl; cases hl
  | true =>
    rw [hkey] at hl
    simp only [cond_true, Option.some.injEq] at hl
    subst hl
    obtain ⟨n, hn, hnb⟩ := List.getElem_of_mem hb
    have hn' : (lpList P f)[n]? = some body := by rw [e, List.getElem?_eq_getElem hn, hnb]
    have := keyAt_go _ 0 hk n body hn' (Nat.eq_of_beq_eq_true hkey)
    have eb : lpBody P f i = body := by
      unfold lpBody
      rw [List.getD_eq_getElem?_getD, ← this, Nat.zero_add, hn']; rfl
    rw [← eb]
    exact hg st o x st' hs ho
theorem lf0_ok {c : Code} : LpOK P (fun _ => none) c := fun body _ g h => by cases h
end
end Go.Proofs.Ytamibbjpapkfeaa.Ab
