import Derived.Test.YtamibbjpapkfeaaAbS2
namespace Go.Proofs.Ytamibbjpapkfeaa.Ab
set_option linter.unusedSimpArgs false
set_option linter.unusedVariables false
open Go
set_option linter.unusedSectionVars false
variable [Rho]
section
variable {P : Program}

/-! ### numbers, texts -/
theorem binOp_int (op : BinOp) (t : TypeId) (k : IntKind) (x y : Int) (hs : op ≠ .shl ∧ op ≠ .shr) : binOp op t (.int k x) (.int k y) = match op with
    | .add | .sub | .mul => Op.intArith op k x y
    | .quo | .rem => Op.intDiv op k x y
    | .and | .or | .xor | .andNot => Op.intBits op k x y
    | _ => Op.intCmp op x y := by
  cases op <;> first | (exact absurd rfl hs.1) | (exact absurd rfl hs.2) | simp [binOp]
theorem intA_run {op : BinOp} {k : IntKind} {x y : Int} {v : AV} (h : intA op k x y = some v) (hs : op ≠ .shl ∧ op ≠ .shr) (t : TypeId) (w : World) (μ : Mu) :
    ∃ c, (binOp op t (.int k x) (.int k y)).run P w = .ok c w ∧ VR μ v c := by
  rw [binOp_int op t k x y hs]
  cases op
  case shl => exact absurd rfl hs.1
  case shr => exact absurd rfl hs.2
  case quo =>
    simp only [intA] at h
    split at h
    · cases h
    · rename_i hy; cases h
      exact ⟨_, by simp only [Op.intDiv, if_neg hy]; rfl, rfl⟩
  case rem =>
    simp only [intA] at h
    split at h
    · cases h
    · rename_i hy; cases h
      exact ⟨_, by simp only [Op.intDiv, if_neg hy]; rfl, rfl⟩
  all_goals
    simp only [intA, bitsA] at h
    cases h
    exact ⟨_, rfl, rfl⟩
theorem strA_run {op : BinOp} {x y : List UInt8} {v : AV} (h : strA op x y = some v) (hs : op ≠ .shl ∧ op ≠ .shr) (t : TypeId) (w : World) (μ : Mu) :
    ∃ c, (binOp op t (.string ⟨x.toArray⟩) (.string ⟨y.toArray⟩)).run P w = .ok c w ∧ VR μ v c := by
  have e1 : ∀ z : List UInt8, (⟨z.toArray⟩ : ByteArray).toList = z := fun z => by simp [ByteArray.toList_eq]
  have e2 : ∀ z : List UInt8, (⟨z.toArray⟩ : ByteArray).size = z.length := fun z => rfl
  have e3 : (⟨x.toArray⟩ : ByteArray) ++ ⟨y.toArray⟩ = ⟨(x ++ y).toArray⟩ := by apply ByteArray.ext; simp
  have e4 : binOp op t (.string ⟨x.toArray⟩) (.string ⟨y.toArray⟩) = Op.stringOp op ⟨x.toArray⟩ ⟨y.toArray⟩ := by
    cases op <;> first | (exact absurd rfl hs.1) | (exact absurd rfl hs.2) | rfl
  rw [e4]
  unfold Op.stringOp
  rw [e1, e1]
  cases op
  case shl => exact absurd rfl hs.1
  case shr => exact absurd rfl hs.2
  case add =>
    simp only [strA] at h
    split at h
    · rename_i hl; cases h
      refine ⟨_, ?_, rfl⟩
      have : ¬ ((x.length + y.length : Nat) : Int) > IntKind.i64.max := by simp [IntKind.max, IntKind.signed, IntKind.bits]; omega
      simp only [e2, if_neg this, e3]; rfl
    · cases h
  all_goals
    simp only [strA] at h
    cases h <;> exact ⟨_, rfl, rfl⟩
theorem guard_other {op : BinOp} (h1 : op ≠ .eql) (h2 : op ≠ .neq) (t : TypeId) (xo yo : Operand) (cx cy : Value) (w : World) : (eqGuard op t xo yo cx cy).run P w = .ok () w := by
  cases op <;> first | (exact absurd rfl h1) | (exact absurd rfl h2) | rfl
/-- Which pairs of values the model asks about. -/
def asked : Value → Value → Bool
  | .nilIface, .nilIface => true
  | .agg _, .agg _ => true
  | _, _ => false
theorem guard_free {op : BinOp} (t : TypeId) (xo yo : Operand) (cx cy : Value) (h : asked cx cy = false) (w : World) : (eqGuard op t xo yo cx cy).run P w = .ok () w := by
  cases op <;> first | rfl | (cases cx <;> cases cy <;> first | rfl | (simp [asked] at h))
theorem guard_nil {op : BinOp} (t : TypeId) (xo yo : Operand) (h : (isConstOp xo || isConstOp yo) = true) (w : World) : (eqGuard op t xo yo .nilIface .nilIface).run P w = .ok () w := by
  cases op <;> first | rfl | (cases xo <;> cases yo <;> first | rfl | (simp [isConstOp] at h))
theorem VR.asked {μ : Mu} {x y : AV} {cx cy : Value} (hx : VR μ x cx) (hy : VR μ y cy) (h1 : ∀ (l m : List AV), x = .agg l → y = .agg m → False) (h2 : x = .nilIface → y = .nilIface → False) : asked cx cy = false := by
  cases hcx : cx with
  | nilIface =>
    cases hcy : cy with
    | nilIface =>
      subst hcx; subst hcy
      exfalso
      have k : ∀ {v : AV}, VR μ v .nilIface → v = .nilIface := fun {v} hv => by
        cases v with
        | nilIface => rfl
        | slice i o n k => obtain ⟨_, _, _, e⟩ := hv.slice_some; cases e
        | ptr _ _ => obtain ⟨_, _, e⟩ := hv; cases e
        | eptr _ _ _ _ => obtain ⟨_, _, _, _, _, e⟩ := hv; cases e
        | sslice _ _ _ _ => obtain ⟨_, _, _, _, _, _, _, e | ⟨_, _, e⟩⟩ := hv <;> cases e
        | map _ => obtain ⟨_, _, e⟩ := hv; cases e
        | iface _ _ => obtain ⟨_, _, e⟩ := hv; cases e
        | agg _ => obtain ⟨_, _, e⟩ := hv; cases e
        | tuple _ => obtain ⟨_, _, e⟩ := hv; cases e
        | func _ _ _ => obtain ⟨_, _, _, _, e⟩ := hv; cases e
        | _ => cases hv
      exact h2 (k hx) (k hy)
    | _ => rfl
  | agg a =>
    cases hcy : cy with
    | agg b =>
      subst hcx; subst hcy
      exfalso
      have k : ∀ {v : AV} {a : Array Value}, VR μ v (.agg a) → ∃ l, v = .agg l := fun {v a} hv => by
        cases v with
        | agg l => exact ⟨l, rfl⟩
        | slice i o n k => obtain ⟨_, _, _, e⟩ := hv.slice_some; cases e
        | ptr _ _ => obtain ⟨_, _, e⟩ := hv; cases e
        | eptr _ _ _ _ => obtain ⟨_, _, _, _, _, e⟩ := hv; cases e
        | sslice _ _ _ _ => obtain ⟨_, _, _, _, _, _, _, e | ⟨_, _, e⟩⟩ := hv <;> cases e
        | map _ => obtain ⟨_, _, e⟩ := hv; cases e
        | iface _ _ => obtain ⟨_, _, e⟩ := hv; cases e
        | tuple _ => obtain ⟨_, _, e⟩ := hv; cases e
        | func _ _ _ => obtain ⟨_, _, _, _, e⟩ := hv; cases e
        | _ => cases hv
      obtain ⟨l, hl⟩ := k hx
      obtain ⟨m, hm⟩ := k hy
      exact h1 l m hl hm
    | _ => rfl
  | _ => rfl
theorem guardA_run {op : BinOp} {t : TypeId} {x y : AV} {xo yo : Operand} (h : guardA P t (isConstOp xo || isConstOp yo) x y = true) {μ : Mu} {cx cy : Value} (hx : VR μ x cx) (hy : VR μ y cy) (w : World) :
    (eqGuard op t xo yo cx cy).run P w = .ok () w := by
  by_cases h1 : ∃ l m, x = .agg l ∧ y = .agg m
  · obtain ⟨l, m, rfl, rfl⟩ := h1
    obtain ⟨_, _, rfl⟩ := hx; obtain ⟨_, _, rfl⟩ := hy
    exact run_eqGuard_agg w op t xo yo _ _ (by simpa [guardA] using h)
  · by_cases h2 : x = .nilIface ∧ y = .nilIface
    · obtain ⟨rfl, rfl⟩ := h2
      cases hx; cases hy
      exact guard_nil t xo yo (by simpa [guardA] using h) w
    · exact guard_free t xo yo cx cy (hx.asked hy (fun l m e1 e2 => h1 ⟨l, m, e1, e2⟩) (fun e1 e2 => h2 ⟨e1, e2⟩)) w

/-- A comparison of two values that are neither two numbers nor two texts. -/
def plainPair : Value → Value → Bool
  | .int _ _, .int _ _ => true
  | .string _, .string _ => true
  | .float _ _, .float _ _ => true
  | .complex _ _ _, .complex _ _ _ => true
  | _, _ => false
theorem binOp_eql (t : TypeId) (x y : Value) (h : plainPair x y = false) (w : World) {b : Bool} (hb : (Op.equal t x y).run P w = .ok b w) : (binOp .eql t x y).run P w = .ok (.bool b) w := by
  cases x <;> cases y <;> first | (simp [plainPair] at h; done) | (simp [binOp, hb])
theorem binOp_neq (t : TypeId) (x y : Value) (h : plainPair x y = false) (w : World) {b : Bool} (hb : (Op.equal t x y).run P w = .ok b w) : (binOp .neq t x y).run P w = .ok (.bool (!b)) w := by
  cases x <;> cases y <;> first | (simp [plainPair] at h; done) | (simp [binOp, hb])
theorem eqlA_run {op : BinOp} {t : TypeId} {neg : Bool} {x y v : AV} {xo yo : Operand} (h : eqlA P t (isConstOp xo || isConstOp yo) neg x y = some v) (ho : op = if neg then .neq else .eql) {μ : Mu} {cx cy : Value} (hx : VR μ x cx) (hy : VR μ y cy)
    (hp : plainPair cx cy = false) (w : World) : ∃ c, (do eqGuard op t xo yo cx cy; binOp op t cx cy : Sem Value).run P w = .ok c w ∧ VR μ v c := by
  unfold eqlA at h
  cases hg : guardA P t (isConstOp xo || isConstOp yo) x y with
  | false => simp [hg] at h
  | true =>
    simp only [hg, cond_true] at h
    split at h
    · rename_i b hb
      cases h
      have h1 : (Op.equal t cx cy).run P w = .ok b.den.asB w := eqA_run eqDepth t x y b hb cx cy hx hy 10000 w (by decide)
      simp only [Sem.run_bind, guardA_run hg hx hy, Result.andThen_ok]
      subst ho
      cases neg
      · exact ⟨_, binOp_eql t cx cy hp w h1, mkB_VR μ b⟩
      · exact ⟨_, binOp_neq t cx cy hp w h1, notT_den b ▸ mkB_VR μ (notT b)⟩
    · cases h
theorem VR.int_inv {μ : Mu} {v : AV} {k : IntKind} {n : Int} (hv : VR μ v (.int k n)) : ∃ t, Ab.tmI v = some (k, t) ∧ t.den.asI = n := by
  cases v with
  | int k' n' => cases hv; exact ⟨_, rfl, rfl⟩
  | sint k' n' => cases hv; exact ⟨_, rfl, rfl⟩
  | slice i o n k => obtain ⟨_, _, _, e⟩ := hv.slice_some; cases e
  | ptr _ _ => obtain ⟨_, _, e⟩ := hv; cases e
  | eptr _ _ _ _ => obtain ⟨_, _, _, _, _, e⟩ := hv; cases e
  | sslice _ _ _ _ => obtain ⟨_, _, _, _, _, _, _, e | ⟨_, _, e⟩⟩ := hv <;> cases e
  | map _ => obtain ⟨_, _, e⟩ := hv; cases e
  | iface _ _ => obtain ⟨_, _, e⟩ := hv; cases e
  | agg _ => obtain ⟨_, _, e⟩ := hv; cases e
  | tuple _ => obtain ⟨_, _, e⟩ := hv; cases e
  | func _ _ _ => obtain ⟨_, _, _, _, e⟩ := hv; cases e
  | _ => cases hv
theorem VR.str_inv {μ : Mu} {v : AV} {s : ByteArray} (hv : VR μ v (.string s)) : ∃ t, Ab.tmS v = some t ∧ s = ⟨t.den.asS.toArray⟩ := by
  cases v with
  | str l => cases hv; exact ⟨_, rfl, rfl⟩
  | sstr l => cases hv; exact ⟨_, rfl, rfl⟩
  | slice i o n k => obtain ⟨_, _, _, e⟩ := hv.slice_some; cases e
  | ptr _ _ => obtain ⟨_, _, e⟩ := hv; cases e
  | eptr _ _ _ _ => obtain ⟨_, _, _, _, _, e⟩ := hv; cases e
  | sslice _ _ _ _ => obtain ⟨_, _, _, _, _, _, _, e | ⟨_, _, e⟩⟩ := hv <;> cases e
  | map _ => obtain ⟨_, _, e⟩ := hv; cases e
  | iface _ _ => obtain ⟨_, _, e⟩ := hv; cases e
  | agg _ => obtain ⟨_, _, e⟩ := hv; cases e
  | tuple _ => obtain ⟨_, _, e⟩ := hv; cases e
  | func _ _ _ => obtain ⟨_, _, _, _, e⟩ := hv; cases e
  | _ => cases hv
theorem VR.nofloat {μ : Mu} {v : AV} {k : FloatKind} {n : Nat} (hv : VR μ v (.float k n)) : False := by
  cases v with
  | slice i o n k => obtain ⟨_, _, _, e⟩ := hv.slice_some; cases e
  | ptr _ _ => obtain ⟨_, _, e⟩ := hv; cases e
  | eptr _ _ _ _ => obtain ⟨_, _, _, _, _, e⟩ := hv; cases e
  | sslice _ _ _ _ => obtain ⟨_, _, _, _, _, _, _, e | ⟨_, _, e⟩⟩ := hv <;> cases e
  | map _ => obtain ⟨_, _, e⟩ := hv; cases e
  | iface _ _ => obtain ⟨_, _, e⟩ := hv; cases e
  | agg _ => obtain ⟨_, _, e⟩ := hv; cases e
  | tuple _ => obtain ⟨_, _, e⟩ := hv; cases e
  | func _ _ _ => obtain ⟨_, _, _, _, e⟩ := hv; cases e
  | _ => cases hv
theorem VR.nocomplex {μ : Mu} {v : AV} {k : FloatKind} {n m : Nat} (hv : VR μ v (.complex k n m)) : False := by
  cases v with
  | slice i o n k => obtain ⟨_, _, _, e⟩ := hv.slice_some; cases e
  | ptr _ _ => obtain ⟨_, _, e⟩ := hv; cases e
  | eptr _ _ _ _ => obtain ⟨_, _, _, _, _, e⟩ := hv; cases e
  | sslice _ _ _ _ => obtain ⟨_, _, _, _, _, _, _, e | ⟨_, _, e⟩⟩ := hv <;> cases e
  | map _ => obtain ⟨_, _, e⟩ := hv; cases e
  | iface _ _ => obtain ⟨_, _, e⟩ := hv; cases e
  | agg _ => obtain ⟨_, _, e⟩ := hv; cases e
  | tuple _ => obtain ⟨_, _, e⟩ := hv; cases e
  | func _ _ _ => obtain ⟨_, _, _, _, e⟩ := hv; cases e
  | _ => cases hv
theorem plain_of {μ : Mu} {x y : AV} {cx cy : Value} (hx : VR μ x cx) (hy : VR μ y cy) (h1 : ∀ k a k' b, tmI x = some (k, a) → tmI y = some (k', b) → False) (h2 : ∀ a b, tmS x = some a → tmS y = some b → False) : plainPair cx cy = false := by
  cases cx with
  | int k a =>
    cases cy with
    | int k' b => obtain ⟨_, e1, _⟩ := hx.int_inv; obtain ⟨_, e2, _⟩ := hy.int_inv; exact (h1 _ _ _ _ e1 e2).elim
    | _ => rfl
  | string a =>
    cases cy with
    | string b => obtain ⟨_, e1, _⟩ := hx.str_inv; obtain ⟨_, e2, _⟩ := hy.str_inv; exact (h2 _ _ e1 e2).elim
    | _ => rfl
  | float k a => exact hx.nofloat.elim
  | complex k a b => exact hx.nocomplex.elim
  | _ => rfl
theorem compA_run {op : BinOp} {t : TypeId} {x y v : AV} {xo yo : Operand} (h : compA P op t (isConstOp xo || isConstOp yo) x y = some v) {μ : Mu} {cx cy : Value} (hx : VR μ x cx) (hy : VR μ y cy)
    (hp : plainPair cx cy = false) (w : World) : ∃ c, (do eqGuard op t xo yo cx cy; binOp op t cx cy : Sem Value).run P w = .ok c w ∧ VR μ v c := by
  cases op <;> simp only [compA] at h
  case eql => exact eqlA_run h (by rfl) hx hy hp w
  case neq => exact eqlA_run h (by rfl) hx hy hp w
  all_goals cases h
/-! ### terms -/
theorem int_quo (k : IntKind) (a b : Int) (hb : ¬ b = 0) (w : World) : (Op.intDiv .quo k a b).run P w = .ok (.int k (k.wrap (a.tdiv b))) w := by
  simp only [Op.intDiv, if_neg hb]; rfl
theorem int_rem (k : IntKind) (a b : Int) (hb : ¬ b = 0) (w : World) : (Op.intDiv .rem k a b).run P w = .ok (.int k (a.tmod b)) w := by
  simp only [Op.intDiv, if_neg hb]; rfl
theorem symI_run {op : BinOp} {k : IntKind} {a b : Tm} {v : AV} (h : symI op k a b = some v) (hs : op ≠ .shl ∧ op ≠ .shr) (t : TypeId) (w : World) (μ : Mu) :
    ∃ c, (binOp op t (.int k a.den.asI) (.int k b.den.asI)).run P w = .ok c w ∧ VR μ v c := by
  rw [binOp_int op t k _ _ hs]
  unfold symI at h
  cases hc : isComp op with
  | true =>
    simp only [hc, cond_true] at h
    cases h
    refine ⟨_, ?_, mkB_VR μ _⟩
    rw [iopT_den]
    cases op <;> first | (simp [isComp] at hc; done) | rfl
  | false =>
    cases hp : isPlain op with
    | true =>
      simp only [hc, hp, cond_true, cond_false] at h
      cases h
      refine ⟨_, ?_, mkI_VR μ k _⟩
      rw [iopT_den]
      cases op <;> first | (simp [isPlain] at hp; done) | rfl
    | false =>
      simp only [hc, hp, cond_false] at h
      split at h
      · split at h
        · cases h
        · rename_i hz
          cases h
          refine ⟨_, ?_, mkI_VR μ k _⟩
          rw [iopT_den]
          exact int_quo k _ _ hz w
      · split at h
        · cases h
        · rename_i hz
          cases h
          refine ⟨_, ?_, mkI_VR μ k _⟩
          rw [iopT_den]
          exact int_rem k _ _ hz w
      · cases h
theorem str_op (op : BinOp) (t : TypeId) (x y : List UInt8) (hs : op ≠ .shl ∧ op ≠ .shr) : binOp op t (.string ⟨x.toArray⟩) (.string ⟨y.toArray⟩) = Op.stringOp op ⟨x.toArray⟩ ⟨y.toArray⟩ := by
  cases op <;> first | (exact absurd rfl hs.1) | (exact absurd rfl hs.2) | rfl
theorem symS_run {op : BinOp} {a b : Tm} {v : AV} (h : symS op a b = some v) (hs : op ≠ .shl ∧ op ≠ .shr) (t : TypeId) (w : World) (μ : Mu) :
    ∃ c, (binOp op t (.string ⟨a.den.asS.toArray⟩) (.string ⟨b.den.asS.toArray⟩)).run P w = .ok c w ∧ VR μ v c := by
  have e1 : ∀ z : List UInt8, (⟨z.toArray⟩ : ByteArray).toList = z := fun z => by simp [ByteArray.toList_eq]
  unfold symS at h
  cases hc : isComp op with
  | false => simp [hc] at h
  | true =>
    simp only [hc, cond_true] at h
    cases h
    refine ⟨_, ?_, mkB_VR μ _⟩
    rw [sopT_den, str_op op t _ _ hs]
    unfold Op.stringOp
    rw [e1, e1]
    cases op <;> first | (simp [isComp] at hc; done) | rfl
theorem int_shl (t : TypeId) (k k' : IntKind) (a b : Int) (hb : ¬ b < 0) (w : World) : (binOp .shl t (.int k a) (.int k' b)).run P w = .ok (.int k (k.wrap (a * 2 ^ (min b.toNat k.bits)))) w := by
  simp only [binOp, Op.shift, if_neg hb]; rfl
theorem int_shr (t : TypeId) (k k' : IntKind) (a b : Int) (hb : ¬ b < 0) (w : World) : (binOp .shr t (.int k a) (.int k' b)).run P w = .ok (.int k (a.fdiv (2 ^ (min b.toNat k.bits)))) w := by
  simp only [binOp, Op.shift, if_neg hb]; rfl
theorem binA_run {op : BinOp} {t : TypeId} {x y v : AV} {xo yo : Operand} (h : binA P op t (isConstOp xo || isConstOp yo) x y = some v) {μ : Mu} {cx cy : Value} (hx : VR μ x cx) (hy : VR μ y cy) (w : World) :
    ∃ c, (do eqGuard op t xo yo cx cy; binOp op t cx cy : Sem Value).run P w = .ok c w ∧ VR μ v c := by
  by_cases hs1 : op = .shl
  · subst hs1
    simp only [binA, shlA] at h
    split at h
    · rename_i k a k' b
      split at h
      · cases h
      · rename_i hb
        cases h; cases hx; cases hy
        simp only [Sem.run_bind, guard_free (op := .shl) t xo yo (.int k a) (.int k' b) rfl, Result.andThen_ok]
        exact ⟨_, int_shl t k k' a b hb w, rfl⟩
    · rename_i k a k' b
      split at h
      · cases h
      · rename_i hb
        cases h; cases hx; cases hy
        simp only [Sem.run_bind, guard_free (op := .shl) t xo yo (.int k a.den.asI) (.int k' b) rfl, Result.andThen_ok]
        exact ⟨_, int_shl t k k' _ b hb w, rfl⟩
    · cases h
  by_cases hs2 : op = .shr
  · subst hs2
    simp only [binA, shrA] at h
    split at h
    · rename_i k a k' b
      split at h
      · cases h
      · rename_i hb
        cases h; cases hx; cases hy
        simp only [Sem.run_bind, guard_free (op := .shr) t xo yo (.int k a) (.int k' b) rfl, Result.andThen_ok]
        exact ⟨_, int_shr t k k' a b hb w, rfl⟩
    · rename_i k a k' b
      split at h
      · cases h
      · rename_i hb
        cases h; cases hx; cases hy
        simp only [Sem.run_bind, guard_free (op := .shr) t xo yo (.int k a.den.asI) (.int k' b) rfl, Result.andThen_ok]
        exact ⟨_, int_shr t k k' _ b hb w, rfl⟩
    · cases h
  have h' : opsA P op t (isConstOp xo || isConstOp yo) x y = some v := by
    cases op <;> first | (exact absurd rfl hs1) | (exact absurd rfl hs2) | exact h
  unfold opsA at h'
  split at h'
  · rename_i k a k' b
    split at h'
    · rename_i hk
      subst hk
      cases hx; cases hy
      simp only [Sem.run_bind, guard_free (op := op) t xo yo (.int k a) (.int k b) rfl, Result.andThen_ok]
      exact intA_run h' ⟨hs1, hs2⟩ t w μ
    · cases h'
  · rename_i a b
    cases hx; cases hy
    simp only [Sem.run_bind, guard_free (op := op) t xo yo (.string ⟨a.toArray⟩) (.string ⟨b.toArray⟩) rfl, Result.andThen_ok]
    exact strA_run h' ⟨hs1, hs2⟩ t w μ
  · split at h'
    · rename_i k a k' b ha hb
      split at h'
      · rename_i hk
        subst hk
        cases hx.tmI ha; cases hy.tmI hb
        simp only [Sem.run_bind, guard_free (op := op) t xo yo (.int k a.den.asI) (.int k b.den.asI) rfl, Result.andThen_ok]
        exact symI_run h' ⟨hs1, hs2⟩ t w μ
      · cases h'
    · rename_i hni
      split at h'
      · rename_i a b ha hb
        cases hx.tmS ha; cases hy.tmS hb
        simp only [Sem.run_bind, guard_free (op := op) t xo yo (.string ⟨a.den.asS.toArray⟩) (.string ⟨b.den.asS.toArray⟩) rfl, Result.andThen_ok]
        exact symS_run h' ⟨hs1, hs2⟩ t w μ
      · rename_i hns
        exact compA_run h' hx hy (plain_of hx hy (fun k a k' b e1 e2 => hni k a k' b e1 e2) (fun a b e1 e2 => hns a b e1 e2)) w
theorem owedA_run {op : BinOp} {t : TypeId} {x y v : AV} {xo yo : Operand} {o : Tm} (h : owedA op x y = some (o, v)) {μ : Mu} {cx cy : Value} (hx : VR μ x cx) (hy : VR μ y cy) (ho : o.den.asB = true) (w : World) :
    ∃ c, (do eqGuard op t xo yo cx cy; binOp op t cx cy : Sem Value).run P w = .ok c w ∧ VR μ v c := by
  cases op <;> simp only [owedA] at h <;> first | (cases h; done) | skip
  · -- add
    cases hsy : (isSym x || isSym y) with
    | false => simp [hsy] at h
    | true =>
      simp only [hsy, cond_true] at h
      split at h
      · rename_i a b ha hb
        cases h
        cases hx.tmS ha; cases hy.tmS hb
        simp only [Sem.run_bind, guard_free (op := .add) t xo yo (.string ⟨a.den.asS.toArray⟩) (.string ⟨b.den.asS.toArray⟩) rfl, Result.andThen_ok]
        rw [iopT_den] at ho
        have hlen : (a.den.asS.length : Int) + b.den.asS.length ≤ 9223372036854775807 := by
          simpa [iop, Dat.asB, Tm.den, Dat.asI, lenT_den] using ho
        have hst : strA .add a.den.asS b.den.asS = some (.str (a.den.asS ++ b.den.asS)) := by
          simp only [strA]; rw [if_pos (by omega)]
        obtain ⟨c, h1, h2⟩ := strA_run (P := P) hst ⟨by simp, by simp⟩ t w μ
        exact ⟨c, h1, h2⟩
      · cases h
  · -- quo
    split at h
    · rename_i k a k' b ha
      split at h
      · rename_i hk
        subst hk
        cases h
        cases hx.tmI ha; cases hy
        rw [iopT_den] at ho
        have hz : ¬ b.den.asI = 0 := by simpa [iop, Dat.asB, Tm.den, Dat.asI] using ho
        simp only [Sem.run_bind, guard_free (op := .quo) t xo yo (.int k a.den.asI) (.int k b.den.asI) rfl, Result.andThen_ok]
        exact intA_run (op := .quo) (x := a.den.asI) (y := b.den.asI) (v := .int k (k.wrap (a.den.asI.tdiv b.den.asI))) (by simp [intA, hz]) ⟨by simp, by simp⟩ t w μ
      · cases h
    · cases h
  · -- rem
    split at h
    · rename_i k a k' b ha
      split at h
      · rename_i hk
        subst hk
        cases h
        cases hx.tmI ha; cases hy
        rw [iopT_den] at ho
        have hz : ¬ b.den.asI = 0 := by simpa [iop, Dat.asB, Tm.den, Dat.asI] using ho
        simp only [Sem.run_bind, guard_free (op := .rem) t xo yo (.int k a.den.asI) (.int k b.den.asI) rfl, Result.andThen_ok]
        exact intA_run (op := .rem) (x := a.den.asI) (y := b.den.asI) (v := .int k (a.den.asI.tmod b.den.asI)) (by simp [intA, hz]) ⟨by simp, by simp⟩ t w μ
      · cases h
    · cases h
  · -- shl
    split at h
    · rename_i k a k' b ha
      cases h
      cases hx.tmI ha; cases hy
      rw [iopT_den] at ho
      have hz : ¬ b.den.asI < 0 := Int.not_lt.2 (of_decide_eq_true (show decide ((0 : Int) ≤ b.den.asI) = true from ho))
      simp only [Sem.run_bind, guard_free (op := .shl) t xo yo (.int k a.den.asI) (.int k' b.den.asI) rfl, Result.andThen_ok]
      exact ⟨_, int_shl t k k' _ _ hz w, rfl⟩
    · cases h
  · -- shr
    split at h
    · rename_i k a k' b ha
      cases h
      cases hx.tmI ha; cases hy
      rw [iopT_den] at ho
      have hz : ¬ b.den.asI < 0 := Int.not_lt.2 (of_decide_eq_true (show decide ((0 : Int) ≤ b.den.asI) = true from ho))
      simp only [Sem.run_bind, guard_free (op := .shr) t xo yo (.int k a.den.asI) (.int k' b.den.asI) rfl, Result.andThen_ok]
      exact ⟨_, int_shr t k k' _ _ hz w, rfl⟩
    · cases h
theorem unA_run {op : UnOp} {x v : AV} (h : unA op x = some v) {μ : Mu} {c : Value} (hx : VR μ x c) (w : World) : ∃ y, (Op.unary op c).run P w = .ok y w ∧ VR μ v y := by
  unfold unA at h
  split at h
  · cases h; cases hx; exact ⟨_, rfl, rfl⟩
  · cases h; cases hx; exact ⟨_, rfl, rfl⟩
  · simp only [bitsA] at h
    cases h; cases hx; exact ⟨_, rfl, rfl⟩
  · cases h; cases hx; exact ⟨_, rfl, rfl⟩
  · cases h; cases hx; exact ⟨_, rfl, rfl⟩
  · cases h; cases hx; exact ⟨_, rfl, notT_den _ ▸ mkB_VR μ _⟩
  · cases h
end
end Go.Proofs.Ytamibbjpapkfeaa.Ab
