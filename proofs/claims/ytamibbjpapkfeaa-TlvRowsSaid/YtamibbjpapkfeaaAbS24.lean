import Derived.Test.YtamibbjpapkfeaaAbS8
namespace Go.Proofs.Ytamibbjpapkfeaa.Ab
set_option linter.unusedSimpArgs false
set_option linter.unusedVariables false
open Go
set_option linter.unusedSectionVars false
variable [Rho]
section
variable {P : Program}
/-! ### an element more behind a row whose cells are not told -/
theorem kindsT_spec {μ : Mu} : ∀ {sh : List Kd} {new : List AV} {r : Tm} {cn : List Value}, kindsT sh new = some r → VRs μ new cn → ∀ (j : Nat) (kd : Kd), sh[j]? = some kd → cn[j]? = some (kdV kd ((cellsD r.den).getD j (.dI 0)))
  | [], [], r, cn, _, _, j, kd, h => by simp at h
  | .kb :: sh, v :: l, r, cn, h, hv, j, kd, hj => by
    simp only [kindsT] at h
    split at h
    · rename_i t u ht hu
      cases h
      obtain ⟨x, y, q1, q2, rfl⟩ := hv
      cases j with
      | zero => simp at hj; subst hj; simpa [Tm.den, cellsD, kdV] using q1.tmB ht
      | succ j => simpa [Tm.den, cellsD] using kindsT_spec hu q2 j kd (by simpa using hj)
    · cases h
  | .ki k :: sh, v :: l, r, cn, h, hv, j, kd, hj => by
    simp only [kindsT] at h
    split at h
    · rename_i k' t u ht hu
      cases hk : eqK k k' with
      | false => rw [hk] at h; cases h
      | true =>
        rw [hk] at h; cases h
        obtain ⟨x, y, q1, q2, rfl⟩ := hv
        cases j with
        | zero => simp at hj; subst hj; rw [eqK_eq _ _ hk]; simpa [Tm.den, cellsD, kdV] using q1.tmI ht
        | succ j => simpa [Tm.den, cellsD] using kindsT_spec hu q2 j kd (by simpa using hj)
    · cases h
  | .ks :: sh, v :: l, r, cn, h, hv, j, kd, hj => by
    simp only [kindsT] at h
    split at h
    · rename_i t u ht hu
      cases h
      obtain ⟨x, y, q1, q2, rfl⟩ := hv
      cases j with
      | zero => simp at hj; subst hj; simpa [Tm.den, cellsD, kdV] using q1.tmS ht
      | succ j => simpa [Tm.den, cellsD] using kindsT_spec hu q2 j kd (by simpa using hj)
    · cases h
  | [], _ :: _, _, _, h, _, _, _, _ => by simp [kindsT] at h
  | .kb :: _, [], _, _, h, _, _, _, _ => by simp [kindsT] at h
  | .ki _ :: _, [], _, _, h, _, _, _, _ => by simp [kindsT] at h
  | .ks :: _, [], _, _, h, _, _, _, _ => by simp [kindsT] at h
theorem kindsT_len : ∀ {sh : List Kd} {new : List AV} {r : Tm}, kindsT sh new = some r → new.length = sh.length
  | [], [], _, _ => rfl
  | .kb :: sh, v :: l, r, h => by
    simp only [kindsT] at h
    split at h
    · rename_i hu; simp [kindsT_len hu]
    · cases h
  | .ki k :: sh, v :: l, r, h => by
    simp only [kindsT] at h
    split at h
    · rename_i hu; simp [kindsT_len hu]
    · cases h
  | .ks :: sh, v :: l, r, h => by
    simp only [kindsT] at h
    split at h
    · rename_i hu; simp [kindsT_len hu]
    · cases h
  | [], _ :: _, _, h => by simp [kindsT] at h
  | .kb :: _, [], _, h => by simp [kindsT] at h
  | .ki _ :: _, [], _, h => by simp [kindsT] at h
  | .ks :: _, [], _, h => by simp [kindsT] at h
/-- Rows of cells, from cell s on. -/
def RowsAt (c : Array Value) (s : Nat) (sh : List Kd) (L : List (List Dat)) : Prop := ∀ i, i < L.length → ∀ j kd, sh[j]? = some kd → c[s + (i * sh.length + j)]? = some (kdV kd ((L.getD i []).getD j (.dI 0)))
theorem RowsAt.snoc {c c' : Array Value} {s s' : Nat} {sh : List Kd} {L : List (List Dat)} {row : List Dat} (h : RowsAt c s sh L) (hold : ∀ q, q < L.length * sh.length → c'[s' + q]? = c[s + q]?)
    (hnew : ∀ j kd, sh[j]? = some kd → c'[s' + (L.length * sh.length + j)]? = some (kdV kd (row.getD j (.dI 0)))) : RowsAt c' s' sh (L ++ [row]) := fun i hi j kd hj => by
  have hjl := (List.getElem?_eq_some_iff.1 hj).1
  simp only [List.length_append, List.length_singleton] at hi
  rcases Nat.lt_or_ge i L.length with h1 | h1
  · have hq : i * sh.length + j < L.length * sh.length := by
      have := Nat.mul_le_mul_right sh.length (show i + 1 ≤ L.length from h1)
      rw [Nat.add_mul, Nat.one_mul] at this; omega
    rw [hold _ hq, h i h1 j kd hj]
    simp [List.getElem?_append_left h1, List.getD_eq_getElem?_getD]
  · have : i = L.length := by omega
    subst this
    rw [hnew j kd hj]
    simp [List.getD_eq_getElem?_getD]
theorem lss_asB (k : IntKind) (x y : Tm) : (Tm.ib .lss k x y).den.asB = decide (x.den.asI < y.den.asI) := rfl
theorem ci_asI (n : Int) : (Tm.ci n).den.asI = n := rfl
theorem seqApp_run {b : Builtin} {ts : Array TypeId} {args : List AV} {q : Tm} {v : AV} {H H' : Heap} (h : seqAppA P b ts args H = some (q, v, H')) (hq : q.den.asB = true)
    {μ : Mu} {w : World} (r : Rep μ H.get w) (d : Dom μ H.next) {cargs : List Value} (hv : VRs μ args cargs) (ty : TypeId) :
    b = .append ∧ ∃ cs cx, cargs = [cs, cx] ∧ ∃ μ' y w', (Builtin.append_ ts ty #[cs, cx]).run P w = .ok y w' ∧ VR μ' v y ∧ Evo μ H.get H.next w μ' H'.get H'.next w' := by
  unfold seqAppA at h
  split at h
  case h_2 => cases h
  rename_i id k off len x
  refine ⟨rfl, ?_⟩
  obtain ⟨cs, r1, hs, hr1, rfl⟩ := hv
  obtain ⟨cx, r2, hx, hr2, rfl⟩ := hr1
  obtain rfl : r2 = [] := hr2
  refine ⟨cs, cx, rfl, ?_⟩
  split at h
  case h_2 => cases h
  rename_i t u ht hu
  split at h
  · cases h
  case h_3 => cases h
  rename_i dd hni hdd
  split at h
  case h_2 => cases h
  rename_i e hte
  split at h
  case h_2 => cases h
  rename_i k' by' z hk hby hz hm
  split at h
  case isFalse => cases h
  rename_i hc
  obtain ⟨hc1, hc2, hc3, rfl⟩ := hc
  split at h
  case h_2 => cases h
  rename_i new sh tm hnew hg
  split at h
  case isFalse => cases h
  rename_i hc
  obtain ⟨hcells, hsh, hoff, hlen⟩ := hc
  split at h
  case h_2 => cases h
  rename_i rr hkind
  cases h
  have hoff := Tm.eqv_eq _ _ hoff
  subst hoff
  have hlen := Tm.eqv_eq _ _ hlen
  subst hlen
  obtain ⟨zv, hz1, hz2⟩ := zeroCells_runs hz μ
  have hzs : zv.cells.size = k' + 1 := by
    have := hz2.length; simp at this; omega
  have at_ : AT P ts e (k' + 1) by' zv := ⟨⟨t, ht, hte⟩, ⟨u, dd, hu, hdd, fun k e => hni k (e ▸ rfl)⟩, hk, bytesOf_run hby, hz1, hzs, hc1, Nat.succ_pos _⟩
  have hlenx := lenA_run (P := P) hm hx w
  obtain ⟨cn, hn1, hn2⟩ := srcA_run (P := P) hnew (Nat.succ_pos _) r hx hm (Nat.le_refl _)
  have hnl : new.length = k' + 1 := by rw [kindsT_len hkind, hsh]
  have hcl : cn.length = k' + 1 := by rw [hn2.length, hnl]
  obtain ⟨L, c0, e0, lo, hi, h1, h2, ⟨h3, h3'⟩, h4, h5, h6, h7⟩ := r.obj id _ hg
  rw [hsh] at h3
  have h5 := h5 rfl
  rw [h3] at h3' h4 h5
  have hrows : RowsAt c0 L.s sh tm.den.asL := fun i hi' j kd hj => by
    have := h7 i hi' j kd hj
    rw [h3] at this; rw [hsh]; exact this
  generalize hN : tm.den.asL = rows at *
  obtain ⟨L', hL', q1, q2, q3, q4, ⟨q5, q6⟩, q7⟩ := hs
  rw [h1] at hL'; cases hL'
  have hlv : (Tm.llen tm).den.asI = (rows.length : Int) := by
    show (tm.den.asL.length : Int) = _
    rw [hN]
  have hsm : rows.length < 4294967295 := by
    rw [lss_asB, hlv, ci_asI] at hq
    have := of_decide_eq_true hq
    omega
  rw [hlv] at q5 q6 q7
  have e0' : (Tm.ci 0).den.asI.toNat = 0 := rfl
  rw [e0'] at q5 q6 q7
  simp only [Nat.zero_mul, Nat.add_zero, Nat.zero_add, Nat.sub_zero, Int.toNat_natCast] at q5 q6 q7
  have hden : (Tm.lapp tm (.row rr)).den.asL = rows ++ [cellsD rr.den] := by
    show tm.den.asL ++ [cellsD rr.den] = _
    rw [hN]
  have hlv' : (Tm.llen (.lapp tm (.row rr))).den.asI.toNat = rows.length + 1 := by
    show ((Tm.lapp tm (.row rr)).den.asL.length : Int).toNat = _
    rw [hden]; simp
  have hlv2 : (0 : Int) ≤ (Tm.llen (.lapp tm (.row rr))).den.asI := by
    show (0 : Int) ≤ ((Tm.lapp tm (.row rr)).den.asL.length : Int)
    omega
  -- the cells that are there
  have hroom : L.s + rows.length * (k' + 1) ≤ c0.size := by omega
  generalize hco : (c0.toList.drop L.s).take (rows.length * (k' + 1)) = co
  have hcol : co.length = rows.length * (k' + 1) := by
    rw [← hco, List.length_take, List.length_drop]; simp; omega
  have hcog : ∀ j y, co[j]? = some y → c0[L.s + j]? = some y := fun j y hj => by
    rw [← hco, List.getElem?_take] at hj
    split at hj
    · rw [List.getElem?_drop] at hj; simpa using hj
    · cases hj
  have hcog' : ∀ j, j < rows.length * (k' + 1) → co[j]? = c0[L.s + j]? := fun j hj => by
    have hlt : j < co.length := by omega
    rw [hcog j _ (List.getElem?_eq_getElem hlt)]; exact List.getElem?_eq_getElem hlt
  have hnewc : ∀ j kd, sh[j]? = some kd → cn[j]? = some (kdV kd ((cellsD rr.den).getD j (.dI 0))) := kindsT_spec hkind hn2
  have grow : ∀ (cap : Nat) (a : Option Addr), ¬ rows.length + 1 ≤ cap → (∀ w' : World, w'.heap = w.heap → (Builtin.firstCells (k' + 1) rows.length (.slice a rows.length cap)).run P w' = .ok co.toArray w') →
      ∃ μ' y w', (Builtin.append_ ts ty #[.slice a rows.length cap, cx]).run P w = .ok y w' ∧ VR μ' (.sslice H.next (k' + 1) (.ci 0) (.llen (.lapp tm (.row rr)))) y ∧ Evo μ H.get H.next w μ' ((H.kill id).new (.seq sh (.lapp tm (.row rr)) true)).get ((H.kill id).new (.seq sh (.lapp tm (.row rr)) true)).next w' := by
    intro cap a hcap hfc
    obtain ⟨nc, hnc, hrun⟩ := append_out at_ ty a rows.length cap 1 cx w co cn hlenx hn1 hfc hcap (by omega)
    have hkk := evo_kill r d id
    have hl4 : (co ++ cn).length = (rows.length + 1) * (k' + 1) := by simp only [List.length_append, hcol, hcl, Nat.add_mul, Nat.one_mul]
    have hev := evo_new (w' := { w with heap := w.heap.push (.cells ((co ++ cn ++ List.flatten (List.replicate (nc - (rows.length + 1)) zv.cells.toList)).toArray) e), drawn := w.drawn + 1 }) hkk.rep hkk.dom (obj := .cells ((co ++ cn ++ List.flatten (List.replicate (nc - (rows.length + 1)) zv.cells.toList)).toArray) e) ⟨rfl, rfl, rfl, rfl⟩ (.seq sh (.lapp tm (.row rr)) true)
      ⟨w.heap.size, 0, nc, k' + 1, (rows.length + 1) * (k' + 1)⟩ rfl fun μ' he hm' => by
        refine ⟨_, (co ++ cn ++ List.flatten (List.replicate (nc - (rows.length + 1)) zv.cells.toList)).toArray, e, 0, 0, hm', by simp, ⟨by rw [hsh], by rw [hden]; simp⟩, Nat.mul_le_mul_right _ hnc, fun _ => ?_, fun _ => .inr (Nat.le_refl _), ?_⟩
        · have : (List.flatten (List.replicate (nc - (rows.length + 1)) zv.cells.toList)).length = (nc - (rows.length + 1)) * (k' + 1) := by simp [hzs]
          simp only [List.size_toArray]
          rw [List.length_append, hl4, this, ← Nat.add_mul]
          have e9 : rows.length + 1 + (nc - (rows.length + 1)) = nc := by omega
          rw [e9, Nat.zero_add]
          exact Nat.le_refl _
        · rw [hden]
          have hr := hrows.snoc (c' := (co ++ cn ++ List.flatten (List.replicate (nc - (rows.length + 1)) zv.cells.toList)).toArray) (s' := 0) (row := cellsD rr.den)
            (fun q hq => by
              rw [hsh] at hq
              simp only [Nat.zero_add, List.getElem?_toArray]
              rw [List.append_assoc, List.getElem?_append_left (by omega)]
              exact hcog' q hq)
            (fun j kd hj => by
              have hjl := (List.getElem?_eq_some_iff.1 hj).1
              rw [hsh]
              simp only [Nat.zero_add, List.getElem?_toArray]
              rw [List.append_assoc, List.getElem?_append_right (by omega), hcol, Nat.add_sub_cancel_left, List.getElem?_append_left (by omega)]
              exact hnewc j kd hj)
          intro i hi' j kd hj
          have := hr i hi' j kd hj
          rw [hsh] at this; exact this
    have hkn : (H.kill id).next = H.next := rfl
    rw [hkn] at hev
    refine ⟨setMu μ H.next ⟨w.heap.size, 0, nc, k' + 1, (rows.length + 1) * (k' + 1)⟩, _, _, hrun, ⟨⟨w.heap.size, 0, nc, k' + 1, (rows.length + 1) * (k' + 1)⟩, by simp [setMu], rfl, Nat.succ_pos _, Int.le_refl _, hlv2, ⟨?_, ?_⟩, .inl ?_⟩, hkk.trans hev⟩
    · rw [e0', hlv']; simp
    · rw [e0', hlv']; simpa using hnc
    · rw [e0', hlv']; simp
  rcases q7 with rfl | ⟨q8, o', rfl⟩
  · by_cases hle : rows.length + 1 ≤ L.cap
    · have hlk : (rows.length + 1) * (k' + 1) = rows.length * (k' + 1) + (k' + 1) := by rw [Nat.add_mul, Nat.one_mul]
      have hcapk : (rows.length + 1) * (k' + 1) ≤ L.cap * (k' + 1) := Nat.mul_le_mul_right _ hle
      have hfit : L.s + rows.length * (k' + 1) + cn.length ≤ c0.size := by omega
      have hst := run_storeCells (P := P) L.b (L.s + rows.length * (k' + 1)) e0 lo hi cn 0 w c0 h2 (by omega) (h6 rfl) (hn2.cellsV hcells)
      obtain ⟨c', s1, s2, s3⟩ := setRow_at e0 (lo, hi) cn w L.b (L.s + rows.length * (k' + 1)) c0 h2 hfit
      obtain ⟨m1, m2, m3, m4⟩ := setRow_rest cn w L.b (L.s + rows.length * (k' + 1))
      refine ⟨setMu μ H.next ⟨L.b, L.s, L.cap, k' + 1, (rows.length + 1) * (k' + 1)⟩, _, _, append_in at_ ty _ rows.length L.cap 1 cx w cn hlenx (hn1 w rfl) hle _ (by simp only [add_addr]; exact hst),
        ⟨⟨L.b, L.s, L.cap, k' + 1, (rows.length + 1) * (k' + 1)⟩, (by show setMu μ H.next _ H.next = _; simp [setMu]), rfl, Nat.succ_pos _, Int.le_refl _, hlv2, ⟨?_, ?_⟩, .inl ?_⟩, ?_⟩
      · rw [e0', hlv']; simp
      · rw [e0', hlv']; simpa using hle
      · rw [e0', hlv']; simp
      refine evo_move r d hg rfl h1 (l' := ⟨L.b, L.s, L.cap, k' + 1, (rows.length + 1) * (k' + 1)⟩) rfl (fun b hb => setRow_ne cn w L.b _ b hb) m1 m2 m3 m4 fun μ' he hm' => ?_
      refine ⟨_, c', e0, lo, hi, hm', s1, ⟨by rw [hsh], by rw [hden]; simp⟩, hcapk, fun _ => by rw [s2]; exact h5, fun _ => by rw [s2]; exact h6 rfl, ?_⟩
      rw [hden]
      have hr := hrows.snoc (c' := c') (s' := L.s) (row := cellsD rr.den)
        (fun q hq => by
          rw [hsh] at hq
          rw [s3, if_neg (by omega)])
        (fun j kd hj => by
          have hjl := (List.getElem?_eq_some_iff.1 hj).1
          rw [hsh, s3, if_pos (by omega), show L.s + (rows.length * (k' + 1) + j) - (L.s + rows.length * (k' + 1)) = j by omega]
          exact hnewc j kd hj)
      intro i hi' j kd hj
      have := hr i hi' j kd hj
      rw [hsh] at this; exact this
    · exact grow _ _ hle (fun w' ew => run_loadCells L.b L.s (rows.length * (k' + 1)) co hcol (fun j y hj => by rw [cell_row (w := w') (by rw [ew]; exact h2)]; exact hcog j y hj))
  · have hz0 : rows.length = 0 := by omega
    have : co = [] := List.eq_nil_of_length_eq_zero (by rw [hcol, hz0]; simp)
    subst this
    have := grow 0 (some ⟨L.b, o', none⟩) (by omega) (fun w' _ => by rw [hz0]; simp [Builtin.firstCells, run_loadCells_zero])
    rw [hz0] at this
    exact this
theorem seqApp_pc {b : Builtin} {ts : Array TypeId} {args : List AV} {q : Tm} {v : AV} {H H' : Heap} (h : seqAppA P b ts args H = some (q, v, H')) : H'.pc = H.pc := by
  unfold seqAppA at h
  repeat' (split at h)
  all_goals first | (cases h; done) | (cases h; rfl)
end
end Go.Proofs.Ytamibbjpapkfeaa.Ab
