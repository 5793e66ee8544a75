import Derived.Test.YtenkabjkgngcdaaGreatKa1
import Derived.MapKept
import Derived.LoopN
import Derived.Scope
set_option linter.unusedVariables false
set_option linter.unusedSimpArgs false
set_option linter.unusedSectionVars false
namespace Go.Proofs.YtenkabjkgngcdaaGreat.Ab
open Go
variable [Rho]
section
variable {P : Program}
theorem xDn (k : IntKind) (x y : Tm) : (Tm.ib .lss k x y).den.asB = decide (x.den.asI < y.den.asI) := rfl
theorem xDo (k : IntKind) (x y : Tm) : (Tm.ib .leq k x y).den.asB = decide (x.den.asI ≤ y.den.asI) := rfl
theorem zSh (n : Int) : (Tm.ci n).den.asI = n := rfl
def RowsL (c : List Value) (sh : List Kd) (L : List (List Dat)) : Prop := ∀ i, i < L.length → ∀ j kd, sh[j]? = some kd → c[i * sh.length + j]? = some (kdV kd ((L.getD i []).getD j (.dI 0)))
theorem RowsL.append {a b : List Value} {sh : List Kd} {L M : List (List Dat)} (ha : RowsL a sh L) (hl : a.length = L.length * sh.length) (hb : RowsL b sh M) : RowsL (a ++ b) sh (L ++ M) := fun i hi j kd hj => by
 have hjl := (List.getElem?_eq_some_iff.1 hj).1;rcases Nat.lt_or_ge i L.length with h1 | h1
 ·have hq : i * sh.length + j < L.length * sh.length := by
   have := Nat.mul_le_mul_right sh.length (show i + 1 ≤ L.length from h1)
   rw [Nat.add_mul, Nat.one_mul] at this; omega
  rw [List.getElem?_append_left (by omega), ha i h1 j kd hj]
  simp [List.getElem?_append_left h1, List.getD_eq_getElem?_getD]
 ·obtain ⟨p, rfl⟩ : ∃ p, i = L.length + p := ⟨i - L.length, by omega⟩
  simp only [List.length_append] at hi;rw [List.getElem?_append_right (by rw [Nat.add_mul]; omega), hl, show (L.length + p) * sh.length + j - L.length * sh.length = p * sh.length + j by rw [Nat.add_mul]; omega, hb p (by omega) j kd hj]
  simp only [List.getD_eq_getElem?_getD];rw [List.getElem?_append_right (by omega), Nat.add_sub_cancel_left]
theorem zHf {ν : Mu} {sh : List Kd} (hk : 0 < sh.length) : ∀ (n : Nat) {vs : List AV} {u : Tm} {cs : List Value}, zSB sh n vs = some u → VRs ν vs cs → u.den.asL.length * sh.length = vs.length ∧ RowsL cs sh u.den.asL
 | 0, vs, u, cs, h, _ => by simp [zSB] at h
 | n + 1, vs, u, cs, h, hv => by
  unfold zSB at h;cases hb : Nat.beq vs.length sh.length with
  | true =>
   rw [hb] at h;simp only [cond_true] at h;split at h
   ·rename_i r hr;cases h;have e : (Tm.row r).den.asL = [cellsD r.den] := rfl;rw [e];refine ⟨by simp [Nat.eq_of_beq_eq_true hb], fun i hi j kd hj => ?_⟩
    have : i = 0 := by simp at hi; omega
    subst this;simpa using zCw hr hv j kd hj
   ·cases h
  | false =>
   rw [hb] at h;simp only [cond_false] at h;split at h
   ·rename_i r u' hr hu;cases h;have hlen := zFk hr;have hle : sh.length ≤ vs.length := by rw [← hlen, List.length_take]; omega
    have ih := zHf hk n hu (hv.drop sh.length);have e : (Tm.lapp (.row r) u').den.asL = cellsD r.den :: u'.den.asL := rfl;rw [e];refine ⟨by rw [List.length_cons, Nat.add_mul, ih.1, List.length_drop]; omega, fun i hi j kd hj => ?_⟩
    cases i with
    | zero =>
     have h1 := zCw hr (hv.take sh.length) j kd hj;have hjl := (List.getElem?_eq_some_iff.1 hj).1;rw [List.getElem?_take, if_pos hjl] at h1;simpa using h1
    | succ i =>
     have h1 := ih.2 i (by simpa using hi) j kd hj
     rw [List.getElem?_drop] at h1;rw [show (i + 1) * sh.length + j = sh.length + (i * sh.length + j) by rw [Nat.add_mul]; omega, h1]
     simp
   ·cases h
theorem zNX (l a n : Tm) : (zTg l a n).den.asL = (l.den.asL.drop a.den.asI.toNat).take n.den.asI.toNat := by
 unfold zTg;cases h : (a.eqv (.ci 0) && n.eqv (.llen l)) with
 | false => rfl
 | true =>
  simp only [Bool.and_eq_true] at h;rw [Tm.eqv_eq _ _ h.1, Tm.eqv_eq _ _ h.2];show l.den.asL = (l.den.asL.drop 0).take ((l.den.asL.length : Int)).toNat;simp
structure Src (P : Program) (sh : List Kd) (w : World) (cx : Value) (m : Nat) (cn : List Value) (R : List (List Dat)) : Prop where
 len : (Builtin.lenOf cx).run P w = .ok m w
 cells : ∀ w' : World, w'.heap = w.heap → (Builtin.firstCells sh.length m cx).run P w' = .ok cn.toArray w'
 cell : ∀ v ∈ cn, cellV v = true
 n : R.length = m
 size : cn.length = m * sh.length
 rows : RowsL cn sh R
theorem zZ2 (kd : Kd) (x : Dat) : cellV (kdV kd x) = true := by cases kd <;> rfl
theorem zUe {μ : Mu} {H : Heap} {w : World} (r : Rep μ H.get w) {id : Nat} {sh : List Kd} {tm : Tm} {own : Bool} (hg : H.get id = some (.seq sh tm own)) (hk : 0 < sh.length) {off len : Tm} {c : Value} (hv : VR μ (.sslice id sh.length off len) c) :
  ∃ cn, Src P sh w c len.den.asI.toNat cn ((tm.den.asL.drop off.den.asI.toNat).take len.den.asI.toNat) := by
 obtain ⟨L, h1, q1, q2, q3, q4, ⟨q5, q6⟩, q7⟩ := hv;have hlen : ((tm.den.asL.drop off.den.asI.toNat).take len.den.asI.toNat).length = len.den.asI.toNat := by
  obtain ⟨l', e1, ⟨e2, e3⟩, _⟩ := r.obj _ _ hg;rw [h1] at e1; cases e1;rw [e2] at e3;rw [← e3] at q5;have := Nat.le_of_mul_le_mul_right q5 hk
  simp; omega
 have zero : len.den.asI = 0 → ∀ (a : Option Addr) (c : Nat), Src P sh w (.slice a 0 c) len.den.asI.toNat [] ((tm.den.asL.drop off.den.asI.toNat).take len.den.asI.toNat) := fun h0 a c => by
  rw [h0] at hlen;refine ⟨by rw [h0]; rfl, fun w' _ => ?_, fun v h => (by cases h), by rw [h0]; exact hlen, by rw [h0]; simp, fun i hi => ?_⟩
  ·rw [h0];cases a with
   | none => simp [Builtin.firstCells]
   | some a => simp [Builtin.firstCells, zBu]
  ·rw [h0, hlen] at hi; simp at hi
 rcases q7 with ⟨hz, rfl | ⟨h0, o, rfl⟩⟩ | ⟨_, h0, rfl⟩
 ·obtain ⟨c0, e, lo, hi, h2, ⟨h3, h3'⟩, h4, h5, h6, h7⟩ := (r.obj _ _ hg).seq_at h1 hz;rw [h3] at h3' h7;rw [← h3'] at q5;have hle := Nat.le_of_mul_le_mul_right q5 hk;have hcell : ∀ q, q < len.den.asI.toNat * sh.length → ∃ kd x, sh[q % sh.length]? = some kd ∧ c0[L.s + off.den.asI.toNat * sh.length + q]? = some (kdV kd x) := fun q hq => by
   have hi' : off.den.asI.toNat + q / sh.length < tm.den.asL.length := by
    have := Nat.div_lt_of_lt_mul (show q < sh.length * len.den.asI.toNat by rw [Nat.mul_comm]; exact hq)
    omega
   have hj : sh[q % sh.length]? = some (sh[q % sh.length]'(Nat.mod_lt _ hk)) := List.getElem?_eq_getElem _;have := h7 _ hi' _ _ hj;refine ⟨_, (tm.den.asL.getD (off.den.asI.toNat + q / sh.length) []).getD (q % sh.length) (.dI 0), hj, ?_⟩;rw [← this];congr 1;have e9 := Nat.div_add_mod q sh.length;rw [Nat.mul_comm] at e9;rw [Nat.add_mul]; omega
  have hex : ∀ q, q < len.den.asI.toNat * sh.length → ∃ y, c0[L.s + off.den.asI.toNat * sh.length + q]? = some y := fun q hq => by
   obtain ⟨kd, x, _, h⟩ := hcell q hq; exact ⟨_, h⟩
  have hroom : len.den.asI.toNat * sh.length = 0 ∨ L.s + off.den.asI.toNat * sh.length + len.den.asI.toNat * sh.length ≤ c0.size := by
   rcases Nat.eq_zero_or_pos (len.den.asI.toNat * sh.length) with h | h
   ·exact .inl h
   ·obtain ⟨y, hy⟩ := hex (len.den.asI.toNat * sh.length - 1) (by omega)
    have := (Array.getElem?_eq_some_iff.1 hy).1
    right; omega
  refine ⟨(c0.toList.drop (L.s + off.den.asI.toNat * sh.length)).take (len.den.asI.toNat * sh.length), ⟨rfl, fun w' ew => ?_, fun v hv => ?_, hlen, ?_, fun i hi' j kd hj => ?_⟩⟩
  ·simp only [Builtin.firstCells];refine run_loadCells L.b (L.s + off.den.asI.toNat * sh.length) _ _ ?_ fun j y hj => ?_
   ·simp; omega
   ·rw [zBU (w := w') (by rw [ew]; exact h2)]
    rw [List.getElem?_take] at hj;split at hj
    ·rw [List.getElem?_drop] at hj; simpa using hj
    ·cases hj
  ·obtain ⟨q, hq⟩ := List.getElem?_of_mem hv;rw [List.getElem?_take] at hq;split at hq
   ·rename_i hlt;rw [List.getElem?_drop] at hq;obtain ⟨kd, x, _, h⟩ := hcell q hlt;rw [Array.getElem?_toList, h] at hq; cases hq;exact zZ2 _ _
   ·cases hq
  ·simp; omega
  ·rw [hlen] at hi';have hjl := (List.getElem?_eq_some_iff.1 hj).1;have hq : i * sh.length + j < len.den.asI.toNat * sh.length := by
    have := Nat.mul_le_mul_right sh.length (show i + 1 ≤ len.den.asI.toNat from hi')
    rw [Nat.add_mul, Nat.one_mul] at this; omega
   rw [List.getElem?_take, if_pos hq, List.getElem?_drop, Array.getElem?_toList];have := h7 (off.den.asI.toNat + i) (by omega) j kd hj
   rw [Nat.add_mul] at this;rw [show L.s + off.den.asI.toNat * sh.length + (i * sh.length + j) = L.s + (off.den.asI.toNat * sh.length + i * sh.length + j) by omega, this]
   simp [List.getD_eq_getElem?_getD, List.getElem?_take, hi']
 ·have := zero h0 (some o) 0;exact ⟨[], this⟩
 ·exact ⟨[], zero h0 none 0⟩
theorem zQ7 {sh : List Kd} {n : Tm} {x : AV} {H : Heap} {q u : Tm} (h : xHq sh n x H = some (q, u)) (hk : 0 < sh.length) (hq : q.den.asB = true) {μ : Mu} {w : World} (r : Rep μ H.get w) {cx : Value} (hx : VR μ x cx) :
  ∃ m cn, Src P sh w cx m cn u.den.asL ∧ (0 ≤ n.den.asI → n.den.asI.toNat + m ≤ 4294967296) := by
 unfold xHq at h;split at h
 ·rename_i id k off len;split at h
  ·rename_i sh' tm own hg;cases hb : zXn sh sh' && Nat.beq k sh.length with
   | false => rw [hb] at h; cases h
   | true =>
    rw [hb] at h;simp only [cond_true, Option.some.injEq, Prod.mk.injEq] at h;obtain ⟨rfl, rfl⟩ := h;simp only [Bool.and_eq_true] at hb;obtain rfl := zH4 hb.1;obtain rfl := Nat.eq_of_beq_eq_true hb.2;obtain ⟨cn, hs⟩ := zUe (P := P) r hg hk hx;obtain ⟨_, _, _, _, q3, q4, _⟩ := hx;refine ⟨_, cn, by rw [zNX]; exact hs, fun h0 => ?_⟩
    rw [xDo, zEL, zSh] at hq;have := of_decide_eq_true hq;omega
  ·cases h
 ·split at h
  ·rename_i m hm;split at h
   ·rename_i new hnew;cases hb : zA4 new && Nat.beq new.length ((m + 1) * sh.length) with
    | false => rw [hb] at h; cases h
    | true =>
     rw [hb] at h;simp only [Bool.and_eq_true] at hb;obtain ⟨ha, hl⟩ := hb;have hl := Nat.eq_of_beq_eq_true hl;simp only [cond_true] at h;split at h
     ·rename_i u' hu;cases hb2 : Nat.blt m 4294967295 with
      | false => rw [hb2] at h; cases h
      | true =>
       rw [hb2] at h;simp only [cond_true, Option.some.injEq, Prod.mk.injEq] at h;obtain ⟨rfl, rfl⟩ := h;rw [Nat.blt_eq] at hb2;obtain ⟨cn, hn1, hn2⟩ := zLD (P := P) hnew hk r hx hm (Nat.le_refl _);obtain ⟨e1, e2⟩ := zHf hk _ hu hn2;rw [hl] at e1;refine ⟨m + 1, cn, ⟨zMs hm hx w, hn1, hn2.cellsV ha, Nat.eq_of_mul_eq_mul_right hk e1, by rw [hn2.length, hl], e2⟩, fun h0 => ?_⟩
       rw [xDn, zSh] at hq;have := of_decide_eq_true hq;omega
     ·cases h
   ·cases h
  ·cases h
section
variable {ts : Array TypeId} {ty e : TypeId} {by' : Nat} {zv : Value} {sh : List Kd} {cx : Value} {m : Nat} {cn : List Value} {R : List (List Dat)}
theorem zSq {k : Nat} (at_ : AT P ts e k by' zv) (hk : sh.length = k) {μ : Mu} {G : Heap} {w : World} (r : Rep μ G.get w) (d : Dom μ G.next) (s : Src P sh w cx m cn R) {R0 : List (List Dat)} {co : List Value} (hco : co.length = R0.length * sh.length) (hro : RowsL co sh R0)
  {cap : Nat} {a : Option Addr} (hcap : ¬ R0.length + m ≤ cap) (hm : R0.length + m ≤ 4294967296) (hfc : ∀ w' : World, w'.heap = w.heap → (Builtin.firstCells sh.length R0.length (.slice a R0.length cap)).run P w' = .ok co.toArray w') {T : Tm} (hT : T.den.asL = R0 ++ R) (ty : TypeId) :
  ∃ μ' y w', (Builtin.append_ ts ty #[.slice a R0.length cap, cx]).run P w = .ok y w' ∧ VR μ' (.sslice G.next sh.length (.ci 0) (.llen T)) y ∧ Evo μ G.get G.next w μ' (G.new (.seq sh T true)).get (G.new (.seq sh T true)).next w' := by
 subst hk;obtain ⟨nc, hnc, hrun⟩ := zLz at_ ty a R0.length cap m cx w co cn s.len s.cells hfc hcap hm;have hl4 : (co ++ cn).length = (R0.length + m) * sh.length := by simp only [List.length_append, hco, s.size, Nat.add_mul]
 have hTl : T.den.asL.length = R0.length + m := by rw [hT]; simp [s.n]
 have e1 : (Tm.llen T).den.asI = ((R0.length + m : Nat) : Int) := by
  show (T.den.asL.length : Int) = _;rw [hTl]
 have e0 : (Tm.ci 0).den.asI.toNat = 0 := rfl;have e2 : (Tm.llen T).den.asI.toNat = R0.length + m := by rw [e1]; rfl
 have hzl : (List.flatten (List.replicate (nc - (R0.length + m)) zv.cells.toList)).length = (nc - (R0.length + m)) * sh.length := by simp [at_.zsize]
 have hev := zFP (w' := { w with heap := w.heap.push (.cells ((co ++ cn ++ List.flatten (List.replicate (nc - (R0.length + m)) zv.cells.toList)).toArray) e), drawn := w.drawn + 1 }) r d (obj := .cells ((co ++ cn ++ List.flatten (List.replicate (nc - (R0.length + m)) zv.cells.toList)).toArray) e) ⟨rfl, rfl, rfl, rfl⟩ (.seq sh T true)
  ⟨w.heap.size, 0, nc, sh.length, (R0.length + m) * sh.length, false⟩ rfl fun μ' he hm' => by
   refine ⟨_, hm', ⟨rfl, by rw [hTl]⟩, Nat.mul_le_mul_right _ hnc, .inr ⟨rfl, (co ++ cn ++ List.flatten (List.replicate (nc - (R0.length + m)) zv.cells.toList)).toArray, e, 0, 0, by simp, fun _ => ?_, fun _ => .inr (Nat.le_refl _), ?_⟩⟩
   ·simp only [List.size_toArray];rw [List.length_append, hl4, hzl, ← Nat.add_mul, show R0.length + m + (nc - (R0.length + m)) = nc by omega, Nat.zero_add]
    exact Nat.le_refl _
   ·rw [hT];intro i hi j kd hj;have := hro.append hco s.rows i hi j kd hj;simp only [Nat.zero_add, List.getElem?_toArray];rw [List.getElem?_append_left]
    ·exact this
    ·exact (List.getElem?_eq_some_iff.1 this).1
 refine ⟨_, _, _, hrun, ⟨⟨w.heap.size, 0, nc, sh.length, (R0.length + m) * sh.length, false⟩, by simp [setMu], rfl, at_.pos, Int.le_refl _, by rw [e1]; omega, ⟨?_, ?_⟩, .inl ⟨rfl, .inl ?_⟩⟩, hev⟩
 ·rw [e0, e2, Nat.zero_add]; exact Nat.le_refl _
 ·rw [e0, e2, Nat.zero_add]; exact hnc
 ·rw [e0, e2]; simp
theorem zYe {k : Nat} (at_ : AT P ts e k by' zv) (hk : sh.length = k) {μ : Mu} {G : Heap} {w : World} (r : Rep μ G.get w) (d : Dom μ G.next) (s : Src P sh w cx m cn R) (hm : m ≤ 4294967296) {T : Tm} (hT : T.den.asL = R) (ty : TypeId) :
  ∃ μ' y w', (Builtin.append_ ts ty #[.slice none 0 0, cx]).run P w = .ok y w' ∧ VR μ' (.sslice G.next sh.length (.ci 0) (.llen T)) y ∧ Evo μ G.get G.next w μ' (G.new (.seq sh T true)).get (G.new (.seq sh T true)).next w' := by
 subst hk;by_cases h0 : m = 0
 ·subst h0;have hR : R = [] := List.eq_nil_of_length_eq_zero s.n;have e1 : (Tm.llen T).den.asI = 0 := by
   show (T.den.asL.length : Int) = _;rw [hT, hR]; rfl
  have e0 : (Tm.ci 0).den.asI = 0 := rfl;have hrun := zBC at_ ty none 0 0 0 cx w cn s.len (s.cells w rfl) (Nat.le_refl _) w rfl;refine ⟨setMu μ G.next ⟨0, 0, 0, sh.length, 0, true⟩, _, w, hrun, ⟨⟨0, 0, 0, sh.length, 0, true⟩, by simp [setMu], rfl, at_.pos, Int.le_refl _, by rw [e1]; omega, ⟨by rw [e0, e1]; simp, by rw [e0, e1]; simp⟩, .inr ⟨rfl, e1, rfl⟩⟩, ?_⟩
  exact zXj r d (.seq sh T true) _ rfl fun μ' _ hm' => ⟨_, hm', ⟨rfl, by rw [hT, hR]; simp⟩, by simp, .inl ⟨rfl, rfl, by rw [hT, hR]⟩⟩
 ·exact zSq (R0 := []) at_ rfl r d s (co := []) (by simp) (fun i hi => by simp at hi) (cap := 0) (a := none) (by simpa using h0) (by simpa using hm) (fun w' _ => by simp [Builtin.firstCells]) (by rw [hT]; rfl) ty
theorem xEk {k : Nat} (at_ : AT P ts e k by' zv) (hk : sh.length = k) {μ : Mu} {H : Heap} {w : World} (r : Rep μ H.get w) (d : Dom μ H.next) {id : Nat} {tm off len : Tm} (hg : H.get id = some (.seq sh tm true)) {cs : Value} (hs : VR μ (.sslice id sh.length off len) cs)
  (s : Src P sh w cx m cn R) (hsm : len.den.asI.toNat + m ≤ 4294967296) {T : Tm} (hT : T.den.asL = (tm.den.asL.drop off.den.asI.toNat).take len.den.asI.toNat ++ R) (ty : TypeId) :
  ∃ μ' y w', (Builtin.append_ ts ty #[cs, cx]).run P w = .ok y w' ∧ VR μ' (.sslice H.next sh.length (.ci 0) (.llen T)) y ∧ Evo μ H.get H.next w μ' ((H.kill id).new (.seq sh T true)).get ((H.kill id).new (.seq sh T true)).next w' := by
 subst hk;have hpos := at_.pos;have hkk := zRI r d id;obtain ⟨co, s0⟩ := zUe (P := P) r hg hpos hs;have hs' := hs;obtain ⟨L, h1, q1, q2, q3, q4, ⟨q5, q6⟩, q7⟩ := hs;generalize hR0 : (tm.den.asL.drop off.den.asI.toNat).take len.den.asI.toNat = R0 at *;have hn0 : R0.length = len.den.asI.toNat := s0.n;have hTl : T.den.asL.length = R0.length + m := by rw [hT]; simp [s.n]
 have e1 : (Tm.llen T).den.asI = ((R0.length + m : Nat) : Int) := by
  show (T.den.asL.length : Int) = _;rw [hTl]
 have e0 : (Tm.ci 0).den.asI.toNat = 0 := rfl;have e2 : (Tm.llen T).den.asI.toNat = R0.length + m := by rw [e1]; rfl
 have hkn : (H.kill id).next = H.next := rfl;have co_len : co.length = R0.length * sh.length := by rw [s0.size, hn0]
 have grow : ∀ (cap : Nat) (a : Option Addr), ¬ R0.length + m ≤ cap → (∀ w' : World, w'.heap = w.heap → (Builtin.firstCells sh.length R0.length (.slice a R0.length cap)).run P w' = .ok co.toArray w') →
   ∃ μ' y w', (Builtin.append_ ts ty #[.slice a R0.length cap, cx]).run P w = .ok y w' ∧ VR μ' (.sslice H.next sh.length (.ci 0) (.llen T)) y ∧ Evo μ H.get H.next w μ' ((H.kill id).new (.seq sh T true)).get ((H.kill id).new (.seq sh T true)).next w' := fun cap a hcap hfc => by
  obtain ⟨μ', y, w', p1, p2, p3⟩ := zSq at_ rfl hkk.rep hkk.dom s co_len s0.rows hcap (by rw [hn0]; exact hsm) hfc hT ty
  exact ⟨μ', y, w', p1, p2, hkk.trans p3⟩
 rcases q7 with ⟨hz, rfl | ⟨h0, o, rfl⟩⟩ | ⟨hz, h0, rfl⟩
 ·have hfc := s0.cells;rw [← hn0] at hfc ⊢;by_cases hle : R0.length + m ≤ L.cap - off.den.asI.toNat
  ·obtain ⟨c0, e', lo, hi, h2, ⟨h3, h3'⟩, h4, h5, h6, h7⟩ := (r.obj _ _ hg).seq_at h1 hz;have h5 := h5 rfl;rw [h3] at h3' h4 h5 h7;rw [← h3'] at q5;have hin := Nat.le_of_mul_le_mul_right q5 hpos;have hroom : L.s + off.den.asI.toNat * sh.length + (L.cap - off.den.asI.toNat) * sh.length ≤ c0.size := by
    have : off.den.asI.toNat + (L.cap - off.den.asI.toNat) = L.cap := by omega
    rw [Nat.add_assoc, ← Nat.add_mul, this]; exact h5
   have hcapk : (R0.length + m) * sh.length ≤ (L.cap - off.den.asI.toNat) * sh.length := Nat.mul_le_mul_right _ hle;have hmul : (R0.length + m) * sh.length = R0.length * sh.length + m * sh.length := Nat.add_mul _ _ _;have hsz := s.size;have hfit : L.s + off.den.asI.toNat * sh.length + R0.length * sh.length + cn.length ≤ c0.size := by omega
   have hst := zBA (P := P) L.b (L.s + off.den.asI.toNat * sh.length + R0.length * sh.length) e' lo hi cn 0 w c0 h2 (by omega) (h6 rfl) s.cell
   obtain ⟨c', s1, s2, s3⟩ := zEA e' (lo, hi) cn w L.b (L.s + off.den.asI.toNat * sh.length + R0.length * sh.length) c0 h2 hfit;obtain ⟨m1, m2, m3, m4⟩ := zDh cn w L.b (L.s + off.den.asI.toNat * sh.length + R0.length * sh.length);have hrun := zBC at_ ty (some ⟨L.b, L.s + off.den.asI.toNat * sh.length, none⟩) R0.length (L.cap - off.den.asI.toNat) m cx w cn s.len (s.cells w rfl) hle _ (by simp only [zBp]; exact hst)
   refine ⟨setMu μ H.next ⟨L.b, L.s + off.den.asI.toNat * sh.length, L.cap - off.den.asI.toNat, sh.length, (R0.length + m) * sh.length, false⟩, _, _, hrun,
    ⟨⟨L.b, L.s + off.den.asI.toNat * sh.length, L.cap - off.den.asI.toNat, sh.length, (R0.length + m) * sh.length, false⟩, (by show setMu μ H.next _ H.next = _; simp [setMu]), rfl, hpos, Int.le_refl _, by rw [e1]; omega, ⟨?_, ?_⟩, .inl ⟨rfl, .inl ?_⟩⟩, ?_⟩
   ·rw [e0, e2, Nat.zero_add]; exact Nat.le_refl _
   ·rw [e0, e2, Nat.zero_add]; exact hle
   ·rw [e0, e2]; simp
   refine zMy r d hg rfl ⟨h1, hz⟩ (l' := ⟨L.b, L.s + off.den.asI.toNat * sh.length, L.cap - off.den.asI.toNat, sh.length, (R0.length + m) * sh.length, false⟩) rfl rfl (fun b hb => zE9 cn w L.b _ b hb) m1 m2 m3 m4 fun μ' he hm' => ?_;refine ⟨_, hm', ⟨rfl, by rw [hTl]⟩, hcapk, .inr ⟨rfl, c', e', lo, hi, s1, fun _ => by rw [s2]; exact hroom, fun _ => by rw [s2]; exact h6 rfl, ?_⟩⟩
   rw [hT];intro i hi' j kd hj;have hjl := (List.getElem?_eq_some_iff.1 hj).1;have key := s0.rows.append co_len s.rows i hi' j kd hj;rw [← key];show c'[L.s + off.den.asI.toNat * sh.length + (i * sh.length + j)]? = _;rw [s3];by_cases hlt : i < R0.length
   ·have hq : i * sh.length + j < R0.length * sh.length := by
     have := Nat.mul_le_mul_right sh.length (show i + 1 ≤ R0.length from hlt)
     rw [Nat.add_mul, Nat.one_mul] at this; omega
    rw [if_neg (by omega), List.getElem?_append_left (by omega)]
    have e8 := s0.rows i hlt j kd hj;rw [e8];have := h7 (off.den.asI.toNat + i) (by omega) j kd hj
    rw [Nat.add_mul] at this;rw [show L.s + off.den.asI.toNat * sh.length + (i * sh.length + j) = L.s + (off.den.asI.toNat * sh.length + i * sh.length + j) by omega, this, ← hR0]
    simp [List.getD_eq_getElem?_getD, List.getElem?_take, show i < len.den.asI.toNat by omega]
   ·simp only [List.length_append, s.n] at hi';obtain ⟨p, rfl⟩ : ∃ p, i = R0.length + p := ⟨i - R0.length, by omega⟩
    have hq : p * sh.length + j < m * sh.length := by
     have := Nat.mul_le_mul_right sh.length (show p + 1 ≤ m by omega)
     rw [Nat.add_mul, Nat.one_mul] at this; omega
    rw [if_pos (by rw [Nat.add_mul]; omega), List.getElem?_append_right (by rw [Nat.add_mul]; omega)]
    congr 1;rw [Nat.add_mul]; omega
  ·exact grow _ _ hle hfc
 ·have hz0 : R0.length = 0 := by rw [hn0, h0]; rfl
  have hco : co = [] := List.eq_nil_of_length_eq_zero (by rw [co_len, hz0]; simp)
  by_cases hm0 : m = 0
  ·subst hm0;have hR : R = [] := List.eq_nil_of_length_eq_zero s.n;have hcn : cn = [] := List.eq_nil_of_length_eq_zero (by rw [s.size]; simp)
   subst hcn;have hR0' : R0 = [] := List.eq_nil_of_length_eq_zero hz0;subst hR0';rw [hR] at hT;have e1' : (Tm.llen T).den.asI = 0 := by rw [e1]; rfl
   have hrun := zBC at_ ty (some o) 0 0 0 cx w [] s.len (s.cells w rfl) (Nat.le_refl _) w (by simp [storeCells])
   obtain ⟨c0, e', lo, hi, h2, ⟨h3, h3'⟩, h4, h5, h6, h7⟩ := (r.obj _ _ hg).seq_at h1 hz;have h5 := h5 rfl;rw [h3] at h5;have hroom : L.s + off.den.asI.toNat * sh.length + (L.cap - off.den.asI.toNat) * sh.length ≤ c0.size := by
    have : off.den.asI.toNat + (L.cap - off.den.asI.toNat) = L.cap := by omega
    rw [Nat.add_assoc, ← Nat.add_mul, this]; exact h5
   refine ⟨setMu μ H.next ⟨L.b, L.s + off.den.asI.toNat * sh.length, L.cap - off.den.asI.toNat, sh.length, 0, false⟩, _, w, hrun, ⟨⟨L.b, L.s + off.den.asI.toNat * sh.length, L.cap - off.den.asI.toNat, sh.length, 0, false⟩, (by show setMu μ H.next _ H.next = _; simp [setMu]), rfl, hpos, Int.le_refl _, by rw [e1']; omega, ⟨by rw [e0, e1']; simp, by rw [e0, e1']; simp⟩, .inl ⟨rfl, .inr ⟨e1', o, rfl⟩⟩⟩, ?_⟩
   refine zMy r d hg rfl ⟨h1, hz⟩ (l' := ⟨L.b, L.s + off.den.asI.toNat * sh.length, L.cap - off.den.asI.toNat, sh.length, 0, false⟩) rfl rfl (fun b _ => rfl) rfl rfl rfl rfl fun μ' he hm' => ?_;refine ⟨_, hm', ⟨rfl, by rw [hT]; simp⟩, Nat.zero_le _, .inr ⟨rfl, c0, e', lo, hi, h2, fun _ => hroom, fun _ => h6 rfl, fun i hi' => ?_⟩⟩
   rw [hT] at hi'; simp at hi'
  ·have := grow 0 (some o) (by omega) (fun w' _ => by rw [hz0, hco]; simp [Builtin.firstCells, zBu])
   rw [hz0] at this;exact this
 ·have hz0 : R0.length = 0 := by rw [hn0, h0]; rfl
  have hR0' : R0 = [] := List.eq_nil_of_length_eq_zero hz0;obtain ⟨μ', y, w', p1, p2, p3⟩ := zYe at_ rfl hkk.rep hkk.dom s (by omega) (T := T) (by rw [hT, hR0']; rfl) ty
  exact ⟨μ', y, w', p1, p2, hkk.trans p3⟩
end
theorem zSA {b : Builtin} {ts : Array TypeId} {args : List AV} {q : Tm} {v : AV} {H H' : Heap} (h : zFD P b ts args H = some (q, v, H')) (hq : q.den.asB = true)
  {μ : Mu} {w : World} (r : Rep μ H.get w) (d : Dom μ H.next) {cargs : List Value} (hv : VRs μ args cargs) (ty : TypeId) :
  b = .append ∧ ∃ cs cx, cargs = [cs, cx] ∧ ∃ μ' y w', (Builtin.append_ ts ty #[cs, cx]).run P w = .ok y w' ∧ VR μ' v y ∧ Evo μ H.get H.next w μ' H'.get H'.next w' := by
 unfold zFD at h;split at h
 case h_2 => cases h
 rename_i s x;refine ⟨rfl, ?_⟩;obtain ⟨cs, r1, hs, hr1, rfl⟩ := hv;obtain ⟨cx, r2, hx, hr2, rfl⟩ := hr1;obtain rfl : r2 = [] := hr2;refine ⟨cs, cx, rfl, ?_⟩;split at h
 case h_2 => cases h
 rename_i t u ht hu;split at h
 ·cases h
 case h_3 => cases h
 rename_i dd hni hdd;split at h
 case h_2 => cases h
 rename_i e hte;split at h
 case h_2 => cases h
 rename_i k' by' z hk hby hz
 split at h
 case isFalse => cases h
 rename_i hc;obtain ⟨hc1, hc2, hc3⟩ := hc;obtain ⟨zv, hz1, hz2⟩ := zF1 hz μ;have hzs : zv.cells.size = k' + 1 := by
  have := hz2.length; simp at this; omega
 have at_ : AT P ts e (k' + 1) by' zv := ⟨⟨t, ht, hte⟩, ⟨u, dd, hu, hdd, fun k e => hni k (e ▸ rfl)⟩, hk, zEw hby, hz1, hzs, hc1, Nat.succ_pos _⟩
 split at h
 ·rename_i id k off len;split at h
  case h_2 => cases h
  rename_i sh tm hg;cases hb : Nat.beq k (k' + 1) && Nat.beq sh.length (k' + 1) with
  | false => rw [hb] at h; cases h
  | true =>
   rw [hb] at h;simp only [Bool.and_eq_true] at hb;have hb1 := Nat.eq_of_beq_eq_true hb.1;have hb2 := Nat.eq_of_beq_eq_true hb.2;obtain rfl : k = sh.length := by omega
   simp only [cond_true] at h;split at h
   case h_2 => cases h
   rename_i q' u' hsrc;cases h;obtain ⟨m, cn, hs1, hs2⟩ := zQ7 (P := P) hsrc (by omega) hq r hx
   have h0 : 0 ≤ len.den.asI := by
    obtain ⟨_, _, _, _, _, q4, _⟩ := hs;exact q4
   exact xEk at_ hb2 r d hg hs hs1 (hs2 h0) (by show (zTg tm off len).den.asL ++ u'.den.asL = _; rw [zNX]) ty
 ·split at h
  case h_2 => cases h
  rename_i id k off len;split at h
  case h_2 => cases h
  rename_i sh tm o hg;cases hb : Nat.beq k (k' + 1) && Nat.beq sh.length (k' + 1) with
  | false => rw [hb] at h; cases h
  | true =>
   rw [hb] at h;simp only [Bool.and_eq_true] at hb;have hb1 := Nat.eq_of_beq_eq_true hb.1;have hb2 := Nat.eq_of_beq_eq_true hb.2;obtain rfl : k = sh.length := by omega
   simp only [cond_true] at h;split at h
   case h_2 => cases h
   rename_i q' u' hsrc;cases h;obtain ⟨m, cn, hs1, hs2⟩ := zQ7 (P := P) hsrc (by omega) hq r hx
   have := hs2 (by rw [zSh]; omega)
   obtain rfl : cs = .slice none 0 0 := hs;exact zYe at_ hb2 r d hs1 (by rw [zSh] at this; omega) rfl ty
 ·cases h
theorem zUg {b : Builtin} {ts : Array TypeId} {args : List AV} {q : Tm} {v : AV} {H H' : Heap} (h : zFD P b ts args H = some (q, v, H')) : H'.pc = H.pc := by
 unfold zFD at h
 repeat' (split at h)
 all_goals first | (cases h; done) | (cases h; rfl) | (simp only [cond] at h; repeat' (split at h)) <;> first | (cases h; done) | (cases h; rfl)
end
end Go.Proofs.YtenkabjkgngcdaaGreat.Ab
namespace Go.Proofs.YtenkabjkgngcdaaGreat.Ab
open Go
variable [Rho]
section
variable {P : Program}
theorem zX3 {t : TypeId} {dv x v : AV} {H H' : Heap} (h : zT3 P t dv x H = some (v, H')) {ts : Array TypeId} (hts : ts[0]? = some t)
  {μ : Mu} {w : World} (r : Rep μ H.get w) (d : Dom μ H.next) {cd cx : Value} (hd : VR μ dv cd) (hx : VR μ x cx) (ty : TypeId) :
  ∃ μ' y w', (Builtin.copy_ ts ty #[cd, cx]).run P w = .ok y w' ∧ VR μ' v y ∧ Evo μ H.get H.next w μ' H'.get H'.next w' := by
 unfold zT3 at h;split at h
 case h_2 => cases h
 rename_i e m hu hm;have hlen := zMs (P := P) hm hx w;split at h
 ·rename_i k id off len cap hk;split at h
  ·rename_i new vs lf hnew hg;split at h
   ·rename_i hc;split at h
    ·rename_i v' hp;cases h;obtain ⟨L, c0, e0, lo, hi, ⟨h1, hz⟩, h2, h3, h4, h5, h6, h7⟩ := zDA r hg;have hn : Nat.min m len ≤ m := Nat.min_le_left _ _;have hk0 : 0 < k + 1 := Nat.succ_pos _
     ·obtain ⟨cn, hn1, hn2⟩ := zLD (P := P) hnew hk0 r hx hm hn;obtain ⟨w', q1, q2⟩ := zDg (P := P) r d hg hp hn2 hc (lf && flats new) h1;have hdst : ∃ a q, cd = .slice (some a) len q ∧ (storeCells a cn).run P w = .ok () w' := by
       by_cases h0 : len = 0
       ·subst h0;obtain ⟨a, q, rfl⟩ := hd.slice_zero;have hl := zQ8 hnew hm hn;have e0 : Nat.min m 0 = 0 := Nat.min_zero m;rw [e0] at hl;have : new = [] := List.eq_nil_of_length_eq_zero (by omega)
        subst this;cases hn2;have hw : w = w' := by
         have : (storeCells ⟨L.b, L.s + off, none⟩ []).run P w = .ok () w := rfl;rw [this] at q1; cases q1; rfl
        subst hw;exact ⟨a, q, rfl, rfl⟩
       ·obtain ⟨q, rfl⟩ := hd.slice_at h1 h0;exact ⟨_, q, rfl, q1⟩
      obtain ⟨a, q, rfl, hst⟩ := hdst;refine ⟨μ, _, w', ?_, rfl, q2⟩;unfold Builtin.copy_;simp only [hts, List.getElem?_toArray, List.getElem?_cons_zero, List.getElem?_cons_succ];simp only [Sem.run_bind, run_underlying hu, Result.andThen_ok, hlen, zAt hk, hn1 w rfl, hst, Sem.run_pure];rfl
    ·cases h
   ·cases h
  ·cases h
 ·cases h
theorem zT5 {t : TypeId} {x v : AV} {H H' : Heap} (h : zLx P t x H = some (v, H')) {ts : Array TypeId} (hts : ts[0]? = some t)
  {μ : Mu} {w : World} (r : Rep μ H.get w) (d : Dom μ H.next) {cx : Value} (hx : VR μ x cx) (ty : TypeId) :
  ∃ μ' y w', (Builtin.clear_ ts ty #[cx]).run P w = .ok y w' ∧ VR μ' v y ∧ Evo μ H.get H.next w μ' H'.get H'.next w' := by
 unfold zLx at h;split at h
 ·rename_i e hu;cases h; cases hx;refine ⟨μ, _, w, ?_, ⟨[], rfl, rfl⟩, Evo.refl r d⟩;unfold Builtin.clear_;simp only [hts, List.getElem?_toArray, List.getElem?_cons_zero];simp only [Sem.run_bind, run_underlying hu, Result.andThen_ok, Sem.run_pure]
 ·rename_i e id off n cap hu;split at h
  ·rename_i n0;cases h; subst n0;obtain ⟨a, q, rfl⟩ := hx.slice_zero;refine ⟨μ, _, w, ?_, ⟨[], rfl, rfl⟩, Evo.refl r d⟩;unfold Builtin.clear_;simp only [hts, List.getElem?_toArray, List.getElem?_cons_zero];simp only [Sem.run_bind, run_underlying hu, Result.andThen_ok, Sem.run_pure]
  ·rename_i n0;split at h
   ·rename_i z vs lf hz hg;split at h
    ·rename_i hc;split at h
     ·rename_i v' hp;cases h;obtain ⟨L, c0, e0, lo, hi, ⟨h1, _⟩, h2, _⟩ := zDA r hg;obtain ⟨zv, k, z1, z2, z3, z4, z5⟩ := zFc hz μ w;obtain ⟨q, rfl⟩ := hx.slice_at h1 n0;obtain ⟨w', q1, q2⟩ := zDg (P := P) r d hg hp z5 hc (lf && flats z) h1;refine ⟨μ, _, w', ?_, ⟨[], rfl, rfl⟩, q2⟩;obtain ⟨n', rfl⟩ : ∃ n', n = n' + 1 := ⟨n - 1, by omega⟩
      unfold Builtin.clear_;simp only [hts, List.getElem?_toArray, List.getElem?_cons_zero];simp only [Sem.run_bind, run_underlying hu, Result.andThen_ok, Sem.run_pure, z1, zHG zv.cells (n' + 1) k z3 z4, q1]
     ·cases h
    ·cases h
   ·cases h
 ·cases h
theorem zWy {x y v : AV} (h : xDk x y = some v) {μ : Mu} {cx cy : Value} (hx : VR μ x cx) (hy : VR μ y cy) (w : World) : ∃ c, (Builtin.min2 cx cy).run P w = .ok c w ∧ VR μ v c := by
 unfold xDk at h;split at h
 ·cases h; cases hx; cases hy; exact ⟨_, rfl, rfl⟩
 ·split at h
  ·rename_i k a k' b ha hb;cases h; cases hx.tmI ha; cases hy.tmI hb;refine ⟨_, rfl, ?_⟩;have := zCO μ k (xE5 (zFA .lss k b a) b a);rw [zR8, zAz] at this;have e : (bif (iop .lss k b.den.asI a.den.asI).asB then b.den else a.den).asI = if b.den.asI < a.den.asI then b.den.asI else a.den.asI := by
    show (bif decide (b.den.asI < a.den.asI) then b.den else a.den).asI = _
    by_cases hlt : b.den.asI < a.den.asI <;> simp [hlt]
   rw [e] at this;exact this
  ·cases h
theorem zW1 {x y v : AV} (h : xDl x y = some v) {μ : Mu} {cx cy : Value} (hx : VR μ x cx) (hy : VR μ y cy) (w : World) : ∃ c, (Builtin.max2 cx cy).run P w = .ok c w ∧ VR μ v c := by
 unfold xDl at h;split at h
 ·cases h; cases hx; cases hy; exact ⟨_, rfl, rfl⟩
 ·split at h
  ·rename_i k a k' b ha hb;cases h; cases hx.tmI ha; cases hy.tmI hb;refine ⟨_, rfl, ?_⟩;have := zCO μ k (xE5 (zFA .gtr k b a) b a);rw [zR8, zAz] at this;have e : (bif (iop .gtr k b.den.asI a.den.asI).asB then b.den else a.den).asI = if b.den.asI > a.den.asI then b.den.asI else a.den.asI := by
    show (bif decide (b.den.asI > a.den.asI) then b.den else a.den).asI = _
    by_cases hlt : b.den.asI > a.den.asI <;> simp [hlt]
   rw [e] at this;exact this
  ·cases h
theorem zJO {f : AV → AV → Option AV} {g : Value → Value → Sem Value} {μ : Mu} (hf : ∀ x y v, f x y = some v → ∀ cx cy, VR μ x cx → VR μ y cy → ∀ w, ∃ c, (g cx cy).run P w = .ok c w ∧ VR μ v c) :
  ∀ (l : List AV) (x v : AV), zTt f x l = some v → ∀ (cx : Value) (cl : List Value), VR μ x cx → VRs μ l cl → ∀ w, ∃ c, (cl.foldlM g cx).run P w = .ok c w ∧ VR μ v c
 | [], x, v, h, cx, cl, hx, hl, w => by
  simp [zTt] at h; subst h; cases hl;exact ⟨cx, rfl, hx⟩
 | y :: l, x, v, h, cx, cl, hx, hl, w => by
  obtain ⟨cy, r, h1, h2, rfl⟩ := hl;simp only [zTt] at h;split at h
  ·rename_i z hz;obtain ⟨c, h3, h4⟩ := hf x y z hz cx cy hx h1 w;obtain ⟨c', h5, h6⟩ := zJO hf l z v h c r h4 h2 w;exact ⟨c', by simp only [List.foldlM_cons, Sem.run_bind, h3, Result.andThen_ok, h5], h6⟩
  ·cases h
theorem zTf {t : TypeId} {x v : AV} {H : Heap} (h : zWF P t x H = some v) {ts : Array TypeId} (hts : ts[0]? = some t) {μ : Mu} {w : World} (r : Rep μ H.get w) {cx : Value} (hx : VR μ x cx) (ty : TypeId) :
  ∃ y, (Builtin.len_ ts ty #[cx]).run P w = .ok y w ∧ VR μ v y := by
 unfold Builtin.len_;simp only [hts, List.getElem?_toArray, List.getElem?_cons_zero];unfold zWF at h;split at h
 ·rename_i s hu;cases h; cases hx;exact ⟨_, by simp only [Sem.run_bind, run_underlying hu, Result.andThen_ok, Sem.run_pure]; rfl, rfl⟩
 ·rename_i s hu;cases h; cases hx;refine ⟨.int .i64 (s.den.asS.length : Int), by simp only [Sem.run_bind, run_underlying hu, Result.andThen_ok, Sem.run_pure]; rfl, ?_⟩
  have := zCO μ .i64 (zCP s);rw [zA8] at this;exact this
 ·rename_i n e hu;cases h;refine ⟨_, ?_, rfl⟩;simp only [Sem.run_bind, run_underlying hu, Result.andThen_ok];cases cx <;> rfl
 ·rename_i a hu;split at h
  ·rename_i n e hua;cases h;refine ⟨_, ?_, rfl⟩;simp only [Sem.run_bind, run_underlying hu, Result.andThen_ok];cases cx <;> simp only [Sem.run_bind, run_underlying hua, Result.andThen_ok] <;> rfl
  ·cases h
 ·rename_i e hu;cases h; cases hx;exact ⟨_, by simp only [Sem.run_bind, run_underlying hu, Result.andThen_ok, Sem.run_pure]; rfl, rfl⟩
 ·rename_i e id off n cap hu;cases h;obtain ⟨p, m, q, rfl⟩ := hx.slice_some;have hm : m = n := by
   obtain ⟨L, hL, hc⟩ := hx;cases cap with
   | known q => cases hc; rfl
   | unk k => rcases hc with ⟨_, _, _, _, hc | ⟨h1, _, o, hc⟩⟩ <;> cases hc <;> first | rfl | exact h1.symm
  subst hm;exact ⟨_, by simp only [Sem.run_bind, run_underlying hu, Result.andThen_ok, Sem.run_pure]; rfl, rfl⟩
 ·rename_i e id k off n hu;cases h;obtain ⟨L, h1, h2, h3, h4, h5, h6, h7⟩ := hx;refine ⟨.int .i64 n.den.asI, ?_, zCO μ .i64 n⟩;have hn : ((n.den.asI.toNat : Nat) : Int) = n.den.asI := by omega
  rcases h7 with ⟨_, rfl | ⟨h0, o, rfl⟩⟩ | ⟨_, h0, rfl⟩
  ·simp only [Sem.run_bind, run_underlying hu, Result.andThen_ok, Sem.run_pure, hn]; rfl
  ·simp only [Sem.run_bind, run_underlying hu, Result.andThen_ok, Sem.run_pure, h0]; rfl
  ·simp only [Sem.run_bind, run_underlying hu, Result.andThen_ok, Sem.run_pure, h0]; rfl
 ·rename_i k e hu;cases h; cases hx;exact ⟨_, by simp only [Sem.run_bind, run_underlying hu, Result.andThen_ok, Sem.run_pure]; rfl, rfl⟩
 ·rename_i k e id hu;split at h
  ·rename_i es hg;cases h;obtain ⟨L, ents, clock, es', ⟨h1, hz⟩, h2, h3, h4⟩ := r.obj _ _ hg;obtain ⟨L', hL', rfl⟩ := hx;rw [h1] at hL'; cases hL';refine ⟨_, ?_, rfl⟩;have hlen : ents.size = es.length := by
    have := h4.1.length;simp at this;rw [this, h3.length_eq]
   simp only [Sem.run_bind, run_underlying hu, Result.andThen_ok];have hgo : (getObj L.b).run P w = .ok (.map ents clock) w := by simp [getObj, Sem.run, h2]
   simp only [hgo, Result.andThen_ok, Sem.run_pure, hlen];rfl
  ·cases h
 ·cases h
end
end Go.Proofs.YtenkabjkgngcdaaGreat.Ab
namespace Go.Proofs.YtenkabjkgngcdaaGreat.Ab
open Go
variable [Rho]
section
variable {P : Program}
theorem zKk {t : TypeId} {l c v : AV} {H H' : Heap} (h : zDd P t l c H = some (v, H')) {μ : Mu} {w : World} (r : Rep μ H.get w) (d : Dom μ H.next) {cl cc : Value} (hl : VR μ l cl) (hc : VR μ c cc) :
  ∃ μ' y w', (Instr.makeSlice t cl cc).run P w = .ok y w' ∧ VR μ' v y ∧ Evo μ H.get H.next w μ' H'.get H'.next w' := by
 unfold zDd at h;split at h
 ·rename_i e k1 n k2 m hu;cases hl; cases hc;split at h
  ·rename_i by' z hby hz
   split at h
   ·rename_i hb;obtain ⟨b1, b2, b3, b4, b5⟩ := hb;cases h;obtain ⟨i, hi, hib⟩ := zEw hby;obtain ⟨zv, k, z1, z2, z3, z4, z5⟩ := zFc hz μ w;have hti : ∀ w, (typeInfo e).run P w = .ok i w := fun w => run_typeInfo w hi;have w1 : IntKind.i64.wrap n = n := by simp [IntKind.wrap, IntKind.bits, IntKind.signed]; omega
    have w2 : IntKind.i64.wrap m = m := by simp [IntKind.wrap, IntKind.bits, IntKind.signed]; omega
    have hbig : (i.bytes : Int) * m ≤ 1024 * 4294967296 := Int.mul_le_mul (by omega) b3 (by omega) (by omega)
    have hcond : ¬ ((decide (m < 0) || decide ((i.bytes : Int) * m > 2 ^ 48)) = true ∨ decide (n < 0) = true ∨ decide (n > m) = true) := by simp; omega
    have he := zJB r d z5 b5 e (flats z);refine ⟨_, .slice (some ⟨w.heap.size, 0, none⟩) n.toNat m.toNat, _, ?_, ⟨⟨w.heap.size, 0, z.length, 1, z.length, false⟩, by simp [setMu], rfl⟩, he⟩
    have hz' := zMm zv.cells k m.toNat z3 z4;have hif : (((decide (m < 0) || decide ((i.bytes : Int) * m > 2 ^ 48)) || decide (n < 0)) || decide (n > m)) = false := by simp; omega
    simp only [Instr.makeSlice, Sem.run_bind, run_underlying hu, Result.andThen_ok, asInt, asIntOf, Sem.run_pure, hti, w1, w2];simp only [hif, Bool.false_eq_true, if_false, Sem.run_bind, run_askRoom, Result.andThen_ok, zAt z2];by_cases h0 : m.toNat * k = 0
    ·have hm0 : m.toNat = 0 := by
      rcases Nat.mul_eq_zero.1 h0 with h | h
      ·exact h
      ·omega
     simp only [if_pos h0, Sem.run_bind, Sem.run_pure, Result.andThen_ok];rw [hm0];have e1 : ∀ g : Nat → Value, Array.map g (Array.range 0) = #[] := fun g => Array.eq_empty_of_size_eq_zero (by simp)
     simp [newRow, e1]
    ·simp only [if_neg h0, Sem.run_bind, z1, Sem.run_pure, Result.andThen_ok];have e2 : (Array.range (m.toNat * k)).map (fun i => zv.cells[i % zv.cells.size]!) = (List.flatten (List.replicate m.toNat zv.cells.toList)).toArray := by
      apply Array.ext'; rw [hz']
     rw [e2];simp [newRow]
   ·cases h
  ·cases h
 ·cases h
theorem zKj {t : TypeId} {l c v : AV} {q : Tm} {H H' : Heap} (h : zDQ P t l c H = some (q, v, H')) (hq : q.den.asB = true) {μ : Mu} {w : World} (r : Rep μ H.get w) (d : Dom μ H.next) {cl cc : Value} (hl : VR μ l cl) (hc : VR μ c cc) :
  ∃ μ' y w', (Instr.makeSlice t cl cc).run P w = .ok y w' ∧ VR μ' v y ∧ Evo μ H.get H.next w μ' H'.get H'.next w' := by
 unfold zDQ at h;split at h
 ·rename_i e k1 n k2 mt hu;split at h
  ·rename_i by' k zc hby hz
   cases hcond : (eqZ n 0 && Nat.ble by' 1024) with
   | false => rw [hcond] at h; cases h
   | true =>
    rw [hcond] at h;cases h;obtain ⟨b1, b2⟩ := Bool.and_eq_true_iff.1 hcond;obtain rfl := zOm _ _ b1;have b2 := Nat.le_of_ble_eq_true b2;obtain ⟨m, rfl⟩ : ∃ m, cc = .int k2 m := ⟨_, hc⟩;have hm : mt.den.asI = m := by cases hc; rfl
    cases hl;have b3 : 0 ≤ m ∧ m ≤ 4294967296 := by
     have h1 : (decide ((0 : Int) ≤ mt.den.asI) && decide (mt.den.asI ≤ 4294967296)) = true := hq;rw [hm] at h1;simpa using h1
    obtain ⟨i, hi, hib⟩ := zEw hby;obtain ⟨zv, kk, z1, z2, z3, z4, z5⟩ := zFc hz μ w;have hk1 : kk = 1 := by
     have := z5.length;simp at this; omega
    subst hk1;have hti : ∀ w, (typeInfo e).run P w = .ok i w := fun w => run_typeInfo w hi;have w1 : IntKind.i64.wrap 0 = 0 := by decide
    have w2 : IntKind.i64.wrap m = m := by simp [IntKind.wrap, IntKind.bits, IntKind.signed]; omega
    have hbig : (i.bytes : Int) * m ≤ 1024 * 4294967296 := Int.mul_le_mul (by omega) b3.2 (by omega) (by omega)
    have hif : (((decide (m < 0) || decide ((i.bytes : Int) * m > 2 ^ 48)) || decide ((0 : Int) < 0)) || decide ((0 : Int) > m)) = false := by simp; omega
    have hz' := zMm zv.cells 1 m.toNat z3 z4;have hsz : (List.flatten (List.replicate m.toNat zv.cells.toList)).length = m.toNat := by simp [z3]
    have he := zFP r d (Plus.refl w (.cells (List.flatten (List.replicate m.toNat zv.cells.toList)).toArray e)) (.seq [.ki k] (.lcut (.cb false) (.ci 0) (.ci 0)) true) ⟨w.heap.size, 0, m.toNat, 1, 0, false⟩ rfl
     (fun μ' _ hμ => ⟨_, hμ, ⟨rfl, rfl⟩, Nat.zero_le _, .inr ⟨rfl, (List.flatten (List.replicate m.toNat zv.cells.toList)).toArray, e, 0, 0, by simp, fun _ => by show 0 + m.toNat * 1 ≤ (List.flatten (List.replicate m.toNat zv.cells.toList)).toArray.size; rw [List.size_toArray, hsz]; omega, fun _ => .inr (Nat.le_refl _), fun i hi => absurd hi (Nat.not_lt_zero i)⟩⟩)
    refine ⟨_, .slice (some ⟨w.heap.size, 0, none⟩) 0 m.toNat, _, ?_, ⟨⟨w.heap.size, 0, m.toNat, 1, 0, false⟩, by simp [setMu], rfl, by decide, Int.le_refl 0, Int.le_refl 0, ⟨Nat.le_refl 0, Nat.zero_le _⟩, .inl ⟨rfl, .inl rfl⟩⟩, he⟩
    simp only [Instr.makeSlice, Sem.run_bind, run_underlying hu, Result.andThen_ok, asInt, asIntOf, Sem.run_pure, hti, w1, w2];simp only [hif, Bool.false_eq_true, if_false, Sem.run_bind, run_askRoom, Result.andThen_ok, zAt z2];by_cases h0 : m.toNat * 1 = 0
    ·have hm0 : m.toNat = 0 := by omega
     simp only [if_pos h0, Sem.run_bind, Sem.run_pure, Result.andThen_ok];rw [hm0];have e1 : ∀ g : Nat → Value, Array.map g (Array.range 0) = #[] := fun g => Array.eq_empty_of_size_eq_zero (by simp)
     simp [newRow, e1]
    ·simp only [if_neg h0, Sem.run_bind, z1, Sem.run_pure, Result.andThen_ok];have e2 : (Array.range (m.toNat * 1)).map (fun i => zv.cells[i % zv.cells.size]!) = (List.flatten (List.replicate m.toNat zv.cells.toList)).toArray := by
      apply Array.ext'; rw [hz']
     rw [e2];simp [newRow]
  ·cases h
 ·cases h
theorem zI4 {x v : AV} {xt as_ : TypeId} {ok : Bool} (h : zFB P x as_ ok = some v) {μ : Mu} {c : Value} (hx : VR μ x c) (w : World) : ∃ y, (Instr.typeAssert c xt as_ ok).run P w = .ok y w ∧ VR μ v y := by
 have holds : ∀ (u : AV) (cu : Value), VR μ u cu → some (if ok then AV.tuple [u, .bool true] else u) = some v → VR μ v (if ok then .tuple #[cu, .bool true] else cu) := fun u cu hu e => by
  cases e;cases ok
  ·exact hu
  ·exact ⟨[cu, .bool true], ⟨cu, [.bool true], hu, ⟨.bool true, [], rfl, rfl, rfl⟩, rfl⟩, rfl⟩
 have fails : (if ok then match zKh P as_ with | some z => some (AV.tuple [z, .bool false]) | none => none else none) = some v → ok = true ∧ ∃ z, (zeroValue as_).run P w = .ok z w ∧ VR μ v (.tuple #[z, .bool false]) := fun e => by
  cases ok with
  | false => simp at e
  | true =>
   simp only [if_true] at e;split at e
   ·rename_i z hz;cases e;obtain ⟨cz, h1, h2⟩ := zE5 hz w;exact ⟨rfl, cz, h1, [cz, .bool false], ⟨cz, [.bool false], zJ8 μ cz z h2, ⟨.bool false, [], rfl, rfl, rfl⟩, rfl⟩, rfl⟩
   ·cases e
 unfold zFB at h;simp only at h;split at h
 ·rename_i ms hu;cases hx;obtain ⟨rfl, z, h1, h2⟩ := fails h;exact ⟨_, by simp only [Instr.typeAssert, Sem.run_bind, run_underlying hu, Result.andThen_ok, if_true, h1, Sem.run_pure], h2⟩
 ·rename_i want t u hu;split at h
  ·rename_i i hi;obtain ⟨cu, hcu, rfl⟩ := hx;have hti : ∀ w, (typeInfo t).run P w = .ok i w := fun w => run_typeInfo w hi;split at h
   ·rename_i hm;refine ⟨_, ?_, holds (.iface t u) (.iface t cu) ⟨cu, hcu, rfl⟩ h⟩;simp only [Instr.typeAssert, Sem.run_bind, run_underlying hu, Result.andThen_ok, hti, hm, Sem.run_pure]
   ·rename_i m hm;obtain ⟨rfl, z, h1, h2⟩ := fails h;exact ⟨_, by simp only [Instr.typeAssert, Sem.run_bind, run_underlying hu, Result.andThen_ok, hti, hm, if_true, h1, Sem.run_pure], h2⟩
  ·cases h
 ·rename_i dd hni hu;cases hx;obtain ⟨rfl, z, h1, h2⟩ := fails h;refine ⟨_, ?_, h2⟩;simp only [Instr.typeAssert, Sem.run_bind, run_underlying hu, Result.andThen_ok];cases dd <;> first | (exact absurd rfl (hni _)) | (simp only [if_true, Sem.run_bind, h1, Result.andThen_ok, Sem.run_pure])
 ·rename_i dd t u hni hu;obtain ⟨cu, hcu, rfl⟩ := hx;split at h
  ·rename_i ht;refine ⟨_, ?_, holds u cu hcu h⟩;simp only [Instr.typeAssert, Sem.run_bind, run_underlying hu, Result.andThen_ok];cases dd <;> first | (exact absurd rfl (hni _)) | (simp only [if_pos ht, Sem.run_pure])
  ·rename_i ht;obtain ⟨rfl, z, h1, h2⟩ := fails h;refine ⟨_, ?_, h2⟩;simp only [Instr.typeAssert, Sem.run_bind, run_underlying hu, Result.andThen_ok];cases dd <;> first | (exact absurd rfl (hni _)) | (simp only [if_neg ht, if_true, Sem.run_bind, h1, Result.andThen_ok, Sem.run_pure])
 ·cases h
end
end Go.Proofs.YtenkabjkgngcdaaGreat.Ab
namespace Go.Proofs.YtenkabjkgngcdaaGreat.Ab
open Go
variable [Rho]
section
variable {P : Program}
def zEh : List (Tm × AV) → Option AV
 | [] => none
 | p :: l => bif p.1.den.asB then some p.2 else zEh l
theorem zJH {n m : Tm} (h : (zJI n m).den.asB = true) : 0 ≤ n.den.asI ∧ n.den.asI < m.den.asI := by
 unfold zJI at h;rw [zBD, zAz, zAz, Bool.and_eq_true] at h;exact ⟨of_decide_eq_true h.1, of_decide_eq_true h.2⟩
theorem zI0 {lo hi len : Tm} (h : (zL3 lo hi len).den.asB = true) : 0 ≤ lo.den.asI ∧ lo.den.asI ≤ hi.den.asI ∧ hi.den.asI ≤ len.den.asI := by
 unfold zL3 at h;rw [zBD, zBD, zAz, zAz, zAz, Bool.and_eq_true, Bool.and_eq_true] at h;exact ⟨of_decide_eq_true h.1.1, of_decide_eq_true h.1.2, of_decide_eq_true h.2⟩
theorem zMr (x : Tm) : (zCP x).den.asI = (x.den.asS.length : Int) := by rw [zA8]; rfl
theorem zTk {t : TypeId} {x i v : AV} {o : Tm} (h : zWS P t x i = some (o, v)) {μ : Mu} {c j : Value} (hx : VR μ x c) (hi : VR μ i j) (ho : o.den.asB = true) (w : World) : ∃ y, (Instr.index t c j).run P w = .ok y w ∧ VR μ v y := by
 unfold zWS at h;cases hs : (zJF x || zJF i) with
 | false => simp [hs] at h
 | true =>
  simp only [hs, cond_true] at h;split at h
  ·rename_i k n s hn ht hs';cases h;obtain ⟨h1, h2⟩ := zJH ho;rw [zMr] at h2;cases hx.tmS hs'; cases hi.tmI hn;obtain ⟨b, hb⟩ : ∃ b, s.den.asS[n.den.asI.toNat]? = some b := ⟨_, List.getElem?_eq_getElem (by omega)⟩
   have hA : zJK P t (.str s.den.asS) (.int k n.den.asI) = some (.int .u8 (b.toNat : Int)) := by
    simp [zJK, ht, h1, hb]
   obtain ⟨y, e1, e2⟩ := zH1 (P := P) hA (μ := μ) (c := .string ⟨s.den.asS.toArray⟩) (j := .int k n.den.asI) rfl rfl w;refine ⟨y, e1, ?_⟩;cases e2;show Value.int .u8 (b.toNat : Int) = .int .u8 (zDm s.den.asS n.den.asI.toNat);simp [zDm, List.getD_eq_getElem?_getD, hb]
  ·cases h
theorem zEg (f : Nat → AV) (n : Tm) : ∀ (m : Nat) (l : List (Tm × AV)) (v : AV), zEh (places f n m l) = some v → (∃ j, j < m ∧ n.den.asI = (j : Int) ∧ v = f j) ∨ ((∀ j : Nat, j < m → n.den.asI ≠ (j : Int)) ∧ zEh l = some v)
 | 0, l, v, h => .inr ⟨fun j hj => absurd hj (Nat.not_lt_zero _), h⟩
 | m + 1, l, v, h => by
  rcases zEg f n m _ v h with ⟨j, h1, h2, h3⟩ | ⟨h1, h2⟩
  ·exact .inl ⟨j, by omega, h2, h3⟩
  ·simp only [zEh] at h2;rw [zAz] at h2;cases hc : (iop .eql .i64 n.den.asI (Tm.ci (m : Int)).den.asI).asB with
   | true =>
    rw [hc] at h2;simp at h2;have : n.den.asI = (m : Int) := by
     have hd : (n.den.asI == (m : Int)) = true := hc;exact eq_of_beq hd
    exact .inl ⟨m, by omega, this, h2.symm⟩
   | false =>
    rw [hc] at h2;simp at h2;have : n.den.asI ≠ (m : Int) := by
     have hd : (n.den.asI == (m : Int)) = false := hc;exact fun e => by rw [e] at hd; simp at hd
    refine .inr ⟨fun j hj => ?_, h2⟩;by_cases e : j = m
    ·subst e; exact this
    ·exact h1 j (by omega)
theorem zTl {t : TypeId} {x i v : AV} {o : List (Tm × AV)} (h : zWT P t x i = some o) (hv : zEh o = some v) {μ : Mu} {c j : Value} (hx : VR μ x c) (hi : VR μ i j) (w : World) : ∃ y, (Instr.index t c j).run P w = .ok y w ∧ VR μ v y := by
 unfold zWT at h;split at h
 ·rename_i cs k n;split at h
  ·rename_i len e ht;split at h
   ·rename_i m hm;cases hb : (List.range len).all (fun j => (zHk P e cs (j * m)).isSome) with
    | false => rw [hb] at h; cases h
    | true =>
     rw [hb] at h;simp only [cond_true, Option.some.injEq] at h;subst h;rcases zEg _ _ _ _ _ hv with ⟨q, q1, q2, rfl⟩ | ⟨_, q2⟩
     ·cases hi;have hp := List.all_eq_true.1 hb q (List.mem_range.2 q1);obtain ⟨u, hu⟩ := Option.isSome_iff_exists.1 hp;have hA : zJK P t (.agg cs) (.int k n.den.asI) = some u := by
       simp only [zJK, ht, hm, q2];rw [if_pos ⟨by omega, by omega⟩]; simpa using hu
      rw [hu];exact zH1 hA hx rfl w
     ·cases q2
   ·cases h
  ·cases h
 ·cases h
theorem zKm {t : TypeId} {x i v : AV} {o : List (Tm × AV)} (h : zH0 P t x i = some o) (hv : zEh o = some v) {μ : Mu} {c j : Value} (hx : VR μ x c) (hi : VR μ i j) (w : World) : ∃ y, (Instr.indexAt t c j).run P w = .ok y w ∧ VR μ v y := by
 unfold zH0 at h;split at h
 ·rename_i id off;split at h
  ·rename_i k n len e ht;split at h
   ·rename_i m hm;cases h;rcases zEg _ _ _ _ _ hv with ⟨q, q1, q2, rfl⟩ | ⟨_, q2⟩
    ·cases hi;have hA : zCx P t (.ptr id off) (.int k n.den.asI) = some (.ptr id (off + q * m)) := by
      simp only [zCx, ht, hm, q2];rw [if_pos ⟨by omega, by omega⟩]; simp
     exact zDE hA hx rfl w
    ·cases q2
   ·cases h
  ·cases h
 ·rename_i id off len cap;split at h
  ·rename_i k n e ht;split at h
   ·rename_i m hm;cases h;rcases zEg _ _ _ _ _ hv with ⟨q, q1, q2, rfl⟩ | ⟨_, q2⟩
    ·cases hi;have hA : zCx P t (.slice id off len cap) (.int k n.den.asI) = some (.ptr id (off + q * m)) := by
      simp only [zCx, ht, hm, q2];rw [if_pos ⟨by omega, by omega⟩]; simp
     exact zDE hA hx rfl w
    ·cases q2
   ·cases h
  ·cases h
 ·rename_i id k off len;split at h
  ·rename_i kd n e hn ht;split at h
   ·rename_i hk;cases h;simp only [zEh] at hv;cases hc : (zJI n len).den.asB with
    | false => rw [hc] at hv; simp at hv
    | true =>
     rw [hc] at hv; simp at hv; subst hv;obtain ⟨b1, b2⟩ := zJH hc;cases hi.tmI hn;obtain ⟨l, h1, h2, h3, h4, h5, ⟨h6, h6'⟩, h7⟩ := hx;have hp : (zMb off n).den.asI = off.den.asI + n.den.asI := zEL off n;have htn : (off.den.asI + n.den.asI).toNat = off.den.asI.toNat + n.den.asI.toNat := by omega
     rcases h7 with ⟨_, rfl | ⟨h0, _⟩⟩ | ⟨_, h0, _⟩
     ·refine ⟨.pointer (some ⟨l.b, l.s + (off.den.asI.toNat * k + n.den.asI.toNat * k), none⟩), ?_, l, h1, h2, by rw [hp]; omega, ?_, ?_⟩
      ·have hb : 0 ≤ n.den.asI ∧ n.den.asI < ((len.den.asI.toNat : Nat) : Int) := ⟨b1, by omega⟩
       simp only [Instr.indexAt, asIntOf, Sem.run_bind, Sem.run_pure, run_underlying ht, Result.andThen_ok, if_pos hb, zAt hk, Sem.run_ite, zBp];simp only [Nat.add_assoc]
      ·rw [hp, htn];refine Nat.le_trans ?_ h6;rw [← Nat.succ_mul];exact Nat.mul_le_mul_right k (by omega)
      ·rw [hp, htn, Nat.add_mul]; simp
     ·omega
     ·omega
   ·cases h
  ·cases h
 ·cases h
theorem zOC {d : Tm} {x : Option AV} {t : Tm} (h : tmO d x = some t) {μ : Mu} {c : Option Value} (hx : VO μ x c) : (x = none ∧ c = none ∧ t = d) ∨ ∃ k, c = some (.int k t.den.asI) := by
 cases x with
 | none =>
  cases c with
  | none => simp [tmO] at h; exact .inl ⟨rfl, rfl, h.symm⟩
  | some _ => exact hx.elim
 | some v =>
  cases c with
  | none => exact hx.elim
  | some c =>
   simp only [tmO] at h;split at h
   ·rename_i k n hn;cases h;exact .inr ⟨k, by rw [VR.tmI (show VR μ v c from hx) hn]⟩
   ·cases h
theorem zLy {lo hi : Option AV} {clo chi : Option Value} {μ : Mu} (hlo : VO μ lo clo) (hhi : VO μ hi chi) {dl dh l h : Tm} (h1 : tmO dl lo = some l) (h2 : tmO dh hi = some h) (hd : dl.den.asI = 0) {len cap : Nat} (hn : dh.den.asI = (len : Int))
  (b : 0 ≤ l.den.asI ∧ l.den.asI ≤ h.den.asI ∧ h.den.asI ≤ (len : Int)) (hc : len ≤ cap) :
  ∃ lo' hi' : Option AV, VO μ lo' clo ∧ VO μ hi' chi ∧ zAC hi' len len = some h.den.asI.toNat ∧ zAC lo' h.den.asI.toNat 0 = some l.den.asI.toNat ∧ zAC hi' cap len = some h.den.asI.toNat := by
 have hH : ∃ hi' : Option AV, VO μ hi' chi ∧ zAC hi' len len = some h.den.asI.toNat ∧ zAC hi' cap len = some h.den.asI.toNat := by
  rcases zOC h2 hhi with ⟨rfl, rfl, rfl⟩ | ⟨k, rfl⟩
  ·refine ⟨none, trivial, ?_, ?_⟩ <;> (simp only [zAC]; congr 1; omega)
  ·refine ⟨some (.int k h.den.asI), rfl, ?_, ?_⟩ <;> (simp only [zAC]; rw [if_pos ⟨by omega, by omega⟩])
 have hL : ∃ lo' : Option AV, VO μ lo' clo ∧ zAC lo' h.den.asI.toNat 0 = some l.den.asI.toNat := by
  rcases zOC h1 hlo with ⟨rfl, rfl, rfl⟩ | ⟨k, rfl⟩
  ·refine ⟨none, trivial, ?_⟩; simp only [zAC]; congr 1; omega
  ·refine ⟨some (.int k l.den.asI), rfl, ?_⟩; simp only [zAC]; rw [if_pos ⟨by omega, by omega⟩]
 obtain ⟨hi', a1, a2, a3⟩ := hH;obtain ⟨lo', c1, c2⟩ := hL;exact ⟨lo', hi', c1, a1, a2, c2, a3⟩
theorem zS7 {t : TypeId} {x v : AV} {lo hi : Option AV} {o : Tm} (h : zUc P t x lo hi = some (o, v)) (ho : o.den.asB = true) {μ : Mu} {w : World} {c : Value} {clo chi : Option Value} (hx : VR μ x c) (hlo : VO μ lo clo) (hhi : VO μ hi chi) :
  ∃ y, (Instr.sliceAt t c clo chi none).run P w = .ok y w ∧ VR μ v y := by
 unfold zUc at h;split at h
 ·rename_i id k off len;split at h
  ·rename_i e l h' ht hl hh;split at h
   ·rename_i hk;cases h;obtain ⟨b1, b2, b3⟩ := zI0 ho;obtain ⟨L, h1, h2, h3, h4, h5, ⟨h6, h6'⟩, h7⟩ := hx;have hp : (zMb off l).den.asI = off.den.asI + l.den.asI := zEL off l;have hm : (zR0 h' l).den.asI = h'.den.asI - l.den.asI := zTb h' l;have t1 : (off.den.asI + l.den.asI).toNat = off.den.asI.toNat + l.den.asI.toNat := by omega
    have t2 : (h'.den.asI - l.den.asI).toNat = h'.den.asI.toNat - l.den.asI.toNat := by omega
    have g1 : (off.den.asI.toNat + l.den.asI.toNat + (h'.den.asI.toNat - l.den.asI.toNat)) * k ≤ L.ext := Nat.le_trans (Nat.mul_le_mul_right k (by omega)) h6
    obtain ⟨lo', hi', c1, c2, c3, c4, _⟩ := zLy hlo hhi hl hh rfl (len := len.den.asI.toNat) (cap := len.den.asI.toNat) (by omega) ⟨b1, b2, by omega⟩ (Nat.le_refl _)
    rcases h7 with ⟨hz, rfl | ⟨h0, o', rfl⟩⟩ | ⟨hz, h0, rfl⟩
    ·have hb := zAV (P := P) c1 c2 true (cap := L.cap - off.den.asI.toNat) c3 (by omega) c4 w
     refine ⟨.slice (if L.cap - off.den.asI.toNat = l.den.asI.toNat then some ⟨L.b, L.s + off.den.asI.toNat * k, none⟩ else some ⟨L.b, L.s + off.den.asI.toNat * k + l.den.asI.toNat * k, none⟩) (h'.den.asI.toNat - l.den.asI.toNat) (L.cap - off.den.asI.toNat - l.den.asI.toNat), ?_, L, h1, h2, h3, by rw [hp]; omega, by rw [hm]; omega, by rw [hp, hm, t1, t2]; exact ⟨g1, by omega⟩, ?_⟩
     ·simp only [Instr.sliceAt, Sem.run_bind, run_underlying ht, Result.andThen_ok, Instr.slice, hb, zAt hk, Sem.run_pure, Option.map_some, zBp]
     ·rw [hp, hm, t1, t2];by_cases hcl : L.cap - off.den.asI.toNat = l.den.asI.toNat
      ·refine .inl ⟨hz, .inr ⟨by omega, ⟨L.b, L.s + off.den.asI.toNat * k, none⟩, ?_⟩⟩
       rw [if_pos hcl]; congr 1 <;> omega
      ·refine .inl ⟨hz, .inl ?_⟩;rw [if_neg hcl, Nat.add_mul, Nat.add_assoc];congr 1; omega
    ·have e0 : len.den.asI.toNat = 0 := by omega
     rw [e0] at c3;have hb := zAV (P := P) c1 c2 true (cap := 0) c3 (Nat.le_refl _) c4 w;have eh : h'.den.asI.toNat = 0 := by omega
     have el : l.den.asI.toNat = 0 := by omega
     rw [eh, el] at hb;refine ⟨.slice (some o') 0 0, ?_, L, h1, h2, h3, by rw [hp]; omega, by rw [hm]; omega, by rw [hp, hm, t1, t2]; exact ⟨g1, by omega⟩, .inl ⟨hz, .inr ⟨by rw [hm]; omega, o', rfl⟩⟩⟩
     simp only [Instr.sliceAt, Sem.run_bind, run_underlying ht, Result.andThen_ok, Instr.slice, hb, zAt hk, Sem.run_pure]; rfl
    ·have e0 : len.den.asI.toNat = 0 := by omega
     rw [e0] at c3;have hb := zAV (P := P) c1 c2 true (cap := 0) c3 (Nat.le_refl _) c4 w;have eh : h'.den.asI.toNat = 0 := by omega
     have el : l.den.asI.toNat = 0 := by omega
     rw [eh, el] at hb;refine ⟨.slice none 0 0, ?_, L, h1, h2, h3, by rw [hp]; omega, by rw [hm]; omega, by rw [hp, hm, t1, t2]; exact ⟨g1, by omega⟩, .inr ⟨hz, by rw [hm]; omega, rfl⟩⟩
     simp only [Instr.sliceAt, Sem.run_bind, run_underlying ht, Result.andThen_ok, Instr.slice, hb, zAt hk, Sem.run_pure]; rfl
   ·cases h
  ·cases h
 ·rename_i x' _;cases hs : (zJF x || xHp lo || xHp hi) with
  | false => simp [hs] at h
  | true =>
   simp only [hs, cond_true] at h;split at h
   ·rename_i s hs';split at h
    ·rename_i l h' ht hl hh;cases h;obtain ⟨b1, b2, b3⟩ := zI0 ho;cases hx.tmS hs';rw [zMr] at b3;obtain ⟨lo', hi', c1, c2, c3, c4, _⟩ := zLy hlo hhi hl hh rfl (len := s.den.asS.length) (cap := s.den.asS.length) (zMr s) ⟨b1, b2, b3⟩ (Nat.le_refl _);have hb := zAV (P := P) c1 c2 false c3 (Nat.le_refl _) c4 w;refine ⟨.string ⟨(zBl s.den.asS l.den.asI h'.den.asI).toArray⟩, ?_, rfl⟩;simp only [Instr.sliceAt, Sem.run_bind, run_underlying ht, Result.andThen_ok, Instr.slice];have e2 : (⟨s.den.asS.toArray⟩ : ByteArray).size = s.den.asS.length := rfl;simp only [Option.isSome_none, Bool.false_eq_true, if_false, e2, Sem.run_bind, Sem.run_pure, Result.andThen_ok, hb, zGQ];rfl
    ·cases h
   ·cases h
end
end Go.Proofs.YtenkabjkgngcdaaGreat.Ab
namespace Go.Proofs.YtenkabjkgngcdaaGreat.Ab
open Go
variable [Rho]
section
variable {P : Program}
def DefR (P : Program) (μ : Mu) (x : FuncId × List AV) (d : Deferred) : Prop :=
 ∃ fv cap cargs, d.target = .fn fv cap ∧ (∀ w, (invoke d.target d.args).run P w = .ok (.enter x.1 (List.toArray cargs)) w) ∧ VRs μ x.2 cargs
def xHg (P : Program) (o : Oper) (a : Act) (w : World) (μ : Mu) (H : Heap) : AR → Prop
 | .val v H' => ∃ μ' c w', ((execOp a.eval o).run P w = .ok (.value c) w' ∨ ((execOp a.eval o).run P w = .ok .skip w' ∧ c = undef)) ∧ VR μ' v c ∧ Evo μ H.get H.next w μ' H'.get H'.next w'
 | .many l H' => ∀ v, zEh l = some v → ∃ μ' c w', ((execOp a.eval o).run P w = .ok (.value c) w' ∨ ((execOp a.eval o).run P w = .ok .skip w' ∧ c = undef)) ∧ VR μ' v c ∧ Evo μ H.get H.next w μ' H'.get H'.next w'
 | .call f args => ∃ cargs : List Value, (execOp a.eval o).run P w = .ok (.enter f cargs.toArray) w ∧ VRs μ args cargs
 | .ask q v H' => q.den.asB = true → ∃ μ' c w', ((execOp a.eval o).run P w = .ok (.value c) w' ∨ ((execOp a.eval o).run P w = .ok .skip w' ∧ c = undef)) ∧ VR μ' v c ∧ Evo μ H.get H.next w μ' H'.get H'.next w'
 | .dfr f args => ∃ d, (execOp a.eval o).run P w = .ok (.defer d) w ∧ DefR P μ (f, args) d
structure NoCount (P : Program) : Prop where
 cnt : ∀ (f : FuncId) (fn : Func), P.funcs[f]? = some fn → (fn.name == "runtime.NumGoroutine") = false
 mixed : P.follows .mixedOrders = true
theorem zFe (μ : Mu) : VR μ zBK undef := ⟨[], rfl, rfl⟩
theorem zAw {o : Oper} {a : Act} {w : World} {μ : Mu} {H : Heap} (r : Rep μ H.get w) (d : Dom μ H.next) {v : AV} {c : Value} (h : (execOp a.eval o).run P w = .ok (.value c) w) (hv : VR μ v c) : xHg P o a w μ H (.val v H) :=
 ⟨μ, c, w, .inl h, hv, Evo.refl r d⟩
theorem zBx {s : Sem Value} {w w' : World} {c : Value} (h : s.run P w = .ok c w') : (do pure (.value (← s)) : Sem Next).run P w = .ok (.value c) w' := by
 simp only [Sem.run_bind, h, Result.andThen_ok, Sem.run_pure]
theorem zY9 {s : Sem Unit} {w w' : World} (h : s.run P w = .ok () w') : (do s; pure .skip : Sem Next).run P w = .ok .skip w' := by
 simp only [Sem.run_bind, h, Result.andThen_ok, Sem.run_pure]
theorem zIa (hn : NoCount P) {f : FuncId} (h : zFQ P f = true) (args : Array Value) (w : World) : (callFunc f args).run P w = .ok (.enter f args) w := by
 unfold zFQ at h;split at h
 ·rename_i fn hf;have h1 := hn.cnt f fn hf;have h2 : fn.body.isNone = false := by cases hb : fn.body <;> simp [hb] at h ⊢
  simp only [callFunc, Sem.run_bind, run_program, Result.andThen_ok, hf, h1, h2, Bool.false_eq_true, if_false, Sem.run_pure]
 ·cases h
theorem zKa (hn : NoCount P) {f : AV} {args : List AV} {g : FuncId} {out : List AV} (h : zM7 f args = some (g, out)) (he : zFQ P g = true) {μ : Mu} {cf : Value} {ca : List Value} (hf : VR μ f cf) (ha : VRs μ args ca) :
  ∃ (fv : Fn) (cap : Array Value) (al : Array Value) (cargs : List Value), (∀ w, (Deferred.ofValue cf ca.toArray).run P w = .ok { target := .fn fv cap, args := al } w) ∧ (∀ w, (invoke (.fn fv cap) al).run P w = .ok (.enter g cargs.toArray) w) ∧ VRs μ out cargs := by
 unfold zM7 at h;split at h
 ·rename_i k first captured
  cases h;obtain ⟨x, y, h1, h2, rfl⟩ := hf;refine ⟨.func g, y.toArray, x.toArray ++ ca.toArray, x ++ ca ++ y, fun w => rfl, fun w => ?_, (h1.append ha).append h2⟩;have := zIa hn he (x.toArray ++ ca.toArray ++ y.toArray) w;simp only [invoke];rw [this];simp
 ·cases h
theorem zP1 (hn : NoCount P) {r : AV} {name : String} {args : List AV} {g : FuncId} {out : List AV} (h : zP2 P r name args = some (g, out)) (he : zFQ P g = true) {μ : Mu} {cr : Value} {ca : List Value} (hr : VR μ r cr) (ha : VRs μ args ca) (w : World) :
  ∃ cargs : List Value, (invoke (.fn (.method name) #[]) (#[cr] ++ ca.toArray)).run P w = .ok (.enter g cargs.toArray) w ∧ VRs μ out cargs := by
 unfold zP2 at h;split at h
 ·rename_i t v;obtain ⟨cv, hv, rfl⟩ := hr;split at h
  ·rename_i i hi;have hti : ∀ w, (typeInfo t).run P w = .ok i w := fun w => run_typeInfo w hi;split at h
   ·rename_i m hm;split at h
    ·rename_i hp;have hpe : m.path.toList = [] := by
      have : m.path = #[] := by simpa using hp
      simp [this]
     have hx : (#[Value.iface t cv] ++ ca.toArray)[0]? = some (.iface t cv) := by simp
     have hex : (#[Value.iface t cv] ++ ca.toArray).extract 1 (#[Value.iface t cv] ++ ca.toArray).size = ca.toArray := by
      apply Array.ext'; simp
     have key : ∀ (pr : Bool), m.func = some (g, pr) → (∀ w, (receiverAt t (.val cv) pr (if m.path.isEmpty then some ((name.splitOn ".").getLastD name) else none)).run P w = .ok cv w) → out = v :: args →
       ∃ cargs : List Value, (invoke (.fn (.method name) #[]) (#[Value.iface t cv] ++ ca.toArray)).run P w = .ok (.enter g cargs.toArray) w ∧ VRs μ out cargs := by
      intro pr hf hrec ho;subst ho;refine ⟨cv :: ca, ?_, cv, ca, hv, ha, rfl⟩;have hfun := zIa hn he (#[cv] ++ ca.toArray) w;have hd : P.types.size + Made.depth = (P.types.size + 99) + 1 := rfl;have hmeth : (method (P.types.size + Made.depth) t cv name).run P w = .ok (g, cv) w := by
       rw [hd];unfold method;simp only [Sem.run_bind, Result.andThen_ok, hti, hm, hpe, follow, Sem.run_pure, hf, hrec]
      simp only [invoke, hx, hex, callMethod, Sem.run_bind, run_program, Result.andThen_ok, hmeth, hfun];simp
     split at h
     ·rename_i f e hf hu;cases h;exact key true hf (fun w => by simp only [receiverAt, Sem.run_bind, run_underlying hu, Result.andThen_ok, Place.get, Sem.run_pure]) rfl
     ·cases h
     ·rename_i f dd hnp hf hu;cases h;refine key false hf (fun w => ?_) rfl;simp only [receiverAt, Sem.run_bind, run_underlying hu, Result.andThen_ok];cases dd <;> first | (exact (hnp _ _ rfl rfl).elim) | (exact (hnp _ rfl).elim) | (simp only [Place.get, Sem.run_pure])
     ·cases h
    ·cases h
   ·cases h
  ·cases h
 ·cases h
end
end Go.Proofs.YtenkabjkgngcdaaGreat.Ab
namespace Go.Proofs.YtenkabjkgngcdaaGreat.Ab
open Go
variable [Rho]
section
variable {P : Program}
theorem ERs.nil {μ : Mu} {ents : List MapEntry} (h : ERs μ [] ents) : ents = [] := by
 have h1 : ents.map (·.key) = [] := h.1;simpa using h1
theorem ERs.cons {μ : Mu} {p : AV × AV} {es : List (AV × AV)} {ents : List MapEntry} (h : ERs μ (p :: es) ents) :
  ∃ x r, ents = x :: r ∧ VR μ p.1 x.key ∧ VR μ p.2 x.val ∧ ERs μ es r := by
 obtain ⟨h1, h2⟩ := h;cases ents with
 | nil =>
  obtain ⟨x, r, _, _, e⟩ := h1;simp at e
 | cons x r =>
  obtain ⟨k, l, a1, a2, e1⟩ := h1;obtain ⟨v, m, b1, b2, e2⟩ := h2;simp only [List.map_cons, List.cons.injEq] at e1 e2;obtain ⟨rfl, rfl⟩ := e1;obtain ⟨rfl, rfl⟩ := e2;exact ⟨x, r, rfl, a1, b1, a2, b2⟩
theorem ERs.mk {μ : Mu} {p : AV × AV} {es : List (AV × AV)} {x : MapEntry} {r : List MapEntry} (h1 : VR μ p.1 x.key) (h2 : VR μ p.2 x.val) (h : ERs μ es r) : ERs μ (p :: es) (x :: r) :=
 ⟨⟨_, _, h1, h.1, rfl⟩, ⟨_, _, h2, h.2, rfl⟩⟩
theorem zDt {μ : Mu} {t : TypeId} {x y : AV} {b : Tm} (h : eqA P zB0 t x y = some b) {cx cy : Value} (hx : VR μ x cx) (hy : VR μ y cy) (w : World) : (Op.equal t cx cy).run P w = .ok b.den.asB w :=
 zM3 zB0 t x y b h cx cy hx hy _ w (by decide)
theorem zCy {kt : TypeId} {key : AV} {es es' : List (AV × AV)} (p : es'.Perm es) : ∀ {l : List (AV × AV)}, zCz P kt key es = some l → ∃ l', zCz P kt key es' = some l' ∧ l'.Perm l := by
 induction p with
 | nil => intro l h; exact ⟨l, h, List.Perm.refl _⟩
 | cons x _ ih =>
  intro l h;simp only [zCz] at h ⊢;split at h
  ·rename_i q1 q2;cases h;obtain ⟨l', h1, h2⟩ := ih q2;exact ⟨x :: l', by rw [q1, h1], h2.cons x⟩
  ·rename_i q1 q2;cases h;obtain ⟨l', h1, h2⟩ := ih q2;exact ⟨l', by rw [q1, h1], h2⟩
  ·cases h
 | swap x y l0 =>
  intro l h;simp only [zCz] at h ⊢;split at h
  ·rename_i q1 q2;cases h;split at q2
   ·rename_i r1 r2;cases q2;exact ⟨_, by rw [q1, r1, r2], List.Perm.swap _ _ _⟩
   ·rename_i r1 r2;cases q2;exact ⟨_, by rw [q1, r1, r2], List.Perm.refl _⟩
   ·cases q2
  ·rename_i q1 q2;cases h;split at q2
   ·rename_i r1 r2;cases q2;exact ⟨_, by rw [q1, r1, r2], List.Perm.refl _⟩
   ·rename_i r1 r2;cases q2;exact ⟨_, by rw [q1, r1, r2], List.Perm.refl _⟩
   ·cases q2
  ·cases h
 | trans _ _ ih1 ih2 =>
  intro l h;obtain ⟨l1, h1, h2⟩ := ih2 h;obtain ⟨l2, h3, h4⟩ := ih1 h1;exact ⟨l2, h3, h4.trans h2⟩
theorem zDV {μ : Mu} {kt : TypeId} {key : AV} {ck : Value} (hk : VR μ key ck) (w : World) : ∀ (es : List (AV × AV)), zCz P kt key es = some [] → ∀ (ents : List MapEntry) (i : Nat), ERs μ es ents → (Instr.findAsking kt ck ents i).run P w = .ok none w
 | [], h, ents, i, he => by obtain rfl := he.nil; rfl
 | p :: es, h, ents, i, he => by
  obtain ⟨x, l, rfl, h1, h2, h3⟩ := he.cons;simp only [zCz] at h;split at h
  ·cases h
  ·rename_i hq hl;simp only [Option.some.injEq] at h; subst h;have := zDt hq hk h1 w;have e : (Instr.findAsking kt ck (x :: l) i).run P w = (Instr.findAsking kt ck l (i + 1)).run P w := by
    simp only [Instr.findAsking, Sem.run_bind, this, Result.andThen_ok];rfl
   rw [e];exact zDV hk w es hl l (i + 1) h3
  ·cases h
theorem zK0 {kt : TypeId} {key v : AV} : ∀ (es : List (AV × AV)), zCz P kt key es = some [] → es.map (zPi P kt key v) = es
 | [], _ => rfl
 | p :: es, h => by
  simp only [zCz] at h;split at h
  ·cases h
  ·rename_i hq hl;simp only [Option.some.injEq] at h; subst h;simp only [List.map_cons, zPi, hq, zK0 es hl]
  ·cases h
theorem zJL {μ : Mu} {kt : TypeId} {key v : AV} {ck cv : Value} (hk : VR μ key ck) (hv : VR μ v cv) (w : World) {e0 : AV × AV} : ∀ (es : List (AV × AV)), zCz P kt key es = some [e0] → ∀ (ents : List MapEntry) (i : Nat), ERs μ es ents →
  ∃ j e, (Instr.findAsking kt ck ents i).run P w = .ok (some (i + j, e.val)) w ∧ ents[j]? = some e ∧ VR μ e0.1 e.key ∧ VR μ e0.2 e.val ∧ ERs μ (es.map (zPi P kt key v)) (ents.modify j fun e => { e with key := ck, val := cv })
 | [], h, ents, i, he => by simp [zCz] at h
 | p :: es, h, ents, i, he => by
  obtain ⟨x, l, rfl, h1, h2, h3⟩ := he.cons;simp only [zCz] at h;split at h
  ·rename_i hq hl;simp only [Option.some.injEq, List.cons.injEq] at h;obtain ⟨rfl, rfl⟩ := h;have := zDt hq hk h1 w;refine ⟨0, x, ?_, rfl, h1, h2, ?_⟩
   ·simp only [Instr.findAsking, Sem.run_bind, this, Result.andThen_ok];rfl
   ·simp only [List.map_cons, zPi, hq];rw [zK0 (v := v) es hl];exact ERs.mk hk hv h3
  ·rename_i hq hl;simp only [Option.some.injEq] at h; subst h;have := zDt hq hk h1 w;have e : (Instr.findAsking kt ck (x :: l) i).run P w = (Instr.findAsking kt ck l (i + 1)).run P w := by
    simp only [Instr.findAsking, Sem.run_bind, this, Result.andThen_ok];rfl
   rw [e];obtain ⟨j, y, q1, q2, q3, q4, q5⟩ := zJL hk hv w es hl l (i + 1) h3;refine ⟨j + 1, y, by rw [q1, show i + 1 + j = i + (j + 1) by omega], q2, q3, q4, ?_⟩
   have e2 : zPi P kt key v p = p := by simp only [zPi, hq]
   rw [List.map_cons, e2];exact ERs.mk h1 h2 q5
  ·cases h
theorem zOh {μ : Mu} {kt : TypeId} {key : AV} {ck : Value} (hk : VR μ key ck) (w : World) (es es' : List (AV × AV)) (hp : es'.Perm es) (r : Option AV) (h : xDJ P kt key es = some r) (ents : List MapEntry) (he : ERs μ es' ents) :
  (r = none ∧ (Instr.findAsking kt ck ents 0).run P w = .ok none w) ∨ ∃ v j c, r = some v ∧ (Instr.findAsking kt ck ents 0).run P w = .ok (some (j, c)) w ∧ VR μ v c := by
 unfold xDJ at h;split at h
 ·rename_i hh;cases h;obtain ⟨l', h1, h2⟩ := zCy hp hh;obtain rfl := h2.eq_nil;exact .inl ⟨rfl, zDV hk w es' h1 ents 0 he⟩
 ·rename_i e hh;cases h;obtain ⟨l', h1, h2⟩ := zCy hp hh;obtain rfl := List.perm_singleton.1 h2;obtain ⟨j, y, q1, q2, q3, q4, q5⟩ := zJL hk hk w es' h1 ents 0 he;exact .inr ⟨_, _, _, rfl, q1, q4⟩
 ·cases h
mutual
theorem zNN {μ : Mu} : ∀ (a b : AV), plainEq a b = true → ∀ (c d : Value), VR μ a c → VR μ b d → c = d
 | .bool a, b, h, c, d, h1, h2 => by
  cases b <;> simp [plainEq] at h;subst h;exact (show c = _ from h1).trans (show d = _ from h2).symm
 | .int k a, b, h, c, d, h1, h2 => by
  cases b <;> simp [plainEq] at h;obtain ⟨rfl, rfl⟩ := h;exact (show c = _ from h1).trans (show d = _ from h2).symm
 | .str a, b, h, c, d, h1, h2 => by
  cases b <;> simp [plainEq] at h;subst h;exact (show c = _ from h1).trans (show d = _ from h2).symm
 | .agg a, b, h, c, d, h1, h2 => by
  cases b <;> simp [plainEq] at h;obtain ⟨x, h1, rfl⟩ := h1;obtain ⟨y, h2, rfl⟩ := h2;rw [zKT a _ h x y h1 h2]
 | .ptr _ _, b, h, _, _, _, _ | .nilPtr, b, h, _, _, _, _ | .slice _ _ _ _, b, h, _, _, _, _ | .nilSlice, b, h, _, _, _, _ | .map _, b, h, _, _, _, _ | .nilMap, b, h, _, _, _, _ | .func _ _ _, b, h, _, _, _, _ | .nilFunc, b, h, _, _, _, _ | .iface _ _, b, h, _, _, _, _ | .nilIface, b, h, _, _, _, _ | .tuple _, b, h, _, _, _, _ | .sbool _, b, h, _, _, _, _ | .sint _ _, b, h, _, _, _, _ | .sstr _, b, h, _, _, _, _ | .eptr _ _ _ _, b, h, _, _, _, _ | .sslice _ _ _ _, b, h, _, _, _, _ => by simp [plainEq] at h
theorem zKT {μ : Mu} : ∀ (a b : List AV), plainEq.plainEqs a b = true → ∀ (c d : List Value), VRs μ a c → VRs μ b d → c = d
 | [], b, h, c, d, h1, h2 => by
  cases b <;> simp [plainEq.plainEqs] at h;exact (show c = _ from h1).trans (show d = _ from h2).symm
 | a :: l, b, h, c, d, h1, h2 => by
  obtain ⟨x, r, k1, k2, rfl⟩ := h1;cases b with
  | nil => cases a <;> simp [plainEq.plainEqs] at h
  | cons b m =>
   obtain ⟨y, s, q1, q2, rfl⟩ := h2;have : plainEq a b = true ∧ plainEq.plainEqs l m = true := by
    cases a <;> cases b <;> simp_all [plainEq.plainEqs, plainEq]
   rw [zNN a b this.1 x y k1 q1, zKT l m this.2 r s k2 q2]
end
theorem zJ0 {μ : Mu} {a b : AV} (h : plainEq a b = true) (hg : ∀ l, a ≠ .agg l) {c : Value} (hc : VR μ a c) (n : Nat) : Instr.sameBits n c c = true := by
 cases a <;> cases b <;> simp [plainEq] at h
 ·rw [show c = _ from hc]; simp [Instr.sameBits]
 ·rw [show c = _ from hc]; simp [Instr.sameBits]
 ·rw [show c = _ from hc]; simp only [Instr.sameBits, zKg]; simp
 ·exact absurd rfl (hg _)
theorem zJz {μ : Mu} : ∀ (a b : List AV), plainEq.plainEqs a b = true → ∀ (c : List Value), VRs μ a c → ∀ (n : Nat), (c.zip c).all (fun (x, y) => Instr.sameBits n x y) = true
 | [], b, h, c, h1, n => by
  obtain rfl : c = [] := h1;rfl
 | a :: l, b, h, c, h1, n => by
  obtain ⟨x, r, k1, k2, rfl⟩ := h1;cases b with
  | nil => cases a <;> simp [plainEq.plainEqs] at h
  | cons b m =>
   have : plainEq a b = true ∧ plainEq.plainEqs l m = true ∧ ∀ q, a ≠ .agg q := by
    cases a <;> cases b <;> simp_all [plainEq.plainEqs, plainEq]
   simp only [List.zip_cons_cons, List.all_cons, Bool.and_eq_true];exact ⟨zJ0 this.1 this.2.2 k1 n, zJz l m this.2.1 r k2 n⟩
theorem zSS {μ : Mu} {a b : AV} (h : plainEq a b = true) {c : Value} (hc : VR μ a c) (n : Nat) : Instr.sameBits (n + 1) c c = true := by
 by_cases hg : ∃ l, a = .agg l
 ·obtain ⟨l, rfl⟩ := hg;obtain ⟨x, h1, rfl⟩ := hc;cases b <;> simp [plainEq] at h;simp only [Instr.sameBits, beq_self_eq_true, Bool.true_and];exact zJz l _ h x h1 n
 ·exact zJ0 h (fun l e => hg ⟨l, e⟩) hc (n + 1)
theorem zY7 {μ : Mu} {kt : TypeId} {key v : AV} {ck cv : Value} (hk : VR μ key ck) (hv : VR μ v cv) (w : World) (es es' l : List (AV × AV)) (hp : es'.Perm es) (h : xHI P kt key v es = some l) (ents : List MapEntry) (he : ERs μ es' ents) :
  (∃ j e l', (Instr.findAsking kt ck ents 0).run P w = .ok (some (j, e.val)) w ∧ ents[j]? = some e ∧ (Instr.keyThatStays e.key ck).run P w = .ok ck w ∧ l'.Perm l ∧ ERs μ l' (ents.modify j fun e => { e with key := ck, val := cv })) ∨
  ((Instr.findAsking kt ck ents 0).run P w = .ok none w ∧ ∃ l', l'.Perm l ∧ ∀ n, ERs μ l' (ents ++ [⟨ck, cv, n⟩])) := by
 unfold xHI at h;split at h
 ·rename_i hh;cases h;obtain ⟨l', h1, h2⟩ := zCy hp hh;obtain rfl := h2.eq_nil;refine .inr ⟨zDV hk w es' h1 ents 0 he, es' ++ [(key, v)], (List.perm_append_singleton _ _).trans (hp.cons _), fun n => ?_⟩;obtain ⟨a1, a2⟩ := he;constructor
  ·rw [List.map_append, List.map_append];exact a1.append ⟨_, _, hk, rfl, rfl⟩
  ·rw [List.map_append, List.map_append];exact a2.append ⟨_, _, hv, rfl, rfl⟩
 ·rename_i e hh;split at h
  ·rename_i hpe;cases h;obtain ⟨l', h1, h2⟩ := zCy hp hh;obtain rfl := List.perm_singleton.1 h2;obtain ⟨j, y, q1, q2, q3, q4, q5⟩ := zJL hk hv w es' h1 ents 0 he;obtain rfl := zNN _ _ hpe _ _ hk q3;refine .inl ⟨j, y, _, by rw [q1, Nat.zero_add], q2, ?_, hp.map _, q5⟩
   unfold Instr.keyThatStays;rw [if_pos (zSS hpe hk 9999)];rfl
  ·cases h
 ·cases h
theorem zID {kt : TypeId} {kd : TypeDesc} (hu : P.underlying kt = some kd) {a b : Value} {r : Bool} (h : Instr.sameNow kd a b = some r) (w : World) : (Op.equal kt a b).run P w = .ok r w := by
 have : ∀ D, (Op.equalIn (D + 1) kt a b).run P w = .ok r w := by
  intro D;cases kd <;> cases a <;> cases b <;> simp [Instr.sameNow] at h
  ·subst h; simp [Op.equalIn, run_underlying hu]
  ·obtain ⟨rfl, rfl⟩ := h; simp [Op.equalIn, run_underlying hu]
  ·subst h; simp [Op.equalIn, run_underlying hu]
 exact this 9999
theorem zJP {kt : TypeId} {kd : TypeDesc} (hu : P.underlying kt = some kd) {k : Value} (w : World) : ∀ (ents : List MapEntry) (i : Nat) (r : Option (Nat × Value)), Instr.findNow kd k ents i = some r → (Instr.findAsking kt k ents i).run P w = .ok r w
 | [], i, r, h => by simp [Instr.findNow] at h; subst h; rfl
 | e :: es, i, r, h => by
  simp only [Instr.findNow] at h;split at h
  ·rename_i hs;cases h;simp only [Instr.findAsking, Sem.run_bind, zID hu hs w, Result.andThen_ok];rfl
  ·rename_i hs;have := zJP hu w es (i + 1) r h;simp only [Instr.findAsking, Sem.run_bind, zID hu hs w, Result.andThen_ok];exact this
  ·cases h
theorem zDs {kt : TypeId} {kd : TypeDesc} (hu : P.underlying kt = some kd) (k : Value) (w : World) (ents : List MapEntry) : (Instr.findKey kt k ents).run P w = (Instr.findAsking kt k ents 0).run P w := by
 unfold Instr.findKey;simp only [Sem.run_bind, run_underlying hu, Result.andThen_ok];cases h : Instr.findNow kd k ents 0 with
 | none => rfl
 | some r => rw [zJP hu w ents 0 r h]; rfl
theorem zEY {t : TypeId} (h : zIB P t = true) (em : Bool) (n : Nat) (v : Value) (w : World) : (Instr.checkKey em (n + 1) t v).run P w = .ok () w := by
 unfold zIB at h;unfold Instr.checkKey;split at h <;> rename_i hu
 ·simp [run_underlying hu]
 ·simp [run_underlying hu]
 ·simp [run_underlying hu]
 ·cases h
theorem zLo {d : Nat} {e : TypeId} {n : Nat} : ∀ (len i : Nat) (xs ys : List AV) (b : Tm), zZI P d e n len i xs ys = some b → ∀ j ∈ List.range' i len, ∃ v, zHk P e xs (j * n) = some v
 | 0, i, xs, ys, b, h, j, hj => by simp at hj
 | len + 1, i, xs, ys, b, h, j, hj => by
  cases d with
  | zero => simp [zZI] at h
  | succ d =>
   unfold zZI at h;split at h
   ·rename_i a a' ha ha';split at h
    ·rename_i p q hp hq;rw [List.range'_succ] at hj;simp only [List.mem_cons] at hj;rcases hj with rfl | hj
     ·exact ⟨a, ha⟩
     ·exact zLo (d := d) len (i + 1) xs ys q hq j (by simpa using hj)
    ·cases h
   ·cases h
theorem zH5 {d : Nat} : ∀ (fs : List Field) (xs ys : List AV) (b : Tm), zYo P d fs xs ys = some b → ∀ f ∈ fs, f.name ≠ "_" → ∃ v, zHk P f.type xs f.offset = some v
 | [], xs, ys, b, h, f, hf, _ => by cases hf
 | g :: fs, xs, ys, b, h, f, hf, hn => by
  cases d with
  | zero => simp [zYo] at h
  | succ d =>
   unfold zYo at h;split at h
   ·split at h
    ·rename_i a a' ha ha';split at h
     ·rename_i p q hp hq;simp only [List.mem_cons] at hf;rcases hf with rfl | hf
      ·exact ⟨a, ha⟩
      ·exact zH5 (d := d) fs xs ys q hq f hf hn
     ·cases h
    ·cases h
   ·rename_i hg;simp only [List.mem_cons] at hf;rcases hf with rfl | hf
    ·exact absurd hn hg
    ·exact zH5 (d := d) fs xs ys b h f hf hn
theorem zBN {μ : Mu} {kt : TypeId} {key : AV} (h1 : zR6 P kt = true) (h2 : zEp P kt key = true) {ck : Value} (hk : VR μ key ck) (em : Bool) (w : World) : (Instr.checkKey em 10000 kt ck).run P w = .ok () w := by
 unfold zEp at h2;split at h2
 case h_2 => cases h2
 rename_i b hb;unfold zR6 at h1;unfold Instr.checkKey;split at h1 <;> rename_i hu
 ·simp [run_underlying hu]
 ·simp [run_underlying hu]
 ·simp [run_underlying hu]
 ·rename_i len e;unfold zB0 eqA at hb;cases key <;> simp [hu] at hb
  case agg xs =>
   obtain ⟨c, hc, rfl⟩ := hk;split at hb
   ·rename_i n hn;have parts := zLo len 0 xs xs b hb;simp only [Sem.run_bind, run_underlying hu, Result.andThen_ok];simp only [Std.Legacy.Range.forIn_eq_forIn_range', Std.Legacy.Range.size, Nat.sub_zero, Nat.add_one_sub_one, Nat.div_one];generalize List.range' 0 len = is at parts
    induction is with
    | nil => simp
    | cons j is ih =>
     obtain ⟨v, hv⟩ := parts j (by simp)
     obtain ⟨y, p1, p2⟩ := zC8 hv hc w;have p3 := zEY (P := P) h1 em 9998 y w;simp only [List.forIn_cons, Sem.run_bind, zAt hn, Result.andThen_ok, p1, p3, Sem.run_pure];exact ih fun q hq => parts q (by simp [hq])
   ·cases hb
 ·rename_i fs;unfold zB0 eqA at hb;cases key <;> simp [hu] at hb
  case agg xs =>
   obtain ⟨c, hc, rfl⟩ := hk;obtain ⟨_, hb⟩ := hb;have parts := zH5 fs.toList xs xs b hb;simp only [Sem.run_bind, run_underlying hu, Result.andThen_ok];rw [← Array.forIn_toList];have simp1 : ∀ f ∈ fs.toList, zIB P f.type = true := fun f hf => List.all_eq_true.1 h1 f hf;clear hb h1;generalize fs.toList = L at parts simp1
   induction L with
   | nil => simp
   | cons f L ih =>
    by_cases hn : f.name = "_"
    ·simp only [List.forIn_cons, Sem.run_bind, hn, ne_eq, not_true_eq_false, if_false, Result.andThen_ok, Sem.run_pure];exact ih (fun g hg => parts g (by simp [hg])) (fun g hg => simp1 g (by simp [hg]))
    ·obtain ⟨v, hv⟩ := parts f (by simp) hn
     obtain ⟨y, p1, p2⟩ := zC8 hv hc w;have p3 := zEY (P := P) (simp1 f (by simp)) em 9998 y w
     simp only [List.forIn_cons, Sem.run_bind, hn, ne_eq, not_false_eq_true, if_true, Result.andThen_ok, p1, p3, Sem.run_pure];exact ih (fun g hg => parts g (by simp [hg])) (fun g hg => simp1 g (by simp [hg]))
 ·cases h1
theorem zDW {w : World} {b : Nat} {ents : Array MapEntry} {clock : Nat} (h : w.heap[b]? = some (.map ents clock)) : (getObj b).run P w = .ok (.map ents clock) w := by simp [getObj, Sem.run, h]
theorem zKy {w : World} {b : Nat} {ents : Array MapEntry} {clock : Nat} (o : Obj) (h : w.heap[b]? = some (.map ents clock)) : (setObj b o).run P w = .ok () { w with heap := w.heap.setIfInBounds b o } := by simp [setObj, Sem.run, h]
theorem zLI {μ : Mu} {h : Nat → Option AObj} {w : World} (r : Rep μ h w) {id : Nat} {es : List (AV × AV)} (hg : h id = some (.map es)) : ∃ l ents clock es', μ id = some l ∧ w.heap[l.b]? = some (.map ents clock) ∧ es'.Perm es ∧ ERs μ es' ents.toList := by
 obtain ⟨l, ents, clock, es', ⟨h1, hz⟩, h2, h3⟩ := r.obj id _ hg;exact ⟨l, ents, clock, es', h1, h2, h3⟩
theorem zP7 {t : TypeId} {x key v : AV} {ok : Bool} {H : Heap} (h : zP8 P t x key ok H = some v) {μ : Mu} {w : World} (r : Rep μ H.get w) {cx ck : Value} (hx : VR μ x cx) (hk : VR μ key ck) :
  ∃ c, (Instr.lookup t cx ck ok).run P w = .ok c w ∧ VR μ v c := by
 unfold zP8 at h;split at h
 ·rename_i kt et hu;split at h
  ·rename_i hkt;simp only [Bool.and_eq_true] at hkt;obtain ⟨kd, hkd⟩ : ∃ kd, P.underlying kt = some kd := by
    have := hkt.1;unfold zR6 at this;cases hq : P.underlying kt with
    | none => rw [hq] at this; cases this
    | some kd => exact ⟨kd, rfl⟩
   split at h
   ·rename_i es hes;have fin : ∀ (es' : List (AV × AV)) (ents : Array MapEntry), es'.Perm es → ERs μ es' ents.toList → ∃ res c, (Instr.findKey kt ck ents.toList).run P w = .ok res w ∧ VR μ v c ∧
      ((∃ q, res = some q ∧ c = (if ok = true then .tuple #[q.2, .bool true] else q.2)) ∨ (res = none ∧ ∃ z, (zeroValue et).run P w = .ok z w ∧ c = if ok = true then .tuple #[z, .bool false] else z)) := by
     intro es' ents hp e2;rw [zDs hkd];split at h
     ·rename_i u hfa;cases h;rcases zOh (P := P) hk w es es' hp _ hfa ents.toList e2 with ⟨h4, _⟩ | ⟨v', j, c, h4, h5, h6⟩
      ·cases h4
      ·cases h4;refine ⟨_, _, h5, ?_, .inl ⟨_, rfl, rfl⟩⟩;cases ok
       ·exact h6
       ·exact (show VR μ (.tuple [_, _]) (.tuple #[_, _]) from ⟨[_, _], ⟨_, _, h6, ⟨_, _, rfl, rfl, rfl⟩, rfl⟩, rfl⟩)
     ·rename_i hfa;rcases zOh (P := P) hk w es es' hp _ hfa ents.toList e2 with ⟨_, h4⟩ | ⟨v', j, c, h4, _, _⟩
      ·split at h
       ·rename_i z hz;cases h;obtain ⟨cz, h5, h6⟩ := zE5 hz w;have h7 : VR μ z cz := zJ8 μ _ _ h6;refine ⟨_, _, h4, ?_, .inr ⟨rfl, cz, h5, rfl⟩⟩;cases ok
        ·exact h7
        ·exact (show VR μ (.tuple [_, _]) (.tuple #[_, _]) from ⟨[_, _], ⟨_, _, h7, ⟨_, _, rfl, rfl, rfl⟩, rfl⟩, rfl⟩)
       ·cases h
      ·cases h4
     ·cases h
    split at hes
    ·cases hes;obtain rfl : cx = .map none := hx;obtain ⟨res, c, f1, f2, f3⟩ := fin [] #[] (List.Perm.refl _) ⟨rfl, rfl⟩;refine ⟨c, ?_, f2⟩;unfold Instr.lookup;have ek := zBN hkt.1 hkt.2 hk (#[] : Array MapEntry).isEmpty w;simp only [Sem.run_bind, run_underlying hu, Result.andThen_ok, Sem.run_pure, ek, f1];rcases f3 with ⟨q, rfl, rfl⟩ | ⟨rfl, z, h5, rfl⟩
     ·simp only [Sem.run_bind, Result.andThen_ok, Sem.run_pure]
     ·simp only [Sem.run_bind, Result.andThen_ok, Sem.run_pure, h5]
    ·rename_i id;split at hes
     ·rename_i es' hg;cases hes;obtain ⟨l, ents, clock, es2, h1, h2, h0, h3⟩ := zLI r hg;obtain ⟨l', hl', rfl⟩ := hx;rw [h1] at hl'; cases hl';obtain ⟨res, c, f1, f2, f3⟩ := fin es2 ents h0 h3;refine ⟨c, ?_, f2⟩;unfold Instr.lookup;have ek := zBN hkt.1 hkt.2 hk ents.isEmpty w;simp only [Sem.run_bind, run_underlying hu, Result.andThen_ok, Sem.run_pure, zDW (P := P) h2, ek, f1];rcases f3 with ⟨q, rfl, rfl⟩ | ⟨rfl, z, h5, rfl⟩
      ·simp only [Sem.run_bind, Result.andThen_ok, Sem.run_pure]
      ·simp only [Sem.run_bind, Result.andThen_ok, Sem.run_pure, h5]
     ·cases hes
    ·cases hes
   ·cases h
  ·cases h
 ·cases h
theorem zMv (a b : Tm) (h : excl a b = true) (ha : a.den.asB = true) : b.den.asB = false := by
 unfold excl at h;split at h
 ·rename_i k x p k' y q;simp only [Bool.and_eq_true, Bool.not_eq_true'] at h;obtain ⟨h1, h2⟩ := h;obtain rfl := Tm.eqv_eq _ _ h1;have ha' : (x.den.asI == p) = true := ha;show (x.den.asI == q) = false;have ha' := eq_of_beq ha';rw [ha'];cases hb : (p == q) with
  | false => rfl
  | true =>
   have := eq_of_beq hb;subst this;have : eqZ p p = true := by cases p <;> simp [eqZ]
   rw [this] at h2; cases h2
 ·rename_i x p y q;simp only [Bool.and_eq_true, Bool.not_eq_true'] at h;obtain ⟨h1, h2⟩ := h;obtain rfl := Tm.eqv_eq _ _ h1;have ha' : (x.den.asS == p) = true := ha;show (x.den.asS == q) = false;have ha' := eq_of_beq ha';rw [ha'];cases hb : (p == q) with
  | false => rfl
  | true =>
   have := eq_of_beq hb;subst this;have : eqL p p = true := by
    have key : ∀ (p : List UInt8), eqL p p = true := fun p => by
     induction p with
     | nil => rfl
     | cons a l ih => simp [eqL, ih]
    exact key p
   rw [this] at h2; cases h2
 ·rename_i x y c d;simp only [Bool.or_eq_true] at h;have ha' : (x.den.asB && y.den.asB) = true := ha;simp only [Bool.and_eq_true] at ha';show (c.den.asB && d.den.asB) = false;rcases h with h | h
  ·rw [zMv x c h ha'.1]; rfl
  ·rw [zMv y d h ha'.2, Bool.and_false]
 ·cases h
theorem zOj {t : Tm} (ht : t.den.asB = true) : ∀ {l : List (Tm × AV)}, zZG t l = true → l.filter (fun p => p.1.den.asB) = []
 | [], _ => rfl
 | p :: l, h => by
  simp only [zZG, Bool.and_eq_true] at h;rw [List.filter_cons, zMv _ _ h.1 ht];simpa using zOj ht h.2
theorem zLm {f : AV → AV} {d v : AV} : ∀ {l : List (Tm × AV)}, zXi l = true → zEh ((l.map fun p => (p.1, f p.2)) ++ [(.cb true, d)]) = some v →
  (∃ p, l.filter (fun p => p.1.den.asB) = [p] ∧ v = f p.2) ∨ (l.filter (fun p => p.1.den.asB) = [] ∧ v = d)
 | [], _, h => by
  simp [zEh, Tm.den, Dat.asB] at h;exact .inr ⟨rfl, h.symm⟩
 | p :: l, he, h => by
  simp only [zXi, Bool.and_eq_true] at he;simp only [List.map_cons, List.cons_append, zEh] at h;cases hp : p.1.den.asB with
  | true =>
   rw [hp] at h;simp only [cond_true, Option.some.injEq] at h;refine .inl ⟨p, ?_, h.symm⟩;rw [List.filter_cons, hp, zOj hp he.1]; rfl
  | false =>
   rw [hp] at h;simp only [cond_false] at h;rw [List.filter_cons, hp];simpa using zLm he.2 h
def zOO (P : Program) (kt : TypeId) (key : AV) (e : AV × AV) : Bool := match eqA P zB0 kt key e.1 with
 | some t => t.den.asB
 | none => false
theorem zFT {kt : TypeId} {key : AV} : ∀ {es : List (AV × AV)} {l : List (Tm × AV)}, zSb P kt key es = some l → (∀ e ∈ es, ∃ t, eqA P zB0 kt key e.1 = some t) ∧ (es.filter (zOO P kt key)).map (·.2) = (l.filter fun p => p.1.den.asB).map (·.2)
 | [], l, h => by cases h; exact ⟨fun e he => (by cases he), rfl⟩
 | e :: es, l, h => by
  simp only [zSb] at h;split at h
  ·rename_i q1 q2;cases h;obtain ⟨h1, h2⟩ := zFT q2;refine ⟨fun x hx => ?_, ?_⟩
   ·rcases List.mem_cons.1 hx with rfl | hx
    ·exact ⟨_, q1⟩
    ·exact h1 x hx
   ·have : zOO P kt key e = false := by unfold zOO; rw [q1]; rfl
    rw [List.filter_cons, this]; simpa using h2
  ·rename_i t l' _ q1 q2;cases h;obtain ⟨h1, h2⟩ := zFT q2;refine ⟨fun x hx => ?_, ?_⟩
   ·rcases List.mem_cons.1 hx with rfl | hx
    ·exact ⟨_, q1⟩
    ·exact h1 x hx
   ·have : zOO P kt key e = t.den.asB := by unfold zOO; rw [q1]
    rw [List.filter_cons, List.filter_cons, this];cases t.den.asB <;> simp [h2]
  ·cases h
theorem zOa {μ : Mu} {kt : TypeId} {key : AV} {ck : Value} (hk : VR μ key ck) (w : World) : ∀ (es : List (AV × AV)), (∀ e ∈ es, ∃ t, eqA P zB0 kt key e.1 = some t) → es.filter (zOO P kt key) = [] → ∀ (ents : List MapEntry) (i : Nat), ERs μ es ents → (Instr.findAsking kt ck ents i).run P w = .ok none w
 | [], _, h, ents, i, he => by obtain rfl := he.nil; rfl
 | p :: es, ht, h, ents, i, he => by
  obtain ⟨x, l, rfl, h1, h2, h3⟩ := he.cons;obtain ⟨t, hq⟩ := ht p (by simp)
  have hd : zOO P kt key p = t.den.asB := by unfold zOO; rw [hq]
  rw [List.filter_cons, hd] at h;cases hb : t.den.asB with
  | true => rw [hb] at h; simp at h
  | false =>
   rw [hb] at h;have := zDt hq hk h1 w;rw [hb] at this;have e : (Instr.findAsking kt ck (x :: l) i).run P w = (Instr.findAsking kt ck l (i + 1)).run P w := by
    simp only [Instr.findAsking, Sem.run_bind, this, Result.andThen_ok];rfl
   rw [e];exact zOa hk w es (fun e he => ht e (by simp [he])) (by simpa using h) l (i + 1) h3
theorem zRB {μ : Mu} {kt : TypeId} {key : AV} {ck : Value} (hk : VR μ key ck) (w : World) {e0 : AV × AV} : ∀ (es : List (AV × AV)), (∀ e ∈ es, ∃ t, eqA P zB0 kt key e.1 = some t) → es.filter (zOO P kt key) = [e0] → ∀ (ents : List MapEntry) (i : Nat), ERs μ es ents →
  ∃ j c, (Instr.findAsking kt ck ents i).run P w = .ok (some (j, c)) w ∧ VR μ e0.2 c
 | [], _, h, ents, i, he => by simp at h
 | p :: es, ht, h, ents, i, he => by
  obtain ⟨x, l, rfl, h1, h2, h3⟩ := he.cons;obtain ⟨t, hq⟩ := ht p (by simp)
  have hd : zOO P kt key p = t.den.asB := by unfold zOO; rw [hq]
  rw [List.filter_cons, hd] at h;have this := zDt hq hk h1 w;cases hb : t.den.asB with
  | true =>
   rw [hb] at h this;simp only [if_true, List.cons.injEq] at h;obtain ⟨rfl, _⟩ := h;refine ⟨i, x.val, ?_, h2⟩;simp only [Instr.findAsking, Sem.run_bind, this, Result.andThen_ok];rfl
  | false =>
   rw [hb] at h this;have e : (Instr.findAsking kt ck (x :: l) i).run P w = (Instr.findAsking kt ck l (i + 1)).run P w := by
    simp only [Instr.findAsking, Sem.run_bind, this, Result.andThen_ok];rfl
   rw [e];exact zRB hk w es (fun e he => ht e (by simp [he])) (by simpa using h) l (i + 1) h3
theorem zP5 {t : TypeId} {x key v : AV} {ok : Bool} {H : Heap} {o : List (Tm × AV)} (h : zP6 P t x key ok H = some o) (hv : zEh o = some v) {μ : Mu} {w : World} (r : Rep μ H.get w) {cx ck : Value} (hx : VR μ x cx) (hk : VR μ key ck) :
  ∃ c, (Instr.lookup t cx ck ok).run P w = .ok c w ∧ VR μ v c := by
 unfold zP6 at h;split at h
 ·rename_i kt et hu;split at h
  ·rename_i hkt;simp only [Bool.and_eq_true] at hkt;obtain ⟨kd, hkd⟩ : ∃ kd, P.underlying kt = some kd := by
    have := hkt.1;unfold zR6 at this;cases hq : P.underlying kt with
    | none => rw [hq] at this; cases this
    | some kd => exact ⟨kd, rfl⟩
   split at h
   ·rename_i id;split at h
    ·rename_i es hg;split at h
     ·rename_i l z hl hz;cases hb : zXi l with
      | false => rw [hb] at h; cases h
      | true =>
       rw [hb] at h;simp only [cond_true, Option.some.injEq] at h;subst h;obtain ⟨L, ents, clock, es2, h1, h2, h0, h3⟩ := zLI r hg;obtain ⟨L', hL', rfl⟩ := hx;rw [h1] at hL'; cases hL';obtain ⟨c1, c2⟩ := zFT hl;have c1' : ∀ e ∈ es2, ∃ t, eqA P zB0 kt key e.1 = some t := fun e he => c1 e (h0.mem_iff.1 he);have hp := h0.filter (zOO P kt key);have ek := zBN hkt.1 hkt.2 hk ents.isEmpty w;unfold Instr.lookup;simp only [Sem.run_bind, run_underlying hu, Result.andThen_ok, Sem.run_pure, zDW (P := P) h2, ek, zDs hkd];rcases zLm (f := fun v => if ok then .tuple [v, .bool true] else v) hb hv with ⟨p, k1, rfl⟩ | ⟨k1, rfl⟩
       ·rw [k1] at c2;obtain ⟨e0, k2⟩ : ∃ e0, es.filter (zOO P kt key) = [e0] := by
         cases hq : es.filter (zOO P kt key) with
         | nil => rw [hq] at c2; simp at c2
         | cons a m =>
          cases m with
          | nil => exact ⟨a, rfl⟩
          | cons b m => rw [hq] at c2; simp at c2
        rw [k2] at c2 hp;simp at c2;obtain ⟨j, c, q1, q2⟩ := zRB (P := P) hk w es2 c1' (List.perm_singleton.1 hp) ents.toList 0 h3;rw [q1];rw [c2] at q2;cases ok
        ·exact ⟨c, rfl, q2⟩
        ·exact ⟨.tuple #[c, .bool true], rfl, (show VR μ (.tuple [_, _]) (.tuple #[_, _]) from ⟨[_, _], ⟨_, _, q2, ⟨_, _, rfl, rfl, rfl⟩, rfl⟩, rfl⟩)⟩
       ·rw [k1] at c2;have k2 : es.filter (zOO P kt key) = [] := by
         cases hq : es.filter (zOO P kt key) with
         | nil => rfl
         | cons a m => rw [hq] at c2; simp at c2
        rw [k2] at hp;have q1 := zOa (P := P) hk w es2 c1' hp.eq_nil ents.toList 0 h3;obtain ⟨cz, h5, h6⟩ := zE5 hz w;have h7 : VR μ z cz := zJ8 μ _ _ h6;rw [q1];simp only [Result.andThen_ok, Sem.run_bind, h5];cases ok
        ·exact ⟨cz, rfl, h7⟩
        ·exact ⟨.tuple #[cz, .bool false], rfl, (show VR μ (.tuple [_, _]) (.tuple #[_, _]) from ⟨[_, _], ⟨_, _, h7, ⟨_, _, rfl, rfl, rfl⟩, rfl⟩, rfl⟩)⟩
     ·cases h
    ·cases h
   ·cases h
  ·cases h
 ·cases h
theorem map_set {μ : Mu} {H : Heap} {w : World} (r : Rep μ H.get w) (d : Dom μ H.next) {id : Nat} {es es' : List (AV × AV)} (hg : H.get id = some (.map es)) {l : Loc} (hl : μ id = some l) {ents ents' : Array MapEntry} {clock clock' : Nat} (hb : w.heap[l.b]? = some (.map ents clock)) {es2 : List (AV × AV)} (hp : es2.Perm es') (he : ERs μ es2 ents'.toList) :
  ∃ w', (setObj l.b (.map ents' clock')).run P w = .ok () w' ∧ Evo μ H.get H.next w μ (H.upd id (.map es')).get (H.upd id (.map es')).next w' := by
 have hz : l.nil = false := by
  obtain ⟨l', _, _, _, ⟨e1, e2⟩, _⟩ := r.obj id _ hg;rw [hl] at e1; cases e1; exact e2
 have hlt : l.b < w.heap.size := (Array.getElem?_eq_some_iff.1 hb).1;have k1 : (w.heap.setIfInBounds l.b (.map ents' clock'))[l.b]? = some (.map ents' clock') := by simp [hlt]
 have k2 : ∀ b, b ≠ l.b → (w.heap.setIfInBounds l.b (.map ents' clock'))[b]? = w.heap[b]? := fun b hne => by simp [Ne.symm hne]
 exact ⟨_, zKy _ hb, zMx r d hg rfl ⟨hl, hz⟩ k2 (by simp) rfl rfl rfl ⟨l, ents', clock', es2, ⟨hl, hz⟩, k1, hp, he⟩⟩
theorem zF8 {t : TypeId} {m key v : AV} {H H' : Heap} (h : zCv P t m key v H = some H') {μ : Mu} {w : World} (r : Rep μ H.get w) (d : Dom μ H.next) {cm ck cv : Value} (hm : VR μ m cm) (hk : VR μ key ck) (hv : VR μ v cv) :
  ∃ w', (Instr.mapUpdate t cm ck cv).run P w = .ok () w' ∧ Evo μ H.get H.next w μ H'.get H'.next w' := by
 unfold zCv at h;split at h
 ·rename_i kt et id hu;split at h
  ·rename_i hkt;simp only [Bool.and_eq_true] at hkt;split at h
   ·rename_i es hg;split at h
    ·rename_i l hl;cases h;obtain ⟨L, ents, clock, es2, h1, h2, h0, h3⟩ := zLI r hg;obtain ⟨L', hL', rfl⟩ := hm;rw [h1] at hL'; cases hL';obtain ⟨kd, hkd⟩ : ∃ kd, P.underlying kt = some kd := by
      have := hkt.1;unfold zR6 at this;cases hq : P.underlying kt with
      | none => rw [hq] at this; cases this
      | some kd => exact ⟨kd, rfl⟩
     have ek := zBN hkt.1 hkt.2 hk false w;unfold Instr.mapUpdate;simp only [Sem.run_bind, run_underlying hu, Result.andThen_ok, zDW (P := P) h2, ek, zDs hkd];rcases zY7 (P := P) hk hv w es es2 l h0 hl ents.toList h3 with ⟨j, e, l2, q1, q2, q3, q5, q4⟩ | ⟨q1, l2, q5, q2⟩
     ·rw [q1];simp only [Result.andThen_ok, Sem.run_bind];have q2' : ents[j]? = some e := by simpa using q2
      rw [q2'];simp only [Option.map_some, Option.getD_some, q3, Result.andThen_ok];exact map_set r d hg h1 h2 q5 (by simpa using q4)
     ·rw [q1];simp only [Result.andThen_ok];exact map_set r d hg h1 h2 q5 (by simpa using q2 clock)
    ·cases h
   ·cases h
  ·cases h
 ·cases h
theorem zOs {kt : TypeId} {key : AV} : ∀ (es : List (AV × AV)), zCz P kt key es = some [] → xE7 P kt key es = es
 | [], _ => rfl
 | p :: es, h => by
  simp only [zCz] at h;split at h
  ·cases h
  ·rename_i hq hl;simp only [Option.some.injEq] at h; subst h;have := zOs es hl;unfold xE7 at this ⊢;rw [List.filter_cons, hq, this]; rfl
  ·cases h
theorem zNZ {μ : Mu} {kt : TypeId} {key : AV} {ck : Value} (hk : VR μ key ck) (w : World) {e0 : AV × AV} : ∀ (es : List (AV × AV)), zCz P kt key es = some [e0] → ∀ (ents : List MapEntry) (i : Nat), ERs μ es ents →
  ∃ j c, (Instr.findAsking kt ck ents i).run P w = .ok (some (i + j, c)) w ∧ ERs μ (xE7 P kt key es) (ents.eraseIdx j)
 | [], h, ents, i, he => by simp [zCz] at h
 | p :: es, h, ents, i, he => by
  obtain ⟨x, l, rfl, h1, h2, h3⟩ := he.cons;simp only [zCz] at h;split at h
  ·rename_i hq hl;simp only [Option.some.injEq, List.cons.injEq] at h;obtain ⟨rfl, rfl⟩ := h;have := zDt hq hk h1 w;refine ⟨0, x.val, ?_, ?_⟩
   ·simp only [Instr.findAsking, Sem.run_bind, this, Result.andThen_ok];rfl
   ·have e := zOs es hl;unfold xE7 at e ⊢;rw [List.filter_cons, hq];simp only [Bool.false_eq_true, if_false];rw [e]; exact h3
  ·rename_i hq hl;simp only [Option.some.injEq] at h; subst h;have := zDt hq hk h1 w;have e : (Instr.findAsking kt ck (x :: l) i).run P w = (Instr.findAsking kt ck l (i + 1)).run P w := by
    simp only [Instr.findAsking, Sem.run_bind, this, Result.andThen_ok];rfl
   rw [e];obtain ⟨j, y, q1, q5⟩ := zNZ hk w es hl l (i + 1) h3;refine ⟨j + 1, y, by rw [q1, show i + 1 + j = i + (j + 1) by omega], ?_⟩
   unfold xE7 at q5 ⊢;rw [List.filter_cons, hq];exact ERs.mk h1 h2 q5
  ·cases h
theorem zPR {t : TypeId} {m key : AV} {H H' : Heap} (h : zFS P t m key H = some H') {ts : Array TypeId} (hts : ts[0]? = some t) {μ : Mu} {w : World} (r : Rep μ H.get w) (d : Dom μ H.next) {cm ck : Value} (hm : VR μ m cm) (hk : VR μ key ck) (ty : TypeId) :
  ∃ y w', (Builtin.delete_ ts ty #[cm, ck]).run P w = .ok y w' ∧ VR μ zBK y ∧ Evo μ H.get H.next w μ H'.get H'.next w' := by
 unfold zFS at h;split at h
 ·rename_i kt et id hu;split at h
  ·rename_i hkt;simp only [Bool.and_eq_true] at hkt;split at h
   ·rename_i es hg;obtain ⟨L, ents, clock, es2, h1, h2, h0, h3⟩ := zLI r hg;obtain ⟨L', hL', rfl⟩ := hm;rw [h1] at hL'; cases hL';obtain ⟨kd, hkd⟩ : ∃ kd, P.underlying kt = some kd := by
     have := hkt.1;unfold zR6 at this;cases hq : P.underlying kt with
     | none => rw [hq] at this; cases this
     | some kd => exact ⟨kd, rfl⟩
    have ek := zBN hkt.1 hkt.2 hk ents.isEmpty w;unfold Builtin.delete_;simp only [hts, List.getElem?_toArray, List.getElem?_cons_zero, List.getElem?_cons_succ];simp only [Sem.run_bind, run_underlying hu, Result.andThen_ok, zDW (P := P) h2, ek, zDs hkd];split at h
    ·rename_i hh;cases h;obtain ⟨l', q1, q2⟩ := zCy h0 hh;obtain rfl := q2.eq_nil;rw [zDV (P := P) hk w es2 q1 ents.toList 0 h3];obtain ⟨w', k1, k2⟩ := map_set (P := P) (clock' := clock) r d hg h1 h2 h0 h3;refine ⟨_, w', ?_, ⟨[], rfl, rfl⟩, k2⟩;simp only [Result.andThen_ok, Sem.run_bind, k1, Sem.run_pure]
    ·rename_i e hh;cases h;obtain ⟨l', q1, q2⟩ := zCy h0 hh;obtain rfl := List.perm_singleton.1 q2;obtain ⟨j, c, k1, k2⟩ := zNZ (P := P) hk w es2 q1 ents.toList 0 h3;rw [k1];have e2 : (ents.eraseIdxIfInBounds (0 + j)).toList = ents.toList.eraseIdx j := by simp
     obtain ⟨w', k3, k4⟩ := map_set (P := P) (clock' := clock) (ents' := ents.eraseIdxIfInBounds (0 + j)) r d hg h1 h2 (h0.filter _) (by rw [e2]; exact k2)
     refine ⟨_, w', ?_, ⟨[], rfl, rfl⟩, k4⟩;simp only [Result.andThen_ok, Sem.run_bind, k3, Sem.run_pure]
    ·cases h
   ·cases h
  ·cases h
 ·cases h
theorem zLc {H : Heap} {μ : Mu} {w : World} (r : Rep μ H.get w) (d : Dom μ H.next) :
  ∃ μ' c w', (do pure (.map (some (← newObj (.map #[] 0)))) : Sem Value).run P w = .ok c w' ∧ VR μ' (.map H.next) c ∧ Evo μ H.get H.next w μ' (H.new (.map [])).get (H.new (.map [])).next w' := by
 have p := Plus.refl w (.map #[] 0);refine ⟨setMu μ H.next ⟨w.heap.size, 0, 0, 0, 0, false⟩, .map (some w.heap.size), { w with heap := w.heap.push (.map #[] 0) }, ?_, ⟨⟨w.heap.size, 0, 0, 0, 0, false⟩, by simp [setMu], rfl⟩, zFP r d p (.map []) ⟨w.heap.size, 0, 0, 0, 0, false⟩ rfl fun μ' _ hm => ⟨_, #[], 0, [], ⟨hm, rfl⟩, p.at, List.Perm.refl _, rfl, rfl⟩⟩
 simp [newObj, Sem.run]
end
end Go.Proofs.YtenkabjkgngcdaaGreat.Ab
namespace Go.Proofs.YtenkabjkgngcdaaGreat.Ab
open Go
variable [Rho]
section
variable {P : Program}
theorem zIv {μ : Mu} {fr : FR} {a : Act} (h : FRel μ fr a.tmps) {x : Option Operand} {v : Option AV} (hx : zXk fr x = some v) : VO μ v (x.map a.eval) := by
 cases x with
 | none => simp [zXk] at hx; subst hx; trivial
 | some o =>
  simp only [zXk] at hx;split at hx
  ·rename_i u hu; cases hx; exact zAg h hu
  ·cases hx
theorem VRs.array {μ : Mu} {fr : FR} {a : Act} (h : FRel μ fr a.tmps) {l : Array Operand} {v : List AV} (hx : zKo fr l.toList = some v) : VRs μ v (l.map a.eval).toList := by
 simpa using zRJ h hx
theorem zDM (hn : NoCount P) {fr : FR} {o : Oper} {H : Heap} {r : AR} (h : zAM P fr o H = some r) {μ : Mu} {a : Act} {w : World} (hf : FRel μ fr a.tmps) (hr : Rep μ H.get w) (hd : Dom μ H.next) : xHg P o a w μ H r := by
 obtain ⟨dst, op, ty, pos, after, guard⟩ := o;cases op
 case move x =>
  simp only [zAM, zJ5] at h;split at h
  ·rename_i v hv; cases h;exact zAw hr hd rfl (zAg hf hv)
  ·cases h
 case assign x =>
  simp only [zAM, zJ5] at h;split at h
  ·rename_i v hv; cases h;exact zAw hr hd rfl (zAg hf hv)
  ·cases h
 case pick c x y =>
  simp only [zAM, zKX] at h;split at h
  ·rename_i b u v hc hu hv;cases h;have h1 : a.eval c = .bool b := zAg hf hc;refine zAw (c := if b then a.eval x else a.eval y) hr hd ?_ ?_
   ·simp only [execOp, h1, Sem.run_bind, asBool, Sem.run_pure, Result.andThen_ok]
   ·cases b
    ·exact zAg hf hv
    ·exact zAg hf hu
  ·rename_i t u v hc hu hv;cases h;have h1 : a.eval c = .bool t.den.asB := zAg hf hc;intro z hz;refine zAw (c := if t.den.asB then a.eval x else a.eval y) hr hd ?_ ?_
   ·simp only [execOp, h1, Sem.run_bind, asBool, Sem.run_pure, Result.andThen_ok]
   ·simp only [zEh] at hz;cases hb : t.den.asB with
    | true => rw [hb] at hz; simp at hz; subst hz; exact zAg hf hu
    | false => rw [hb] at hz; simp [Tm.den, Dat.asB] at hz; subst hz; exact zAg hf hv
  ·cases h
 case alloc e =>
  simp only [zAM, zHs] at h;split at h
  ·rename_i v H' hv;cases h;obtain ⟨μ', c, w', h1, h2, h3⟩ := zTC (P := P) hv hr hd;exact ⟨μ', c, w', .inl (zBx h1), h2, h3⟩
  ·cases h
 case box e x =>
  simp only [zAM, zSW] at h;split at h
  ·rename_i u hu;split at h
   ·rename_i v H' hv;cases h;obtain ⟨μ', c, w', h1, h2, h3⟩ := zSn (P := P) hv hr hd (zAg hf hu) e;exact ⟨μ', _, w', .inl (zBx (by simp only [Instr.box, Sem.run_bind, h1, Result.andThen_ok, Sem.run_pure])), h2, h3⟩
   ·cases h
  ·cases h
 case build t parts =>
  simp only [zAM, zHq] at h;split at h
  ·rename_i l hl;split at h
   ·rename_i v hv;cases h;have hp := PR.mk hf hl;obtain ⟨c, h1, h2⟩ := zT8 hv (cp := parts.map fun p => (p.1, a.eval p.2)) (by simpa using hp) w
    exact zAw hr hd (zBx h1) h2
   ·cases h
  ·cases h
 case buildSlice t n parts =>
  simp only [zAM, zBM] at h;split at h
  ·rename_i l hl;split at h
   ·rename_i v H' hv;cases h;have hp := PR.mk hf hl;obtain ⟨μ', c, w', h1, h2, h3⟩ := zKf (P := P) hv hr hd (cp := parts.map fun p => (p.1, a.eval p.2)) (by simpa using hp)
    exact ⟨μ', c, w', .inl (zBx h1), h2, h3⟩
   ·cases h
  ·cases h
 case load t x =>
  simp only [zAM, zKY] at h;split at h
  ·rename_i u hu;split at h
   ·rename_i v hv;cases h;obtain ⟨c, h1, h2⟩ := zNU hv hr (zM0 hf hr hu);exact zAw hr hd (zBx h1) h2
   ·cases h
  ·cases h
 case store t x y =>
  simp only [zAM, zHl] at h;split at h
  ·rename_i u v hu hv;split at h
   ·rename_i H' hs;cases h;obtain ⟨w', h1, h2⟩ := zS5 (P := P) hs hr hd (zAg hf hu) (zAg hf hv);exact ⟨μ, undef, w', .inr ⟨zY9 h1, rfl⟩, zFe μ, h2⟩
   ·cases h
  ·cases h
 case nilCheck x =>
  simp only [zAM, zDa] at h;split at h
  ·rename_i id off hv;cases h;have h1 := zAg hf hv;obtain ⟨l, hl, h2⟩ := (show _ from h1)
   exact zAw hr hd (by simp only [execOp, h2, Sem.run_pure]) (h2 ▸ h1)
  ·rename_i id k i j hv;cases h;have h1 := zAg hf hv;obtain ⟨l, hl, _, _, _, h2⟩ := (show _ from h1)
   exact zAw hr hd (by simp only [execOp, h2, Sem.run_pure]) (h2 ▸ h1)
  ·rename_i t v hv;cases h;have h1 := zAg hf hv;obtain ⟨l, hl, h2⟩ := (show _ from h1)
   exact zAw hr hd (by simp only [execOp, h2, Sem.run_pure]) (h2 ▸ h1)
  ·rename_i f b c hv;cases h;have h1 := zAg hf hv;obtain ⟨p, q, _, _, h2⟩ := (show _ from h1)
   exact zAw hr hd (by simp only [execOp, h2, Sem.run_pure]) (h2 ▸ h1)
  ·cases h
 case binOp op t x y yt =>
  simp only [zAM, zHr] at h;split at h
  ·rename_i u v hu hv;split at h
   ·rename_i z hz;cases h;intro q hq;obtain ⟨o, z⟩ := z;simp only [zEh] at hq;cases ho : o.den.asB with
    | false => rw [ho] at hq; simp at hq
    | true =>
     rw [ho] at hq; simp at hq; subst hq;obtain ⟨c, h1, h2⟩ := zWg (t := t) hz (zAg hf hu) (zAg hf hv) ho w;exact zAw hr hd (zBx h1) h2
   ·split at h
    ·rename_i z hz;cases h;obtain ⟨c, h1, h2⟩ := xAh hz (zAg hf hu) (zAg hf hv) w;exact zAw hr hd (zBx h1) h2
    ·cases h
  ·cases h
 case unOp op t x =>
  simp only [zAM, zKW] at h;split at h
  ·rename_i u hu;split at h
   ·rename_i z hz;cases h;obtain ⟨c, h1, h2⟩ := xBD (P := P) hz (zAg hf hu) w;exact zAw hr hd (zBx h1) h2
   ·cases h
  ·cases h
 case convert s d x =>
  simp only [zAM, zDO] at h;split at h
  ·rename_i u hu;split at h
   ·rename_i v H' hv;cases h;obtain ⟨μ', c, w', h1, h2, h3⟩ := zX4 (P := P) hv hr hd (zAg hf hu);exact ⟨μ', c, w', .inl (zBx h1), h2, h3⟩
   ·cases h
  ·cases h
 case makeInterface t x =>
  simp only [zAM, zBg] at h;split at h
  ·cases h
  ·rename_i v dd hni hv hu;cases h;refine zAw (c := .iface t (a.eval x)) hr hd (zBx ?_) ⟨_, zAg hf hv, rfl⟩;simp only [Instr.makeInterface, Sem.run_bind, run_underlying hu, Result.andThen_ok];cases dd <;> first | (exact absurd rfl (hni _)) | rfl
  ·cases h
 case makeFunc fn b c =>
  simp only [zAM, zDb] at h;split at h
  ·rename_i u v hu hv;cases h;refine zAw (c := .func fn (b.map a.eval) (c.map a.eval)) hr hd rfl ⟨_, _, VRs.array hf hu, VRs.array hf hv, rfl⟩
  ·cases h
 case makeSlice t l c =>
  simp only [zAM, zCr] at h;split at h
  ·rename_i u v hu hv;split at h
   ·rename_i z H' hz;cases h;obtain ⟨μ', c, w', h1, h2, h3⟩ := zKk (P := P) hz hr hd (zAg hf hu) (zAg hf hv);exact ⟨μ', c, w', .inl (zBx h1), h2, h3⟩
   ·split at h
    ·rename_i q z H' hz;cases h;intro hq;obtain ⟨μ', c, w', h1, h2, h3⟩ := zKj (P := P) hz hq hr hd (zAg hf hu) (zAg hf hv);exact ⟨μ', c, w', .inl (zBx h1), h2, h3⟩
    ·cases h
  ·cases h
 case makeMap t x =>
  cases x with
  | none =>
   simp only [zAM, zCA] at h;cases h;obtain ⟨μ', c, w', h1, h2, h3⟩ := zLc (P := P) hr hd;exact ⟨μ', c, w', .inl (zBx (by simpa [Instr.makeMap] using h1)), h2, h3⟩
  | some x =>
   simp only [zAM, zCA] at h;split at h
   ·rename_i k n kt et hx hu;cases h;obtain ⟨μ', c, w', h1, h2, h3⟩ := zLc (P := P) hr hd;have hi : a.eval x = .int k n := zAg hf hx;refine ⟨μ', c, w', .inl (zBx ?_), h2, h3⟩;simp only [Option.map_some, Instr.makeMap, Sem.run_bind, run_underlying hu, Result.andThen_ok, hi, asInt, asIntOf, Sem.run_pure];simpa [Sem.run_bind] using h1
   ·cases h
 case lookup t x i ok =>
  simp only [zAM, zFg] at h;split at h
  ·rename_i u v hu hv;split at h
   ·rename_i z hz;cases h;obtain ⟨c, h1, h2⟩ := zP7 (P := P) hz hr (zAg hf hu) (zAg hf hv);exact zAw hr hd (zBx h1) h2
   ·split at h
    ·rename_i l hl;cases h;intro q hq;obtain ⟨c, h1, h2⟩ := zP5 (P := P) hl hq hr (zAg hf hu) (zAg hf hv);exact zAw hr hd (zBx h1) h2
    ·cases h
  ·cases h
 case mapUpdate t m k x =>
  simp only [zAM, zBG] at h;split at h
  ·rename_i u v z hu hv hz;split at h
   ·rename_i H' hs;cases h;obtain ⟨w', h1, h2⟩ := zF8 (P := P) hs hr hd (zAg hf hu) (zAg hf hv) (zAg hf hz);exact ⟨μ, undef, w', .inr ⟨zY9 h1, rfl⟩, zFe μ, h2⟩
   ·cases h
  ·cases h
 case insert t m k x =>
  simp only [zAM, zBG] at h;split at h
  ·rename_i u v z hu hv hz;split at h
   ·rename_i H' hs;cases h;obtain ⟨w', h1, h2⟩ := zF8 (P := P) hs hr hd (zAg hf hu) (zAg hf hv) (zAg hf hz);exact ⟨μ, undef, w', .inr ⟨zY9 h1, rfl⟩, zFe μ, h2⟩
   ·cases h
  ·cases h
 case slice t x lo hi mx =>
  cases mx with
  | some m => simp [zAM] at h
  | none =>
   simp only [zAM, zHm] at h;split at h
   ·rename_i u l m hu hl hm;split at h
    ·rename_i z hz;cases h;intro q hq;obtain ⟨o, z⟩ := z;simp only [zEh] at hq;cases ho : o.den.asB with
     | false => rw [ho] at hq; simp at hq
     | true =>
      rw [ho] at hq; simp at hq; subst hq;obtain ⟨c, h1, h2⟩ := zS7 (P := P) (w := w) hz ho (zAg hf hu) (zIv hf hl) (zIv hf hm);exact zAw hr hd (zBx h1) h2
    ·split at h
     ·rename_i z hz;cases h;obtain ⟨c, h1, h2⟩ := zS8 hz hr (zAg hf hu) (zIv hf hl) (zIv hf hm);exact zAw hr hd (zBx h1) h2
     ·cases h
   ·cases h
 case fieldAddr s x f =>
  simp only [zAM, zCt] at h;split at h
  ·rename_i u hu;split at h
   ·rename_i z hz;cases h;obtain ⟨c, h1, h2⟩ := zKn hz (zAg hf hu) w;exact zAw hr hd (zBx h1) h2
   ·cases h
  ·cases h
 case field t x f =>
  simp only [zAM, zHo] at h;split at h
  ·rename_i u hu;split at h
   ·rename_i z hz;cases h;obtain ⟨c, h1, h2⟩ := zTu hz (zAg hf hu) w;exact zAw hr hd (zBx h1) h2
   ·cases h
  ·cases h
 case indexAddr t x i =>
  simp only [zAM, zCs] at h;split at h
  ·rename_i u v hu hv;split at h
   ·rename_i z hz;cases h;intro q hq;obtain ⟨c, h1, h2⟩ := zKm hz hq (zM0 hf hr hu) (zAg hf hv) w;exact zAw hr hd (zBx h1) h2
   ·split at h
    ·rename_i z hz;cases h;obtain ⟨c, h1, h2⟩ := zDE hz (zM0 hf hr hu) (zAg hf hv) w;exact zAw hr hd (zBx h1) h2
    ·cases h
  ·cases h
 case index t x i =>
  simp only [zAM, zHn] at h;split at h
  ·rename_i u v hu hv;split at h
   ·rename_i z hz;cases h;intro q hq;obtain ⟨o, z⟩ := z;simp only [zEh] at hq;cases ho : o.den.asB with
    | false => rw [ho] at hq; simp at hq
    | true =>
     rw [ho] at hq; simp at hq; subst hq;obtain ⟨c, h1, h2⟩ := zTk hz (zAg hf hu) (zAg hf hv) ho w;exact zAw hr hd (zBx h1) h2
   ·split at h
    ·rename_i l hl;cases h;intro q hq;obtain ⟨c, h1, h2⟩ := zTl hl hq (zAg hf hu) (zAg hf hv) w;exact zAw hr hd (zBx h1) h2
    ·split at h
     ·rename_i z hz;cases h;obtain ⟨c, h1, h2⟩ := zH1 hz (zAg hf hu) (zAg hf hv) w;exact zAw hr hd (zBx h1) h2
     ·cases h
  ·cases h
 case typeAssert x xt t ok =>
  simp only [zAM, zBL] at h;split at h
  ·rename_i u hu;split at h
   ·rename_i z hz;cases h;obtain ⟨c, h1, h2⟩ := zI4 (xt := xt) hz (zAg hf hu) w;exact zAw hr hd (zBx h1) h2
   ·cases h
  ·cases h
 case extract x i =>
  simp only [zAM, zDN] at h;split at h
  ·rename_i vs hv;split at h
   ·rename_i z hz;cases h;obtain ⟨l, hl, h2⟩ := zAg hf hv;obtain ⟨y, h3, h4⟩ := hl.get i z hz;refine zAw hr hd (zBx ?_) h4;rw [h2];simp only [Instr.extract, List.getElem?_toArray, h3, Sem.run_pure]
   ·cases h
  ·cases h
 case call c =>
  simp only [zAM, zKZ] at h;split at h
  ·rename_i args hargs;have hav := VRs.array hf hargs;split at h
   ·rename_i b hcb;split at h
    ·rename_i q v H' hb;cases h;intro hq;generalize hca : c.args.map a.eval = ca at hav;obtain ⟨ca⟩ := ca;simp only at hav;obtain ⟨rfl, cs, cx, rfl, μ', y, w', h1, h2, h3⟩ := zSA (P := P) hb hq hr hd hav ty;refine ⟨μ', y, w', .inl ?_, h2, h3⟩;simp only [execOp, resolve, hcb, Sem.run_bind, Sem.run_pure, Result.andThen_ok, invoke, hca];exact zBx h1
    ·split at h
     case h_2 => cases h
     rename_i v H' hb;cases h
     suffices hs : ∃ μ' y w', (builtin b c.argTypes ty (c.args.map fun | .const _ => true | _ => false) (c.args.map a.eval)).run P w = .ok (.value y) w' ∧ VR μ' v y ∧ Evo μ H.get H.next w μ' H'.get H'.next w' by
      obtain ⟨μ', y, w', h1, h2, h3⟩ := hs;refine ⟨μ', y, w', .inl ?_, h2, h3⟩;simp only [execOp, resolve, hcb, Sem.run_bind, Sem.run_pure, Result.andThen_ok, invoke];exact h1
     generalize hca : c.args.map a.eval = ca at hav;obtain ⟨ca⟩ := ca;simp only at hav;unfold zFs at hb;split at hb
     ·obtain ⟨x, r0, hx, hr0, rfl⟩ := hav;cases hr0;split at hb
      ·rename_i t ht;split at hb
       ·rename_i u hu;cases hb;obtain ⟨y, h1, h2⟩ := zTf hu ht hr hx ty;exact ⟨μ, y, w, zBx h1, h2, Evo.refl hr hd⟩
       ·cases hb
      ·cases hb
     ·obtain ⟨x, r0, hx, hr0, rfl⟩ := hav;obtain ⟨x2, r2, hx2, hr2, rfl⟩ := hr0;cases hr2;split at hb
      ·rename_i t u ht hu;split at hb
       ·cases hb
       ·rename_i dd hni hdd;obtain ⟨μ', y, w', h1, h2, h3⟩ := zQi (P := P) hb ht hu hdd (fun k e => hni k (e ▸ rfl)) hr hd hx hx2 ty;exact ⟨μ', y, w', zBx h1, h2, h3⟩
       ·cases hb
      ·cases hb
     ·obtain ⟨x, r0, hx, hr0, rfl⟩ := hav;obtain ⟨x2, r2, hx2, hr2, rfl⟩ := hr0;cases hr2;split at hb
      ·rename_i t ht;obtain ⟨μ', y, w', h1, h2, h3⟩ := zX3 (P := P) hb ht hr hd hx hx2 ty;exact ⟨μ', y, w', zBx h1, h2, h3⟩
      ·cases hb
     ·obtain ⟨x, r0, hx, hr0, rfl⟩ := hav;cases hr0;split at hb
      ·rename_i t ht;obtain ⟨μ', y, w', h1, h2, h3⟩ := zT5 (P := P) hb ht hr hd hx ty;exact ⟨μ', y, w', zBx h1, h2, h3⟩
      ·cases hb
     ·obtain ⟨x, r0, hx, hr0, rfl⟩ := hav;obtain ⟨x2, r2, hx2, hr2, rfl⟩ := hr0;cases hr2;split at hb
      ·rename_i t ht;split at hb
       ·rename_i H2 hq;cases hb;obtain ⟨y, w', h1, h2, h3⟩ := zPR (P := P) hq ht hr hd hx hx2 ty;exact ⟨μ, y, w', zBx h1, h2, h3⟩
       ·cases hb
      ·cases hb
     ·obtain ⟨x, r0, hx, hr0, rfl⟩ := hav;split at hb
      ·rename_i u hu;cases hb;obtain ⟨y, h1, h2⟩ := zJO (P := P) (fun x y v h cx cy hx hy w => zWy h hx hy w) _ _ _ hu x r0 hx hr0 w;refine ⟨μ, y, w, zBx ?_, h2, Evo.refl hr hd⟩;simp only [Builtin.min_];exact h1
      ·cases hb
     ·obtain ⟨x, r0, hx, hr0, rfl⟩ := hav;split at hb
      ·rename_i u hu;cases hb;obtain ⟨y, h1, h2⟩ := zJO (P := P) (fun x y v h cx cy hx hy w => zW1 h hx hy w) _ _ _ hu x r0 hx hr0 w;refine ⟨μ, y, w, zBx ?_, h2, Evo.refl hr hd⟩;simp only [Builtin.max_];exact h1
      ·cases hb
     ·cases hb
   ·rename_i f hcf;split at h
    ·rename_i fv hfv;split at h
     ·rename_i g out hg;split at h
      ·rename_i he;cases h;obtain ⟨fv', cap, al, cargs, h1, h2, h3⟩ := zKa hn hg he (zAg hf hfv) hav;refine ⟨cargs, ?_, h3⟩;have h1' : (Deferred.ofValue (a.eval f) (c.args.map a.eval)).run P w = .ok { target := .fn fv' cap, args := al } w := h1 w;simp only [execOp, resolve, hcf, Sem.run_bind, h1', Result.andThen_ok, h2]
      ·cases h
     ·cases h
    ·cases h
   ·rename_i r0 name hci;split at h
    ·rename_i rv hrv;split at h
     ·rename_i g out hg;split at h
      ·rename_i he;cases h;obtain ⟨cargs, h1, h2⟩ := zP1 hn hg he (zAg hf hrv) hav w;refine ⟨cargs, ?_, h2⟩;have h1' : (invoke (.fn (.method name) #[]) (#[a.eval r0] ++ c.args.map a.eval)).run P w = .ok (.enter g cargs.toArray) w := h1;simp only [execOp, resolve, hci, Sem.run_bind, Sem.run_pure, Result.andThen_ok, h1']
      ·cases h
     ·cases h
    ·cases h
  ·cases h
 case defer c =>
  simp only [zAM, zHp] at h;split at h
  ·rename_i args f hargs hcf;have hav := VRs.array hf hargs;split at h
   ·rename_i fv hfv;split at h
    ·rename_i g out hg;split at h
     ·rename_i he;cases h;obtain ⟨fv', cap, al, cargs, h1, h2, h3⟩ := zKa hn hg he (zAg hf hfv) hav;have h1' : (Deferred.ofValue (a.eval f) (c.args.map a.eval)).run P w = .ok { target := .fn fv' cap, args := al } w := h1 w;refine ⟨{ target := .fn fv' cap, args := al }, ?_, fv', cap, cargs, rfl, h2, h3⟩;simp only [execOp, resolve, hcf, Sem.run_bind, h1', Result.andThen_ok, Sem.run_pure]
     ·cases h
    ·cases h
   ·cases h
  ·cases h
 all_goals (simp [zAM] at h)
end
end Go.Proofs.YtenkabjkgngcdaaGreat.Ab
namespace Go.Proofs.YtenkabjkgngcdaaGreat.Ab
open Go
variable [Rho]
section
variable {P : Program}
def Bd (H : Heap) : Prop := ∀ id o, H.get id = some o → id < H.next
def LG (H H' : Heap) : Prop := Bd H → Bd H' ∧ ∃ l, H'.log = l ++ H.log ∧ (∀ id, id < H.next → id ∉ l → H'.get id = H.get id) ∧ H.next ≤ H'.next
theorem LG.refl (H : Heap) : LG H H := fun b => ⟨b, [], rfl, fun _ _ _ => rfl, Nat.le_refl _⟩
theorem LG.trans {a b c : Heap} (h : LG a b) (k : LG b c) : LG a c := fun bd => by
 obtain ⟨b1, l, h1, h2, h3⟩ := h bd;obtain ⟨b2, m, k1, k2, k3⟩ := k b1;refine ⟨b2, m ++ l, by rw [k1, h1, List.append_assoc], fun id hid hm => ?_, Nat.le_trans h3 k3⟩
 rw [k2 id (by omega) (fun e => hm (List.mem_append_left _ e)), h2 id hid (fun e => hm (List.mem_append_right _ e))]
theorem LG.new (H : Heap) (o : AObj) : LG H (H.new o) := fun b => ⟨fun id o' h => by
 rw [zBi] at h;show id < H.next + 1;split at h
 ·omega
 ·have := b id o' h; omega, [], rfl, fun id hid _ => by rw [zBi, if_neg (Nat.ne_of_lt hid)], Nat.le_succ _⟩
theorem LG.upd (H : Heap) (id : Nat) (o : AObj) : LG H (H.upd id o) := fun b => ⟨fun j o' h => by
 rw [zH2] at h;split at h
 ·rename_i e;cases hg : H.get id with
  | none => simp [hg] at h
  | some o2 => subst e; exact b _ _ hg
 ·exact b j o' h, [id], rfl, fun j _ hj => by rw [zH2, if_neg (by simpa using hj)], Nat.le_refl _⟩
theorem LG.kill (H : Heap) (id : Nat) : LG H (H.kill id) := fun b => ⟨fun j o' h => by
 rw [zIt] at h;split at h
 ·cases h
 ·exact b j o' h, [id], rfl, fun j _ hj => by rw [zIt, if_neg (by simpa using hj)], Nat.le_refl _⟩
theorem zYc {v p : AV} {H H' : Heap} (h : xB5 v H = some (p, H')) : LG H H' := by
 unfold xB5 at h;split at h
 ·cases h; exact LG.new _ _
 ·cases h
theorem zYg {e : TypeId} {p : AV} {H H' : Heap} (h : zL0 P e H = some (p, H')) : LG H H' := by
 unfold zL0 at h;split at h
 ·exact zYc h
 ·cases h
theorem zKr {t : TypeId} {n : Nat} {parts : List (Nat × AV)} {p : AV} {H H' : Heap} (h : zC3 P t n parts H = some (p, H')) : LG H H' := by
 unfold zC3 at h
 repeat' (split at h)
 all_goals first | (cases h; done) | (cases h; exact LG.new _ _)
theorem zTX {t : TypeId} {a v : AV} {H H' : Heap} (h : zKv P t a v H = some H') : LG H H' := by
 unfold zKv at h
 repeat' (split at h)
 all_goals first | (cases h; done) | (cases h; exact LG.upd _ _ _)
theorem zZS {s d : TypeId} {x p : AV} {H H' : Heap} (h : zPU P s d x H = some (p, H')) : LG H H' := by
 unfold zPU at h
 repeat' (split at h)
 all_goals first | (cases h; done) | (cases h; exact LG.refl _) | (cases h; exact LG.new _ _)
theorem zMl {t : TypeId} {l c p : AV} {H H' : Heap} (h : zDd P t l c H = some (p, H')) : LG H H' := by
 unfold zDd at h
 repeat' (split at h)
 all_goals first | (cases h; done) | (cases h; exact LG.new _ _)
theorem zMk {t : TypeId} {l c p : AV} {q : Tm} {H H' : Heap} (h : zDQ P t l c H = some (q, p, H')) : LG H H' ∧ H'.pc = H.pc := by
 unfold zDQ at h;split at h
 ·split at h
  ·rename_i by' k zc hby hz
   rename_i n _ _ _;revert h;cases (eqZ _ 0 && Nat.ble by' 1024) with
   | false => intro h; cases h
   | true => intro h; cases h; exact ⟨LG.new _ _, rfl⟩
  ·cases h
 ·cases h
theorem zRD {cells : List AV} {n k : Nat} {lf : Bool} {G : Heap} {p : AV} {H' : Heap} (h : zXb cells n k lf G = (p, H')) : LG G H' := by
 unfold zXb at h; cases h; exact LG.new _ _
theorem zTB {t : TypeId} {s x p : AV} {H H' : Heap} (h : zHE P t s x H = some (p, H')) : LG H H' := by
 unfold zHE at h
 repeat' (split at h)
 all_goals first
  | (cases h; done)
  | (cases h; exact LG.refl _)
  | (cases h; exact LG.upd _ _ _)
  | (exact zRD (Option.some.inj h))
  | (exact (LG.kill _ _).trans (zRD (Option.some.inj h)))
theorem zUh {b : Builtin} {ts : Array TypeId} {args : List AV} {q : Tm} {v : AV} {H H' : Heap} (h : zFD P b ts args H = some (q, v, H')) : LG H H' := by
 unfold zFD at h;simp only [cond] at h
 repeat' (split at h)
 all_goals first | (cases h; done) | (cases h; exact (LG.kill _ _).trans (LG.new _ _)) | (cases h; exact LG.new _ _)
theorem zZQ {t : TypeId} {d x p : AV} {H H' : Heap} (h : zT3 P t d x H = some (p, H')) : LG H H' := by
 unfold zT3 at h
 repeat' (split at h)
 all_goals first | (cases h; done) | (cases h; exact LG.upd _ _ _)
theorem zX9 {t : TypeId} {x p : AV} {H H' : Heap} (h : zLx P t x H = some (p, H')) : LG H H' := by
 unfold zLx at h
 repeat' (split at h)
 all_goals first | (cases h; done) | (cases h; exact LG.refl _) | (cases h; exact LG.upd _ _ _)
theorem zT1 {t : TypeId} {m k : AV} {H H' : Heap} (h : zFS P t m k H = some H') : LG H H' := by
 unfold zFS at h
 repeat' (split at h)
 all_goals first | (cases h; done) | (cases h; exact LG.upd _ _ _)
theorem zT0 {t : TypeId} {m k : AV} {H H' : Heap} (h : zFS P t m k H = some H') : H'.pc = H.pc := by
 unfold zFS at h
 repeat' (split at h)
 all_goals first | (cases h; done) | (cases h; rfl)
theorem zQh {b : Builtin} {ts : Array TypeId} {args : List AV} {p : AV} {H H' : Heap} (h : zFs P b ts args H = some (p, H')) : LG H H' := by
 unfold zFs at h
 repeat' (split at h)
 all_goals first | (cases h; done) | (cases h; exact LG.refl _) | (exact zTB h) | (exact zZQ h) | (exact zX9 h) | (rename_i hd; cases h; exact zT1 hd)
theorem zMi {t : TypeId} {m k v : AV} {H H' : Heap} (h : zCv P t m k v H = some H') : LG H H' := by
 unfold zCv at h
 repeat' (split at h)
 all_goals first | (cases h; done) | (cases h; exact LG.upd _ _ _)
theorem zMh {t : TypeId} {m k v : AV} {H H' : Heap} (h : zCv P t m k v H = some H') : H'.pc = H.pc := by
 unfold zCv at h
 repeat' (split at h)
 all_goals first | (cases h; done) | (cases h; rfl)
theorem zRu {fr : FR} {o : Oper} {v : AV} {H H' : Heap} (h : zAM P fr o H = some (.val v H')) : LG H H' := by
 unfold zAM at h;split at h
 all_goals first
  | (cases h; done)
  | (simp only [zJ5, zKX, zHq, zKY, zDa, zHr, zKW, zBg, zDb, zHm, zCt, zHo, zCs, zHn, zBL, zDN, zFg] at h
     repeat' (split at h)
     all_goals first | (cases h; done) | (cases h; exact LG.refl _))
  | (simp only [zHs] at h
     repeat' (split at h)
     all_goals first | (cases h; done) | (cases h; rename_i hh; exact zYg hh))
  | (simp only [zSW] at h
     repeat' (split at h)
     all_goals first | (cases h; done) | (cases h; rename_i hh; exact zYc hh))
  | (simp only [zBM] at h
     repeat' (split at h)
     all_goals first | (cases h; done) | (cases h; rename_i hh; exact zKr hh))
  | (simp only [zHl] at h
     repeat' (split at h)
     all_goals first | (cases h; done) | (cases h; rename_i hh; exact zTX hh))
  | (simp only [zDO] at h
     repeat' (split at h)
     all_goals first | (cases h; done) | (cases h; rename_i hh; exact zZS hh))
  | (simp only [zCr] at h
     repeat' (split at h)
     all_goals first | (cases h; done) | (cases h; rename_i hh; exact zMl hh))
  | (simp only [zCA] at h
     repeat' (split at h)
     all_goals first | (cases h; done) | (cases h; exact LG.new _ _))
  | (simp only [zBG] at h
     repeat' (split at h)
     all_goals first | (cases h; done) | (cases h; rename_i hh; exact zMi hh))
  | (simp only [zKZ] at h
     repeat' (split at h)
     all_goals first | (cases h; done) | (cases h; rename_i hh; exact zQh hh))
  | (simp only [zHp] at h
     repeat' (split at h)
     all_goals (cases h; done))
theorem xGS {fr : FR} {o : Oper} {q : Tm} {v : AV} {H H' : Heap} (h : zAM P fr o H = some (.ask q v H')) : LG H H' ∧ H'.pc = H.pc := by
 unfold zAM at h;split at h
 all_goals first
  | (cases h; done)
  | (simp only [zJ5, zKX, zHq, zKY, zDa, zHr, zKW, zBg, zDb, zHm, zCt, zHo, zCs, zHn, zBL, zDN, zFg, zCA, zBG, zHs, zSW, zBM, zHl, zDO, zCr, zKZ, zHp] at h
     repeat' (split at h)
     all_goals first | (cases h; done) | (cases h; rename_i hh; exact ⟨zUh hh, zUg hh⟩) | (cases h; rename_i hh; exact zMk hh))
theorem zW4 {fr : FR} {o : Oper} {l : List (Tm × AV)} {H H' : Heap} (h : zAM P fr o H = some (.many l H')) : H' = H := by
 unfold zAM at h;split at h
 all_goals first
  | (cases h; done)
  | (simp only [zJ5, zKX, zHq, zKY, zDa, zHr, zKW, zBg, zDb, zHm, zCt, zHo, zCs, zHn, zBL, zDN, zFg, zCA, zBG, zHs, zSW, zBM, zHl, zDO, zCr, zKZ, zHp] at h
     repeat' (split at h)
     all_goals first | (cases h; done) | (cases h; rfl))
theorem zQg {b : Builtin} {ts : Array TypeId} {args : List AV} {p : AV} {H H' : Heap} (h : zFs P b ts args H = some (p, H')) : H'.pc = H.pc := by
 unfold zFs at h
 repeat' (split at h)
 all_goals first
  | (cases h; done)
  | (cases h; rfl)
  | (unfold zHE at h; repeat' (split at h)
     all_goals first | (cases h; done) | (cases h; rfl))
  | (unfold zT3 at h; repeat' (split at h)
     all_goals first | (cases h; done) | (cases h; rfl))
  | (rename_i hd; cases h; exact zT0 hd)
  | (unfold zLx at h; repeat' (split at h)
     all_goals first | (cases h; done) | (cases h; rfl))
theorem zZR {s d : TypeId} {x p : AV} {H H' : Heap} (h : zPU P s d x H = some (p, H')) : H'.pc = H.pc := by
 unfold zPU at h
 repeat' (split at h)
 all_goals first | (cases h; done) | (cases h; rfl)
theorem xEQ {fr : FR} {o : Oper} {v : AV} {H H' : Heap} (h : zAM P fr o H = some (.val v H')) : H'.pc = H.pc := by
 unfold zAM at h;split at h
 all_goals first
  | (cases h; done)
  | (simp only [zJ5, zKX, zHq, zKY, zDa, zHr, zKW, zBg, zDb, zHm, zCt, zHo, zCs, zHn, zBL, zDN, zFg] at h
     repeat' (split at h)
     all_goals first | (cases h; done) | (cases h; rfl))
  | (simp only [zHs, zL0, xB5] at h
     repeat' (split at h)
     all_goals first | (cases h; done) | (cases h; rename_i hh; (repeat' (split at hh)) <;> first | (cases hh; done) | (cases hh; rfl)))
  | (simp only [zSW, xB5] at h
     repeat' (split at h)
     all_goals first | (cases h; done) | (cases h; rename_i hh; (repeat' (split at hh)) <;> first | (cases hh; done) | (cases hh; rfl)))
  | (simp only [zBM] at h
     repeat' (split at h)
     all_goals first | (cases h; done) | (cases h; rename_i hh; unfold zC3 at hh; (repeat' (split at hh)) <;> first | (cases hh; done) | (cases hh; rfl)))
  | (simp only [zHl] at h
     repeat' (split at h)
     all_goals first | (cases h; done) | (cases h; rename_i hh; unfold zKv at hh; (repeat' (split at hh)) <;> first | (cases hh; done) | (cases hh; rfl)))
  | (simp only [zDO] at h
     repeat' (split at h)
     all_goals first | (cases h; done) | (cases h; rename_i hh; exact zZR hh))
  | (simp only [zCr] at h
     repeat' (split at h)
     all_goals first | (cases h; done) | (cases h; rename_i hh; unfold zDd at hh; (repeat' (split at hh)) <;> first | (cases hh; done) | (cases hh; rfl)))
  | (simp only [zCA] at h
     repeat' (split at h)
     all_goals first | (cases h; done) | (cases h; rfl))
  | (simp only [zBG] at h
     repeat' (split at h)
     all_goals first | (cases h; done) | (cases h; rename_i hh; exact zMh hh))
  | (simp only [zKZ] at h
     repeat' (split at h)
     all_goals first | (cases h; done) | (cases h; rename_i hh; exact zQg hh))
  | (simp only [zHp] at h
     repeat' (split at h)
     all_goals (cases h; done))
def PC (H : Heap) : Prop := ∀ p ∈ H.pc, p.1.den.asB = p.2
theorem LG.wpc (H : Heap) (pc : List (Tm × Bool)) : LG H (H.wpc pc) := fun b => ⟨b, [], rfl, fun _ _ _ => rfl, Nat.le_refl _⟩
theorem zDS : ∀ (l : List (Tm × Bool)) (c : Tm) (b : Bool), (∀ p ∈ l, p.1.den.asB = p.2) → known l c = some b → c.den.asB = b
 | [], c, b, _, h => by simp [known] at h
 | p :: l, c, b, hp, h => by
  simp only [known] at h;cases he : p.1.eqv c with
  | true =>
   rw [he] at h; simp at h;rw [← Tm.eqv_eq _ _ he, hp p (by simp), h]
  | false =>
   rw [he] at h; simp at h;exact zDS l c b (fun q hq => hp q (by simp [hq])) h
theorem zEy {α : Type} {c : Tm} {H : Heap} {x y : Heap → Tree α} {r : α} (hp : PC H) (h : (xAj c H x y).sel = some r) :
  ∃ pc, PC (H.wpc pc) ∧ ((c.den.asB = true ∧ (x (H.wpc pc)).sel = some r) ∨ (c.den.asB = false ∧ (y (H.wpc pc)).sel = some r)) := by
 unfold xAj at h;split at h
 ·exact ⟨H.pc, hp, .inl ⟨rfl, h⟩⟩
 ·exact ⟨H.pc, hp, .inr ⟨rfl, h⟩⟩
 ·split at h
  ·rename_i hk; exact ⟨H.pc, hp, .inl ⟨zDS _ _ _ hp hk, h⟩⟩
  ·rename_i hk; exact ⟨H.pc, hp, .inr ⟨zDS _ _ _ hp hk, h⟩⟩
  ·split at h
   ·rename_i hk;have := zDS _ _ _ hp hk;rw [zFh] at this;exact ⟨H.pc, hp, .inr ⟨by simpa using this, h⟩⟩
   ·rename_i hk;have := zDS _ _ _ hp hk;rw [zFh] at this;exact ⟨H.pc, hp, .inl ⟨by simpa using this, h⟩⟩
   ·simp only [Tree.sel] at h;cases hc : c.den.asB with
    | true =>
     rw [hc] at h;refine ⟨(c, true) :: H.pc, ?_, .inl ⟨rfl, h⟩⟩;intro p hp';rcases List.mem_cons.1 hp' with rfl | hp'
     ·exact hc
     ·exact hp p hp'
    | false =>
     rw [hc] at h;refine ⟨(c, false) :: H.pc, ?_, .inr ⟨rfl, h⟩⟩;intro p hp';rcases List.mem_cons.1 hp' with rfl | hp'
     ·exact hc
     ·exact hp p hp'
theorem zNS {α : Type} : ∀ {l : List (Tm × AV)} {H : Heap} {k : AV → Heap → Tree α} {r : α}, PC H → (zW5 l H k).sel = some r → ∃ v pc, zEh l = some v ∧ PC (H.wpc pc) ∧ (k v (H.wpc pc)).sel = some r
 | [], H, k, r, hp, h => by simp [zW5, Tree.sel] at h
 | p :: l, H, k, r, hp, h => by
  simp only [zW5] at h;obtain ⟨pc, h1, ⟨h2, h3⟩ | ⟨h2, h3⟩⟩ := zEy hp h
  ·exact ⟨p.2, pc, by simp [zEh, h2], h1, h3⟩
  ·obtain ⟨v, pc2, h4, h5, h6⟩ := zNS h1 h3;exact ⟨v, pc2, by simp [zEh, h2, h4], h5, h6⟩
def zCM (P : Program) (f : FuncId) (args : List AV) (H : Heap) (v : AV) (H' : Heap) : Prop :=
 ∀ μ w cargs, VRs μ args cargs → Rep μ H.get w → Dom μ H.next → Calls P f (List.toArray cargs) w fun e w' => ∃ μ' c, e = .returned c ∧ VR μ' v c ∧ Evo μ H.get H.next w μ' H'.get H'.next w'
def DRel (P : Program) (μ : Mu) : List (FuncId × List AV) → List Deferred → Prop
 | [], l => l = []
 | x :: df, l => ∃ d r, DefR P μ x d ∧ DRel P μ df r ∧ l = d :: r
theorem DefR.ext {μ μ' : Mu} (e : Ext μ μ') {x : FuncId × List AV} {d : Deferred} (h : DefR P μ x d) : DefR P μ' x d := by
 obtain ⟨fv, cap, cargs, h1, h2, h3⟩ := h;exact ⟨fv, cap, cargs, h1, h2, h3.ext e⟩
theorem DRel.ext {μ μ' : Mu} (e : Ext μ μ') : ∀ {x : List (FuncId × List AV)} {d : List Deferred}, DRel P μ x d → DRel P μ' x d
 | [], _, h => h
 | _ :: _, _, h => by obtain ⟨d, r, h1, h2, h3⟩ := h; exact ⟨d, r, h1.ext e, DRel.ext e h2, h3⟩
theorem DRel.append {μ : Mu} : ∀ {a b : List (FuncId × List AV)} {x y : List Deferred}, DRel P μ a x → DRel P μ b y → DRel P μ (a ++ b) (x ++ y)
 | [], _, _, _, h, k => by cases h; exact k
 | _ :: _, _, _, _, h, k => by obtain ⟨d, r, h1, h2, rfl⟩ := h; exact ⟨d, _, h1, DRel.append h2 k, rfl⟩
structure SRel (P : Program) (μ : Mu) (st : St) (a : Act) (w : World) : Prop where
 fr : FRel μ st.fr a.tmps
 nt : a.tmps.size = st.nt
 df : DRel P μ st.df a.defers
 rep : Rep μ st.H.get w
 dom : Dom μ st.H.next
def zOJ {α : Type} (P : Program) (cf : zCE α) : Prop := ∀ f args H k r, PC H → (cf f args H k).sel = some r → ∃ v H', (k v H').sel = some r ∧ PC H' ∧ zCM P f args H v H' ∧ LG H H'
def zOG (ops : Array Oper) (fr : FR) (o : Oper) (b : Bool) : Prop := ∀ {μ : Mu} {tmps : Array Value}, FRel μ fr tmps → Region.wanted o (yielded ops tmps) = b
def zTE (P : Program) (o : Oper) (fr : FR) (H : Heap) (v : AV) (H' : Heap) (ds : List (FuncId × List AV)) : Prop :=
 LG H H' ∧ ∀ {μ : Mu} {a : Act} {w : World}, FRel μ fr a.tmps → Rep μ H.get w → Dom μ H.next → ∀ {next : Act → World → Prop} {Q : Exit → Act → World → Prop},
  (∀ μ' c w' dl, Evo μ H.get H.next w μ' H'.get H'.next w' → VR μ' v c → DRel P μ' ds dl → next ({ a with defers := dl ++ a.defers }.put o.dst c) w') → o.wp P a w next Q
theorem zI1 {ops : Array Oper} {fr : FR} {o : Oper} (h : zE6 ops fr o = some .yes) : zOG ops fr o true := by
 intro μ tmps hf;unfold zE6 at h;unfold Region.wanted;split at h
 ·rename_i hg; simp [hg]
 ·rename_i j want hg;simp only [hg];split at h
  ·rename_i t ht;split at h
   ·rename_i u hu;obtain ⟨c, h1, h2⟩ := hf t _ hu;cases h2;cases hb : (u == want) with
    | true => simpa [yielded, ht, h1] using hb
    | false => simp [hb] at h
   ·cases h
   ·cases h
   ·cases h
  ·cases h
theorem zKt {ops : Array Oper} {fr : FR} {o : Oper} (h : zE6 ops fr o = some .no) : zOG ops fr o false := by
 intro μ tmps hf;unfold zE6 at h;unfold Region.wanted;split at h
 ·cases h
 ·rename_i j want hg;simp only [hg];split at h
  ·rename_i t ht;split at h
   ·rename_i u hu;obtain ⟨c, h1, h2⟩ := hf t _ hu;cases h2;cases hb : (u == want) with
    | false => simpa [yielded, ht, h1] using hb
    | true => simp [hb] at h
   ·cases h
   ·rename_i l hl;obtain ⟨c, h1, h2⟩ := hf t _ hl;obtain ⟨x, _, rfl⟩ := h2;simp [yielded, ht, h1]
   ·cases h
  ·cases h
theorem zHH {ops : Array Oper} {fr : FR} {o : Oper} {t : Tm} {b : Bool} (h : zE6 ops fr o = some (.hang t b)) : zOG ops fr o (t.den.asB == b) := by
 intro μ tmps hf;unfold zE6 at h;unfold Region.wanted;split at h
 ·cases h
 ·rename_i j want hg;simp only [hg];split at h
  ·rename_i s hs;split at h
   ·rename_i u hu;cases hb : (u == want) <;> simp [hb] at h
   ·rename_i u hu;cases h;obtain ⟨c, h1, h2⟩ := hf s _ hu;cases h2;simp [yielded, hs, h1]
   ·cases h
   ·cases h
  ·cases h
theorem zMM (hn : NoCount P) {α : Type} {cf : zCE α} (hc : zOJ P cf) {o : Oper} {fr : FR} {H : Heap} {k : AV → Heap → List (FuncId × List AV) → Tree α} {r : α} (hp : PC H) (h : (zS6 P cf o fr H k).sel = some r) :
  ∃ v H' ds, (k v H' ds).sel = some r ∧ PC H' ∧ zTE P o fr H v H' ds := by
 unfold zS6 at h;split at h
 ·rename_i v H2 ho;refine ⟨v, H2, [], h, (by unfold PC; rw [xEQ ho]; exact hp), zRu ho, ?_⟩
  intro μ a w hf hr hd next Q hk;unfold Oper.wp;obtain ⟨μ', c, w', h1, h2, h3⟩ := zDM hn ho hf hr hd;have := hk μ' c w' [] h3 h2 rfl;rcases h1 with h1 | ⟨h1, rfl⟩
  ·rw [h1]; exact this
  ·rw [h1]; exact this
 ·rename_i l H2 ho;have := zW4 ho;subst this;obtain ⟨v, pc, h1, h2, h3⟩ := zNS hp h;refine ⟨v, _, [], h3, h2, LG.wpc _ _, ?_⟩;intro μ a w hf hr hd next Q hk;unfold Oper.wp;obtain ⟨μ', c, w', h4, h5, h6⟩ := zDM hn ho hf hr hd v h1;have := hk μ' c w' [] h6 h5 rfl;rcases h4 with h4 | ⟨h4, rfl⟩
  ·rw [h4]; exact this
  ·rw [h4]; exact this
 ·rename_i f args ho;obtain ⟨v, H', h1, h2, h3, h4⟩ := hc _ _ _ _ _ hp h;refine ⟨v, H', [], h1, h2, h4, ?_⟩;intro μ a w hf hr hd next Q hk;unfold Oper.wp;obtain ⟨cargs, q1, q2⟩ := zDM hn ho hf hr hd;rw [q1];refine (h3 μ w cargs q2 hr hd).mono fun e w' he => ?_;obtain ⟨μ', c, rfl, h5, h6⟩ := he;exact hk μ' c w' [] h6 h5 rfl
 ·rename_i f args ho;refine ⟨zBK, H, [(f, args)], h, hp, LG.refl _, ?_⟩;intro μ a w hf hr hd next Q hk;unfold Oper.wp;obtain ⟨d, h1, h2⟩ := zDM hn ho hf hr hd;rw [h1];exact hk μ undef w [d] (Evo.refl hr hd) (zFe μ) ⟨d, [], h2, rfl, rfl⟩
 ·rename_i q v H2 ho;obtain ⟨g1, g2⟩ := xGS ho;obtain ⟨pc, h1, ⟨h2, h3⟩ | ⟨h2, h3⟩⟩ := zEy hp h
  ·refine ⟨v, _, [], h3, h1, g1.trans (LG.wpc _ _), ?_⟩;intro μ a w hf hr hd next Q hk;unfold Oper.wp;obtain ⟨μ', c, w', h4, h5, h6⟩ := zDM hn ho hf hr hd h2;have := hk μ' c w' [] h6 h5 rfl;rcases h4 with h4 | ⟨h4, rfl⟩
   ·rw [h4]; exact this
   ·rw [h4]; exact this
  ·simp [Tree.sel] at h3
 ·simp [Tree.sel] at h
theorem SRel.put {μ μ' : Mu} {st : St} {a : Act} {w w' : World} (s : SRel P μ st a w) {H' : Heap} (ev : Evo μ st.H.get st.H.next w μ' H'.get H'.next w') {dst : Option Tmp} {v : AV} {fr : FR} (hp : zMD st.nt st.fr dst v = some fr) {c : Value} (hv : VR μ' v c)
  {ds : List (FuncId × List AV)} {dl : List Deferred} (hd : DRel P μ' ds dl) : SRel P μ' ⟨st.nt, fr, H', ds ++ st.df⟩ ({ a with defers := dl ++ a.defers }.put dst c) w' := by
 have hp' : zMD ({ a with defers := dl ++ a.defers } : Act).tmps.size st.fr dst v = some fr := by
  show zMD a.tmps.size st.fr dst v = some fr;rw [s.nt]; exact hp
 obtain ⟨h1, h2, h3⟩ := FRel.put (a := { a with defers := dl ++ a.defers }) (s.fr.ext ev.ext) hv hp'
 exact ⟨h1, h2.trans s.nt, by rw [h3]; exact hd.append (s.df.ext ev.ext), ev.rep, ev.dom⟩
def xIE (P : Program) (ops : Array Oper) (l : List Oper) (k : Nat) (st st' : St) : Prop :=
 LG st.H st'.H ∧ ∀ {Q : Exit → Act → World → Prop} {μ : Mu} {a : Act} {w : World}, SRel P μ st a w → (∀ μ' a' w', Evo μ st.H.get st.H.next w μ' st'.H.get st'.H.next w' → SRel P μ' st' a' w' → Q .normal a' w') → wpOps P ops Q (List.range' k l.length) a w
theorem zJS (hn : NoCount P) {α : Type} {cf : zCE α} (hc : zOJ P cf) (ops : Array Oper) : ∀ (l : List Oper) (k : Nat), (∀ i, l[i]? = ops[k + i]?) → ∀ (st : St) (K : St → Tree α) (r : α), PC st.H → (zOl P cf ops l st K).sel = some r →
  ∃ st', (K st').sel = some r ∧ PC st'.H ∧ xIE P ops l k st st'
 | [], k, _, st, K, r, hp, h => by
  simp only [zOl] at h;exact ⟨st, h, hp, LG.refl _, fun s hq => hq _ _ _ (Evo.refl s.rep s.dom) s⟩
 | o :: l, k, hl, ⟨nt, fr, H, df⟩, K, r, hp, h => by
  have hok : ops[k]? = some o := by have := hl 0; simpa using this.symm
  have hl' : ∀ i, l[i]? = ops[k + 1 + i]? := fun i => by
   have := hl (i + 1);simp only [List.getElem?_cons_succ] at this;rw [this]; congr 1; omega
  have yes : ∀ pc, PC (H.wpc pc) → zOG ops fr o true → (zS6 P cf o fr (H.wpc pc) fun v H d => match zMD nt fr o.dst v with
    | some fr => zOl P cf ops l ⟨nt, fr, H, d ++ df⟩ K
    | none => .fail).sel = some r → ∃ st', (K st').sel = some r ∧ PC st'.H ∧ xIE P ops (o :: l) k ⟨nt, fr, H, df⟩ st' := fun pc hp' hw h => by
   obtain ⟨v, H2, ds, h1, h2, h3, h4⟩ := zMM hn hc hp' h;split at h1
   ·rename_i fr' hput;obtain ⟨st', q1, q2, q3, q4⟩ := zJS hn hc ops l (k + 1) hl' _ K r h2 h1;refine ⟨st', q1, q2, ((LG.wpc H pc).trans h3).trans q3, fun {Q μ a w} s hq => ?_⟩;simp only [List.length_cons, List.range'_succ, wpOps, hok];rw [hw s.fr];simp only [if_true];left;refine h4 s.fr s.rep s.dom fun μ' c w' dl ev hv hd => ?_;exact q4 (s.put ev hput hv hd) fun μ2 a2 w2 ev2 s2 => hq μ2 a2 w2 (ev.trans ev2) s2
   ·simp [Tree.sel] at h1
  have no : ∀ pc, PC (H.wpc pc) → zOG ops fr o false → (match zMD nt fr o.dst zBK with
    | some fr => zOl P cf ops l ⟨nt, fr, H.wpc pc, df⟩ K
    | none => Tree.fail).sel = some r → ∃ st', (K st').sel = some r ∧ PC st'.H ∧ xIE P ops (o :: l) k ⟨nt, fr, H, df⟩ st' := fun pc hp' hw h1 => by
   split at h1
   ·rename_i fr' hput;obtain ⟨st', q1, q2, q3, q4⟩ := zJS hn hc ops l (k + 1) hl' _ K r hp' h1;refine ⟨st', q1, q2, (LG.wpc H pc).trans q3, fun {Q μ a w} s hq => ?_⟩;simp only [List.length_cons, List.range'_succ, wpOps, hok];rw [hw s.fr];simp only [Bool.false_eq_true, if_false];exact q4 (s.put (H' := H.wpc pc) (Evo.refl s.rep s.dom) hput (zFe μ) (ds := []) (dl := []) rfl) hq
   ·simp [Tree.sel] at h1
  simp only [zOl] at h;split at h
  ·rename_i hw; exact yes H.pc hp (zI1 hw) h
  ·rename_i hw; exact no H.pc hp (zKt hw) h
  ·rename_i t b hw;have hw' := @zHH _ _ _ _ _ _ hw;obtain ⟨pc, h1, ⟨h2, h3⟩ | ⟨h2, h3⟩⟩ := zEy hp h
   ·cases b with
    | true => exact yes pc h1 (fun hf => by rw [hw' hf, h2]; rfl) h3
    | false => exact no pc h1 (fun hf => by rw [hw' hf, h2]; rfl) h3
   ·cases b with
    | true => exact no pc h1 (fun hf => by rw [hw' hf, h2]; rfl) h3
    | false => exact yes pc h1 (fun hf => by rw [hw' hf, h2]; rfl) h3
  ·simp [Tree.sel] at h
end
end Go.Proofs.YtenkabjkgngcdaaGreat.Ab
namespace Go.Proofs.YtenkabjkgngcdaaGreat.Ab
open Go
variable [Rho]
section
variable {P : Program}
theorem VRs.back_mem {μ μ' : Mu} (e : Ext μ μ') : ∀ {v : List AV} {c : List Value}, (∀ x ∈ v, ∃ c0, VR μ x c0) → VRs μ' v c → VRs μ v c
 | [], _, _, h => h
 | v :: l, _, h0, h => by
  obtain ⟨x, r, h1, h2, h3⟩ := h;obtain ⟨x0, p⟩ := h0 v (by simp)
  exact ⟨x, r, VR.back e v x x0 p h1, VRs.back_mem e (fun y hy => h0 y (by simp [hy])) h2, h3⟩
theorem RepO.back {μ μ' : Mu} (e : Ext μ μ') {id : Nat} {w w' : World} {o : AObj} (h0 : RepO μ id w o) (h : RepO μ' id w' o) : RepO μ id w' o := by
 cases o with
 | row vs own lf =>
  obtain ⟨l0, c0, t0, lo0, hi0, p1, p2, p3, p4, p5, p6, p7⟩ := h0;obtain ⟨l, c, t, lo, hi, h1, h2, h3, h4, h5, h6, h7⟩ := h;rw [e _ _ p1.1] at h1;obtain ⟨h1, _⟩ := h1;cases h1;refine ⟨l0, c, t, lo, hi, p1, h2, h3, h4, h5, h6, fun i x hx => ?_⟩;obtain ⟨h8, y, h9, h10⟩ := h7 i x hx;obtain ⟨_, y0, _, q10⟩ := p7 i x hx;exact ⟨h8, y, h9, VR.back e x y y0 q10 h10⟩
 | bytes t own =>
  obtain ⟨l0, c0, t0, lo0, hi0, p1, p2⟩ := h0;obtain ⟨l, c, e', lo, hi, h1, h2⟩ := h;rw [e _ _ p1.1] at h1;obtain ⟨h1, _⟩ := h1;cases h1;exact ⟨l0, c, e', lo, hi, p1, h2⟩
 | seq sh t own =>
  obtain ⟨l0, p1, p2⟩ := h0;obtain ⟨l, h1, h2⟩ := h;rw [e _ _ p1] at h1; cases h1;exact ⟨l0, p1, h2⟩
 | pin b q => exact h0
 | abs p t =>
  obtain ⟨l0, c0, t0, lo0, hi0, p1, p2⟩ := h0;obtain ⟨l, c, e', lo, hi, h1, h2⟩ := h;rw [e _ _ p1.1] at h1;obtain ⟨h1, _⟩ := h1;cases h1;exact ⟨l0, c, e', lo, hi, p1, h2⟩
 | nst sh t jn z N k2 =>
  obtain ⟨l0, c0, e0, lo0, hi0, p1, p2, p3, p4, p5, p6⟩ := h0;obtain ⟨l, c, e', lo, hi, h1, h2, h3, h4, h5, h6⟩ := h;rw [e _ _ p1.1] at h1;obtain ⟨h1, _⟩ := h1;cases h1;refine ⟨l0, c, e', lo, hi, p1, h2, h3, h4, h5, fun i hi' j kd hj => ?_⟩;obtain ⟨y, h7, h8⟩ := h6 i hi' j kd hj;obtain ⟨y0, _, q8⟩ := p6 i hi' j kd hj;exact ⟨y, h7, VR.back e _ y y0 q8 h8⟩
 | map es =>
  obtain ⟨l0, ents0, clock0, es0, p1, p2, p3, p4, p5⟩ := h0;obtain ⟨l, ents, clock, es', h1, h2, h3, h4, h5⟩ := h;rw [e _ _ p1.1] at h1;obtain ⟨h1, _⟩ := h1;cases h1;refine ⟨l0, ents, clock, es', p1, h2, ?_, ?_⟩
  ·exact h3
  ·have hmem : ∀ p ∈ es', p ∈ es0 := fun p hp => (p3.trans h3.symm).mem_iff.2 hp;have k1 : ∀ x ∈ es'.map (·.1), ∃ c0, VR μ x c0 := fun x hx => by
    obtain ⟨p, hp, rfl⟩ := List.mem_map.1 hx;obtain ⟨i, hi⟩ := List.mem_iff_getElem?.1 (hmem p hp);obtain ⟨c, _, hc⟩ := p4.get i p.1 (by simp [hi])
    exact ⟨c, hc⟩
   have k2 : ∀ x ∈ es'.map (·.2), ∃ c0, VR μ x c0 := fun x hx => by
    obtain ⟨p, hp, rfl⟩ := List.mem_map.1 hx;obtain ⟨i, hi⟩ := List.mem_iff_getElem?.1 (hmem p hp);obtain ⟨c, _, hc⟩ := p5.get i p.2 (by simp [hi])
    exact ⟨c, hc⟩
   exact ⟨VRs.back_mem e k1 h4, VRs.back_mem e k2 h5⟩
theorem zR5 (t : Nat) : lk [] t = none := rfl
theorem zWC (fr : FR) : ∀ (l : List Tmp) (t : Nat) (v : AV), lk (nar fr l) t = some v → t ∈ l ∧ lk fr t = some v
 | [], t, v, h => by simp [nar, zR5] at h
 | s :: l, t, v, h => by
  simp only [nar] at h;split at h
  ·rename_i u hu;rw [zDD] at h;split at h
   ·rename_i e; cases h; subst e; exact ⟨by simp, hu⟩
   ·obtain ⟨h1, h2⟩ := zWC fr l t v h; exact ⟨by simp [h1], h2⟩
  ·obtain ⟨h1, h2⟩ := zWC fr l t v h; exact ⟨by simp [h1], h2⟩
theorem zBH (f : Nat → Bool) : ∀ (l : List (Nat × AObj)) (id : Nat), look (l.filter fun p => f p.1) id = if f id then look l id else none
 | [], id => by simp [look_nil]
 | p :: l, id => by
  rw [List.filter_cons];by_cases h : f p.1 = true
  ·simp only [h, if_true, zBh, zBH f l id];cases hb : Nat.beq p.1 id with
   | true => have := Nat.eq_of_beq_eq_true hb; subst this; simp [h]
   | false => simp
  ·rw [if_neg h, zBH f l id];simp only [zBh];cases hb : Nat.beq p.1 id with
   | true => have := Nat.eq_of_beq_eq_true hb; subst this; simp [h]
   | false => simp
theorem zB2 (x : Nat) : ∀ l : List Nat, zFw x l = true ↔ x ∈ l
 | [] => by simp [zFw]
 | y :: l => by
  simp only [zFw, List.mem_cons];cases hb : Nat.beq y x with
  | true => simp [Nat.eq_of_beq_eq_true hb]
  | false =>
   have : x ≠ y := fun e => by subst e; simp at hb
   simp [this, zB2 x l]
theorem zFj (objs : List (Nat × AObj)) : ∀ (ids : List Nat) (id : Nat), look (zPv objs ids) id = if ids.contains id then look objs id else none
 | [], id => by simp [zPv, look_nil]
 | a :: l, id => by
  simp only [zPv];by_cases e : a = id
  ·subst e;split
   ·rename_i o ho;simp [zBh, ho]
   ·rename_i ho;rw [zFj objs l a, ho];simp
  ·have hb : Nat.beq a id = false := by
    cases hb : Nat.beq a id with
    | false => rfl
    | true => exact absurd (Nat.eq_of_beq_eq_true hb) e
   have hne : id ≠ a := fun h => e h.symm;split
   ·rw [zBh, hb, cond_false, zFj objs l id];simp [hne]
   ·rw [zFj objs l id];simp [hne]
theorem zD4 (H : Heap) (ids : List Nat) (id : Nat) : (restrict H ids).get id = if ids.contains id then H.get id else none := zFj H.objs ids id
theorem zAD (H : Heap) (ids : List Nat) : (restrict H ids).next = H.next := rfl
theorem zHO (H : Heap) (ids : List Nat) : (restrict H ids).log = [] := rfl
theorem zEn : ∀ (a b : List (Nat × AObj)) (id : Nat), look (a ++ b) id = match look a id with | some o => some o | none => look b id
 | [], b, id => by simp [look_nil]
 | p :: a, b, id => by
  simp only [List.cons_append, zBh];cases Nat.beq p.1 id with
  | true => simp
  | false => simpa using zEn a b id
theorem zHy (n m : Nat) : ∀ (l : List (Nat × AObj)) (id : Nat), look (fresh n m l) id = if n ≤ id ∧ id < m then look l id else none
 | [], id => by simp [fresh, look_nil]
 | p :: l, id => by
  simp only [fresh];have hpb : (Nat.ble n p.1 && Nat.blt p.1 m) = decide (n ≤ p.1 ∧ p.1 < m) := by
   rw [Bool.eq_iff_iff]; simp [Nat.blt_eq]
  split
  ·rename_i h;rw [hpb] at h;simp only [zBh, zHy n m l id];cases hb : Nat.beq p.1 id with
   | true => have := Nat.eq_of_beq_eq_true hb; subst this; simp at h; simp [h]
   | false => simp
  ·rename_i h;rw [hpb] at h;simp only [zBh, zHy n m l id];cases hb : Nat.beq p.1 id with
   | true =>
    have := Nat.eq_of_beq_eq_true hb; subst this;simp at h;rw [if_neg (by omega), if_neg (by omega)]
   | false => simp
theorem zGI (ids : List Nat) (R : Heap) (n : Nat) : ∀ (log : List Nat) (l : List (Nat × AObj)) (id : Nat),
  (¬ (id ∈ log ∧ id ∈ ids ∧ id < n) → look (zSx ids R n log l) id = look l id) ∧ ((id ∈ log ∧ id ∈ ids ∧ id < n) → ∀ o, look (zSx ids R n log l) id = some o → R.get id = some o)
 | [], l, id => ⟨fun _ => rfl, fun h => by simp at h⟩
 | a :: log, l, id => by
  simp only [zSx];cases hq : (Nat.blt a n && zFw a ids) with
  | false =>
   simp only [cond_false];obtain ⟨h1, h2⟩ := zGI ids R n log l id;have hna : ¬ (a ∈ ids ∧ a < n) := fun ⟨q1, q2⟩ => by
    rw [(zB2 a ids).2 q1, (show Nat.blt a n = true by simpa [Nat.blt_eq] using q2)] at hq; cases hq
   refine ⟨fun hn => h1 fun ⟨q1, q2⟩ => hn ⟨by simp [q1], q2⟩, fun ⟨q1, q2⟩ => h2 ⟨?_, q2⟩⟩
   rcases List.mem_cons.1 q1 with rfl | q1
   ·exact absurd q2 hna
   ·exact q1
  | true =>
   simp only [cond_true];simp only [Bool.and_eq_true] at hq;have ha : a ∈ ids ∧ a < n := ⟨(zB2 a ids).1 hq.2, (by simpa [Nat.blt_eq] using hq.1)⟩
   split
   ·rename_i o' ho';obtain ⟨h1, h2⟩ := zGI ids R n log (xCH l a o') id;refine ⟨fun hn => ?_, fun hm o ho => ?_⟩
    ·have hne : id ≠ a := fun e => hn (by subst e; exact ⟨by simp, ha⟩)
     rw [h1 fun ⟨q1, q2⟩ => hn ⟨by simp [q1], q2⟩, zJE, if_neg hne]
    ·by_cases hin : id ∈ log
     ·exact h2 ⟨hin, hm.2⟩ o ho
     ·have e : id = a := by
       rcases List.mem_cons.1 hm.1 with e | e
       ·exact e
       ·exact absurd e hin
      subst e;rw [h1 fun ⟨q1, _⟩ => hin q1, zJE, if_pos rfl] at ho;cases hl : look l id with
      | none => rw [hl] at ho; cases ho
      | some _ => rw [hl] at ho; cases ho; exact ho'
   ·rename_i ho';obtain ⟨h1, h2⟩ := zGI ids R n log (drp l a) id;refine ⟨fun hn => ?_, fun hm o ho => ?_⟩
    ·have hne : id ≠ a := fun e => hn (by subst e; exact ⟨by simp, ha⟩)
     rw [h1 fun ⟨q1, q2⟩ => hn ⟨by simp [q1], q2⟩, zMp, if_neg hne]
    ·by_cases hin : id ∈ log
     ·exact h2 ⟨hin, hm.2⟩ o ho
     ·have e : id = a := by
       rcases List.mem_cons.1 hm.1 with e | e
       ·exact e
       ·exact absurd e hin
      subst e;rw [h1 fun ⟨q1, _⟩ => hin q1, zMp, if_pos rfl] at ho;cases ho
theorem zDc (H : Heap) (F : List Nat) (R : Heap) : (merge H F R).next = R.next := by
 unfold merge; split
 ·cases Nat.beq R.next H.next <;> rfl
 ·rfl
theorem zWz (H : Heap) (F : List Nat) (R : Heap) : (merge H F R).log = R.log ++ H.log := by
 unfold merge; split
 ·rename_i h; rw [h]; cases Nat.beq R.next H.next <;> rfl
 ·rename_i h; rw [h]
theorem zR1 (H : Heap) (F : List Nat) (R : Heap) : (merge H F R).pc = R.pc := by
 unfold merge; split
 ·cases Nat.beq R.next H.next <;> rfl
 ·rfl
theorem zW0 (H : Heap) (F : List Nat) (R : Heap) (id : Nat) : (merge H F R).get id = match (if H.next ≤ id ∧ id < R.next then R.get id else none) with
  | some o => some o
  | none => look (zSx F R H.next R.log H.objs) id := by
 have e1 : look (fresh H.next R.next R.objs) id = if H.next ≤ id ∧ id < R.next then R.get id else none := zHy _ _ _ _
 unfold merge;split
 ·rename_i h;rw [h];cases hb : Nat.beq R.next H.next with
  | true =>
   have := Nat.eq_of_beq_eq_true hb;rw [if_neg (by omega)]
   rfl
  | false =>
   show look (fresh H.next R.next R.objs ++ H.objs) id = _;rw [zEn, e1]; rfl
 ·rename_i a l h;rw [h];show look (fresh H.next R.next R.objs ++ zSx F R H.next (a :: l) H.objs) id = _;rw [zEn, e1]
def xHn (n : Nat) (F : List Nat) (R : Heap) (id : Nat) : Prop := (id ∈ R.log ∧ id ∈ F ∧ id < n) ∨ (n ≤ id ∧ id < R.next)
theorem Bd.restrict {H : Heap} (b : Bd H) (F : List Nat) : Bd (restrict H F) := fun id o h => by
 rw [zD4] at h;rw [zAD];split at h
 ·exact b id o h
 ·cases h
theorem zGN {H R : Heap} {F : List Nat} (lg : LG (restrict H F) R) (bd : Bd H) (id : Nat) :
  (xHn H.next F R id → ∀ o, (merge H F R).get id = some o → R.get id = some o) ∧ (¬ xHn H.next F R id → (merge H F R).get id = H.get id) ∧ Bd (merge H F R) := by
 obtain ⟨_, l, l1, l2, l3⟩ := lg (bd.restrict F);rw [zHO, List.append_nil] at l1;subst l1;rw [zAD] at l2 l3;have hm := zW0 H F R;have hu := fun id => zGI F R H.next R.log H.objs id;have hnone : ∀ id, H.next ≤ id → H.get id = none := fun id h => by
  cases hg : H.get id with
  | none => rfl
  | some o => have := bd id o hg; omega
 refine ⟨?_, ?_, ?_⟩
 ·rintro (⟨h1, h2, h3⟩ | ⟨h1, h2⟩) o ho
  ·rw [hm, if_neg (by omega)] at ho
   exact (hu id).2 ⟨h1, h2, h3⟩ o ho
  ·rw [hm, if_pos ⟨h1, h2⟩] at ho;cases hg : R.get id with
   | some o' => rw [hg] at ho; exact ho
   | none =>
    rw [hg] at ho;have e : look (zSx F R H.next R.log H.objs) id = H.get id := (hu id).1 fun h => by omega
    have ho' : look (zSx F R H.next R.log H.objs) id = some o := ho;rw [e, hnone id h1] at ho'; cases ho'
 ·intro hn;have h1 : ¬ (H.next ≤ id ∧ id < R.next) := fun h => hn (.inr h);rw [hm, if_neg h1];exact (hu id).1 fun h => hn (.inl h)
 ·intro id o ho;rw [zDc];rw [hm] at ho;by_cases h1 : H.next ≤ id ∧ id < R.next
  ·exact h1.2
  ·rw [if_neg h1] at ho;by_cases h2 : id < H.next
   ·omega
   ·have e : look (zSx F R H.next R.log H.objs) id = H.get id := (hu id).1 fun h => by omega
    have ho' : look (zSx F R H.next R.log H.objs) id = some o := ho;rw [e, hnone id (by omega)] at ho'; cases ho'
end
end Go.Proofs.YtenkabjkgngcdaaGreat.Ab
namespace Go.Proofs.YtenkabjkgngcdaaGreat.Ab
open Go
variable [Rho]
section
variable {P : Program}
theorem zLa {α : Type} : ∀ (l : List α) (i : Nat), nth l i = l[i]?
 | [], i => by simp [nth]
 | a :: l, 0 => by simp [nth]
 | a :: l, i + 1 => by simp [nth, zLa l i]
theorem zYd {e : Edge} (h : zCQ e.ground = true) : Region.binds .any e = true := by
 unfold Region.binds;cases hg : e.ground <;> rw [hg] at h <;> first | rfl | (simp [zCQ] at h)
theorem bindsG_iff {e : Edge} : Region.binds .any e = true ↔ zCQ e.ground = true := by
 refine ⟨fun h => ?_, zYd⟩;unfold Region.binds at h;cases hg : e.ground <;> rw [hg] at h <;> first | rfl | (cases h; done) | (exact absurd h (by simp))
def Down (ops : Array Oper) (X : Nat → Bool) : Prop := ∀ i o, ops[i]? = some o → X i = true → ∀ e ∈ o.after.toList, zCQ e.ground = true → X e.on = true
theorem zFR : ∀ (l : List Edge) (i : Nat), zLp l i = true → ∃ e ∈ l, e.on = i ∧ zCQ e.ground = true
 | [], i, h => by simp [zLp] at h
 | e :: l, i, h => by
  simp only [zLp] at h;split at h
  ·rename_i hb;rcases Bool.or_eq_true_iff.1 h with h | h
   ·exact ⟨e, by simp, Nat.eq_of_beq_eq_true hb, h⟩
   ·obtain ⟨e', h1, h2⟩ := zFR l i h; exact ⟨e', by simp [h1], h2⟩
  ·obtain ⟨e', h1, h2⟩ := zFR l i h; exact ⟨e', by simp [h1], h2⟩
theorem zFL (acc : List Nat) : ∀ (l : List Edge) (m i : Nat), Nat.testBit (zLi acc l m) i = true → Nat.testBit m i = true ∨ ∃ e ∈ l, zCQ e.ground = true ∧ (e.on = i ∨ Nat.testBit ((nth acc e.on).getD 0) i = true)
 | [], m, i, h => .inl h
 | e :: l, m, i, h => by
  simp only [zLi] at h;split at h
  ·rename_i hb;rcases zFL acc l _ i h with h1 | ⟨e', h1, h2⟩
   ·rw [Nat.testBit_or, Nat.testBit_or] at h1;simp only [Bool.or_eq_true] at h1;rcases h1 with (h1 | h1) | h1
    ·exact .inl h1
    ·rw [Nat.testBit_two_pow] at h1;exact .inr ⟨e, by simp, hb, .inl (by simpa using h1)⟩
    ·exact .inr ⟨e, by simp, hb, .inr h1⟩
   ·exact .inr ⟨e', by simp [h1], h2⟩
  ·rcases zFL acc l m i h with h1 | ⟨e', h1, h2⟩
   ·exact .inl h1
   ·exact .inr ⟨e', by simp [h1], h2⟩
def Good (ops : Array Oper) (X : Nat → Bool) (k m : Nat) : Prop := ∀ o, ops[k]? = some o → (∀ e ∈ o.after.toList, zCQ e.ground = true → X e.on = true) → ∀ i, Nat.testBit m i = true → X i = true
theorem zIb {ops : Array Oper} {X : Nat → Bool} (hd : Down ops X) : ∀ (l : List Oper) (acc : List Nat), (∀ k : Nat, l[k]? = ops[acc.length + k]?) → (∀ k m, acc[k]? = some m → Good ops X k m) → ∀ k m, (zFb l acc)[k]? = some m → Good ops X k m
 | [], acc, _, h, k, m, hk => h k m hk
 | o :: l, acc, hl, h, k, m, hk => by
  refine zIb hd l (acc ++ [zLi acc o.after.toList 0]) (fun k => ?_) (fun k m hk => ?_) k m hk
  ·have := hl (k + 1);simp only [List.getElem?_cons_succ] at this;rw [this]; congr 1; simp; omega
  ·rcases Nat.lt_trichotomy k acc.length with h1 | h1 | h1
   ·rw [List.getElem?_append_left h1] at hk; exact h k m hk
   ·subst h1;simp at hk; subst hk;intro o' ho' hp i hi;have : o' = o := by have := hl 0; simp at this; rw [← this] at ho'; cases ho'; rfl
    subst this;rcases zFL acc _ 0 i hi with h2 | ⟨e, h2, h3, h4⟩
    ·simp at h2
    ·have hx := hp e h2 h3;rcases h4 with h4 | h4
     ·rw [← h4]; exact hx
     ·rw [zLa] at h4;cases hn : acc[e.on]? with
      | none => simp [hn] at h4
      | some m' =>
       simp [hn] at h4;have hlt := (List.getElem?_eq_some_iff.1 hn).1;have hsz : acc.length < ops.size := (Array.getElem?_eq_some_iff.1 ho').1;have ho2 : ops[e.on]? = some (ops[e.on]'(by omega)) := Array.getElem?_eq_getElem _
       exact h e.on m' hn _ ho2 (hd e.on _ ho2 hx) i h4
   ·rw [List.getElem?_eq_none (by simp; omega)] at hk; cases hk
theorem zRt {ops : Array Oper} {X : Nat → Bool} (hd : Down ops X) {i j : Nat} {oj : Oper} (hj : ops[j]? = some oj) (hp : ∀ e ∈ oj.after.toList, zCQ e.ground = true → X e.on = true) (hX : X j = false) (hi : i ≠ j) (h : zSV ops.toList i j = true) : X i = true ↔ i < j := by
 have key : ∀ {p q : Nat} {oq : Oper}, ops[q]? = some oq → (∀ e ∈ oq.after.toList, zCQ e.ground = true → X e.on = true) → xGQ ops.toList p q = true → X p = true := by
  intro p q oq hq hpq hb;unfold xGQ at hb;rcases Bool.or_eq_true_iff.1 hb with h1 | h1
  ·rw [zLa] at h1;simp [hq] at h1;obtain ⟨e, h2, h3, h4⟩ := zFR _ _ h1;rw [← h3]; exact hpq e h2 h4
  ·rw [zLa] at h1;cases hn : (zFb ops.toList [])[q]? with
   | none => simp [hn] at h1
   | some m =>
    simp [hn] at h1;exact zIb hd ops.toList [] (fun k => by simp) (fun k m h => by simp at h) q m hn oq hq hpq p h1
 unfold zSV at h;split at h
 ·rename_i hlt;have hlt' : i < j := by simpa [Nat.blt_eq] using hlt
  exact ⟨fun _ => hlt', fun _ => key hj hp h⟩
 ·rename_i hlt;have hlt' : ¬ i < j := fun h => by rw [show Nat.blt i j = true from by rw [Nat.blt_eq]; exact h] at hlt; cases hlt
  refine ⟨fun hxi => ?_, fun hc => absurd hc hlt'⟩;exfalso;cases hoi : ops[i]? with
  | none =>
   unfold xGQ at h;rw [zLa, zLa] at h;have : ops.toList[i]? = none := by simpa using hoi
   simp only [this, Bool.false_or] at h;cases hn : (zFb ops.toList [])[i]? with
   | none => simp [hn] at h
   | some m =>
    have hlen : ∀ (l : List Oper) (acc : List Nat), (zFb l acc).length = acc.length + l.length := by
     intro l
     induction l with
     | nil => intro acc; simp [zFb]
     | cons o l ih => intro acc; simp [zFb, ih]; omega
    have h1 := (List.getElem?_eq_some_iff.1 hn).1;rw [hlen] at h1;simp at h1;simp [Array.getElem?_eq_getElem h1] at hoi
  | some oi =>
   have := key hoi (hd i oi hoi hxi) h;rw [hX] at this; cases this
theorem zJY : ∀ (l : List Oper) (k i : Nat) (o : Oper) (t : Tmp), l[i]? = some o → o.dst = some t → (t, k + i) ∈ dstsOf l k
 | [], k, i, o, t, h, _ => by simp at h
 | p :: l, k, i, o, t, h, hd => by
  cases i with
  | zero =>
   simp at h; subst h;simp [dstsOf, hd]
  | succ i =>
   simp at h;have := zJY l (k + 1) i o t h hd;have e : k + 1 + i = k + (i + 1) := by omega
   rw [e] at this;simp only [dstsOf];split
   ·exact List.mem_cons_of_mem _ this
   ·exact this
theorem zFC (ops : List Oper) (t j : Nat) : ∀ (ds : List (Tmp × Nat)), zKx ops t j ds = true → ∀ i, (t, i) ∈ ds → i ≠ j → zSV ops i j = true
 | [], _, i, h, _ => by simp at h
 | p :: l, h, i, hm, hi => by
  simp only [zKx] at h;rcases List.mem_cons.1 hm with e | hm
  ·subst e;simp only [Nat.beq_refl] at h;simp only [Bool.and_eq_true, Bool.or_eq_true] at h;rcases h.1 with h1 | h1
   ·exact absurd (Nat.eq_of_beq_eq_true h1) hi
   ·exact h1
  ·split at h
   ·exact zFC ops t j l (Bool.and_eq_true_iff.1 h).2 i hm hi
   ·exact zFC ops t j l h i hm hi
theorem zHK (ops : List Oper) (ds : List (Tmp × Nat)) (j : Nat) : ∀ (l : List Tmp), zIA ops ds j l = true → ∀ t ∈ l, zKx ops t j ds = true
 | [], _, t, h => by simp at h
 | s :: l, h, t, hm => by
  simp only [zIA, Bool.and_eq_true] at h;rcases List.mem_cons.1 hm with e | hm
  ·subst e; exact h.1
  ·exact zHK ops ds j l h.2 t hm
theorem zHZ (j : Nat) : ∀ (l : List Edge), zJX j l = true → ∀ e ∈ l, zCQ e.ground = true → e.on < j
 | [], _, e, h, _ => by simp at h
 | d :: l, h, e, hm, hb => by
  simp only [zJX, Bool.and_eq_true, Bool.or_eq_true] at h;rcases List.mem_cons.1 hm with q | hm
  ·subst q;rcases h.1 with h1 | h1
   ·rw [hb] at h1; cases h1
   ·simpa [Nat.blt_eq] using h1
  ·exact zHZ j l h.2 e hm hb
theorem zI9 (ops : Array Oper) (ds : List (Tmp × Nat)) : ∀ (l : List Oper) (k : Nat), zQ6 ops ds l k = true → ∀ i o, l[i]? = some o → zJX (k + i) o.after.toList = true ∧ zIA ops.toList ds (k + i) (looks ops o) = true
 | [], k, _, i, o, h => by simp at h
 | p :: l, k, h, i, o, hi => by
  simp only [zQ6, Bool.and_eq_true] at h;cases i with
  | zero => simp at hi; subst hi; exact h.1
  | succ i =>
   simp at hi;have := zI9 ops ds l (k + 1) h.2 i o hi;have e : k + 1 + i = k + (i + 1) := by omega
   rw [e] at this; exact this
theorem zI8 {ops : Array Oper} (h : zHJ ops = true) : Region.noSelect ops = true ∧ (∀ (j : Nat) (oj : Oper), ops[j]? = some oj → (∀ e ∈ oj.after.toList, zCQ e.ground = true → e.on < j) ∧
  ∀ (t : Tmp), t ∈ looks ops oj → ∀ (i : Nat) (oi : Oper), ops[i]? = some oi → oi.dst = some t → i ≠ j → zSV ops.toList i j = true) := by
 unfold zHJ at h;obtain ⟨h1, h2⟩ := Bool.and_eq_true_iff.1 h;refine ⟨h1, fun j oj hj => ?_⟩;obtain ⟨h3, h4⟩ := zI9 ops _ ops.toList 0 h2 j oj (by simpa using hj)
 simp only [Nat.zero_add] at h3 h4;refine ⟨zHZ j _ h3, fun t ht i oi hi hd hij => ?_⟩;have h5 := zHK _ _ _ _ h4 t ht;have h6 := zJY ops.toList 0 i oi t (by simpa using hi) hd
 simp only [Nat.zero_add] at h6;exact zFC _ _ _ _ h5 i h6 hij
end
end Go.Proofs.YtenkabjkgngcdaaGreat.Ab
namespace Go.Proofs.YtenkabjkgngcdaaGreat.Ab
open Go
variable [Rho]
section
variable {P : Program}
structure Ev where
 want : Bool
 v : AV
 F : List Nat
 R : Heap
 note : Option Note
def notes (e : Ev) (ns : List Note) : List Note := match e.note with
 | none => ns
 | some n => n :: ns
def xHA (P : Program) (o : Oper) (i : Nat) (ns : List Note) (fr : FR) (H : Heap) (e : Ev) : Prop := match e.note with
 | none => zTE P o fr (restrict H e.F) e.v e.R []
 | some (.mk j id) => j = i ∧ id = H.next ∧ e.F = [] ∧ e.v = .map H.next ∧ e.R.next = H.next + 1 ∧ e.R.log = [] ∧ e.R.objs = [] ∧ zTE P o fr (restrict H []) (.map H.next) ((restrict H []).new (.map [])) []
 | some (.ins j id t k v) => j = i ∧ e.F = [] ∧ e.R.next = H.next ∧ e.R.log = [] ∧ e.R.objs = [] ∧ o.dst = none ∧ e.v = zBK ∧ (∃ m kx x, o.op = .insert t m kx x ∧ zAJ fr m = some (.map id) ∧ zAJ fr kx = some k ∧ zAJ fr x = some v) ∧
  zZ1 P t k = true ∧ ∃ i0, Note.mk i0 id ∈ ns
def xAm (P : Program) (ops : Array Oper) (o : Oper) (i : Nat) (ns : List Note) (s : St) (e : Ev) (s' : St) : Prop :=
 zOG ops (narrow ops o s.fr) o e.want ∧ zMD s.nt s.fr o.dst e.v = some s'.fr ∧ s'.nt = s.nt ∧ s'.df = s.df ∧
 (e.want = true → LG (restrict s.H e.F) e.R ∧ s'.H = merge s.H e.F e.R ∧ xHA P o i ns (narrow ops o s.fr) s.H e) ∧
 (e.want = false → e.v = zBK ∧ (∃ pc, s'.H = s.H.wpc pc) ∧ e.F = [] ∧ e.note = none)
def Tr (P : Program) (ops : Array Oper) (l : List Oper) (i : Nat) (st : St) (rs : List Rec) (ns : List Note) (st' : St) (rs' : List Rec) (ns' : List Note) : Prop :=
 (∀ r ∈ rs, r ∈ rs') ∧ ∃ (T : Nat → St) (E : Nat → Ev) (L : Nat → List Note), T i = st ∧ T (i + l.length) = st' ∧ L i = ns ∧ L (i + l.length) = ns' ∧ (∀ (k : Nat) (o : Oper), l[k]? = some o → xAm P ops o (i + k) (L (i + k)) (T (i + k)) (E (i + k)) (T (i + k + 1)) ∧
   L (i + k + 1) = notes (E (i + k)) (L (i + k)) ∧
   ((E (i + k)).want = true → (E (i + k)).F ≠ [] ∨ (T (i + k)).H.next < (E (i + k)).R.next → (⟨i + k, (E (i + k)).F, (E (i + k)).R.log, (T (i + k)).H.next, (E (i + k)).R.next⟩ : Rec) ∈ rs'))
theorem Tr.cons {ops : Array Oper} {o : Oper} {l : List Oper} {i : Nat} {st s1 st' : St} {rs rs1 rs' : List Rec} {ns ns' : List Note} {e : Ev} (h1 : Tr P ops l (i + 1) s1 rs1 (notes e ns) st' rs' ns') (hs : xAm P ops o i ns st e s1)
  (hr : e.want = true → e.F ≠ [] ∨ st.H.next < e.R.next → (⟨i, e.F, e.R.log, st.H.next, e.R.next⟩ : Rec) ∈ rs1) (hsub : ∀ r ∈ rs, r ∈ rs1) : Tr P ops (o :: l) i st rs ns st' rs' ns' := by
 obtain ⟨q1, T, E, L, q2, q3, q5, q6, q4⟩ := h1;refine ⟨fun r hr' => q1 r (hsub r hr'), fun k => if k = i then st else T k, fun k => if k = i then e else E k, fun k => if k = i then ns else L k, by simp, ?_, by simp, ?_, fun k o' hk => ?_⟩
 ·show (if i + (o :: l).length = i then st else T (i + (o :: l).length)) = st'
  rw [if_neg (by simp)]
  rw [← q3]; congr 1; simp; omega
 ·show (if i + (o :: l).length = i then ns else L (i + (o :: l).length)) = ns'
  rw [if_neg (by simp)]
  rw [← q6]; congr 1; simp; omega
 ·cases k with
  | zero =>
   simp at hk; subst hk;have n1 : i + 1 ≠ i := by omega
   simp only [Nat.add_zero, if_true, n1, if_false, q2, q5];exact ⟨hs, trivial, fun hw hf => q1 _ (hr hw hf)⟩
  | succ k =>
   simp at hk;have := q4 k o' hk;have e1 : i + 1 + k = i + (k + 1) := by omega
   rw [e1] at this;have n1 : i + (k + 1) ≠ i := by omega
   have n2 : i + (k + 1) + 1 ≠ i := by omega
   simp only [n1, n2, if_false];exact this
theorem zEC (H : Heap) (pc : List (Tm × Bool)) (F : List Nat) : restrict (H.wpc pc) F = (restrict H F).wpc pc := by
 cases F <;> rfl
theorem zJG : ∀ {ns : List Note} {id : Nat}, isLit ns id = true → ∃ i, Note.mk i id ∈ ns
 | [], _, h => by simp [isLit] at h
 | .mk i j :: l, id, h => by
  simp only [isLit] at h;cases hb : Nat.beq j id with
  | true =>
   have := Nat.eq_of_beq_eq_true hb;subst this; exact ⟨i, List.mem_cons_self⟩
  | false =>
   rw [hb] at h;obtain ⟨i', h1⟩ := zJG (ns := l) h;exact ⟨i', List.mem_cons_of_mem _ h1⟩
 | .ins .. :: l, id, h => by
  simp only [isLit] at h;obtain ⟨i', h1⟩ := zJG (ns := l) h;exact ⟨i', List.mem_cons_of_mem _ h1⟩
theorem zPF {fr : FR} {o : Oper} {ns : List Note} {id : Nat} {t : TypeId} {k v : AV} (h : zRA fr o ns = some (id, t, k, v)) :
  (∃ m kx x, o.op = .insert t m kx x ∧ zAJ fr m = some (.map id) ∧ zAJ fr kx = some k ∧ zAJ fr x = some v) ∧ ∃ i0, Note.mk i0 id ∈ ns := by
 unfold zRA at h;split at h
 ·cases h
 ·split at h
  ·rename_i t' m kx x hop;split at h
   ·rename_i id' k' v' h1 h2 h3;cases hb : isLit ns id' with
    | true =>
     rw [hb] at h; cases h;exact ⟨⟨m, kx, x, hop, h1, h2, h3⟩, zJG hb⟩
    | false => rw [hb] at h; cases h
   ·cases h
  ·cases h
theorem zMj {ops : List Oper} {o : Oper} (h : zIr ops o = true) : ∃ t r, o.op = .makeMap t r := by
 unfold zIr at h;split at h
 ·rename_i h1 h2; exact ⟨_, _, h1⟩
 ·cases h
theorem zP3 {fr : FR} {o : Oper} {H R : Heap} {v : AV} (ho : ∃ t r, o.op = .makeMap t r) (h : zAM P fr o H = some (.val v R)) : v = .map H.next ∧ R = H.new (.map []) := by
 obtain ⟨t, r, ho⟩ := ho;unfold zAM at h;rw [ho] at h;simp only [zCA] at h;split at h
 ·cases h; exact ⟨rfl, rfl⟩
 ·split at h
  ·cases h; exact ⟨rfl, rfl⟩
  ·cases h
theorem zTG (hn : NoCount P) {o : Oper} {fr : FR} {H R : Heap} {v : AV} (ho : zAM P fr o H = some (.val v R)) : zTE P o fr H v R [] := by
 refine ⟨zRu ho, ?_⟩;intro μ a w hf hr hd next Q hk;unfold Oper.wp;obtain ⟨μ', c, w', h1, h2, h3⟩ := zDM hn ho hf hr hd;have := hk μ' c w' [] h3 h2 rfl;rcases h1 with h1 | ⟨h1, rfl⟩
 ·rw [h1]; exact this
 ·rw [h1]; exact this
theorem zDY (hn : NoCount P) {α : Type} {cf : zCE α} (hc : zOJ P cf) {ops : Array Oper} : ∀ (l : List Oper) (i : Nat) (st : St) (rs : List Rec) (ns : List Note) (K : St → List Rec → List Note → Tree α) (r : α), PC st.H → (zE1 P cf ops i l st rs ns K).sel = some r →
  ∃ st' rs' ns', (K st' rs' ns').sel = some r ∧ PC st'.H ∧ Tr P ops l i st rs ns st' rs' ns'
 | [], i, st, rs, ns, K, r, hp, h => by
  simp only [zE1] at h;exact ⟨st, rs, ns, h, hp, fun r h => h, fun _ => st, fun _ => ⟨false, zBK, [], st.H, none⟩, fun _ => ns, rfl, rfl, rfl, rfl, fun k o h => by simp at h⟩
 | o :: l, i, ⟨nt, fr, H, df⟩, rs, ns, K, r, hp, h => by
  have yes : ∀ pc, PC (H.wpc pc) → zOG ops (narrow ops o fr) o true → (match zRA (narrow ops o fr) o ns with
   | some (id, t, key, v) => match o.dst, zZ1 P t key with
    | none, true => zE1 P cf ops (i + 1) l ⟨nt, fr, merge (H.wpc pc) [] (restrict (H.wpc pc) []), df⟩ rs (.ins i id t key v :: ns) K
    | _, _ => .fail
   | none => match zIr ops.toList o with
    | true => match zAM P (narrow ops o fr) o (restrict (H.wpc pc) []), zMD nt fr o.dst (.map (H.wpc pc).next) with
     | some (.val _ _), some fr' => zE1 P cf ops (i + 1) l ⟨nt, fr', merge (H.wpc pc) [] ⟨(H.wpc pc).next + 1, [], [], (H.wpc pc).pc⟩, df⟩ (⟨i, [], [], (H.wpc pc).next, (H.wpc pc).next + 1⟩ :: rs) (.mk i (H.wpc pc).next :: ns) K
     | _, _ => .fail
    | false => zS6 P cf o (narrow ops o fr) (restrict (H.wpc pc) (zPH (narrow ops o fr) o (H.wpc pc))) fun v T d => match d with
     | [] => match zMD nt fr o.dst v with
      | some fr' => zE1 P cf ops (i + 1) l ⟨nt, fr', merge (H.wpc pc) (zPH (narrow ops o fr) o (H.wpc pc)) T, df⟩ (zYR i (zPH (narrow ops o fr) o (H.wpc pc)) T (H.wpc pc).next rs) ns K
      | none => .fail
     | _ => .fail).sel = some r → ∃ st' rs' ns', (K st' rs' ns').sel = some r ∧ PC st'.H ∧ Tr P ops (o :: l) i ⟨nt, fr, H, df⟩ rs ns st' rs' ns' := fun pc hp' hw h => by
   have hm : ∀ {n : Nat} {R : Heap}, R.pc = pc → PC (merge (H.wpc pc) [] R) := fun {n R} e => by
    unfold PC; rw [zR1, e]; exact hp'
   split at h
   ·rename_i id t key v hins;obtain ⟨h1, h2⟩ := zPF hins;split at h
    ·rename_i hd hk;obtain ⟨st', rs', ns', q1, q2, q3⟩ := zDY hn hc l (i + 1) _ _ _ K r (hm (n := 0) rfl) h;refine ⟨st', rs', ns', q1, q2, Tr.cons (e := ⟨true, zBK, [], restrict (H.wpc pc) [], some (.ins i id t key v)⟩) q3 ⟨hw, ?_, rfl, rfl, fun _ => ⟨?_, rfl, ?_⟩, fun hc => by cases hc⟩ (fun _ hf => ?_) (fun r hr => hr)⟩
     ·rw [hd]; rfl
     ·exact LG.refl _
     ·exact ⟨rfl, rfl, rfl, rfl, rfl, hd, rfl, h1, hk, h2⟩
     ·rcases hf with h3 | h3
      ·exact absurd rfl h3
      ·exact absurd h3 (Nat.lt_irrefl _)
    ·simp [Tree.sel] at h
   ·split at h
    ·rename_i hmk;split at h
     ·rename_i v0 R0 fr' hop hput;obtain ⟨rfl, rfl⟩ := zP3 (zMj hmk) hop;obtain ⟨st', rs', ns', q1, q2, q3⟩ := zDY hn hc l (i + 1) _ _ _ K r (hm (n := 0) rfl) h;have hst : zTE P o (narrow ops o fr) (restrict H []) (.map H.next) ((restrict H []).new (.map [])) [] := by
       have h0 := zTG hn hop;rw [zEC] at h0; exact h0
      refine ⟨st', rs', ns', q1, q2, Tr.cons (e := ⟨true, .map H.next, [], ⟨H.next + 1, [], [], pc⟩, some (.mk i H.next)⟩) q3 ⟨hw, hput, rfl, rfl, fun _ => ⟨?_, rfl, ?_⟩, fun hc => by cases hc⟩ (fun _ hf => ?_) (fun r hr => List.mem_cons_of_mem _ hr)⟩
      ·exact fun _ => ⟨fun id o h => (by cases h), [], rfl, fun _ _ _ => rfl, Nat.le_succ _⟩
      ·exact ⟨rfl, rfl, rfl, rfl, rfl, rfl, rfl, hst⟩
      ·exact List.mem_cons_self
     ·simp [Tree.sel] at h
    ·generalize hF : zPH (narrow ops o fr) o (H.wpc pc) = F at h;have hpr : PC (restrict (H.wpc pc) F) := by rw [zEC]; exact hp'
     obtain ⟨v, R, ds, h1, h2, h3⟩ := zMM hn hc hpr h;have h3' : zTE P o (narrow ops o fr) (restrict H F) v R ds := by rw [zEC] at h3; exact h3
     split at h1
     ·split at h1
      ·rename_i fr' hput;have hpm : PC (merge (H.wpc pc) F R) := by
        unfold PC; rw [zR1]; exact h2
       obtain ⟨st', rs', ns', q1, q2, q3⟩ := zDY hn hc l (i + 1) _ _ _ K r hpm h1;refine ⟨st', rs', ns', q1, q2, Tr.cons (e := ⟨true, v, F, R, none⟩) q3 ⟨hw, hput, rfl, rfl, fun _ => ⟨h3'.1, rfl, h3'⟩, fun hc => by cases hc⟩ (fun _ hf => ?_) (fun r hr => ?_)⟩
       ·simp only at hf ⊢;unfold zYR;split
        ·have : Nat.blt H.next R.next = true := by
          rw [Nat.blt_eq];rcases hf with h1 | h1
          ·exact absurd rfl h1
          ·exact h1
         show _ ∈ (bif Nat.blt H.next R.next then _ else rs)
         rw [this];exact List.mem_cons_self
        ·exact List.mem_cons_self
       ·unfold zYR;split
        ·cases Nat.blt (H.wpc pc).next R.next <;> simp [hr]
        ·simp [hr]
      ·simp [Tree.sel] at h1
     ·simp [Tree.sel] at h1
  have no : ∀ pc, PC (H.wpc pc) → zOG ops (narrow ops o fr) o false → (match zMD nt fr o.dst zBK with
    | some fr => zE1 P cf ops (i + 1) l ⟨nt, fr, H.wpc pc, df⟩ rs ns K
    | none => Tree.fail).sel = some r → ∃ st' rs' ns', (K st' rs' ns').sel = some r ∧ PC st'.H ∧ Tr P ops (o :: l) i ⟨nt, fr, H, df⟩ rs ns st' rs' ns' := fun pc hp' hw h1 => by
   split at h1
   ·rename_i fr' hput;obtain ⟨st', rs', ns', q1, q2, q3⟩ := zDY hn hc l (i + 1) _ _ _ K r hp' h1;exact ⟨st', rs', ns', q1, q2, Tr.cons (e := ⟨false, zBK, [], H, none⟩) q3 ⟨hw, hput, rfl, rfl, (fun hc => by cases hc), fun _ => ⟨rfl, ⟨pc, rfl⟩, rfl, rfl⟩⟩ (fun hc => by cases hc) (fun r hr => hr)⟩
   ·simp [Tree.sel] at h1
  simp only [zE1] at h;split at h
  ·rename_i hw; exact yes H.pc hp (zI1 hw) h
  ·rename_i hw; exact no H.pc hp (zKt hw) h
  ·rename_i t b hw;have hw' := @zHH _ _ _ _ _ _ hw;obtain ⟨pc, h1, ⟨h2, h3⟩ | ⟨h2, h3⟩⟩ := zEy hp h
   ·cases b with
    | true => exact yes pc h1 (fun hf => by rw [hw' hf, h2]; rfl) h3
    | false => exact no pc h1 (fun hf => by rw [hw' hf, h2]; rfl) h3
   ·cases b with
    | true => exact no pc h1 (fun hf => by rw [hw' hf, h2]; rfl) h3
    | false => exact yes pc h1 (fun hf => by rw [hw' hf, h2]; rfl) h3
  ·simp [Tree.sel] at h
def zBt (μ : Mu) (m : Nat) : Mu := fun id => if id < m then μ id else none
theorem zA7 {μ : Mu} {m id : Nat} {l : Loc} (h : zBt μ m id = some l) : id < m ∧ μ id = some l := by
 unfold zBt at h;split at h
 ·rename_i hlt; exact ⟨hlt, h⟩
 ·cases h
theorem zEX (μ : Mu) (m : Nat) : Ext (zBt μ m) μ := fun id l h => (zA7 h).2
open Classical in
noncomputable def sX (h0 : Nat → Option AObj) (tc : Nat → Nat → Prop) (D : Nat → Nat → Option AObj) (X : Nat → Bool) : Nat → Nat → Option AObj
 | 0, id => h0 id
 | k + 1, id => if X k = true ∧ tc k id then D k id else sX h0 tc D X k id
open Classical in
noncomputable def fX (f0 : Nat → Option AV) (dst : Nat → Option Nat) (V : Nat → AV) (X : Nat → Bool) : Nat → Nat → Option AV
 | 0, t => f0 t
 | k + 1, t => if X k = true ∧ dst k = some t then some (V k) else fX f0 dst V X k t
theorem zDx {h0 : Nat → Option AObj} {tc : Nat → Nat → Prop} {D : Nat → Nat → Option AObj} {X Y : Nat → Bool} (id : Nat) : ∀ k, (∀ i, i < k → tc i id → X i = Y i) → sX h0 tc D X k id = sX h0 tc D Y k id
 | 0, _ => rfl
 | k + 1, h => by
  simp only [sX];rw [zDx id k (fun i hi => h i (by omega))]
  by_cases ht : tc k id
  ·rw [h k (by omega) ht]
  ·rw [if_neg (fun e => ht e.2), if_neg (fun e => ht e.2)]
theorem zGP {f0 : Nat → Option AV} {dst : Nat → Option Nat} {V : Nat → AV} {X Y : Nat → Bool} (t : Nat) : ∀ k, (∀ i, i < k → dst i = some t → X i = Y i) → fX f0 dst V X k t = fX f0 dst V Y k t
 | 0, _ => rfl
 | k + 1, h => by
  simp only [fX];rw [zGP t k (fun i hi => h i (by omega))]
  by_cases ht : dst k = some t
  ·rw [h k (by omega) ht]
  ·rw [if_neg (fun e => ht e.2), if_neg (fun e => ht e.2)]
theorem zFE {h0 : Nat → Option AObj} {tc : Nat → Nat → Prop} {D : Nat → Nat → Option AObj} {X : Nat → Bool} (id k : Nat) : ∀ n, k ≤ n → (∀ i, k ≤ i → i < n → X i = true → ¬ tc i id) → sX h0 tc D X n id = sX h0 tc D X k id
 | 0, h, _ => by have : k = 0 := by omega
                 subst this; rfl
 | n + 1, h, hn => by
  rcases Nat.lt_or_ge n k with h1 | h1
  ·have : k = n + 1 := by omega
   subst this; rfl
  ·simp only [sX];rw [if_neg (fun e => hn n h1 (by omega) e.1 e.2)]
   exact zFE id k n h1 (fun i hi hi' => hn i hi (by omega))
theorem zXh {f0 : Nat → Option AV} {dst : Nat → Option Nat} {V : Nat → AV} {X : Nat → Bool} (t k : Nat) : ∀ n, k ≤ n → (∀ i, k ≤ i → i < n → X i = true → dst i ≠ some t) → fX f0 dst V X n t = fX f0 dst V X k t
 | 0, h, _ => by have : k = 0 := by omega
                 subst this; rfl
 | n + 1, h, hn => by
  rcases Nat.lt_or_ge n k with h1 | h1
  ·have : k = n + 1 := by omega
   subst this; rfl
  ·simp only [fX];rw [if_neg (fun e => hn n h1 (by omega) e.1 e.2)]
   exact zXh t k n h1 (fun i hi hi' => hn i hi (by omega))
structure Inv (P : Program) (n nt : Nat) (df : List (FuncId × List AV)) (f0 : Nat → Option AV) (h0 : Nat → Option AObj) (nx : Nat → Nat) (dst : Nat → Option Nat) (V : Nat → AV) (tc : Nat → Nat → Prop) (D : Nat → Nat → Option AObj)
  (μ0 : Mu) (w0 : World) (X : Nat → Bool) (μ : Mu) (a : Act) (w : World) : Prop where
 inn : ∀ i, X i = true → i < n
 nt : a.tmps.size = nt
 df : DRel P μ0 df a.defers
 fr : ∀ k, k ≤ n → ∀ t v, (∀ i, k ≤ i → X i = true → dst i ≠ some t) → fX f0 dst V X k t = some v → ∃ c, a.tmps[t]? = some c ∧ VR (zBt μ (nx k)) v c
 ob : ∀ k, k ≤ n → ∀ id o, (∀ i, k ≤ i → X i = true → ¬ tc i id) → sX h0 tc D X k id = some o → RepO (zBt μ (nx k)) id w o
 inj : ∀ i j oi oj li lj, sX h0 tc D X n i = some oi → sX h0 tc D X n j = some oj → i ≠ j → owned oi = true ∨ owned oj = true → μ i = some li → μ j = some lj → li.nil = false → lj.nil = false → li.b ≠ lj.b
 dom : ∀ id l, μ id = some l → id < nx 0 ∨ ∃ i, i < n ∧ X i = true ∧ nx i ≤ id ∧ id < nx (i + 1)
 ext : Ext μ0 μ
 old : ∀ id l, μ id = some l → μ0 id = none → nx 0 ≤ id ∧ (l.nil = true ∨ w0.heap.size ≤ l.b ∨ Mine μ0 h0 l.b)
 keep : ∀ b, b < w0.heap.size → ¬ Mine μ0 h0 b → w.heap[b]? = w0.heap[b]?
 mine : ∀ b, Mine μ (sX h0 tc D X n) b → b < w0.heap.size → Mine μ0 h0 b
 live : ∀ id o, sX h0 tc D X n id = some o → (∃ o0, h0 id = some o0) ∨ nx 0 ≤ id
 size : w0.heap.size ≤ w.heap.size
 os : w.os = w0.os
 tape : w.tape = w0.tape
 output : w.output = w0.output
theorem Inv.step {n nt : Nat} {df : List (FuncId × List AV)} {f0 : Nat → Option AV} {h0 : Nat → Option AObj} {nx : Nat → Nat} {dst : Nat → Option Nat} {V : Nat → AV} {tc : Nat → Nat → Prop} {D : Nat → Nat → Option AObj}
  {μ0 : Mu} {w0 : World} {X : Nat → Bool} {μ : Mu} {a : Act} {w : World} (I : Inv P n nt df f0 h0 nx dst V tc D μ0 w0 X μ a w)
  (hnx : ∀ i k, i ≤ k → k ≤ n → nx i ≤ nx k) {j : Nat} (hj : j < n) (hX : X j = false)
  (hdst : ∀ t, dst j = some t → t < nt ∧ ∀ i, i ≠ j → dst i = some t → (X i = true ↔ i < j))
  {F : List Nat} {R0 Rg : Nat → Option AObj}
  (hR0 : ∀ id o, R0 id = some o → id ∈ F ∧ sX h0 tc D X n id = some o) (hRF : ∀ id o, id ∈ F → sX h0 tc D X n id = some o → R0 id = some o)
  (htc : ∀ id, tc j id → ∀ i, i ≠ j → tc i id → (X i = true ↔ i < j))
  (hA : ∀ id o, tc j id → D j id = some o → Rg id = some o) (hB : ∀ id o, ¬ tc j id → R0 id = some o → Rg id = some o)
  (hin : ∀ id, tc j id → id ∈ F ∨ (nx j ≤ id ∧ id < nx (j + 1)))
  {μ' : Mu} {w' : World} (ev : Evo (zBt μ (nx j)) R0 (nx j) w μ' Rg (nx (j + 1)) w') {c : Value} (hv : VR μ' (V j) c)
  (hFn : ∀ id, id ∈ F → nx j ≤ id → sX h0 tc D X n id = none) :
  Inv P n nt df f0 h0 nx dst V tc D μ0 w0 (fun i => if i = j then true else X i) (fun id => if nx j ≤ id ∧ id < nx (j + 1) then μ' id else μ id) (a.put (dst j) c) w' := by
 have hX' : ∀ i, i ≠ j → (if i = j then true else X i) = X i := fun i h => by simp [h]
 have hnj : nx j ≤ nx (j + 1) := hnx j (j + 1) (by omega) (by omega)
 have hn0 : nx 0 ≤ nx j := hnx 0 j (by omega) (by omega)
 have hgap : ∀ id l, μ id = some l → ¬ (nx j ≤ id ∧ id < nx (j + 1)) := fun id l h hr => by
  rcases I.dom id l h with h1 | ⟨i, h1, h2, h3, h4⟩
  ·omega
  ·have hij : i ≠ j := fun e => by subst e; rw [hX] at h2; cases h2
   rcases Nat.lt_or_gt_of_ne hij with h5 | h5
   ·have := hnx (i + 1) j (by omega) (by omega); omega
   ·have := hnx (j + 1) i (by omega) (by omega); omega
 have hgrow : Ext μ (fun id => if nx j ≤ id ∧ id < nx (j + 1) then μ' id else μ id) := fun id l h => by
  simp only; rw [if_neg (hgap id l h)]; exact h
 have hnew : ∀ id l, μ' id = some l → (if nx j ≤ id ∧ id < nx (j + 1) then μ' id else μ id) = some l ∧ id < nx (j + 1) := fun id l h => by
  have hlt : id < nx (j + 1) := by
   rcases Nat.lt_or_ge id (nx (j + 1)) with h1 | h1
   ·exact h1
   ·rw [ev.dom id h1] at h; cases h
  refine ⟨?_, hlt⟩;by_cases h1 : nx j ≤ id
  ·rw [if_pos ⟨h1, hlt⟩]; exact h
  ·rw [if_neg (by omega)]
   cases hc : zBt μ (nx j) id with
   | none => exact absurd (ev.old id l h hc).1 h1
   | some l' =>
    have := ev.ext id l' hc;rw [h] at this; cases this;exact (zA7 hc).2
 have hnewx : Ext μ' (fun id => if nx j ≤ id ∧ id < nx (j + 1) then μ' id else μ id) := fun id l h => (hnew id l h).1
 have hcut : ∀ k, k ≤ n → Ext (zBt μ (nx k)) (zBt (fun id => if nx j ≤ id ∧ id < nx (j + 1) then μ' id else μ id) (nx k)) := fun k _ id l h => by
  obtain ⟨h1, h2⟩ := zA7 h;show (if id < nx k then _ else none) = some l
  rw [if_pos h1]; exact hgrow id l h2
 have hcutn : ∀ k, j < k → k ≤ n → Ext μ' (zBt (fun id => if nx j ≤ id ∧ id < nx (j + 1) then μ' id else μ id) (nx k)) := fun k h1 h2 id l h => by
  obtain ⟨h3, h4⟩ := hnew id l h;have := hnx (j + 1) k h1 h2;show (if id < nx k then _ else none) = some l
  rw [if_pos (by omega)]; exact h3
 have hmine0 : ∀ b, Mine (zBt μ (nx j)) R0 b → Mine μ (sX h0 tc D X n) b := fun b m => by
  obtain ⟨q, o, l, h1, h2, ⟨h3, hz⟩, h4⟩ := m;exact ⟨q, o, l, (hR0 q o h1).2, h2, ⟨(zA7 h3).2, hz⟩, h4⟩
 have hlast : ∀ (id k : Nat), k ≤ n → (∀ i, k ≤ i → (if i = j then true else X i) = true → ¬ tc i id) → sX h0 tc D X n id = sX h0 tc D X k id := fun id k hk h => by
  refine zFE id k n hk fun i hi hi' hx => h i hi ?_;by_cases e : i = j
  ·simp [e]
  ·simp [e, hx]
 have hkeepO : ∀ (id k : Nat) (o : AObj), k ≤ n → ¬ tc j id → sX h0 tc D X n id = some o → RepO (zBt μ (nx k)) id w o → RepO (zBt (fun id => if nx j ≤ id ∧ id < nx (j + 1) then μ' id else μ id) (nx k)) id w' o := by
  intro id k o hk ht hs r0;by_cases hF : id ∈ F
  ·have h1 := hB id o ht (hRF id o hF hs);have h2 := (ev.rep.obj id o h1);have h3 : RepO (fun id => if nx j ≤ id ∧ id < nx (j + 1) then μ' id else μ id) id w' o := h2.keep hnewx fun _ _ _ => rfl
   have h4 : RepO (zBt (fun id => if nx j ≤ id ∧ id < nx (j + 1) then μ' id else μ id) (nx k)) id w o := r0.keep (hcut k hk) fun _ _ _ => rfl
   exact RepO.back (zEX _ _) h4 h3
  ·refine r0.keep (hcut k hk) fun l hl hz => ?_;obtain ⟨l', hl', hlt⟩ := r0.mu;rw [hl] at hl'; cases hl';refine ev.keep l.b (hlt hz) fun m => ?_;obtain ⟨q, oq, lq, m1, m2, ⟨m3, mz⟩, m4⟩ := m;obtain ⟨m5, m6⟩ := hR0 q oq m1;exact I.inj q id oq o lq l m6 hs (fun e => hF (e ▸ m5)) (.inl m2) (zA7 m3).2 (zA7 hl).2 mz hz m4
 have hlastT : ∀ id, tc j id → ∀ k, j < k → k ≤ n → sX h0 tc D (fun i => if i = j then true else X i) k id = D j id := fun id ht k h1 h2 => by
  have e1 : sX h0 tc D (fun i => if i = j then true else X i) k id = sX h0 tc D (fun i => if i = j then true else X i) (j + 1) id := by
   refine zFE id (j + 1) k h1 fun i hi hi' hx ht' => ?_;have hne : i ≠ j := by omega
   simp only [hX' i hne] at hx;have := (htc id ht i hne ht').1 hx;omega
  rw [e1];simp [sX, ht]
 have hlastN : ∀ id, ¬ tc j id → ∀ k, sX h0 tc D (fun i => if i = j then true else X i) k id = sX h0 tc D X k id := fun id ht k =>
  zDx id k fun i _ hi => hX' i (fun e => ht (e ▸ hi))
 have hcase : ∀ id o, sX h0 tc D (fun i => if i = j then true else X i) n id = some o → (Rg id = some o ∧ (tc j id ∨ id ∈ F)) ∨ (sX h0 tc D X n id = some o ∧ ¬ tc j id ∧ id ∉ F) := fun id o h => by
  by_cases ht : tc j id
  ·rw [hlastT id ht n hj (Nat.le_refl _)] at h;exact .inl ⟨hA id o ht h, .inl ht⟩
  ·rw [hlastN id ht n] at h;by_cases hF : id ∈ F
   ·exact .inl ⟨hB id o ht (hRF id o hF h), .inr hF⟩
   ·exact .inr ⟨h, ht, hF⟩
 have hob' : ∀ k, k ≤ n → ∀ id o, (∀ i, k ≤ i → (if i = j then true else X i) = true → ¬ tc i id) → sX h0 tc D (fun i => if i = j then true else X i) k id = some o → RepO (zBt (fun id => if nx j ≤ id ∧ id < nx (j + 1) then μ' id else μ id) (nx k)) id w' o := by
  intro k hk id o hno hs;by_cases ht : tc j id
  ·have hjk : j < k := by
    rcases Nat.lt_or_ge j k with h1 | h1
    ·exact h1
    ·exact absurd ht (hno j h1 (by simp))
   rw [hlastT id ht k hjk hk] at hs;exact (ev.rep.obj id o (hA id o ht hs)).keep (hcutn k hjk hk) fun _ _ _ => rfl
  ·rw [hlastN id ht k] at hs;have hno' : ∀ i, k ≤ i → X i = true → ¬ tc i id := fun i hi hx => hno i hi (by by_cases e : i = j <;> simp [e, hx])
   exact hkeepO id k o hk ht (by rw [hlast id k hk hno]; exact hs) (I.ob k hk id o hno' hs)
 have hmu' : ∀ id o l, Rg id = some o → (if nx j ≤ id ∧ id < nx (j + 1) then μ' id else μ id) = some l → μ' id = some l := fun id o l h1 h2 => by
  obtain ⟨l', hl', _⟩ := (ev.rep.obj id o h1).mu;have := (hnew id l' hl').1;rw [h2] at this; cases this; exact hl'
 have hsel : ∀ id (o : AObj) l, sX h0 tc D X n id = some o → (if nx j ≤ id ∧ id < nx (j + 1) then μ' id else μ id) = some l → μ id = some l ∧ (l.nil = false → l.b < w.heap.size) := fun id o l h1 h2 => by
  obtain ⟨l', hl', hlt⟩ := (I.ob n (Nat.le_refl _) id o (fun i hi hx => by have := I.inn i hx; omega) h1).mu
  have h3 := (zA7 hl').2;have := hgrow id l' h3;simp only [h2] at this; cases this; exact ⟨h3, hlt⟩
 have hcross : ∀ p q op oq lp lq, Rg p = some op → sX h0 tc D X n q = some oq → ¬ tc j q → q ∉ F → owned op = true ∨ owned oq = true → μ' p = some lp → μ q = some lq → (lq.nil = false → lq.b < w.heap.size) → lp.nil = false → lq.nil = false → lp.b ≠ lq.b := by
  intro p q op oq lp lq h1 h2 h3 h4 h5 h6 h7 h8 z1 z2 he;have h8 := h8 z2;have hm : Mine (zBt μ (nx j)) R0 lp.b → False := fun m => by
   obtain ⟨z, oz, lz, m1, m2, ⟨m3, mz⟩, m4⟩ := m;obtain ⟨m5, m6⟩ := hR0 z oz m1;exact I.inj z q oz oq lz lq m6 h2 (fun e => h4 (e ▸ m5)) (.inl m2) (zA7 m3).2 h7 mz z2 (m4.trans he)
  by_cases ho : owned op = true
  ·exact hm (ev.mine lp.b ⟨p, op, lp, h1, ho, ⟨h6, z1⟩, rfl⟩ (by omega))
  ·have hoq : owned oq = true := h5.resolve_left ho;cases hc : zBt μ (nx j) p with
   | none =>
    rcases (ev.old p lp h6 hc).2 with h9 | h9 | h9
    ·rw [z1] at h9; cases h9
    ·omega
    ·exact hm h9
   | some lp' =>
    have e1 := ev.ext p lp' hc;rw [h6] at e1; cases e1;obtain ⟨c1, c2⟩ := zA7 hc;rcases ev.live p op h1 with ⟨o0, h9⟩ | h9
    ·obtain ⟨m5, m6⟩ := hR0 p o0 h9;exact I.inj p q o0 oq lp lq m6 h2 (fun e => h4 (e ▸ m5)) (.inr hoq) c2 h7 z1 z2 he
    ·omega
 refine ⟨fun i hi => ?_, ?_, ?_, fun k hk t v hno hf => ?_, hob', ?_, fun id l h => ?_, I.ext.trans hgrow, fun id l h h0' => ?_, fun b hb hm => ?_, fun b m hb => ?_, fun id o h => ?_, Nat.le_trans I.size ev.size, ev.os.trans I.os, ev.tape.trans I.tape, ev.output.trans I.output⟩
 ·by_cases e : i = j
  ·omega
  ·simp only [hX' i e] at hi; exact I.inn i hi
 ·have := I.nt;cases dst j <;> simpa [Act.put] using this
 ·have := I.df;cases dst j <;> simpa [Act.put] using this
 ·
  have hput : ∀ t, dst j ≠ some t → (a.put (dst j) c).tmps[t]? = a.tmps[t]? := fun t ht => by
   cases hd : dst j with
   | none => rfl
   | some d =>
    have : d ≠ t := fun e => ht (by rw [hd, e])
    simp only [Act.put];rw [Array.getElem?_setIfInBounds_ne this]
  by_cases hd : dst j = some t
  ·have hjk : j < k := by
    rcases Nat.lt_or_ge j k with h1 | h1
    ·exact h1
    ·exact absurd hd (hno j h1 (by simp))
   have e1 : fX f0 dst V (fun i => if i = j then true else X i) k t = some (V j) := by
    have e2 : fX f0 dst V (fun i => if i = j then true else X i) k t = fX f0 dst V (fun i => if i = j then true else X i) (j + 1) t := by
     refine zXh t (j + 1) k hjk fun i hi hi' hx ht' => ?_;have hne : i ≠ j := by omega
     simp only [hX' i hne] at hx;have := ((hdst t hd).2 i hne ht').1 hx;omega
    rw [e2];simp [fX, hd]
   rw [e1] at hf; cases hf;refine ⟨c, ?_, hv.ext (hcutn k hjk hk)⟩;have hlt : t < a.tmps.size := by rw [I.nt]; exact (hdst t hd).1
   simp [hd, Act.put, hlt]
  ·have e1 : fX f0 dst V (fun i => if i = j then true else X i) k t = fX f0 dst V X k t :=
    zGP t k fun i _ hi => hX' i (fun e => hd (e ▸ hi))
   rw [e1] at hf;obtain ⟨c', h1, h2⟩ := I.fr k hk t v (fun i hi hx => hno i hi (by by_cases e : i = j <;> simp [e, hx])) hf
   exact ⟨c', by rw [hput t hd]; exact h1, h2.ext (hcut k hk)⟩
 ·
  intro p q op oq lp lq h1 h2 hpq ho h3 h4 z1 z2;rcases hcase p op h1 with ⟨p1, p2⟩ | ⟨p1, p2, p3⟩
  ·rcases hcase q oq h2 with ⟨q1, q2⟩ | ⟨q1, q2, q3⟩
   ·exact ev.rep.inj p q op oq lp lq p1 q1 hpq ho (hmu' p op lp p1 h3) (hmu' q oq lq q1 h4) z1 z2
   ·obtain ⟨m1, m2⟩ := hsel q oq lq q1 h4;exact hcross p q op oq lp lq p1 q1 q2 q3 ho (hmu' p op lp p1 h3) m1 m2 z1 z2
  ·obtain ⟨m1, m2⟩ := hsel p op lp p1 h3;rcases hcase q oq h2 with ⟨q1, q2⟩ | ⟨q1, q2, q3⟩
   ·exact (hcross q p oq op lq lp q1 p1 p2 p3 ho.symm (hmu' q oq lq q1 h4) m1 m2 z2 z1).symm
   ·exact I.inj p q op oq lp lq p1 q1 hpq ho m1 (hsel q oq lq q1 h4).1 z1 z2
 ·by_cases hr : nx j ≤ id ∧ id < nx (j + 1)
  ·exact .inr ⟨j, hj, by simp, hr.1, hr.2⟩
  ·rw [if_neg hr] at h;rcases I.dom id l h with h1 | ⟨i, h1, h2, h3, h4⟩
   ·exact .inl h1
   ·exact .inr ⟨i, h1, by by_cases e : i = j <;> simp [e, h2], h3, h4⟩
 ·by_cases hr : nx j ≤ id ∧ id < nx (j + 1)
  ·rw [if_pos hr] at h;have hc : zBt μ (nx j) id = none := by
    unfold zBt; rw [if_neg (by omega)]
   refine ⟨by omega, ?_⟩
   rcases (ev.old id l h hc).2 with h1 | h1 | h1
   ·exact .inl h1
   ·exact .inr (.inl (Nat.le_trans I.size h1))
   ·rcases Nat.lt_or_ge l.b w0.heap.size with h2 | h2
    ·exact .inr (.inr (I.mine l.b (hmine0 _ h1) h2))
    ·exact .inr (.inl h2)
  ·rw [if_neg hr] at h;exact I.old id l h h0'
 ·rw [ev.keep b (Nat.lt_of_lt_of_le hb I.size) (fun m => hm (I.mine b (hmine0 b m) hb))];exact I.keep b hb hm
 ·obtain ⟨p, o, l, h1, h2, ⟨h3, hz⟩, h4⟩ := m;rcases hcase p o h1 with ⟨p1, p2⟩ | ⟨p1, p2, p3⟩
  ·have := ev.mine b ⟨p, o, l, p1, h2, ⟨hmu' p o l p1 h3, hz⟩, h4⟩ (Nat.lt_of_lt_of_le hb I.size);exact I.mine b (hmine0 b this) hb
  ·exact I.mine b ⟨p, o, l, p1, h2, ⟨(hsel p o l p1 h3).1, hz⟩, h4⟩ hb
 ·rcases hcase id o h with ⟨p1, p2⟩ | ⟨p1, p2, p3⟩
  ·rcases ev.live id o p1 with ⟨o0, h1⟩ | h1
   ·exact I.live id o0 (hR0 id o0 h1).2
   ·exact .inr (by omega)
  ·exact I.live id o p1
end
end Go.Proofs.YtenkabjkgngcdaaGreat.Ab
namespace Go.Proofs.YtenkabjkgngcdaaGreat.Ab
open Go
variable [Rho]
section
variable {P : Program}
theorem Inv.other {n nt : Nat} {df : List (FuncId × List AV)} {f0 : Nat → Option AV} {h0 : Nat → Option AObj} {nx : Nat → Nat} {dst : Nat → Option Nat} {V : Nat → AV} {tc : Nat → Nat → Prop} {D : Nat → Nat → Option AObj}
  {μ0 : Mu} {w0 : World} {X : Nat → Bool} {μ : Mu} {a : Act} {w : World} (I : Inv P n nt df f0 h0 nx dst V tc D μ0 w0 X μ a w)
  {j : Nat} (hj : j < n) (hdst : dst j = none) (htc : ∀ id, ¬ tc j id) {b : Nat} (hb : w0.heap.size ≤ b) (o : Obj)
  (hfree : ∀ id ob l, sX h0 tc D X n id = some ob → μ id = some l → l.nil = false → l.b ≠ b) :
  Inv P n nt df f0 h0 nx dst V tc D μ0 w0 (fun i => if i = j then true else X i) μ a { w with heap := w.heap.setIfInBounds b o } := by
 have hX' : ∀ i, i ≠ j → (if i = j then true else X i) = X i := fun i h => by simp [h]
 have hs : ∀ id k, sX h0 tc D (fun i => if i = j then true else X i) k id = sX h0 tc D X k id := fun id k =>
  zDx id k fun i _ hi => hX' i (fun e => htc id (e ▸ hi))
 have hf : ∀ t k, fX f0 dst V (fun i => if i = j then true else X i) k t = fX f0 dst V X k t := fun t k =>
  zGP t k fun i _ hi => hX' i (fun e => by subst e; rw [hdst] at hi; cases hi)
 have hkeep : ∀ c, c ≠ b → (w.heap.setIfInBounds b o)[c]? = w.heap[c]? := fun c hc => by simp [Ne.symm hc]
 have hm : ∀ c, Mine μ (sX h0 tc D (fun i => if i = j then true else X i) n) c → Mine μ (sX h0 tc D X n) c := fun c m => by
  obtain ⟨q, oq, l, h1, h2, h3, h4⟩ := m;exact ⟨q, oq, l, by rw [← hs]; exact h1, h2, h3, h4⟩
 refine ⟨fun i hi => ?_, I.nt, I.df, fun k hk t v hno hv => ?_, fun k hk id ob hno ho => ?_, fun i k oi ok li lk h1 h2 => ?_, fun id l h => ?_, I.ext, I.old, fun c hc hn => ?_, fun c m hc => I.mine c (hm c m) hc, fun id ob h => ?_, ?_, I.os, I.tape, I.output⟩
 ·by_cases e : i = j
  ·omega
  ·simp only [hX' i e] at hi; exact I.inn i hi
 ·rw [hf] at hv;exact I.fr k hk t v (fun i hi hx => hno i hi (by by_cases e : i = j <;> simp [e, hx])) hv
 ·rw [hs] at ho;refine (I.ob k hk id ob (fun i hi hx => hno i hi (by by_cases e : i = j <;> simp [e, hx])) ho).keep (Ext.refl _) fun l hl hz => hkeep _ ?_
  refine hfree id ob l ?_ (zA7 hl).2 hz;rw [zFE id k n hk fun i hi _ hx => hno i hi (by by_cases e : i = j <;> simp [e, hx])]
  exact ho
 ·rw [hs] at h1 h2;exact I.inj i k oi ok li lk h1 h2
 ·rcases I.dom id l h with h1 | ⟨i, h1, h2, h3, h4⟩
  ·exact .inl h1
  ·exact .inr ⟨i, h1, by by_cases e : i = j <;> simp [e, h2], h3, h4⟩
 ·rw [show ({ w with heap := w.heap.setIfInBounds b o } : World).heap[c]? = w.heap[c]? from hkeep c (by omega)]
  exact I.keep c hc hn
 ·rw [hs] at h;exact I.live id ob h
 ·show w0.heap.size ≤ (w.heap.setIfInBounds b o).size;rw [Array.size_setIfInBounds]; exact I.size
def zC9 (pr : Nat → Option (AV × AV)) (X : Nat → Bool) (n : Nat) : List (AV × AV) := (List.range n).filterMap fun i => bif X i then pr i else none
theorem zBn (pr : Nat → Option (AV × AV)) (X : Nat → Bool) (n : Nat) : zC9 pr X (n + 1) = zC9 pr X n ++ (bif X n then (pr n).toList else []) := by
 unfold zC9;rw [List.range_succ, List.filterMap_append];congr 1;cases hX : X n <;> cases h : pr n <;> simp [List.filterMap_cons, hX, h]
theorem zKU {pr : Nat → Option (AV × AV)} {X : Nat → Bool} {j : Nat} : ∀ n, n ≤ j → zC9 pr (fun i => if i = j then true else X i) n = zC9 pr X n
 | 0, _ => rfl
 | n + 1, h => by
  rw [zBn, zBn, zKU n (by omega)]
  simp [show n ≠ j by omega]
theorem zEi {pr : Nat → Option (AV × AV)} {X : Nat → Bool} {j : Nat} (hp : pr j = none) (hX : X j = false) : ∀ n, zC9 pr (fun i => if i = j then true else X i) n = zC9 pr X n
 | 0 => rfl
 | n + 1 => by
  rw [zBn, zBn, zEi hp hX n];by_cases e : n = j
  ·subst e; simp [hp, hX]
  ·simp [e]
theorem zKV {pr : Nat → Option (AV × AV)} {X : Nat → Bool} {j : Nat} {p : AV × AV} (hp : pr j = some p) (hX : X j = false) : ∀ n, j < n → (zC9 pr (fun i => if i = j then true else X i) n).Perm (p :: zC9 pr X n)
 | 0, h => by omega
 | n + 1, h => by
  rw [zBn, zBn];by_cases e : n = j
  ·subst e;rw [zKU n (Nat.le_refl _)];simp only [if_true, cond_true, hp, hX, cond_false, Option.toList_some, List.append_nil];exact List.perm_append_singleton _ _
  ·simp only [e, if_false];exact (zKV hp hX n (by omega)).append_right _
structure Lk (h : Nat → Option AObj) (μ : Mu) (w : World) (μ' : Mu) (w' : World) (h' : Nat → Option AObj) : Prop where
 ext : Ext μ μ'
 old : ∀ q l, μ' q = some l → μ q = none → l.nil = true ∨ w.heap.size ≤ l.b ∨ Mine μ h l.b
 keep : ∀ c, c < w.heap.size → ¬ Mine μ h c → w'.heap[c]? = w.heap[c]?
 live : ∀ q o, h' q = some o → (∃ o0, h q = some o0) ∨ μ q = none
def LitJ (w0 : World) (id m0 n : Nat) (pr : Nat → Option (AV × AV)) (X : Nat → Bool) (μ : Mu) (w : World) (h : Nat → Option AObj) : Prop :=
 (X m0 = false → ∀ i, pr i ≠ none → X i = false) ∧
 (X m0 = true → ∃ l ents clock es, μ id = some l ∧ (l.nil = false ∧ w0.heap.size ≤ l.b) ∧ w.heap[l.b]? = some (.map ents clock) ∧ es.Perm (zC9 pr X n) ∧ ERs μ es ents.toList ∧ ∀ q o lq, h q = some o → μ q = some lq → lq.nil = false → lq.b ≠ l.b)
theorem LitJ.other {w0 w w' : World} {id m0 n j : Nat} {pr : Nat → Option (AV × AV)} {X : Nat → Bool} {μ μ' : Mu} {h h' : Nat → Option AObj} (J : LitJ w0 id m0 n pr X μ w h) (hX : X j = false) (hp : pr j = none) (hm : m0 ≠ j)
  (L : Lk h μ w μ' w' h') : LitJ w0 id m0 n pr (fun i => if i = j then true else X i) μ' w' h' := by
 refine ⟨fun hf i hi => ?_, fun ht => ?_⟩
 ·simp only [if_neg hm] at hf;have : i ≠ j := fun e => hi (e ▸ hp);simp only [if_neg this]; exact J.1 hf i hi
 ·simp only [if_neg hm] at ht;obtain ⟨l, ents, clock, es, h1, h2, h3, h4, h5, h6⟩ := J.2 ht;have hlt : l.b < w.heap.size := (Array.getElem?_eq_some_iff.1 h3).1;have hM : ¬ Mine μ h l.b := fun m => by
   obtain ⟨q, o, lq, m1, m2, ⟨m3, mz⟩, m4⟩ := m;exact h6 q o lq m1 m3 mz m4
  refine ⟨l, ents, clock, es, L.ext _ _ h1, h2, by rw [L.keep l.b hlt hM, h3], by rw [zEi hp hX]; exact h4, ⟨h5.1.ext L.ext, h5.2.ext L.ext⟩, fun q o lq ho hq hz e => ?_⟩
  have key : μ q = none → False := fun hc => by
   rcases L.old q lq hq hc with h7 | h7 | h7
   ·rw [hz] at h7; cases h7
   ·omega
   ·exact hM (e ▸ h7)
  rcases L.live q o ho with ⟨o0, h7⟩ | h7
  ·cases hc : μ q with
   | some l1 =>
    have := L.ext q l1 hc;rw [hq] at this; cases this;exact h6 q o0 lq h7 hc hz e
   | none => exact key hc
  ·exact key h7
theorem zJ4 {pr : Nat → Option (AV × AV)} {X : Nat → Bool} (h : ∀ i, pr i ≠ none → X i = false) : ∀ n, zC9 pr X n = []
 | 0 => rfl
 | n + 1 => by
  rw [zBn, zJ4 h n];cases hp : pr n with
  | none => cases X n <;> rfl
  | some p => rw [h n (by rw [hp]; simp)]; rfl
theorem LitJ.make {w0 w w' : World} {id m0 n : Nat} {pr : Nat → Option (AV × AV)} {X : Nat → Bool} {μ μ' : Mu} {h h' : Nat → Option AObj} (J : LitJ w0 id m0 n pr X μ w h) (hX : X m0 = false) (hp : pr m0 = none)
  {l : Loc} {ents : Array MapEntry} {clock : Nat} {es : List (AV × AV)} (h1 : μ' id = some l) (h2 : l.nil = false ∧ w0.heap.size ≤ l.b) (h3 : w'.heap[l.b]? = some (.map ents clock)) (h4 : es.Perm []) (h5 : ERs μ' es ents.toList)
  (h6 : ∀ q o lq, h' q = some o → μ' q = some lq → lq.nil = false → lq.b ≠ l.b) : LitJ w0 id m0 n pr (fun i => if i = m0 then true else X i) μ' w' h' := by
 refine ⟨fun hf => by simp at hf, fun _ => ⟨l, ents, clock, es, h1, h2, h3, ?_, h5, h6⟩⟩
 rw [zEi hp hX, zJ4 (J.1 hX)]; exact h4
theorem LitJ.insert {w0 w : World} {id m0 n j : Nat} {pr : Nat → Option (AV × AV)} {X : Nat → Bool} {μ : Mu} {h : Nat → Option AObj} (J : LitJ w0 id m0 n pr X μ w h) (hX : X j = false) (hj : j < n) {k v : AV} (hp : pr j = some (k, v)) (hm : X m0 = true) (hmj : m0 ≠ j)
  {kt et t : TypeId} (hu : P.underlying t = some (.map kt et)) (hkt : zR6 P kt = true) (hkf : zEp P kt k = true) {ck cv : Value} (hk : VR μ k ck) (hv : VR μ v cv) (hh : zCz P kt k (zC9 pr X n) = some []) :
  ∃ l ents clock, μ id = some l ∧ (l.nil = false ∧ w0.heap.size ≤ l.b) ∧ (∀ q o lq, h q = some o → μ q = some lq → lq.nil = false → lq.b ≠ l.b) ∧
   (Instr.mapUpdate t (.map (some l.b)) ck cv).run P w = .ok () { w with heap := w.heap.setIfInBounds l.b (.map ents clock) } ∧
   LitJ w0 id m0 n pr (fun i => if i = j then true else X i) μ { w with heap := w.heap.setIfInBounds l.b (.map ents clock) } h := by
 obtain ⟨l, ents, clock, es, h1, h2, h3, h4, h5, h6⟩ := J.2 hm;obtain ⟨kd, hkd⟩ : ∃ kd, P.underlying kt = some kd := by
  have := hkt;unfold zR6 at this;cases hq : P.underlying kt with
  | none => rw [hq] at this; cases this
  | some kd => exact ⟨kd, rfl⟩
 have ek := zBN hkt hkf hk false w;obtain ⟨l', q1, q2⟩ := zCy h4 hh;obtain rfl := q2.eq_nil;have hf := zDV hk w es q1 ents.toList 0 h5;have hlt : l.b < w.heap.size := (Array.getElem?_eq_some_iff.1 h3).1;refine ⟨l, ents.push ⟨ck, cv, clock⟩, clock + 1, h1, h2, h6, ?_, fun hf => ?_, fun _ => ⟨l, ents.push ⟨ck, cv, clock⟩, clock + 1, es ++ [(k, v)], h1, h2, by simp [hlt], ?_, ?_, h6⟩⟩
 ·unfold Instr.mapUpdate;simp only [Sem.run_bind, run_underlying hu, Result.andThen_ok, zDW (P := P) h3, ek, zDs hkd, hf];exact zKy _ h3
 ·simp only [if_neg hmj] at hf;rw [hm] at hf; cases hf
 ·exact ((List.perm_append_singleton _ _).trans (h4.cons _)).trans (zKV hp hX n hj).symm
 ·simp only [Array.toList_push];constructor
  ·rw [List.map_append, List.map_append];exact h5.1.append ⟨_, _, hk, rfl, rfl⟩
  ·rw [List.map_append, List.map_append];exact h5.2.append ⟨_, _, hv, rfl, rfl⟩
structure Lits (w0 : World) (n : Nat) (mk : Nat → Prop) (idf : Nat → Nat) (pr : Nat → Nat → Option (AV × AV)) (X : Nat → Bool) (μ : Mu) (w : World) (h : Nat → Option AObj) : Prop where
 one : ∀ m, m < n → mk m → LitJ w0 (idf m) m n (pr (idf m)) X μ w h
 two : ∀ m m' l l', m < n → m' < n → mk m → mk m' → X m = true → X m' = true → m ≠ m' → μ (idf m) = some l → μ (idf m') = some l' → l.b ≠ l'.b
theorem Lits.other {w0 w w' : World} {n j : Nat} {mk : Nat → Prop} {idf : Nat → Nat} {pr : Nat → Nat → Option (AV × AV)} {X : Nat → Bool} {μ μ' : Mu} {h h' : Nat → Option AObj} (J : Lits w0 n mk idf pr X μ w h) (hX : X j = false) (hp : ∀ id, pr id j = none) (hm : ¬ mk j)
  (L : Lk h μ w μ' w' h') : Lits w0 n mk idf pr (fun i => if i = j then true else X i) μ' w' h' := by
 have hne : ∀ m, mk m → m ≠ j := fun m h e => hm (e ▸ h);refine ⟨fun m hmn h1 => (J.one m hmn h1).other hX (hp _) (hne m h1) L, fun m m' l l' hn hn' h1 h2 h3 h4 h5 h6 h7 => ?_⟩;simp only [if_neg (hne m h1)] at h3;simp only [if_neg (hne m' h2)] at h4;obtain ⟨l0, _, _, _, q1, _⟩ := (J.one m hn h1).2 h3;obtain ⟨l1, _, _, _, q2, _⟩ := (J.one m' hn' h2).2 h4;have e1 := L.ext _ _ q1;have e2 := L.ext _ _ q2;rw [h6] at e1; rw [h7] at e2; cases e1; cases e2;exact J.two m m' l l' hn hn' h1 h2 h3 h4 h5 q1 q2
theorem Lits.make {w0 w w' : World} {n j : Nat} {mk : Nat → Prop} {idf : Nat → Nat} {pr : Nat → Nat → Option (AV × AV)} {X : Nat → Bool} {μ μ' : Mu} {h h' : Nat → Option AObj} (J : Lits w0 n mk idf pr X μ w h) (hX : X j = false) (hp : ∀ id, pr id j = none) (hjn : j < n) (hj : mk j)
  (hw : w0.heap.size ≤ w.heap.size) (L : Lk h μ w μ' w' h') {l : Loc} {ents : Array MapEntry} {clock : Nat} {es : List (AV × AV)} (h1 : μ' (idf j) = some l) (hz : l.nil = false) (h2 : w.heap.size ≤ l.b) (h3 : w'.heap[l.b]? = some (.map ents clock)) (h4 : es.Perm []) (h5 : ERs μ' es ents.toList)
  (h6 : ∀ q o lq, h' q = some o → μ' q = some lq → lq.nil = false → lq.b ≠ l.b) : Lits w0 n mk idf pr (fun i => if i = j then true else X i) μ' w' h' := by
 have hold : ∀ m l', m < n → mk m → X m = true → μ' (idf m) = some l' → l'.b < w.heap.size := fun m l' hn hm hx hl => by
  obtain ⟨l0, _, _, _, q1, _, q3, _⟩ := (J.one m hn hm).2 hx;have e1 := L.ext _ _ q1;rw [hl] at e1; cases e1;exact (Array.getElem?_eq_some_iff.1 q3).1
 refine ⟨fun m hmn hm => ?_, fun m m' l1 l2 hn hn' q1 q2 q3 q4 q5 q6 q7 => ?_⟩
 ·by_cases e : m = j
  ·subst e;exact (J.one m hmn hm).make hX (hp _) h1 ⟨hz, by omega⟩ h3 h4 h5 h6
  ·exact (J.one m hmn hm).other hX (hp _) e L
 ·by_cases e : m = j
  ·subst e;have e' : m' ≠ m := fun e => q5 e.symm;simp only [if_neg e'] at q4;have := hold m' l2 hn' q2 q4 q7;rw [h1] at q6; cases q6;omega
  ·simp only [if_neg e] at q3;have := hold m l1 hn q1 q3 q6;by_cases e' : m' = j
   ·subst e';rw [h1] at q7; cases q7;omega
   ·simp only [if_neg e'] at q4;obtain ⟨l0, _, _, _, r1, _⟩ := (J.one m hn q1).2 q3;obtain ⟨l3, _, _, _, r2, _⟩ := (J.one m' hn' q2).2 q4;have e1 := L.ext _ _ r1;have e2 := L.ext _ _ r2;rw [q6] at e1; rw [q7] at e2; cases e1; cases e2;exact J.two m m' l1 l2 hn hn' q1 q2 q3 q4 q5 r1 r2
theorem Lits.insert {w0 w : World} {n j m0 : Nat} {mk : Nat → Prop} {idf : Nat → Nat} {pr : Nat → Nat → Option (AV × AV)} {X : Nat → Bool} {μ : Mu} {h : Nat → Option AObj} (J : Lits w0 n mk idf pr X μ w h) (hX : X j = false) (hj : j < n) {k v : AV} (hp : pr (idf m0) j = some (k, v)) (hm : X m0 = true) (hmj : ¬ mk j) (hm0 : mk m0) (hmn : m0 < n)
  (hpo : ∀ id, id ≠ idf m0 → pr id j = none) (hinj : ∀ m, m < n → mk m → m ≠ m0 → idf m ≠ idf m0)
  {kt et t : TypeId} (hu : P.underlying t = some (.map kt et)) (hkt : zR6 P kt = true) (hkf : zEp P kt k = true) {ck cv : Value} (hk : VR μ k ck) (hv : VR μ v cv) (hh : zCz P kt k (zC9 (pr (idf m0)) X n) = some []) :
  ∃ l ents clock, μ (idf m0) = some l ∧ (l.nil = false ∧ w0.heap.size ≤ l.b) ∧ (∀ q o lq, h q = some o → μ q = some lq → lq.nil = false → lq.b ≠ l.b) ∧
   (Instr.mapUpdate t (.map (some l.b)) ck cv).run P w = .ok () { w with heap := w.heap.setIfInBounds l.b (.map ents clock) } ∧
   Lits w0 n mk idf pr (fun i => if i = j then true else X i) μ { w with heap := w.heap.setIfInBounds l.b (.map ents clock) } h := by
 have hne : ∀ m, mk m → m ≠ j := fun m h e => hmj (e ▸ h);obtain ⟨l, ents, clock, h1, h2, h3, h4, h5⟩ := (J.one m0 hmn hm0).insert hX hj hp hm (hne m0 hm0) hu hkt hkf hk hv hh;refine ⟨l, ents, clock, h1, h2, h3, h4, fun m hmn' hmk => ?_, fun m m' l1 l2 hn hn' q1 q2 q3 q4 q5 q6 q7 => ?_⟩
 ·by_cases e : m = m0
  ·subst e; exact h5
  ·have J1 := J.one m hmn' hmk;have hpj := hpo _ (hinj m hmn' hmk e);refine ⟨fun hf i hi => ?_, fun ht => ?_⟩
   ·simp only [if_neg (hne m hmk)] at hf;have : i ≠ j := fun e => hi (e ▸ hpj);simp only [if_neg this]; exact J1.1 hf i hi
   ·simp only [if_neg (hne m hmk)] at ht;obtain ⟨l', ents', clock', es, r1, r2, r3, r4, r5, r6⟩ := J1.2 ht;have hbb : l'.b ≠ l.b := J.two m m0 l' l hmn' hmn hmk hm0 ht hm e r1 h1;refine ⟨l', ents', clock', es, r1, r2, ?_, by rw [zEi hpj hX]; exact r4, r5, r6⟩
    show (w.heap.setIfInBounds l.b _)[l'.b]? = _;rw [Array.getElem?_setIfInBounds_ne (Ne.symm hbb)]; exact r3
 ·simp only [if_neg (hne m q1)] at q3;simp only [if_neg (hne m' q2)] at q4;exact J.two m m' l1 l2 hn hn' q1 q2 q3 q4 q5 q6 q7
theorem Inv.link {n nt : Nat} {df : List (FuncId × List AV)} {f0 : Nat → Option AV} {h0 : Nat → Option AObj} {nx : Nat → Nat} {dst : Nat → Option Nat} {V : Nat → AV} {tc : Nat → Nat → Prop} {D : Nat → Nat → Option AObj}
  {μ0 : Mu} {w0 : World} {X : Nat → Bool} {μ : Mu} {a : Act} {w : World} (I : Inv P n nt df f0 h0 nx dst V tc D μ0 w0 X μ a w)
  (hnx : ∀ i k, i ≤ k → k ≤ n → nx i ≤ nx k) {j : Nat} (hj : j < n) (hX : X j = false)
  {F : List Nat} {R0 Rg : Nat → Option AObj} (hR0 : ∀ id o, R0 id = some o → id ∈ F ∧ sX h0 tc D X n id = some o)
  (htc : ∀ id, tc j id → ∀ i, i ≠ j → tc i id → (X i = true ↔ i < j))
  (hA : ∀ id o, tc j id → D j id = some o → Rg id = some o)
  {μ' : Mu} {w' : World} (ev : Evo (zBt μ (nx j)) R0 (nx j) w μ' Rg (nx (j + 1)) w') :
  Lk (sX h0 tc D X n) μ w (fun id => if nx j ≤ id ∧ id < nx (j + 1) then μ' id else μ id) w' (sX h0 tc D (fun i => if i = j then true else X i) n) := by
 have hX' : ∀ i, i ≠ j → (if i = j then true else X i) = X i := fun i h => by simp [h]
 have hn0 : nx 0 ≤ nx j := hnx 0 j (by omega) (by omega)
 have hgap : ∀ id l, μ id = some l → ¬ (nx j ≤ id ∧ id < nx (j + 1)) := fun id l h hr => by
  rcases I.dom id l h with h1 | ⟨i, h1, h2, h3, h4⟩
  ·omega
  ·have hij : i ≠ j := fun e => by subst e; rw [hX] at h2; cases h2
   rcases Nat.lt_or_gt_of_ne hij with h5 | h5
   ·have := hnx (i + 1) j (by omega) (by omega); omega
   ·have := hnx (j + 1) i (by omega) (by omega); omega
 have hmine0 : ∀ b, Mine (zBt μ (nx j)) R0 b → Mine μ (sX h0 tc D X n) b := fun b m => by
  obtain ⟨q, o, l, h1, h2, ⟨h3, hz⟩, h4⟩ := m;exact ⟨q, o, l, (hR0 q o h1).2, h2, ⟨(zA7 h3).2, hz⟩, h4⟩
 refine ⟨fun id l h => ?_, fun q l h h1 => ?_, fun c hc hm => ev.keep c hc fun m => hm (hmine0 c m), fun q o h => ?_⟩
 ·show (if _ then _ else _) = _; rw [if_neg (hgap id l h)]; exact h
 ·by_cases hr : nx j ≤ q ∧ q < nx (j + 1)
  ·simp only [if_pos hr] at h;have hc : zBt μ (nx j) q = none := by
    unfold zBt;split
    ·exact h1
    ·rfl
   rcases (ev.old q l h hc).2 with h2 | h2 | h2
   ·exact .inl h2
   ·exact .inr (.inl h2)
   ·exact .inr (.inr (hmine0 _ h2))
  ·simp only [if_neg hr] at h;rw [h1] at h; cases h
 ·by_cases ht : tc j q
  ·have e1 : sX h0 tc D (fun i => if i = j then true else X i) n q = D j q := by
    have e1 : sX h0 tc D (fun i => if i = j then true else X i) n q = sX h0 tc D (fun i => if i = j then true else X i) (j + 1) q := by
     refine zFE q (j + 1) n hj fun i hi hi' hx ht' => ?_;have hne : i ≠ j := by omega
     simp only [hX' i hne] at hx;have := (htc q ht i hne ht').1 hx;omega
    rw [e1];simp [sX, ht]
   rw [e1] at h;have hg := hA q o ht h;obtain ⟨l, hl, _⟩ := (ev.rep.obj q o hg).mu;rcases ev.live q o hg with ⟨o0, h2⟩ | h2
   ·exact .inl ⟨o0, (hR0 q o0 h2).2⟩
   ·refine .inr ?_;cases hc : μ q with
    | none => rfl
    | some l' =>
     exfalso;refine hgap q l' hc ⟨h2, ?_⟩;rcases Nat.lt_or_ge q (nx (j + 1)) with h3 | h3
     ·exact h3
     ·rw [ev.dom q h3] at hl; cases hl
  ·rw [show sX h0 tc D (fun i => if i = j then true else X i) n q = sX h0 tc D X n q from zDx q n fun i _ hi => hX' i (fun e => ht (e ▸ hi))] at h
   exact .inl ⟨o, h⟩
end
end Go.Proofs.YtenkabjkgngcdaaGreat.Ab
namespace Go.Proofs.YtenkabjkgngcdaaGreat.Ab
open Go
variable [Rho]
section
variable {P : Program}
theorem zZs {H R : Heap} {F : List Nat} (lg : LG (restrict H F) R) (bd : Bd H) : LG H (merge H F R) := fun _ => by
 have h := zGN lg bd;obtain ⟨_, l, l1, l2, l3⟩ := lg (bd.restrict F);rw [zAD] at l3;refine ⟨(h 0).2.2, R.log, zWz H F R, fun id hid hm => (h id).2.1 fun ht => ?_, by rw [zDc]; exact l3⟩
 rcases ht with ⟨h1, _, _⟩ | ⟨h1, _⟩
 ·exact hm h1
 ·omega
theorem zWj (ops : List Oper) {i j : Nat} (h : i ≠ j) : zSV ops i j = zSV ops j i := by
 unfold zSV;rcases Nat.lt_or_gt_of_ne h with h1 | h1
 ·have e1 : Nat.blt i j = true := by rw [Nat.blt_eq]; exact h1
  have e2 : Nat.blt j i = false := by
   cases hb : Nat.blt j i with
   | false => rfl
   | true => rw [Nat.blt_eq] at hb; omega
  rw [e1, e2]
 ·have e1 : Nat.blt j i = true := by rw [Nat.blt_eq]; exact h1
  have e2 : Nat.blt i j = false := by
   cases hb : Nat.blt i j with
   | false => rfl
   | true => rw [Nat.blt_eq] at hb; omega
  rw [e1, e2]
theorem zTy {ops : List Oper} {rs : List Rec} (h : zTz ops rs = true) {a b : Rec} (ha : a ∈ rs) (hb : b ∈ rs) (hc : clash a b = true) (hn : a.i ≠ b.i) : zSV ops a.i b.i = true := by
 unfold zTz at h;have h1 := List.all_eq_true.1 (List.all_eq_true.1 h a ha) b hb;rw [hc] at h1;simp only at h1;rcases Bool.or_eq_true_iff.1 h1 with h2 | h2
 ·exact absurd (Nat.eq_of_beq_eq_true h2) hn
 ·exact h2
theorem hitsA_nil {kt : TypeId} {key : AV} : ∀ {es : List (AV × AV)}, zCz P kt key es = some [] ↔ ∀ e ∈ es, eqA P zB0 kt key e.1 = some (.cb false)
 | [] => by simp [zCz]
 | e :: es => by
  simp only [zCz];constructor
  ·intro h;split at h
   ·cases h
   ·rename_i l h1 h2;cases h;intro x hx;rcases List.mem_cons.1 hx with rfl | hx
    ·exact h1
    ·exact hitsA_nil.1 h2 x hx
   ·cases h
  ·intro h;rw [h e List.mem_cons_self, hitsA_nil.2 fun x hx => h x (List.mem_cons_of_mem _ hx)]
def prE (e : Ev) (id : Nat) : Option (AV × AV) := match e.note with
 | some (.ins _ id' _ k v) => bif Nat.beq id' id then some (k, v) else none
 | _ => none
def mkE (e : Ev) : Prop := ∃ j id, e.note = some (.mk j id)
structure Text (P : Program) (ops : Array Oper) (T : Nat → St) (E : Nat → Ev) (L : Nat → List Note) (tc : Nat → Nat → Prop) : Prop where
 step : ∀ (k : Nat) (o : Oper), ops[k]? = some o → xAm P ops o k (L k) (T k) (E k) (T (k + 1))
 l0 : L 0 = []
 noted : ∀ k, k < ops.size → L (k + 1) = notes (E k) (L k)
 tceq : ∀ k id, tc k id ↔ (E k).want = true ∧ xHn (T k).H.next (E k).F (E k).R id
 ord : ∀ i j id, i < ops.size → j < ops.size → i ≠ j → tc i id → (id ∈ (E j).F ∨ tc j id) → zSV ops.toList i j = true
theorem Text.facts {ops : Array Oper} {T : Nat → St} {E : Nat → Ev} {L : Nat → List Note} {tc : Nat → Nat → Prop} (t : Text P ops T E L tc) (hb : Bd (T 0).H) : ∀ k, k ≤ ops.size →
  Bd (T k).H ∧ (∀ id, (T k).H.get id = sX (T 0).H.get tc (fun k id => (T (k + 1)).H.get id) (fun _ => true) k id) ∧
  (∀ s, lk (T k).fr s = fX (lk (T 0).fr) (fun k => (ops[k]?).bind (·.dst)) (fun k => (E k).v) (fun _ => true) k s) ∧ (T k).nt = (T 0).nt ∧ (T k).df = (T 0).df ∧ (∀ i, i ≤ k → (T i).H.next ≤ (T k).H.next)
 | 0, _ => ⟨hb, fun _ => rfl, fun _ => rfl, rfl, rfl, fun i hi => (by
   have : i = 0 := by omega
   rw [this]; exact Nat.le_refl _)⟩
 | k + 1, hk => by
  obtain ⟨f1, f2, f3, f4, f5, f6⟩ := Text.facts t hb k (by omega)
  have hok : ops[k]? = some (ops[k]'(by omega)) := Array.getElem?_eq_getElem _
  obtain ⟨s1, s2, s3, s4, s5, s6⟩ := t.step k _ hok;have heap : Bd (T (k + 1)).H ∧ (∀ id, ¬ tc k id → (T (k + 1)).H.get id = (T k).H.get id) ∧ (T k).H.next ≤ (T (k + 1)).H.next := by
   cases hw : (E k).want with
   | true =>
    obtain ⟨lg, q2, _⟩ := s5 hw;refine ⟨?_, fun id ht => ?_, ?_⟩
    ·rw [q2]; exact (zGN lg f1 0).2.2
    ·rw [q2]; exact (zGN lg f1 id).2.1 fun h => ht ((t.tceq k id).2 ⟨hw, h⟩)
    ·rw [q2];obtain ⟨_, l, _, _, l3⟩ := lg (f1.restrict _);rw [zAD] at l3; rw [zDc]; exact l3
   | false =>
    obtain ⟨q1, ⟨pc, q2⟩, q3, _⟩ := s6 hw;rw [q2];exact ⟨f1, fun _ _ => rfl, Nat.le_refl _⟩
  obtain ⟨g1, g2, g3⟩ := heap;refine ⟨g1, fun id => ?_, fun s => ?_, s3.trans f4, s4.trans f5, fun i hi => ?_⟩
  ·simp only [sX];split
   ·rfl
   ·rename_i h;rw [g2 id (fun ht => h ⟨rfl, ht⟩)]; exact f2 id
  ·simp only [fX, hok, Option.bind_some];rcases zPu s2 with ⟨h1, h2⟩ | ⟨d, h1, h2, h3⟩
   ·rw [h2, if_neg (by simp [h1])]; exact f3 s
   ·rw [h3, zDD, h1];by_cases e : s = d
    ·subst e; simp
    ·rw [if_neg e, if_neg (by simp; exact fun h => e h.symm)]; exact f3 s
  ·rcases Nat.lt_or_ge i (k + 1) with h | h
   ·exact Nat.le_trans (f6 i (by omega)) g3
   ·have : i = k + 1 := by omega
    subst this; exact Nat.le_refl _
theorem Text.mem {ops : Array Oper} {T : Nat → St} {E : Nat → Ev} {L : Nat → List Note} {tc : Nat → Nat → Prop} (t : Text P ops T E L tc) (x : Note) : ∀ k, k ≤ ops.size → (x ∈ L k ↔ ∃ i, i < k ∧ (E i).note = some x)
 | 0, _ => by rw [t.l0]; simp
 | k + 1, hk => by
  rw [t.noted k (by omega)]
  have ih := Text.mem t x k (by omega)
  unfold notes;constructor
  ·intro h;split at h
   ·obtain ⟨i, h1, h2⟩ := ih.1 h; exact ⟨i, by omega, h2⟩
   ·rename_i n hn;rcases List.mem_cons.1 h with rfl | h
    ·exact ⟨k, by omega, hn⟩
    ·obtain ⟨i, h1, h2⟩ := ih.1 h; exact ⟨i, by omega, h2⟩
  ·rintro ⟨i, h1, h2⟩
   rcases Nat.lt_or_ge i k with h3 | h3
   ·have := ih.2 ⟨i, h3, h2⟩;split
    ·exact this
    ·exact List.mem_cons_of_mem _ this
   ·have : i = k := by omega
    subst this;rw [h2]; exact List.mem_cons_self
theorem Text.noteW {ops : Array Oper} {T : Nat → St} {E : Nat → Ev} {L : Nat → List Note} {tc : Nat → Nat → Prop} (t : Text P ops T E L tc) {k : Nat} (hk : k < ops.size) {x : Note} (hx : (E k).note = some x) : (E k).want = true := by
 have hok : ops[k]? = some (ops[k]'hk) := Array.getElem?_eq_getElem _;cases hw : (E k).want with
 | true => rfl
 | false =>
  have := ((t.step k _ hok).2.2.2.2.2 hw).2.2.2;rw [hx] at this; cases this
theorem Text.mkS {ops : Array Oper} {T : Nat → St} {E : Nat → Ev} {L : Nat → List Note} {tc : Nat → Nat → Prop} (t : Text P ops T E L tc) {k : Nat} (hk : k < ops.size) {j id : Nat} (hx : (E k).note = some (.mk j id)) : j = k ∧ id = (T k).H.next ∧ (T (k + 1)).H.next = (T k).H.next + 1 := by
 have hok : ops[k]? = some (ops[k]'hk) := Array.getElem?_eq_getElem _;obtain ⟨_, h2, h3⟩ := (t.step k _ hok).2.2.2.2.1 (t.noteW hk hx);unfold xHA at h3;rw [hx] at h3;obtain ⟨h4, h5, _, _, h6, _⟩ := h3;exact ⟨h4, h5, by rw [h2, zDc, h6]⟩
theorem zLf {pr : Nat → Option (AV × AV)} {X : Nat → Bool} {p : AV × AV} : ∀ n, p ∈ zC9 pr X n → ∃ i, i < n ∧ X i = true ∧ pr i = some p
 | 0, h => by simp [zC9] at h
 | n + 1, h => by
  rw [zBn] at h;rcases List.mem_append.1 h with h | h
  ·obtain ⟨i, h1, h2, h3⟩ := zLf n h; exact ⟨i, by omega, h2, h3⟩
  ·cases hX : X n with
   | false => rw [hX] at h; simp at h
   | true =>
    rw [hX] at h;exact ⟨n, by omega, hX, by simpa [Option.mem_toList] using h⟩
theorem zHx {id i j : Nat} {t : TypeId} {k v : AV} (hne : j ≠ i) : ∀ {ns : List Note}, Note.ins j id t k v ∈ ns → (k, v) ∈ zHT id i ns
 | [], h => by simp at h
 | .mk a b :: l, h => by
  simp only [zHT];exact zHx hne (by simpa using h)
 | .ins a b c d e :: l, h => by
  simp only [zHT];rcases List.mem_cons.1 h with h1 | h1
  ·cases h1;rw [show Nat.beq id id = true by simp, show Nat.beq j i = false by
    cases hb : Nat.beq j i with
    | false => rfl
    | true => exact absurd (Nat.eq_of_beq_eq_true hb) hne]
   exact List.mem_cons_self
  ·have := zHx hne (i := i) h1;cases Nat.beq b id <;> cases Nat.beq a i <;> simp [this]
theorem zZe {e : Ev} {id : Nat} {k v : AV} (h : prE e id = some (k, v)) : ∃ j t, e.note = some (.ins j id t k v) := by
 unfold prE at h;split at h
 ·rename_i j id' t k' v' hn;cases hb : Nat.beq id' id with
  | true =>
   rw [hb] at h; cases h;have := Nat.eq_of_beq_eq_true hb;subst this; exact ⟨j, t, hn⟩
  | false => rw [hb] at h; cases h
 ·cases h
theorem Text.insS {ops : Array Oper} {T : Nat → St} {E : Nat → Ev} {L : Nat → List Note} {tc : Nat → Nat → Prop} (t : Text P ops T E L tc) {k : Nat} (hk : k < ops.size) {j id : Nat} {ty : TypeId} {key v : AV} (hx : (E k).note = some (.ins j id ty key v)) : j = k := by
 have hok : ops[k]? = some (ops[k]'hk) := Array.getElem?_eq_getElem _;obtain ⟨_, h2, h3⟩ := (t.step k _ hok).2.2.2.2.1 (t.noteW hk hx);unfold xHA at h3;rw [hx] at h3;exact h3.1
theorem Text.all {ops : Array Oper} {T : Nat → St} {E : Nat → Ev} {L : Nat → List Note} {tc : Nat → Nat → Prop} (t : Text P ops T E L tc) (id : Nat) {X : Nat → Bool} : ∀ k, k ≤ ops.size → (∀ i, i < k → X i = true) → zC9 (fun i => prE (E i) id) X k = (zER id (L k)).reverse
 | 0, _, _ => by rw [t.l0]; rfl
 | k + 1, hk, hX => by
  rw [zBn, Text.all t id k (by omega) fun i hi => hX i (by omega), hX k (by omega), t.noted k (by omega)]
  unfold notes prE;cases hn : (E k).note with
  | none => simp
  | some x =>
   cases x with
   | mk a b => simp [zER]
   | ins a b c d e =>
    simp only [zER];cases Nat.beq b id <;> simp
section main
variable {ops : Array Oper} {T : Nat → St} {E : Nat → Ev} {L : Nat → List Note} {tc : Nat → Nat → Prop} {μ0 : Mu} {w0 : World} {Q : Exit → Act → World → Prop}
abbrev xB7 (P : Program) (ops : Array Oper) (T : Nat → St) (E : Nat → Ev) (tc : Nat → Nat → Prop) (μ0 : Mu) (w0 : World) (X : Nat → Bool) (μ : Mu) (a : Act) (w : World) : Prop :=
 Inv P ops.size (T 0).nt (T 0).df (lk (T 0).fr) (T 0).H.get (fun k => (T k).H.next) (fun k => (ops[k]?).bind (·.dst)) (fun k => (E k).v) tc (fun k id => (T (k + 1)).H.get id) μ0 w0 X μ a w
abbrev xEq (ops : Array Oper) (T : Nat → St) (E : Nat → Ev) (tc : Nat → Nat → Prop) (w0 : World) (X : Nat → Bool) (μ : Mu) (w : World) : Prop :=
 Lits w0 ops.size (fun k => mkE (E k)) (fun k => (T k).H.next) (fun id k => prE (E k) id) X μ w (sX (T 0).H.get tc (fun k id => (T (k + 1)).H.get id) X ops.size)
theorem Evo.less {μ μ' : Mu} {h h' h2 : Nat → Option AObj} {n n' : Nat} {w w' : World} (e : Evo μ h n w μ' h' n' w') (hs : ∀ id o, h2 id = some o → h' id = some o) : Evo μ h n w μ' h2 n' w' :=
 ⟨e.ext, ⟨fun id o ho => e.rep.obj id o (hs id o ho), fun i j oi oj li lj h1 h2 => e.rep.inj i j oi oj li lj (hs i oi h1) (hs j oj h2)⟩, e.lo, e.dom, e.old, e.keep, fun b m hb => (by
  obtain ⟨j, o, l, m1, m2, m3, m4⟩ := m;exact e.mine b ⟨j, o, l, hs j o m1, m2, m3, m4⟩ hb), fun id o ho => e.live id o (hs id o ho), e.size, e.os, e.tape, e.output⟩
theorem zPj (t : Text P ops T E L tc) (hlit : (L ops.size).all (zTe P (L ops.size)) = true) (hb : Bd (T 0).H) (hst : zHJ ops = true) {X : Nat → Bool} {μ : Mu} {a : Act} {w : World} (I : xB7 P ops T E tc μ0 w0 X μ a w) (J : xEq ops T E tc w0 X μ w) (hd : Down ops X) {j : Nat} {oj : Oper} (hj : ops[j]? = some oj)
  (hp : ∀ e ∈ oj.after.toList, zCQ e.ground = true → X e.on = true) (hX : X j = false) : wpOp P ops Q j (fun a' w' => ∃ μ', xB7 P ops T E tc μ0 w0 (fun i => if i = j then true else X i) μ' a' w' ∧ xEq ops T E tc w0 (fun i => if i = j then true else X i) μ' w') a w := by
 have hjn : j < ops.size := (Array.getElem?_eq_some_iff.1 hj).1;obtain ⟨f1, f2, f3, f4, f5, f6⟩ := t.facts hb j (by omega)
 obtain ⟨g1, g2, g3, g4, g5, g6⟩ := t.facts hb (j + 1) (by omega)
 obtain ⟨_, hstat⟩ := zI8 hst;obtain ⟨he, hslot⟩ := hstat j oj hj;obtain ⟨s1, s2, s3, s4, s5, s6⟩ := t.step j oj hj;have hmono : ∀ i k, i ≤ k → k ≤ ops.size → (T i).H.next ≤ (T k).H.next := fun i k h1 h2 => (t.facts hb k h2).2.2.2.2.2 i h1;have hordS : ∀ s, s ∈ looks ops oj → ∀ i, i ≠ j → (ops[i]?).bind (·.dst) = some s → (X i = true ↔ i < j) := fun s hs i hi hdi => by
  cases ho : ops[i]? with
  | none => simp [ho] at hdi
  | some oi =>
   simp [ho] at hdi;exact zRt hd hj hp hX hi (hslot s hs i oi ho hdi hi)
 have hordO : ∀ id i, i ≠ j → tc i id → (id ∈ (E j).F ∨ tc j id) → (X i = true ↔ i < j) := fun id i hi ht hor => by
  rcases Nat.lt_or_ge i ops.size with h1 | h1
  ·exact zRt hd hj hp hX hi (t.ord i j id h1 hjn hi ht hor)
  ·refine ⟨fun h => ?_, fun h => by omega⟩
   have := I.inn i h; omega
 have hfr : FRel (zBt μ (T j).H.next) (narrow ops oj (T j).fr) a.tmps := fun s v hs => by
  obtain ⟨hm, hl⟩ := zWC _ _ s v hs;have hm' : s ∈ looks ops oj := List.mem_append_left _ hm;rw [f3 s] at hl;have hag : fX (lk (T 0).fr) (fun k => (ops[k]?).bind (·.dst)) (fun k => (E k).v) X j s = some v := by
   rw [← hl];refine zGP s j fun i hi hdi => ?_;rw [(hordS s hm' i (by omega) hdi).2 hi]
  refine I.fr j (by omega) s v (fun i hi hx hdi => ?_) hag
  by_cases e : i = j
  ·subst e; rw [hX] at hx; cases hx
  ·have := (hordS s hm' i e hdi).1 hx;omega
 have hsX : ∀ id, id ∈ (E j).F → sX (T 0).H.get tc (fun k id => (T (k + 1)).H.get id) X ops.size id = (T j).H.get id ∧ sX (T 0).H.get tc (fun k id => (T (k + 1)).H.get id) X j id = (T j).H.get id ∧ ∀ i, j ≤ i → X i = true → ¬ tc i id := fun id hF => by
  have h1 : ∀ i, j ≤ i → X i = true → ¬ tc i id := fun i hi hx ht => by
   by_cases e : i = j
   ·subst e; rw [hX] at hx; cases hx
   ·have := (hordO id i e ht (.inl hF)).1 hx;omega
  have h2 : sX (T 0).H.get tc (fun k id => (T (k + 1)).H.get id) X j id = (T j).H.get id := by
   rw [f2 id];refine zDx id j fun i hi ht => ?_;rw [(hordO id i (by omega) ht (.inl hF)).2 hi]
  exact ⟨by rw [zFE id j ops.size (by omega) fun i hi _ hx => h1 i hi hx]; exact h2, h2, h1⟩
 have hR0 : ∀ id o, (restrict (T j).H (E j).F).get id = some o → id ∈ (E j).F ∧ sX (T 0).H.get tc (fun k id => (T (k + 1)).H.get id) X ops.size id = some o := fun id o h => by
  rw [zD4] at h;split at h
  ·rename_i hF;have hF' : id ∈ (E j).F := by simpa using hF
   exact ⟨hF', by rw [(hsX id hF').1]; exact h⟩
  ·cases h
 have hRF : ∀ id o, id ∈ (E j).F → sX (T 0).H.get tc (fun k id => (T (k + 1)).H.get id) X ops.size id = some o → (restrict (T j).H (E j).F).get id = some o := fun id o hF h => by
  rw [zD4, if_pos (by simpa using hF), ← (hsX id hF).1]; exact h
 have hrep : Rep (zBt μ (T j).H.next) (restrict (T j).H (E j).F).get w := by
  refine ⟨fun id o h => ?_, fun p q op oq lp lq h1 h2 hpq ho h3 h4 => ?_⟩
  ·obtain ⟨hF, hs⟩ := hR0 id o h;obtain ⟨k1, k2, k3⟩ := hsX id hF;exact I.ob j (by omega) id o k3 (by rw [k2, ← k1]; exact hs)
  ·exact I.inj p q op oq lp lq (hR0 p op h1).2 (hR0 q oq h2).2 hpq ho (zA7 h3).2 (zA7 h4).2
 have hdom : Dom (zBt μ (T j).H.next) (T j).H.next := fun id h => by unfold zBt; rw [if_neg (by omega)]
 have hdst : ∀ s, (ops[j]?).bind (·.dst) = some s → s < (T 0).nt ∧ ∀ i, i ≠ j → (ops[i]?).bind (·.dst) = some s → (X i = true ↔ i < j) := fun s hs => by
  simp [hj] at hs;refine ⟨?_, fun i hi hdi => hordS s (List.mem_append_right _ (by simp [hs])) i hi hdi⟩
  rcases zPu s2 with ⟨h1, _⟩ | ⟨d, h1, h2, _⟩
  ·rw [h1] at hs; cases hs
  ·rw [hs] at h1; cases h1;rw [← f4]; exact h2
 have hgo : (ops[j]?).bind (·.dst) = oj.dst := by simp [hj]
 have hF0 : ∀ id, id ∈ (E j).F → (T j).H.next ≤ id → sX (T 0).H.get tc (fun k id => (T (k + 1)).H.get id) X ops.size id = none := fun id hF h => by
  rw [(hsX id hF).1];cases hg : (T j).H.get id with
  | none => rfl
  | some o => have := f1 id o hg; omega
 unfold wpOp;simp only [hj];rw [s1 hfr];cases hw : (E j).want with
 | true =>
  obtain ⟨lg, q2, q3⟩ := s5 hw;simp only [if_true];left;have hnx1 : (T (j + 1)).H.next = (E j).R.next := by rw [q2, zDc]
  have hA : ∀ id o, tc j id → (T (j + 1)).H.get id = some o → (E j).R.get id = some o := fun id o ht ho => by
   rw [q2] at ho;exact (zGN lg f1 id).1 ((t.tceq j id).1 ht).2 o ho
  have htc : ∀ id, tc j id → ∀ i, i ≠ j → tc i id → (X i = true ↔ i < j) := fun id ht i hi hti => hordO id i hi hti (.inr ht);have step : ∀ {μ' : Mu} {w' : World} {c : Value}, Evo (zBt μ (T j).H.next) (restrict (T j).H (E j).F).get (T j).H.next w μ' (E j).R.get (T (j + 1)).H.next w' → VR μ' (E j).v c →
    xB7 P ops T E tc μ0 w0 (fun i => if i = j then true else X i) (fun id => if (T j).H.next ≤ id ∧ id < (T (j + 1)).H.next then μ' id else μ id) (a.put oj.dst c) w' := fun {μ' w' c} ev hv => by
   have hres := Inv.step I hmono hjn hX hdst hR0 hRF htc hA (fun id o ht ho => ?_) (fun id ht => ?_) ev hv hF0
   ·rw [hgo] at hres;exact hres
   ·obtain ⟨hF, _⟩ := hR0 id o ho;have hid : id < (T j).H.next := by
     rw [zD4, if_pos (by simpa using hF)] at ho
     exact f1 id o ho
    obtain ⟨_, l, l1, l2, _⟩ := lg (f1.restrict _);rw [zHO, List.append_nil] at l1;rw [l2 id (by rw [zAD]; exact hid) fun hm => ht ((t.tceq j id).2 ⟨hw, .inl ⟨l1 ▸ hm, hF, hid⟩⟩)]
    exact ho
   ·rcases ((t.tceq j id).1 ht).2 with ⟨_, h2, _⟩ | ⟨h1, h2⟩
    ·exact .inl h2
    ·exact .inr ⟨h1, by rw [hnx1]; exact h2⟩
  have link : ∀ {μ' : Mu} {w' : World}, Evo (zBt μ (T j).H.next) (restrict (T j).H (E j).F).get (T j).H.next w μ' (E j).R.get (T (j + 1)).H.next w' →
    Lk (sX (T 0).H.get tc (fun k id => (T (k + 1)).H.get id) X ops.size) μ w (fun id => if (T j).H.next ≤ id ∧ id < (T (j + 1)).H.next then μ' id else μ id) w' (sX (T 0).H.get tc (fun k id => (T (k + 1)).H.get id) (fun i => if i = j then true else X i) ops.size) := fun {μ' w'} ev =>
   Inv.link I hmono hjn hX hR0 htc hA ev
  unfold xHA at q3;cases hnote : (E j).note with
  | none =>
   rw [hnote] at q3;refine q3.2 hfr hrep (by rw [zAD]; exact hdom) fun μ' c w' dl ev hv hdl => ?_
   cases hdl;rw [zAD, ← hnx1] at ev;exact ⟨_, step ev hv, J.other hX (fun id => by simp [prE, hnote]) (fun ⟨_, _, h⟩ => by rw [hnote] at h; cases h) (link ev)⟩
  | some nt =>
   rw [hnote] at q3;cases nt with
   | mk j' id =>
    obtain ⟨r1, r2, r3, r4, r5, r6, r7, r8⟩ := q3;subst r1; subst r2;have hRn : ∀ id o, (E j').R.get id = some o → ((restrict (T j').H []).new (.map [])).get id = some o := fun id o h => by
     unfold Heap.get at h; rw [r7] at h; cases h
    rw [r3] at hrep;refine r8.2 hfr hrep (by rw [zAD]; exact hdom) fun μ' c w' dl ev0 hv hdl => ?_
    cases hdl;have ev : Evo (zBt μ (T j').H.next) (restrict (T j').H (E j').F).get (T j').H.next w μ' (E j').R.get (T (j' + 1)).H.next w' := by
     rw [hnx1, r5, r3]; exact ev0.less hRn
    have hgot : ((restrict (T j').H []).new (.map [])).get (T j').H.next = some (.map []) := by
     show look ((_, _) :: _) _ = _;rw [show look (((restrict (T j').H []).next, AObj.map []) :: (restrict (T j').H []).objs) (T j').H.next = @Bool.rec (fun _ => Option AObj) (look (restrict (T j').H []).objs (T j').H.next) (some (AObj.map [])) (Nat.beq (restrict (T j').H []).next (T j').H.next) from rfl, zAD, show Nat.beq (T j').H.next (T j').H.next = true by simp]
    obtain ⟨l, ents, clock, es, ⟨e1, ez⟩, e2, e3, e4⟩ := ev0.rep.obj _ _ hgot;have hcn : zBt μ (T j').H.next (T j').H.next = none := by unfold zBt; rw [if_neg (by omega)]
    have hlb : w.heap.size ≤ l.b := by
     rcases (ev0.old _ l e1 hcn).2 with h1 | h1 | ⟨q, o, lq, h1, _⟩
     ·rw [ez] at h1; cases h1
     ·exact h1
     ·exfalso;unfold Heap.get restrict zPv at h1; cases h1
    have hn1 : (T (j' + 1)).H.next = (T j').H.next + 1 := by rw [hnx1, r5]
    have hμid : (if (T j').H.next ≤ (T j').H.next ∧ (T j').H.next < (T (j' + 1)).H.next then μ' (T j').H.next else μ (T j').H.next) = some l := by
     rw [if_pos (by omega)]; exact e1
    have hext : Ext μ' (fun id => if (T j').H.next ≤ id ∧ id < (T (j' + 1)).H.next then μ' id else μ id) := fun id lq hq => by
     show (if _ then _ else _) = _
     split
     ·exact hq
     ·rename_i hnot;cases hc : zBt μ (T j').H.next id with
      | some l2 =>
       have := ev0.ext id l2 hc;rw [hq] at this; cases this;exact (zA7 hc).2
      | none =>
       have h1 := (ev0.old id lq hq hc).1;rw [zAD] at h1;rcases Nat.lt_or_ge id (T (j' + 1)).H.next with h2 | h2
       ·exact absurd ⟨h1, h2⟩ hnot
       ·rw [ev.dom id h2] at hq; cases hq
    have st := step ev (by rw [r4]; exact hv)
    refine ⟨_, st, J.make hX (fun id => by simp [prE, hnote]) hjn ⟨_, _, hnote⟩ I.size (link ev) hμid ez hlb e2 e3 ⟨e4.1.ext hext, e4.2.ext hext⟩ fun q o lq ho hq zq he => ?_⟩
    have hlast : sX (T 0).H.get tc (fun k id => (T (k + 1)).H.get id) (fun i => if i = j' then true else X i) ops.size q = sX (T 0).H.get tc (fun k id => (T (k + 1)).H.get id) X ops.size q ∧ ¬ tc j' q := by
     have hnt : ¬ tc j' q := fun ht => by
      have ht2 := ((t.tceq j' q).1 ht).2;have hX' : ∀ i, i ≠ j' → (if i = j' then true else X i) = X i := fun i h => by simp [h]
      have e1 : sX (T 0).H.get tc (fun k id => (T (k + 1)).H.get id) (fun i => if i = j' then true else X i) ops.size q = (T (j' + 1)).H.get q := by
       rw [zFE q (j' + 1) ops.size hjn fun i hi hi' hx ht' => ?_]
       ·simp [sX, ht]
       ·have hne : i ≠ j' := by omega
        simp only [hX' i hne] at hx;have := (htc q ht i hne ht').1 hx;omega
      rw [e1] at ho;have := hA q o ht ho;unfold Heap.get at this; rw [r7] at this; cases this
     exact ⟨zDx q ops.size fun i _ hi => by simp [show i ≠ j' from fun e => hnt (e ▸ hi)], hnt⟩
    rw [hlast.1] at ho;obtain ⟨l', hl', hlt⟩ := (I.ob ops.size (Nat.le_refl _) q o (fun i hi hx => by have := I.inn i hx; omega) ho).mu
    have h3 := (link ev).ext q l' (zA7 hl').2;rw [hq] at h3; cases h3;have := hlt zq;omega
   | ins j' id ty key v =>
    obtain ⟨r1, r2, r3, r4, r5, r6, r7, ⟨m, kx, x, o1, o2, o3, o4⟩, r8, i0, hi0⟩ := q3;subst r1;obtain ⟨m0, hm0j, hm0⟩ := (t.mem _ j' (by omega)).1 hi0
    obtain ⟨n1, n2, n3⟩ := t.mkS (by omega) hm0
    subst n1; subst n2;have hmn : i0 < ops.size := by omega
    have vm := zAg hfr o2;obtain ⟨l0, hl0, hcm⟩ := vm;have hμ0 := (zA7 hl0).2;have hXm : X i0 = true := by
     rcases I.dom _ l0 hμ0 with h1 | ⟨i, h1, h2, h3, h4⟩
     ·have := hmono 0 i0 (Nat.zero_le _) (by omega); omega
     ·have : i = i0 := by
       rcases Nat.lt_trichotomy i i0 with h5 | h5 | h5
       ·have := hmono (i + 1) i0 h5 (by omega); omega
       ·exact h5
       ·have := hmono (i0 + 1) i h5 (by omega); omega
      subst this; exact h2
    have hnomk : ¬ mkE (E j') := fun ⟨_, _, h⟩ => by rw [hnote] at h; cases h
    unfold zZ1 at r8;split at r8
    ·rename_i kt et hu;obtain ⟨k1, k2⟩ := Bool.and_eq_true_iff.1 r8;have hmemL : Note.ins j' (T i0).H.next ty key v ∈ L ops.size := (t.mem _ _ (Nat.le_refl _)).2 ⟨j', hjn, hnote⟩;have hh : zCz P kt key (zC9 (fun k => prE (E k) (T i0).H.next) X ops.size) = some [] := by
      have h1 := List.all_eq_true.1 hlit _ hmemL;unfold zTe at h1;simp only [hu] at h1;split at h1
      ·rename_i h2;refine hitsA_nil.2 fun e he => hitsA_nil.1 h2 e ?_;obtain ⟨i, h3, h4, h5⟩ := zLf _ he;obtain ⟨j2, t2, h6⟩ := zZe (k := e.1) (v := e.2) h5;have h7 := t.insS h3 h6;subst h7;refine zHx (j := j2) (t := t2) (fun e => by subst e; rw [hX] at h4; cases h4) ((t.mem _ _ (Nat.le_refl _)).2 ⟨j2, h3, h6⟩)
      ·cases h1
     obtain ⟨l, ents, clock, h1, h2, h3, h4, h5⟩ := J.insert (m0 := i0) hX hjn (k := key) (v := v) (by simp [prE, hnote]) hXm hnomk ⟨_, _, hm0⟩ hmn
      (fun id hid => by
       simp only [prE, hnote];cases hb : Nat.beq (T i0).H.next id with
       | false => rfl
       | true => exact absurd (Nat.eq_of_beq_eq_true hb).symm hid)
      (fun m hm hmk hne he => by
       obtain ⟨a1, a2, ha⟩ := hmk;obtain ⟨_, _, p3⟩ := t.mkS hm ha;rcases Nat.lt_or_gt_of_ne hne with h6 | h6
       ·have := hmono (m + 1) i0 h6 (by omega); omega
       ·have := hmono (i0 + 1) m h6 (by omega); omega)
      hu k1 k2 ((zAg hfr o3).ext (zEX _ _)) ((zAg hfr o4).ext (zEX _ _)) hh
     have hll : l = l0 := by rw [hμ0] at h1; cases h1; rfl
     subst hll;have hnt : ∀ id, ¬ tc j' id := fun id ht => by
      rcases ((t.tceq j' id).1 ht).2 with ⟨h6, _, _⟩ | ⟨h6, h7⟩
      ·rw [r4] at h6; cases h6
      ·rw [r3] at h7; omega
     have hI := Inv.other I hjn (by simp [hj, r6]) hnt h2.2 (.map ents clock) h3
     have hsame : sX (T 0).H.get tc (fun k id => (T (k + 1)).H.get id) (fun i => if i = j' then true else X i) ops.size = sX (T 0).H.get tc (fun k id => (T (k + 1)).H.get id) X ops.size := funext fun q =>
      zDx q ops.size fun i _ hi => by simp [show i ≠ j' from fun e => hnt q (e ▸ hi)]
     have hrun : (execOp a.eval oj).run P w = .ok .skip { w with heap := w.heap.setIfInBounds l.b (.map ents clock) } := by
      rw [← hcm] at h4;unfold execOp;rw [o1];exact zY9 h4
     unfold Oper.wp;rw [hrun];have hfin : ∃ μ', xB7 P ops T E tc μ0 w0 (fun i => if i = j' then true else X i) μ' a { w with heap := w.heap.setIfInBounds l.b (.map ents clock) } ∧ xEq ops T E tc w0 (fun i => if i = j' then true else X i) μ' { w with heap := w.heap.setIfInBounds l.b (.map ents clock) } :=
      ⟨μ, hI, by unfold xEq; rw [hsame]; exact h5⟩
     show ∃ μ', xB7 P ops T E tc μ0 w0 (fun i => if i = j' then true else X i) μ' (a.put oj.dst undef) _ ∧ _
     rw [r6];exact hfin
    ·cases r8
 | false =>
  obtain ⟨q1, ⟨pc, q2⟩, q3, q4⟩ := s6 hw;simp only [Bool.false_eq_true, if_false];have hnt : ∀ id, ¬ tc j id := fun id ht => by
   have := ((t.tceq j id).1 ht).1;rw [hw] at this; cases this
  have ev : Evo (zBt μ (T j).H.next) (restrict (T j).H (E j).F).get (T j).H.next w (zBt μ (T j).H.next) (restrict (T j).H (E j).F).get (T (j + 1)).H.next w := by
   rw [q2];exact Evo.refl hrep hdom
  have hres := Inv.step I hmono hjn hX hdst hR0 hRF (fun id ht => absurd ht (hnt id)) (fun id o ht => absurd ht (hnt id)) (fun id o _ ho => ho) (fun id ht => absurd ht (hnt id)) ev (c := undef) (by show VR _ (E j).v undef; rw [q1]; exact zFe _) hF0
  have hlink := Inv.link I hmono hjn hX hR0 (fun id ht => absurd ht (hnt id)) (fun id o ht => absurd ht (hnt id)) ev;rw [hgo] at hres;exact ⟨_, hres, J.other hX (fun id => by simp [prE, q4]) (fun ⟨_, _, h⟩ => by rw [q4] at h; cases h) hlink⟩
theorem zSE (t : Text P ops T E L tc) (hlit : (L ops.size).all (zTe P (L ops.size)) = true) (hb : Bd (T 0).H) (hst : zHJ ops = true)
  (hq : ∀ X μ a w, xB7 P ops T E tc μ0 w0 X μ a w → xEq ops T E tc w0 X μ w → (∀ i, i < ops.size → X i = true) → Q .normal a w) :
  ∀ (fuel : Nat) (listed : Array Bool) (μ : Mu) (a : Act) (w : World), listed.size = ops.size → xB7 P ops T E tc μ0 w0 (fun i => listed.getD i false) μ a w → xEq ops T E tc w0 (fun i => listed.getD i false) μ w → Down ops (fun i => listed.getD i false) →
   (List.range ops.size).countP (fun i => !listed.getD i false) = fuel → wpAny P .any ops Q fuel listed a w := by
 obtain ⟨_, hstat⟩ := zI8 hst;have hget : ∀ (listed : Array Bool) (i : Nat), listed.size = ops.size → i < ops.size → listed.getD i true = listed.getD i false := fun listed i h1 h2 => by
  simp [Array.getD_eq_getD_getElem?, Array.getElem?_eq_getElem (show i < listed.size by omega)]
 have hex : ∀ (listed : Array Bool), listed.size = ops.size → ∀ m, m ≤ ops.size → (∀ i, i < m → listed.getD i false = true) → Region.ready .any ops listed = [] → m < ops.size → listed.getD m false = true := fun listed hsz m hm hall hr hlt => by
  cases hx : listed.getD m false with
  | true => rfl
  | false =>
   exfalso;have hok : ops[m]? = some (ops[m]'hlt) := Array.getElem?_eq_getElem _;have : m ∈ Region.ready .any ops listed := mem_ready.2 ⟨by rw [hget listed m hsz hlt]; exact hx, _, hok, fun e he hbd => hall e.on ((hstat m _ hok).1 e (Array.mem_toList_iff.2 he) (bindsG_iff.1 hbd))⟩
   rw [hr] at this; cases this
 have hdone : ∀ (listed : Array Bool), listed.size = ops.size → Region.ready .any ops listed = [] → ∀ i, i < ops.size → listed.getD i false = true := fun listed hsz hr i => by
  induction i using Nat.strongRecOn with
  | _ i ih =>
   intro hi;exact hex listed hsz i (by omega) (fun k hk => ih k hk (by omega)) hr hi
 intro fuel
 induction fuel with
 | zero =>
  intro listed μ a w hsz I J hd hcount;have hall : ∀ i, i < ops.size → listed.getD i false = true := fun i hi => by
   have := List.countP_eq_zero.1 hcount i (by simpa using hi)
   simpa using this
  refine ⟨?_, hq _ μ a w I J hall⟩;cases hr : Region.ready .any ops listed with
  | nil => rfl
  | cons x xs =>
   have hx : x ∈ Region.ready .any ops listed := by rw [hr]; simp
   obtain ⟨h1, o, ho, _⟩ := mem_ready.1 hx;have hlt := (Array.getElem?_eq_some_iff.1 ho).1;rw [hget listed x hsz hlt, hall x hlt] at h1;cases h1
 | succ fuel ih =>
  intro listed μ a w hsz I J hd hcount;refine ⟨fun hr => hq _ μ a w I J (hdone listed hsz hr), fun j hj => ?_⟩;obtain ⟨h1, oj, hoj, hpj⟩ := mem_ready.1 hj;have hlt := (Array.getElem?_eq_some_iff.1 hoj).1;rw [hget listed j hsz hlt] at h1;have hp : ∀ e ∈ oj.after.toList, zCQ e.ground = true → listed.getD e.on false = true := fun e he hbd => hpj e (Array.mem_toList_iff.1 he) (bindsG_iff.2 hbd);have hset : ∀ i, (listed.setIfInBounds j true).getD i false = if i = j then true else listed.getD i false := fun i => by
   by_cases e : i = j
   ·subst e;simp [hsz, hlt]
   ·rw [getD_set_ne false (Ne.symm e), if_neg e]
  refine wpOp_mono (fun a' w' h => ?_) (zPj (Q := Q) t hlit hb hst I J hd hoj hp h1);obtain ⟨μ', I', J'⟩ := h;have hfun : (fun i => if i = j then true else listed.getD i false) = fun i => (listed.setIfInBounds j true).getD i false := funext fun i => (hset i).symm
  rw [hfun] at I' J';refine ih _ μ' a' w' (by simpa using hsz) I' J' (fun i o hoi hx e he hbd => ?_) ?_
  ·have hx' : (listed.setIfInBounds j true).getD i false = true := hx;show (listed.setIfInBounds j true).getD e.on false = true;rw [hset] at hx' ⊢;by_cases e1 : e.on = j
   ·rw [if_pos e1]
   ·rw [if_neg e1];by_cases e2 : i = j
    ·subst e2;rw [hoj] at hoi; cases hoi;exact hp e he hbd
    ·rw [if_neg e2] at hx';exact hd i o hoi hx' e he hbd
  ·have hcnt : ∀ n, j < n → (List.range n).countP (fun i => !listed.getD i false) = (List.range n).countP (fun i => !(listed.setIfInBounds j true).getD i false) + 1 := by
    intro n
    induction n with
    | zero => intro h; omega
    | succ n ihn =>
     intro hjn;rw [List.range_succ, List.countP_append, List.countP_append];rcases Nat.lt_or_ge j n with h2 | h2
     ·rw [ihn h2];have : n ≠ j := by omega
      simp only [List.countP_singleton, hset, if_neg this];omega
     ·have : n = j := by omega
      subst this;have hpre : (List.range n).countP (fun i => !listed.getD i false) = (List.range n).countP (fun i => !(listed.setIfInBounds n true).getD i false) := by
       refine List.countP_congr fun i hi => ?_;have : i ≠ n := by have := List.mem_range.1 hi; omega
       rw [hset, if_neg this]
      rw [hpre];simp only [List.countP_singleton, hset, h1, if_true];simp
   have := hcnt ops.size hlt;omega
end main
theorem zHW {ops : Array Oper} {st st' : St} {rs : List Rec} {ns : List Note} (h1 : Tr P ops ops.toList 0 st [] [] st' rs ns) (h2 : zHJ ops = true) (h3 : zTz ops.toList rs = true) (hb : Bd st.H) : ∃ T E L tc, T 0 = st ∧ T ops.size = st' ∧ L ops.size = ns ∧ LG (T 0).H (T ops.size).H ∧ Text P ops T E L tc := by
 obtain ⟨_, T, E, L, t0, tn, l0, ln, ts⟩ := h1;simp only [Nat.zero_add] at t0 tn ts l0 ln;have ln' : L ops.size = ns := by simpa using ln
 have tn' : T ops.size = st' := by simpa using tn
 have stp : ∀ (k : Nat) (o : Oper), ops[k]? = some o → xAm P ops o k (L k) (T k) (E k) (T (k + 1)) := fun k o hk => (ts k o (by simpa using hk)).1
 have lnk : ∀ k, k < ops.size → L (k + 1) = notes (E k) (L k) := fun k hk => (ts k (ops[k]'hk) (by simp [hk])).2.1
 have nxb : ∀ k, k ≤ ops.size → Bd (T k).H ∧ LG (T 0).H (T k).H ∧ ∀ i, i ≤ k → (T i).H.next ≤ (T k).H.next := by
  intro k
  induction k with
  | zero =>
   intro _;exact ⟨by rw [t0]; exact hb, LG.refl _, fun i hi => (by
    have : i = 0 := by omega
    rw [this]; exact Nat.le_refl _)⟩
  | succ k ih =>
   intro hk;obtain ⟨b1, b2, b3⟩ := ih (by omega)
   have hok : ops[k]? = some (ops[k]'(by omega)) := Array.getElem?_eq_getElem _
   obtain ⟨_, _, _, _, s5, s6⟩ := stp k _ hok;have key : LG (T k).H (T (k + 1)).H := by
    cases hw : (E k).want with
    | true =>
     obtain ⟨q1, q2, _⟩ := s5 hw;rw [q2];exact zZs q1 b1
    | false => obtain ⟨_, ⟨pc, q2⟩, _⟩ := s6 hw; rw [q2]; exact LG.wpc _ _
   obtain ⟨c1, _, _, _, c3⟩ := key b1;refine ⟨c1, b2.trans key, fun i hi => ?_⟩;rcases Nat.lt_or_ge i (k + 1) with h4 | h4
   ·exact Nat.le_trans (b3 i (by omega)) c3
   ·have : i = k + 1 := by omega
    rw [this]; exact Nat.le_refl _
 have nxm : ∀ k, k ≤ ops.size → ∀ i, i ≤ k → (T i).H.next ≤ (T k).H.next := fun k hk => (nxb k hk).2.2;have hnext : ∀ k, k < ops.size → (E k).want = true → (T (k + 1)).H.next = (E k).R.next := fun k hk hw => by
  have hok : ops[k]? = some (ops[k]'hk) := Array.getElem?_eq_getElem _;rw [((stp k _ hok).2.2.2.2.1 hw).2.1, zDc]
 refine ⟨T, E, L, fun k id => (E k).want = true ∧ xHn (T k).H.next (E k).F (E k).R id, t0, tn', ln', (nxb ops.size (Nat.le_refl _)).2.1, stp, l0, lnk, fun _ _ => Iff.rfl, ?_⟩;intro i j id hi hj hij hti hor;have hwantF : ∀ k, k < ops.size → (E k).F ≠ [] → (E k).want = true := fun k hk hF => by
  have hok : ops[k]? = some (ops[k]'hk) := Array.getElem?_eq_getElem _;cases hw : (E k).want with
  | true => rfl
  | false => exact absurd ((stp k _ hok).2.2.2.2.2 hw).2.2.1 hF
 have hrec : ∀ k, k < ops.size → (E k).want = true → (E k).F ≠ [] ∨ (T k).H.next < (E k).R.next → (⟨k, (E k).F, (E k).R.log, (T k).H.next, (E k).R.next⟩ : Rec) ∈ rs := fun k hk hw hf => by
  have hok : ops.toList[k]? = some (ops[k]'hk) := by simp [hk]
  exact (ts k _ hok).2.2 hw hf
 have use : ∀ p q, p < ops.size → q < ops.size → p ≠ q → ∀ (hp : (⟨p, (E p).F, (E p).R.log, (T p).H.next, (E p).R.next⟩ : Rec) ∈ rs) (hq : (⟨q, (E q).F, (E q).R.log, (T q).H.next, (E q).R.next⟩ : Rec) ∈ rs), id ∈ (E q).F →
   (id ∈ (E p).R.log ∨ ((T p).H.next ≤ id ∧ id < (E p).R.next)) → zSV ops.toList p q = true := by
  intro p q hp' hq' hpq hp hq hF hor;refine zTy h3 hp hq ?_ hpq;unfold clash;simp only [Bool.or_eq_true, List.any_eq_true];rcases hor with h5 | h5
  ·exact .inl ⟨id, h5, by simpa using hF⟩
  ·exact .inr ⟨id, hF, by simp [h5.1, h5.2]⟩
 obtain ⟨hwi, hti⟩ := hti;have hi_rec : (⟨i, (E i).F, (E i).R.log, (T i).H.next, (E i).R.next⟩ : Rec) ∈ rs := by
  refine hrec i hi hwi ?_;rcases hti with ⟨_, h5, _⟩ | ⟨h5, h6⟩
  ·exact .inl (List.ne_nil_of_mem h5)
  ·exact .inr (by omega)
 have hi_or : id ∈ (E i).R.log ∨ ((T i).H.next ≤ id ∧ id < (E i).R.next) := by
  rcases hti with ⟨h5, _, _⟩ | h5
  ·exact .inl h5
  ·exact .inr h5
 have fromF : id ∈ (E j).F → zSV ops.toList i j = true := fun hF => by
  have hne : (E j).F ≠ [] := List.ne_nil_of_mem hF;exact use i j hi hj hij hi_rec (hrec j hj (hwantF j hj hne) (.inl hne)) hF hi_or
 rcases hor with hF | ⟨hwj, htj⟩
 ·exact fromF hF
 ·rcases htj with ⟨_, hF, _⟩ | ⟨h5, h6⟩
  ·exact fromF hF
  ·rcases hti with ⟨h7, h8, h9⟩ | ⟨h7, h8⟩
   ·rw [zWj _ hij];exact use j i hj hi (Ne.symm hij) (hrec j hj hwj (.inr (by omega))) hi_rec h8 (.inr ⟨h5, h6⟩)
   ·exfalso;rw [← hnext i hi hwi] at h8;rw [← hnext j hj hwj] at h6;rcases Nat.lt_or_gt_of_ne hij with h10 | h10
    ·have := nxm j (by omega) (i + 1) h10; omega
    ·have := nxm i (by omega) (j + 1) h10; omega
theorem zEQ {all : List Note} {id : Nat} {o : AObj} : ∀ {l : List Note}, look (zCJ all l) id = some o → (∃ i, Note.mk i id ∈ l) ∧ o = .map (zER id all)
 | [], h => by cases h
 | .mk i j :: l, h => by
  simp only [zCJ] at h;rw [show look ((j, AObj.map (zER j all)) :: zCJ all l) id = @Bool.rec (fun _ => Option AObj) (look (zCJ all l) id) (some (AObj.map (zER j all))) (Nat.beq j id) from rfl] at h
  cases hb : Nat.beq j id with
  | true =>
   have := Nat.eq_of_beq_eq_true hb;subst this;rw [hb] at h; cases h;exact ⟨⟨i, List.mem_cons_self⟩, rfl⟩
  | false =>
   rw [hb] at h;obtain ⟨⟨i', h1⟩, h2⟩ := zEQ (l := l) h;exact ⟨⟨i', List.mem_cons_of_mem _ h1⟩, h2⟩
 | .ins .. :: l, h => by
  simp only [zCJ] at h;obtain ⟨⟨i', h1⟩, h2⟩ := zEQ (l := l) h;exact ⟨⟨i', List.mem_cons_of_mem _ h1⟩, h2⟩
theorem zFH (ns : List Note) (st : St) (id : Nat) : (zB7 ns st).H.get id = match look (zCJ ns ns) id with
  | some o => some o
  | none => st.H.get id := by
 unfold zB7;split
 ·rfl
 ·exact zEn _ _ _
theorem zHR (ns : List Note) (st : St) : (zB7 ns st).nt = st.nt ∧ (zB7 ns st).fr = st.fr ∧ (zB7 ns st).df = st.df ∧ (zB7 ns st).H.next = st.H.next ∧ (zB7 ns st).H.log = st.H.log ∧ (zB7 ns st).H.pc = st.H.pc := by
 unfold zB7; split <;> exact ⟨rfl, rfl, rfl, rfl, rfl, rfl⟩
theorem Text.lits {ops : Array Oper} {T : Nat → St} {E : Nat → Ev} {L : Nat → List Note} {tc : Nat → Nat → Prop} (t : Text P ops T E L tc) (hb : Bd (T 0).H) {id : Nat} {o : AObj} (h : look (zCJ (L ops.size) (L ops.size)) id = some o) :
  ∃ m, m < ops.size ∧ mkE (E m) ∧ id = (T m).H.next ∧ (T 0).H.next ≤ id ∧ id < (T ops.size).H.next ∧ o = .map (zER id (L ops.size)) := by
 obtain ⟨⟨i, h1⟩, h2⟩ := zEQ h;obtain ⟨m, h3, h4⟩ := (t.mem _ _ (Nat.le_refl _)).1 h1;obtain ⟨h5, h6, h7⟩ := t.mkS h3 h4;refine ⟨m, h3, ⟨_, _, h4⟩, h6, ?_, ?_, h2⟩
 ·have := (t.facts hb m (by omega)).2.2.2.2.2 0 (Nat.zero_le _); omega
 ·have := (t.facts hb ops.size (Nat.le_refl _)).2.2.2.2.2 (m + 1) h3; omega
theorem zPM (hn : NoCount P) (id : Nat) (ops : Array Oper) (st st' : St) {rs : List Rec} {ns : List Note} (h : Tr P ops ops.toList 0 st [] [] st' rs ns) (hlit : ns.all (zTe P ns) = true) (hst : zHJ ops = true) (h3 : zTz ops.toList rs = true) {Q : Exit → Act → World → Prop} (μ : Mu) (a : Act) (w : World) (s : SRel P μ st a w)
  (hq : ∀ μ' a' w', Evo μ st.H.get st.H.next w μ' (zB7 ns st').H.get (zB7 ns st').H.next w' → SRel P μ' (zB7 ns st') a' w' → Q .normal a' w') : (Code.region id ops true).wp P Q a w := by
 have hbd : Bd st.H := fun i o hi => s.rep.lt s.dom hi;obtain ⟨T, E, L, tc, t0, tn, ln, _, t⟩ := zHW h hst h3 hbd;subst t0; subst ln;refine wp_region_any hn.mixed ?_;have hlt : ∀ i l, μ i = some l → i < (T 0).H.next := fun i l hl => by
  rcases Nat.lt_or_ge i (T 0).H.next with h1 | h1
  ·exact h1
  ·rw [s.dom i h1] at hl; cases hl
 have hfacts := t.facts hbd;have hcut : ∀ k, k ≤ ops.size → Ext μ (zBt μ (T k).H.next) := fun k hk i l hl => by
  have h1 := hlt i l hl;have h2 := (hfacts k hk).2.2.2.2.2 0 (Nat.zero_le _);unfold zBt; rw [if_pos (by omega)]; exact hl
 have hs0 : ∀ k i, sX (T 0).H.get tc (fun k id => (T (k + 1)).H.get id) (fun _ => false) k i = (T 0).H.get i := fun k i => by
  induction k with
  | zero => rfl
  | succ k ih => simp only [sX]; rw [if_neg (by simp)]; exact ih
 have hf0 : ∀ k i, fX (lk (T 0).fr) (fun k => (ops[k]?).bind (·.dst)) (fun k => (E k).v) (fun _ => false) k i = lk (T 0).fr i := fun k i => by
  induction k with
  | zero => rfl
  | succ k ih => simp only [fX]; rw [if_neg (by simp)]; exact ih
 have I0 : xB7 P ops T E tc μ w (fun _ => false) μ a { w with drawn := w.drawn + 1 } := by
  have r := s.rep.draw (w' := { w with drawn := w.drawn + 1 }) rfl
  refine ⟨fun i hi => (by cases hi), s.nt, s.df, fun k hk t' v _ hv => ?_, fun k hk i o _ ho => ?_, fun i j oi oj li lj h1 h2 => ?_, fun i l hl => .inl (hlt i l hl), Ext.refl μ, fun i l h1 h2 => (by rw [h2] at h1; cases h1), fun _ _ _ => rfl, fun b m _ => ?_, fun i o ho => ?_, Nat.le_refl _, rfl, rfl, rfl⟩
  ·rw [hf0] at hv;obtain ⟨c, h1, h2⟩ := s.fr t' v hv;exact ⟨c, h1, h2.ext (hcut k hk)⟩
  ·rw [hs0] at ho;exact (r.obj i o ho).keep (hcut k hk) fun _ _ _ => rfl
  ·rw [hs0] at h1 h2;exact r.inj i j oi oj li lj h1 h2
  ·obtain ⟨j, o, l, m1, m2, m3, m4⟩ := m;rw [hs0] at m1;exact ⟨j, o, l, m1, m2, m3, m4⟩
  ·rw [hs0] at ho;exact .inl ⟨o, ho⟩
 have hrep0 : (fun i => (Array.replicate ops.size false).getD i false) = fun _ => false := funext fun i => by
  simp [Array.getD_eq_getD_getElem?, Array.getElem?_replicate];split <;> rfl
 have J0 : xEq ops T E tc w (fun _ => false) μ { w with drawn := w.drawn + 1 } := ⟨fun m _ _ => ⟨fun _ _ _ => rfl, fun h => by cases h⟩, fun m m' l l' _ _ _ _ h => by cases h⟩
 refine zSE (μ0 := μ) (w0 := w) t hlit hbd hst (fun X μ' a' w' I J hall => ?_) ops.size _ μ a _ (by simp) (by rw [hrep0]; exact I0) (by rw [hrep0]; exact J0) (fun i o _ hx => ?_) ?_
 ·
  obtain ⟨e1, e2, e3, e4, e5, e6⟩ := hfacts ops.size (Nat.le_refl _);have hsn : ∀ i, sX (T 0).H.get tc (fun k id => (T (k + 1)).H.get id) X ops.size i = st'.H.get i := fun i => by
   rw [← tn, e2 i];exact zDx i ops.size fun k hk _ => hall k hk
  have hfn : ∀ i, fX (lk (T 0).fr) (fun k => (ops[k]?).bind (·.dst)) (fun k => (E k).v) X ops.size i = lk st'.fr i := fun i => by
   rw [← tn, e3 i];exact zGP i ops.size fun k hk _ => hall k hk
  have hno : ∀ i, ops.size ≤ i → X i = true → False := fun i hi hx => by have := I.inn i hx; omega
  have hmono : ∀ i k, i ≤ k → k ≤ ops.size → (T i).H.next ≤ (T k).H.next := fun i k h1 h2 => (hfacts k h2).2.2.2.2.2 i h1;have hrep : Rep μ' st'.H.get w' := by
   refine ⟨fun i o ho => ?_, fun i j oi oj li lj h1 h2 hij ho h3 h4 => ?_⟩
   ·rw [← hsn i] at ho;exact (I.ob ops.size (Nat.le_refl _) i o (fun k hk hx => (hno k hk hx).elim) ho).keep (zEX _ _) fun _ _ _ => rfl
   ·rw [← hsn i] at h1;rw [← hsn j] at h2;exact I.inj i j oi oj li lj h1 h2 hij ho h3 h4
  have hdom : Dom μ' st'.H.next := fun i hi => by
   cases hm : μ' i with
   | none => rfl
   | some l =>
    exfalso;rw [← tn] at hi;rcases I.dom i l hm with h1 | ⟨k, h1, _, _, h4⟩
    ·have := hmono 0 ops.size (Nat.zero_le _) (Nat.le_refl _); omega
    ·have := hmono (k + 1) ops.size h1 (Nat.le_refl _); omega
  have hmine : ∀ b, Mine μ' st'.H.get b → Mine μ' (sX (T 0).H.get tc (fun k id => (T (k + 1)).H.get id) X ops.size) b := fun b m => by
   obtain ⟨j, o, l, m1, m2, m3, m4⟩ := m;exact ⟨j, o, l, by rw [hsn j]; exact m1, m2, m3, m4⟩
  obtain ⟨g1, g2, g3, g4, _, _⟩ := zHR (L ops.size) st';have hlits : ∀ id o, look (zCJ (L ops.size) (L ops.size)) id = some o → ∃ m l, m < ops.size ∧ mkE (E m) ∧ id = (T m).H.next ∧ (T 0).H.next ≤ id ∧ μ' id = some l ∧ w.heap.size ≤ l.b ∧ RepO μ' id w' o ∧ (∀ q oq lq, st'.H.get q = some oq → μ' q = some lq → lq.nil = false → lq.b ≠ l.b) := fun id o ho => by
   obtain ⟨m, h1, h2, h3, h4, _, h6⟩ := t.lits hbd ho;obtain ⟨l, ents, clock, es, r1, r2, r3, r4, r5, r6⟩ := (J.one m h1 h2).2 (hall m h1);subst h3; subst h6;refine ⟨m, l, h1, h2, rfl, h4, r1, r2.2, ⟨l, ents, clock, es, ⟨r1, r2.1⟩, r3, r4.trans ?_, r5⟩, fun q oq lq hq => r6 q oq lq (by rw [hsn q]; exact hq)⟩
   rw [t.all _ ops.size (Nat.le_refl _) fun i hi => hall i hi];exact List.reverse_perm _
  have hget : ∀ id o, (zB7 (L ops.size) st').H.get id = some o → look (zCJ (L ops.size) (L ops.size)) id = some o ∨ st'.H.get id = some o := fun id o h => by
   rw [zFH] at h;split at h
   ·rename_i h1; rw [h1]; exact .inl h
   ·exact .inr h
  have hrep' : Rep μ' (zB7 (L ops.size) st').H.get w' := by
   refine ⟨fun id o ho => ?_, fun i j oi oj li lj h1 h2 hij ho h3 h4 z1 z2 => ?_⟩
   ·rcases hget id o ho with h | h
    ·obtain ⟨_, _, _, _, _, _, _, _, r, _⟩ := hlits id o h; exact r
    ·exact hrep.obj id o h
   ·rcases hget i oi h1 with k1 | k1
    ·obtain ⟨m, l, p1, p2, p3, p4, p5, p6, p7, p8⟩ := hlits i oi k1;rw [h3] at p5; cases p5;rcases hget j oj h2 with k2 | k2
     ·obtain ⟨m', l', q1, q2, q3, q4, q5, q6, q7, q8⟩ := hlits j oj k2;rw [h4] at q5; cases q5;refine J.two m m' li lj p1 q1 p2 q2 (hall m p1) (hall m' q1) (fun e => ?_) (p3 ▸ h3) (q3 ▸ h4);subst e; exact hij (p3.trans q3.symm)
     ·exact (p8 j oj lj k2 h4 z2).symm
    ·rcases hget j oj h2 with k2 | k2
     ·obtain ⟨m', l', q1, q2, q3, q4, q5, q6, q7, q8⟩ := hlits j oj k2;rw [h4] at q5; cases q5;exact q8 i oi li k1 h3 z1
     ·exact hrep.inj i j oi oj li lj k1 k2 hij ho h3 h4 z1 z2
  refine hq μ' a' w' ⟨I.ext, hrep', ?_, by rw [g4]; exact hdom, I.old, I.keep, fun b m hb => ?_, fun i o ho => ?_, I.size, I.os, I.tape, I.output⟩ ⟨fun t' v hv => ?_, ?_, ?_, hrep', by rw [g4]; exact hdom⟩
  ·rw [g4, ← tn]; exact hmono 0 ops.size (Nat.zero_le _) (Nat.le_refl _)
  ·obtain ⟨q, o, l, m1, m2, m3, m4⟩ := m;rcases hget q o m1 with k1 | k1
   ·obtain ⟨m, l', p1, p2, p3, p4, p5, p6, p7, p8⟩ := hlits q o k1;rw [m3.1] at p5; cases p5;omega
   ·exact I.mine b (hmine b ⟨q, o, l, k1, m2, m3, m4⟩) hb
  ·rcases hget i o ho with k1 | k1
   ·obtain ⟨m, l', p1, p2, p3, p4, _⟩ := hlits i o k1;exact .inr p4
   ·exact I.live i o (by rw [hsn i]; exact k1)
  ·rw [g2, ← hfn t'] at hv;obtain ⟨c, h1, h2⟩ := I.fr ops.size (Nat.le_refl _) t' v (fun k hk hx => (hno k hk hx).elim) hv;exact ⟨c, h1, h2.ext (zEX _ _)⟩
  ·rw [g1, I.nt, ← tn, e4]
  ·have := I.df;rw [g3, ← tn, e5];exact this.ext I.ext
 ·have h1 : (Array.replicate ops.size false).getD i false = false := congrFun hrep0 i;have h2 : (Array.replicate ops.size false).getD i false = true := hx;rw [h1] at h2; cases h2
 ·have : (fun i => !(Array.replicate ops.size false).getD i false) = fun _ => true := funext fun i => by
   have h1 : (Array.replicate ops.size false).getD i false = false := congrFun hrep0 i;rw [h1]; rfl
  rw [this, List.countP_eq_length.2 (fun _ _ => rfl)];simp
theorem zPL (hn : NoCount P) {α : Type} {cf : zCE α} (hc : zOJ P cf) (id : Nat) (ops : Array Oper) (st : St) (K : St → Tree α) (r : α) (hp : PC st.H) (h : (zPN P cf ops st K).sel = some r) :
  ∃ st', (K st').sel = some r ∧ PC st'.H ∧ LG st.H st'.H ∧ ∀ {Q : Exit → Act → World → Prop} {μ : Mu} {a : Act} {w : World}, SRel P μ st a w →
   (∀ μ' a' w', Evo μ st.H.get st.H.next w μ' st'.H.get st'.H.next w' → SRel P μ' st' a' w' → Q .normal a' w') → (Code.region id ops true).wp P Q a w := by
 unfold zPN at h;obtain ⟨st', rs, ns, h1, h2, h3⟩ := zDY hn hc ops.toList 0 st [] [] _ r hp h;cases hb : (zHJ ops && zTz ops.toList rs && ns.all (zTe P ns)) with
 | false => rw [hb] at h1; simp [Tree.sel] at h1
 | true =>
  rw [hb] at h1;obtain ⟨hsd, hl⟩ := Bool.and_eq_true_iff.1 hb;obtain ⟨hs, hd⟩ := Bool.and_eq_true_iff.1 hsd;obtain ⟨g1, g2, g3, g4, g5, g6⟩ := zHR ns st';refine ⟨zB7 ns st', h1, by unfold PC; rw [g6]; exact h2, fun b => ?_, fun {Q μ a w} s hq => zPM hn id ops st st' h3 hl hs hd μ a w s hq⟩
  obtain ⟨T, E, L, tc, t0, tn, ln, lg, t⟩ := zHW h3 hs hd b;rw [t0, tn] at lg;obtain ⟨b', l, l1, l2, l3⟩ := lg b;have hb0 : Bd (T 0).H := by rw [t0]; exact b
  refine ⟨fun id o ho => ?_, l, by rw [g5]; exact l1, fun id h4 h5 => ?_, by rw [g4]; exact l3⟩
  ·rw [g4];rw [zFH] at ho;split at ho
   ·rename_i h6;obtain ⟨_, _, _, _, _, h7, _⟩ := t.lits hb0 (ln ▸ h6);rw [tn] at h7; exact h7
   ·exact b' id o ho
  ·rw [zFH];split
   ·rename_i h6;obtain ⟨_, _, _, _, h7, _, _⟩ := t.lits hb0 (ln ▸ h6);rw [t0] at h7; omega
   ·exact l2 id h4 h5
end
end Go.Proofs.YtenkabjkgngcdaaGreat.Ab
