/-
  Small plain facts that every walk of these seats uses: strings as lists of bytes, numbers of one octet.
  No condition beyond what each theorem states.
-/
import Derived.Test.YtnncgjhgmmdilaaGreatDoorB0
namespace Go.Proofs.YtnncgjhgmmdilaaGreatDoor
set_option linter.unusedSimpArgs false
set_option linter.unusedVariables false
open Go.RowKit

/-- A number as an octet. -/
def b8 (x : Int) : UInt8 := UInt8.ofNat x.toNat
theorem b8_toNat {x : Int} (h0 : 0 ≤ x) (h1 : x ≤ 255) : ((b8 x).toNat : Int) = x := by
  unfold b8; rw [UInt8.toNat_ofNat']; omega
theorem b8_of (c : UInt8) : b8 (c.toNat : Int) = c := by
  simp [b8]

/-- One cell after the other, all of them known: a new block of octets made into a string. -/
theorem conv_any {P : Program} (w : World) (src dst e : TypeId) (hs : P.underlying src = some (.slice e)) (he : P.underlying e = some (.int .u8)) (hd : P.underlying dst = some .string) (c : Nat) (xs : List Int) :
    (convert src dst (.slice (some ⟨w.heap.size, 0, none⟩) xs.length c)).run P (w.alloc (.cells (xs.map (Value.int .u8)).toArray e)) = .ok (.string (S (xs.map b8))) (w.alloc (.cells (xs.map (Value.int .u8)).toArray e)) := by
  have := run_convert_bytes_arg (P := P) (w.alloc (.cells (xs.map (Value.int .u8)).toArray e)) src e hs he w.heap.size 0 xs.length c xs rfl (fun i hi => by
    rw [World.cell?_alloc_at _ _ _ _ (by simp)]; simp [hi]) dst hd
  rw [this]; rfl
@[go_sem] theorem conv_1 {P : Program} (w : World) (src dst e : TypeId) (hs : P.underlying src = some (.slice e)) (he : P.underlying e = some (.int .u8)) (hd : P.underlying dst = some .string) (c : Nat) (x : Int) :
    (convert src dst (.slice (some ⟨w.heap.size, 0, none⟩) 1 c)).run P (w.alloc (.cells #[.int .u8 x] e)) = .ok (.string (S [b8 x])) (w.alloc (.cells #[.int .u8 x] e)) := conv_any w src dst e hs he hd c [x]
@[go_sem] theorem conv_2 {P : Program} (w : World) (src dst e : TypeId) (hs : P.underlying src = some (.slice e)) (he : P.underlying e = some (.int .u8)) (hd : P.underlying dst = some .string) (c : Nat) (x y : Int) :
    (convert src dst (.slice (some ⟨w.heap.size, 0, none⟩) 2 c)).run P (w.alloc (.cells #[.int .u8 x, .int .u8 y] e)) = .ok (.string (S [b8 x, b8 y])) (w.alloc (.cells #[.int .u8 x, .int .u8 y] e)) := conv_any w src dst e hs he hd c [x, y]
@[go_sem] theorem conv_3 {P : Program} (w : World) (src dst e : TypeId) (hs : P.underlying src = some (.slice e)) (he : P.underlying e = some (.int .u8)) (hd : P.underlying dst = some .string) (c : Nat) (x y z : Int) :
    (convert src dst (.slice (some ⟨w.heap.size, 0, none⟩) 3 c)).run P (w.alloc (.cells #[.int .u8 x, .int .u8 y, .int .u8 z] e)) = .ok (.string (S [b8 x, b8 y, b8 z])) (w.alloc (.cells #[.int .u8 x, .int .u8 y, .int .u8 z] e)) := conv_any w src dst e hs he hd c [x, y, z]

theorem i64_or_nat (a b : Nat) (ha : a < 4294967296) (hb : b < 4294967296) : bits .or .i64 (a : Int) (b : Int) = ((a ||| b : Nat) : Int) := by
  have hx : a ||| b < 2 ^ 32 := Nat.or_lt_two_pow (by omega) (by omega)
  show IntKind.i64.wrap ((BitVec.ofInt 64 (a : Int) ||| BitVec.ofInt 64 (b : Int)).toNat : Int) = _
  rw [BitVec.toNat_or, ofInt_u64 a (by omega), ofInt_u64 b (by omega)]
  exact IntWalk.i64_in _ (by omega)
theorem i64_and_nat (a b : Nat) (ha : a < 4294967296) (hb : b < 4294967296) : bits .and .i64 (a : Int) (b : Int) = ((a &&& b : Nat) : Int) := by
  have hx : a &&& b < 2 ^ 32 := Nat.and_lt_two_pow _ (by omega)
  show IntKind.i64.wrap ((BitVec.ofInt 64 (a : Int) &&& BitVec.ofInt 64 (b : Int)).toNat : Int) = _
  rw [BitVec.toNat_and, ofInt_u64 a (by omega), ofInt_u64 b (by omega)]
  exact IntWalk.i64_in _ (by omega)
/-- Two numbers that share no bit: a number below 2^i, and one that it divides. -/
theorem i64_join (i : Nat) (x y : Int) (hy0 : 0 ≤ y) (hy : y < 2 ^ i) (hx0 : 0 ≤ x) (hx : x < 4294967296) (hi : (2 : Int) ^ i ≤ 4294967296) (hd : x % 2 ^ i = 0) : bits .or .i64 x y = x + y := by
  obtain ⟨X, rfl⟩ := Int.eq_ofNat_of_zero_le hx0
  obtain ⟨Y, rfl⟩ := Int.eq_ofNat_of_zero_le hy0
  rw [i64_or_nat X Y (by omega) (by omega), nat_join i X Y (by exact_mod_cast hd) (by exact_mod_cast hy)]
  omega
theorem or_comm_i64 (x y : Int) : bits .or .i64 x y = bits .or .i64 y x := by
  show IntKind.i64.wrap ((BitVec.ofInt 64 x ||| BitVec.ofInt 64 y).toNat : Int) = IntKind.i64.wrap ((BitVec.ofInt 64 y ||| BitVec.ofInt 64 x).toNat : Int)
  rw [BitVec.or_comm]

/-- 'string(v)', v a row of octets of the call's own. -/
theorem conv_own {P : Program} (w : World) (src dst e : TypeId) (hs : P.underlying src = some (.slice e)) (he : P.underlying e = some (.int .u8)) (hd : P.underlying dst = some .string)
    (base : Nat) (v : Value) (n : Nat) (xs : List Int) (hown : w.ownsRow base e 1 v n (xs.map (Value.int .u8))) : (convert src dst v).run P w = .ok (.string (S (xs.map b8))) w := by
  obtain ⟨hl, h⟩ := hown
  have hl' : xs.length = n := by simpa using hl
  rcases h with ⟨rfl, rfl⟩ | ⟨g, cap, cur, rfl, _, hg, hnc, _, hcs, hcur⟩
  · obtain rfl : xs = [] := List.eq_nil_of_length_eq_zero hl'
    exact Lib.run_convert_nil_bytes (P := P) w src dst e 0 hs he hd
  · refine run_convert_bytes_arg w src e hs he g 0 n cap xs hl' (fun i hi => ?_) dst hd
    have h1 : cur.toList[i]? = some (.int .u8 (xs.getD i 0)) := by
      have : (cur.toList.take (n * 1))[i]? = (xs.map (Value.int .u8))[i]? := by rw [hcur]
      rw [List.getElem?_take_of_lt (by omega)] at this
      rw [this, List.getElem?_map, List.getD_eq_getElem?_getD, List.getElem?_eq_getElem (by omega)]
      rfl
    simp [World.cell?, hg]
    simpa using h1

/-- A statement on all octets, tried one by one. -/
theorem all_u8 {p : Int → Prop} (h : ∀ n : Fin 256, p (n.val : Int)) (a : Int) (h0 : 0 ≤ a) (h1 : a ≤ 255) : p a := by
  have := h ⟨a.toNat, by omega⟩
  have e : ((a.toNat : Nat) : Int) = a := by omega
  simpa [e] using this

/-- What is below a call's own blocks reads as it did. -/
theorem bcell {B : Nat} {W w1 : World} (hb : Below B W w1) : (∀ b o, b < B → w1.cell? ⟨b, o, none⟩ = W.cell? ⟨b, o, none⟩) ∧ (∀ b o, b < B → w1.frozen? ⟨b, o, none⟩ = W.frozen? ⟨b, o, none⟩) :=
  ⟨fun b o h => hb.cell (p := ⟨b, o, none⟩) h, fun b o h => hb.frozen (p := ⟨b, o, none⟩) h⟩
/-- A known cell behind a call that makes at most new blocks; behind a draw; in a new block. -/
theorem keepc {W w1 : World} {a : Addr} {v : Value} (hb : Below W.heap.size W w1) (h : W.cell? a = some v) : w1.cell? a = some v := by
  rw [hb.cell (World.block_lt_of_cell? W a h)]; exact h
theorem cell_drew {W : World} {a : Addr} {v : Value} (h : W.cell? a = some v) : W.drew.cell? a = some v := h
theorem cell_new (w : World) (cs : Array Value) (t : TypeId) (j : Nat) (v : Value) {b : Nat} (hb : b = w.heap.size) (hj : cs[j]? = some v) : (w.alloc (.cells cs t)).cell? ⟨b, j, none⟩ = some v := by
  subst hb
  rw [World.cell?_alloc_at _ _ _ _ rfl]; exact hj

/-- Links of a chain of calls, the last one first. -/
theorem bchain {w b c : World} (k : Below b.heap.size b c) (h : Below w.heap.size w b) : Below w.heap.size w c := h.trans (k.mono h.size)
theorem bchain2 {B : Nat} {w b c : World} (k : Below B b c) (hB : w.heap.size ≤ B) (h : Below w.heap.size w b) : Below w.heap.size w c := h.trans (k.mono hB)
theorem bdrew {w c : World} {n : Nat} (h : Below w.heap.size w c) : Below w.heap.size w (c.drewN n) := ⟨h.os, h.tape, h.output, h.size, h.block⟩
theorem bdrew1 {w c : World} (h : Below w.heap.size w c) : Below w.heap.size w c.drew := h.drew
theorem balloc {w c : World} {o : Obj} (h : Below w.heap.size w c) : Below w.heap.size w (c.alloc o) := h.alloc h.size o
theorem below_drewN {B : Nat} {a w : World} (h : Below B a w) (n : Nat) : Below B a (w.drewN n) := ⟨h.os, h.tape, h.output, h.size, h.block⟩

theorem getD_mem {α : Type} (l : List α) (d : α) (i : Nat) (h : i < l.length) : l.getD i d ∈ l := by
  rw [List.getD_eq_getElem?_getD, List.getElem?_eq_getElem h]; exact List.getElem_mem h
theorem take_getD {α : Type} (l : List α) (d : α) (i : Nat) (h : i < l.length) : l.take (i + 1) = l.take i ++ [l.getD i d] := by
  rw [List.take_succ_eq_append_getElem h, List.getD_eq_getElem?_getD, List.getElem?_eq_getElem h]; rfl

/-- 'make([]T, l, c)' of elements of one cell. -/
theorem make1 {P : Program} (t e : TypeId) (z : Value) (bytes : Nat) (ht : P.underlying t = some (.slice e)) (hinfo : (P.info? e).map (fun i => (i.zero, i.size, i.bytes)) = some (some z, 1, bytes)) (hz1 : z.cells = #[z])
    (l c : Nat) (hlc : l ≤ c) (hby : bytes ≤ 1024) (hc : c ≤ 4294967296) (w : World) :
    (Instr.makeSlice t (.int .i64 (l : Int)) (.int .i64 (c : Int))).run P w = .ok (.slice (some ⟨w.heap.size, 0, none⟩) l c) (w.alloc (.cells (madeCells #[z] c) e)) := by
  obtain ⟨i0, hi, hz0, hz1', hz2⟩ := info_parts hinfo
  have hb : (i0.bytes : Int) * (c : Int) ≤ 1024 * 4294967296 := by
    rw [hz2]
    exact Int.mul_le_mul (by omega) (by omega) (by omega) (by omega)
  have := run_make (P := P) w t e i0 z ht hi hz0 .i64 .i64 (l : Int) (c : Int) (by omega) (by omega) (by omega) (by omega)
  rw [this, hz1', hz1]
  simp

theorem make0 {P : Program} (t e : TypeId) (z : Value) (bytes : Nat) (ht : P.underlying t = some (.slice e)) (hinfo : (P.info? e).map (fun i => (i.zero, i.size, i.bytes)) = some (some z, 1, bytes)) (hz1 : z.cells = #[z])
    (c : Nat) (hby : bytes ≤ 1024) (hc : c ≤ 4294967296) (w : World) :
    (Instr.makeSlice t (.int .i64 0) (.int .i64 (c : Int))).run P w = .ok (.slice (some ⟨w.heap.size, 0, none⟩) 0 c) (w.alloc (.cells (madeCells #[z] c) e)) :=
  make1 t e z bytes ht hinfo hz1 0 c (Nat.zero_le _) hby hc w

/-- A new block of cells, all of them used: a row of the call's own. -/
theorem own_lit (w : World) (e : TypeId) (cs : List Value) (hm : cs.length ≤ 1000) :
    (w.alloc (.cells cs.toArray e)).ownsRow w.heap.size e 1 (.slice (some ⟨w.heap.size, 0, none⟩) cs.length cs.length) cs.length cs :=
  ⟨by simp, .inr ⟨w.heap.size, cs.length, cs.toArray, rfl, Nat.le_refl _, heap_alloc_new w _, Nat.le_refl _, by unfold maxLen; omega, by simp, by simp⟩⟩

/-- 'append(s, x)' of one element of one cell, s the call's own. -/
theorem append1 {P : Program} {ops : Array Oper} {rest : List Oper} {o : Oper} {a : Act} {Q : Exit → Act → World → Prop} {w : World} (t e : TypeId) (z : Value) (bytes : Nat)
    (ht : P.underlying t = some (.slice e)) (hinfo : (P.info? e).map (fun i => (i.zero, i.size, i.bytes)) = some (some z, 1, bytes)) (hz1 : z.cells = #[z]) (hby : bytes ≤ 1024)
    (hgd : o.guard = none) (s x : Operand) (ho : o.op = .call { callee := .builtin .append, args := #[s, x], argTypes := #[t, t] })
    (base : Nat) (v : Value) (n : Nat) (xs : List Value) (u : Value) (hs : a.eval s = v) (hown : w.ownsRow base e 1 v n xs) {b : Nat} (hx : a.eval x = .slice (some ⟨b, 0, none⟩) 1 1) (hb : b = w.heap.size) (h1 : u.oneCell' = true)
    (hn : n < 4294967296) (hbase : base ≤ w.heap.size)
    (h : ∀ v' w', w'.ownsRow base e 1 v' (n + 1) (xs ++ [u]) → Below base w w' → w.heap.size + 1 ≤ w'.heap.size → wpList P ops Q rest (a.put o.dst v') w') : wpList P ops Q (o :: rest) a (w.alloc (.cells #[u] e)) := by
  subst hb
  obtain ⟨i0, hi, hz0, hz1', hz2⟩ := info_parts hinfo
  refine wpList_append_own (w.alloc (.cells #[u] e)) hgd s x t ho base e i0 z 1 bytes ht hi hz0 hz1' hz2 (by rw [hz1]; rfl) (by decide) v n xs hs (hown.alloc _) ⟨w.heap.size, 0, none⟩ 1 1 [u] hx rfl
    (cell_one_new _ _ _) (by simpa using h1) (by unfold maxLen; omega)
    (by
      have : (n + 1) * bytes ≤ 4294967296 * 1024 := Nat.mul_le_mul (by omega) hby
      omega) (by simp; omega) (fun v' w' h2 h3 _ => ?_)
  have hb : Below base w w' := ((Below.refl _ _).alloc hbase _).grown h3 (by simp; omega) (fun k hk => (hown.lt k hk).1)
  exact h v' w' h2 hb (by have := h3.size; simpa using this)

theorem wf8 {a : Int} (h : (Lit.int .u8 a).wf = true) : 0 ≤ a ∧ a ≤ 255 := by
  simp [Lit.wf, IntKind.min, IntKind.max, IntKind.signed, IntKind.bits] at h
  omega
theorem wf64 {a : Int} (h : (Lit.int .i64 a).wf = true) : -9223372036854775808 ≤ a ∧ a ≤ 9223372036854775807 := by
  simp [Lit.wf, IntKind.min, IntKind.max, IntKind.signed, IntKind.bits] at h
  omega

theorem wf8_mk {a : Int} (h0 : 0 ≤ a) (h1 : a ≤ 255) : (Lit.int .u8 a).wf = true := by
  simp [Lit.wf, IntKind.min, IntKind.max, IntKind.signed, IntKind.bits]
  omega
theorem wf64_mk {a : Int} (h0 : -9223372036854775808 ≤ a) (h1 : a ≤ 9223372036854775807) : (Lit.int .i64 a).wf = true := by
  simp [Lit.wf, IntKind.min, IntKind.max, IntKind.signed, IntKind.bits]
  omega

/-- Quiet: the call answers v and leaves the world as it was. New: it may make new blocks. -/
def Quiet (P : Program) (f : FuncId) (args : Array Value) (v : Value) : Prop := ∀ w, Calls P f args w fun e w' => e = .returned v ∧ w = w'
def New (P : Program) (f : FuncId) (args : Array Value) (v : Value) : Prop := ∀ w, Calls P f args w fun e w' => e = .returned v ∧ Below w.heap.size w w'

end Go.Proofs.YtnncgjhgmmdilaaGreatDoor
