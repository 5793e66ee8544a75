import Derived.Test.YtenkabjkgngcdaaGreatKa4
import Derived.Test.YtenkabjkgngcdaaGreatProg
set_option linter.unusedVariables false
set_option linter.unusedSimpArgs false
set_option linter.unusedSectionVars false
namespace Go.Proofs.YtenkabjkgngcdaaGreat.Ab
open Go
noncomputable section
def gI (l : List Dat) (i : Nat) : Int := (l.getD i (.dI 0)).asI
def gB (l : List Dat) (i : Nat) : Bool := (l.getD i (.dI 0)).asB
def gS (l : List Dat) (i : Nat) : List UInt8 := (l.getD i (.dI 0)).asS
def gL (l : List Dat) (i : Nat) : List (List Dat) := (l.getD i (.dI 0)).asL
def zFx (a n : Int) : Int := (a % 8 + n % 8) % 8
def zFa (a b : Int) : Int := (b % 8 - a % 8) % 8
structure ASt where
 va : Int
 vs : Int
 vr : Int
 waits : Int
 out : Int
 tries : Int
 left : Int
 pb : Bool
 busy : Bool
 rejs : Bool
 asks : Bool
 wants : Bool
 failed : Bool
 k : Int
 n2 : Int
 t1 : Int
 off : Int
 len : Int
 L : List (List Dat)
 high : Int
 due : Bool
 final : Bool
 reject : Bool
 poll : Bool
def aOf (l : List Dat) : ASt := ⟨gI l 0, gI l 1, gI l 2, gI l 3, gI l 4, gI l 5, gI l 6, gB l 7, gB l 8, gB l 9, gB l 10, gB l 11, gB l 12, gI l 13, gI l 14, gI l 15, gI l 16, gI l 17, gL l 18, gI l 19, gB l 20, gB l 21, gB l 22, gB l 23⟩
def ASt.W (a : ASt) : List (List Dat) := (a.L.drop a.off.toNat).take a.len.toNat
def zOz (out left : Int) (pb asks wants failed : Bool) (t1 len : Int) (again : Bool) : Int :=
 if failed = true then left
 else if out = 0 ∧ asks = false ∧ wants = false ∧ ¬(pb = true ∧ len > 0) then 0
 else if left = 0 ∨ again = true then t1 else left
def ASt.count (a : ASt) (again : Bool) : ASt := { a with left := zOz a.out a.left a.pb a.asks a.wants a.failed a.t1 a.len again }
def ASt.push (a : ASt) (info : Dat) : Int × ASt :=
 if a.failed then (4, a) else if a.len ≥ a.k then (3, a)
 else (0, ({ a with off := 0, len := (a.W.length : Int) + 1, L := a.W ++ [[info]] } : ASt).count false)
def hasB (out : Int) (pb asks failed : Bool) (len : Int) (due poll : Bool) : Bool := !failed && (due || poll || (!pb && !asks && decide (out < len)))
def ASt.has (a : ASt) : Bool := hasB a.out a.pb a.asks a.failed a.len a.due a.poll
structure Frm where
 d : Int
 c : Bool
 k : Int
 pf : Bool
 ns : Int
 nr : Int
 info : List UInt8
 deriving DecidableEq
def Frm.none : Frm := ⟨0, false, 0, false, 0, 0, []⟩
def infoAt (L : List (List Dat)) (i : Int) : List UInt8 := ((L.getD i.toNat []).getD 0 (.dI 0)).asS
def ASt.next (a : ASt) : Frm × Bool × ASt :=
 if a.has = false then (.none, false, a)
 else if a.due = true then (⟨0, false, if a.reject = true ∧ a.busy = false then 10 else if a.busy = true then 9 else 8, a.final, 0, a.vr, []⟩, true, ({ a with due := false, final := false, reject := false } : ASt).count false)
 else if a.poll = true then (⟨0, true, if a.busy = true then 9 else 8, true, 0, a.vr, []⟩, true, ({ a with poll := false } : ASt).count false)
 else (⟨0, true, 7, false, zFx a.va a.out, a.vr, infoAt a.L (a.off + a.out)⟩, true, ({ a with out := a.out + 1, high := max a.high (a.out + 1) } : ASt).count false)
structure Act where
 info : List UInt8
 taken : Bool
 acked : Int
 failed : Bool
 deriving DecidableEq
def Act.none : Act := ⟨[], false, 0, false⟩
def ASt.acked (a : ASt) (n : Int) : ASt := { a with off := a.off + n, len := a.len - n, va := zFx a.va n, out := max 0 (a.out - n), high := a.high - n, tries := if n > 0 then 0 else a.tries }
def tak (vr : Int) (busy rejs due reject : Bool) (ns : Int) (info : List UInt8) : Act × Int × Bool × Bool × Bool :=
 if zFa vr ns = 0 then
  if busy = false then (⟨info, true, 0, false⟩, zFx vr 1, false, true, false)
  else (.none, vr, rejs, true, reject)
 else if rejs = false ∧ busy = false then (.none, vr, true, true, true) else (.none, vr, rejs, due, reject)
def ASt.take (a : ASt) (ns : Int) (info : List UInt8) : Act × ASt :=
 let t := tak a.vr a.busy a.rejs a.due a.reject ns info
 (t.1, { a with vr := t.2.1, rejs := t.2.2.1, due := t.2.2.2.1, reject := t.2.2.2.2 })
def ASt.fail (a : ASt) : ASt := { a with failed := true, left := 0 }
def zEv (va vs nr : Int) : Int × Bool := if zFa va nr > zFa va vs then (0, false) else (zFa va nr, true)
def ASt.kind (a : ASt) (k : Int) : ASt :=
 if k = 10 then { a with out := 0, pb := false } else if k = 8 then { a with pb := false } else if k = 9 then { a with pb := true, out := 0 } else a
def ASt.answered (a : ASt) (f : Frm) : ASt := if f.c = false ∧ f.pf = true ∧ a.asks = true then { a with asks := false, poll := false, tries := 0, out := 0 } else a
def ASt.polled (a : ASt) (f : Frm) : ASt := if f.c = true ∧ f.pf = true then { a with due := true, final := true } else a
def ASt.hear (a : ASt) (f : Frm) : Act × ASt :=
 if a.failed = true ∨ f.k < 7 ∨ f.k > 10 then (.none, a)
 else
  let r := zEv a.va (zFx a.va a.high) f.nr
  if r.2 = false then (⟨[], false, 0, true⟩, a.fail)
  else
   let a1 := ((a.acked r.1).kind f.k).answered f
   let t := if f.k = 7 then a1.take f.ns f.info else (.none, a1)
   ({ t.1 with acked := r.1 }, (t.2.polled f).count (decide (r.1 > 0)))
def ASt.setBusy (a : ASt) (b : Bool) : ASt := if a.failed = true ∨ a.busy = b then a else ({ a with busy := b, due := true } : ASt).count false
def ASt.setWant (a : ASt) (b : Bool) : ASt := if a.failed then a else ({ a with wants := b } : ASt).count false
def ASt.tick (a : ASt) : Act × ASt :=
 if a.failed = true ∨ a.left = 0 then (.none, a)
 else if a.left - 1 > 0 then (.none, { a with left := a.left - 1 })
 else
  let tr := if a.out > 0 ∨ a.asks = true then a.tries + 1 else a.tries
  if tr > a.n2 then (⟨[], false, 0, true⟩, ({ a with left := a.left - 1, tries := tr } : ASt).fail)
  else (.none, { a with tries := tr, asks := true, poll := true, left := a.t1 })
def xHW (w : Nat) : List AV := [.sint .u8 (vt 0), .sint .u8 (vt 1), .sint .u8 (vt 2), .sint .i64 (vt 3), .sint .i64 (vt 4), .sint .i64 (vt 5), .sint .i64 (vt 6), .sbool (vt 7), .sbool (vt 8), .sbool (vt 9), .sbool (vt 10), .sbool (vt 11), .sbool (vt 12),
 .sint .i64 (vt 13), .sint .i64 (vt 14), .sint .i64 (vt 15), .sslice w 1 (vt 16) (vt 17), .sint .i64 (vt 19), .sbool (vt 20), .sbool (vt 21), .sbool (vt 22), .sbool (vt 23)]
def poA : List (Nat × AObj) := [(0, .row (xHW 1) true false), (1, .seq [.ks] (vt 18) true)]
def xHH (l : List AV) : List (Nat × AV) → List AV
 | [] => l
 | p :: r => xHH (l.set p.1 p.2) r
def qoA (ps : List (Nat × AV)) : List (Nat × AObj) := [(0, .row (xHH (xHW 1) ps) true false), (1, .seq [.ks] (vt 18) true)]
def frA (i : Nat) : AV := .agg [.sint .u8 (vt i), .sbool (vt (i + 1)), .sint .u8 (vt (i + 2)), .sbool (vt (i + 3)), .sint .u8 (vt (i + 4)), .sint .u8 (vt (i + 5)), .sstr (vt (i + 6))]
def xIC (i : Nat) : AV := .agg [.sstr (vt i), .sbool (vt (i + 1)), .sint .i64 (vt (i + 2)), .sbool (vt (i + 3))]
def SAdd : Sum := ⟨0, 2, [uv 0, iv 1], [], 0, uv 2, [], [0, 1]⟩
def SWay : Sum := ⟨0, 2, [uv 0, uv 1], [], 0, iv 2, [], [0, 1]⟩
def SAcks : Sum := ⟨0, 3, [uv 0, uv 1, uv 2], [], 0, .tuple [iv 3, bv 4], [], [0, 1, 2]⟩
def SCount : Sum := ⟨2, 25, [.ptr 0 0, bv 24], poA, 2, .tuple [], qoA [(6, iv 25)], [4, 6, 7, 10, 11, 12, 15, 17, 24]⟩
def SAcked : Sum := ⟨2, 25, [.ptr 0 0, iv 24], poA, 2, .tuple [], qoA [(0, uv 25), (4, iv 26), (5, iv 27), (16, .sslice 1 1 (vt 28) (vt 29)), (17, iv 30)], [0, 4, 5, 16, 17, 19, 24]⟩
def STake : Sum := ⟨2, 31, [.ptr 0 0, frA 24], poA, 2, xIC 31, qoA [(2, uv 35), (9, bv 36), (20, bv 37), (18, bv 38)], [2, 8, 9, 20, 22, 28, 30]⟩
def SHas : Sum := ⟨2, 24, [.ptr 0 0], poA, 2, bv 24, qoA [], [4, 7, 10, 12, 17, 20, 23]⟩
def SPush : Sum := ⟨2, 25, [.ptr 0 0, .sstr (vt 24)], poA, 3, iv 25, [(0, .row (xHH (xHW 2) [(6, iv 26), (16, .sslice 2 1 (vt 27) (vt 28))]) true false), (2, .seq [.ks] (vt 29) true)], List.range 25⟩
def SNext : Sum := ⟨2, 24, [.ptr 0 0], poA, 2, .tuple [frA 24, bv 31], qoA [(4, iv 32), (6, iv 33), (17, iv 34), (18, bv 35), (19, bv 36), (20, bv 37), (21, bv 38)], List.range 24⟩
def SHear : Sum := ⟨2, 31, [.ptr 0 0, frA 24], poA, 2, xIC 31, qoA [(0, uv 35), (2, uv 36), (4, iv 37), (5, iv 38), (6, iv 39), (7, bv 40), (9, bv 41), (10, bv 42), (12, bv 43), (16, .sslice 1 1 (vt 44) (vt 45)), (17, iv 46), (18, bv 47), (19, bv 48), (20, bv 49), (21, bv 50)], List.range 31⟩
def SWant : Sum := ⟨2, 25, [.ptr 0 0, bv 24], poA, 2, .tuple [], qoA [(6, iv 25), (11, bv 26)], List.range 25⟩
def STick : Sum := ⟨2, 24, [.ptr 0 0], poA, 2, xIC 24, qoA [(5, iv 28), (6, iv 29), (10, bv 30), (12, bv 31), (21, bv 32)], List.range 24⟩
def frD (f : Frm) : List Dat := [.dI f.d, .dB f.c, .dI f.k, .dB f.pf, .dI f.ns, .dI f.nr, .dS f.info]
def xEC (a : Act) : List Dat := [.dS a.info, .dB a.taken, .dI a.acked, .dB a.failed]
def zC7 (l : List Dat) (i : Nat) : Frm := ⟨gI l i, gB l (i + 1), gI l (i + 2), gB l (i + 3), gI l (i + 4), gI l (i + 5), gS l (i + 6)⟩
def xIg (l : List Dat) : List Dat := [.dI ((aOf l).push (l.getD 24 (.dI 0))).1, .dI ((aOf l).push (l.getD 24 (.dI 0))).2.left, .dI ((aOf l).push (l.getD 24 (.dI 0))).2.off, .dI ((aOf l).push (l.getD 24 (.dI 0))).2.len, .dL ((aOf l).push (l.getD 24 (.dI 0))).2.L, .dB (decide (0 ≤ gI l 17 ∧ gI l 17 < 1000 ∧ gI l 16 + gI l 17 ≤ ((gL l 18).length : Int) ∧ 0 ≤ gI l 16))]
def xFU (l : List Dat) : List Dat := [.dI (zFx (gI l 0) (gI l 6)), .dI (max 0 (gI l 1 - gI l 6)), .dI (if gI l 6 > 0 then 0 else gI l 2), .dI (gI l 3 + gI l 6), .dI (gI l 4 - gI l 6), .dI (gI l 5 - gI l 6),
 .dB (decide (0 ≤ gI l 6 ∧ gI l 6 ≤ gI l 4 ∧ gI l 6 ≤ 100 ∧ 0 ≤ gI l 1 ∧ gI l 1 ≤ 100 ∧ 0 ≤ gI l 5 ∧ gI l 5 ≤ 100))]
def xIf (l : List Dat) : List Dat := let t := tak (gI l 0) (gB l 1) (gB l 2) (gB l 3) (gB l 4) (gI l 5) (gS l 6); xEC t.1 ++ [.dI t.2.1, .dB t.2.2.1, .dB t.2.2.2.2, .dB t.2.2.2.1]
def xIh (l : List Dat) : List Dat := let p := (aOf l).next; frD p.1 ++ [.dB p.2.1, .dI p.2.2.out, .dI p.2.2.left, .dI p.2.2.high, .dB p.2.2.due, .dB p.2.2.final, .dB p.2.2.reject, .dB p.2.2.poll, .dB (decide (0 ≤ gI l 4 ∧ gI l 4 ≤ 100 ∧ 0 ≤ gI l 17 ∧ 0 ≤ gI l 16))]
def xIi (l : List Dat) : List Dat := let p := (aOf l).hear (zC7 l 24); xEC p.1 ++ [.dI p.2.va, .dI p.2.vr, .dI p.2.out, .dI p.2.tries, .dI p.2.left, .dB p.2.pb, .dB p.2.rejs, .dB p.2.asks, .dB p.2.failed, .dI p.2.off, .dI p.2.len, .dI p.2.high, .dB p.2.due, .dB p.2.final, .dB p.2.reject, .dB p.2.poll,
 .dB (decide (0 ≤ gI l 4 ∧ gI l 4 ≤ 100 ∧ 0 ≤ gI l 19 ∧ gI l 19 ≤ gI l 17 ∧ gI l 19 ≤ 7))]
def xIe (l : List Dat) : List Dat := let p := (aOf l).tick; xEC p.1 ++ [.dI p.2.tries, .dI p.2.left, .dB p.2.asks, .dB p.2.failed, .dB p.2.poll, .dB (decide (0 ≤ gI l 5 ∧ gI l 5 ≤ 1000 ∧ 0 ≤ gI l 6 ∧ gI l 6 ≤ 1000))]
def xId (l : List Dat) : List Dat := let a := aOf l; [.dI a.va, .dI (zFx a.va a.out), .dI a.vr, .dI a.len, .dI a.out, .dI a.tries, .dI a.left, .dB a.pb, .dB a.busy, .dB a.rejs, .dB a.asks, .dB a.wants, .dB a.failed]
def xJP : Nat → List Dat → List Dat
 | 2, l => [.dI (zFx (gI l 0) (gI l 1))]
 | 3, l => [.dI (zFa (gI l 0) (gI l 1))]
 | 4, l => [.dI (zEv (gI l 0) (gI l 1) (gI l 2)).1, .dB (zEv (gI l 0) (gI l 1) (gI l 2)).2]
 | 5, l => [.dI (zOz (gI l 0) (gI l 1) (gB l 2) (gB l 3) (gB l 4) (gB l 5) (gI l 6) (gI l 7) (gB l 8))]
 | 6, l => xFU l
 | 7, l => xIf l
 | 8, l => [.dB (hasB (gI l 0) (gB l 1) (gB l 2) (gB l 3) (gI l 4) (gB l 5) (gB l 6))]
 | 9, l => xIg l
 | 10, l => xIh l
 | 11, l => xIi l
 | 12, l => [.dI ((aOf l).setBusy (gB l 24)).left, .dB ((aOf l).setBusy (gB l 24)).busy, .dB ((aOf l).setBusy (gB l 24)).due]
 | 13, l => [.dI ((aOf l).setWant (gB l 24)).left, .dB ((aOf l).setWant (gB l 24)).wants]
 | 14, l => xIe l
 | 15, l => xId l
 | _, _ => []
def zCV (m : Nat → List Dat → List Dat) (k : Nat) (d : Dat) : Dat := (m (k / 64) (cellsD d)).getD (k % 64) (.dB true)
def xHC : List (Nat × (List AV → Heap → Option (Tm × AV × Heap))) := [(68, zFX SAdd 128 1), (144, zFX SWay 192 1)]
def xIJ : List (Nat × (List AV → Heap → Option (Tm × AV × Heap))) := (125, zFX SAcks 256 2) :: (77, zFX SCount 320 1) :: (126, zFX SAcked 384 6) :: (127, zFX STake 448 8) :: (61, zFX SHas 512 1) :: xHC
def xH4 : Env := ⟨zBP xHC, fun _ _ => none⟩
def xE4 : Env := ⟨zBP xIJ, fun _ _ => none⟩
end
end Go.Proofs.YtenkabjkgngcdaaGreat.Ab
