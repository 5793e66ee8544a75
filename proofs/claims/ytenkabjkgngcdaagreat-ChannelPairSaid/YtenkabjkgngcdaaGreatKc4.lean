import Derived.Test.YtenkabjkgngcdaaGreatKc0
import Derived.Test.YtenkabjkgngcdaaGreatKc2
import Derived.Test.YtenkabjkgngcdaaGreatKc3
set_option linter.unusedVariables false
set_option linter.unusedSimpArgs false
set_option linter.unusedSectionVars false
namespace Go.Proofs.YtenkabjkgngcdaaGreat.Ab
open Go
noncomputable section
structure LSt where
 st : Int
 listens : Bool
 tries : Int
 most : Int
structure LAct where
 kind : Int
 cmd : Bool
 pf : Bool
 timer : Int
 fact : Int
def LAct.no : LAct := ⟨0, false, false, 0, 0⟩
def LAct.says (k : Int) : LAct := ⟨k, true, true, 1, 0⟩
def LSt.again (l : LSt) (k : Int) : LAct × LSt := if l.tries ≥ l.most then (⟨0, false, false, 2, 6⟩, { l with st := 5 }) else (LAct.says k, { l with tries := l.tries + 1 })
def LSt.open_ (l : LSt) : LAct × LSt := if l.st = 1 ∨ l.st = 5 then (LAct.says 1, { l with st := 2, tries := 0 }) else (.no, l)
def LSt.close (l : LSt) : LAct × LSt := if l.st = 2 ∨ l.st = 3 then (LAct.says 4, { l with st := 4, tries := 0 }) else (.no, l)
def LSt.due (l : LSt) : LAct × LSt := if l.st = 2 then l.again 1 else if l.st = 4 then l.again 4 else (.no, l)
def LSt.cmd (l : LSt) (k a : Int) : LAct × LSt :=
 if l.st = 1 ∨ l.st = 5 then (if k = 1 ∧ l.listens = true then (⟨2, false, false, 0, 2⟩, { l with st := 3 }) else (⟨a, false, false, 0, 0⟩, l))
 else if l.st = 2 then (if k = 1 then (⟨2, false, false, 0, 0⟩, l) else if k = 4 then (⟨3, false, false, 2, 4⟩, { l with st := 1 }) else (.no, l))
 else if l.st = 3 then (if k = 1 then (⟨2, false, false, 0, 3⟩, l) else if k = 4 then (⟨2, false, false, 0, 5⟩, { l with st := 1 }) else (.no, l))
 else if l.st = 4 then (if k = 1 then (⟨3, false, false, 0, 0⟩, l) else if k = 4 then (⟨2, false, false, 0, 0⟩, l) else (.no, l))
 else (.no, l)
def LSt.rsp (l : LSt) (k : Int) : LAct × LSt :=
 if l.st = 2 then (if k = 2 then (⟨0, false, false, 2, 1⟩, { l with st := 3 }) else (⟨0, false, false, 2, 4⟩, { l with st := 1 }))
 else if l.st = 4 then (⟨0, false, false, 2, 5⟩, { l with st := 1 }) else (.no, l)
def LSt.hear (l : LSt) (k : Int) (pf cmd : Bool) : LAct × LSt :=
 if k < 1 ∨ k > 10 then (.no, l)
 else if cmd = true ∧ ¬(k = 2 ∨ k = 3) then
  let r := l.cmd k (if pf = true ∨ k = 1 ∨ k = 4 then 3 else 0)
  ({ r.1 with pf := pf && decide (r.1.kind ≠ 0) }, r.2)
 else if cmd = true ∨ ¬(k = 2 ∨ k = 3) then (.no, l)
 else if k = 3 ∧ l.st = 3 then (⟨0, false, false, 0, 5⟩, { l with st := 1 })
 else if pf = true then l.rsp k
 else (.no, l)
def LSt.mv (l l' : LSt) : LSt := { l with st := l'.st, tries := l'.tries }
structure Core where
 l : LSt
 qf : Int
 qt : List UInt8
 qr : Int
 t1 : Int
 n2 : Int
 dlci : Int
 st : Int
 asked : Bool
 po : Int
 pl : Int
 pL : List (List Dat)
 left : Int
 says : Frm
 asks : Frm
structure CSt where
 c : Core
 a : ASt
 within : Bool
 pn : Int
 pm : Int
 tn : Int
 tm : Int
 owe : Int
 br : Int
 bh : List UInt8
 ini : Bool
 adv : Bool
 n1 : Int
 t2 : Int
 k : Int
 room : Int
def lOf (l : List Dat) (i : Nat) : LSt := ⟨gI l i, gB l (i + 1), gI l (i + 2), gI l (i + 3)⟩
def aAt (l : List Dat) (i : Nat) : ASt := ⟨gI l i, gI l (i + 1), gI l (i + 2), gI l (i + 3), gI l (i + 4), gI l (i + 5), gI l (i + 6), gB l (i + 7), gB l (i + 8), gB l (i + 9), gB l (i + 10), gB l (i + 11), gB l (i + 12), gI l (i + 13), gI l (i + 14), gI l (i + 15), gI l (i + 16), gI l (i + 17), gL l (i + 18), gI l (i + 19), gB l (i + 20), gB l (i + 21), gB l (i + 22), gB l (i + 23)⟩
def zLt (l : List Dat) : Core := ⟨lOf l 0, gI l 4, gS l 5, gI l 6, gI l 7, gI l 8, gI l 9, gI l 10, gB l 11, gI l 12, gI l 13, gL l 14, gI l 15, zC7 l 16, zC7 l 23⟩
def cOf (l : List Dat) : CSt := ⟨⟨lOf l 0, gI l 34, gS l 35, gI l 36, gI l 42, gI l 44, gI l 47, gI l 48, gB l 49, gI l 50, gI l 51, gL l 52, gI l 53, zC7 l 54, zC7 l 61⟩, aAt l 4, gB l 28, gI l 29, gI l 30, gI l 31, gI l 32, gI l 33, gI l 37, gS l 38, gB l 39, gB l 40, gI l 41, gI l 43, gI l 45, gI l 46⟩
def xIB (l : List Dat) (i : Nat) : LAct := ⟨gI l i, gB l (i + 1), gB l (i + 2), gI l (i + 3), gI l (i + 4)⟩
def Core.parts (c : Core) : List (List Dat) := (c.pL.drop c.po.toNat).take c.pl.toNat
def zA2 (a : ASt) (st : Int) (qt : List UInt8) (pn : Int) : ASt := if st = 3 then a.setWant (decide ((qt.length : Int) > 0) && (pn == 0)) else a
def CSt.want (c : CSt) : CSt := { c with a := zA2 c.a c.c.st c.c.qt c.pn }
def Core.forget (c : Core) : Core := { c with qf := (c.qf + c.qt.length).tmod c.qr, qt := [], po := 0, pl := 0, pL := [] }
def zFG (n : Int) : Int := max (min n 255) 0
def LSt.fin (l : LSt) (n2 : Int) : LSt := if l.st ≠ 1 ∧ l.st ≠ 5 then ⟨1, false, 0, zFG n2⟩ else { l with listens := false }
def Core.fin (c : Core) (st : Int) : Core := { c.forget with st := st, left := 0, asks := Frm.none, l := c.l.fin c.n2 }
def Core.act1 (c : Core) (a : LAct) : Core := if a.kind = 0 then c else if a.cmd = true then { c with asks := ⟨c.dlci, true, a.kind, a.pf, 0, 0, []⟩ } else { c with says := ⟨c.dlci, false, a.kind, a.pf, 0, 0, []⟩ }
def Core.act2 (c : Core) (a : LAct) : Core := if a.timer = 1 then { c with left := c.t1 } else if a.timer = 2 then { c with left := 0 } else c
def Core.act3 (c : Core) (a : LAct) : Core := if a.fact = 2 then { c with asked := true, st := 3 } else if a.fact = 1 then { c with st := 3 } else if a.fact = 4 ∨ a.fact = 5 then c.fin 5 else if a.fact = 6 then c.fin 6 else c
def Core.act (c : Core) (a : LAct) : Core := ((c.act1 a).act2 a).act3 a
def Core.imm (c d : Core) : Prop := d.qr = c.qr ∧ d.t1 = c.t1 ∧ d.n2 = c.n2 ∧ d.dlci = c.dlci
theorem Core.imm1 (c : Core) (a : LAct) : c.imm (c.act1 a) := by
 unfold Core.act1;split
 ·exact ⟨rfl, rfl, rfl, rfl⟩
 ·split <;> exact ⟨rfl, rfl, rfl, rfl⟩
theorem Core.imm2 (c : Core) (a : LAct) : c.imm (c.act2 a) := by
 unfold Core.act2;split
 ·exact ⟨rfl, rfl, rfl, rfl⟩
 ·split <;> exact ⟨rfl, rfl, rfl, rfl⟩
theorem Core.imm3 (c : Core) (a : LAct) : c.imm (c.act3 a) := by
 unfold Core.act3
 repeat' (first | exact ⟨rfl, rfl, rfl, rfl⟩ | split)
theorem Core.act_imm (c : Core) (a : LAct) : c.imm (c.act a) := by
 obtain ⟨a1, a2, a3, a4⟩ := c.imm1 a;obtain ⟨b1, b2, b3, b4⟩ := (c.act1 a).imm2 a;obtain ⟨d1, d2, d3, d4⟩ := ((c.act1 a).act2 a).imm3 a;exact ⟨d1.trans (b1.trans a1), d2.trans (b2.trans a2), d3.trans (b3.trans a3), d4.trans (b4.trans a4)⟩
theorem Core.act_qr (c : Core) (a : LAct) : (c.act a).qr = c.qr := (Core.act_imm c a).1
def Core.open_ (c : Core) : Int × Core :=
 if c.st ≠ 1 then (4, c) else (0, ({ c with st := 2, l := c.l.mv c.l.open_.2 } : Core).act c.l.open_.1)
def Core.close (c : Core) : Int × Core :=
 if c.st = 1 then (0, c.fin 5)
 else if c.st = 2 ∨ c.st = 3 then (0, (({ c with st := 4, l := c.l.mv c.l.close.2 } : Core).act c.l.close.1).forget)
 else (4, c)
def Core.mv (c c' : Core) : Core := { c' with qr := c.qr, t1 := c.t1, n2 := c.n2, dlci := c.dlci }
def Core.linked (c : Core) (k : Int) (pf cmd : Bool) : Core := ({ c with l := c.l.mv (c.l.hear k pf cmd).2 } : Core).act (c.l.hear k pf cmd).1
def zFN (s : List UInt8) (room : Int) (held : List UInt8) : List UInt8 := zBl s 0 (room - (held.length : Int))
def zEz (a : ASt) (st : Int) (qt : List UInt8) (pn qr : Int) (s : List UInt8) : Int × Int × List UInt8 × ASt :=
 if st ≠ 3 then (0, 4, qt, a) else (((zFN s qr qt).length : Int), 0, qt ++ zFN s qr qt, zA2 a st (qt ++ zFN s qr qt) pn)
def zLE (bh : List UInt8) (tn owe most : Int) : List UInt8 × List UInt8 × Int × Int :=
 if ((zBl bh 0 most).length : Int) > tn then (zBl bh 0 most, zBl bh (zBl bh 0 most).length bh.length, tn, owe)
 else (zBl bh 0 most, zBl bh (zBl bh 0 most).length bh.length, IntKind.i64.wrap (tn - (zBl bh 0 most).length), IntKind.i64.wrap (owe + (zBl bh 0 most).length))
def ASt.mvH (a r : ASt) : ASt := { a with va := r.va, vr := r.vr, out := r.out, tries := r.tries, left := r.left, pb := r.pb, rejs := r.rejs, asks := r.asks, failed := r.failed, off := r.off, len := r.len, high := r.high, due := r.due, final := r.final, reject := r.reject, poll := r.poll }
def ASt.mvT (a r : ASt) : ASt := { a with tries := r.tries, left := r.left, asks := r.asks, failed := r.failed, poll := r.poll }
def CSt.fail (c : CSt) : CSt := { c with c := c.c.fin 6 }
def zHQ (i : List UInt8) : Int := (iop .or .i64 (iop .shl .i64 (IntKind.i64.wrap (zDm i 1)) 8).asI (IntKind.i64.wrap (zDm i 2))).asI
def CSt.granted (c : CSt) (i : List UInt8) : CSt :=
 if (i.length : Int) = 3 then
  (if zHQ i < 0 then c.fail else if zHQ i > IntKind.i64.wrap (c.pm - c.pn) then c.fail else { c with pn := IntKind.i64.wrap (c.pn + zHQ i) })
 else c.fail
def zC4 (i : List UInt8) : List UInt8 := zBl i 1 i.length
def CSt.comes (c : CSt) (i : List UInt8) : CSt :=
 if i = [] then c.fail
 else if (iop .andNot .u8 (zDm i 0) 192).asI ≠ 1 then c.fail
 else if c.within = ((iop .and .u8 (zDm i 0) 128).asI != 0) then c.fail
 else if ((zC4 i).length : Int) > IntKind.i64.wrap (IntKind.i64.wrap (c.tm - c.tn) - c.owe) then ({ c with within := (iop .and .u8 (zDm i 0) 64).asI == 0 } : CSt).fail
 else
  let d : CSt := { c with within := (iop .and .u8 (zDm i 0) 64).asI == 0, tn := IntKind.i64.wrap (c.tn + (zC4 i).length), bh := c.bh ++ zFN (zC4 i) c.br c.bh }
  if ((zFN (zC4 i) c.br c.bh).length : Int) = (zC4 i).length then d else d.fail
def CSt.numRaw (c : CSt) (f : Frm) : CSt :=
 let h := c.a.hear f
 let d : CSt := { c with a := c.a.mvH h.2 }
 if h.1.taken = false then (if h.1.failed = true then d.fail else d)
 else if h.1.info ≠ [] ∧ zDm h.1.info 0 = 17 then d.granted h.1.info
 else d.comes h.1.info
def CSt.mvN (c r : CSt) : CSt := { c with a := c.a.mvH r.a, within := r.within, pn := r.pn, tn := r.tn, bh := r.bh, c := { c.c with l := r.c.l, qf := r.c.qf, qt := r.c.qt, st := r.c.st, po := r.c.po, pl := r.c.pl, pL := r.c.pL, left := r.c.left, asks := r.c.asks } }
def CSt.num (c : CSt) (f : Frm) : CSt := c.mvN (c.numRaw f)
def CSt.how (c : CSt) (f : Frm) : CSt :=
 if c.c.st ≠ 3 then { c with c := c.c.mv (c.c.linked f.k f.pf f.c) }
 else if f.k = 7 ∨ f.k = 8 ∨ f.k = 9 ∨ f.k = 10 then c.num f
 else if f.k = 1 ∨ f.k = 2 ∨ f.k = 3 ∨ f.k = 4 then { c with c := c.c.mv (c.c.linked f.k f.pf f.c) }
 else c
def CSt.hear (c : CSt) (f : Frm) : CSt := (c.how f).want
def Core.tick (c : Core) : Core :=
 if c.left > 0 then
  (if IntKind.i64.wrap (c.left - 1) = 0 then c.mv (({ c with left := IntKind.i64.wrap (c.left - 1), l := c.l.mv c.l.due.2 } : Core).act c.l.due.1) else { c with left := IntKind.i64.wrap (c.left - 1) })
 else c
def CSt.tick1 (c : CSt) : CSt :=
 let d : CSt := { c with c := c.c.tick }
 if d.c.st = 3 then (if c.a.tick.1.failed = true then ({ d with a := c.a.mvT c.a.tick.2 } : CSt).fail else { d with a := c.a.mvT c.a.tick.2 }) else d
def CSt.tick (c : CSt) : CSt := c.tick1.want
def zA1 (m : List UInt8) (n : Int) : List (List Dat) := (zAx (n.toNat - 1) m.length 129 m).map fun p => [.dS p]
def zDu (owe tn room : Int) : Bool := decide (owe > 0) && (decide (IntKind.i64.wrap (2 * owe) ≥ room) || decide (tn = 0))
def zMa (len k owe tn room pl : Int) (qt : List UInt8) (pn : Int) (may : Bool) : Bool := decide (len < k) && (zDu owe tn room || (may && (decide (pl > 0) || (decide ((qt.length : Int) > 0) && decide (pn > 0)))))
def CSt.has (c : CSt) (may : Bool) : Bool :=
 if c.c.says.k ≠ 0 then true else if c.c.asks.k ≠ 0 then true else if c.c.st ≠ 3 then false
 else c.a.has || (zMa c.a.len c.k c.owe c.tn c.room c.c.pl c.c.qt c.pn may && !c.a.pb && !c.a.asks)
def zFW (qt : List UInt8) (pn n1 : Int) : Int := min (min (qt.length : Int) pn) (IntKind.i64.wrap (8 * IntKind.i64.wrap (n1 - 1)))
structure CutR where
 ok : Bool
 pn : Int
 qf : Int
 qt : List UInt8
 po : Int
 pl : Int
 pL : List (List Dat)
def zAL (pn qf : Int) (qt : List UInt8) (qr n1 po pl : Int) (pL : List (List Dat)) : CutR :=
 if zFW qt pn n1 = 0 ∨ zFW qt pn n1 < 0 ∨ zFW qt pn n1 > pn then ⟨false, pn, qf, qt, po, pl, pL⟩
 else ⟨true, IntKind.i64.wrap (pn - zFW qt pn n1), (qf + ((zBl qt 0 (zFW qt pn n1)).length : Int)).tmod qr, zBl qt ((zBl qt 0 (zFW qt pn n1)).length : Int) qt.length, 0, ((zA1 (zBl qt 0 (zFW qt pn n1)) n1).length : Int), zA1 (zBl qt 0 (zFW qt pn n1)) n1⟩
def zJ6 (qt : List UInt8) (pn n1 : Int) : Prop := 2 ≤ n1 ∧ n1 ≤ 128 ∧ qt.length ≤ 99999
instance (qt : List UInt8) (pn n1 : Int) : Decidable (zJ6 qt pn n1) := by unfold zJ6; infer_instance
structure FSt where
 left : Int
 off : Int
 len : Int
 L : List (List Dat)
 pn : Int
 owe : Int
 qf : Int
 qt : List UInt8
 po : Int
 pl : Int
 pL : List (List Dat)
structure FIn where
 a : ASt
 tn : Int
 qr : Int
 n1 : Int
 k : Int
 room : Int
 may : Bool
def FIn.arq (i : FIn) (f : FSt) : ASt := { i.a with left := f.left, off := f.off, len := f.len, L := f.L }
def zAN (n : Int) : List UInt8 := [17, UInt8.ofNat (IntKind.u8.wrap (n.fdiv 256)).toNat, UInt8.ofNat (IntKind.u8.wrap n).toNat]
def FSt.push (i : FIn) (f : FSt) (d : Dat) : FSt := { f with left := ((i.arq f).push d).2.left, off := ((i.arq f).push d).2.off, len := ((i.arq f).push d).2.len, L := ((i.arq f).push d).2.L }
def zDj (f : FSt) : Bool := decide (0 ≤ f.len ∧ f.len < 1000 ∧ f.off + f.len ≤ (f.L.length : Int) ∧ 0 ≤ f.off)
def partAt (f : FSt) : Dat := (f.pL.getD f.po.toNat []).getD 0 (.dI 0)
def FSt.step (i : FIn) (f : FSt) : Bool × FSt × Bool :=
 if ¬ f.len < i.k then (false, f, true)
 else if zDu f.owe i.tn i.room = true then (true, ({ f with owe := 0 } : FSt).push i (.dS (zAN f.owe)), zDj f)
 else if i.may = true ∧ f.pl > 0 then (true, { (f.push i (partAt f)) with po := f.po + 1, pl := f.pl - 1 }, zDj f)
 else if i.may = false then (false, f, true)
 else
  let r := zAL f.pn f.qf f.qt i.qr i.n1 f.po f.pl f.pL
  (r.ok, { f with pn := r.pn, qf := r.qf, qt := r.qt, po := r.po, pl := r.pl, pL := r.pL }, decide (zJ6 f.qt f.pn i.n1))
def FSt.run (i : FIn) : Nat → FSt → FSt × Bool
 | 0, f => (f, false)
 | n + 1, f => if (f.step i).1 = true then (((f.step i).2.1.run i n).1, (f.step i).2.2 && ((f.step i).2.1.run i n).2) else ((f.step i).2.1, (f.step i).2.2)
def CSt.fin_ (c : CSt) (may : Bool) : FIn := ⟨c.a, c.tn, c.c.qr, c.n1, c.k, c.room, may⟩
def CSt.fst_ (c : CSt) : FSt := ⟨c.a.left, c.a.off, c.a.len, c.a.L, c.pn, c.owe, c.c.qf, c.c.qt, c.c.po, c.c.pl, c.c.pL⟩
def CSt.mvF (c : CSt) (f : FSt) : CSt := { c with a := { c.a with left := f.left, off := f.off, len := f.len, L := f.L }, pn := f.pn, owe := f.owe, c := { c.c with qf := f.qf, qt := f.qt, po := f.po, pl := f.pl, pL := f.pL } }
def rounds : Nat := 40
def CSt.fill (c : CSt) (may : Bool) : CSt := c.mvF (c.fst_.run (c.fin_ may) rounds).1
def CSt.fillOk (c : CSt) (may : Bool) : Bool := (c.fst_.run (c.fin_ may) rounds).2
def ASt.mvX (a r : ASt) : ASt := { a with out := r.out, left := r.left, high := r.high, due := r.due, final := r.final, reject := r.reject, poll := r.poll }
def CSt.nextR (c : CSt) (may : Bool) : Frm × Bool × CSt :=
 if c.has may = false then (.none, false, c)
 else if c.c.says.k ≠ 0 then (c.c.says, true, ({ c with c := { c.c with says := Frm.none } } : CSt).want)
 else if c.c.asks.k ≠ 0 then (c.c.asks, true, ({ c with c := { c.c with asks := Frm.none } } : CSt).want)
 else
  let d := c.fill may
  ({ d.a.next.1 with d := c.c.dlci }, true, ({ d with a := d.a.mvX d.a.next.2.2 } : CSt).want)
def zJ3 (c : CSt) (may : Bool) : Bool := c.fillOk may && decide (0 ≤ (c.fill may).a.out ∧ (c.fill may).a.out ≤ 100 ∧ 0 ≤ (c.fill may).a.len ∧ 0 ≤ (c.fill may).a.off)
def zJJ (f : FSt) : List Dat := [.dI f.left, .dI f.off, .dI f.len, .dL f.L, .dI f.pn, .dI f.owe, .dI f.qf, .dS f.qt, .dI f.po, .dI f.pl, .dL f.pL]
def xJQ (r : CutR) : List Dat := [.dB r.ok, .dI r.pn, .dI r.qf, .dS r.qt, .dI r.po, .dI r.pl, .dL r.pL]
def xIb (c : CSt) : List Dat := [.dI c.a.out, .dI c.a.left, .dB c.a.wants, .dI c.a.off, .dI c.a.len, .dL c.a.L, .dI c.a.high, .dB c.a.due, .dB c.a.final, .dB c.a.reject, .dB c.a.poll, .dI c.pn, .dI c.owe, .dI c.c.qf, .dS c.c.qt, .dI c.c.po, .dI c.c.pl, .dL c.c.pL] ++ frD c.c.says ++ frD c.c.asks
def laD (a : LAct) : List Dat := [.dI a.kind, .dB a.cmd, .dB a.pf, .dI a.timer, .dI a.fact]
def zZw (p : LAct × LSt) : List Dat := laD p.1 ++ [.dI p.2.st, .dI p.2.tries]
def lsD (l : LSt) : List Dat := [.dI l.st, .dB l.listens, .dI l.tries, .dI l.most]
def xEy (c : Core) : List Dat := lsD c.l ++ [.dI c.qf, .dS c.qt, .dI c.st, .dB c.asked, .dI c.po, .dI c.pl, .dL c.pL, .dI c.left] ++ frD c.says ++ frD c.asks
def xGT (a : ASt) : List Dat := [.dI a.va, .dI a.vr, .dI a.out, .dI a.tries, .dI a.left, .dB a.pb, .dB a.rejs, .dB a.asks, .dB a.failed, .dI a.off, .dI a.len, .dI a.high, .dB a.due, .dB a.final, .dB a.reject, .dB a.poll]
def xJN (c : CSt) : List Dat := xGT c.a ++ [.dB c.within, .dI c.pn, .dI c.tn, .dS c.bh] ++ lsD c.c.l ++ [.dI c.c.qf, .dS c.c.qt, .dI c.c.st, .dI c.c.po, .dI c.c.pl, .dL c.c.pL, .dI c.c.left] ++ frD c.c.asks
def xIu (c : CSt) : List Dat := xGT c.a ++ [.dB c.a.wants, .dB c.within, .dI c.pn, .dI c.tn, .dS c.bh] ++ xEy c.c
def xHB (c : CSt) : List Dat := [.dI c.a.tries, .dI c.a.left, .dB c.a.asks, .dB c.a.wants, .dB c.a.failed, .dB c.a.poll] ++ xEy c.c
def okH (c : CSt) (f : Frm) : Prop := 0 ≤ c.a.out ∧ c.a.out ≤ 100 ∧ 0 ≤ c.a.high ∧ c.a.high ≤ c.a.len ∧ c.a.high ≤ 7 ∧ f.info.length ≤ 1000000
def okT (c : CSt) : Prop := 0 ≤ c.a.tries ∧ c.a.tries ≤ 1000 ∧ 0 ≤ c.a.left ∧ c.a.left ≤ 1000 ∧ 0 ≤ c.c.l.tries ∧ c.c.l.tries ≤ 1000
instance (c : CSt) (f : Frm) : Decidable (okH c f) := by unfold okH; infer_instance
instance (c : CSt) : Decidable (okT c) := by unfold okT; infer_instance
def xIk : Nat → List Dat → List Dat
 | 34, l => zZw (lOf l 0).open_
 | 35, l => zZw (lOf l 0).close
 | 36, l => zZw (lOf l 0).due ++ [.dB (decide (0 ≤ gI l 2 ∧ gI l 2 ≤ 1000))]
 | 37, l => zZw ((lOf l 0).hear (gI l 4) (gB l 5) (gB l 6))
 | 38, l => [.dI (zA2 (aAt l 0) (gI l 24) (gS l 25) (gI l 26)).left, .dB (zA2 (aAt l 0) (gI l 24) (gS l 25) (gI l 26)).wants]
 | 39, l => lsD ((lOf l 0).fin (gI l 7)) ++ [.dI ((gI l 4 + (gS l 5).length).tmod (gI l 6))]
 | 40, l => xEy ((zLt l).act (xIB l 30))
 | 41, l => .dI (zLt l).open_.1 :: xEy (zLt l).open_.2
 | 42, l => .dI (zLt l).close.1 :: xEy (zLt l).close.2
 | 43, l => let r := zEz (aAt l 0) (gI l 24) (gS l 25) (gI l 26) (gI l 27) (gS l 28); [.dI r.1, .dI r.2.1, .dS r.2.2.1, .dI r.2.2.2.left, .dB r.2.2.2.wants]
 | 44, l => let r := zLE (gS l 0) (gI l 1) (gI l 2) (gI l 3); [.dS r.1, .dS r.2.1, .dI r.2.2.1, .dI r.2.2.2]
 | 47, l => xJN ((cOf l).numRaw (zC7 l 68)) ++ [.dB (decide (okH (cOf l) (zC7 l 68)))]
 | 48, l => xEy ((zLt l).linked (gI l 30) (gB l 31) (gB l 32))
 | 49, l => xIu ((cOf l).hear (zC7 l 68)) ++ [.dB (decide (okH (cOf l) (zC7 l 68)))]
 | 50, l => xHB (cOf l).tick ++ [.dB (decide (okT (cOf l)))]
 | 51, l => let i : FIn := ⟨aAt l 0, gI l 25, gI l 29, gI l 30, gI l 31, gI l 32, gB l 36⟩
  let r := FSt.run i rounds ⟨gI l 6, gI l 16, gI l 17, gL l 18, gI l 24, gI l 26, gI l 27, gS l 28, gI l 33, gI l 34, gL l 35⟩; zJJ r.1 ++ [.dB r.2]
 | 52, l => let r := (cOf l).nextR (gB l 68); frD r.1 ++ [.dB r.2.1] ++ xIb r.2.2 ++ [.dB (zJ3 (cOf l) (gB l 68))]
 | 53, l => [.dB (if gI l 32 ≠ 0 then true else if gI l 33 ≠ 0 then true else if gI l 30 ≠ 3 then false else (aAt l 0).has || (zMa (gI l 17) (gI l 28) (gI l 26) (gI l 25) (gI l 29) (gI l 31) (gS l 27) (gI l 24) (gB l 34) && !gB l 7 && !gB l 10))]
 | 54, l => xJQ (zAL (gI l 0) (gI l 1) (gS l 2) (gI l 3) (gI l 4) (gI l 5) (gI l 6) (gL l 7)) ++ [.dB (decide (zJ6 (gS l 2) (gI l 0) (gI l 4)))]
 | 55, l => [.dL (zA1 (gS l 0) (gI l 1))]
 | _, _ => []
def zKi (k : Nat) (l : List Dat) : List Dat := bif Nat.blt k 32 then zEf k l else xIk k l
def xH9 : List Nat := [0, 1, 2, 3, 34, 35, 48, 49, 50, 51, 52, 53, 54, 55, 56, 57, 58, 59, 60, 61, 62, 63, 64, 65, 66, 67]
def xHi : List Nat := [4, 6, 8, 9, 10, 11, 13, 14, 16, 20, 21, 23, 24, 25, 26, 27, 15, 28, 29, 31, 38, 0, 1, 2, 3, 34, 35, 48, 49, 50, 51, 52, 53, 54, 55, 56, 57, 58, 59, 60, 61, 62, 63, 64, 65, 66, 67]
def xHe : List Nat := [9, 10, 14, 15, 16, 27, 0, 1, 2, 3, 34, 35, 48, 49, 50, 51, 52, 53, 54, 55, 56, 57, 58, 59, 60, 61, 62, 63, 64, 65, 66, 67]
def xHh : List Nat := [8, 10, 15, 20, 21, 22, 23, 24, 25, 26, 27, 29, 33, 34, 35, 50, 51, 52, 54, 55, 56, 57, 58, 59, 60, 61, 62, 63, 64, 65, 66, 67]
def chOk (waits : Int) (qt bh : List UInt8) (pn owe k room : Int) : Prop := waits ≤ k ∧ (qt.length : Int) ≤ room ∧ (bh.length : Int) ≤ room ∧ 0 ≤ pn ∧ pn ≤ room ∧ 0 ≤ owe ∧ owe + (bh.length : Int) ≤ room
instance (waits : Int) (qt bh : List UInt8) (pn owe k room : Int) : Decidable (chOk waits qt bh pn owe k room) := by unfold chOk; infer_instance
def zBE (L : List (List Dat)) (o n : Int) : List (List Dat) := (L.drop o.toNat).take n.toNat
def zHL (L : List (List Dat)) (o n n1 : Int) : Prop := 0 ≤ o ∧ 0 ≤ n ∧ o + n ≤ (L.length : Int) ∧ ∀ c ∈ zBE L o n, (gS c 6).length ≤ n1.toNat ∧ gI c 0 = 7
instance (L : List (List Dat)) (o n n1 : Int) : Decidable (zHL L o n n1) := by unfold zHL; infer_instance
def pairOk (l : List Dat) : Prop :=
 chOk (gI l 0) (gS l 1) (gS l 2) (gI l 3) (gI l 4) (gI l 22) (gI l 23) ∧ chOk (gI l 5) (gS l 6) (gS l 7) (gI l 8) (gI l 9) (gI l 22) (gI l 23) ∧ gS l 12 <+: gS l 10 ∧ gS l 13 <+: gS l 11 ∧ gB l 14 = false ∧
 zHL (gL l 17) (gI l 15) (gI l 16) (gI l 21) ∧ zHL (gL l 20) (gI l 18) (gI l 19) (gI l 21) ∧ 0 ≤ gI l 21 ∧ gI l 23 ≤ 4096 ∧ gI l 16 ≤ 100000 ∧ gI l 19 ≤ 100000
instance (l : List Dat) : Decidable (pairOk l) := by unfold pairOk; infer_instance
def xIj : Nat → List Dat → List Dat
 | 64, l => zRy zKi SCOpen 68 1 41 27 xH9 l
 | 65, l => zRy zKi SCClose 68 1 42 27 xH9 l
 | 66, l => zRy zKi SCWrite 68 2 43 5 [35, 10, 15] l
 | 67, l => zRy zKi SCRead 68 1 44 4 [38, 31, 33] l
 | 68, l => zRy zKi SCHear 68 0 49 47 xHi l
 | 69, l => zRy zKi SCTick 68 0 50 32 xHe l
 | 70, l => zRy zKi SCNext 68 8 52 40 xHh l
 | 71, l => zRy zKi SCHas 68 1 53 1 [] l
 | 80, l => [.dB (decide (pairOk l))]
 | _, _ => []
def xFT (k : Nat) (l : List Dat) : List Dat := bif Nat.blt k 64 then zKi k l else xIj k l
def fnC : Nat → Dat → Dat := zCV xFT
theorem xDE {k : Nat} {d : Dat} (h : k < 2048) : zCV zEf k d = fnC k d := by
 unfold fnC zCV xFT zKi;rw [show Nat.blt (k / 64) 64 = true by rw [Nat.blt_eq]; omega, cond_true, show Nat.blt (k / 64) 32 = true by rw [Nat.blt_eq]; omega, cond_true]
end
end Go.Proofs.YtenkabjkgngcdaaGreat.Ab
