/-
  An evaluator of the translated code over plain values: objects by numbers of their own, what may be one thing or another is hidden or refused.
  No condition: definitions.
-/
import Derived.Calls
import Derived.Orders
import Derived.Defers
namespace Go.Proofs.Ytamibbjpapkfeaa.Ab
set_option linter.unusedSimpArgs false
set_option linter.unusedVariables false
open Go
noncomputable section

/-- What a letter may stand for. -/
inductive Dat where
  | dB (b : Bool)
  | dI (n : Int)
  | dS (s : List UInt8)
  | dL (l : List (List Dat))
  | dP (a b : Dat)
  deriving Inhabited
def Dat.asB : Dat → Bool
  | .dB x => x
  | _ => false
def Dat.asI : Dat → Int
  | .dI n => n
  | _ => 0
def Dat.asS : Dat → List UInt8
  | .dS x => x
  | _ => []
def Dat.asL : Dat → List (List Dat)
  | .dL x => x
  | _ => []
/-- What the letters stand for. -/
class Rho where
  val : Nat → Dat
  fn : Nat → Dat → Dat
/-- A term: letters, and what is reckoned from them. -/
inductive Tm where
  | var (n : Nat)
  | cb (b : Bool)
  | ci (n : Int)
  | cs (s : List UInt8)
  | ib (op : BinOp) (k : IntKind) (x y : Tm)
  | sb (op : BinOp) (x y : Tm)
  | beq (x y : Tm)
  | not (x : Tm)
  | and (x y : Tm)
  | wrap (k : IntKind) (x : Tm)
  | ite (c x y : Tm)
  | len (x : Tm)
  | oct (x : Tm)
  | at (x i : Tm)
  | cut (x lo hi : Tm)
  | llen (l : Tm)
  | lget (l i : Tm) (j : Nat)
  | plus (x y : Tm)
  | minus (x y : Tm)
  | pair (x y : Tm)
  | app (f : Nat) (x : Tm)
  | lapp (x y : Tm)
  | row (x : Tm)
  | lput (l i r : Tm)
  deriving Inhabited
def bitsA (op : BinOp) (k : IntKind) (x y : Int) : Option Int :=
  let a := BitVec.ofInt k.bits x
  let b := BitVec.ofInt k.bits y
  match op with
  | .and => some (k.wrap (a &&& b).toNat)
  | .or => some (k.wrap (a ||| b).toNat)
  | .xor => some (k.wrap (a ^^^ b).toNat)
  | .andNot => some (k.wrap (a &&& ~~~b).toNat)
  | _ => none
def iop (op : BinOp) (k : IntKind) (x y : Int) : Dat := match op with
  | .add => .dI (k.wrap (x + y))
  | .sub => .dI (k.wrap (x - y))
  | .mul => .dI (k.wrap (x * y))
  | .quo => .dI (k.wrap (x.tdiv y))
  | .rem => .dI (x.tmod y)
  | .shl => .dI (k.wrap (x * 2 ^ (min y.toNat k.bits)))
  | .shr => .dI (x.fdiv (2 ^ (min y.toNat k.bits)))
  | .eql => .dB (x == y)
  | .neq => .dB (x != y)
  | .lss => .dB (decide (x < y))
  | .leq => .dB (decide (x ≤ y))
  | .gtr => .dB (decide (x > y))
  | .geq => .dB (decide (x ≥ y))
  | op => .dI ((bitsA op k x y).getD 0)
def sop (op : BinOp) (x y : List UInt8) : Dat := match op with
  | .add => .dS (x ++ y)
  | .eql => .dB (x == y)
  | .neq => .dB (!(x == y))
  | .lss => .dB (Op.bytesLess x y)
  | .leq => .dB (Op.bytesLess x y || x == y)
  | .gtr => .dB (!(Op.bytesLess x y || x == y))
  | .geq => .dB (!(Op.bytesLess x y))
  | _ => .dI 0
def octAt (s : List UInt8) (n : Nat) : Int := ((s.getD n 0).toNat : Int)
def cutS (s : List UInt8) (lo hi : Int) : List UInt8 := (s.drop lo.toNat).take (hi.toNat - lo.toNat)
/-- A chain of pairs as a list. -/
def cellsD : Dat → List Dat
  | .dP a b => a :: cellsD b
  | _ => []
def Tm.den [ρ : Rho] : Tm → Dat
  | .var n => ρ.val n
  | .cb b => .dB b
  | .ci n => .dI n
  | .cs s => .dS s
  | .ib op k x y => iop op k x.den.asI y.den.asI
  | .sb op x y => sop op x.den.asS y.den.asS
  | .beq x y => .dB (x.den.asB == y.den.asB)
  | .not x => .dB (!x.den.asB)
  | .and x y => .dB (x.den.asB && y.den.asB)
  | .wrap k x => .dI (k.wrap x.den.asI)
  | .ite c x y => bif c.den.asB then x.den else y.den
  | .len x => .dI (x.den.asS.length : Int)
  | .oct x => .dS [UInt8.ofNat x.den.asI.toNat]
  | .at x i => .dI (octAt x.den.asS i.den.asI.toNat)
  | .cut x lo hi => .dS (cutS x.den.asS lo.den.asI hi.den.asI)
  | .llen l => .dI (l.den.asL.length : Int)
  | .lget l i j => ((l.den.asL.getD i.den.asI.toNat []).getD j (.dI 0))
  | .plus x y => .dI (x.den.asI + y.den.asI)
  | .minus x y => .dI (x.den.asI - y.den.asI)
  | .pair x y => .dP x.den y.den
  | .app f x => ρ.fn f x.den
  | .lapp x y => .dL (x.den.asL ++ y.den.asL)
  | .row x => .dL [cellsD x.den]
  | .lput l i r => .dL (l.den.asL.set i.den.asI.toNat (cellsD r.den))
def eqL : List UInt8 → List UInt8 → Bool
  | [], [] => true
  | a :: l, b :: m => Nat.beq a.toNat b.toNat && eqL l m
  | _, _ => false
def eqZ : Int → Int → Bool
  | .ofNat a, .ofNat b => Nat.beq a b
  | .negSucc a, .negSucc b => Nat.beq a b
  | _, _ => false
def eqK (a b : IntKind) : Bool := Nat.beq a.ctorIdx b.ctorIdx
def eqO (a b : BinOp) : Bool := Nat.beq a.ctorIdx b.ctorIdx
/-- Are two terms spelt alike? -/
def Tm.eqv : Tm → Tm → Bool
  | .var a, .var b => Nat.beq a b
  | .cb a, .cb b => a == b
  | .ci a, .ci b => eqZ a b
  | .cs a, .cs b => eqL a b
  | .ib o k x y, .ib o' k' x' y' => eqO o o' && eqK k k' && x.eqv x' && y.eqv y'
  | .sb o x y, .sb o' x' y' => eqO o o' && x.eqv x' && y.eqv y'
  | .beq x y, .beq x' y' => x.eqv x' && y.eqv y'
  | .not x, .not x' => x.eqv x'
  | .and x y, .and x' y' => x.eqv x' && y.eqv y'
  | .wrap k x, .wrap k' x' => eqK k k' && x.eqv x'
  | .ite c x y, .ite c' x' y' => c.eqv c' && x.eqv x' && y.eqv y'
  | .len x, .len x' => x.eqv x'
  | .oct x, .oct x' => x.eqv x'
  | .at x y, .at x' y' => x.eqv x' && y.eqv y'
  | .cut x y z, .cut x' y' z' => x.eqv x' && y.eqv y' && z.eqv z'
  | .llen x, .llen x' => x.eqv x'
  | .lget x y j, .lget x' y' j' => x.eqv x' && y.eqv y' && Nat.beq j j'
  | .plus x y, .plus x' y' => x.eqv x' && y.eqv y'
  | .minus x y, .minus x' y' => x.eqv x' && y.eqv y'
  | .pair x y, .pair x' y' => x.eqv x' && y.eqv y'
  | .app f x, .app f' x' => Nat.beq f f' && x.eqv x'
  | .lapp x y, .lapp x' y' => x.eqv x' && y.eqv y'
  | .row x, .row x' => x.eqv x'
  | .lput x y z, .lput x' y' z' => x.eqv x' && y.eqv y' && z.eqv z'
  | _, _ => false
/-- Terms, with what is plain reckoned out. -/
def notT : Tm → Tm
  | .cb b => .cb (!b)
  | .not x => x
  | .ib .eql k x y => .ib .neq k x y
  | .ib .neq k x y => .ib .eql k x y
  | .ib .lss k x y => .ib .geq k x y
  | .ib .geq k x y => .ib .lss k x y
  | .ib .leq k x y => .ib .gtr k x y
  | .ib .gtr k x y => .ib .leq k x y
  | x => .not x
def beqT (x y : Tm) : Tm := match x, y with
  | .cb true, y => y
  | .cb false, y => notT y
  | x, .cb true => x
  | x, .cb false => notT x
  | x, y => bif x.eqv y then .cb true else .beq x y
def andT : Tm → Tm → Tm
  | .cb true, x => x
  | .cb false, _ => .cb false
  | x, .cb true => x
  | _, .cb false => .cb false
  | x, y => .and x y
def iopT (op : BinOp) (k : IntKind) (x y : Tm) : Tm := match x, y with
  | .ci a, .ci b => match iop op k a b with
    | .dI n => .ci n
    | .dB b => .cb b
    | _ => .ib op k x y
  | .ci a, y => match op with
    | .eql => .ib .eql k y (.ci a)
    | .neq => .ib .neq k y (.ci a)
    | op => .ib op k (.ci a) y
  | x, y => bif x.eqv y then match op with
      | .eql | .leq | .geq => .cb true
      | .neq | .lss | .gtr => .cb false
      | _ => .ib op k x y
    else .ib op k x y
def sopT (op : BinOp) (x y : Tm) : Tm := match x, y with
  | .cs a, .cs b => match sop op a b with
    | .dS n => .cs n
    | .dB b => .cb b
    | _ => .sb op x y
  | .cs a, y => match op with
    | .eql => .sb .eql y (.cs a)
    | .neq => .sb .neq y (.cs a)
    | op => .sb op (.cs a) y
  | x, y => bif x.eqv y then match op with
      | .eql => .cb true
      | .neq => .cb false
      | _ => .sb op x y
    else .sb op x y
def wrapT (k : IntKind) (x : Tm) : Tm := match x with
  | .ci n => .ci (k.wrap n)
  | x => .wrap k x
def iteT (c x y : Tm) : Tm := match c with
  | .cb true => x
  | .cb false => y
  | c => .ite c x y
def lenT (x : Tm) : Tm := match x with
  | .cs s => .ci (s.length : Int)
  | x => .len x

/-- A slice's capacity: told where the text made it; else not (k: the cells of an element). -/
inductive Cap where
  | known (c : Nat)
  | unk (k : Nat)
/-- A value. A pointer or slice names an object by number and cell. sbool, sint, sstr: terms. eptr: cell j of element i of a row of elements of k cells; sslice: a part of such a row. -/
inductive AV where
  | bool (b : Bool)
  | int (k : IntKind) (n : Int)
  | str (s : List UInt8)
  | ptr (id off : Nat)
  | nilPtr
  | slice (id off len : Nat) (cap : Cap)
  | nilSlice
  | map (id : Nat)
  | nilMap
  | func (fn : Fn) (first captured : List AV)
  | nilFunc
  | iface (t : TypeId) (v : AV)
  | nilIface
  | agg (cells : List AV)
  | tuple (vs : List AV)
  | sbool (b : Tm)
  | sint (k : IntKind) (n : Tm)
  | sstr (s : Tm)
  | eptr (id k : Nat) (i : Tm) (j : Nat)
  | sslice (id k : Nat) (off len : Tm)
  deriving Inhabited
/-- The kind of a cell of a row whose cells are not told one by one. -/
inductive Kd where
  | kb
  | ki (k : IntKind)
  | ks
def symCell (l i : Tm) : Kd → Nat → AV
  | .kb, j => .sbool (.lget l i j)
  | .ki k, j => .sint k (.lget l i j)
  | .ks, j => .sstr (.lget l i j)
def symCells (l i : Tm) : List Kd → Nat → List AV
  | [], _ => []
  | k :: r, j => symCell l i k j :: symCells l i r (j + 1)

/-- An object. bytes, seq: rows whose cells are not looked into (seq: elements of cells of kinds sh). row: cells; own: may it be written; leaf: it leads to no other object (a hint alone). -/
inductive AObj where
  | row (vs : List AV) (own leaf : Bool)
  | map (es : List (AV × AV))
  | bytes (l : Tm) (own : Bool)
  | seq (sh : List Kd) (l : Tm) (own : Bool)
  deriving Inhabited

/-- next: the next object's number; log: what was written; pc: what has been asked, and the answers. -/
structure Heap where
  next : Nat
  objs : List (Nat × AObj)
  log : List Nat
  pc : List (Tm × Bool)

def look (l : List (Nat × AObj)) (id : Nat) : Option AObj := @List.rec (Nat × AObj) (fun _ => Option AObj) none (fun p _ r => @Bool.rec (fun _ => Option AObj) r (some p.2) (Nat.beq p.1 id)) l
def repl : List (Nat × AObj) → Nat → AObj → List (Nat × AObj)
  | [], _, _ => []
  | p :: l, id, o => bif Nat.beq p.1 id then (p.1, o) :: l else p :: repl l id o
def drp : List (Nat × AObj) → Nat → List (Nat × AObj)
  | [], _ => []
  | p :: l, id => bif Nat.beq p.1 id then drp l id else p :: drp l id
def Heap.get (H : Heap) (id : Nat) : Option AObj := look H.objs id
def Heap.upd (H : Heap) (id : Nat) (o : AObj) : Heap := ⟨H.next, repl H.objs id o, id :: H.log, H.pc⟩
def Heap.new (H : Heap) (o : AObj) : Heap := ⟨H.next + 1, (H.next, o) :: H.objs, H.log, H.pc⟩
def Heap.kill (H : Heap) (id : Nat) : Heap := ⟨H.next, drp H.objs id, id :: H.log, H.pc⟩
def Heap.wpc (H : Heap) (pc : List (Tm × Bool)) : Heap := ⟨H.next, H.objs, H.log, pc⟩
def Heap.ask (H : Heap) (c : Tm) (b : Bool) : Heap := ⟨H.next, H.objs, H.log, (c, b) :: H.pc⟩

abbrev undefA : AV := .tuple []

def AV.cells : AV → List AV
  | .agg cs => cs
  | v => [v]
def isCell : AV → Bool
  | .agg _ | .tuple _ => false
  | _ => true
mutual
def flat : AV → Bool
  | .ptr .. | .slice .. | .map _ | .eptr .. | .sslice .. => false
  | .func _ a b => flats a && flats b
  | .iface _ v => flat v
  | .agg l | .tuple l => flats l
  | _ => true
def flats : List AV → Bool
  | [] => true
  | v :: l => flat v && flats l
end
mutual
def refs : AV → List Nat
  | .ptr id _ | .slice id _ _ _ | .map id | .eptr id _ _ _ | .sslice id _ _ _ => [id]
  | .func _ a b => refsL a ++ refsL b
  | .iface _ v => refs v
  | .agg l | .tuple l => refsL l
  | _ => []
def refsL : List AV → List Nat
  | [] => []
  | v :: l => refs v ++ refsL l
end

/-- A value's bool, number, text, as a term; and is it one that is not told? -/
def tmB : AV → Option Tm
  | .bool b => some (.cb b)
  | .sbool t => some t
  | _ => none
def tmI : AV → Option (IntKind × Tm)
  | .int k n => some (k, .ci n)
  | .sint k t => some (k, t)
  | _ => none
def tmS : AV → Option Tm
  | .str s => some (.cs s)
  | .sstr t => some t
  | _ => none
def mkB : Tm → AV
  | .cb b => .bool b
  | t => .sbool t
def mkI (k : IntKind) : Tm → AV
  | .ci n => .int k n
  | t => .sint k t
def mkS : Tm → AV
  | .cs s => .str s
  | t => .sstr t
def isSym : AV → Bool
  | .sbool _ | .sint _ _ | .sstr _ => true
  | _ => false

def ofV0 : Value → Option AV
  | .bool b => some (.bool b)
  | .int k n => some (.int k n)
  | .string s => some (.str s.data.toList)
  | .pointer none => some .nilPtr
  | .slice none 0 0 => some .nilSlice
  | .map none => some .nilMap
  | .nilFunc => some .nilFunc
  | .nilIface => some .nilIface
  | _ => none
def ofVs : List Value → Option (List AV)
  | [] => some []
  | v :: l => match ofV0 v, ofVs l with
    | some x, some y => some (x :: y)
    | _, _ => none
def ofV : Value → Option AV
  | .agg cs => (ofVs cs.toList).map .agg
  | .tuple cs => (ofVs cs.toList).map .tuple
  | .func fn a b => if a.size = 0 && b.size = 0 then some (.func fn [] []) else none
  | v => ofV0 v

def takeN : List AV → Nat → Option (List AV)
  | _, 0 => some []
  | [], _ + 1 => none
  | v :: vs, n + 1 => match takeN vs n with
    | some l => some (v :: l)
    | none => none
def over : List AV → List AV → Option (List AV)
  | vs, [] => some vs
  | [], _ :: _ => none
  | _ :: vs, n :: ns => match over vs ns with
    | some l => some (n :: l)
    | none => none
def putAt : List AV → Nat → List AV → Option (List AV)
  | vs, 0, new => over vs new
  | [], _ + 1, _ => none
  | v :: vs, off + 1, new => match putAt vs off new with
    | some l => some (v :: l)
    | none => none
def cellsAt (vs : List AV) (off n : Nat) : Option (List AV) := takeN (vs.drop off) n

section
variable (P : Program)
def szOf (t : TypeId) : Option Nat := match P.info? t with
  | some i => some i.size
  | none => none
def zeroA (t : TypeId) : Option AV := match P.info? t with
  | some i => match i.zero with
    | some v => ofV v
    | none => none
  | none => none
def aggT (t : TypeId) : Option Bool := match P.underlying t with
  | some (.struct _) | some (.array _ _) => some true
  | some _ => some false
  | none => none
def partA (t : TypeId) (cs : List AV) (off : Nat) : Option AV :=
  match aggT P t with
  | some true => match szOf P t with
    | some n => match cellsAt cs off n with
      | some l => some (.agg l)
      | none => none
    | none => none
  | some false => cs[off]?
  | none => none

mutual
/-- Are two values of a type the same? -/
def eqA : Nat → TypeId → AV → AV → Option Tm
  | 0, _, _, _ => none
  | d + 1, t, x, y =>
    match P.underlying t, x, y with
    | some .bool, .bool a, .bool b => some (.cb (a == b))
    | some (.int _), .int k a, .int k' b => if k = k' then some (.cb (a == b)) else none
    | some .string, .str a, .str b => some (.cb (a == b))
    | some .bool, x, y => match tmB x, tmB y with
      | some a, some b => some (beqT a b)
      | _, _ => none
    | some (.int _), x, y => match tmI x, tmI y with
      | some (k, a), some (k', b) => if k = k' then some (iopT .eql k a b) else none
      | _, _ => none
    | some .string, x, y => match tmS x, tmS y with
      | some a, some b => some (sopT .eql a b)
      | _, _ => none
    | some (.pointer _), .nilPtr, .nilPtr => some (.cb true)
    | some (.pointer _), .nilPtr, .ptr _ _ => some (.cb false)
    | some (.pointer _), .ptr _ _, .nilPtr => some (.cb false)
    | some (.pointer e), .ptr i a, .ptr j b => match szOf P e with
      | some 0 => none
      | some _ => if i = j then some (.cb (a == b)) else none
      | none => none
    | some (.interface _), .nilIface, .nilIface => some (.cb true)
    | some (.interface _), .nilIface, .iface _ _ => some (.cb false)
    | some (.interface _), .iface _ _, .nilIface => some (.cb false)
    | some (.struct fs), .agg xs, .agg ys => if P.stoodInHeld t then none else eqFs d fs.toList xs ys
    | some (.array len e), .agg xs, .agg ys => match szOf P e with
      | some n => eqEs d e n len 0 xs ys
      | none => none
    | some (.slice _), .nilSlice, .nilSlice => some (.cb true)
    | some (.slice _), .nilSlice, .slice .. => some (.cb false)
    | some (.slice _), .slice .., .nilSlice => some (.cb false)
    | some (.map _ _), .nilMap, .nilMap => some (.cb true)
    | some (.map _ _), .nilMap, .map _ => some (.cb false)
    | some (.map _ _), .map _, .nilMap => some (.cb false)
    | some (.func _ _ _), .nilFunc, .nilFunc => some (.cb true)
    | some (.func _ _ _), .nilFunc, .func .. => some (.cb false)
    | some (.func _ _ _), .func .., .nilFunc => some (.cb false)
    | _, _, _ => none
def eqFs : Nat → List Field → List AV → List AV → Option Tm
  | _, [], _, _ => some (.cb true)
  | 0, _ :: _, _, _ => none
  | d + 1, f :: fs, xs, ys =>
    if f.name ≠ "_" then
      match partA P f.type xs f.offset, partA P f.type ys f.offset with
      | some a, some b => match eqA d f.type a b, eqFs d fs xs ys with
        | some p, some q => some (andT p q)
        | _, _ => none
      | _, _ => none
    else eqFs d fs xs ys
def eqEs : Nat → TypeId → Nat → Nat → Nat → List AV → List AV → Option Tm
  | _, _, _, 0, _, _, _ => some (.cb true)
  | 0, _, _, _ + 1, _, _, _ => none
  | d + 1, e, n, len + 1, i, xs, ys =>
    match partA P e xs (i * n), partA P e ys (i * n) with
    | some a, some b => match eqA d e a b, eqEs d e n len (i + 1) xs ys with
      | some p, some q => some (andT p q)
      | _, _ => none
    | _, _ => none
end

def wrapA (k : IntKind) (n : Int) : AV := .int k (k.wrap n)
def intA (op : BinOp) (k : IntKind) (x y : Int) : Option AV :=
  match op with
  | .add => some (.int k (k.wrap (x + y)))
  | .sub => some (.int k (k.wrap (x - y)))
  | .mul => some (.int k (k.wrap (x * y)))
  | .quo => if y = 0 then none else some (.int k (k.wrap (x.tdiv y)))
  | .rem => if y = 0 then none else some (.int k (x.tmod y))
  | .and | .or | .xor | .andNot => match bitsA op k x y with
    | some n => some (.int k n)
    | none => none
  | .eql => some (.bool (x == y))
  | .neq => some (.bool (x != y))
  | .lss => some (.bool (decide (x < y)))
  | .leq => some (.bool (decide (x ≤ y)))
  | .gtr => some (.bool (decide (x > y)))
  | .geq => some (.bool (decide (x ≥ y)))
  | _ => none
def strA (op : BinOp) (x y : List UInt8) : Option AV :=
  match op with
  | .add => if x.length + y.length ≤ 9223372036854775807 then some (.str (x ++ y)) else none
  | .eql => some (.bool (x == y))
  | .neq => some (.bool (!(x == y)))
  | .lss => some (.bool (Op.bytesLess x y))
  | .leq => some (.bool (Op.bytesLess x y || x == y))
  | .gtr => some (.bool (!(Op.bytesLess x y || x == y)))
  | .geq => some (.bool (!(Op.bytesLess x y)))
  | _ => none
def eqDepth : Nat := 500
def isConstOp : Operand → Bool
  | .const _ => true
  | _ => false
/-- May two operands be compared by the model at all? -/
def guardA (t : TypeId) (cst : Bool) : AV → AV → Bool
  | .nilIface, .nilIface => cst
  | .agg _, .agg _ => !P.eqGuardType P.depth t
  | _, _ => true
def shlA (x y : AV) : Option AV := match x, y with
  | .int k a, .int _ b => if b < 0 then none else some (.int k (k.wrap (a * 2 ^ (min b.toNat k.bits))))
  | .sint k a, .int _ b => if b < 0 then none else some (.sint k (.ib .shl k a (.ci b)))
  | _, _ => none
def shrA (x y : AV) : Option AV := match x, y with
  | .int k a, .int _ b => if b < 0 then none else some (.int k (a.fdiv (2 ^ (min b.toNat k.bits))))
  | .sint k a, .int _ b => if b < 0 then none else some (.sint k (.ib .shr k a (.ci b)))
  | _, _ => none
def eqlA (t : TypeId) (cst neg : Bool) (x y : AV) : Option AV :=
  bif guardA P t cst x y then match eqA P eqDepth t x y with
    | some b => some (mkB (bif neg then notT b else b))
    | none => none else none
def compA (op : BinOp) (t : TypeId) (cst : Bool) (x y : AV) : Option AV := match op with
  | .eql => eqlA P t cst false x y
  | .neq => eqlA P t cst true x y
  | _ => none
/-- What an operator leaves: a number, or a bool. -/
def isComp : BinOp → Bool
  | .eql | .neq | .lss | .leq | .gtr | .geq => true
  | _ => false
def isPlain : BinOp → Bool
  | .add | .sub | .mul | .and | .or | .xor | .andNot => true
  | _ => false
def symI (op : BinOp) (k : IntKind) (a b : Tm) : Option AV :=
  bif isComp op then some (mkB (iopT op k a b)) else bif isPlain op then some (mkI k (iopT op k a b)) else match op, b with
    | .quo, .ci n | .rem, .ci n => if n = 0 then none else some (mkI k (iopT op k a b))
    | _, _ => none
def symS (op : BinOp) (a b : Tm) : Option AV := bif isComp op then some (mkB (sopT op a b)) else none
def opsA (op : BinOp) (t : TypeId) (cst : Bool) (x y : AV) : Option AV := match x, y with
  | .int k a, .int k' b => if k = k' then intA op k a b else none
  | .str a, .str b => strA op a b
  | x, y => match tmI x, tmI y with
    | some (k, a), some (k', b) => if k = k' then symI op k a b else none
    | _, _ => match tmS x, tmS y with
      | some a, some b => symS op a b
      | _, _ => compA P op t cst x y
def binA (op : BinOp) (t : TypeId) (cst : Bool) (x y : AV) : Option AV :=
  match op with
  | .shl => shlA x y
  | .shr => shrA x y
  | op => opsA P op t cst x y
/-- An operation whose answer hangs on a condition that is not told. -/
def owedA (op : BinOp) (x y : AV) : Option (Tm × AV) := match op with
  | .add => bif isSym x || isSym y then match tmS x, tmS y with
      | some a, some b => some (iopT .leq .i64 (.plus (lenT a) (lenT b)) (.ci 9223372036854775807), .sstr (.sb .add a b))
      | _, _ => none
    else none
  | .quo => match tmI x, y with
    | some (k, a), .sint k' b => if k = k' then some (iopT .neq k b (.ci 0), .sint k (.ib .quo k a b)) else none
    | _, _ => none
  | .rem => match tmI x, y with
    | some (k, a), .sint k' b => if k = k' then some (iopT .neq k b (.ci 0), .sint k (.ib .rem k a b)) else none
    | _, _ => none
  | .shl => match tmI x, y with
    | some (k, a), .sint k' b => some (iopT .leq k' (.ci 0) b, .sint k (.ib .shl k a b))
    | _, _ => none
  | .shr => match tmI x, y with
    | some (k, a), .sint k' b => some (iopT .leq k' (.ci 0) b, .sint k (.ib .shr k a b))
    | _, _ => none
  | _ => none
def unA (op : UnOp) (x : AV) : Option AV :=
  match op, x with
  | .neg, .int k n => some (.int k (k.wrap (0 - n)))
  | .neg, .sint k t => some (.sint k (.ib .sub k (.ci 0) t))
  | .xor, .int k n => match bitsA .xor k (if k.signed then -1 else k.max) n with
    | some m => some (.int k m)
    | none => none
  | .xor, .sint k t => some (.sint k (.ib .xor k (.ci (if k.signed then -1 else k.max)) t))
  | .not, .bool b => some (.bool (!b))
  | .not, .sbool t => some (mkB (notT t))
  | _, _ => none

/-- The octets of a row of cells. -/
def octs : List AV → Option (List UInt8)
  | [] => some []
  | .int .u8 n :: l => match octs l with
    | some r => some (UInt8.ofNat n.toNat :: r)
    | none => none
  | _ => none
/-- The octets of a row of cells, as a term. -/
def octsT : List AV → Option Tm
  | [] => some (.cs [])
  | .int .u8 n :: l => match octsT l with
    | some r => some (sopT .add (.cs [UInt8.ofNat n.toNat]) r)
    | none => none
  | .sint .u8 t :: l => match octsT l with
    | some r => some (sopT .add (.oct t) r)
    | none => none
  | _ => none
def ofOcts (s : List UInt8) : List AV := s.map fun b => .int .u8 (b.toNat : Int)

def convA (src dst : TypeId) (x : AV) (H : Heap) : Option (AV × Heap) :=
  match P.underlying src, P.underlying dst, x with
  | some _, some (.int k), .int _ n => some (.int k (k.wrap n), H)
  | some _, some (.int k), .sint _ t => some (mkI k (wrapT k t), H)
  | some (.slice e), some .string, .nilSlice => match P.underlying e with
      | some (.int .u8) => some (.str [], H)
      | _ => none
  | some (.slice e), some .string, .slice id off len _ => match P.underlying e with
      | some (.int .u8) => match H.get id with
        | some (.row vs _ _) => match cellsAt vs off len with
          | some l => match octs l with
            | some s => some (.str s, H)
            | none => match octsT l with
              | some t => some (mkS t, H)
              | none => none
          | none => none
        | _ => none
      | _ => none
  | some (.slice e), some .string, .sslice id k off len => match P.underlying e with
      | some (.int .u8) => match H.get id with
        | some (.bytes l _) => match Nat.beq k 1 with
          | true => some (.sstr (.cut l off (.plus off len)), H)
          | false => none
        | _ => none
      | _ => none
  | some (.slice _), some .string, _ => none
  | some _, some .string, .str s => some (.str s, H)
  | some _, some .string, .sstr t => some (.sstr t, H)
  | some _, some (.slice e), .str s => match P.underlying e with
      | some (.int .u8) => some (.slice H.next 0 s.length (.unk 1), H.new (.row (ofOcts s) true true))
      | _ => none
  | some _, some (.slice e), .sstr t => match P.underlying e with
      | some (.int .u8) => some (.sslice H.next 1 (.ci 0) (lenT t), H.new (.bytes t true))
      | _ => none
  | _, _, _ => none

def fillA (place : Nat → Option (Nat × Nat)) (cells : List AV) : List (Nat × AV) → Option (List AV)
  | [] => some cells
  | (i, v) :: rest => match place i with
    | none => none
    | some (off, size) => if v.cells.length ≠ size then none else match putAt cells off v.cells with
      | some c => fillA place c rest
      | none => none
def placesA : List Field → Option (List (Nat × Nat))
  | [] => some []
  | f :: fs => match szOf P f.type, placesA fs with
    | some n, some l => some ((f.offset, n) :: l)
    | _, _ => none
def zeroCellsA (t : TypeId) : Option (List AV) := match zeroA P t with
  | some v => some v.cells
  | none => none
def repN : Nat → List AV → List AV
  | 0, _ => []
  | n + 1, l => l ++ repN n l
def buildA (t : TypeId) (parts : List (Nat × AV)) : Option AV :=
  match zeroCellsA P t with
  | none => none
  | some zero => match P.underlying t with
    | some (.struct fs) => match placesA P fs.toList with
      | some pl => match fillA (fun i => pl[i]?) zero parts with
        | some c => some (.agg c)
        | none => none
      | none => none
    | some (.array _ e) => match szOf P e with
      | some n => match fillA (fun i => some (i * n, n)) zero parts with
        | some c => some (.agg c)
        | none => none
      | none => none
    | _ => none
/-- The cells of n elements, all zero. -/
def zerosA (e : TypeId) (n : Nat) : Option (List AV) := match zeroCellsA P e, szOf P e with
  | some z, some k => if z.length = k ∧ 0 < k then some (repN n z) else none
  | _, _ => none
def allCells (l : List AV) : Bool := l.all isCell
def buildSliceA (t : TypeId) (len : Nat) (parts : List (Nat × AV)) (H : Heap) : Option (AV × Heap) :=
  match P.underlying t with
  | some (.slice e) => match szOf P e, zerosA P e len with
    | some k, some z => if len * k ≤ 65536 then match fillA (fun i => some (i * k, k)) z parts with
      | some c => if allCells c then some (.slice H.next 0 len (.known len), H.new (.row c true (flats c))) else none
      | none => none else none
    | _, _ => none
  | _ => none
def boxA (v : AV) (H : Heap) : Option (AV × Heap) :=
  if allCells v.cells then some (.ptr H.next 0, H.new (.row v.cells true (flats v.cells))) else none
def allocA (elem : TypeId) (H : Heap) : Option (AV × Heap) := match zeroA P elem with
  | some v => boxA v H
  | none => none
def partS (t : TypeId) (cs : List AV) (j : Nat) : Option AV := match aggT P t with
  | some true => match szOf P t with
    | some n => match cellsAt cs j n with
      | some l => some (.agg l)
      | none => none
    | none => none
  | some false => cs[j]?
  | none => none
def loadA (t : TypeId) (a : AV) (H : Heap) : Option AV :=
  match a with
  | .eptr id k i j => match H.get id with
    | some (.bytes l _) => match k, j with
      | 1, 0 => partS P t [.sint .u8 (.at l i)] 0
      | _, _ => none
    | some (.seq sh l _) => bif Nat.beq sh.length k then partS P t (symCells l i sh 0) j else none
    | _ => none
  | .ptr id off => match H.get id with
    | some (.row vs _ _) => match aggT P t with
      | some true => match szOf P t with
        | some n => match cellsAt vs off n with
          | some l => some (.agg l)
          | none => none
        | none => none
      | some false => vs[off]?
      | none => none
    | _ => none
  | _ => none
def storeA (t : TypeId) (a v : AV) (H : Heap) : Option Heap :=
  match a with
  | .ptr id off => match H.get id, szOf P t with
    | some (.row vs true lf), some n => if v.cells.length = n ∧ allCells v.cells = true then match putAt vs off v.cells with
      | some c => some (H.upd id (.row c true (lf && flats v.cells)))
      | none => none else none
    | _, _ => none
  | _ => none
def fieldAddrA (s : TypeId) (a : AV) (f : Nat) : Option AV :=
  match P.underlying s, a with
  | some (.struct fs), .ptr id off => match fs[f]? with
    | some fd => match szOf P fd.type with
      | some (_ + 1) => some (.ptr id (off + fd.offset))
      | _ => none
    | none => none
  | some (.struct fs), .eptr id k i j => match fs[f]? with
    | some fd => match szOf P fd.type with
      | some (_ + 1) => some (.eptr id k i (j + fd.offset))
      | _ => none
    | none => none
  | _, _ => none
def fieldA (t : TypeId) (x : AV) (f : Nat) : Option AV :=
  match P.underlying t, x with
  | some (.struct fs), .agg cs => match fs[f]? with
    | some fd => partA P fd.type cs fd.offset
    | none => none
  | _, _ => none
def indexAddrA (t : TypeId) (x i : AV) : Option AV :=
  match i with
  | .int _ i => match P.underlying t, x with
    | some (.array len e), .ptr id off => match szOf P e with
      | some k => if 0 ≤ i ∧ i < len then some (.ptr id (off + i.toNat * k)) else none
      | none => none
    | some (.slice e), .slice id off len _ => match szOf P e with
      | some k => if 0 ≤ i ∧ i < len then some (.ptr id (off + i.toNat * k)) else none
      | none => none
    | _, _ => none
  | _ => none
def indexA (t : TypeId) (x i : AV) : Option AV :=
  match i with
  | .int _ i => match P.underlying t, x with
    | some (.array len e), .agg cs => match szOf P e with
      | some k => if 0 ≤ i ∧ i < len then partA P e cs (i.toNat * k) else none
      | none => none
    | some .string, .str s => if 0 ≤ i then match s[i.toNat]? with
      | some b => some (.int .u8 (b.toNat : Int))
      | none => none else none
    | _, _ => none
  | _ => none
/-- 0 ≤ n < m. -/
def insideT (n m : Tm) : Tm := andT (iopT .leq .i64 (.ci 0) n) (iopT .lss .i64 n m)
/-- An index into a text, a row: what must hold, where it is not told. -/
def indexM (t : TypeId) (x i : AV) : Option (Tm × AV) := bif isSym x || isSym i then match tmI i, P.underlying t, tmS x with
  | some (_, n), some .string, some s => some (insideT n (lenT s), .sint .u8 (.at s n))
  | _, _, _ => none
  else none
def places (f : Nat → AV) (n : Tm) : Nat → List (Tm × AV) → List (Tm × AV)
  | 0, l => l
  | m + 1, l => places f n m ((iopT .eql .i64 n (.ci (m : Int)), f m) :: l)
def plusT (a b : Tm) : Tm := match a, b with
  | .ci (.ofNat 0), b => b
  | a, .ci (.ofNat 0) => a
  | .ci a, .ci b => .ci (a + b)
  | a, b => .plus a b
def indexAddrM (t : TypeId) (x i : AV) : Option (List (Tm × AV)) := match x with
  | .ptr id off => match i, P.underlying t with
    | .sint _ n, some (.array len e) => match szOf P e with
      | some k => some (places (fun j => .ptr id (off + j * k)) n len [])
      | none => none
    | _, _ => none
  | .slice id off len _ => match i, P.underlying t with
    | .sint _ n, some (.slice e) => match szOf P e with
      | some k => some (places (fun j => .ptr id (off + j * k)) n len [])
      | none => none
    | _, _ => none
  | .sslice id k off len => match tmI i, P.underlying t with
    | some (_, n), some (.slice e) => if szOf P e = some k then some [(insideT n len, .eptr id k (plusT off n) 0)] else none
    | _, _ => none
  | _ => none
def symO : Option AV → Bool
  | none => false
  | some v => isSym v
def tmO (d : Tm) : Option AV → Option Tm
  | none => some d
  | some v => match tmI v with
    | some (_, n) => some n
    | none => none
def withinT (lo hi len : Tm) : Tm := andT (andT (iopT .leq .i64 (.ci 0) lo) (iopT .leq .i64 lo hi)) (iopT .leq .i64 hi len)
def minusT (a b : Tm) : Tm := match b with
  | .ci (.ofNat 0) => a
  | .ci n => match a with
    | .ci m => .ci (m - n)
    | a => .minus a (.ci n)
  | b => .minus a b
def sliceM (t : TypeId) (x : AV) (lo hi : Option AV) : Option (Tm × AV) := match x with
  | .sslice id k off len => match P.underlying t, tmO (.ci 0) lo, tmO len hi with
    | some (.slice e), some l, some h => if szOf P e = some k then some (withinT l h len, .sslice id k (plusT off l) (minusT h l)) else none
    | _, _, _ => none
  | x => bif isSym x || symO lo || symO hi then match tmS x with
    | some s => match P.underlying t, tmO (.ci 0) lo, tmO (lenT s) hi with
      | some .string, some l, some h => some (withinT l h (lenT s), .sstr (.cut s l h))
      | _, _, _ => none
    | none => none else none
/-- A bound of a slice: none: not given. -/
def boundA (x : Option AV) (y d : Nat) : Option Nat := match x with
  | none => some d
  | some (.int _ i) => if 0 ≤ i ∧ i ≤ y then some i.toNat else none
  | some _ => none
def sliceA (t : TypeId) (x : AV) (lo hi : Option AV) (H : Heap) : Option AV :=
  match P.underlying t, x with
  | some .string, .str s => match boundA hi s.length s.length with
    | some h => match boundA lo h 0 with
      | some l => some (.str ((s.drop l).take (h - l)))
      | none => none
    | none => none
  | some (.slice e), .nilSlice => match szOf P e, boundA hi 0 0 with
    | some _, some h => match boundA lo h 0 with
      | some _ => some .nilSlice
      | none => none
    | _, _ => none
  | some (.slice e), .slice id off len (.known c) => match szOf P e with
    | some k => match boundA hi c len with
      | some h => match boundA lo h 0 with
        | some l => some (.slice id (if c = l then off else off + l * k) (h - l) (.known (c - l)))
        | none => none
      | none => none
    | none => none
  | some (.slice e), .slice id off len (.unk k) => match H.get id with
    | some (.row vs _ _) => if szOf P e = some k ∧ 0 < k then match boundA hi ((vs.length - off) / k) len with
      | some h => match boundA lo h 0 with
        | some l => some (.slice id (off + l * k) (h - l) (.unk k))
        | none => none
      | none => none else none
    | _ => none
  | some (.array n e), .ptr id off => match szOf P e with
    | some k => match boundA hi n n with
      | some h => match boundA lo h 0 with
        | some l => some (.slice id (if n = l then off else off + l * k) (h - l) (.known (n - l)))
        | none => none
      | none => none
    | none => none
  | _, _ => none

/-- What is appended, or copied: its cells (n elements of k cells). -/
def srcA (k : Nat) (x : AV) (n : Nat) (H : Heap) : Option (List AV) := match x with
  | .nilSlice => some []
  | .slice id off _ _ => match H.get id with
    | some (.row vs _ _) => cellsAt vs off (n * k)
    | _ => none
  | .str s => match Nat.beq k 1 with
    | true => some (ofOcts (s.take n))
    | false => none
  | _ => none
def lenA : AV → Option Nat
  | .nilSlice => some 0
  | .slice _ _ n _ => some n
  | .str s => some s.length
  | _ => none
def small : Nat := 4294967296
def bytesOf (t : TypeId) : Option Nat := match P.info? t with
  | some i => some i.bytes
  | none => none
def growA (cells : List AV) (n k : Nat) (lf : Bool) (H : Heap) : AV × Heap := (.slice H.next 0 n (.unk k), H.new (.row cells true lf))
def appendA (t : TypeId) (s x : AV) (H : Heap) : Option (AV × Heap) :=
  match P.underlying t with
  | some (.slice e) => match szOf P e, bytesOf P e, zeroCellsA P e, lenA x with
    | some (k' + 1), some by', some z, some m => if by' ≤ 1024 ∧ z.length = k' + 1 ∧ allCells z = true then match srcA (k' + 1) x m H with
      | some new => if allCells new = true then match s with
        | .nilSlice => if m = 0 then some (.nilSlice, H) else if m ≤ small then some (growA new m (k' + 1) (flats new) H) else none
        | .slice id off len (.known c) => match H.get id with
          | some (.row vs own lf) => if len + m ≤ c then
              if own = true then match putAt vs (off + len * (k' + 1)) new with
                | some v => some (.slice id off (len + m) (.known c), H.upd id (.row v true (lf && flats new)))
                | none => none
              else if m = 0 then some (s, H) else none
            else if len + m ≤ small then match cellsAt vs off (len * (k' + 1)) with
              | some old => some (growA (old ++ new) (len + m) (k' + 1) (lf && flats new) H)
              | none => none else none
          | _ => none
        | .slice id off len (.unk k) => match H.get id with
          | some (.row vs own lf) => if k = k' + 1 then
              if m = 0 then some (s, H) else if own = true ∧ len + m ≤ small then
                if off + (len + m) * k ≤ vs.length then match putAt vs (off + len * k) new with
                  | some v => some (.slice id off (len + m) (.unk k), H.upd id (.row v true (lf && flats new)))
                  | none => none
                else match cellsAt vs off (len * k) with
                  | some old => some (growA (old ++ new) (len + m) k (lf && flats new) (H.kill id))
                  | none => none
              else none
            else none
          | _ => none
        | _ => none
      else none
      | none => none
    else none
    | _, _, _, _ => none
  | _ => none
def copyA (t : TypeId) (d x : AV) (H : Heap) : Option (AV × Heap) :=
  match P.underlying t, lenA x with
  | some (.slice e), some m => match szOf P e, d with
    | some (k + 1), .slice id off len _ => match srcA (k + 1) x (Nat.min m len) H, H.get id with
      | some new, some (.row vs true lf) => if allCells new = true then match putAt vs off new with
        | some v => some (.int .i64 (Nat.min m len : Nat), H.upd id (.row v true (lf && flats new)))
        | none => none else none
      | _, _ => none
    | _, _ => none
  | _, _ => none
def clearA (t : TypeId) (x : AV) (H : Heap) : Option (AV × Heap) :=
  match P.underlying t, x with
  | some (.slice _), .nilSlice => some (undefA, H)
  | some (.slice e), .slice id off n _ => if n = 0 then some (undefA, H) else match zerosA P e n, H.get id with
    | some z, some (.row vs true lf) => if allCells z = true then match putAt vs off z with
      | some v => some (undefA, H.upd id (.row v true (lf && flats z)))
      | none => none else none
    | _, _ => none
  | _, _ => none
def min2A (x y : AV) : Option AV := match x, y with
  | .int k a, .int _ b => some (.int k (if b < a then b else a))
  | x, y => match tmI x, tmI y with
    | some (k, a), some (_, b) => some (mkI k (iteT (iopT .lss k b a) b a))
    | _, _ => none
def max2A (x y : AV) : Option AV := match x, y with
  | .int k a, .int _ b => some (.int k (if b > a then b else a))
  | x, y => match tmI x, tmI y with
    | some (k, a), some (_, b) => some (mkI k (iteT (iopT .gtr k b a) b a))
    | _, _ => none
def foldA (f : AV → AV → Option AV) : AV → List AV → Option AV
  | x, [] => some x
  | x, y :: l => match f x y with
    | some z => foldA f z l
    | none => none
def lenOpA (t : TypeId) (x : AV) (H : Heap) : Option AV :=
  match P.underlying t, x with
  | some .string, .str s => some (.int .i64 (s.length : Nat))
  | some .string, .sstr s => some (mkI .i64 (lenT s))
  | some (.array n _), _ => some (.int .i64 (n : Nat))
  | some (.pointer a), _ => match P.underlying a with
    | some (.array n _) => some (.int .i64 (n : Nat))
    | _ => none
  | some (.slice _), .nilSlice => some (.int .i64 0)
  | some (.slice _), .slice _ _ n _ => some (.int .i64 (n : Nat))
  | some (.slice _), .sslice _ _ _ n => some (mkI .i64 n)
  | some (.map _ _), .nilMap => some (.int .i64 0)
  | some (.map _ _), .map id => match H.get id with
    | some (.map es) => some (.int .i64 (es.length : Nat))
    | _ => none
  | _, _ => none
/-- The cells of an element, as a chain of pairs. -/
def kindsT : List Kd → List AV → Option Tm
  | [], [] => some (.cb false)
  | .kb :: r, v :: l => match tmB v, kindsT r l with
    | some t, some u => some (.pair t u)
    | _, _ => none
  | .ki k :: r, v :: l => match tmI v, kindsT r l with
    | some (k', t), some u => bif eqK k k' then some (.pair t u) else none
    | _, _ => none
  | .ks :: r, v :: l => match tmS v, kindsT r l with
    | some t, some u => some (.pair t u)
    | _, _ => none
  | _, _ => none
/-- One element more, behind a row whose cells are not told. -/
def seqAppA (b : Builtin) (ts : Array TypeId) (args : List AV) (H : Heap) : Option (Tm × AV × Heap) := match b, args with
  | .append, [.sslice id k off len, x] => match ts[0]?, ts[1]? with
    | some t, some u => match P.underlying u with
      | some (.int _) => none
      | some _ => match P.underlying t with
        | some (.slice e) => match szOf P e, bytesOf P e, zeroCellsA P e, lenA x with
          | some (k' + 1), some by', some z, some 1 => if by' ≤ 1024 ∧ z.length = k' + 1 ∧ allCells z = true ∧ k = k' + 1 then match srcA (k' + 1) x 1 H, H.get id with
            | some new, some (.seq sh tm true) => if allCells new = true ∧ sh.length = k ∧ off.eqv (.ci 0) = true ∧ len.eqv (.llen tm) = true then match kindsT sh new with
              | some r => some (.ib .lss .i64 (.llen tm) (.ci 4294967295), .sslice H.next k (.ci 0) (.llen (.lapp tm (.row r))), (H.kill id).new (.seq sh (.lapp tm (.row r)) true))
              | none => none else none
            | _, _ => none else none
          | _, _, _, _ => none
        | _ => none
      | none => none
    | _, _ => none
  | _, _ => none
def builtinA (b : Builtin) (ts : Array TypeId) (args : List AV) (H : Heap) : Option (AV × Heap) :=
  match b, args with
  | .len, [x] => match ts[0]? with
    | some t => match lenOpA P t x H with
      | some v => some (v, H)
      | none => none
    | none => none
  | .append, [s, x] => match ts[0]?, ts[1]? with
    | some t, some u => match P.underlying u with
      | some (.int _) => none
      | some _ => appendA P t s x H
      | none => none
    | _, _ => none
  | .copy, [d, x] => match ts[0]? with
    | some t => copyA P t d x H
    | none => none
  | .clear, [x] => match ts[0]? with
    | some t => clearA P t x H
    | none => none
  | .min, x :: l => match foldA min2A x l with
    | some v => some (v, H)
    | none => none
  | .max, x :: l => match foldA max2A x l with
    | some v => some (v, H)
    | none => none
  | _, _ => none
def makeSliceA (t : TypeId) (l c : AV) (H : Heap) : Option (AV × Heap) :=
  match P.underlying t, l, c with
  | some (.slice e), .int _ l, .int _ c => match bytesOf P e, zerosA P e c.toNat with
    | some by', some z => if 0 ≤ l ∧ l ≤ c ∧ c ≤ 4294967296 ∧ by' ≤ 1024 ∧ allCells z = true then
      some (.slice H.next 0 l.toNat (.known c.toNat), H.new (.row z true (flats z))) else none
    | _, _ => none
  | _, _, _ => none

/-- Values that hold no reference, by their bits. -/
def plainEq : AV → AV → Bool
  | .bool a, .bool b => a == b
  | .int k a, .int k' b => k == k' && a == b
  | .str a, .str b => a == b
  | .agg a, .agg b => plainEqs a b
  | _, _ => false
where plainEqs : List AV → List AV → Bool
  | [], [] => true
  | .bool a :: l, .bool b :: m => a == b && plainEqs l m
  | .int k a :: l, .int k' b :: m => k == k' && a == b && plainEqs l m
  | .str a :: l, .str b :: m => a == b && plainEqs l m
  | _, _ => false
def simpleT (t : TypeId) : Bool := match P.underlying t with
  | some .bool | some (.int _) | some .string => true
  | _ => false
/-- Keys that may be: numbers, bools, texts, arrays and structs of these. -/
def keyT (t : TypeId) : Bool := match P.underlying t with
  | some .bool | some (.int _) | some .string => true
  | some (.array _ e) => simpleT P e
  | some (.struct fs) => fs.toList.all fun f => simpleT P f.type
  | _ => false
/-- The entries with a key, if of each one it can be told. -/
def hitsA (kt : TypeId) (key : AV) : List (AV × AV) → Option (List (AV × AV))
  | [] => some []
  | e :: es => match eqA P eqDepth kt key e.1, hitsA kt key es with
    | some (.cb true), some l => some (e :: l)
    | some (.cb false), some l => some l
    | _, _ => none
def findA (kt : TypeId) (key : AV) (es : List (AV × AV)) : Option (Option AV) := match hitsA P kt key es with
  | some [] => some none
  | some [e] => some (some e.2)
  | _ => none
def replA (kt : TypeId) (key v : AV) (e : AV × AV) : AV × AV := match eqA P eqDepth kt key e.1 with
  | some (.cb true) => (key, v)
  | _ => e
def setA (kt : TypeId) (key v : AV) (es : List (AV × AV)) : Option (List (AV × AV)) := match hitsA P kt key es with
  | some [] => some ((key, v) :: es)
  | some [e] => if plainEq key e.1 then some (es.map (replA P kt key v)) else none
  | _ => none
def keyFits (t : TypeId) (key : AV) : Bool := match eqA P eqDepth t key key with
  | some _ => true
  | none => false
def lookupA (t : TypeId) (x key : AV) (ok : Bool) (H : Heap) : Option AV :=
  match P.underlying t with
  | some (.map kt et) => if keyT P kt && keyFits P kt key then match (match x with
      | .nilMap => some []
      | .map id => match H.get id with
        | some (.map es) => some es
        | _ => none
      | _ => none) with
    | some es => match findA P kt key es with
      | some (some v) => some (if ok then .tuple [v, .bool true] else v)
      | some none => match zeroA P et with
        | some z => some (if ok then .tuple [z, .bool false] else z)
        | none => none
      | none => none
    | none => none else none
  | _ => none
def mapUpdateA (t : TypeId) (m key v : AV) (H : Heap) : Option Heap :=
  match P.underlying t, m with
  | some (.map kt _), .map id => if keyT P kt && keyFits P kt key then match H.get id with
    | some (.map es) => match setA P kt key v es with
      | some l => some (H.upd id (.map l))
      | none => none
    | _ => none else none
  | _, _ => none
def typeAssertA (x : AV) (asserted : TypeId) (ok : Bool) : Option AV :=
  let holds (v : AV) : Option AV := some (if ok then .tuple [v, .bool true] else v)
  let fails : Option AV := if ok then match zeroA P asserted with
    | some z => some (.tuple [z, .bool false])
    | none => none else none
  match P.underlying asserted, x with
  | some (.interface _), .nilIface => fails
  | some (.interface want), .iface t v => match P.info? t with
    | some i => match Instr.missingMethod want i.methods with
      | none => holds (.iface t v)
      | some _ => fails
    | none => none
  | some _, .nilIface => fails
  | some _, .iface t v => if t = asserted then holds v else fails
  | _, _ => none
/-- What a call of a value calls, with which arguments. -/
def calleeA (f : AV) (args : List AV) : Option (FuncId × List AV) := match f with
  | .func (.func g) first captured => some (g, first ++ args ++ captured)
  | _ => none
def methodA (recv : AV) (name : String) (args : List AV) : Option (FuncId × List AV) := match recv with
  | .iface t v => match P.info? t with
    | some i => match i.methods.find? (·.name == name) with
      | some m => if m.path.isEmpty then match m.func, P.underlying t with
        | some (f, true), some (.pointer _) => some (f, v :: args)
        | some (f, false), some (.pointer _) => none
        | some (f, false), some _ => some (f, v :: args)
        | _, _ => none else none
      | none => none
    | none => none
  | _ => none
/-- May a function be entered as one of the program's own? -/
def entersB (f : FuncId) : Bool := match P.funcs[f]? with
  | some fn => fn.body.isSome
  | none => false

abbrev FR := List (Nat × AV)
def lk (l : FR) (t : Nat) : Option AV := @List.rec (Nat × AV) (fun _ => Option AV) none (fun p _ r => @Bool.rec (fun _ => Option AV) r (some p.2) (Nat.beq p.1 t)) l
def evalA (fr : FR) : Operand → Option AV
  | .tmp t => lk fr t
  | .const v => ofV v
  | .global _ => none
  | .func f => some (.func (.func f) [] [])
def evals (fr : FR) : List Operand → Option (List AV)
  | [] => some []
  | x :: l => match evalA fr x, evals fr l with
    | some v, some r => some (v :: r)
    | _, _ => none
def evalO (fr : FR) : Option Operand → Option (Option AV)
  | none => some none
  | some x => match evalA fr x with
    | some v => some (some v)
    | none => none
def evalP (fr : FR) : List (Nat × Operand) → Option (List (Nat × AV))
  | [] => some []
  | (i, x) :: l => match evalA fr x, evalP fr l with
    | some v, some r => some ((i, v) :: r)
    | _, _ => none

/-- What an operation does: it leaves a value (many: the first one whose test holds); it calls; it defers a call. -/
inductive AR where
  | val (v : AV) (H : Heap)
  | many (l : List (Tm × AV)) (H : Heap)
  | call (f : FuncId) (args : List AV)
  | dfr (f : FuncId) (args : List AV)
  | ask (c : Tm) (v : AV) (H : Heap)

def opMove (fr : FR) (x : Operand) (H : Heap) : Option AR := match evalA fr x with
    | some v => some (.val v H)
    | none => none
def opPick (fr : FR) (c : Operand) (a : Operand) (b : Operand) (H : Heap) : Option AR := match evalA fr c, evalA fr a, evalA fr b with
    | some (.bool c), some a, some b => some (.val (if c then a else b) H)
    | some (.sbool c), some a, some b => some (.many [(c, a), (.cb true, b)] H)
    | _, _, _ => none
def opAlloc (fr : FR) (e : TypeId) (H : Heap) : Option AR := match allocA P e H with
    | some (v, H) => some (.val v H)
    | none => none
def opBox (fr : FR) (x : Operand) (H : Heap) : Option AR := match evalA fr x with
    | some v => match boxA v H with
      | some (v, H) => some (.val v H)
      | none => none
    | none => none
def opBuild (fr : FR) (t : TypeId) (parts : Array (Nat × Operand)) (H : Heap) : Option AR := match evalP fr parts.toList with
    | some l => match buildA P t l with
      | some v => some (.val v H)
      | none => none
    | none => none
def opBuildslice (fr : FR) (t : TypeId) (n : Nat) (parts : Array (Nat × Operand)) (H : Heap) : Option AR := match evalP fr parts.toList with
    | some l => match buildSliceA P t n l H with
      | some (v, H) => some (.val v H)
      | none => none
    | none => none
def opLoad (fr : FR) (t : TypeId) (a : Operand) (H : Heap) : Option AR := match evalA fr a with
    | some a => match loadA P t a H with
      | some v => some (.val v H)
      | none => none
    | none => none
def opStore (fr : FR) (t : TypeId) (a : Operand) (x : Operand) (H : Heap) : Option AR := match evalA fr a, evalA fr x with
    | some a, some x => match storeA P t a x H with
      | some H => some (.val undefA H)
      | none => none
    | _, _ => none
def opNilcheck (fr : FR) (x : Operand) (H : Heap) : Option AR := match evalA fr x with
    | some (.ptr id off) => some (.val (.ptr id off) H)
    | some (.eptr id k i j) => some (.val (.eptr id k i j) H)
    | some (.iface t v) => some (.val (.iface t v) H)
    | some (.func (.func f) a b) => some (.val (.func (.func f) a b) H)
    | _ => none
def opBinop (fr : FR) (op : BinOp) (t : TypeId) (x : Operand) (y : Operand) (H : Heap) : Option AR := match evalA fr x, evalA fr y with
    | some a, some b => match owedA op a b with
      | some c => some (.many [c] H)
      | none => match binA P op t (isConstOp x || isConstOp y) a b with
        | some v => some (.val v H)
        | none => none
    | _, _ => none
def opUnop (fr : FR) (op : UnOp) (x : Operand) (H : Heap) : Option AR := match evalA fr x with
    | some a => match unA op a with
      | some v => some (.val v H)
      | none => none
    | none => none
def opConvert (fr : FR) (s : TypeId) (d : TypeId) (x : Operand) (H : Heap) : Option AR := match evalA fr x with
    | some a => match convA P s d a H with
      | some (v, H) => some (.val v H)
      | none => none
    | none => none
def opMakeinterface (fr : FR) (t : TypeId) (x : Operand) (H : Heap) : Option AR := match evalA fr x, P.underlying t with
    | some v, some (.interface _) => none
    | some v, some _ => some (.val (.iface t v) H)
    | _, _ => none
def opMakefunc (fr : FR) (fn : Fn) (a : Array Operand) (b : Array Operand) (H : Heap) : Option AR := match evals fr a.toList, evals fr b.toList with
    | some a, some b => some (.val (.func fn a b) H)
    | _, _ => none
def opMakemap (fr : FR) (t : TypeId) (r : Option Operand) (H : Heap) : Option AR := match r with
    | none => some (.val (.map H.next) (H.new (.map [])))
    | some x => match evalA fr x, P.underlying t with
      | some (.int _ _), some (.map _ _) => some (.val (.map H.next) (H.new (.map [])))
      | _, _ => none
def opMakeslice (fr : FR) (t : TypeId) (l : Operand) (c : Operand) (H : Heap) : Option AR := match evalA fr l, evalA fr c with
    | some l, some c => match makeSliceA P t l c H with
      | some (v, H) => some (.val v H)
      | none => none
    | _, _ => none
def opSlice (fr : FR) (t : TypeId) (x : Operand) (lo : Option Operand) (hi : Option Operand) (H : Heap) : Option AR := match evalA fr x, evalO fr lo, evalO fr hi with
    | some x, some lo, some hi => match sliceM P t x lo hi with
      | some c => some (.many [c] H)
      | none => match sliceA P t x lo hi H with
        | some v => some (.val v H)
        | none => none
    | _, _, _ => none
def opFieldaddr (fr : FR) (s : TypeId) (x : Operand) (f : Nat) (H : Heap) : Option AR := match evalA fr x with
    | some a => match fieldAddrA P s a f with
      | some v => some (.val v H)
      | none => none
    | none => none
def opField (fr : FR) (t : TypeId) (x : Operand) (f : Nat) (H : Heap) : Option AR := match evalA fr x with
    | some a => match fieldA P t a f with
      | some v => some (.val v H)
      | none => none
    | none => none
def opIndexaddr (fr : FR) (t : TypeId) (x : Operand) (i : Operand) (H : Heap) : Option AR := match evalA fr x, evalA fr i with
    | some a, some i => match indexAddrM P t a i with
      | some l => some (.many l H)
      | none => match indexAddrA P t a i with
        | some v => some (.val v H)
        | none => none
    | _, _ => none
def opIndex (fr : FR) (t : TypeId) (x : Operand) (i : Operand) (H : Heap) : Option AR := match evalA fr x, evalA fr i with
    | some a, some i => match indexM P t a i with
      | some c => some (.many [c] H)
      | none => match indexA P t a i with
        | some v => some (.val v H)
        | none => none
    | _, _ => none
def opLookup (fr : FR) (t : TypeId) (x : Operand) (i : Operand) (ok : Bool) (H : Heap) : Option AR := match evalA fr x, evalA fr i with
    | some a, some i => match lookupA P t a i ok H with
      | some v => some (.val v H)
      | none => none
    | _, _ => none
def opMapupdate (fr : FR) (t : TypeId) (m : Operand) (k : Operand) (x : Operand) (H : Heap) : Option AR := match evalA fr m, evalA fr k, evalA fr x with
    | some m, some k, some x => match mapUpdateA P t m k x H with
      | some H => some (.val undefA H)
      | none => none
    | _, _, _ => none
def opTypeassert (fr : FR) (x : Operand) (t : TypeId) (ok : Bool) (H : Heap) : Option AR := match evalA fr x with
    | some a => match typeAssertA P a t ok with
      | some v => some (.val v H)
      | none => none
    | none => none
def opExtract (fr : FR) (x : Operand) (i : Nat) (H : Heap) : Option AR := match evalA fr x with
    | some (.tuple vs) => match vs[i]? with
      | some v => some (.val v H)
      | none => none
    | _ => none
def opCall (fr : FR) (c : Call) (H : Heap) : Option AR := match evals fr c.args.toList with
    | some args => match c.callee with
      | .builtin b => match seqAppA P b c.argTypes args H with
        | some (t, v, H) => some (.ask t v H)
        | none => match builtinA P b c.argTypes args H with
          | some (v, H) => some (.val v H)
          | none => none
      | .value f => match evalA fr f with
        | some f => match calleeA f args with
          | some (g, args) => if entersB P g then some (.call g args) else none
          | none => none
        | none => none
      | .invoke r name => match evalA fr r with
        | some r => match methodA P r name args with
          | some (g, args) => if entersB P g then some (.call g args) else none
          | none => none
        | none => none
    | none => none
def opDefer (fr : FR) (c : Call) (H : Heap) : Option AR := match evals fr c.args.toList, c.callee with
    | some args, .value f => match evalA fr f with
      | some f => match calleeA f args with
        | some (g, args) => if entersB P g then some (.dfr g args) else none
        | none => none
      | none => none
    | _, _ => none
def operA (fr : FR) (o : Oper) (H : Heap) : Option AR :=
  match o.op with
  | .move x | .assign x => opMove fr x H
  | .pick c a b => opPick fr c a b H
  | .alloc e => opAlloc P fr e H
  | .box _ x => opBox fr x H
  | .build t parts => opBuild P fr t parts H
  | .buildSlice t n parts => opBuildslice P fr t n parts H
  | .load t a => opLoad P fr t a H
  | .store t a x => opStore P fr t a x H
  | .nilCheck x => opNilcheck fr x H
  | .binOp op t x y _ => opBinop P fr op t x y H
  | .unOp op _ x => opUnop fr op x H
  | .convert s d x => opConvert P fr s d x H
  | .makeInterface t x => opMakeinterface P fr t x H
  | .makeFunc fn a b => opMakefunc fr fn a b H
  | .makeSlice t l c => opMakeslice P fr t l c H
  | .makeMap t r => opMakemap P fr t r H
  | .lookup t x i ok => opLookup P fr t x i ok H
  | .mapUpdate t m k x | .insert t m k x => opMapupdate P fr t m k x H
  | .slice t x lo hi none => opSlice P fr t x lo hi H
  | .fieldAddr s x f => opFieldaddr P fr s x f H
  | .field t x f => opField P fr t x f H
  | .indexAddr t x i => opIndexaddr P fr t x i H
  | .index t x i => opIndex P fr t x i H
  | .typeAssert x _ t ok => opTypeassert P fr x t ok H
  | .extract x i => opExtract fr x i H
  | .call c => opCall P fr c H
  | .defer c => opDefer P fr c H
  | _ => none

/-- Is an operation wanted? none: it cannot be told; some (some b): b, which is not looked into. -/
inductive Want where
  | yes
  | no
  | hang (t : Tm) (b : Bool)
def wantedA (ops : Array Oper) (fr : FR) (o : Oper) : Option Want :=
  match o.guard with
  | none => some .yes
  | some (j, want) => match (ops[j]?).bind (·.dst) with
    | some t => match lk fr t with
      | some (.bool b) => some (bif b == want then .yes else .no)
      | some (.sbool t) => some (.hang t want)
      | some (.tuple _) => some .no
      | _ => none
    | none => none
/-- The frame with a slot set; nt: how many slots there are. -/
def putA (nt : Nat) (fr : FR) (dst : Option Tmp) (v : AV) : Option FR := match dst with
  | some d => bif Nat.blt d nt then some ((d, v) :: fr) else none
  | none => some fr

structure St where
  nt : Nat
  fr : FR
  H : Heap
  df : List (FuncId × List AV)
inductive AX where
  | normal
  | ret
  | exit (id : Nat)

/-- The objects that an operation's values lead to. -/
def reachN (H : Heap) : Nat → List Nat → List Nat → List Nat
  | 0, _, seen => seen
  | _, [], seen => seen
  | n + 1, id :: l, seen => if seen.contains id then reachN H n l seen else match H.get id with
    | some (.row vs _ false) => reachN H n (refsL vs ++ l) (id :: seen)
    | some (.row _ _ true) | some (.bytes _ _) | some (.seq _ _ _) => reachN H n l (id :: seen)
    | some (.map es) => reachN H n (refsL (es.map (·.1)) ++ refsL (es.map (·.2)) ++ l) (id :: seen)
    | none => reachN H n l seen
def memN (x : Nat) : List Nat → Bool
  | [] => false
  | y :: l => bif Nat.beq y x then true else memN x l
def pickO (objs : List (Nat × AObj)) : List Nat → List (Nat × AObj)
  | [] => []
  | id :: l => match look objs id with
    | some o => (id, o) :: pickO objs l
    | none => pickO objs l
def restrict (H : Heap) (ids : List Nat) : Heap := ⟨H.next, pickO H.objs ids, [], H.pc⟩
def fresh (n m : Nat) : List (Nat × AObj) → List (Nat × AObj)
  | [] => []
  | p :: l => match Nat.ble n p.1 && Nat.blt p.1 m with
    | true => p :: fresh n m l
    | false => fresh n m l
/-- Objects, with what became of those that were written. -/
def updO (ids : List Nat) (R : Heap) (n : Nat) : List Nat → List (Nat × AObj) → List (Nat × AObj)
  | [], l => l
  | id :: log, l => bif Nat.blt id n && memN id ids then (match R.get id with
      | some o => updO ids R n log (repl l id o)
      | none => updO ids R n log (drp l id)) else updO ids R n log l
/-- H, with what became of the objects of a part of it. -/
def merge (H : Heap) (ids : List Nat) (R : Heap) : Heap := match R.log with
  | [] => bif Nat.beq R.next H.next then ⟨R.next, H.objs, H.log, R.pc⟩ else ⟨R.next, fresh H.next R.next R.objs ++ H.objs, H.log, R.pc⟩
  | a :: l => ⟨R.next, fresh H.next R.next R.objs ++ updO ids R H.next (a :: l) H.objs, (a :: l) ++ H.log, R.pc⟩
/-- What an operation of a region touched: objects, those of them that it wrote, its new ones' numbers from lo up to hi. -/
structure Rec where
  i : Nat
  foot : List Nat
  wrote : List Nat
  lo : Nat
  hi : Nat
def bindsG : Ground → Bool
  | .textOnly _ => false
  | .gcOnly _ => false
  | _ => true
def nth {α : Type} : List α → Nat → Option α
  | [], _ => none
  | a :: l, n => match n with
    | 0 => some a
    | m + 1 => nth l m
def edgeTo : List Edge → Nat → Bool
  | [], _ => false
  | e :: l, i => match Nat.beq e.on i with
    | true => bindsG e.ground || edgeTo l i
    | false => edgeTo l i
/-- The numbers (as bits) of the operations that come before each one. -/
def maskOf (acc : List Nat) : List Edge → Nat → Nat
  | [], m => m
  | e :: l, m => match bindsG e.ground with
    | true => maskOf acc l (m ||| 2 ^ e.on ||| (nth acc e.on).getD 0)
    | false => maskOf acc l m
def befores : List Oper → List Nat → List Nat
  | [], acc => acc
  | o :: l, acc => befores l (acc ++ [maskOf acc o.after.toList 0])
/-- Does operation i, which stands ahead of j, come before it? -/
def befB (ops : List Oper) (i j : Nat) : Bool :=
  (match nth ops j with
    | some o => edgeTo o.after.toList i
    | none => false) || Nat.testBit ((nth (befores ops []) j).getD 0) i
def ordB (ops : List Oper) (i j : Nat) : Bool := match Nat.blt i j with
  | true => befB ops i j
  | false => befB ops j i
def dstsOf : List Oper → Nat → List (Tmp × Nat)
  | [], _ => []
  | o :: l, i => match o.dst with
    | some d => (d, i) :: dstsOf l (i + 1)
    | none => dstsOf l (i + 1)
/-- Is every writer of slot t ordered with operation j? -/
def slotOk (ops : List Oper) (t j : Nat) : List (Tmp × Nat) → Bool
  | [] => true
  | p :: l => match Nat.beq p.1 t with
    | true => (Nat.beq p.2 j || ordB ops p.2 j) && slotOk ops t j l
    | false => slotOk ops t j l
def slotsOk (ops : List Oper) (ds : List (Tmp × Nat)) (j : Nat) : List Tmp → Bool
  | [] => true
  | t :: l => slotOk ops t j ds && slotsOk ops ds j l
def looks (ops : Array Oper) (o : Oper) : List Tmp := o.looksAt ops ++ o.dst.toList
def edgesOk (j : Nat) : List Edge → Bool
  | [] => true
  | e :: l => (!bindsG e.ground || Nat.blt e.on j) && edgesOk j l
def statGo (ops : Array Oper) (ds : List (Tmp × Nat)) : List Oper → Nat → Bool
  | [], _ => true
  | o :: l, j => edgesOk j o.after.toList && slotsOk ops.toList ds j (looks ops o) && statGo ops ds l (j + 1)
/-- Any two operations of a region are ordered, or have no slot in common that one of them writes. -/
def statOk (ops : Array Oper) : Bool := Region.noSelect ops && statGo ops (dstsOf ops.toList 0) ops.toList 0
def clash (a b : Rec) : Bool := a.wrote.any (fun x => b.foot.contains x) || b.foot.any (fun x => a.lo ≤ x && x < a.hi)
def dynOk (ops : List Oper) (rs : List Rec) : Bool := rs.all fun a => rs.all fun b => match clash a b with
  | true => Nat.beq a.i b.i || ordB ops a.i b.i
  | false => true

/-- What is answered, by what is asked. -/
inductive Tree (α : Type) where
  | fail
  | leaf (a : α)
  | fork (c : Tm) (x y : Tree α)
def Tree.sel {α : Type} [Rho] : Tree α → Option α
  | .fail => none
  | .leaf a => some a
  | .fork c x y => bif c.den.asB then x.sel else y.sel
/-- Has it been asked before? -/
def known : List (Tm × Bool) → Tm → Option Bool
  | [], _ => none
  | p :: l, c => bif p.1.eqv c then some p.2 else known l c
/-- A question: is c true? The two ways on, from the heap in which it has been asked. -/
def askA {α : Type} (c : Tm) (H : Heap) (x y : Heap → Tree α) : Tree α := match c with
  | .cb true => x H
  | .cb false => y H
  | c => match known H.pc c with
    | some true => x H
    | some false => y H
    | none => match known H.pc (notT c) with
      | some true => y H
      | some false => x H
      | none => .fork c (x (H.ask c true)) (y (H.ask c false))
/-- The callers' way on. -/
abbrev CallF (α : Type) := FuncId → List AV → Heap → (AV → Heap → Tree α) → Tree α
/-- The first value whose test holds. -/
def manyA {α : Type} : List (Tm × AV) → Heap → (AV → Heap → Tree α) → Tree α
  | [], _, _ => .fail
  | p :: l, H, k => askA p.1 H (k p.2) fun H => manyA l H k
/-- What an operation leaves: its value, the heap, a call that it defers. -/
def stepA {α : Type} (cf : CallF α) (o : Oper) (fr : FR) (H : Heap) (k : AV → Heap → List (FuncId × List AV) → Tree α) : Tree α :=
  match operA P fr o H with
  | some (.val v H) => k v H []
  | some (.many l H) => manyA l H fun v H => k v H []
  | some (.call f args) => cf f args H fun v H => k v H []
  | some (.dfr f args) => k undefA H [(f, args)]
  | some (.ask c v H') => askA c H (fun G => k v (H'.wpc G.pc) []) fun _ => .fail
  | none => .fail
def evOps {α : Type} (cf : CallF α) (ops : Array Oper) : List Oper → St → (St → Tree α) → Tree α
  | [], st, k => k st
  | o :: l, ⟨nt, fr, H, df⟩, k =>
    let yes (H : Heap) : Tree α := stepA P cf o fr H fun v H d => match putA nt fr o.dst v with
        | some fr => evOps cf ops l ⟨nt, fr, H, d ++ df⟩ k
        | none => .fail
    let no (H : Heap) : Tree α := match putA nt fr o.dst undefA with
        | some fr => evOps cf ops l ⟨nt, fr, H, df⟩ k
        | none => .fail
    match wantedA ops fr o with
    | some .yes => yes H
    | some .no => no H
    | some (.hang t b) => askA t H (fun H => bif b then yes H else no H) (fun H => bif b then no H else yes H)
    | none => .fail
def footOps : Op → Array Operand
  | .load _ a => #[a]
  | .store _ a _ => #[a]
  | .convert _ _ x => #[x]
  | .slice _ x _ _ _ => #[x]
  | .lookup _ x _ _ => #[x]
  | .mapUpdate _ m _ _ | .insert _ m _ _ => #[m]
  | .call c => c.operands
  | _ => #[]
def isOwnCall : Op → Bool
  | .call c => match c.callee with
    | .builtin _ => false
    | _ => true
  | _ => false
def footA (fr : FR) (o : Oper) (H : Heap) : List Nat :=
  match (footOps o.op).toList with
  | [] => []
  | l => match evals fr l with
    | some vs => bif isOwnCall o.op then reachN H 100000 (refsL vs) [] else refsL vs
    | none => []
/-- The slots that an operation looks at. -/
def nar (fr : FR) : List Tmp → FR
  | [] => []
  | t :: l => match lk fr t with
    | some v => (t, v) :: nar fr l
    | none => nar fr l
def narrow (ops : Array Oper) (o : Oper) (fr : FR) : FR := nar fr (o.looksAt ops)
def recOf (i : Nat) (ids : List Nat) (R : Heap) (n : Nat) (rs : List Rec) : List Rec := match ids with
  | [] => bif Nat.blt n R.next then ⟨i, ids, R.log, n, R.next⟩ :: rs else rs
  | ids => ⟨i, ids, R.log, n, R.next⟩ :: rs
/-- What a region notes of maps that it makes and fills itself: operation, number, the type, key and value. -/
inductive Note where
  | mk (i id : Nat)
  | ins (i id : Nat) (t : TypeId) (k v : AV)
def isLit : List Note → Nat → Bool
  | [], _ => false
  | .mk _ j :: l, id => bif Nat.beq j id then true else isLit l id
  | .ins .. :: l, id => isLit l id
/-- Does the region fill the map of this slot? -/
def fills (d : Nat) : List Oper → Bool
  | [] => false
  | o :: l => match o.op with
    | .insert _ (.tmp t) _ _ => Nat.beq t d || fills d l
    | _ => fills d l
def makesLit (ops : List Oper) (o : Oper) : Bool := match o.op, o.dst with
  | .makeMap _ _, some d => fills d ops
  | _, _ => false
def insLit (fr : FR) (o : Oper) (ns : List Note) : Option (Nat × TypeId × AV × AV) := match ns with
  | [] => none
  | _ => match o.op with
    | .insert t m k x => match evalA fr m, evalA fr k, evalA fr x with
      | some (.map id), some k, some v => bif isLit ns id then some (id, t, k, v) else none
      | _, _, _ => none
    | _ => none
def keyOk (t : TypeId) (k : AV) : Bool := match P.underlying t with
  | some (.map kt _) => keyT P kt && keyFits P kt k
  | _ => false
def evDraw {α : Type} (cf : CallF α) (ops : Array Oper) : Nat → List Oper → St → List Rec → List Note → (St → List Rec → List Note → Tree α) → Tree α
  | _, [], st, rs, ns, k => k st rs ns
  | i, o :: l, ⟨nt, fr, H, df⟩, rs, ns, k =>
    let yes (H : Heap) : Tree α := match insLit (narrow ops o fr) o ns with
      | some (id, t, key, v) => match o.dst, keyOk P t key with
        | none, true => evDraw cf ops (i + 1) l ⟨nt, fr, merge H [] (restrict H []), df⟩ rs (.ins i id t key v :: ns) k
        | _, _ => .fail
      | none => match makesLit ops.toList o with
        | true => match operA P (narrow ops o fr) o (restrict H []), putA nt fr o.dst (.map H.next) with
          | some (.val _ _), some fr' => evDraw cf ops (i + 1) l ⟨nt, fr', merge H [] ⟨H.next + 1, [], [], H.pc⟩, df⟩ (⟨i, [], [], H.next, H.next + 1⟩ :: rs) (.mk i H.next :: ns) k
          | _, _ => .fail
        | false => stepA P cf o (narrow ops o fr) (restrict H (footA (narrow ops o fr) o H)) fun v T d => match d with
          | [] => match putA nt fr o.dst v with
            | some fr' => evDraw cf ops (i + 1) l ⟨nt, fr', merge H (footA (narrow ops o fr) o H) T, df⟩ (recOf i (footA (narrow ops o fr) o H) T H.next rs) ns k
            | none => .fail
          | _ => .fail
    let no (H : Heap) : Tree α := match putA nt fr o.dst undefA with
      | some fr => evDraw cf ops (i + 1) l ⟨nt, fr, H, df⟩ rs ns k
      | none => .fail
    match wantedA ops (narrow ops o fr) o with
    | some .yes => yes H
    | some .no => no H
    | some (.hang t b) => askA t H (fun H => bif b then yes H else no H) (fun H => bif b then no H else yes H)
    | none => .fail
/-- The pairs of a map, those of operation i left out. -/
def litBut (id i : Nat) : List Note → List (AV × AV)
  | [] => []
  | .mk .. :: l => litBut id i l
  | .ins j id' _ k v :: l => bif Nat.beq id' id then bif Nat.beq j i then litBut id i l else (k, v) :: litBut id i l else litBut id i l
def litAll (id : Nat) : List Note → List (AV × AV)
  | [] => []
  | .mk .. :: l => litAll id l
  | .ins _ id' _ k v :: l => bif Nat.beq id' id then (k, v) :: litAll id l else litAll id l
def litOk (ns : List Note) : Note → Bool
  | .mk .. => true
  | .ins i id t k _ => match P.underlying t with
    | some (.map kt _) => match hitsA P kt k (litBut id i ns) with
      | some [] => true
      | _ => false
    | _ => false
def litObjs (all : List Note) : List Note → List (Nat × AObj)
  | [] => []
  | .mk _ id :: l => (id, .map (litAll id all)) :: litObjs all l
  | .ins .. :: l => litObjs all l
def putLits (ns : List Note) (st : St) : St := match ns with
  | [] => st
  | ns => ⟨st.nt, st.fr, ⟨st.H.next, litObjs ns ns ++ st.H.objs, st.H.log, st.H.pc⟩, st.df⟩
def evDrawn {α : Type} (cf : CallF α) (ops : Array Oper) (st : St) (k : St → Tree α) : Tree α :=
  evDraw P cf ops 0 ops.toList st [] [] fun st rs ns => bif statOk ops && dynOk ops.toList rs && ns.all (litOk P ns) then k (putLits ns st) else .fail
def resA (fr : FR) (H : Heap) : List ResultVar → Option (List AV)
  | [] => some []
  | .tmp t :: l => match lk fr t, resA fr H l with
    | some v, some r => some (v :: r)
    | _, _ => none
  | .cell a t :: l => match lk fr a with
    | some p => match loadA P t p H, resA fr H l with
      | some v, some r => some (v :: r)
      | _, _ => none
    | none => none
def resultsA (fn : Func) (fr : FR) (H : Heap) : Option AV := match resA P fr H fn.results.toList with
  | some [v] => some v
  | some l => some (.tuple l)
  | none => none
/-- The objects to which an object leads. -/
def rowRefs (H : Heap) (id : Nat) : List Nat := match H.get id with
  | some (.row vs _ lf) => bif lf then [] else refsL vs
  | some (.map es) => refsL (es.map (·.1)) ++ refsL (es.map (·.2))
  | _ => []
def reachNew (n : Nat) (H : Heap) : Nat → List Nat → List Nat → List Nat
  | 0, _, seen => seen
  | _, [], seen => seen
  | k + 1, id :: l, seen => bif Nat.blt id n || memN id seen then reachNew n H k l seen else reachNew n H k (rowRefs H id ++ l) (id :: seen)
/-- New objects that something still leads to. -/
def keepNew (n : Nat) (H : Heap) (v : AV) (old : List Nat) : List Nat := reachNew n H 100000 (refs v ++ old.flatMap (rowRefs H)) []
/-- What a call leaves: if it answers no reference and wrote nothing that was there, nothing; else no more than something leads to. -/
def closeA (H : Heap) (v : AV) (H' : Heap) : AV × Heap := match H'.log.filter (fun x => Nat.blt x H.next), flat v with
  | [], true => (v, ⟨H.next, H.objs, H.log, H'.pc⟩)
  | old, _ => (v, ⟨H'.next, H'.objs.filter (fun p => Nat.blt p.1 H.next || memN p.1 (keepNew H.next H' v old)), old ++ H.log, H'.pc⟩)
/-- Contracts: of functions (a debt, a value, the heap); of loops (by function and number: a debt, how it is left, the state). -/
structure Env where
  fn : FuncId → Option (List AV → Heap → Option (Tm × AV × Heap))
  lp : FuncId → Nat → Option (St → Option (Tm × AX × St))
def frame1 : Nat → List AV → FR
  | _, [] => []
  | i, v :: l => (i, v) :: frame1 (i + 1) l
def bare (H : Heap) : Heap := ⟨H.next, H.objs, [], H.pc⟩

/-- The first entry of each slot alone. -/
def dedup : FR → List Nat → FR
  | [], _ => []
  | p :: l, seen => match seen.contains p.1 with
    | true => dedup l seen
    | false => p :: dedup l (p.1 :: seen)
def trim (st : St) : St := match Nat.blt 150 st.fr.length with
  | true => ⟨st.nt, dedup st.fr [], st.H, st.df⟩
  | false => st
/-- A loop's number: the first one of a region or block in it. -/
def loopKey : Code → Nat
  | .region id _ _ => id
  | .seq a _ => loopKey a
  | .block _ body => loopKey body
  | .loop body => loopKey body
  | .scope body => loopKey body
  | .cond _ a _ => loopKey a
  | _ => 0
/-- The loops of a code: their bodies. -/
def loopsOf : Code → List Code
  | .seq a b => loopsOf a ++ loopsOf b
  | .cond _ a b => loopsOf a ++ loopsOf b
  | .block _ body => loopsOf body
  | .loop body => body :: loopsOf body
  | .scope body => loopsOf body
  | _ => []
abbrev LoopF := Nat → Option (St → Option (Tm × AX × St))
def evCode {α : Type} (cf : CallF α) (lf : LoopF) : Nat → Code → St → (AX → St → Tree α) → Tree α
  | 0, _, _, _ => .fail
  | n + 1, c, st, k => match c with
    | .skip => k .normal st
    | .region _ ops draw => match draw with
        | true => evDrawn P cf ops st (k .normal)
        | false => evOps P cf ops ops.toList st (k .normal)
    | .seq a b => evCode cf lf n a st fun x st => match x with
      | .normal => evCode cf lf n b st k
      | x => k x st
    | .cond x a b => match evalA st.fr x with
      | some (.bool t) => bif t then evCode cf lf n a st k else evCode cf lf n b st k
      | some (.sbool t) => askA t st.H (fun H => evCode cf lf n a ⟨st.nt, st.fr, H, st.df⟩ k) (fun H => evCode cf lf n b ⟨st.nt, st.fr, H, st.df⟩ k)
      | _ => .fail
    | .block id body => evCode cf lf n body st fun x st => match x with
      | .exit j => bif Nat.beq j id then k .normal st else k (.exit j) st
      | x => k x st
    | .loop body => match (match lf (loopKey body) with
        | some g => g st
        | none => none) with
      | some (o, x, st') => askA o st.H (fun H => k x ⟨st'.nt, st'.fr, st'.H.wpc H.pc, st'.df⟩) fun _ => .fail
      | none => evCode cf lf n body st fun x st => match x with
        | .normal => evCode cf lf n (.loop body) (trim st) k
        | x => k x st
    | .exit id => k (.exit id) st
    | .scope body => evCode cf lf n body st k
    | .label _ => k .normal st
    | .ret => k .ret st
    | _ => .fail
def evBody {α : Type} (cf : CallF α) (lf : LoopF) (f : FuncId) (args : List AV) (H : Heap) (k : Func → St → Tree α) : Tree α :=
  match P.funcs[f]? with
    | some fn => match fn.body with
      | some c => bif Nat.ble args.length fn.ntmps then evCode P cf lf 1000000 c ⟨fn.ntmps, frame1 0 args, bare H, []⟩ fun x st => match x with
        | .normal => k fn st
        | .ret => k fn st
        | _ => .fail else .fail
      | none => .fail
    | none => .fail
def evPlain {α : Type} (cf : CallF α) (lf : FuncId → LoopF) (f : FuncId) (args : List AV) (H : Heap) (k : AV → Heap → Tree α) : Tree α :=
  evBody P cf (lf f) f args H fun fn st => match st with
    | ⟨_, fr, H', []⟩ => match resultsA P fn fr H' with
      | some v => match closeA H v H' with
        | (v, H) => k v H
      | none => .fail
    | _ => .fail
def evDf {α : Type} (cf : CallF α) (lf : FuncId → LoopF) : List (FuncId × List AV) → Heap → (Heap → Tree α) → Tree α
  | [], H, k => k H
  | (f, args) :: l, H, k => evPlain P cf lf f args H fun _ H => evDf cf lf l H k
def evFun {α : Type} (env : Env) : Nat → CallF α
  | 0, _, _, _, _ => .fail
  | n + 1, f, args, H, k => match env.fn f with
    | some g => match g args H with
      | some (o, v, H') => askA o H (fun G => k v (H'.wpc G.pc)) fun _ => .fail
      | none => .fail
    | none => evBody P (evFun env n) (env.lp f) f args H fun fn st => evDf P (evFun env n) env.lp st.df st.H fun H' => match resultsA P fn st.fr H' with
      | some v => match closeA H v H' with
        | (v, H) => k v H
      | none => .fail
def none0 : Env := ⟨fun _ => none, fun _ _ => none⟩
def heap0 : Heap := ⟨0, [], [], []⟩
end
end
end Go.Proofs.Ytamibbjpapkfeaa.Ab
