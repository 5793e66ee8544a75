import Derived.Calls
import Derived.Orders
import Derived.Defers
import Derived.RowKit3
import Derived.Laws.Sem
import Derived.ChangeKeysEq
import Derived.Laws.BytesString
set_option linter.unusedVariables false
set_option linter.unusedSimpArgs false
set_option linter.unusedSectionVars false
namespace Go.Proofs.YtenkabjkgngcdaaGreat.Ab
open Go
noncomputable section
inductive Dat where
 | dB (b : Bool)
 | dI (n : Int)
 | dS (s : List UInt8)
 | dL (l : List (List Dat))
 | dP (a b : Dat)
 deriving Inhabited
def Dat.asB : Dat → Bool
 | .dB x => x
 | _ => false
def Dat.asI : Dat → Int
 | .dI n => n
 | _ => 0
def Dat.asS : Dat → List UInt8
 | .dS x => x
 | _ => []
def Dat.asL : Dat → List (List Dat)
 | .dL x => x
 | _ => []
class Rho where
 val : Nat → Dat
 fn : Nat → Dat → Dat
inductive Tm where
 | var (n : Nat)
 | cb (b : Bool)
 | ci (n : Int)
 | cs (s : List UInt8)
 | ib (op : BinOp) (k : IntKind) (x y : Tm)
 | sb (op : BinOp) (x y : Tm)
 | beq (x y : Tm)
 | not (x : Tm)
 | and (x y : Tm)
 | wrap (k : IntKind) (x : Tm)
 | ite (c x y : Tm)
 | len (x : Tm)
 | oct (x : Tm)
 | at (x i : Tm)
 | cut (x lo hi : Tm)
 | llen (l : Tm)
 | lget (l i : Tm) (j : Nat)
 | plus (x y : Tm)
 | minus (x y : Tm)
 | pair (x y : Tm)
 | app (f : Nat) (x : Tm)
 | lapp (x y : Tm)
 | row (x : Tm)
 | lput (l i r : Tm)
 | lcut (l a n : Tm)
 | flat (l : Tm)
 deriving Inhabited
def zTA (op : BinOp) (k : IntKind) (x y : Int) : Option Int :=
 let a := BitVec.ofInt k.bits x
 let b := BitVec.ofInt k.bits y
 match op with
 | .and => some (k.wrap (a &&& b).toNat)
 | .or => some (k.wrap (a ||| b).toNat)
 | .xor => some (k.wrap (a ^^^ b).toNat)
 | .andNot => some (k.wrap (a &&& ~~~b).toNat)
 | _ => none
def iop (op : BinOp) (k : IntKind) (x y : Int) : Dat := match op with
 | .add => .dI (k.wrap (x + y))
 | .sub => .dI (k.wrap (x - y))
 | .mul => .dI (k.wrap (x * y))
 | .quo => .dI (k.wrap (x.tdiv y))
 | .rem => .dI (x.tmod y)
 | .shl => .dI (k.wrap (x * 2 ^ (min y.toNat k.bits)))
 | .shr => .dI (x.fdiv (2 ^ (min y.toNat k.bits)))
 | .eql => .dB (x == y)
 | .neq => .dB (x != y)
 | .lss => .dB (decide (x < y))
 | .leq => .dB (decide (x ≤ y))
 | .gtr => .dB (decide (x > y))
 | .geq => .dB (decide (x ≥ y))
 | op => .dI ((zTA op k x y).getD 0)
def sop (op : BinOp) (x y : List UInt8) : Dat := match op with
 | .add => .dS (x ++ y)
 | .eql => .dB (x == y)
 | .neq => .dB (!(x == y))
 | .lss => .dB (Op.bytesLess x y)
 | .leq => .dB (Op.bytesLess x y || x == y)
 | .gtr => .dB (!(Op.bytesLess x y || x == y))
 | .geq => .dB (!(Op.bytesLess x y))
 | _ => .dI 0
def zDm (s : List UInt8) (n : Nat) : Int := ((s.getD n 0).toNat : Int)
def zBl (s : List UInt8) (lo hi : Int) : List UInt8 := (s.drop lo.toNat).take (hi.toNat - lo.toNat)
def cellsD : Dat → List Dat
 | .dP a b => a :: cellsD b
 | _ => []
def Tm.den [ρ : Rho] : Tm → Dat
 | .var n => ρ.val n
 | .cb b => .dB b
 | .ci n => .dI n
 | .cs s => .dS s
 | .ib op k x y => iop op k x.den.asI y.den.asI
 | .sb op x y => sop op x.den.asS y.den.asS
 | .beq x y => .dB (x.den.asB == y.den.asB)
 | .not x => .dB (!x.den.asB)
 | .and x y => .dB (x.den.asB && y.den.asB)
 | .wrap k x => .dI (k.wrap x.den.asI)
 | .ite c x y => bif c.den.asB then x.den else y.den
 | .len x => .dI (x.den.asS.length : Int)
 | .oct x => .dS [UInt8.ofNat x.den.asI.toNat]
 | .at x i => .dI (zDm x.den.asS i.den.asI.toNat)
 | .cut x lo hi => .dS (zBl x.den.asS lo.den.asI hi.den.asI)
 | .llen l => .dI (l.den.asL.length : Int)
 | .lget l i j => ((l.den.asL.getD i.den.asI.toNat []).getD j (.dI 0))
 | .plus x y => .dI (x.den.asI + y.den.asI)
 | .minus x y => .dI (x.den.asI - y.den.asI)
 | .pair x y => .dP x.den y.den
 | .app f x => ρ.fn f x.den
 | .lapp x y => .dL (x.den.asL ++ y.den.asL)
 | .row x => .dL [cellsD x.den]
 | .lput l i r => .dL (l.den.asL.set i.den.asI.toNat (cellsD r.den))
 | .lcut l a n => .dL ((l.den.asL.drop a.den.asI.toNat).take n.den.asI.toNat)
 | .flat l => .dS (l.den.asL.map fun r => UInt8.ofNat (r.getD 0 (.dI 0)).asI.toNat)
def eqL : List UInt8 → List UInt8 → Bool
 | [], [] => true
 | a :: l, b :: m => Nat.beq a.toNat b.toNat && eqL l m
 | _, _ => false
def eqZ : Int → Int → Bool
 | .ofNat a, .ofNat b => Nat.beq a b
 | .negSucc a, .negSucc b => Nat.beq a b
 | _, _ => false
def eqK (a b : IntKind) : Bool := Nat.beq a.ctorIdx b.ctorIdx
def eqO (a b : BinOp) : Bool := Nat.beq a.ctorIdx b.ctorIdx
def Tm.eqv : Tm → Tm → Bool
 | .var a, .var b => Nat.beq a b
 | .cb a, .cb b => a == b
 | .ci a, .ci b => eqZ a b
 | .cs a, .cs b => eqL a b
 | .ib o k x y, .ib o' k' x' y' => eqO o o' && eqK k k' && x.eqv x' && y.eqv y'
 | .sb o x y, .sb o' x' y' => eqO o o' && x.eqv x' && y.eqv y'
 | .beq x y, .beq x' y' => x.eqv x' && y.eqv y'
 | .not x, .not x' => x.eqv x'
 | .and x y, .and x' y' => x.eqv x' && y.eqv y'
 | .wrap k x, .wrap k' x' => eqK k k' && x.eqv x'
 | .ite c x y, .ite c' x' y' => c.eqv c' && x.eqv x' && y.eqv y'
 | .len x, .len x' => x.eqv x'
 | .oct x, .oct x' => x.eqv x'
 | .at x y, .at x' y' => x.eqv x' && y.eqv y'
 | .cut x y z, .cut x' y' z' => x.eqv x' && y.eqv y' && z.eqv z'
 | .llen x, .llen x' => x.eqv x'
 | .flat x, .flat x' => x.eqv x'
 | .lget x y j, .lget x' y' j' => x.eqv x' && y.eqv y' && Nat.beq j j'
 | .plus x y, .plus x' y' => x.eqv x' && y.eqv y'
 | .minus x y, .minus x' y' => x.eqv x' && y.eqv y'
 | .pair x y, .pair x' y' => x.eqv x' && y.eqv y'
 | .app f x, .app f' x' => Nat.beq f f' && x.eqv x'
 | .lapp x y, .lapp x' y' => x.eqv x' && y.eqv y'
 | .row x, .row x' => x.eqv x'
 | .lput x y z, .lput x' y' z' => x.eqv x' && y.eqv y' && z.eqv z'
 | .lcut x y z, .lcut x' y' z' => x.eqv x' && y.eqv y' && z.eqv z'
 | _, _ => false
def xBf : Tm → Tm
 | .cb b => .cb (!b)
 | .not x => x
 | .ib .eql k x y => .ib .neq k x y
 | .ib .neq k x y => .ib .eql k x y
 | .ib .lss k x y => .ib .geq k x y
 | .ib .geq k x y => .ib .lss k x y
 | .ib .leq k x y => .ib .gtr k x y
 | .ib .gtr k x y => .ib .leq k x y
 | x => .not x
def xI4 (x y : Tm) : Tm := match x, y with
 | .cb true, y => y
 | .cb false, y => xBf y
 | x, .cb true => x
 | x, .cb false => xBf x
 | x, y => bif x.eqv y then .cb true else .beq x y
def zSr : Tm → Tm → Tm
 | .cb true, x => x
 | .cb false, _ => .cb false
 | x, .cb true => x
 | _, .cb false => .cb false
 | x, y => .and x y
def zFA (op : BinOp) (k : IntKind) (x y : Tm) : Tm := match x, y with
 | .ci a, .ci b => match iop op k a b with
  | .dI n => .ci n
  | .dB b => .cb b
  | _ => .ib op k x y
 | .ci a, y => match op with
  | .eql => .ib .eql k y (.ci a)
  | .neq => .ib .neq k y (.ci a)
  | op => .ib op k (.ci a) y
 | x, y => bif x.eqv y then match op with
   | .eql | .leq | .geq => .cb true
   | .neq | .lss | .gtr => .cb false
   | _ => .ib op k x y
  else .ib op k x y
def zY6 (op : BinOp) (x y : Tm) : Tm := match x, y with
 | .cs a, .cs b => match sop op a b with
  | .dS n => .cs n
  | .dB b => .cb b
  | _ => .sb op x y
 | .cs a, y => match op with
  | .eql => .sb .eql y (.cs a)
  | .neq => .sb .neq y (.cs a)
  | op => .sb op (.cs a) y
 | x, y => bif x.eqv y then match op with
   | .eql => .cb true
   | .neq => .cb false
   | _ => .sb op x y
  else .sb op x y
def zYq (k : IntKind) (x : Tm) : Tm := match x with
 | .ci n => .ci (k.wrap n)
 | x => .wrap k x
def xE5 (c x y : Tm) : Tm := match c with
 | .cb true => x
 | .cb false => y
 | c => .ite c x y
def zCP (x : Tm) : Tm := match x with
 | .cs s => .ci (s.length : Int)
 | x => .len x
inductive Cap where
 | known (c : Nat)
 | unk (k : Nat)
inductive AV where
 | bool (b : Bool)
 | int (k : IntKind) (n : Int)
 | str (s : List UInt8)
 | ptr (id off : Nat)
 | nilPtr
 | slice (id off len : Nat) (cap : Cap)
 | nilSlice
 | map (id : Nat)
 | nilMap
 | func (fn : Fn) (first captured : List AV)
 | nilFunc
 | iface (t : TypeId) (v : AV)
 | nilIface
 | agg (cells : List AV)
 | tuple (vs : List AV)
 | sbool (b : Tm)
 | sint (k : IntKind) (n : Tm)
 | sstr (s : Tm)
 | eptr (id k : Nat) (i : Tm) (j : Nat)
 | sslice (id k : Nat) (off len : Tm)
 deriving Inhabited
inductive Kd where
 | kb
 | ki (k : IntKind)
 | ks
def xJ1 : Kd → Kd → Bool
 | .kb, .kb => true
 | .ki a, .ki b => eqK a b
 | .ks, .ks => true
 | _, _ => false
def zXn : List Kd → List Kd → Bool
 | [], [] => true
 | a :: l, b :: m => xJ1 a b && zXn l m
 | _, _ => false
def zI6 (l i : Tm) : Kd → Nat → AV
 | .kb, j => .sbool (.lget l i j)
 | .ki k, j => .sint k (.lget l i j)
 | .ks, j => .sstr (.lget l i j)
def zCR (l i : Tm) : List Kd → Nat → List AV
 | [], _ => []
 | k :: r, j => zI6 l i k j :: zCR l i r (j + 1)
inductive AObj where
 | row (vs : List AV) (own leaf : Bool)
 | map (es : List (AV × AV))
 | bytes (l : Tm) (own : Bool)
 | seq (sh : List Kd) (l : Tm) (own : Bool)
 | pin (b q : Nat)
 | nst (sh : List Kd) (l : Tm) (jn z N k2 : Nat)
 | abs (p : Nat) (d : Tm)
 deriving Inhabited
structure Heap where
 next : Nat
 objs : List (Nat × AObj)
 log : List Nat
 pc : List (Tm × Bool)
def look (l : List (Nat × AObj)) (id : Nat) : Option AObj := @List.rec (Nat × AObj) (fun _ => Option AObj) none (fun p _ r => @Bool.rec (fun _ => Option AObj) r (some p.2) (Nat.beq p.1 id)) l
def xCH : List (Nat × AObj) → Nat → AObj → List (Nat × AObj)
 | [], _, _ => []
 | p :: l, id, o => bif Nat.beq p.1 id then (p.1, o) :: l else p :: xCH l id o
def drp : List (Nat × AObj) → Nat → List (Nat × AObj)
 | [], _ => []
 | p :: l, id => bif Nat.beq p.1 id then drp l id else p :: drp l id
def Heap.get (H : Heap) (id : Nat) : Option AObj := look H.objs id
def Heap.upd (H : Heap) (id : Nat) (o : AObj) : Heap := ⟨H.next, xCH H.objs id o, id :: H.log, H.pc⟩
def Heap.new (H : Heap) (o : AObj) : Heap := ⟨H.next + 1, (H.next, o) :: H.objs, H.log, H.pc⟩
def Heap.kill (H : Heap) (id : Nat) : Heap := ⟨H.next, drp H.objs id, id :: H.log, H.pc⟩
def Heap.wpc (H : Heap) (pc : List (Tm × Bool)) : Heap := ⟨H.next, H.objs, H.log, pc⟩
def Heap.ask (H : Heap) (c : Tm) (b : Bool) : Heap := ⟨H.next, H.objs, H.log, (c, b) :: H.pc⟩
abbrev zBK : AV := .tuple []
def AV.cells : AV → List AV
 | .agg cs => cs
 | v => [v]
def zCo : AV → Bool
 | .agg _ | .tuple _ => false
 | _ => true
mutual
def flat : AV → Bool
 | .ptr .. | .slice .. | .map _ | .eptr .. | .sslice .. => false
 | .func _ a b => flats a && flats b
 | .iface _ v => flat v
 | .agg l | .tuple l => flats l
 | _ => true
def flats : List AV → Bool
 | [] => true
 | v :: l => flat v && flats l
end
mutual
def refs : AV → List Nat
 | .ptr id _ | .slice id _ _ _ | .map id | .eptr id _ _ _ | .sslice id _ _ _ => [id]
 | .func _ a b => zId a ++ zId b
 | .iface _ v => refs v
 | .agg l | .tuple l => zId l
 | _ => []
def zId : List AV → List Nat
 | [] => []
 | v :: l => refs v ++ zId l
end
def tmB : AV → Option Tm
 | .bool b => some (.cb b)
 | .sbool t => some t
 | _ => none
def tmI : AV → Option (IntKind × Tm)
 | .int k n => some (k, .ci n)
 | .sint k t => some (k, t)
 | _ => none
def tmS : AV → Option Tm
 | .str s => some (.cs s)
 | .sstr t => some t
 | _ => none
def mkB : Tm → AV
 | .cb b => .bool b
 | t => .sbool t
def mkI (k : IntKind) : Tm → AV
 | .ci n => .int k n
 | t => .sint k t
def mkS : Tm → AV
 | .cs s => .str s
 | t => .sstr t
def zJF : AV → Bool
 | .sbool _ | .sint _ _ | .sstr _ => true
 | _ => false
def xHw : Value → Option AV
 | .bool b => some (.bool b)
 | .int k n => some (.int k n)
 | .string s => some (.str s.data.toList)
 | .pointer none => some .nilPtr
 | .slice none 0 0 => some .nilSlice
 | .map none => some .nilMap
 | .nilFunc => some .nilFunc
 | .nilIface => some .nilIface
 | _ => none
def xBe : List Value → Option (List AV)
 | [] => some []
 | v :: l => match xHw v, xBe l with
  | some x, some y => some (x :: y)
  | _, _ => none
def ofV : Value → Option AV
 | .agg cs => (xBe cs.toList).map .agg
 | .tuple cs => (xBe cs.toList).map .tuple
 | .func fn a b => if a.size = 0 && b.size = 0 then some (.func fn [] []) else none
 | v => xHw v
def takeN : List AV → Nat → Option (List AV)
 | _, 0 => some []
 | [], _ + 1 => none
 | v :: vs, n + 1 => match takeN vs n with
  | some l => some (v :: l)
  | none => none
def over : List AV → List AV → Option (List AV)
 | vs, [] => some vs
 | [], _ :: _ => none
 | _ :: vs, n :: ns => match over vs ns with
  | some l => some (n :: l)
  | none => none
def putAt : List AV → Nat → List AV → Option (List AV)
 | vs, 0, new => over vs new
 | [], _ + 1, _ => none
 | v :: vs, off + 1, new => match putAt vs off new with
  | some l => some (v :: l)
  | none => none
def zEq (vs : List AV) (off n : Nat) : Option (List AV) := takeN (vs.drop off) n
section
variable (P : Program)
def zFv (t : TypeId) : Option Nat := match P.info? t with
 | some i => some i.size
 | none => none
def zKh (t : TypeId) : Option AV := match P.info? t with
 | some i => match i.zero with
  | some v => ofV v
  | none => none
 | none => none
def xHc (t : TypeId) : Option Bool := match P.underlying t with
 | some (.struct _) | some (.array _ _) => some true
 | some _ => some false
 | none => none
def zHk (t : TypeId) (cs : List AV) (off : Nat) : Option AV :=
 match xHc P t with
 | some true => match zFv P t with
  | some n => match zEq cs off n with
   | some l => some (.agg l)
   | none => none
  | none => none
 | some false => cs[off]?
 | none => none
mutual
def eqA : Nat → TypeId → AV → AV → Option Tm
 | 0, _, _, _ => none
 | d + 1, t, x, y =>
  match P.underlying t, x, y with
  | some .bool, .bool a, .bool b => some (.cb (a == b))
  | some (.int _), .int k a, .int k' b => if k = k' then some (.cb (a == b)) else none
  | some .string, .str a, .str b => some (.cb (a == b))
  | some .bool, x, y => match tmB x, tmB y with
   | some a, some b => some (xI4 a b)
   | _, _ => none
  | some (.int _), x, y => match tmI x, tmI y with
   | some (k, a), some (k', b) => if k = k' then some (zFA .eql k a b) else none
   | _, _ => none
  | some .string, x, y => match tmS x, tmS y with
   | some a, some b => some (zY6 .eql a b)
   | _, _ => none
  | some (.pointer _), .nilPtr, .nilPtr => some (.cb true)
  | some (.pointer _), .nilPtr, .ptr _ _ => some (.cb false)
  | some (.pointer _), .ptr _ _, .nilPtr => some (.cb false)
  | some (.pointer e), .ptr i a, .ptr j b => match zFv P e with
   | some 0 => none
   | some _ => if i = j then some (.cb (a == b)) else none
   | none => none
  | some (.interface _), .nilIface, .nilIface => some (.cb true)
  | some (.interface _), .nilIface, .iface _ _ => some (.cb false)
  | some (.interface _), .iface _ _, .nilIface => some (.cb false)
  | some (.struct fs), .agg xs, .agg ys => if P.stoodInHeld t then none else zYo d fs.toList xs ys
  | some (.array len e), .agg xs, .agg ys => match zFv P e with
   | some n => zZI d e n len 0 xs ys
   | none => none
  | some (.slice _), .nilSlice, .nilSlice => some (.cb true)
  | some (.slice _), .nilSlice, .slice .. => some (.cb false)
  | some (.slice _), .slice .., .nilSlice => some (.cb false)
  | some (.map _ _), .nilMap, .nilMap => some (.cb true)
  | some (.map _ _), .nilMap, .map _ => some (.cb false)
  | some (.map _ _), .map _, .nilMap => some (.cb false)
  | some (.func _ _ _), .nilFunc, .nilFunc => some (.cb true)
  | some (.func _ _ _), .nilFunc, .func .. => some (.cb false)
  | some (.func _ _ _), .func .., .nilFunc => some (.cb false)
  | _, _, _ => none
def zYo : Nat → List Field → List AV → List AV → Option Tm
 | _, [], _, _ => some (.cb true)
 | 0, _ :: _, _, _ => none
 | d + 1, f :: fs, xs, ys =>
  if f.name ≠ "_" then
   match zHk P f.type xs f.offset, zHk P f.type ys f.offset with
   | some a, some b => match eqA d f.type a b, zYo d fs xs ys with
    | some p, some q => some (zSr p q)
    | _, _ => none
   | _, _ => none
  else zYo d fs xs ys
def zZI : Nat → TypeId → Nat → Nat → Nat → List AV → List AV → Option Tm
 | _, _, _, 0, _, _, _ => some (.cb true)
 | 0, _, _, _ + 1, _, _, _ => none
 | d + 1, e, n, len + 1, i, xs, ys =>
  match zHk P e xs (i * n), zHk P e ys (i * n) with
  | some a, some b => match eqA d e a b, zZI d e n len (i + 1) xs ys with
   | some p, some q => some (zSr p q)
   | _, _ => none
  | _, _ => none
end
def xDu (op : BinOp) (k : IntKind) (x y : Int) : Option AV :=
 match op with
 | .add => some (.int k (k.wrap (x + y)))
 | .sub => some (.int k (k.wrap (x - y)))
 | .mul => some (.int k (k.wrap (x * y)))
 | .quo => if y = 0 then none else some (.int k (k.wrap (x.tdiv y)))
 | .rem => if y = 0 then none else some (.int k (x.tmod y))
 | .and | .or | .xor | .andNot => match zTA op k x y with
  | some n => some (.int k n)
  | none => none
 | .eql => some (.bool (x == y))
 | .neq => some (.bool (x != y))
 | .lss => some (.bool (decide (x < y)))
 | .leq => some (.bool (decide (x ≤ y)))
 | .gtr => some (.bool (decide (x > y)))
 | .geq => some (.bool (decide (x ≥ y)))
 | _ => none
def xEv (op : BinOp) (x y : List UInt8) : Option AV :=
 match op with
 | .add => if x.length + y.length ≤ 9223372036854775807 then some (.str (x ++ y)) else none
 | .eql => some (.bool (x == y))
 | .neq => some (.bool (!(x == y)))
 | .lss => some (.bool (Op.bytesLess x y))
 | .leq => some (.bool (Op.bytesLess x y || x == y))
 | .gtr => some (.bool (!(Op.bytesLess x y || x == y)))
 | .geq => some (.bool (!(Op.bytesLess x y)))
 | _ => none
def zB0 : Nat := 500
def zAG : Operand → Bool
 | .const _ => true
 | _ => false
def zOc (t : TypeId) (cst : Bool) : AV → AV → Bool
 | .nilIface, .nilIface => cst
 | .agg _, .agg _ => !P.eqGuardType P.depth t
 | _, _ => true
def xIN (x y : AV) : Option AV := match x, y with
 | .int k a, .int _ b => if b < 0 then none else some (.int k (k.wrap (a * 2 ^ (min b.toNat k.bits))))
 | .sint k a, .int _ b => if b < 0 then none else some (.sint k (.ib .shl k a (.ci b)))
 | _, _ => none
def xIM (x y : AV) : Option AV := match x, y with
 | .int k a, .int _ b => if b < 0 then none else some (.int k (a.fdiv (2 ^ (min b.toNat k.bits))))
 | .sint k a, .int _ b => if b < 0 then none else some (.sint k (.ib .shr k a (.ci b)))
 | _, _ => none
def xH3 (t : TypeId) (cst neg : Bool) (x y : AV) : Option AV :=
 bif zOc P t cst x y then match eqA P zB0 t x y with
  | some b => some (mkB (bif neg then xBf b else b))
  | none => none else none
def xDS (op : BinOp) (t : TypeId) (cst : Bool) (x y : AV) : Option AV := match op with
 | .eql => xH3 P t cst false x y
 | .neq => xH3 P t cst true x y
 | _ => none
def zLj : BinOp → Bool
 | .eql | .neq | .lss | .leq | .gtr | .geq => true
 | _ => false
def zPC : BinOp → Bool
 | .add | .sub | .mul | .and | .or | .xor | .andNot => true
 | _ => false
def xHF (op : BinOp) (k : IntKind) (a b : Tm) : Option AV :=
 bif zLj op then some (mkB (zFA op k a b)) else bif zPC op then some (mkI k (zFA op k a b)) else match op, b with
  | .quo, .ci n | .rem, .ci n => if n = 0 then none else some (mkI k (zFA op k a b))
  | _, _ => none
def xHE (op : BinOp) (a b : Tm) : Option AV := bif zLj op then some (mkB (zY6 op a b)) else none
def xHZ (op : BinOp) (t : TypeId) (cst : Bool) (x y : AV) : Option AV := match x, y with
 | .int k a, .int k' b => if k = k' then xDu op k a b else none
 | .str a, .str b => xEv op a b
 | x, y => match tmI x, tmI y with
  | some (k, a), some (k', b) => if k = k' then xHF op k a b else none
  | _, _ => match tmS x, tmS y with
   | some a, some b => xHE op a b
   | _, _ => xDS P op t cst x y
def xH5 (op : BinOp) (t : TypeId) (cst : Bool) (x y : AV) : Option AV :=
 match op with
 | .shl => xIN x y
 | .shr => xIM x y
 | op => xHZ P op t cst x y
def xDf (op : BinOp) (x y : AV) : Option (Tm × AV) := match op with
 | .add => bif zJF x || zJF y then match tmS x, tmS y with
   | some a, some b => some (zFA .leq .i64 (.plus (zCP a) (zCP b)) (.ci 9223372036854775807), .sstr (.sb .add a b))
   | _, _ => none
  else none
 | .quo => match tmI x, y with
  | some (k, a), .sint k' b => if k = k' then some (zFA .neq k b (.ci 0), .sint k (.ib .quo k a b)) else none
  | _, _ => none
 | .rem => match tmI x, y with
  | some (k, a), .sint k' b => if k = k' then some (zFA .neq k b (.ci 0), .sint k (.ib .rem k a b)) else none
  | _, _ => none
 | .shl => match tmI x, y with
  | some (k, a), .sint k' b => some (zFA .leq k' (.ci 0) b, .sint k (.ib .shl k a b))
  | _, _ => none
 | .shr => match tmI x, y with
  | some (k, a), .sint k' b => some (zFA .leq k' (.ci 0) b, .sint k (.ib .shr k a b))
  | _, _ => none
 | _ => none
def unA (op : UnOp) (x : AV) : Option AV :=
 match op, x with
 | .neg, .int k n => some (.int k (k.wrap (0 - n)))
 | .neg, .sint k t => some (.sint k (.ib .sub k (.ci 0) t))
 | .xor, .int k n => match zTA .xor k (if k.signed then -1 else k.max) n with
  | some m => some (.int k m)
  | none => none
 | .xor, .sint k t => some (.sint k (.ib .xor k (.ci (if k.signed then -1 else k.max)) t))
 | .not, .bool b => some (.bool (!b))
 | .not, .sbool t => some (mkB (xBf t))
 | _, _ => none
def xFH : List AV → Option (List UInt8)
 | [] => some []
 | .int .u8 n :: l => match xFH l with
  | some r => some (UInt8.ofNat n.toNat :: r)
  | none => none
 | _ => none
def zPy : List AV → Option Tm
 | [] => some (.cs [])
 | .int .u8 n :: l => match zPy l with
  | some r => some (zY6 .add (.cs [UInt8.ofNat n.toNat]) r)
  | none => none
 | .sint .u8 t :: l => match zPy l with
  | some r => some (zY6 .add (.oct t) r)
  | none => none
 | _ => none
def zF7 (s : List UInt8) : List AV := s.map fun b => .int .u8 (b.toNat : Int)
def zPU (src dst : TypeId) (x : AV) (H : Heap) : Option (AV × Heap) :=
 match P.underlying src, P.underlying dst, x with
 | some _, some (.int k), .int _ n => some (.int k (k.wrap n), H)
 | some _, some (.int k), .sint _ t => some (mkI k (zYq k t), H)
 | some (.slice e), some .string, .nilSlice => match P.underlying e with
   | some (.int .u8) => some (.str [], H)
   | _ => none
 | some (.slice e), some .string, .slice id off len _ => match P.underlying e with
   | some (.int .u8) => match H.get id with
    | some (.row vs _ _) => match zEq vs off len with
     | some l => match xFH l with
      | some s => some (.str s, H)
      | none => match zPy l with
       | some t => some (mkS t, H)
       | none => none
     | none => none
    | _ => none
   | _ => none
 | some (.slice e), some .string, .sslice id k off len => match P.underlying e with
   | some (.int .u8) => match H.get id with
    | some (.bytes l _) => match Nat.beq k 1 with
     | true => some (.sstr (.cut l off (.plus off len)), H)
     | false => none
    | some (.seq sh l _) => match zXn sh [.ki .u8] && (off.eqv (.ci 0) && len.eqv (.llen l)) with
     | true => some (.sstr (.flat l), H)
     | false => none
    | _ => none
   | _ => none
 | some (.slice _), some .string, _ => none
 | some _, some .string, .str s => some (.str s, H)
 | some _, some .string, .sstr t => some (.sstr t, H)
 | some _, some (.slice e), .str s => match P.underlying e with
   | some (.int .u8) => some (.slice H.next 0 s.length (.unk 1), H.new (.row (zF7 s) true true))
   | _ => none
 | some _, some (.slice e), .sstr t => match P.underlying e with
   | some (.int .u8) => some (.sslice H.next 1 (.ci 0) (zCP t), H.new (.bytes t true))
   | _ => none
 | _, _, _ => none
def zPI (place : Nat → Option (Nat × Nat)) (cells : List AV) : List (Nat × AV) → Option (List AV)
 | [] => some cells
 | (i, v) :: rest => match place i with
  | none => none
  | some (off, size) => if v.cells.length ≠ size then none else match putAt cells off v.cells with
   | some c => zPI place c rest
   | none => none
def zJ2 : List Field → Option (List (Nat × Nat))
 | [] => some []
 | f :: fs => match zFv P f.type, zJ2 fs with
  | some n, some l => some ((f.offset, n) :: l)
  | _, _ => none
def zBJ (t : TypeId) : Option (List AV) := match zKh P t with
 | some v => some v.cells
 | none => none
def xHs : Nat → List AV → List AV
 | 0, _ => []
 | n + 1, l => l ++ xHs n l
def zYa (t : TypeId) (parts : List (Nat × AV)) : Option AV :=
 match zBJ P t with
 | none => none
 | some zero => match P.underlying t with
  | some (.struct fs) => match zJ2 P fs.toList with
   | some pl => match zPI (fun i => pl[i]?) zero parts with
    | some c => some (.agg c)
    | none => none
   | none => none
  | some (.array _ e) => match zFv P e with
   | some n => match zPI (fun i => some (i * n, n)) zero parts with
    | some c => some (.agg c)
    | none => none
   | none => none
  | _ => none
def zKs (e : TypeId) (n : Nat) : Option (List AV) := match zBJ P e, zFv P e with
 | some z, some k => if z.length = k ∧ 0 < k then some (xHs n z) else none
 | _, _ => none
def zA4 (l : List AV) : Bool := l.all zCo
def zC3 (t : TypeId) (len : Nat) (parts : List (Nat × AV)) (H : Heap) : Option (AV × Heap) :=
 match P.underlying t with
 | some (.slice e) => match zFv P e, zKs P e len with
  | some k, some z => if len * k ≤ 65536 then match zPI (fun i => some (i * k, k)) z parts with
   | some c => if zA4 c then some (.slice H.next 0 len (.known len), H.new (.row c true (flats c))) else none
   | none => none else none
  | _, _ => none
 | _ => none
def xB5 (v : AV) (H : Heap) : Option (AV × Heap) :=
 if zA4 v.cells then some (.ptr H.next 0, H.new (.row v.cells true (flats v.cells))) else none
def zL0 (elem : TypeId) (H : Heap) : Option (AV × Heap) := match zKh P elem with
 | some v => xB5 v H
 | none => none
def zSU (t : TypeId) (cs : List AV) (j : Nat) : Option AV := match xHc P t with
 | some true => match zFv P t with
  | some n => match zEq cs j n with
   | some l => some (.agg l)
   | none => none
  | none => none
 | some false => cs[j]?
 | none => none
def zMc (l : Tm) (r : Nat) (jn z k2 : Nat) (kd : Kd) (j : Nat) : AV := bif Nat.beq j jn then .sslice (z + r) k2 (.ci 0) (.llen (.lget l (.ci (r : Int)) j)) else zI6 l (.ci (r : Int)) kd j
def zCU (l : Tm) (r : Nat) (jn z k2 : Nat) : List Kd → Nat → List AV
 | [], _ => []
 | kd :: sh, j => zMc l r jn z k2 kd j :: zCU l r jn z k2 sh (j + 1)
def zWB (t : TypeId) (a : AV) (H : Heap) : Option AV :=
 match a with
 | .eptr id k i j => match H.get id with
  | some (.bytes l _) => match k, j with
   | 1, 0 => zSU P t [.sint .u8 (.at l i)] 0
   | _, _ => none
  | some (.seq sh l _) => bif Nat.beq sh.length k && Nat.blt 0 k then zSU P t (zCR l i sh 0) j else none
  | some (.nst sh l jn z _ k2) => match i with
   | .ci (.ofNat r) => bif Nat.beq sh.length k && Nat.blt 0 k then zSU P t (zCU l r jn z k2 sh 0) j else none
   | _ => none
  | _ => none
 | .ptr id off => match H.get id with
  | some (.row vs _ _) => match xHc P t with
   | some true => match zFv P t with
    | some n => match zEq vs off n with
     | some l => some (.agg l)
     | none => none
    | none => none
   | some false => vs[off]?
   | none => none
  | _ => none
 | _ => none
def zB6 : List Kd → List AV → Option Tm
 | [], [] => some (.cb false)
 | .kb :: r, v :: l => match tmB v, zB6 r l with
  | some t, some u => some (.pair t u)
  | _, _ => none
 | .ki k :: r, v :: l => match tmI v, zB6 r l with
  | some (k', t), some u => bif eqK k k' then some (.pair t u) else none
  | _, _ => none
 | .ks :: r, v :: l => match tmS v, zB6 r l with
  | some t, some u => some (.pair t u)
  | _, _ => none
 | _, _ => none
def zKv (t : TypeId) (a v : AV) (H : Heap) : Option Heap :=
 match a with
 | .ptr id off => match H.get id, zFv P t with
  | some (.row vs true lf), some n => if v.cells.length = n ∧ zA4 v.cells = true then match putAt vs off v.cells with
   | some c => some (H.upd id (.row c true (lf && flats v.cells)))
   | none => none else none
  | _, _ => none
 | .eptr id k i j => match H.get id, zFv P t with
  | some (.seq sh tm true), some n => if v.cells.length = n ∧ zA4 v.cells = true ∧ n = k ∧ sh.length = k ∧ j = 0 ∧ 0 < k then match zB6 sh v.cells with
   | some r => some (H.upd id (.seq sh (.lput tm i r) true))
   | none => none else none
  | _, _ => none
 | _ => none
def zH3 (s : TypeId) (a : AV) (f : Nat) : Option AV :=
 match P.underlying s, a with
 | some (.struct fs), .ptr id off => match fs[f]? with
  | some fd => match zFv P fd.type with
   | some (_ + 1) => some (.ptr id (off + fd.offset))
   | _ => none
  | none => none
 | some (.struct fs), .eptr id k i j => match fs[f]? with
  | some fd => match zFv P fd.type with
   | some (_ + 1) => some (.eptr id k i (j + fd.offset))
   | _ => none
  | none => none
 | _, _ => none
def zXg (t : TypeId) (x : AV) (f : Nat) : Option AV :=
 match P.underlying t, x with
 | some (.struct fs), .agg cs => match fs[f]? with
  | some fd => zHk P fd.type cs fd.offset
  | none => none
 | _, _ => none
def zCx (t : TypeId) (x i : AV) : Option AV :=
 match i with
 | .int _ i => match P.underlying t, x with
  | some (.array len e), .ptr id off => match zFv P e with
   | some k => if 0 ≤ i ∧ i < len then some (.ptr id (off + i.toNat * k)) else none
   | none => none
  | some (.slice e), .slice id off len _ => match zFv P e with
   | some k => if 0 ≤ i ∧ i < len then some (.ptr id (off + i.toNat * k)) else none
   | none => none
  | _, _ => none
 | _ => none
def zJK (t : TypeId) (x i : AV) : Option AV :=
 match i with
 | .int _ i => match P.underlying t, x with
  | some (.array len e), .agg cs => match zFv P e with
   | some k => if 0 ≤ i ∧ i < len then zHk P e cs (i.toNat * k) else none
   | none => none
  | some .string, .str s => if 0 ≤ i then match s[i.toNat]? with
   | some b => some (.int .u8 (b.toNat : Int))
   | none => none else none
  | _, _ => none
 | _ => none
def zJI (n m : Tm) : Tm := zSr (zFA .leq .i64 (.ci 0) n) (zFA .lss .i64 n m)
def zWS (t : TypeId) (x i : AV) : Option (Tm × AV) := bif zJF x || zJF i then match tmI i, P.underlying t, tmS x with
 | some (_, n), some .string, some s => some (zJI n (zCP s), .sint .u8 (.at s n))
 | _, _, _ => none
 else none
def places (f : Nat → AV) (n : Tm) : Nat → List (Tm × AV) → List (Tm × AV)
 | 0, l => l
 | m + 1, l => places f n m ((zFA .eql .i64 n (.ci (m : Int)), f m) :: l)
def zWT (t : TypeId) (x i : AV) : Option (List (Tm × AV)) := match x, i with
 | .agg cs, .sint _ n => match P.underlying t with
  | some (.array len e) => match zFv P e with
   | some k => bif (List.range len).all (fun j => (zHk P e cs (j * k)).isSome) then some (places (fun j => (zHk P e cs (j * k)).getD zBK) n len []) else none
   | none => none
  | _ => none
 | _, _ => none
def zMb (a b : Tm) : Tm := match a, b with
 | .ci (.ofNat 0), b => b
 | a, .ci (.ofNat 0) => a
 | .ci a, .ci b => .ci (a + b)
 | a, b => .plus a b
def zH0 (t : TypeId) (x i : AV) : Option (List (Tm × AV)) := match x with
 | .ptr id off => match i, P.underlying t with
  | .sint _ n, some (.array len e) => match zFv P e with
   | some k => some (places (fun j => .ptr id (off + j * k)) n len [])
   | none => none
  | _, _ => none
 | .slice id off len _ => match i, P.underlying t with
  | .sint _ n, some (.slice e) => match zFv P e with
   | some k => some (places (fun j => .ptr id (off + j * k)) n len [])
   | none => none
  | _, _ => none
 | .sslice id k off len => match tmI i, P.underlying t with
  | some (_, n), some (.slice e) => if zFv P e = some k then some [(zJI n len, .eptr id k (zMb off n) 0)] else none
  | _, _ => none
 | _ => none
def xHp : Option AV → Bool
 | none => false
 | some v => zJF v
def tmO (d : Tm) : Option AV → Option Tm
 | none => some d
 | some v => match tmI v with
  | some (_, n) => some n
  | none => none
def zL3 (lo hi len : Tm) : Tm := zSr (zSr (zFA .leq .i64 (.ci 0) lo) (zFA .leq .i64 lo hi)) (zFA .leq .i64 hi len)
def zR0 (a b : Tm) : Tm := match b with
 | .ci (.ofNat 0) => a
 | .ci n => match a with
  | .ci m => .ci (m - n)
  | a => .minus a (.ci n)
 | b => .minus a b
def zUc (t : TypeId) (x : AV) (lo hi : Option AV) : Option (Tm × AV) := match x with
 | .sslice id k off len => match P.underlying t, tmO (.ci 0) lo, tmO len hi with
  | some (.slice e), some l, some h => if zFv P e = some k then some (zL3 l h len, .sslice id k (zMb off l) (zR0 h l)) else none
  | _, _, _ => none
 | x => bif zJF x || xHp lo || xHp hi then match tmS x with
  | some s => match P.underlying t, tmO (.ci 0) lo, tmO (zCP s) hi with
   | some .string, some l, some h => some (zL3 l h (zCP s), .sstr (.cut s l h))
   | _, _, _ => none
  | none => none else none
def zAC (x : Option AV) (y d : Nat) : Option Nat := match x with
 | none => some d
 | some (.int _ i) => if 0 ≤ i ∧ i ≤ y then some i.toNat else none
 | some _ => none
def zUd (t : TypeId) (x : AV) (lo hi : Option AV) (H : Heap) : Option AV :=
 match P.underlying t, x with
 | some .string, .str s => match zAC hi s.length s.length with
  | some h => match zAC lo h 0 with
   | some l => some (.str ((s.drop l).take (h - l)))
   | none => none
  | none => none
 | some (.slice e), .nilSlice => match zFv P e, zAC hi 0 0 with
  | some _, some h => match zAC lo h 0 with
   | some _ => some .nilSlice
   | none => none
  | _, _ => none
 | some (.slice e), .slice id off len (.known c) => match zFv P e with
  | some k => match zAC hi c len with
   | some h => match zAC lo h 0 with
    | some l => some (.slice id (if c = l then off else off + l * k) (h - l) (.known (c - l)))
    | none => none
   | none => none
  | none => none
 | some (.slice e), .slice id off len (.unk k) => match H.get id with
  | some (.row vs _ _) => if zFv P e = some k ∧ 0 < k then match zAC hi ((vs.length - off) / k) len with
   | some h => match zAC lo h 0 with
    | some l => some (.slice id (off + l * k) (h - l) (.unk k))
    | none => none
   | none => none else none
  | _ => none
 | some (.array n e), .ptr id off => match zFv P e with
  | some k => match zAC hi n n with
   | some h => match zAC lo h 0 with
    | some l => some (.slice id (if n = l then off else off + l * k) (h - l) (.known (n - l)))
    | none => none
   | none => none
  | none => none
 | _, _ => none
def xCm (k : Nat) (x : AV) (n : Nat) (H : Heap) : Option (List AV) := match x with
 | .nilSlice => some []
 | .slice id off _ _ => match H.get id with
  | some (.row vs _ _) => zEq vs off (n * k)
  | _ => none
 | .str s => match Nat.beq k 1 with
  | true => some (zF7 (s.take n))
  | false => none
 | _ => none
def zYn : AV → Option Nat
 | .nilSlice => some 0
 | .slice _ _ n _ => some n
 | .str s => some s.length
 | _ => none
def small : Nat := 4294967296
def bytesOf (t : TypeId) : Option Nat := match P.info? t with
 | some i => some i.bytes
 | none => none
def zXb (cells : List AV) (n k : Nat) (lf : Bool) (H : Heap) : AV × Heap := (.slice H.next 0 n (.unk k), H.new (.row cells true lf))
def zHE (t : TypeId) (s x : AV) (H : Heap) : Option (AV × Heap) :=
 match P.underlying t with
 | some (.slice e) => match zFv P e, bytesOf P e, zBJ P e, zYn x with
  | some (k' + 1), some by', some z, some m => if by' ≤ 1024 ∧ z.length = k' + 1 ∧ zA4 z = true then match xCm (k' + 1) x m H with
   | some new => if zA4 new = true then match s with
    | .nilSlice => if m = 0 then some (.nilSlice, H) else if m ≤ small then some (zXb new m (k' + 1) (flats new) H) else none
    | .slice id off len (.known c) => match H.get id with
     | some (.row vs own lf) => if len + m ≤ c then
       if own = true then match putAt vs (off + len * (k' + 1)) new with
        | some v => some (.slice id off (len + m) (.known c), H.upd id (.row v true (lf && flats new)))
        | none => none
       else if m = 0 then some (s, H) else none
      else if len + m ≤ small then match zEq vs off (len * (k' + 1)) with
       | some old => some (zXb (old ++ new) (len + m) (k' + 1) (lf && flats new) H)
       | none => none else none
     | _ => none
    | .slice id off len (.unk k) => match H.get id with
     | some (.row vs own lf) => if k = k' + 1 then
       if m = 0 then some (s, H) else if own = true ∧ len + m ≤ small then
        if off + (len + m) * k ≤ vs.length then match putAt vs (off + len * k) new with
         | some v => some (.slice id off (len + m) (.unk k), H.upd id (.row v true (lf && flats new)))
         | none => none
        else match zEq vs off (len * k) with
         | some old => some (zXb (old ++ new) (len + m) k (lf && flats new) (H.kill id))
         | none => none
       else none
      else none
     | _ => none
    | _ => none
   else none
   | none => none
  else none
  | _, _, _, _ => none
 | _ => none
def zT3 (t : TypeId) (d x : AV) (H : Heap) : Option (AV × Heap) :=
 match P.underlying t, zYn x with
 | some (.slice e), some m => match zFv P e, d with
  | some (k + 1), .slice id off len _ => match xCm (k + 1) x (Nat.min m len) H, H.get id with
   | some new, some (.row vs true lf) => if zA4 new = true then match putAt vs off new with
    | some v => some (.int .i64 (Nat.min m len : Nat), H.upd id (.row v true (lf && flats new)))
    | none => none else none
   | _, _ => none
  | _, _ => none
 | _, _ => none
def zLx (t : TypeId) (x : AV) (H : Heap) : Option (AV × Heap) :=
 match P.underlying t, x with
 | some (.slice _), .nilSlice => some (zBK, H)
 | some (.slice e), .slice id off n _ => if n = 0 then some (zBK, H) else match zKs P e n, H.get id with
  | some z, some (.row vs true lf) => if zA4 z = true then match putAt vs off z with
   | some v => some (zBK, H.upd id (.row v true (lf && flats z)))
   | none => none else none
  | _, _ => none
 | _, _ => none
def xDk (x y : AV) : Option AV := match x, y with
 | .int k a, .int _ b => some (.int k (if b < a then b else a))
 | x, y => match tmI x, tmI y with
  | some (k, a), some (_, b) => some (mkI k (xE5 (zFA .lss k b a) b a))
  | _, _ => none
def xDl (x y : AV) : Option AV := match x, y with
 | .int k a, .int _ b => some (.int k (if b > a then b else a))
 | x, y => match tmI x, tmI y with
  | some (k, a), some (_, b) => some (mkI k (xE5 (zFA .gtr k b a) b a))
  | _, _ => none
def zTt (f : AV → AV → Option AV) : AV → List AV → Option AV
 | x, [] => some x
 | x, y :: l => match f x y with
  | some z => zTt f z l
  | none => none
def zWF (t : TypeId) (x : AV) (H : Heap) : Option AV :=
 match P.underlying t, x with
 | some .string, .str s => some (.int .i64 (s.length : Nat))
 | some .string, .sstr s => some (mkI .i64 (zCP s))
 | some (.array n _), _ => some (.int .i64 (n : Nat))
 | some (.pointer a), _ => match P.underlying a with
  | some (.array n _) => some (.int .i64 (n : Nat))
  | _ => none
 | some (.slice _), .nilSlice => some (.int .i64 0)
 | some (.slice _), .slice _ _ n _ => some (.int .i64 (n : Nat))
 | some (.slice _), .sslice _ _ _ n => some (mkI .i64 n)
 | some (.map _ _), .nilMap => some (.int .i64 0)
 | some (.map _ _), .map id => match H.get id with
  | some (.map es) => some (.int .i64 (es.length : Nat))
  | _ => none
 | _, _ => none
def zTg (l a n : Tm) : Tm := bif a.eqv (.ci 0) && n.eqv (.llen l) then l else .lcut l a n
def zSB (sh : List Kd) : Nat → List AV → Option Tm
 | 0, _ => none
 | n + 1, vs => bif Nat.beq vs.length sh.length then (match zB6 sh vs with
   | some r => some (.row r)
   | none => none)
  else match zB6 sh (vs.take sh.length), zSB sh n (vs.drop sh.length) with
   | some r, some u => some (.lapp (.row r) u)
   | _, _ => none
def xHq (sh : List Kd) (n : Tm) (x : AV) (H : Heap) : Option (Tm × Tm) := match x with
 | .sslice id k off len => match H.get id with
  | some (.seq sh' tm _) => bif zXn sh sh' && Nat.beq k sh.length then some (.ib .leq .i64 (zMb n len) (.ci 4294967296), zTg tm off len) else none
  | _ => none
 | x => match zYn x with
  | some (m + 1) => match xCm sh.length x (m + 1) H with
   | some new => bif zA4 new && Nat.beq new.length ((m + 1) * sh.length) then (match zSB sh (m + 2) new with
    | some u => bif Nat.blt m 4294967295 then some (.ib .lss .i64 n (.ci (4294967295 - (m : Int))), u) else none
    | none => none) else none
   | none => none
  | _ => none
def zFD (b : Builtin) (ts : Array TypeId) (args : List AV) (H : Heap) : Option (Tm × AV × Heap) := match b, args with
 | .append, [s, x] => match ts[0]?, ts[1]? with
  | some t, some u => match P.underlying u with
   | some (.int _) => none
   | some _ => match P.underlying t with
    | some (.slice e) => match zFv P e, bytesOf P e, zBJ P e with
     | some (k' + 1), some by', some z => if by' ≤ 1024 ∧ z.length = k' + 1 ∧ zA4 z = true then match s with
      | .sslice id k off len => match H.get id with
       | some (.seq sh tm true) => bif Nat.beq k (k' + 1) && Nat.beq sh.length (k' + 1) then (match xHq sh len x H with
        | some (q, u) => some (q, .sslice H.next k (.ci 0) (.llen (.lapp (zTg tm off len) u)), (H.kill id).new (.seq sh (.lapp (zTg tm off len) u) true))
        | none => none) else none
       | _ => none
      | .nilSlice => match x with
       | .sslice id k off len => match H.get id with
        | some (.seq sh tm o) => bif Nat.beq k (k' + 1) && Nat.beq sh.length (k' + 1) then (match xHq sh (.ci 0) (.sslice id k off len) H with
         | some (q, u) => some (q, .sslice H.next k (.ci 0) (.llen u), H.new (.seq sh u true))
         | none => none) else none
        | _ => none
       | _ => none
      | _ => none
      else none
     | _, _, _ => none
    | _ => none
   | none => none
  | _, _ => none
 | _, _ => none
def plainEq : AV → AV → Bool
 | .bool a, .bool b => a == b
 | .int k a, .int k' b => k == k' && a == b
 | .str a, .str b => a == b
 | .agg a, .agg b => plainEqs a b
 | _, _ => false
where plainEqs : List AV → List AV → Bool
 | [], [] => true
 | .bool a :: l, .bool b :: m => a == b && plainEqs l m
 | .int k a :: l, .int k' b :: m => k == k' && a == b && plainEqs l m
 | .str a :: l, .str b :: m => a == b && plainEqs l m
 | _, _ => false
def zIB (t : TypeId) : Bool := match P.underlying t with
 | some .bool | some (.int _) | some .string => true
 | _ => false
def zR6 (t : TypeId) : Bool := match P.underlying t with
 | some .bool | some (.int _) | some .string => true
 | some (.array _ e) => zIB P e
 | some (.struct fs) => fs.toList.all fun f => zIB P f.type
 | _ => false
def zCz (kt : TypeId) (key : AV) : List (AV × AV) → Option (List (AV × AV))
 | [] => some []
 | e :: es => match eqA P zB0 kt key e.1, zCz kt key es with
  | some (.cb true), some l => some (e :: l)
  | some (.cb false), some l => some l
  | _, _ => none
def xDJ (kt : TypeId) (key : AV) (es : List (AV × AV)) : Option (Option AV) := match zCz P kt key es with
 | some [] => some none
 | some [e] => some (some e.2)
 | _ => none
def zPi (kt : TypeId) (key v : AV) (e : AV × AV) : AV × AV := match eqA P zB0 kt key e.1 with
 | some (.cb true) => (key, v)
 | _ => e
def xHI (kt : TypeId) (key v : AV) (es : List (AV × AV)) : Option (List (AV × AV)) := match zCz P kt key es with
 | some [] => some ((key, v) :: es)
 | some [e] => if plainEq key e.1 then some (es.map (zPi P kt key v)) else none
 | _ => none
def zEp (t : TypeId) (key : AV) : Bool := match eqA P zB0 t key key with
 | some _ => true
 | none => false
def xE7 (kt : TypeId) (key : AV) (es : List (AV × AV)) : List (AV × AV) := es.filter fun e => match eqA P zB0 kt key e.1 with
 | some (.cb true) => false
 | _ => true
def zFS (t : TypeId) (m key : AV) (H : Heap) : Option Heap := match P.underlying t, m with
 | some (.map kt _), .map id => if zR6 P kt && zEp P kt key then match H.get id with
  | some (.map es) => match zCz P kt key es with
   | some [] => some (H.upd id (.map es))
   | some [_] => some (H.upd id (.map (xE7 P kt key es)))
   | _ => none
  | _ => none else none
 | _, _ => none
def zFs (b : Builtin) (ts : Array TypeId) (args : List AV) (H : Heap) : Option (AV × Heap) :=
 match b, args with
 | .len, [x] => match ts[0]? with
  | some t => match zWF P t x H with
   | some v => some (v, H)
   | none => none
  | none => none
 | .append, [s, x] => match ts[0]?, ts[1]? with
  | some t, some u => match P.underlying u with
   | some (.int _) => none
   | some _ => zHE P t s x H
   | none => none
  | _, _ => none
 | .copy, [d, x] => match ts[0]? with
  | some t => zT3 P t d x H
  | none => none
 | .clear, [x] => match ts[0]? with
  | some t => zLx P t x H
  | none => none
 | .delete, [m, k] => match ts[0]? with
  | some t => match zFS P t m k H with
   | some H => some (zBK, H)
   | none => none
  | none => none
 | .min, x :: l => match zTt xDk x l with
  | some v => some (v, H)
  | none => none
 | .max, x :: l => match zTt xDl x l with
  | some v => some (v, H)
  | none => none
 | _, _ => none
def zDd (t : TypeId) (l c : AV) (H : Heap) : Option (AV × Heap) :=
 match P.underlying t, l, c with
 | some (.slice e), .int _ l, .int _ c => match bytesOf P e, zKs P e c.toNat with
  | some by', some z => if 0 ≤ l ∧ l ≤ c ∧ c ≤ 4294967296 ∧ by' ≤ 1024 ∧ zA4 z = true then
   some (.slice H.next 0 l.toNat (.known c.toNat), H.new (.row z true (flats z))) else none
  | _, _ => none
 | _, _, _ => none
def zDQ (t : TypeId) (l c : AV) (H : Heap) : Option (Tm × AV × Heap) :=
 match P.underlying t, l, c with
 | some (.slice e), .int _ n, .sint _ m => match bytesOf P e, zKs P e 1 with
  | some by', some [.int k _] => bif eqZ n 0 && Nat.ble by' 1024 then some (.and (.ib .leq .i64 (.ci 0) m) (.ib .leq .i64 m (.ci 4294967296)), .sslice H.next 1 (.ci 0) (.ci 0), H.new (.seq [.ki k] (.lcut (.cb false) (.ci 0) (.ci 0)) true)) else none
  | _, _ => none
 | _, _, _ => none
def zP8 (t : TypeId) (x key : AV) (ok : Bool) (H : Heap) : Option AV :=
 match P.underlying t with
 | some (.map kt et) => if zR6 P kt && zEp P kt key then match (match x with
   | .nilMap => some []
   | .map id => match H.get id with
    | some (.map es) => some es
    | _ => none
   | _ => none) with
  | some es => match xDJ P kt key es with
   | some (some v) => some (if ok then .tuple [v, .bool true] else v)
   | some none => match zKh P et with
    | some z => some (if ok then .tuple [z, .bool false] else z)
    | none => none
   | none => none
  | none => none else none
 | _ => none
def zSb (kt : TypeId) (key : AV) : List (AV × AV) → Option (List (Tm × AV))
 | [] => some []
 | e :: es => match eqA P zB0 kt key e.1, zSb kt key es with
  | some (.cb false), some l => some l
  | some t, some l => some ((t, e.2) :: l)
  | _, _ => none
def excl : Tm → Tm → Bool
 | .ib .eql _ x (.ci a), .ib .eql _ y (.ci b) => x.eqv y && !eqZ a b
 | .sb .eql x (.cs a), .sb .eql y (.cs b) => x.eqv y && !eqL a b
 | .and a b, .and c d => excl a c || excl b d
 | _, _ => false
def zZG (t : Tm) : List (Tm × AV) → Bool
 | [] => true
 | p :: l => excl t p.1 && zZG t l
def zXi : List (Tm × AV) → Bool
 | [] => true
 | p :: l => zZG p.1 l && zXi l
def zP6 (t : TypeId) (x key : AV) (ok : Bool) (H : Heap) : Option (List (Tm × AV)) :=
 match P.underlying t with
 | some (.map kt et) => if zR6 P kt && zEp P kt key then match x with
  | .map id => match H.get id with
   | some (.map es) => match zSb P kt key es, zKh P et with
    | some l, some z => bif zXi l then some ((l.map fun p => (p.1, if ok then .tuple [p.2, .bool true] else p.2)) ++ [(.cb true, if ok then .tuple [z, .bool false] else z)]) else none
    | _, _ => none
   | _ => none
  | _ => none else none
 | _ => none
def zCv (t : TypeId) (m key v : AV) (H : Heap) : Option Heap :=
 match P.underlying t, m with
 | some (.map kt _), .map id => if zR6 P kt && zEp P kt key then match H.get id with
  | some (.map es) => match xHI P kt key v es with
   | some l => some (H.upd id (.map l))
   | none => none
  | _ => none else none
 | _, _ => none
def zFB (x : AV) (asserted : TypeId) (ok : Bool) : Option AV :=
 let holds (v : AV) : Option AV := some (if ok then .tuple [v, .bool true] else v)
 let fails : Option AV := if ok then match zKh P asserted with
  | some z => some (.tuple [z, .bool false])
  | none => none else none
 match P.underlying asserted, x with
 | some (.interface _), .nilIface => fails
 | some (.interface want), .iface t v => match P.info? t with
  | some i => match Instr.missingMethod want i.methods with
   | none => holds (.iface t v)
   | some _ => fails
  | none => none
 | some _, .nilIface => fails
 | some _, .iface t v => if t = asserted then holds v else fails
 | _, _ => none
def zM7 (f : AV) (args : List AV) : Option (FuncId × List AV) := match f with
 | .func (.func g) first captured => some (g, first ++ args ++ captured)
 | _ => none
def zP2 (recv : AV) (name : String) (args : List AV) : Option (FuncId × List AV) := match recv with
 | .iface t v => match P.info? t with
  | some i => match i.methods.find? (·.name == name) with
   | some m => if m.path.isEmpty then match m.func, P.underlying t with
    | some (f, true), some (.pointer _) => some (f, v :: args)
    | some (f, false), some (.pointer _) => none
    | some (f, false), some _ => some (f, v :: args)
    | _, _ => none else none
   | none => none
  | none => none
 | _ => none
def zFQ (f : FuncId) : Bool := match P.funcs[f]? with
 | some fn => fn.body.isSome
 | none => false
abbrev FR := List (Nat × AV)
def lk (l : FR) (t : Nat) : Option AV := @List.rec (Nat × AV) (fun _ => Option AV) none (fun p _ r => @Bool.rec (fun _ => Option AV) r (some p.2) (Nat.beq p.1 t)) l
def zAJ (fr : FR) : Operand → Option AV
 | .tmp t => lk fr t
 | .const v => ofV v
 | .global _ => none
 | .func f => some (.func (.func f) [] [])
def zZH (fr : FR) (H : Heap) : Operand → Option AV
 | .global g => match H.get g with
  | some (.pin b q) => bif Nat.beq b g then some (.ptr q 0) else none
  | _ => none
 | x => zAJ fr x
def zKo (fr : FR) : List Operand → Option (List AV)
 | [] => some []
 | x :: l => match zAJ fr x, zKo fr l with
  | some v, some r => some (v :: r)
  | _, _ => none
def zXk (fr : FR) : Option Operand → Option (Option AV)
 | none => some none
 | some x => match zAJ fr x with
  | some v => some (some v)
  | none => none
def zTv (fr : FR) : List (Nat × Operand) → Option (List (Nat × AV))
 | [] => some []
 | (i, x) :: l => match zAJ fr x, zTv fr l with
  | some v, some r => some ((i, v) :: r)
  | _, _ => none
inductive AR where
 | val (v : AV) (H : Heap)
 | many (l : List (Tm × AV)) (H : Heap)
 | call (f : FuncId) (args : List AV)
 | dfr (f : FuncId) (args : List AV)
 | ask (c : Tm) (v : AV) (H : Heap)
def zJ5 (fr : FR) (x : Operand) (H : Heap) : Option AR := match zAJ fr x with
  | some v => some (.val v H)
  | none => none
def zKX (fr : FR) (c : Operand) (a : Operand) (b : Operand) (H : Heap) : Option AR := match zAJ fr c, zAJ fr a, zAJ fr b with
  | some (.bool c), some a, some b => some (.val (if c then a else b) H)
  | some (.sbool c), some a, some b => some (.many [(c, a), (.cb true, b)] H)
  | _, _, _ => none
def zHs (fr : FR) (e : TypeId) (H : Heap) : Option AR := match zL0 P e H with
  | some (v, H) => some (.val v H)
  | none => none
def zSW (fr : FR) (x : Operand) (H : Heap) : Option AR := match zAJ fr x with
  | some v => match xB5 v H with
   | some (v, H) => some (.val v H)
   | none => none
  | none => none
def zHq (fr : FR) (t : TypeId) (parts : Array (Nat × Operand)) (H : Heap) : Option AR := match zTv fr parts.toList with
  | some l => match zYa P t l with
   | some v => some (.val v H)
   | none => none
  | none => none
def zBM (fr : FR) (t : TypeId) (n : Nat) (parts : Array (Nat × Operand)) (H : Heap) : Option AR := match zTv fr parts.toList with
  | some l => match zC3 P t n l H with
   | some (v, H) => some (.val v H)
   | none => none
  | none => none
def zKY (fr : FR) (t : TypeId) (a : Operand) (H : Heap) : Option AR := match zZH fr H a with
  | some a => match zWB P t a H with
   | some v => some (.val v H)
   | none => none
  | none => none
def zHl (fr : FR) (t : TypeId) (a : Operand) (x : Operand) (H : Heap) : Option AR := match zAJ fr a, zAJ fr x with
  | some a, some x => match zKv P t a x H with
   | some H => some (.val zBK H)
   | none => none
  | _, _ => none
def zDa (fr : FR) (x : Operand) (H : Heap) : Option AR := match zAJ fr x with
  | some (.ptr id off) => some (.val (.ptr id off) H)
  | some (.eptr id k i j) => some (.val (.eptr id k i j) H)
  | some (.iface t v) => some (.val (.iface t v) H)
  | some (.func (.func f) a b) => some (.val (.func (.func f) a b) H)
  | _ => none
def zHr (fr : FR) (op : BinOp) (t : TypeId) (x : Operand) (y : Operand) (H : Heap) : Option AR := match zAJ fr x, zAJ fr y with
  | some a, some b => match xDf op a b with
   | some c => some (.many [c] H)
   | none => match xH5 P op t (zAG x || zAG y) a b with
    | some v => some (.val v H)
    | none => none
  | _, _ => none
def zKW (fr : FR) (op : UnOp) (x : Operand) (H : Heap) : Option AR := match zAJ fr x with
  | some a => match unA op a with
   | some v => some (.val v H)
   | none => none
  | none => none
def zDO (fr : FR) (s : TypeId) (d : TypeId) (x : Operand) (H : Heap) : Option AR := match zAJ fr x with
  | some a => match zPU P s d a H with
   | some (v, H) => some (.val v H)
   | none => none
  | none => none
def zBg (fr : FR) (t : TypeId) (x : Operand) (H : Heap) : Option AR := match zAJ fr x, P.underlying t with
  | some v, some (.interface _) => none
  | some v, some _ => some (.val (.iface t v) H)
  | _, _ => none
def zDb (fr : FR) (fn : Fn) (a : Array Operand) (b : Array Operand) (H : Heap) : Option AR := match zKo fr a.toList, zKo fr b.toList with
  | some a, some b => some (.val (.func fn a b) H)
  | _, _ => none
def zCA (fr : FR) (t : TypeId) (r : Option Operand) (H : Heap) : Option AR := match r with
  | none => some (.val (.map H.next) (H.new (.map [])))
  | some x => match zAJ fr x, P.underlying t with
   | some (.int _ _), some (.map _ _) => some (.val (.map H.next) (H.new (.map [])))
   | _, _ => none
def zCr (fr : FR) (t : TypeId) (l : Operand) (c : Operand) (H : Heap) : Option AR := match zAJ fr l, zAJ fr c with
  | some l, some c => match zDd P t l c H with
   | some (v, H) => some (.val v H)
   | none => match zDQ P t l c H with
    | some (q, v, H) => some (.ask q v H)
    | none => none
  | _, _ => none
def zHm (fr : FR) (t : TypeId) (x : Operand) (lo : Option Operand) (hi : Option Operand) (H : Heap) : Option AR := match zAJ fr x, zXk fr lo, zXk fr hi with
  | some x, some lo, some hi => match zUc P t x lo hi with
   | some c => some (.many [c] H)
   | none => match zUd P t x lo hi H with
    | some v => some (.val v H)
    | none => none
  | _, _, _ => none
def zCt (fr : FR) (s : TypeId) (x : Operand) (f : Nat) (H : Heap) : Option AR := match zAJ fr x with
  | some a => match zH3 P s a f with
   | some v => some (.val v H)
   | none => none
  | none => none
def zHo (fr : FR) (t : TypeId) (x : Operand) (f : Nat) (H : Heap) : Option AR := match zAJ fr x with
  | some a => match zXg P t a f with
   | some v => some (.val v H)
   | none => none
  | none => none
def zCs (fr : FR) (t : TypeId) (x : Operand) (i : Operand) (H : Heap) : Option AR := match zZH fr H x, zAJ fr i with
  | some a, some i => match zH0 P t a i with
   | some l => some (.many l H)
   | none => match zCx P t a i with
    | some v => some (.val v H)
    | none => none
  | _, _ => none
def zHn (fr : FR) (t : TypeId) (x : Operand) (i : Operand) (H : Heap) : Option AR := match zAJ fr x, zAJ fr i with
  | some a, some i => match zWS P t a i with
   | some c => some (.many [c] H)
   | none => match zWT P t a i with
    | some l => some (.many l H)
    | none => match zJK P t a i with
    | some v => some (.val v H)
    | none => none
  | _, _ => none
def zFg (fr : FR) (t : TypeId) (x : Operand) (i : Operand) (ok : Bool) (H : Heap) : Option AR := match zAJ fr x, zAJ fr i with
  | some a, some i => match zP8 P t a i ok H with
   | some v => some (.val v H)
   | none => match zP6 P t a i ok H with
    | some l => some (.many l H)
    | none => none
  | _, _ => none
def zBG (fr : FR) (t : TypeId) (m : Operand) (k : Operand) (x : Operand) (H : Heap) : Option AR := match zAJ fr m, zAJ fr k, zAJ fr x with
  | some m, some k, some x => match zCv P t m k x H with
   | some H => some (.val zBK H)
   | none => none
  | _, _, _ => none
def zBL (fr : FR) (x : Operand) (t : TypeId) (ok : Bool) (H : Heap) : Option AR := match zAJ fr x with
  | some a => match zFB P a t ok with
   | some v => some (.val v H)
   | none => none
  | none => none
def zDN (fr : FR) (x : Operand) (i : Nat) (H : Heap) : Option AR := match zAJ fr x with
  | some (.tuple vs) => match vs[i]? with
   | some v => some (.val v H)
   | none => none
  | _ => none
def zKZ (fr : FR) (c : Call) (H : Heap) : Option AR := match zKo fr c.args.toList with
  | some args => match c.callee with
   | .builtin b => match zFD P b c.argTypes args H with
    | some (t, v, H) => some (.ask t v H)
    | none => match zFs P b c.argTypes args H with
     | some (v, H) => some (.val v H)
     | none => none
   | .value f => match zAJ fr f with
    | some f => match zM7 f args with
     | some (g, args) => if zFQ P g then some (.call g args) else none
     | none => none
    | none => none
   | .invoke r name => match zAJ fr r with
    | some r => match zP2 P r name args with
     | some (g, args) => if zFQ P g then some (.call g args) else none
     | none => none
    | none => none
  | none => none
def zHp (fr : FR) (c : Call) (H : Heap) : Option AR := match zKo fr c.args.toList, c.callee with
  | some args, .value f => match zAJ fr f with
   | some f => match zM7 f args with
    | some (g, args) => if zFQ P g then some (.dfr g args) else none
    | none => none
   | none => none
  | _, _ => none
def zAM (fr : FR) (o : Oper) (H : Heap) : Option AR :=
 match o.op with
 | .move x | .assign x => zJ5 fr x H
 | .pick c a b => zKX fr c a b H
 | .alloc e => zHs P fr e H
 | .box _ x => zSW fr x H
 | .build t parts => zHq P fr t parts H
 | .buildSlice t n parts => zBM P fr t n parts H
 | .load t a => zKY P fr t a H
 | .store t a x => zHl P fr t a x H
 | .nilCheck x => zDa fr x H
 | .binOp op t x y _ => zHr P fr op t x y H
 | .unOp op _ x => zKW fr op x H
 | .convert s d x => zDO P fr s d x H
 | .makeInterface t x => zBg P fr t x H
 | .makeFunc fn a b => zDb fr fn a b H
 | .makeSlice t l c => zCr P fr t l c H
 | .makeMap t r => zCA P fr t r H
 | .lookup t x i ok => zFg P fr t x i ok H
 | .mapUpdate t m k x | .insert t m k x => zBG P fr t m k x H
 | .slice t x lo hi none => zHm P fr t x lo hi H
 | .fieldAddr s x f => zCt P fr s x f H
 | .field t x f => zHo P fr t x f H
 | .indexAddr t x i => zCs P fr t x i H
 | .index t x i => zHn P fr t x i H
 | .typeAssert x _ t ok => zBL P fr x t ok H
 | .extract x i => zDN fr x i H
 | .call c => zKZ P fr c H
 | .defer c => zHp P fr c H
 | _ => none
inductive Want where
 | yes
 | no
 | hang (t : Tm) (b : Bool)
def zE6 (ops : Array Oper) (fr : FR) (o : Oper) : Option Want :=
 match o.guard with
 | none => some .yes
 | some (j, want) => match (ops[j]?).bind (·.dst) with
  | some t => match lk fr t with
   | some (.bool b) => some (bif b == want then .yes else .no)
   | some (.sbool t) => some (.hang t want)
   | some (.tuple _) => some .no
   | _ => none
  | none => none
def zMD (nt : Nat) (fr : FR) (dst : Option Tmp) (v : AV) : Option FR := match dst with
 | some d => bif Nat.blt d nt then some ((d, v) :: fr) else none
 | none => some fr
structure St where
 nt : Nat
 fr : FR
 H : Heap
 df : List (FuncId × List AV)
inductive AX where
 | normal
 | ret
 | exit (id : Nat)
def zK1 (H : Heap) : Nat → List Nat → List Nat → List Nat
 | 0, _, seen => seen
 | _, [], seen => seen
 | n + 1, id :: l, seen => if seen.contains id then zK1 H n l seen else match H.get id with
  | some (.row vs _ false) => zK1 H n (zId vs ++ l) (id :: seen)
  | some (.row _ _ true) | some (.bytes _ _) | some (.seq _ _ _) | some (.pin _ _) | some (.nst _ _ _ _ _ _) | some (.abs _ _) => zK1 H n l (id :: seen)
  | some (.map es) => zK1 H n (zId (es.map (·.1)) ++ zId (es.map (·.2)) ++ l) (id :: seen)
  | none => zK1 H n l seen
def zFw (x : Nat) : List Nat → Bool
 | [] => false
 | y :: l => bif Nat.beq y x then true else zFw x l
def zPv (objs : List (Nat × AObj)) : List Nat → List (Nat × AObj)
 | [] => []
 | id :: l => match look objs id with
  | some o => (id, o) :: zPv objs l
  | none => zPv objs l
def restrict (H : Heap) (ids : List Nat) : Heap := ⟨H.next, zPv H.objs ids, [], H.pc⟩
def fresh (n m : Nat) : List (Nat × AObj) → List (Nat × AObj)
 | [] => []
 | p :: l => match Nat.ble n p.1 && Nat.blt p.1 m with
  | true => p :: fresh n m l
  | false => fresh n m l
def zSx (ids : List Nat) (R : Heap) (n : Nat) : List Nat → List (Nat × AObj) → List (Nat × AObj)
 | [], l => l
 | id :: log, l => bif Nat.blt id n && zFw id ids then (match R.get id with
   | some o => zSx ids R n log (xCH l id o)
   | none => zSx ids R n log (drp l id)) else zSx ids R n log l
def merge (H : Heap) (ids : List Nat) (R : Heap) : Heap := match R.log with
 | [] => bif Nat.beq R.next H.next then ⟨R.next, H.objs, H.log, R.pc⟩ else ⟨R.next, fresh H.next R.next R.objs ++ H.objs, H.log, R.pc⟩
 | a :: l => ⟨R.next, fresh H.next R.next R.objs ++ zSx ids R H.next (a :: l) H.objs, (a :: l) ++ H.log, R.pc⟩
structure Rec where
 i : Nat
 foot : List Nat
 wrote : List Nat
 lo : Nat
 hi : Nat
def zCQ : Ground → Bool
 | .textOnly _ => false
 | .gcOnly _ => false
 | _ => true
def nth {α : Type} : List α → Nat → Option α
 | [], _ => none
 | a :: l, n => match n with
  | 0 => some a
  | m + 1 => nth l m
def zLp : List Edge → Nat → Bool
 | [], _ => false
 | e :: l, i => match Nat.beq e.on i with
  | true => zCQ e.ground || zLp l i
  | false => zLp l i
def zLi (acc : List Nat) : List Edge → Nat → Nat
 | [], m => m
 | e :: l, m => match zCQ e.ground with
  | true => zLi acc l (m ||| 2 ^ e.on ||| (nth acc e.on).getD 0)
  | false => zLi acc l m
def zFb : List Oper → List Nat → List Nat
 | [], acc => acc
 | o :: l, acc => zFb l (acc ++ [zLi acc o.after.toList 0])
def xGQ (ops : List Oper) (i j : Nat) : Bool :=
 (match nth ops j with
  | some o => zLp o.after.toList i
  | none => false) || Nat.testBit ((nth (zFb ops []) j).getD 0) i
def zSV (ops : List Oper) (i j : Nat) : Bool := match Nat.blt i j with
 | true => xGQ ops i j
 | false => xGQ ops j i
def dstsOf : List Oper → Nat → List (Tmp × Nat)
 | [], _ => []
 | o :: l, i => match o.dst with
  | some d => (d, i) :: dstsOf l (i + 1)
  | none => dstsOf l (i + 1)
def zKx (ops : List Oper) (t j : Nat) : List (Tmp × Nat) → Bool
 | [] => true
 | p :: l => match Nat.beq p.1 t with
  | true => (Nat.beq p.2 j || zSV ops p.2 j) && zKx ops t j l
  | false => zKx ops t j l
def zIA (ops : List Oper) (ds : List (Tmp × Nat)) (j : Nat) : List Tmp → Bool
 | [] => true
 | t :: l => zKx ops t j ds && zIA ops ds j l
def looks (ops : Array Oper) (o : Oper) : List Tmp := o.looksAt ops ++ o.dst.toList
def zJX (j : Nat) : List Edge → Bool
 | [] => true
 | e :: l => (!zCQ e.ground || Nat.blt e.on j) && zJX j l
def zQ6 (ops : Array Oper) (ds : List (Tmp × Nat)) : List Oper → Nat → Bool
 | [], _ => true
 | o :: l, j => zJX j o.after.toList && zIA ops.toList ds j (looks ops o) && zQ6 ops ds l (j + 1)
def zHJ (ops : Array Oper) : Bool := Region.noSelect ops && zQ6 ops (dstsOf ops.toList 0) ops.toList 0
def clash (a b : Rec) : Bool := a.wrote.any (fun x => b.foot.contains x) || b.foot.any (fun x => a.lo ≤ x && x < a.hi)
def zTz (ops : List Oper) (rs : List Rec) : Bool := rs.all fun a => rs.all fun b => match clash a b with
 | true => Nat.beq a.i b.i || zSV ops a.i b.i
 | false => true
inductive Tree (α : Type) where
 | fail
 | leaf (a : α)
 | fork (c : Tm) (x y : Tree α)
def Tree.sel {α : Type} [Rho] : Tree α → Option α
 | .fail => none
 | .leaf a => some a
 | .fork c x y => bif c.den.asB then x.sel else y.sel
def known : List (Tm × Bool) → Tm → Option Bool
 | [], _ => none
 | p :: l, c => bif p.1.eqv c then some p.2 else known l c
def xAj {α : Type} (c : Tm) (H : Heap) (x y : Heap → Tree α) : Tree α := match c with
 | .cb true => x H
 | .cb false => y H
 | c => match known H.pc c with
  | some true => x H
  | some false => y H
  | none => match known H.pc (xBf c) with
   | some true => y H
   | some false => x H
   | none => .fork c (x (H.ask c true)) (y (H.ask c false))
abbrev zCE (α : Type) := FuncId → List AV → Heap → (AV → Heap → Tree α) → Tree α
def zW5 {α : Type} : List (Tm × AV) → Heap → (AV → Heap → Tree α) → Tree α
 | [], _, _ => .fail
 | p :: l, H, k => xAj p.1 H (k p.2) fun H => zW5 l H k
def zS6 {α : Type} (cf : zCE α) (o : Oper) (fr : FR) (H : Heap) (k : AV → Heap → List (FuncId × List AV) → Tree α) : Tree α :=
 match zAM P fr o H with
 | some (.val v H) => k v H []
 | some (.many l H) => zW5 l H fun v H => k v H []
 | some (.call f args) => cf f args H fun v H => k v H []
 | some (.dfr f args) => k zBK H [(f, args)]
 | some (.ask c v H') => xAj c H (fun G => k v (H'.wpc G.pc) []) fun _ => .fail
 | none => .fail
def zOl {α : Type} (cf : zCE α) (ops : Array Oper) : List Oper → St → (St → Tree α) → Tree α
 | [], st, k => k st
 | o :: l, ⟨nt, fr, H, df⟩, k =>
  let yes (H : Heap) : Tree α := zS6 P cf o fr H fun v H d => match zMD nt fr o.dst v with
    | some fr => zOl cf ops l ⟨nt, fr, H, d ++ df⟩ k
    | none => .fail
  let no (H : Heap) : Tree α := match zMD nt fr o.dst zBK with
    | some fr => zOl cf ops l ⟨nt, fr, H, df⟩ k
    | none => .fail
  match zE6 ops fr o with
  | some .yes => yes H
  | some .no => no H
  | some (.hang t b) => xAj t H (fun H => bif b then yes H else no H) (fun H => bif b then no H else yes H)
  | none => .fail
def xDF : Op → Array Operand
 | .load _ a => #[a]
 | .store _ a _ => #[a]
 | .convert _ _ x => #[x]
 | .slice _ x _ _ _ => #[x]
 | .lookup _ x _ _ => #[x]
 | .mapUpdate _ m _ _ | .insert _ m _ _ => #[m]
 | .call c => c.operands
 | _ => #[]
def zWP : Op → Bool
 | .call c => match c.callee with
  | .builtin _ => false
  | _ => true
 | _ => false
def zZg : List (Nat × AObj) → List Nat
 | [] => []
 | (i, .pin _ q) :: l => i :: q :: zZg l
 | _ :: l => zZg l
def xGd : Op → Bool
 | .load _ (.global _) => true
 | .indexAddr _ (.global _) _ => true
 | _ => false
def zPH (fr : FR) (o : Oper) (H : Heap) : List Nat :=
 bif xGd o.op then zZg H.objs else match (xDF o.op).toList with
 | [] => []
 | l => match zKo fr l with
  | some vs => bif zWP o.op then zK1 H 100000 (zId vs ++ zZg H.objs) [] else zId vs
  | none => []
def nar (fr : FR) : List Tmp → FR
 | [] => []
 | t :: l => match lk fr t with
  | some v => (t, v) :: nar fr l
  | none => nar fr l
def narrow (ops : Array Oper) (o : Oper) (fr : FR) : FR := nar fr (o.looksAt ops)
def zYR (i : Nat) (ids : List Nat) (R : Heap) (n : Nat) (rs : List Rec) : List Rec := match ids with
 | [] => bif Nat.blt n R.next then ⟨i, ids, R.log, n, R.next⟩ :: rs else rs
 | ids => ⟨i, ids, R.log, n, R.next⟩ :: rs
inductive Note where
 | mk (i id : Nat)
 | ins (i id : Nat) (t : TypeId) (k v : AV)
def isLit : List Note → Nat → Bool
 | [], _ => false
 | .mk _ j :: l, id => bif Nat.beq j id then true else isLit l id
 | .ins .. :: l, id => isLit l id
def fills (d : Nat) : List Oper → Bool
 | [] => false
 | o :: l => match o.op with
  | .insert _ (.tmp t) _ _ => Nat.beq t d || fills d l
  | _ => fills d l
def zIr (ops : List Oper) (o : Oper) : Bool := match o.op, o.dst with
 | .makeMap _ _, some d => fills d ops
 | _, _ => false
def zRA (fr : FR) (o : Oper) (ns : List Note) : Option (Nat × TypeId × AV × AV) := match ns with
 | [] => none
 | _ => match o.op with
  | .insert t m k x => match zAJ fr m, zAJ fr k, zAJ fr x with
   | some (.map id), some k, some v => bif isLit ns id then some (id, t, k, v) else none
   | _, _, _ => none
  | _ => none
def zZ1 (t : TypeId) (k : AV) : Bool := match P.underlying t with
 | some (.map kt _) => zR6 P kt && zEp P kt k
 | _ => false
def zE1 {α : Type} (cf : zCE α) (ops : Array Oper) : Nat → List Oper → St → List Rec → List Note → (St → List Rec → List Note → Tree α) → Tree α
 | _, [], st, rs, ns, k => k st rs ns
 | i, o :: l, ⟨nt, fr, H, df⟩, rs, ns, k =>
  let yes (H : Heap) : Tree α := match zRA (narrow ops o fr) o ns with
   | some (id, t, key, v) => match o.dst, zZ1 P t key with
    | none, true => zE1 cf ops (i + 1) l ⟨nt, fr, merge H [] (restrict H []), df⟩ rs (.ins i id t key v :: ns) k
    | _, _ => .fail
   | none => match zIr ops.toList o with
    | true => match zAM P (narrow ops o fr) o (restrict H []), zMD nt fr o.dst (.map H.next) with
     | some (.val _ _), some fr' => zE1 cf ops (i + 1) l ⟨nt, fr', merge H [] ⟨H.next + 1, [], [], H.pc⟩, df⟩ (⟨i, [], [], H.next, H.next + 1⟩ :: rs) (.mk i H.next :: ns) k
     | _, _ => .fail
    | false => zS6 P cf o (narrow ops o fr) (restrict H (zPH (narrow ops o fr) o H)) fun v T d => match d with
     | [] => match zMD nt fr o.dst v with
      | some fr' => zE1 cf ops (i + 1) l ⟨nt, fr', merge H (zPH (narrow ops o fr) o H) T, df⟩ (zYR i (zPH (narrow ops o fr) o H) T H.next rs) ns k
      | none => .fail
     | _ => .fail
  let no (H : Heap) : Tree α := match zMD nt fr o.dst zBK with
   | some fr => zE1 cf ops (i + 1) l ⟨nt, fr, H, df⟩ rs ns k
   | none => .fail
  match zE6 ops (narrow ops o fr) o with
  | some .yes => yes H
  | some .no => no H
  | some (.hang t b) => xAj t H (fun H => bif b then yes H else no H) (fun H => bif b then no H else yes H)
  | none => .fail
def zHT (id i : Nat) : List Note → List (AV × AV)
 | [] => []
 | .mk .. :: l => zHT id i l
 | .ins j id' _ k v :: l => bif Nat.beq id' id then bif Nat.beq j i then zHT id i l else (k, v) :: zHT id i l else zHT id i l
def zER (id : Nat) : List Note → List (AV × AV)
 | [] => []
 | .mk .. :: l => zER id l
 | .ins _ id' _ k v :: l => bif Nat.beq id' id then (k, v) :: zER id l else zER id l
def zTe (ns : List Note) : Note → Bool
 | .mk .. => true
 | .ins i id t k _ => match P.underlying t with
  | some (.map kt _) => match zCz P kt k (zHT id i ns) with
   | some [] => true
   | _ => false
  | _ => false
def zCJ (all : List Note) : List Note → List (Nat × AObj)
 | [] => []
 | .mk _ id :: l => (id, .map (zER id all)) :: zCJ all l
 | .ins .. :: l => zCJ all l
def zB7 (ns : List Note) (st : St) : St := match ns with
 | [] => st
 | ns => ⟨st.nt, st.fr, ⟨st.H.next, zCJ ns ns ++ st.H.objs, st.H.log, st.H.pc⟩, st.df⟩
def zPN {α : Type} (cf : zCE α) (ops : Array Oper) (st : St) (k : St → Tree α) : Tree α :=
 zE1 P cf ops 0 ops.toList st [] [] fun st rs ns => bif zHJ ops && zTz ops.toList rs && ns.all (zTe P ns) then k (zB7 ns st) else .fail
def xAH (fr : FR) (H : Heap) : List ResultVar → Option (List AV)
 | [] => some []
 | .tmp t :: l => match lk fr t, xAH fr H l with
  | some v, some r => some (v :: r)
  | _, _ => none
 | .cell a t :: l => match lk fr a with
  | some p => match zWB P t p H, xAH fr H l with
   | some v, some r => some (v :: r)
   | _, _ => none
  | none => none
def zIo (fn : Func) (fr : FR) (H : Heap) : Option AV := match xAH P fr H fn.results.toList with
 | some [v] => some v
 | some l => some (.tuple l)
 | none => none
def zUr (H : Heap) (id : Nat) : List Nat := match H.get id with
 | some (.row vs _ lf) => bif lf then [] else zId vs
 | some (.map es) => zId (es.map (·.1)) ++ zId (es.map (·.2))
 | _ => []
def zLK (n : Nat) (H : Heap) : Nat → List Nat → List Nat → List Nat
 | 0, _, seen => seen
 | _, [], seen => seen
 | k + 1, id :: l, seen => bif Nat.blt id n || zFw id seen then zLK n H k l seen else zLK n H k (zUr H id ++ l) (id :: seen)
def zPB (n : Nat) (H : Heap) (v : AV) (old : List Nat) : List Nat := zLK n H 100000 (refs v ++ old.flatMap (zUr H)) []
def zBB (H : Heap) (v : AV) (H' : Heap) : AV × Heap := match H'.log.filter (fun x => Nat.blt x H.next), flat v with
 | [], true => (v, ⟨H.next, H.objs, H.log, H'.pc⟩)
 | old, _ => (v, ⟨H'.next, H'.objs.filter (fun p => Nat.blt p.1 H.next || zFw p.1 (zPB H.next H' v old)), old ++ H.log, H'.pc⟩)
structure Env where
 fn : FuncId → Option (List AV → Heap → Option (Tm × AV × Heap))
 lp : FuncId → Nat → Option (St → Option (Tm × AX × St))
def zJN : Nat → List AV → FR
 | _, [] => []
 | i, v :: l => (i, v) :: zJN (i + 1) l
def bare (H : Heap) : Heap := ⟨H.next, H.objs, [], H.pc⟩
def zT2 : FR → List Nat → FR
 | [], _ => []
 | p :: l, seen => match seen.contains p.1 with
  | true => zT2 l seen
  | false => p :: zT2 l (p.1 :: seen)
def trim (st : St) : St := match Nat.blt 150 st.fr.length with
 | true => ⟨st.nt, zT2 st.fr [], st.H, st.df⟩
 | false => st
def zDr : Code → Nat
 | .region id _ _ => id
 | .seq a _ => zDr a
 | .block _ body => zDr body
 | .loop body => zDr body
 | .scope body => zDr body
 | .cond _ a _ => zDr a
 | _ => 0
def zB8 : Code → List Code
 | .seq a b => zB8 a ++ zB8 b
 | .cond _ a b => zB8 a ++ zB8 b
 | .block _ body => zB8 body
 | .loop body => body :: zB8 body
 | .scope body => zB8 body
 | _ => []
abbrev zF0 := Nat → Option (St → Option (Tm × AX × St))
def zA9 {α : Type} (cf : zCE α) (lf : zF0) : Nat → Code → St → (AX → St → Tree α) → Tree α
 | 0, _, _, _ => .fail
 | n + 1, c, st, k => match c with
  | .skip => k .normal st
  | .region _ ops draw => match draw with
    | true => zPN P cf ops st (k .normal)
    | false => zOl P cf ops ops.toList st (k .normal)
  | .seq a b => zA9 cf lf n a st fun x st => match x with
   | .normal => zA9 cf lf n b st k
   | x => k x st
  | .cond x a b => match zAJ st.fr x with
   | some (.bool t) => bif t then zA9 cf lf n a st k else zA9 cf lf n b st k
   | some (.sbool t) => xAj t st.H (fun H => zA9 cf lf n a ⟨st.nt, st.fr, H, st.df⟩ k) (fun H => zA9 cf lf n b ⟨st.nt, st.fr, H, st.df⟩ k)
   | _ => .fail
  | .block id body => zA9 cf lf n body st fun x st => match x with
   | .exit j => bif Nat.beq j id then k .normal st else k (.exit j) st
   | x => k x st
  | .loop body => match (match lf (zDr body) with
    | some g => g st
    | none => none) with
   | some (o, x, st') => xAj o st.H (fun H => k x ⟨st'.nt, st'.fr, st'.H.wpc H.pc, st'.df⟩) fun _ => .fail
   | none => zA9 cf lf n body st fun x st => match x with
    | .normal => zA9 cf lf n (.loop body) (trim st) k
    | x => k x st
  | .exit id => k (.exit id) st
  | .scope body => zA9 cf lf n body st k
  | .label _ => k .normal st
  | .ret => k .ret st
  | _ => .fail
def zRL {α : Type} (cf : zCE α) (lf : zF0) (f : FuncId) (args : List AV) (H : Heap) (k : Func → St → Tree α) : Tree α :=
 match P.funcs[f]? with
  | some fn => match fn.body with
   | some c => bif Nat.ble args.length fn.ntmps then zA9 P cf lf 1000000 c ⟨fn.ntmps, zJN 0 args, bare H, []⟩ fun x st => match x with
    | .normal => k fn st
    | .ret => k fn st
    | _ => .fail else .fail
   | none => .fail
  | none => .fail
def zPK {α : Type} (cf : zCE α) (lf : FuncId → zF0) (f : FuncId) (args : List AV) (H : Heap) (k : AV → Heap → Tree α) : Tree α :=
 zRL P cf (lf f) f args H fun fn st => match st with
  | ⟨_, fr, H', []⟩ => match zIo P fn fr H' with
   | some v => match zBB H v H' with
    | (v, H) => k v H
   | none => .fail
  | _ => .fail
def xGl {α : Type} (cf : zCE α) (lf : FuncId → zF0) : List (FuncId × List AV) → Heap → (Heap → Tree α) → Tree α
 | [], H, k => k H
 | (f, args) :: l, H, k => zPK P cf lf f args H fun _ H => xGl cf lf l H k
def zCD {α : Type} (env : Env) : Nat → zCE α
 | 0, _, _, _, _ => .fail
 | n + 1, f, args, H, k => match env.fn f with
  | some g => match g args H with
   | some (o, v, H') => xAj o H (fun G => k v (H'.wpc G.pc)) fun _ => .fail
   | none => .fail
  | none => zRL P (zCD env n) (env.lp f) f args H fun fn st => xGl P (zCD env n) env.lp st.df st.H fun H' => match zIo P fn st.fr H' with
   | some v => match zBB H v H' with
    | (v, H) => k v H
   | none => .fail
def none0 : Env := ⟨fun _ => none, fun _ _ => none⟩
def heap0 : Heap := ⟨0, [], [], []⟩
end
end
end Go.Proofs.YtenkabjkgngcdaaGreat.Ab
namespace Go.Proofs.YtenkabjkgngcdaaGreat.Ab
open Go
variable [Rho]
theorem zOn : ∀ (a b : List UInt8), eqL a b = true → a = b
 | [], [], _ => rfl
 | [], _ :: _, h => by simp [eqL] at h
 | _ :: _, [], h => by simp [eqL] at h
 | x :: a, y :: b, h => by
  simp only [eqL, Bool.and_eq_true] at h;have h1 : x = y := UInt8.toNat_inj.1 (Nat.eq_of_beq_eq_true h.1);rw [h1, zOn a b h.2]
theorem zOm : ∀ (a b : Int), eqZ a b = true → a = b
 | .ofNat a, .ofNat b, h => by simp only [eqZ] at h; rw [Nat.eq_of_beq_eq_true h]
 | .negSucc a, .negSucc b, h => by simp only [eqZ] at h; rw [Nat.eq_of_beq_eq_true h]
 | .ofNat _, .negSucc _, h => by simp [eqZ] at h
 | .negSucc _, .ofNat _, h => by simp [eqZ] at h
theorem zHY (a b : IntKind) (h : eqK a b = true) : a = b := by
 have := Nat.eq_of_beq_eq_true h;cases a <;> cases b <;> first | rfl | (exact absurd this (by decide))
theorem xBs (a b : BinOp) (h : eqO a b = true) : a = b := by
 have := Nat.eq_of_beq_eq_true h;cases a <;> cases b <;> first | rfl | (exact absurd this (by decide))
theorem Tm.eqv_eq : ∀ (a b : Tm), a.eqv b = true → a = b := by
 intro a
 induction a with
 | var n => intro b h; cases b <;> simp only [Tm.eqv] at h <;> first | (rw [Nat.eq_of_beq_eq_true h]) | (cases h)
 | cb x => intro b h; cases b <;> simp only [Tm.eqv] at h <;> first | (rw [eq_of_beq h]) | (cases h)
 | ci x => intro b h; cases b <;> simp only [Tm.eqv] at h <;> first | (rw [zOm _ _ h]) | (cases h)
 | cs x => intro b h; cases b <;> simp only [Tm.eqv] at h <;> first | (rw [zOn _ _ h]) | (cases h)
 | ib o k x y ih1 ih2 =>
  intro b h; cases b <;> simp only [Tm.eqv, Bool.and_eq_true] at h <;> first | (cases h; done) | skip
  rw [xBs _ _ h.1.1.1, zHY _ _ h.1.1.2, ih1 _ h.1.2, ih2 _ h.2]
 | sb o x y ih1 ih2 =>
  intro b h; cases b <;> simp only [Tm.eqv, Bool.and_eq_true] at h <;> first | (cases h; done) | skip
  rw [xBs _ _ h.1.1, ih1 _ h.1.2, ih2 _ h.2]
 | beq x y ih1 ih2 =>
  intro b h; cases b <;> simp only [Tm.eqv, Bool.and_eq_true] at h <;> first | (cases h; done) | skip
  rw [ih1 _ h.1, ih2 _ h.2]
 | not x ih => intro b h; cases b <;> simp only [Tm.eqv] at h <;> first | (rw [ih _ h]) | (cases h)
 | and x y ih1 ih2 =>
  intro b h; cases b <;> simp only [Tm.eqv, Bool.and_eq_true] at h <;> first | (cases h; done) | skip
  rw [ih1 _ h.1, ih2 _ h.2]
 | wrap k x ih =>
  intro b h; cases b <;> simp only [Tm.eqv, Bool.and_eq_true] at h <;> first | (cases h; done) | skip
  rw [zHY _ _ h.1, ih _ h.2]
 | ite c x y ih1 ih2 ih3 =>
  intro b h; cases b <;> simp only [Tm.eqv, Bool.and_eq_true] at h <;> first | (cases h; done) | skip
  rw [ih1 _ h.1.1, ih2 _ h.1.2, ih3 _ h.2]
 | len x ih => intro b h; cases b <;> simp only [Tm.eqv] at h <;> first | (rw [ih _ h]) | (cases h)
 | oct x ih => intro b h; cases b <;> simp only [Tm.eqv] at h <;> first | (rw [ih _ h]) | (cases h)
 | «at» x y ih1 ih2 =>
  intro b h; cases b <;> simp only [Tm.eqv, Bool.and_eq_true] at h <;> first | (cases h; done) | skip
  rw [ih1 _ h.1, ih2 _ h.2]
 | cut x y z ih1 ih2 ih3 =>
  intro b h; cases b <;> simp only [Tm.eqv, Bool.and_eq_true] at h <;> first | (cases h; done) | skip
  rw [ih1 _ h.1.1, ih2 _ h.1.2, ih3 _ h.2]
 | llen x ih => intro b h; cases b <;> simp only [Tm.eqv] at h <;> first | (rw [ih _ h]) | (cases h)
 | flat x ih => intro b h; cases b <;> simp only [Tm.eqv] at h <;> first | (rw [ih _ h]) | (cases h)
 | lget x y j ih1 ih2 =>
  intro b h; cases b <;> simp only [Tm.eqv, Bool.and_eq_true] at h <;> first | (cases h; done) | skip
  rw [ih1 _ h.1.1, ih2 _ h.1.2, Nat.eq_of_beq_eq_true h.2]
 | plus x y ih1 ih2 =>
  intro b h; cases b <;> simp only [Tm.eqv, Bool.and_eq_true] at h <;> first | (cases h; done) | skip
  rw [ih1 _ h.1, ih2 _ h.2]
 | minus x y ih1 ih2 =>
  intro b h; cases b <;> simp only [Tm.eqv, Bool.and_eq_true] at h <;> first | (cases h; done) | skip
  rw [ih1 _ h.1, ih2 _ h.2]
 | pair x y ih1 ih2 =>
  intro b h; cases b <;> simp only [Tm.eqv, Bool.and_eq_true] at h <;> first | (cases h; done) | skip
  rw [ih1 _ h.1, ih2 _ h.2]
 | app f x ih =>
  intro b h; cases b <;> simp only [Tm.eqv, Bool.and_eq_true] at h <;> first | (cases h; done) | skip
  rw [Nat.eq_of_beq_eq_true h.1, ih _ h.2]
 | lapp x y ih1 ih2 =>
  intro b h; cases b <;> simp only [Tm.eqv, Bool.and_eq_true] at h <;> first | (cases h; done) | skip
  rw [ih1 _ h.1, ih2 _ h.2]
 | row x ih => intro b h; cases b <;> simp only [Tm.eqv] at h <;> first | (rw [ih _ h]) | (cases h)
 | lput x y z ih1 ih2 ih3 =>
  intro b h; cases b <;> simp only [Tm.eqv, Bool.and_eq_true] at h <;> first | (cases h; done) | skip
  rw [ih1 _ h.1.1, ih2 _ h.1.2, ih3 _ h.2]
 | lcut x y z ih1 ih2 ih3 =>
  intro b h; cases b <;> simp only [Tm.eqv, Bool.and_eq_true] at h <;> first | (cases h; done) | skip
  rw [ih1 _ h.1.1, ih2 _ h.1.2, ih3 _ h.2]
theorem zH4 : ∀ {a b : List Kd}, zXn a b = true → a = b
 | [], [], _ => rfl
 | x :: l, y :: r, h => by
  simp only [zXn, Bool.and_eq_true] at h;obtain ⟨h1, h2⟩ := h;rw [zH4 h2];cases x <;> cases y <;> first | (cases h1; done) | rfl | (simp only [xJ1] at h1; rw [zHY _ _ h1])
 | [], _ :: _, h => by cases h
 | _ :: _, [], h => by cases h
theorem zFh (x : Tm) : (xBf x).den.asB = !x.den.asB := by
 unfold xBf;split
 ·rfl
 ·simp [Tm.den, Dat.asB]
 ·simp [Tm.den, iop, Dat.asB, bne]
 ·simp [Tm.den, iop, Dat.asB, bne]
 ·simp only [Tm.den, iop, Dat.asB]; rw [Bool.eq_iff_iff]; simp
 ·simp only [Tm.den, iop, Dat.asB]; rw [Bool.eq_iff_iff]; simp
 ·simp only [Tm.den, iop, Dat.asB]; rw [Bool.eq_iff_iff]; simp
 ·simp only [Tm.den, iop, Dat.asB]; rw [Bool.eq_iff_iff]; simp
 ·simp [Tm.den, Dat.asB]
theorem zBD (x y : Tm) : (zSr x y).den.asB = (x.den.asB && y.den.asB) := by
 unfold zSr;split <;> simp [Tm.den, Dat.asB]
theorem zAz (op : BinOp) (k : IntKind) (x y : Tm) : (zFA op k x y).den = iop op k x.den.asI y.den.asI := by
 unfold zFA;split
 ·split
  ·rename_i h; simp only [Tm.den, Dat.asI]; exact h.symm
  ·rename_i h; simp only [Tm.den, Dat.asI]; exact h.symm
  ·rfl
 ·split
  ·simp only [Tm.den, iop, Dat.asI, Dat.dB.injEq];exact BEq.comm
  ·simp only [Tm.den, iop, Dat.asI, Dat.dB.injEq];exact congrArg (!·) BEq.comm
  ·rfl
 ·cases h : x.eqv y with
  | false => rfl
  | true =>
   have := Tm.eqv_eq _ _ h;subst this;simp only [cond_true];split <;> simp [Tm.den, iop]
theorem xAi (x y : Tm) : (xI4 x y).den.asB = (x.den.asB == y.den.asB) := by
 unfold xI4;split
 ·simp [Tm.den, Dat.asB]
 ·rw [zFh]; simp [Tm.den, Dat.asB]
 ·simp [Tm.den, Dat.asB]
 ·rw [zFh]; simp [Tm.den, Dat.asB]
 ·cases h : x.eqv y with
  | false => rfl
  | true =>
   have := Tm.eqv_eq _ _ h;subst this;simp [Tm.den, Dat.asB]
theorem zGd (op : BinOp) (x y : Tm) : (zY6 op x y).den = sop op x.den.asS y.den.asS := by
 unfold zY6;split
 ·split
  ·rename_i h; simp only [Tm.den, Dat.asS]; exact h.symm
  ·rename_i h; simp only [Tm.den, Dat.asS]; exact h.symm
  ·rfl
 ·split
  ·simp only [Tm.den, sop, Dat.asS, Dat.dB.injEq];exact BEq.comm
  ·simp only [Tm.den, sop, Dat.asS, Dat.dB.injEq];exact congrArg (!·) BEq.comm
  ·rfl
 ·cases h : x.eqv y with
  | false => rfl
  | true =>
   have := Tm.eqv_eq _ _ h;subst this;simp only [cond_true];split <;> simp [Tm.den, sop]
theorem zTF (k : IntKind) (x : Tm) : (zYq k x).den = .dI (k.wrap x.den.asI) := by
 unfold zYq; split <;> rfl
theorem zR8 (c x y : Tm) : (xE5 c x y).den = bif c.den.asB then x.den else y.den := by
 unfold xE5; split <;> rfl
theorem zA8 (x : Tm) : (zCP x).den = .dI (x.den.asS.length : Int) := by
 unfold zCP; split <;> rfl
theorem zEL (x y : Tm) : (zMb x y).den.asI = x.den.asI + y.den.asI := by
 unfold zMb; split <;> simp [Tm.den, Dat.asI]
theorem zTb (x y : Tm) : (zR0 x y).den.asI = x.den.asI - y.den.asI := by
 unfold zR0;split
 ·simp [Tm.den, Dat.asI]
 ·split <;> simp [Tm.den, Dat.asI]
 ·simp [Tm.den, Dat.asI]
end Go.Proofs.YtenkabjkgngcdaaGreat.Ab
namespace Go.Proofs.YtenkabjkgngcdaaGreat.Ab
open Go
structure Loc where
 b : Nat
 s : Nat
 cap : Nat
 k : Nat
 ext : Nat
 nil : Bool
def xEj (p : Nat) (d : Dat) (c : Array Value) (e : TypeId) (l : Loc) : Prop := match p with
 | 0 => e = 5 ∧ l.s = 0 ∧ l.k = 1 ∧ l.ext = d.asS.length ∧ c.size = l.cap ∧ c.toList.take d.asS.length = d.asS.map fun b => .int .u8 (b.toNat : Int)
 | 1 => l.s = 0 ∧ l.k = 1 ∧ l.ext = 4100 ∧ c.size = 4100 ∧ ∃ (room fr : Nat) (t : List UInt8) (x y : Dat), d = .dP x y ∧ x.asI = room ∧ y.asS = t ∧ 1 ≤ room ∧ room ≤ 4096 ∧ fr < room ∧ t.length ≤ room ∧
  c[4096]? = some (.int .i64 fr) ∧ c[4097]? = some (.int .i64 t.length) ∧ c[4098]? = some (.int .i64 room) ∧ c[4099]? = some (.int .i64 0) ∧
  ∀ i, i < t.length → c[(fr + i) % room]? = (t[i]?).map fun b => .int .u8 (b.toNat : Int)
 | 2 => l.s = 0 ∧ l.k = 1 ∧ ∃ (room fr : Nat) (t : List UInt8) (x y z : Dat), d = .dP x (.dP y z) ∧ x.asI = fr ∧ y.asI = room ∧ z.asS = t ∧ l.ext = room ∧ l.cap = room ∧ c.size = room ∧ 1 ≤ room ∧ room ≤ 4096 ∧ fr < room ∧ t.length ≤ room ∧
  ∀ i, i < t.length → c[(fr + i) % room]? = (t[i]?).map fun b => .int .u8 (b.toNat : Int)
 | _ => False
end Go.Proofs.YtenkabjkgngcdaaGreat.Ab
namespace Go.Proofs.YtenkabjkgngcdaaGreat.Ab
open Go
abbrev Mu := Nat → Option Loc
variable [Rho]
mutual
def VR (μ : Mu) : AV → Value → Prop
 | .bool b, c => c = .bool b
 | .int k n, c => c = .int k n
 | .str s, c => c = .string ⟨s.toArray⟩
 | .ptr id off, c => ∃ l, μ id = some l ∧ c = .pointer (some ⟨l.b, l.s + off, none⟩)
 | .nilPtr, c => c = .pointer none
 | .slice id off len cap, c => ∃ l, μ id = some l ∧ match cap with
  | .known n => c = .slice (some ⟨l.b, l.s + off, none⟩) len n
  | .unk k => 0 < k ∧ l.k = k ∧ off % k = 0 ∧ off + len * k ≤ l.ext ∧ (c = .slice (some ⟨l.b, l.s + off, none⟩) len (l.cap - off / k) ∨
    (len = 0 ∧ l.ext ≤ off ∧ ∃ o, c = .slice (some ⟨l.b, o, none⟩) 0 0))
 | .nilSlice, c => c = .slice none 0 0
 | .map id, c => ∃ l, μ id = some l ∧ c = .map (some l.b)
 | .nilMap, c => c = .map none
 | .func fn a b, c => ∃ x y, VRs μ a x ∧ VRs μ b y ∧ c = .func fn x.toArray y.toArray
 | .nilFunc, c => c = .nilFunc
 | .iface t v, c => ∃ x, VR μ v x ∧ c = .iface t x
 | .nilIface, c => c = .nilIface
 | .agg l, c => ∃ x, VRs μ l x ∧ c = .agg x.toArray
 | .tuple l, c => ∃ x, VRs μ l x ∧ c = .tuple x.toArray
 | .sbool t, c => c = .bool t.den.asB
 | .sint k t, c => c = .int k t.den.asI
 | .sstr t, c => c = .string ⟨t.den.asS.toArray⟩
 | .eptr id k i j, c => ∃ l, μ id = some l ∧ l.k = k ∧ 0 ≤ i.den.asI ∧ i.den.asI.toNat * k + k ≤ l.ext ∧ c = .pointer (some ⟨l.b, l.s + (i.den.asI.toNat * k + j), none⟩)
 | .sslice id k off len, c => ∃ l, μ id = some l ∧ l.k = k ∧ 0 < k ∧ 0 ≤ off.den.asI ∧ 0 ≤ len.den.asI ∧ ((off.den.asI.toNat + len.den.asI.toNat) * k ≤ l.ext ∧ off.den.asI.toNat + len.den.asI.toNat ≤ l.cap) ∧
   ((l.nil = false ∧ (c = .slice (some ⟨l.b, l.s + off.den.asI.toNat * k, none⟩) len.den.asI.toNat (l.cap - off.den.asI.toNat) ∨ (len.den.asI = 0 ∧ ∃ a : Addr, c = .slice (some a) 0 0))) ∨
     (l.nil = true ∧ len.den.asI = 0 ∧ c = .slice none 0 0))
def VRs (μ : Mu) : List AV → List Value → Prop
 | [], c => c = []
 | v :: l, c => ∃ x r, VR μ v x ∧ VRs μ l r ∧ c = x :: r
end
def Ext (μ μ' : Mu) : Prop := ∀ id l, μ id = some l → μ' id = some l
theorem Ext.refl (μ : Mu) : Ext μ μ := fun _ _ h => h
theorem Ext.trans {a b c : Mu} (h : Ext a b) (k : Ext b c) : Ext a c := fun id l e => k id l (h id l e)
mutual
theorem VR.ext {μ μ' : Mu} (e : Ext μ μ') : ∀ (v : AV) (c : Value), VR μ v c → VR μ' v c
 | .bool _, _, h | .int _ _, _, h | .str _, _, h | .nilPtr, _, h | .nilSlice, _, h | .nilMap, _, h | .nilFunc, _, h | .nilIface, _, h | .sbool _, _, h | .sint _ _, _, h | .sstr _, _, h => by simpa [VR] using h
 | .ptr _ _, _, h => by obtain ⟨l, h1, h2⟩ := h; exact ⟨l, e _ _ h1, h2⟩
 | .eptr _ _ _ _, _, h => by obtain ⟨l, h1, h2⟩ := h; exact ⟨l, e _ _ h1, h2⟩
 | .sslice _ _ _ _, _, h => by obtain ⟨l, h1, h2⟩ := h; exact ⟨l, e _ _ h1, h2⟩
 | .slice _ _ _ _, _, h => by obtain ⟨l, h1, h2⟩ := h; exact ⟨l, e _ _ h1, h2⟩
 | .map _, _, h => by obtain ⟨l, h1, h2⟩ := h; exact ⟨l, e _ _ h1, h2⟩
 | .func _ a b, _, h => by obtain ⟨x, y, h1, h2, h3⟩ := h; exact ⟨x, y, VRs.ext e a x h1, VRs.ext e b y h2, h3⟩
 | .iface _ v, _, h => by obtain ⟨x, h1, h2⟩ := h; exact ⟨x, VR.ext e v x h1, h2⟩
 | .agg l, _, h => by obtain ⟨x, h1, h2⟩ := h; exact ⟨x, VRs.ext e l x h1, h2⟩
 | .tuple l, _, h => by obtain ⟨x, h1, h2⟩ := h; exact ⟨x, VRs.ext e l x h1, h2⟩
theorem VRs.ext {μ μ' : Mu} (e : Ext μ μ') : ∀ (v : List AV) (c : List Value), VRs μ v c → VRs μ' v c
 | [], _, h => h
 | v :: l, _, h => by obtain ⟨x, r, h1, h2, h3⟩ := h; exact ⟨x, r, VR.ext e v x h1, VRs.ext e l r h2, h3⟩
end
mutual
theorem VR.back {μ μ' : Mu} (e : Ext μ μ') : ∀ (v : AV) (c c0 : Value), VR μ v c0 → VR μ' v c → VR μ v c
 | .bool _, _, _, _, h | .int _ _, _, _, _, h | .str _, _, _, _, h | .nilPtr, _, _, _, h | .nilSlice, _, _, _, h | .nilMap, _, _, _, h | .nilFunc, _, _, _, h | .nilIface, _, _, _, h | .sbool _, _, _, _, h | .sint _ _, _, _, _, h | .sstr _, _, _, _, h => by simpa [VR] using h
 | .eptr _ _ _ _, _, _, h0, h => by
  obtain ⟨l, h1, _⟩ := h0; obtain ⟨l', h1', h2'⟩ := h;rw [e _ _ h1] at h1'; cases h1'; exact ⟨l, h1, h2'⟩
 | .sslice _ _ _ _, _, _, h0, h => by
  obtain ⟨l, h1, _⟩ := h0; obtain ⟨l', h1', h2'⟩ := h;rw [e _ _ h1] at h1'; cases h1'; exact ⟨l, h1, h2'⟩
 | .ptr _ _, _, _, h0, h => by
  obtain ⟨l, h1, _⟩ := h0; obtain ⟨l', h1', h2'⟩ := h;rw [e _ _ h1] at h1'; cases h1'; exact ⟨l, h1, h2'⟩
 | .slice _ _ _ _, _, _, h0, h => by
  obtain ⟨l, h1, _⟩ := h0; obtain ⟨l', h1', h2'⟩ := h;rw [e _ _ h1] at h1'; cases h1'; exact ⟨l, h1, h2'⟩
 | .map _, _, _, h0, h => by
  obtain ⟨l, h1, _⟩ := h0; obtain ⟨l', h1', h2'⟩ := h;rw [e _ _ h1] at h1'; cases h1'; exact ⟨l, h1, h2'⟩
 | .func _ a b, _, _, h0, h => by
  obtain ⟨x0, y0, p, q, _⟩ := h0; obtain ⟨x, y, h1, h2, h3⟩ := h;exact ⟨x, y, VRs.back e a x x0 p h1, VRs.back e b y y0 q h2, h3⟩
 | .iface _ v, _, _, h0, h => by
  obtain ⟨x0, p, _⟩ := h0; obtain ⟨x, h1, h2⟩ := h; exact ⟨x, VR.back e v x x0 p h1, h2⟩
 | .agg l, _, _, h0, h => by
  obtain ⟨x0, p, _⟩ := h0; obtain ⟨x, h1, h2⟩ := h; exact ⟨x, VRs.back e l x x0 p h1, h2⟩
 | .tuple l, _, _, h0, h => by
  obtain ⟨x0, p, _⟩ := h0; obtain ⟨x, h1, h2⟩ := h; exact ⟨x, VRs.back e l x x0 p h1, h2⟩
theorem VRs.back {μ μ' : Mu} (e : Ext μ μ') : ∀ (v : List AV) (c c0 : List Value), VRs μ v c0 → VRs μ' v c → VRs μ v c
 | [], _, _, _, h => h
 | v :: l, _, _, h0, h => by
  obtain ⟨x0, r0, p, q, _⟩ := h0; obtain ⟨x, r, h1, h2, h3⟩ := h;exact ⟨x, r, VR.back e v x x0 p h1, VRs.back e l r r0 q h2, h3⟩
end
mutual
theorem VR.flat {μ μ' : Mu} : ∀ (v : AV) (c : Value), flat v = true → VR μ v c → VR μ' v c
 | .bool _, _, _, h | .int _ _, _, _, h | .str _, _, _, h | .nilPtr, _, _, h | .nilSlice, _, _, h | .nilMap, _, _, h | .nilFunc, _, _, h | .nilIface, _, _, h | .sbool _, _, _, h | .sint _ _, _, _, h | .sstr _, _, _, h => by simpa [VR] using h
 | .ptr _ _, _, f, _ => by simp [Ab.flat] at f
 | .eptr _ _ _ _, _, f, _ => by simp [Ab.flat] at f
 | .sslice _ _ _ _, _, f, _ => by simp [Ab.flat] at f
 | .slice _ _ _ _, _, f, _ => by simp [Ab.flat] at f
 | .map _, _, f, _ => by simp [Ab.flat] at f
 | .func _ a b, _, f, h => by
  simp [Ab.flat] at f;obtain ⟨x, y, h1, h2, h3⟩ := h; exact ⟨x, y, VRs.flat a x f.1 h1, VRs.flat b y f.2 h2, h3⟩
 | .iface _ v, _, f, h => by
  simp [Ab.flat] at f;obtain ⟨x, h1, h2⟩ := h; exact ⟨x, VR.flat v x f h1, h2⟩
 | .agg l, _, f, h => by
  simp [Ab.flat] at f;obtain ⟨x, h1, h2⟩ := h; exact ⟨x, VRs.flat l x f h1, h2⟩
 | .tuple l, _, f, h => by
  simp [Ab.flat] at f;obtain ⟨x, h1, h2⟩ := h; exact ⟨x, VRs.flat l x f h1, h2⟩
theorem VRs.flat {μ μ' : Mu} : ∀ (v : List AV) (c : List Value), flats v = true → VRs μ v c → VRs μ' v c
 | [], _, _, h => h
 | v :: l, _, f, h => by
  simp [Ab.flats] at f;obtain ⟨x, r, h1, h2, h3⟩ := h; exact ⟨x, r, VR.flat v x f.1 h1, VRs.flat l r f.2 h2, h3⟩
end
theorem VRs.length {μ : Mu} : ∀ {v : List AV} {c : List Value}, VRs μ v c → c.length = v.length
 | [], _, h => by cases h; rfl
 | _ :: l, _, h => by obtain ⟨x, r, _, h2, rfl⟩ := h; simp [VRs.length h2]
theorem VRs.get {μ : Mu} : ∀ {v : List AV} {c : List Value}, VRs μ v c → ∀ (i : Nat) (x : AV), v[i]? = some x → ∃ y, c[i]? = some y ∧ VR μ x y
 | [], _, _, i, x, hx => by simp at hx
 | a :: l, _, h, i, x, hx => by
  obtain ⟨y, r, h1, h2, rfl⟩ := h;cases i with
  | zero => simp at hx; subst hx; exact ⟨y, rfl, h1⟩
  | succ i => simp at hx; simpa using VRs.get h2 i x hx
theorem VRs.append {μ : Mu} : ∀ {a b : List AV} {x y : List Value}, VRs μ a x → VRs μ b y → VRs μ (a ++ b) (x ++ y)
 | [], _, _, _, h, k => by cases h; exact k
 | _ :: l, _, _, _, h, k => by obtain ⟨y, r, h1, h2, rfl⟩ := h; exact ⟨y, _, h1, VRs.append h2 k, rfl⟩
theorem VRs.of_get {μ : Mu} : ∀ {v : List AV} {c : List Value}, c.length = v.length → (∀ (i : Nat) (x : AV) (y : Value), v[i]? = some x → c[i]? = some y → VR μ x y) → VRs μ v c
 | [], c, h, _ => by cases c with | nil => rfl | cons _ _ => simp at h
 | a :: l, c, h, g => by
  cases c with
  | nil => simp at h
  | cons y r =>
   exact ⟨y, r, g 0 a y rfl rfl, VRs.of_get (by simpa using h) (fun i x z hx hz => g (i + 1) x z (by simpa using hx) (by simpa using hz)), rfl⟩
theorem VRs.drop {μ : Mu} {v : List AV} {c : List Value} (h : VRs μ v c) (n : Nat) : VRs μ (v.drop n) (c.drop n) :=
 VRs.of_get (by simp [h.length]) fun i x y hx hy => by
  rw [List.getElem?_drop] at hx hy;obtain ⟨z, hz, hv⟩ := h.get _ x hx;rw [hz] at hy; cases hy; exact hv
theorem VRs.take {μ : Mu} {v : List AV} {c : List Value} (h : VRs μ v c) (n : Nat) : VRs μ (v.take n) (c.take n) :=
 VRs.of_get (by simp [h.length]) fun i x y hx hy => by
  rw [List.getElem?_take] at hx hy;split at hx
  ·rename_i hlt;rw [if_pos hlt] at hy;obtain ⟨z, hz, hv⟩ := h.get _ x hx;rw [hz] at hy; cases hy; exact hv
  ·cases hx
theorem zQn : ∀ (vs : List AV) (n : Nat) (l : List AV), takeN vs n = some l → l = vs.take n ∧ n ≤ vs.length
 | _, 0, l, h => by simp [takeN] at h; simp [h.symm]
 | [], n + 1, l, h => by simp [takeN] at h
 | v :: vs, n + 1, l, h => by
  simp only [takeN] at h;cases ht : takeN vs n with
  | none => simp [ht] at h
  | some r =>
   simp [ht] at h;obtain ⟨h1, h2⟩ := zQn vs n r ht;subst h; subst h1; exact ⟨rfl, by simpa using h2⟩
theorem zFp {vs : List AV} {off n : Nat} {l : List AV} (h : zEq vs off n = some l) : l = (vs.drop off).take n ∧ (n = 0 ∨ off + n ≤ vs.length) := by
 obtain ⟨h1, h2⟩ := zQn _ _ _ h;refine ⟨h1, ?_⟩;rw [List.length_drop] at h2; omega
theorem zWh : ∀ (vs new l : List AV), over vs new = some l → l = new ++ vs.drop new.length ∧ new.length ≤ vs.length
 | vs, [], l, h => by cases vs <;> simp [over] at h <;> simp [h.symm]
 | [], _ :: _, l, h => by simp [over] at h
 | _ :: vs, n :: ns, l, h => by
  simp only [over] at h;cases ht : over vs ns with
  | none => simp [ht] at h
  | some r =>
   simp [ht] at h;obtain ⟨h1, h2⟩ := zWh vs ns r ht;subst h; subst h1; exact ⟨rfl, by simpa using h2⟩
theorem zGD : ∀ (vs : List AV) (off : Nat) (new l : List AV), putAt vs off new = some l →
  l = vs.take off ++ new ++ vs.drop (off + new.length) ∧ off + new.length ≤ vs.length
 | vs, 0, new, l, h => by
  have h' : over vs new = some l := by cases vs <;> exact h
  obtain ⟨h1, h2⟩ := zWh _ _ _ h';simp [h1, h2]
 | [], _ + 1, _, l, h => by simp [putAt] at h
 | v :: vs, off + 1, new, l, h => by
  simp only [putAt] at h;cases ht : putAt vs off new with
  | none => simp [ht] at h
  | some r =>
   simp [ht] at h;obtain ⟨h1, h2⟩ := zGD vs off new r ht;subst h; subst h1;refine ⟨by simp [Nat.add_right_comm], by simp; omega⟩
theorem zNK {vs : List AV} {off : Nat} {new l : List AV} (h : putAt vs off new = some l) : l.length = vs.length := by
 obtain ⟨h1, h2⟩ := zGD _ _ _ _ h;subst h1; simp; omega
theorem zNL {vs : List AV} {off : Nat} {new l : List AV} (h : putAt vs off new = some l) (i : Nat) :
  l[i]? = if off ≤ i ∧ i < off + new.length then new[i - off]? else vs[i]? := by
 obtain ⟨h1, h2⟩ := zGD _ _ _ _ h;subst h1;by_cases h3 : i < off
 ·rw [if_neg (by omega), List.append_assoc, List.getElem?_append_left (by simp; omega), List.getElem?_take, if_pos h3]
 ·by_cases h4 : i < off + new.length
  ·rw [if_pos (by omega), List.append_assoc, List.getElem?_append_right (by simp; omega), List.getElem?_append_left (by simp; omega)]
   congr 1; simp; omega
  ·rw [if_neg (by omega), List.getElem?_append_right (by simp; omega), List.getElem?_drop]
   congr 1; simp; omega
def owned : AObj → Bool
 | .row _ own _ => own
 | .map _ => true
 | .bytes _ own => own
 | .seq _ _ own => own
 | .pin _ _ => false
 | .nst _ _ _ _ _ _ => false
 | .abs _ _ => true
def kdV : Kd → Dat → Value
 | .kb, d => .bool d.asB
 | .ki k, d => .int k d.asI
 | .ks, d => .string ⟨d.asS.toArray⟩
def ERs (μ : Mu) (es : List (AV × AV)) (ents : List MapEntry) : Prop :=
 VRs μ (es.map (·.1)) (ents.map (·.key)) ∧ VRs μ (es.map (·.2)) (ents.map (·.val))
def xID (l : Loc) (w : World) (sh : List Kd) (L : List (List Dat)) (own : Bool) : Prop := ∃ c e lo hi, w.heap[l.b]? = some (.cells c e (lo, hi)) ∧ (own = true → l.s + l.cap * l.k ≤ c.size) ∧
   (own = true → c.size ≤ lo ∨ hi ≤ lo) ∧ (∀ i, i < L.length → ∀ j kd, sh[j]? = some kd → c[l.s + (i * l.k + j)]? = some (kdV kd ((L.getD i []).getD j (.dI 0))))
def RepO (μ : Mu) (id : Nat) (w : World) : AObj → Prop
 | .row vs own _ => ∃ l c e lo hi, (μ id = some l ∧ l.nil = false) ∧ w.heap[l.b]? = some (.cells c e (lo, hi)) ∧ vs.length = l.ext ∧ l.ext ≤ l.cap * l.k ∧ l.s + l.cap * l.k ≤ c.size ∧
   (own = true → c.size ≤ lo ∨ hi ≤ lo) ∧ (∀ i x, vs[i]? = some x → zCo x = true ∧ ∃ y, c[l.s + i]? = some y ∧ VR μ x y)
 | .map es => ∃ l ents clock es', (μ id = some l ∧ l.nil = false) ∧ w.heap[l.b]? = some (.map ents clock) ∧ es'.Perm es ∧ ERs μ es' ents.toList
 | .bytes t own => ∃ l c e lo hi, (μ id = some l ∧ l.nil = false) ∧ w.heap[l.b]? = some (.cells c e (lo, hi)) ∧ (l.k = 1 ∧ t.den.asS.length = l.ext) ∧ l.ext ≤ l.cap * l.k ∧ l.s + l.cap * l.k ≤ c.size ∧
   (own = true → c.size ≤ lo ∨ hi ≤ lo) ∧ (∀ i x, t.den.asS[i]? = some x → c[l.s + i]? = some (.int .u8 (x.toNat : Int)))
 | .seq sh t own => ∃ l, μ id = some l ∧ (l.k = sh.length ∧ t.den.asL.length * l.k = l.ext) ∧ l.ext ≤ l.cap * l.k ∧ ((l.nil = true ∧ l.cap = 0 ∧ t.den.asL = []) ∨ (l.nil = false ∧ xID l w sh t.den.asL own))
 | .pin b q => ∃ l l', (μ id = some l ∧ l.nil = true) ∧ (μ q = some l' ∧ l'.nil = false) ∧ l'.b = b ∧ l'.s = 0
 | .nst sh t jn z N k2 => ∃ l c e lo hi, (μ id = some l ∧ l.nil = false) ∧ w.heap[l.b]? = some (.cells c e (lo, hi)) ∧ (l.k = sh.length ∧ t.den.asL.length * l.k = l.ext) ∧ l.ext ≤ l.cap * l.k ∧ t.den.asL.length ≤ N ∧
   (∀ i, i < t.den.asL.length → ∀ j kd, sh[j]? = some kd → ∃ y, c[l.s + (i * l.k + j)]? = some y ∧ VR μ (zMc t i jn z k2 kd j) y)
 | .abs p t => ∃ l c e lo hi, (μ id = some l ∧ l.nil = false) ∧ w.heap[l.b]? = some (.cells c e (lo, hi)) ∧ (c.size ≤ lo ∨ hi ≤ lo) ∧ l.ext ≤ l.cap * l.k ∧ xEj p t.den c e l
structure Rep (μ : Mu) (h : Nat → Option AObj) (w : World) : Prop where
 obj : ∀ id o, h id = some o → RepO μ id w o
 inj : ∀ i j oi oj li lj, h i = some oi → h j = some oj → i ≠ j → owned oi = true ∨ owned oj = true → μ i = some li → μ j = some lj → li.nil = false → lj.nil = false → li.b ≠ lj.b
def Mine (μ : Mu) (h : Nat → Option AObj) (b : Nat) : Prop := ∃ j o l, h j = some o ∧ owned o = true ∧ (μ j = some l ∧ l.nil = false) ∧ l.b = b
structure Evo (μ : Mu) (h : Nat → Option AObj) (n : Nat) (w : World) (μ' : Mu) (h' : Nat → Option AObj) (n' : Nat) (w' : World) : Prop where
 ext : Ext μ μ'
 rep : Rep μ' h' w'
 lo : n ≤ n'
 dom : ∀ id, n' ≤ id → μ' id = none
 old : ∀ id l, μ' id = some l → μ id = none → n ≤ id ∧ (l.nil = true ∨ w.heap.size ≤ l.b ∨ Mine μ h l.b)
 keep : ∀ b, b < w.heap.size → ¬ Mine μ h b → w'.heap[b]? = w.heap[b]?
 mine : ∀ b, Mine μ' h' b → b < w.heap.size → Mine μ h b
 live : ∀ id o, h' id = some o → (∃ o0, h id = some o0) ∨ n ≤ id
 size : w.heap.size ≤ w'.heap.size
 os : w'.os = w.os
 tape : w'.tape = w.tape
 output : w'.output = w.output
def Dom (μ : Mu) (n : Nat) : Prop := ∀ id, n ≤ id → μ id = none
theorem RepO.mu {μ : Mu} {id : Nat} {w : World} {o : AObj} (h : RepO μ id w o) : ∃ l, μ id = some l ∧ (l.nil = false → l.b < w.heap.size) := by
 cases o with
 | row vs own lf =>
  obtain ⟨l, c, e, lo, hi, ⟨h1, _⟩, h2, _⟩ := h;exact ⟨l, h1, fun _ => (Array.getElem?_eq_some_iff.1 h2).1⟩
 | map es =>
  obtain ⟨l, c, e, lo, ⟨h1, _⟩, h2, _⟩ := h;exact ⟨l, h1, fun _ => (Array.getElem?_eq_some_iff.1 h2).1⟩
 | bytes t own =>
  obtain ⟨l, c, e, lo, hi, ⟨h1, _⟩, h2, _⟩ := h;exact ⟨l, h1, fun _ => (Array.getElem?_eq_some_iff.1 h2).1⟩
 | seq sh t own =>
  obtain ⟨l, h1, _, _, ⟨h2, _⟩ | ⟨_, c, e, lo, hi, h2, _⟩⟩ := h
  ·exact ⟨l, h1, fun h => by rw [h] at h2; cases h2⟩
  ·exact ⟨l, h1, fun _ => (Array.getElem?_eq_some_iff.1 h2).1⟩
 | pin b q =>
  obtain ⟨l, _, ⟨h1, h2⟩, _⟩ := h;exact ⟨l, h1, fun h => by rw [h2] at h; cases h⟩
 | nst sh t jn z N k2 =>
  obtain ⟨l, c, e, lo, hi, ⟨h1, _⟩, h2, _⟩ := h;exact ⟨l, h1, fun _ => (Array.getElem?_eq_some_iff.1 h2).1⟩
 | abs p t =>
  obtain ⟨l, c, e, lo, hi, ⟨h1, _⟩, h2, _⟩ := h;exact ⟨l, h1, fun _ => (Array.getElem?_eq_some_iff.1 h2).1⟩
theorem RepO.seq_real {μ : Mu} {id : Nat} {w : World} {sh : List Kd} {t : Tm} {own : Bool} (h : RepO μ id w (.seq sh t own)) {l : Loc} (hl : μ id = some l) (hx : 0 < l.ext) : l.nil = false := by
 obtain ⟨l', h1, _, h3, ⟨_, h4, _⟩ | ⟨h4, _⟩⟩ := h
 ·rw [hl] at h1; cases h1;rw [h4] at h3; omega
 ·rw [hl] at h1; cases h1; exact h4
theorem RepO.seq_at {μ : Mu} {id : Nat} {w : World} {sh : List Kd} {t : Tm} {own : Bool} (h : RepO μ id w (.seq sh t own)) {l : Loc} (hl : μ id = some l) (hz : l.nil = false) :
  ∃ c e lo hi, w.heap[l.b]? = some (.cells c e (lo, hi)) ∧ (l.k = sh.length ∧ t.den.asL.length * l.k = l.ext) ∧ l.ext ≤ l.cap * l.k ∧ (own = true → l.s + l.cap * l.k ≤ c.size) ∧
   (own = true → c.size ≤ lo ∨ hi ≤ lo) ∧ (∀ i, i < t.den.asL.length → ∀ j kd, sh[j]? = some kd → c[l.s + (i * l.k + j)]? = some (kdV kd ((t.den.asL.getD i []).getD j (.dI 0)))) := by
 obtain ⟨l', h1, h2, h3, ⟨h4, _⟩ | ⟨_, c, e, lo, hi, h5, h6, h7, h8⟩⟩ := h
 ·rw [hl] at h1; cases h1;rw [hz] at h4; cases h4
 ·rw [hl] at h1; cases h1;exact ⟨c, e, lo, hi, h5, h2, h3, h6, h7, h8⟩
theorem Rep.lt {μ : Mu} {h : Nat → Option AObj} {w : World} (r : Rep μ h w) {n : Nat} (d : Dom μ n) {id : Nat} {o : AObj} (e : h id = some o) : id < n := by
 obtain ⟨l, hl, _⟩ := (r.obj id o e).mu;rcases Nat.lt_or_ge id n with h' | h'
 ·exact h'
 ·rw [d id h'] at hl; cases hl
theorem RepO.keep {μ μ' : Mu} (e : Ext μ μ') {id : Nat} {w w' : World} {o : AObj} (h : RepO μ id w o) (k : ∀ l, μ id = some l → l.nil = false → w'.heap[l.b]? = w.heap[l.b]?) : RepO μ' id w' o := by
 cases o with
 | row vs own lf =>
  obtain ⟨l, c, t, lo, hi, ⟨h1, hz⟩, h2, h3, h4, h5, h6, h7⟩ := h;refine ⟨l, c, t, lo, hi, ⟨e _ _ h1, hz⟩, by rw [k l h1 hz, h2], h3, h4, h5, h6, fun i x hx => ?_⟩
  obtain ⟨h8, y, h9, h10⟩ := h7 i x hx;exact ⟨h8, y, h9, h10.ext e⟩
 | map es =>
  obtain ⟨l, ents, clock, es', ⟨h1, hz⟩, h2, h3, h4, h5⟩ := h;exact ⟨l, ents, clock, es', ⟨e _ _ h1, hz⟩, by rw [k l h1 hz, h2], h3, h4.ext e, h5.ext e⟩
 | bytes t own =>
  obtain ⟨l, c, t, lo, hi, ⟨h1, hz⟩, h2, h3⟩ := h;exact ⟨l, c, t, lo, hi, ⟨e _ _ h1, hz⟩, by rw [k l h1 hz, h2], h3⟩
 | seq sh t own =>
  obtain ⟨l, h1, h2, h3, h4 | ⟨hz, c, t, lo, hi, h5, h6⟩⟩ := h
  ·exact ⟨l, e _ _ h1, h2, h3, .inl h4⟩
  ·exact ⟨l, e _ _ h1, h2, h3, .inr ⟨hz, c, t, lo, hi, by rw [k l h1 hz, h5], h6⟩⟩
 | pin b q =>
  obtain ⟨l, l', ⟨h1, h2⟩, ⟨h3, h4⟩, h5⟩ := h;exact ⟨l, l', ⟨e _ _ h1, h2⟩, ⟨e _ _ h3, h4⟩, h5⟩
 | nst sh t jn z N k2 =>
  obtain ⟨l, c, e', lo, hi, ⟨h1, hz⟩, h2, h3, h4, h5, h6⟩ := h;refine ⟨l, c, e', lo, hi, ⟨e _ _ h1, hz⟩, by rw [k l h1 hz, h2], h3, h4, h5, fun i hi' j kd hj => ?_⟩
  obtain ⟨y, h7, h8⟩ := h6 i hi' j kd hj;exact ⟨y, h7, h8.ext e⟩
 | abs p t =>
  obtain ⟨l, c, e', lo, hi, ⟨h1, hz⟩, h2, h3⟩ := h;exact ⟨l, c, e', lo, hi, ⟨e _ _ h1, hz⟩, by rw [k l h1 hz, h2], h3⟩
theorem Evo.refl {μ : Mu} {h : Nat → Option AObj} {n : Nat} {w : World} (r : Rep μ h w) (d : Dom μ n) : Evo μ h n w μ h n w :=
 ⟨Ext.refl μ, r, Nat.le_refl _, d, fun id l h1 h2 => (by rw [h2] at h1; cases h1), fun _ _ _ => rfl, fun _ m _ => m, fun id o h => .inl ⟨o, h⟩, Nat.le_refl _, rfl, rfl, rfl⟩
theorem Evo.trans {μ μ1 μ2 : Mu} {h h1 h2 : Nat → Option AObj} {n n1 n2 : Nat} {w w1 w2 : World} (a : Evo μ h n w μ1 h1 n1 w1) (b : Evo μ1 h1 n1 w1 μ2 h2 n2 w2) : Evo μ h n w μ2 h2 n2 w2 := by
 refine ⟨a.ext.trans b.ext, b.rep, Nat.le_trans a.lo b.lo, b.dom, fun id l h3 h4 => ?_, fun k hk hm => ?_, fun k m hk => a.mine k (b.mine k m (Nat.lt_of_lt_of_le hk a.size)) hk, fun id o h => ?_, Nat.le_trans a.size b.size, b.os.trans a.os, b.tape.trans a.tape, b.output.trans a.output⟩
 ·cases h5 : μ1 id with
  | some l1 =>
   have := b.ext id l1 h5;rw [this] at h3; cases h3;exact a.old id l h5 h4
  | none =>
   obtain ⟨p, q⟩ := b.old id l h3 h5;refine ⟨Nat.le_trans a.lo p, ?_⟩;rcases q with q | q | q
   ·exact .inl q
   ·exact .inr (.inl (Nat.le_trans a.size q))
   ·rcases Nat.lt_or_ge l.b w.heap.size with h' | h'
    ·exact .inr (.inr (a.mine _ q h'))
    ·exact .inr (.inl h')
 ·rw [b.keep k (Nat.lt_of_lt_of_le hk a.size) (fun hm' => hm (a.mine k hm' hk)), a.keep k hk hm]
 ·rcases b.live id o h with ⟨o1, h1⟩ | h1
  ·exact a.live id o1 h1
  ·exact .inr (Nat.le_trans a.lo h1)
theorem look_nil (id : Nat) : look [] id = none := rfl
theorem zBh (p : Nat × AObj) (l : List (Nat × AObj)) (id : Nat) : look (p :: l) id = bif Nat.beq p.1 id then some p.2 else look l id := by
 show @Bool.rec (fun _ => Option AObj) (look l id) (some p.2) (Nat.beq p.1 id) = _;cases Nat.beq p.1 id <;> rfl
theorem zJE (l : List (Nat × AObj)) (id : Nat) (o : AObj) (j : Nat) : look (xCH l id o) j = if j = id then (look l id).map (fun _ => o) else look l j := by
 induction l with
 | nil => simp [xCH, look_nil]
 | cons p l ih =>
  simp only [xCH, zBh];cases hp : Nat.beq p.1 id with
  | true =>
   have hp' : p.1 = id := Nat.eq_of_beq_eq_true hp;simp only [cond_true, zBh];by_cases hj : j = id
   ·subst hj; simp [hp]
   ·have : Nat.beq p.1 j = false := by
     cases h : Nat.beq p.1 j with
     | false => rfl
     | true => exact absurd ((Nat.eq_of_beq_eq_true h).symm.trans hp') hj
    simp [this, hj]
  | false =>
   simp only [cond_false, zBh, ih];by_cases hj : j = id
   ·subst hj; simp [hp]
   ·simp [hj]
theorem zMp (l : List (Nat × AObj)) (id j : Nat) : look (drp l id) j = if j = id then none else look l j := by
 induction l with
 | nil => simp [drp, look_nil]
 | cons p l ih =>
  simp only [drp, zBh];cases hp : Nat.beq p.1 id with
  | true =>
   have hp' : p.1 = id := Nat.eq_of_beq_eq_true hp;simp only [cond_true, ih];by_cases hj : j = id
   ·rw [if_pos hj, if_pos hj]
   ·have : Nat.beq p.1 j = false := by
     cases h : Nat.beq p.1 j with
     | false => rfl
     | true => exact absurd ((Nat.eq_of_beq_eq_true h).symm.trans hp') hj
    simp [this, hj]
  | false =>
   simp only [cond_false, zBh, ih];by_cases hj : j = id
   ·subst hj; simp [hp]
   ·simp only [if_neg hj]
theorem zH2 (H : Heap) (id : Nat) (o : AObj) (j : Nat) : (H.upd id o).get j = if j = id then (H.get id).map (fun _ => o) else H.get j := zJE _ _ _ _
theorem zIt (H : Heap) (id j : Nat) : (H.kill id).get j = if j = id then none else H.get j := zMp _ _ _
theorem zBi (H : Heap) (o : AObj) (j : Nat) : (H.new o).get j = if j = H.next then some o else H.get j := by
 show look ((H.next, o) :: H.objs) j = _;simp only [zBh];by_cases h : j = H.next
 ·subst h; simp
 ·have : Nat.beq H.next j = false := by
   cases h' : Nat.beq H.next j with
   | false => rfl
   | true => exact absurd (Nat.eq_of_beq_eq_true h').symm h
  simp [this, h]; rfl
def setMu (μ : Mu) (id : Nat) (l : Loc) : Mu := fun j => if j = id then some l else μ j
theorem Ext.set {μ : Mu} {id : Nat} {l : Loc} (h : μ id = none) : Ext μ (setMu μ id l) := fun j m hj => by
 unfold setMu;split
 ·rename_i e; subst e; rw [h] at hj; cases hj
 ·exact hj
structure Plus (w : World) (o : Obj) (w' : World) : Prop where
 heap : w'.heap = w.heap.push o
 os : w'.os = w.os
 tape : w'.tape = w.tape
 output : w'.output = w.output
theorem Plus.refl (w : World) (o : Obj) : Plus w o { w with heap := w.heap.push o } := ⟨rfl, rfl, rfl, rfl⟩
theorem Plus.old {w w' : World} {o : Obj} (p : Plus w o w') {b : Nat} (h : b < w.heap.size) : w'.heap[b]? = w.heap[b]? := by
 rw [p.heap, Array.getElem?_push, if_neg (by omega)]
theorem Plus.at {w w' : World} {o : Obj} (p : Plus w o w') : w'.heap[w.heap.size]? = some o := by
 rw [p.heap]; simp
theorem Plus.size {w w' : World} {o : Obj} (p : Plus w o w') : w'.heap.size = w.heap.size + 1 := by
 rw [p.heap]; simp
theorem zFP {μ : Mu} {H : Heap} {w w' : World} (r : Rep μ H.get w) (d : Dom μ H.next) {obj : Obj} (p : Plus w obj w') (o : AObj) (l : Loc)
  (hb : l.b = w.heap.size) (ho : ∀ μ', Ext μ μ' → μ' H.next = some l → RepO μ' H.next w' o) :
  Evo μ H.get H.next w (setMu μ H.next l) (H.new o).get (H.new o).next w' := by
 have hd := d H.next (Nat.le_refl _);have he : Ext μ (setMu μ H.next l) := Ext.set hd;have hne : ∀ {id o}, H.get id = some o → id ≠ H.next := fun h => Nat.ne_of_lt (r.lt d h);refine ⟨he, ⟨fun id o h => ?_, fun i j oi oj li lj h1 h2 hij ho h3 h4 z1 z2 => ?_⟩, Nat.le_succ _, fun id h => ?_, fun id m h1 h2 => ?_, fun b h _ => p.old h, fun b m h => ?_, fun id o h => ?_, by rw [p.size]; omega, p.os, p.tape, p.output⟩
 ·rw [zBi] at h;split at h
  ·rename_i hid;cases h; subst hid;exact ho _ he (by simp [setMu])
  ·refine (r.obj id o h).keep he fun m hm hz => ?_;obtain ⟨m', hm', hlt⟩ := (r.obj id o h).mu;rw [hm] at hm'; cases hm';exact p.old (hlt hz)
 ·rw [zBi] at h1 h2;have hb' : ∀ {k ok lk}, H.get k = some ok → setMu μ H.next l k = some lk → lk.nil = false → lk.b < w.heap.size := fun {k ok lk} h h' hz => by
   obtain ⟨m', hm', hlt⟩ := (r.obj k ok h).mu;simp [setMu, hne h] at h';rw [h'] at hm'; cases hm'; exact hlt hz
  split at h1
  ·rename_i hi;rw [if_neg (by omega)] at h2
   have h5 := hb' h2 h4 z2;simp [setMu, hi] at h3; subst h3; omega
  ·split at h2
   ·rename_i hj;have h5 := hb' h1 h3 z1;simp [setMu, hj] at h4; subst h4; omega
   ·simp [setMu, hne h1] at h3;simp [setMu, hne h2] at h4;exact r.inj i j oi oj li lj h1 h2 hij ho h3 h4 z1 z2
 ·have : H.next < id := h;simp [setMu, Nat.ne_of_gt this];exact d id (by omega)
 ·unfold setMu at h1;split at h1
  ·rename_i hid; cases h1; exact ⟨by omega, .inr (.inl (by omega))⟩
  ·rw [h2] at h1; cases h1
 ·obtain ⟨j, o, m, h1, h2, ⟨h3, hz⟩, h4⟩ := m;rw [zBi] at h1;split at h1
  ·rename_i hj;simp [setMu, hj] at h3; subst h3; omega
  ·simp [setMu, hne h1] at h3;exact ⟨j, o, m, h1, h2, ⟨h3, hz⟩, h4⟩
 ·rw [zBi] at h;split at h
  ·exact .inr (by omega)
  ·exact .inl ⟨o, h⟩
theorem zXj {μ : Mu} {H : Heap} {w : World} (r : Rep μ H.get w) (d : Dom μ H.next) (o : AObj) (l : Loc)
  (hz : l.nil = true) (ho : ∀ μ', Ext μ μ' → μ' H.next = some l → RepO μ' H.next w o) :
  Evo μ H.get H.next w (setMu μ H.next l) (H.new o).get (H.new o).next w := by
 have hd := d H.next (Nat.le_refl _);have he : Ext μ (setMu μ H.next l) := Ext.set hd;have hne : ∀ {id o}, H.get id = some o → id ≠ H.next := fun h => Nat.ne_of_lt (r.lt d h);have hmn : setMu μ H.next l H.next = some l := by simp [setMu]
 refine ⟨he, ⟨fun id o h => ?_, fun i j oi oj li lj h1 h2 hij ho h3 h4 z1 z2 => ?_⟩, Nat.le_succ _, fun id h => ?_, fun id m h1 h2 => ?_, fun b h _ => rfl, fun b m h => ?_, fun id o h => ?_, Nat.le_refl _, rfl, rfl, rfl⟩
 ·rw [zBi] at h;split at h
  ·rename_i hid;cases h; subst hid;exact ho _ he hmn
  ·exact (r.obj id o h).keep he fun _ _ _ => rfl
 ·rw [zBi] at h1 h2;split at h1
  ·rename_i hi;subst hi;rw [hmn] at h3; cases h3;rw [hz] at z1; cases z1
  ·split at h2
   ·rename_i hj;subst hj;rw [hmn] at h4; cases h4;rw [hz] at z2; cases z2
   ·simp [setMu, hne h1] at h3;simp [setMu, hne h2] at h4;exact r.inj i j oi oj li lj h1 h2 hij ho h3 h4 z1 z2
 ·have : H.next < id := h;simp [setMu, Nat.ne_of_gt this];exact d id (by omega)
 ·unfold setMu at h1;split at h1
  ·rename_i hid; cases h1; exact ⟨by omega, .inl hz⟩
  ·rw [h2] at h1; cases h1
 ·obtain ⟨j, o, m, h1, h2, ⟨h3, hz'⟩, h4⟩ := m;rw [zBi] at h1;split at h1
  ·rename_i hj;subst hj;rw [hmn] at h3; cases h3;rw [hz] at hz'; cases hz'
  ·simp [setMu, hne h1] at h3;exact ⟨j, o, m, h1, h2, ⟨h3, hz'⟩, h4⟩
 ·rw [zBi] at h;split at h
  ·exact .inr (by omega)
  ·exact .inl ⟨o, h⟩
theorem zMx {μ : Mu} {H : Heap} {w w' : World} (r : Rep μ H.get w) (d : Dom μ H.next) {id : Nat} {o o' : AObj} (hg : H.get id = some o) (hown : owned o = true)
  {l : Loc} (hl : μ id = some l ∧ l.nil = false) (hk : ∀ b, b ≠ l.b → w'.heap[b]? = w.heap[b]?) (hs : w'.heap.size = w.heap.size) (hos : w'.os = w.os) (htp : w'.tape = w.tape) (hou : w'.output = w.output)
  (ho : RepO μ id w' o') : Evo μ H.get H.next w μ (H.upd id o').get (H.upd id o').next w' := by
 have hgu : ∀ j, (H.upd id o').get j = if j = id then some o' else H.get j := fun j => by rw [zH2, hg]; rfl
 refine ⟨Ext.refl μ, ⟨fun j oj h => ?_, fun i j oi oj li lj h1 h2 hij hoo h3 h4 z1 z2 => ?_⟩, Nat.le_refl _, d, fun j m h1 h2 => (by rw [h2] at h1; cases h1), fun b _ hm => hk b fun hb => hm ⟨id, o, l, hg, hown, hl, hb.symm⟩, fun b m _ => ?_, fun j oj h => ?_, by omega, hos, htp, hou⟩
 ·rw [hgu] at h;split at h
  ·rename_i e; cases h; subst e; exact ho
  ·rename_i e;refine (r.obj j oj h).keep (Ext.refl μ) fun m hm hz => hk _ fun hb => ?_;exact r.inj j id oj o m l h hg e (.inr hown) hm hl.1 hz hl.2 hb
 ·rw [hgu] at h1 h2;split at h1
  ·rename_i e1;split at h2
   ·rename_i e2; omega
   ·subst e1;rw [hl.1] at h3; cases h3;exact r.inj i j o oj l lj hg h2 hij (.inl hown) hl.1 h4 z1 z2
  ·split at h2
   ·rename_i e2; subst e2;rw [hl.1] at h4; cases h4;exact r.inj i j oi o li l h1 hg hij (.inr hown) h3 hl.1 z1 z2
   ·exact r.inj i j oi oj li lj h1 h2 hij hoo h3 h4 z1 z2
 ·obtain ⟨j, oj, m, h1, h2, h3, h4⟩ := m;rw [hgu] at h1;split at h1
  ·rename_i e; subst e;rw [hl.1] at h3;obtain ⟨h3, _⟩ := h3;cases h3;exact ⟨j, o, l, hg, hown, hl, h4⟩
  ·exact ⟨j, oj, m, h1, h2, h3, h4⟩
 ·rw [hgu] at h;split at h
  ·rename_i e; subst e; exact .inl ⟨o, hg⟩
  ·exact .inl ⟨oj, h⟩
theorem zRI {μ : Mu} {H : Heap} {w : World} (r : Rep μ H.get w) (d : Dom μ H.next) (id : Nat) : Evo μ H.get H.next w μ (H.kill id).get (H.kill id).next w := by
 have hgk : ∀ j o, (H.kill id).get j = some o → H.get j = some o ∧ j ≠ id := fun j o h => by
  rw [zIt] at h;split at h
  ·cases h
  ·rename_i e; exact ⟨h, e⟩
 refine ⟨Ext.refl μ, ⟨fun j oj h => r.obj j oj (hgk _ _ h).1, fun i j oi oj li lj h1 h2 => r.inj i j oi oj li lj (hgk _ _ h1).1 (hgk _ _ h2).1⟩, Nat.le_refl _, d, fun j m h1 h2 => (by rw [h2] at h1; cases h1), fun _ _ _ => rfl, fun b m _ => ?_, fun j o h => .inl ⟨o, (hgk _ _ h).1⟩, Nat.le_refl _, rfl, rfl, rfl⟩
 obtain ⟨j, oj, m, h1, h2, h3, h4⟩ := m;exact ⟨j, oj, m, (hgk _ _ h1).1, h2, h3, h4⟩
theorem zMy {μ : Mu} {H : Heap} {w w' : World} (r : Rep μ H.get w) (d : Dom μ H.next) {id : Nat} {o o' : AObj} (hg : H.get id = some o) (hown : owned o = true)
  {l l' : Loc} (hl : μ id = some l ∧ l.nil = false) (hb : l'.b = l.b) (hz' : l'.nil = false) (hk : ∀ b, b ≠ l.b → w'.heap[b]? = w.heap[b]?) (hs : w'.heap.size = w.heap.size) (hos : w'.os = w.os) (htp : w'.tape = w.tape) (hou : w'.output = w.output)
  (ho : ∀ μ', Ext μ μ' → μ' H.next = some l' → RepO μ' H.next w' o') : Evo μ H.get H.next w (setMu μ H.next l') ((H.kill id).new o').get ((H.kill id).new o').next w' := by
 have hd := d H.next (Nat.le_refl _);have he : Ext μ (setMu μ H.next l') := Ext.set hd;have hne : ∀ {id o}, H.get id = some o → id ≠ H.next := fun h => Nat.ne_of_lt (r.lt d h);have hnx : (H.kill id).next = H.next := rfl;have hgn : ∀ j oj, ((H.kill id).new o').get j = some oj → (j = H.next ∧ oj = o') ∨ (H.get j = some oj ∧ j ≠ id ∧ j ≠ H.next) := fun j oj h => by
  rw [zBi, hnx] at h;split at h
  ·rename_i e; cases h; exact .inl ⟨e, rfl⟩
  ·rename_i e;rw [zIt] at h;split at h
   ·cases h
   ·rename_i e2; exact .inr ⟨h, e2, e⟩
 have hmu : ∀ j, j ≠ H.next → setMu μ H.next l' j = μ j := fun j h => by simp [setMu, h]
 have hmn : setMu μ H.next l' H.next = some l' := by simp [setMu]
 refine ⟨he, ⟨fun j oj h => ?_, fun i j oi oj li lj h1 h2 hij hoo h3 h4 z1 z2 => ?_⟩, Nat.le_succ _, fun j h => ?_, fun j m h1 h2 => ?_, fun b _ hm => hk b fun hb => hm ⟨id, o, l, hg, hown, hl, hb.symm⟩, fun b m _ => ?_, fun j oj h => ?_, by omega, hos, htp, hou⟩
 ·rcases hgn j oj h with ⟨rfl, rfl⟩ | ⟨h1, h2, h3⟩
  ·exact ho _ he hmn
  ·refine (r.obj j oj h1).keep he fun m hm hz => hk _ fun hb => ?_;exact r.inj j id oj o m l h1 hg h2 (.inr hown) hm hl.1 hz hl.2 hb
 ·rcases hgn i oi h1 with ⟨rfl, rfl⟩ | ⟨h5, h6, h7⟩
  ·rcases hgn j oj h2 with ⟨rfl, rfl⟩ | ⟨h8, h9, h10⟩
   ·exact absurd rfl hij
   ·rw [hmn] at h3; cases h3;rw [hmu j h10] at h4;rw [hb];exact r.inj id j o oj l lj hg h8 (Ne.symm h9) (.inl hown) hl.1 h4 hl.2 z2
  ·rcases hgn j oj h2 with ⟨rfl, rfl⟩ | ⟨h8, h9, h10⟩
   ·rw [hmn] at h4; cases h4;rw [hmu i h7] at h3;rw [hb];exact r.inj i id oi o li l h5 hg h6 (.inr hown) h3 hl.1 z1 hl.2
   ·rw [hmu i h7] at h3;rw [hmu j h10] at h4;exact r.inj i j oi oj li lj h5 h8 hij hoo h3 h4 z1 z2
 ·have : H.next < j := h;rw [hmu j (by omega)]
  exact d j (by omega)
 ·by_cases e : j = H.next
  ·subst e;rw [hmn] at h1; cases h1;exact ⟨Nat.le_refl _, .inr (.inr ⟨id, o, l, hg, hown, hl, hb.symm⟩)⟩
  ·rw [hmu j e, h2] at h1; cases h1
 ·obtain ⟨j, oj, m, h1, h2, h3, h4⟩ := m;rcases hgn j oj h1 with ⟨rfl, rfl⟩ | ⟨h5, h6, h7⟩
  ·rw [hmn] at h3;obtain ⟨h3, _⟩ := h3;cases h3;exact ⟨id, o, l, hg, hown, hl, by omega⟩
  ·rw [hmu j h7] at h3;exact ⟨j, oj, m, h5, h2, h3, h4⟩
 ·rcases hgn j oj h with ⟨rfl, rfl⟩ | ⟨h5, h6, h7⟩
  ·exact .inr (Nat.le_refl _)
  ·exact .inl ⟨oj, h5⟩
section
variable {P : Program}
theorem run_bind {α β : Type} (s : Sem α) (f : α → Sem β) (w : World) : (s >>= f).run P w = match s.run P w with
  | .ok a w' => (f a).run P w'
  | .halt h w' => .halt h w' := by rw [Sem.run_bind]; rfl
theorem run_load {w : World} {a : Addr} {v : Value} (h : w.cell? a = some v) : (load a).run P w = .ok v w := by
 simp [load, Sem.run, h]
theorem zBU {w : World} {l : Loc} {c : Array Value} {e : TypeId} {fz : Nat × Nat} (h : w.heap[l.b]? = some (.cells c e fz)) (o : Nat) : w.cell? ⟨l.b, o, none⟩ = c[o]? := by
 simp [World.cell?, h]
theorem zBp (b o n : Nat) : (⟨b, o, none⟩ : Addr).add n = ⟨b, o + n, none⟩ := by
 unfold Addr.add;split
 ·subst_vars; rfl
 ·rfl
theorem run_loadCellsFrom {w : World} (b o : Nat) : ∀ (n i : Nat) (acc : Array Value) (l : List Value), l.length = n → (∀ j x, l[j]? = some x → w.cell? ⟨b, o + i + j, none⟩ = some x) →
  (loadCellsFrom ⟨b, o, none⟩ i n acc).run P w = .ok (acc ++ l.toArray) w
 | 0, i, acc, l, hl, _ => by
  have : l = [] := List.eq_nil_of_length_eq_zero hl;subst this;simp [loadCellsFrom, pure, Sem.run]
 | n + 1, i, acc, l, hl, h => by
  cases l with
  | nil => simp at hl
  | cons x l =>
   have h0 := h 0 x rfl;simp only [loadCellsFrom, run_bind, zBp];rw [run_load (by simpa using h0)]
   simp only [];rw [run_loadCellsFrom b o n (i + 1) (acc.push x) l (by simpa using hl) (fun j y hj => by
    have := h (j + 1) y (by simpa using hj)
    rw [← this]; congr 2; omega)]
   simp
theorem run_loadCells {w : World} (b o n : Nat) (l : List Value) (hl : l.length = n) (h : ∀ j x, l[j]? = some x → w.cell? ⟨b, o + j, none⟩ = some x) :
  (loadCells ⟨b, o, none⟩ n).run P w = .ok l.toArray w := by
 have := run_loadCellsFrom (P := P) b o n 0 #[] l hl (by simpa using h)
 simpa [loadCells] using this
def setRow (w : World) (b o : Nat) : List Value → World
 | [] => w
 | v :: l => setRow (w.setCell ⟨b, o, none⟩ v) b (o + 1) l
def cellV : Value → Bool
 | .agg _ | .tuple _ => false
 | _ => true
theorem run_store {w : World} {a : Addr} {v u : Value} (hv : cellV v = true) (h : w.cell? a = some u) (hf : w.frozen? a = false) : (store a v).run P w = .ok () (w.setCell a v) := by
 cases v <;> simp_all [store, Sem.run, cellV]
theorem heap_setCell (w : World) (b o : Nat) (v : Value) {c : Array Value} {e : TypeId} {fz : Nat × Nat} (h : w.heap[b]? = some (.cells c e fz)) :
  (w.setCell ⟨b, o, none⟩ v).heap[b]? = some (.cells (c.setIfInBounds o v) e fz) := by
 simp [World.setCell, Array.getElem?_modify, h]
theorem zJM (w : World) (b o k : Nat) (v : Value) (h : k ≠ b) : (w.setCell ⟨b, o, none⟩ v).heap[k]? = w.heap[k]? := by
 simp only [World.setCell, Array.getElem?_modify];rw [if_neg (by simpa using Ne.symm h)]
theorem zBA (b o : Nat) (e : TypeId) (lo hi : Nat) : ∀ (l : List Value) (i : Nat) (w : World) (c : Array Value), w.heap[b]? = some (.cells c e (lo, hi)) → o + i + l.length ≤ c.size → (c.size ≤ lo ∨ hi ≤ lo) →
  (∀ v ∈ l, cellV v = true) → (storeCells ⟨b, o, none⟩ l i).run P w = .ok () (setRow w b (o + i) l)
 | [], i, w, c, _, _, _, _ => by simp [storeCells, pure, Sem.run, setRow]
 | v :: l, i, w, c, hc, hl, hf, hv => by
  simp only [List.length_cons] at hl;have h1 : w.cell? ⟨b, o + i, none⟩ = some (c[o + i]'(by omega)) := by
   rw [zBU (l := ⟨b, 0, 0, 0, 0, false⟩) hc]; exact Array.getElem?_eq_getElem _
  have h2 : w.frozen? ⟨b, o + i, none⟩ = false := by
   simp [World.frozen?, hc]; omega
  simp only [storeCells, run_bind, zBp];rw [run_store (hv v (by simp)) h1 h2]
  simp only [setRow];rw [show o + i + 1 = o + (i + 1) from by omega]
  exact zBA b o e lo hi l (i + 1) _ (c.setIfInBounds (o + i) v) (heap_setCell w b (o + i) v hc) (by simp; omega) (by simpa using hf) (fun u hu => hv u (by simp [hu]))
theorem zE9 : ∀ (l : List Value) (w : World) (b o k : Nat), k ≠ b → (setRow w b o l).heap[k]? = w.heap[k]?
 | [], _, _, _, _, _ => rfl
 | v :: l, w, b, o, k, h => by
  rw [setRow, zE9 l _ b (o + 1) k h, zJM w b o k v h]
theorem zDh : ∀ (l : List Value) (w : World) (b o : Nat), (setRow w b o l).heap.size = w.heap.size ∧ (setRow w b o l).os = w.os ∧ (setRow w b o l).tape = w.tape ∧ (setRow w b o l).output = w.output
 | [], _, _, _ => ⟨rfl, rfl, rfl, rfl⟩
 | v :: l, w, b, o => by
  obtain ⟨h1, h2, h3, h4⟩ := zDh l (w.setCell ⟨b, o, none⟩ v) b (o + 1);exact ⟨by rw [setRow, h1]; simp [World.setCell], by rw [setRow, h2]; rfl, by rw [setRow, h3]; rfl, by rw [setRow, h4]; rfl⟩
theorem zEA (e : TypeId) (fz : Nat × Nat) : ∀ (l : List Value) (w : World) (b o : Nat) (c : Array Value), w.heap[b]? = some (.cells c e fz) → o + l.length ≤ c.size →
  ∃ c', (setRow w b o l).heap[b]? = some (.cells c' e fz) ∧ c'.size = c.size ∧ ∀ i, c'[i]? = if o ≤ i ∧ i < o + l.length then l[i - o]? else c[i]?
 | [], w, b, o, c, h, _ => ⟨c, h, rfl, fun i => by rw [if_neg (by simp)]⟩
 | v :: l, w, b, o, c, h, hl => by
  simp only [List.length_cons] at hl;obtain ⟨c', h1, h2, h3⟩ := zEA e fz l (w.setCell ⟨b, o, none⟩ v) b (o + 1) _ (heap_setCell w b o v h) (by simp; omega)
  refine ⟨c', h1, by simpa using h2, fun i => ?_⟩
  rw [h3 i];by_cases e1 : i = o
  ·subst e1;rw [if_neg (by omega), if_pos (by simp), Array.getElem?_setIfInBounds]
   simp; omega
  ·by_cases e2 : o + 1 ≤ i ∧ i < o + 1 + l.length
   ·rw [if_pos e2, if_pos (by simp; omega)]
    obtain ⟨j, rfl⟩ : ∃ j, i = o + 1 + j := ⟨i - (o + 1), by omega⟩
    have : o + 1 + j - o = (j) + 1 := by omega
    rw [this, List.getElem?_cons_succ];congr 1; omega
   ·rw [if_neg e2, if_neg (by simp; omega), Array.getElem?_setIfInBounds_ne (by omega)]
end
end Go.Proofs.YtenkabjkgngcdaaGreat.Ab
namespace Go.Proofs.YtenkabjkgngcdaaGreat.Ab
open Go
variable [Rho]
section
variable {P : Program}
theorem zWn (μ : Mu) (v : Value) (x : AV) (h : xHw v = some x) : VR μ x v ∧ zCo x = true := by
 unfold xHw at h;split at h <;> first | (cases h; simp [VR, zCo]; done) | (cases h)
theorem zPx (μ : Mu) : ∀ (l : List Value) (x : List AV), xBe l = some x → VRs μ x l ∧ ∀ y ∈ x, zCo y = true
 | [], x, h => by simp [xBe] at h; subst h; exact ⟨rfl, by simp⟩
 | v :: l, x, h => by
  simp only [xBe] at h;split at h
  ·rename_i a b ha hb;cases h;obtain ⟨h1, h2⟩ := zWn μ v a ha;obtain ⟨h3, h4⟩ := zPx μ l b hb;exact ⟨⟨v, l, h1, h3, rfl⟩, fun y hy => (List.mem_cons.1 hy).elim (fun e => e ▸ h2) (h4 y)⟩
  ·cases h
theorem zJ8 (μ : Mu) (v : Value) (x : AV) (h : ofV v = some x) : VR μ x v := by
 unfold ofV at h;split at h
 ·rename_i cs;cases hl : xBe cs.toList with
  | none => simp [hl] at h
  | some l => simp [hl] at h; subst h; exact ⟨cs.toList, (zPx μ _ _ hl).1, rfl⟩
 ·rename_i cs;cases hl : xBe cs.toList with
  | none => simp [hl] at h
  | some l => simp [hl] at h; subst h; exact ⟨cs.toList, (zPx μ _ _ hl).1, rfl⟩
 ·rename_i fn a b;split at h
  ·rename_i hab;cases h;simp at hab;have ha : a = #[] := hab.1;have hb : b = #[] := hab.2;subst ha; subst hb;exact ⟨[], [], rfl, rfl, rfl⟩
  ·cases h
 ·exact (zWn μ _ _ h).1
def FRel (μ : Mu) (fr : FR) (tmps : Array Value) : Prop := ∀ t v, lk fr t = some v → ∃ c, tmps[t]? = some c ∧ VR μ v c
theorem FRel.ext {μ μ' : Mu} {fr : FR} {tmps : Array Value} (e : Ext μ μ') (h : FRel μ fr tmps) : FRel μ' fr tmps := fun t v hv => by
 obtain ⟨c, h1, h2⟩ := h t v hv;exact ⟨c, h1, h2.ext e⟩
theorem zDD (d : Nat) (v : AV) (fr : FR) (t : Nat) : lk ((d, v) :: fr) t = if t = d then some v else lk fr t := by
 show @Bool.rec (fun _ => Option AV) (lk fr t) (some v) (Nat.beq d t) = _;by_cases h : t = d
 ·subst h; simp
 ·have : Nat.beq d t = false := by
   cases h' : Nat.beq d t with
   | false => rfl
   | true => exact absurd (Nat.eq_of_beq_eq_true h').symm h
  simp [this, h]
theorem zPu {nt : Nat} {fr fr' : FR} {dst : Option Tmp} {v : AV} (h : zMD nt fr dst v = some fr') :
  (dst = none ∧ fr' = fr) ∨ ∃ d, dst = some d ∧ d < nt ∧ fr' = (d, v) :: fr := by
 cases dst with
 | none => simp [zMD] at h; exact .inl ⟨rfl, h.symm⟩
 | some d =>
  simp only [zMD] at h;cases hb : Nat.blt d nt with
  | false => simp [hb] at h
  | true => simp [hb] at h; exact .inr ⟨d, rfl, by simpa [Nat.blt_eq] using hb, h.symm⟩
theorem FRel.put {μ : Mu} {fr fr' : FR} {a : Act} {dst : Option Tmp} {v : AV} {c : Value} (h : FRel μ fr a.tmps) (hv : VR μ v c) (hp : zMD a.tmps.size fr dst v = some fr') :
  FRel μ fr' (a.put dst c).tmps ∧ (a.put dst c).tmps.size = a.tmps.size ∧ (a.put dst c).defers = a.defers := by
 rcases zPu hp with ⟨rfl, rfl⟩ | ⟨d, rfl, hd, rfl⟩
 ·exact ⟨h, rfl, rfl⟩
 ·refine ⟨fun t x hx => ?_, by simp [Act.put], rfl⟩
  rw [zDD] at hx;simp only [Act.put];split at hx
  ·rename_i e; cases hx; subst e;exact ⟨c, by simp [hd], hv⟩
  ·rename_i e;obtain ⟨y, h1, h2⟩ := h t x hx;exact ⟨y, by rw [Array.getElem?_setIfInBounds_ne (Ne.symm e)]; exact h1, h2⟩
theorem zAg {μ : Mu} {fr : FR} {a : Act} (h : FRel μ fr a.tmps) {x : Operand} {v : AV} (hx : zAJ fr x = some v) : VR μ v (a.eval x) := by
 cases x with
 | tmp t =>
  obtain ⟨c, h1, h2⟩ := h t v hx;simpa [Act.eval, h1] using h2
 | const c => exact zJ8 μ c v hx
 | global g => simp [zAJ] at hx
 | func f => simp [zAJ] at hx; subst hx; exact ⟨[], [], rfl, rfl, rfl⟩
theorem zM0 {μ : Mu} {fr : FR} {a : Act} (h : FRel μ fr a.tmps) {H : Heap} {w : World} (r : Rep μ H.get w) {x : Operand} {v : AV} (hx : zZH fr H x = some v) : VR μ v (a.eval x) := by
 cases x with
 | global g =>
  simp only [zZH] at hx;split at hx
  ·rename_i b q hg;cases hb : Nat.beq b g with
   | false => rw [hb] at hx; cases hx
   | true =>
    rw [hb] at hx; cases hx;obtain rfl := Nat.eq_of_beq_eq_true hb;obtain ⟨l, l', _, ⟨h3, _⟩, h5, h6⟩ := r.obj _ _ hg;refine ⟨l', h3, ?_⟩;rw [h5, h6]; rfl
  ·cases hx
 | tmp t => exact zAg h hx
 | const c => exact zAg h hx
 | func f => exact zAg h hx
theorem zRJ {μ : Mu} {fr : FR} {a : Act} (h : FRel μ fr a.tmps) : ∀ {l : List Operand} {v : List AV}, zKo fr l = some v → VRs μ v (l.map a.eval)
 | [], v, hx => by simp [zKo] at hx; subst hx; rfl
 | x :: l, v, hx => by
  simp only [zKo] at hx;split at hx
  ·rename_i y r h1 h2;cases hx;exact ⟨_, _, zAg h h1, zRJ h h2, rfl⟩
  ·cases hx
theorem zAt {t : TypeId} {n : Nat} (h : zFv P t = some n) (w : World) : (sizeOf t).run P w = .ok n w := by
 unfold zFv at h;split at h
 ·rename_i i hi;cases h;simp [sizeOf, run_typeInfo (w := w) hi]
 ·cases h
theorem zEw {t : TypeId} {n : Nat} (h : bytesOf P t = some n) : ∃ i, P.info? t = some i ∧ i.bytes = n := by
 unfold bytesOf at h;split at h
 ·rename_i i hi; cases h; exact ⟨i, hi, rfl⟩
 ·cases h
theorem zE5 {t : TypeId} {v : AV} (h : zKh P t = some v) (w : World) : ∃ z, (zeroValue t).run P w = .ok z w ∧ ofV z = some v := by
 unfold zKh at h;split at h
 ·rename_i i hi;split at h
  ·rename_i z hz;exact ⟨z, by simp [zeroValue, run_typeInfo (w := w) hi, hz], h⟩
  ·cases h
 ·cases h
theorem zSu {t : TypeId} {v : AV} (h : zKh P t = some v) : ∃ z, (∀ w, (zeroValue t).run P w = .ok z w) ∧ ofV z = some v := by
 unfold zKh at h;split at h
 ·rename_i i hi;split at h
  ·rename_i z hz;exact ⟨z, fun w => by simp [zeroValue, run_typeInfo (w := w) hi, hz], h⟩
  ·cases h
 ·cases h
theorem zFt {t : TypeId} {b : Bool} (h : xHc P t = some b) (w : World) : (isAgg t).run P w = .ok b w := by
 unfold xHc at h;split at h <;> rename_i ht <;> first | (cases h; simp [isAgg, run_underlying ht]; done) | skip
 cases h
theorem VR.cells {μ : Mu} {v : AV} {c : Value} (h : VR μ v c) : VRs μ v.cells c.cells.toList := by
 cases v with
 | agg l => obtain ⟨x, h1, rfl⟩ := h; simpa [AV.cells, Value.cells] using h1
 | ptr id off => obtain ⟨l, _, rfl⟩ := (show _ from h); exact ⟨_, [], h, rfl, by simp [Value.cells]⟩
 | map id => obtain ⟨l, _, rfl⟩ := (show _ from h); exact ⟨_, [], h, rfl, by simp [Value.cells]⟩
 | iface t u => obtain ⟨l, _, rfl⟩ := (show _ from h); exact ⟨_, [], h, rfl, by simp [Value.cells]⟩
 | tuple t => obtain ⟨l, _, rfl⟩ := (show _ from h); exact ⟨_, [], h, rfl, by simp [Value.cells]⟩
 | func fn a b => obtain ⟨x, y, _, _, rfl⟩ := (show _ from h); exact ⟨_, [], h, rfl, by simp [Value.cells]⟩
 | eptr id k i j => obtain ⟨l, _, _, _, _, rfl⟩ := (show _ from h); exact ⟨_, [], h, rfl, by simp [Value.cells]⟩
 | sslice id k off len =>
  have : ∃ o n k, c = .slice o n k := by
   obtain ⟨l, _, _, _, _, _, _, ⟨_, h2 | ⟨_, _, h2⟩⟩ | ⟨_, _, h2⟩⟩ := (show _ from h) <;> exact ⟨_, _, _, h2⟩
  obtain ⟨o, n, k, rfl⟩ := this;exact ⟨_, [], h, rfl, by simp [Value.cells]⟩
 | slice id' off len cap =>
  have : ∃ o n k, c = .slice o n k := by
   obtain ⟨l, _, h2⟩ := (show _ from h)
   cases cap with
   | known n => exact ⟨_, _, _, h2⟩
   | unk k => rcases h2 with ⟨_, _, _, _, h2 | ⟨_, _, _, h2⟩⟩ <;> exact ⟨_, _, _, h2⟩
  obtain ⟨o, n, k, rfl⟩ := this;exact ⟨_, [], h, rfl, by simp [Value.cells]⟩
 | _ => first | (have h' : c = _ := h; subst h'; exact ⟨_, [], rfl, rfl, by simp [Value.cells]⟩)
theorem VR.cellV {μ : Mu} {v : AV} {c : Value} (h : VR μ v c) (hc : zCo v = true) : cellV c = true := by
 cases v with
 | agg l => simp [zCo] at hc
 | tuple l => simp [zCo] at hc
 | ptr id off => obtain ⟨l, _, rfl⟩ := (show _ from h); rfl
 | map id => obtain ⟨l, _, rfl⟩ := (show _ from h); rfl
 | iface t u => obtain ⟨l, _, rfl⟩ := (show _ from h); rfl
 | func fn a b => obtain ⟨x, y, _, _, rfl⟩ := (show _ from h); rfl
 | eptr id k i j => obtain ⟨l, _, _, _, _, rfl⟩ := (show _ from h); rfl
 | sslice id k off len => obtain ⟨l, _, _, _, _, _, _, ⟨_, h2 | ⟨_, _, h2⟩⟩ | ⟨_, _, h2⟩⟩ := (show _ from h) <;> subst h2 <;> rfl
 | slice id' off len cap =>
  obtain ⟨l, _, h2⟩ := (show _ from h)
  cases cap with
  | known n => subst h2; rfl
  | unk k => rcases h2 with ⟨_, _, _, _, h2 | ⟨_, _, _, h2⟩⟩ <;> subst h2 <;> rfl
 | _ => first | (have h' : c = _ := h; subst h'; rfl)
theorem VRs.cellsV {μ : Mu} : ∀ {l : List AV} {c : List Value}, VRs μ l c → zA4 l = true → ∀ x ∈ c, cellV x = true
 | [], _, h, _, x, hx => by cases h; simp at hx
 | v :: l, _, h, ha, x, hx => by
  obtain ⟨y, r, h1, h2, rfl⟩ := h;simp [zA4] at ha;simp at hx;rcases hx with rfl | hx
  ·exact h1.cellV ha.1
  ·exact VRs.cellsV h2 (by simpa [zA4] using ha.2) x hx
theorem zC8 {μ : Mu} {t : TypeId} {cs : List AV} {off : Nat} {v : AV} {c : List Value} (h : zHk P t cs off = some v) (hc : VRs μ cs c) (w : World) :
  ∃ x, (part t c.toArray off).run P w = .ok x w ∧ VR μ v x := by
 unfold zHk at h;split at h
 ·rename_i ha;split at h
  ·rename_i n hn;split at h
   ·rename_i l hl;cases h;obtain ⟨h1, h2⟩ := zFp hl;refine ⟨.agg ((c.drop off).take n).toArray, ?_, ⟨_, (by rw [h1]; exact (hc.drop off).take n), rfl⟩⟩
    simp [part, zFt ha, zAt hn]
   ·cases h
  ·cases h
 ·rename_i ha;obtain ⟨x, h1, h2⟩ := hc.get off v h;exact ⟨x, by simp [part, zFt ha, h1], h2⟩
 ·cases h
theorem VR.tmB {μ : Mu} {x : AV} {c : Value} {t : Tm} (h : VR μ x c) (k : Ab.tmB x = some t) : c = .bool t.den.asB := by
 cases x <;> simp only [Ab.tmB] at k <;> first | (cases k; done) | skip
 ·cases k; exact h
 ·cases k; exact h
theorem VR.tmI {μ : Mu} {x : AV} {c : Value} {kd : IntKind} {t : Tm} (h : VR μ x c) (k : Ab.tmI x = some (kd, t)) : c = .int kd t.den.asI := by
 cases x <;> simp only [Ab.tmI] at k <;> first | (cases k; done) | skip
 ·cases k; exact h
 ·cases k; exact h
theorem VR.tmS {μ : Mu} {x : AV} {c : Value} {t : Tm} (h : VR μ x c) (k : Ab.tmS x = some t) : c = .string ⟨t.den.asS.toArray⟩ := by
 cases x <;> simp only [Ab.tmS] at k <;> first | (cases k; done) | skip
 ·cases k; exact h
 ·cases k; exact h
theorem zLe (μ : Mu) (t : Tm) : VR μ (mkB t) (.bool t.den.asB) := by cases t <;> rfl
theorem zCO (μ : Mu) (k : IntKind) (t : Tm) : VR μ (mkI k t) (.int k t.den.asI) := by cases t <;> rfl
theorem zRz (μ : Mu) (t : Tm) : VR μ (mkS t) (.string ⟨t.den.asS.toArray⟩) := by cases t <;> rfl
theorem zKg (a b : List UInt8) : ((⟨a.toArray⟩ : ByteArray) == ⟨b.toArray⟩) = (a == b) := by
 rw [beq_toListBytes, ByteArray.toList_eq, ByteArray.toList_eq]
theorem VR.ptr_block {μ : Mu} {i a : Nat} {c : Value} {l : Loc} (h : VR μ (.ptr i a) c) (hl : μ i = some l) : c = .pointer (some ⟨l.b, l.s + a, none⟩) := by
 obtain ⟨l', h1, h2⟩ := h;rw [hl] at h1; cases h1; exact h2
theorem VR.slice_some {μ : Mu} {i a n : Nat} {k : Cap} {c : Value} (h : VR μ (.slice i a n k) c) : ∃ p m q, c = .slice (some p) m q := by
 obtain ⟨l, _, h2⟩ := h;cases k with
 | known n => exact ⟨_, _, _, h2⟩
 | unk k => rcases h2 with ⟨_, _, _, _, h2 | ⟨_, _, _, h2⟩⟩ <;> exact ⟨_, _, _, h2⟩
set_option maxHeartbeats 2000000
mutual
theorem zM3 {μ : Mu} : ∀ (d : Nat) (t : TypeId) (x y : AV) (b : Tm), eqA P d t x y = some b → ∀ (cx cy : Value), VR μ x cx → VR μ y cy → ∀ (D : Nat) (w : World), d ≤ D → (Op.equalIn D t cx cy).run P w = .ok b.den.asB w
 | 0, t, x, y, b, h, _, _, _, _, _, _, _ => by simp [eqA] at h
 | d + 1, t, x, y, b, h, cx, cy, hx, hy, D, w, hD => by
  obtain ⟨D, rfl⟩ : ∃ n, D = n + 1 := ⟨D - 1, by omega⟩
  unfold eqA at h;split at h
  ·rename_i ht;cases h; cases hx; cases hy;simp [Op.equalIn, run_underlying ht, Tm.den, Dat.asB]
  ·rename_i ht;split at h
   ·rename_i hk; cases h; cases hx; cases hy;simp [Op.equalIn, run_underlying ht, hk, Tm.den, Dat.asB]
   ·cases h
  ·rename_i ht;cases h; cases hx; cases hy;simp [Op.equalIn, run_underlying ht, zKg, Tm.den, Dat.asB]
  ·rename_i ht _;split at h
   ·rename_i p q hp hq;cases h; cases hx.tmB hp; cases hy.tmB hq;rw [xAi];show _ = Result.ok (p.den.asB == q.den.asB) w;simp [Op.equalIn, run_underlying ht]
   ·cases h
  ·rename_i ht _;split at h
   ·rename_i k p k' q hp hq;split at h
    ·rename_i hk;cases h; cases hx.tmI hp; cases hy.tmI hq;rw [zAz];show _ = Result.ok (p.den.asI == q.den.asI) w;simp [Op.equalIn, run_underlying ht, hk]
    ·cases h
   ·cases h
  ·rename_i ht _;split at h
   ·rename_i p q hp hq;cases h; cases hx.tmS hp; cases hy.tmS hq;rw [zGd];show _ = Result.ok (p.den.asS == q.den.asS) w;simp [Op.equalIn, run_underlying ht, zKg]
   ·cases h
  ·rename_i ht;cases h; cases hx; cases hy;simp [Op.equalIn, run_underlying ht, Tm.den, Dat.asB]
  ·rename_i ht;cases h; cases hx; obtain ⟨l, _, rfl⟩ := hy;simp [Op.equalIn, run_underlying ht, Tm.den, Dat.asB]
  ·rename_i ht;cases h; cases hy; obtain ⟨l, _, rfl⟩ := hx;simp [Op.equalIn, run_underlying ht, Tm.den, Dat.asB]
  ·rename_i e i a j b' ht;split at h
   ·cases h
   ·rename_i n hn hs;split at h
    ·rename_i hij;cases h; subst hij;obtain ⟨l, hl, rfl⟩ := hx;have := hy.ptr_block hl;subst this;simp only [Op.equalIn, Sem.run_bind, run_underlying ht, Result.andThen_ok, zAt hs];have hn0 : n ≠ 0 := hn;simp [hn0, sameAddr, Tm.den, Dat.asB];rw [Bool.eq_iff_iff]; simp
    ·cases h
   ·cases h
  ·rename_i ht;cases h; cases hx; cases hy;simp [Op.equalIn, run_underlying ht, Tm.den, Dat.asB]
  ·rename_i ht;cases h; cases hx; obtain ⟨l, _, rfl⟩ := hy;simp [Op.equalIn, run_underlying ht, Tm.den, Dat.asB]
  ·rename_i ht;cases h; cases hy; obtain ⟨l, _, rfl⟩ := hx;simp [Op.equalIn, run_underlying ht, Tm.den, Dat.asB]
  ·rename_i fs xs ys ht;split at h
   ·cases h
   ·rename_i hp;obtain ⟨lx, hlx, rfl⟩ := hx;obtain ⟨ly, hly, rfl⟩ := hy;have hf : P.fieldsOf t = fs := by simp [Program.fieldsOf, ht]
    rw [run_equalIn_struct w D t _ _ (by rw [hf]; exact ht) (by simpa using hp), hf]
    exact zM2 d fs.toList xs ys b h lx ly hlx hly D w (by omega)
  ·rename_i len e xs ys ht;split at h
   ·rename_i n hn;obtain ⟨lx, hlx, rfl⟩ := hx;obtain ⟨ly, hly, rfl⟩ := hy;have ⟨i, hi, hin⟩ : ∃ i, P.info? e = some i ∧ i.size = n := by
     unfold zFv at hn;split at hn
     ·rename_i i hi; cases hn; exact ⟨i, hi, rfl⟩
     ·cases hn
    have hcs : P.cellsOf e = n := by
     have h1 := run_sizeOf (w := w) hi;rw [zAt hn] at h1;cases h1; rfl
    rw [run_equalIn_array (w := w) D _ _ ht hi, hcs, List.range_eq_range'];exact zRP d e n len 0 xs ys b h lx ly hlx hly D w (by omega)
   ·cases h
  ·rename_i ht;cases h; cases hx; cases hy;simp [Op.equalIn, run_underlying ht, Tm.den, Dat.asB]
  ·rename_i ht;cases h; cases hx; obtain ⟨p, m, q, rfl⟩ := hy.slice_some;simp [Op.equalIn, run_underlying ht, Tm.den, Dat.asB]
  ·rename_i ht;cases h; cases hy; obtain ⟨p, m, q, rfl⟩ := hx.slice_some;simp [Op.equalIn, run_underlying ht, Tm.den, Dat.asB]
  ·rename_i ht;cases h; cases hx; cases hy;simp [Op.equalIn, run_underlying ht, Tm.den, Dat.asB]
  ·rename_i ht;cases h; cases hx; obtain ⟨l, _, rfl⟩ := hy;simp [Op.equalIn, run_underlying ht, Tm.den, Dat.asB]
  ·rename_i ht;cases h; cases hy; obtain ⟨l, _, rfl⟩ := hx;simp [Op.equalIn, run_underlying ht, Tm.den, Dat.asB]
  ·rename_i ht;cases h; cases hx; cases hy;simp [Op.equalIn, run_underlying ht, Tm.den, Dat.asB]
  ·rename_i ht;cases h; cases hx; obtain ⟨x, y, _, _, rfl⟩ := hy;simp [Op.equalIn, run_underlying ht, Tm.den, Dat.asB]
  ·rename_i ht;cases h; cases hy; obtain ⟨x, y, _, _, rfl⟩ := hx;simp [Op.equalIn, run_underlying ht, Tm.den, Dat.asB]
  ·cases h
theorem zM2 {μ : Mu} : ∀ (d : Nat) (fs : List Field) (xs ys : List AV) (b : Tm), zYo P d fs xs ys = some b → ∀ (cx cy : List Value), VRs μ xs cx → VRs μ ys cy → ∀ (D : Nat) (w : World), d ≤ D →
  (Op.eqFields D cx.toArray cy.toArray fs).run P w = .ok b.den.asB w
 | _, [], xs, ys, b, h, cx, cy, _, _, D, w, _ => by
  simp [zYo] at h; subst h; simp [Op.eqFields, Sem.run_pure, Tm.den, Dat.asB]
 | 0, f :: fs, xs, ys, b, h, _, _, _, _, _, _, _ => by simp [zYo] at h
 | d + 1, f :: fs, xs, ys, b, h, cx, cy, hx, hy, D, w, hD => by
  unfold zYo at h;split at h
  ·rename_i hn;split at h
   ·rename_i a a' ha ha';split at h
    ·rename_i p q hp hq;cases h;obtain ⟨u, hu, hu'⟩ := zC8 ha hx w;obtain ⟨v, hv, hv'⟩ := zC8 ha' hy w;have h1 := zM3 d f.type a a' p hp u v hu' hv' D w (by omega)
     simp only [Op.eqFields, if_pos hn, Sem.run_bind, hu, hv, h1, Result.andThen_ok];rw [zBD];cases hpd : p.den.asB
     ·simp [Sem.run_pure]
     ·simpa using zM2 d fs xs ys q hq cx cy hx hy D w (by omega)
    ·cases h
   ·cases h
  ·rename_i hn;simp only [Op.eqFields, if_neg hn];exact zM2 d fs xs ys b h cx cy hx hy D w (by omega)
theorem zRP {μ : Mu} : ∀ (d : Nat) (e : TypeId) (n len i : Nat) (xs ys : List AV) (b : Tm), zZI P d e n len i xs ys = some b → ∀ (cx cy : List Value), VRs μ xs cx → VRs μ ys cy → ∀ (D : Nat) (w : World), d ≤ D →
  (Op.eqItems D e n cx.toArray cy.toArray (List.range' i len)).run P w = .ok b.den.asB w
 | _, e, n, 0, i, xs, ys, b, h, cx, cy, _, _, D, w, _ => by
  simp [zZI] at h; subst h; simp [Op.eqItems, Sem.run_pure, Tm.den, Dat.asB]
 | 0, e, n, len + 1, i, xs, ys, b, h, _, _, _, _, _, _, _ => by simp [zZI] at h
 | d + 1, e, n, len + 1, i, xs, ys, b, h, cx, cy, hx, hy, D, w, hD => by
  unfold zZI at h;split at h
  ·rename_i a a' ha ha';split at h
   ·rename_i p q hp hq;cases h;obtain ⟨u, hu, hu'⟩ := zC8 ha hx w;obtain ⟨v, hv, hv'⟩ := zC8 ha' hy w;have h1 := zM3 d e a a' p hp u v hu' hv' D w (by omega)
    simp only [List.range'_succ, Op.eqItems, Sem.run_bind, hu, hv, h1, Result.andThen_ok];rw [zBD];cases hpd : p.den.asB
    ·simp [Sem.run_pure]
    ·simpa using zRP d e n len (i + 1) xs ys q hq cx cy hx hy D w (by omega)
   ·cases h
  ·cases h
end
end
end Go.Proofs.YtenkabjkgngcdaaGreat.Ab
namespace Go.Proofs.YtenkabjkgngcdaaGreat.Ab
open Go
variable [Rho]
section
variable {P : Program}
theorem zOE (op : BinOp) (t : TypeId) (k : IntKind) (x y : Int) (hs : op ≠ .shl ∧ op ≠ .shr) : binOp op t (.int k x) (.int k y) = match op with
  | .add | .sub | .mul => Op.intArith op k x y
  | .quo | .rem => Op.intDiv op k x y
  | .and | .or | .xor | .andNot => Op.intBits op k x y
  | _ => Op.intCmp op x y := by
 cases op <;> first | (exact absurd rfl hs.1) | (exact absurd rfl hs.2) | simp [binOp]
theorem zMt {op : BinOp} {k : IntKind} {x y : Int} {v : AV} (h : xDu op k x y = some v) (hs : op ≠ .shl ∧ op ≠ .shr) (t : TypeId) (w : World) (μ : Mu) :
  ∃ c, (binOp op t (.int k x) (.int k y)).run P w = .ok c w ∧ VR μ v c := by
 rw [zOE op t k x y hs];cases op
 case shl => exact absurd rfl hs.1
 case shr => exact absurd rfl hs.2
 case quo =>
  simp only [xDu] at h;split at h
  ·cases h
  ·rename_i hy; cases h;exact ⟨_, by simp only [Op.intDiv, if_neg hy]; rfl, rfl⟩
 case rem =>
  simp only [xDu] at h;split at h
  ·cases h
  ·rename_i hy; cases h;exact ⟨_, by simp only [Op.intDiv, if_neg hy]; rfl, rfl⟩
 all_goals
  simp only [xDu, zTA] at h;cases h;exact ⟨_, rfl, rfl⟩
theorem zQ5 {op : BinOp} {x y : List UInt8} {v : AV} (h : xEv op x y = some v) (hs : op ≠ .shl ∧ op ≠ .shr) (t : TypeId) (w : World) (μ : Mu) :
  ∃ c, (binOp op t (.string ⟨x.toArray⟩) (.string ⟨y.toArray⟩)).run P w = .ok c w ∧ VR μ v c := by
 have e1 : ∀ z : List UInt8, (⟨z.toArray⟩ : ByteArray).toList = z := fun z => by simp [ByteArray.toList_eq]
 have e2 : ∀ z : List UInt8, (⟨z.toArray⟩ : ByteArray).size = z.length := fun z => rfl;have e3 : (⟨x.toArray⟩ : ByteArray) ++ ⟨y.toArray⟩ = ⟨(x ++ y).toArray⟩ := by apply ByteArray.ext; simp
 have e4 : binOp op t (.string ⟨x.toArray⟩) (.string ⟨y.toArray⟩) = Op.stringOp op ⟨x.toArray⟩ ⟨y.toArray⟩ := by
  cases op <;> first | (exact absurd rfl hs.1) | (exact absurd rfl hs.2) | rfl
 rw [e4];unfold Op.stringOp;rw [e1, e1];cases op
 case shl => exact absurd rfl hs.1
 case shr => exact absurd rfl hs.2
 case add =>
  simp only [xEv] at h;split at h
  ·rename_i hl; cases h;refine ⟨_, ?_, rfl⟩;have : ¬ ((x.length + y.length : Nat) : Int) > IntKind.i64.max := by simp [IntKind.max, IntKind.signed, IntKind.bits]; omega
   simp only [e2, if_neg this, e3]; rfl
  ·cases h
 all_goals
  simp only [xEv] at h;cases h <;> exact ⟨_, rfl, rfl⟩
def asked : Value → Value → Bool
 | .nilIface, .nilIface => true
 | .agg _, .agg _ => true
 | _, _ => false
theorem zAI {op : BinOp} (t : TypeId) (xo yo : Operand) (cx cy : Value) (h : asked cx cy = false) (w : World) : (eqGuard op t xo yo cx cy).run P w = .ok () w := by
 cases op <;> first | rfl | (cases cx <;> cases cy <;> first | rfl | (simp [asked] at h))
theorem zXa {op : BinOp} (t : TypeId) (xo yo : Operand) (h : (zAG xo || zAG yo) = true) (w : World) : (eqGuard op t xo yo .nilIface .nilIface).run P w = .ok () w := by
 cases op <;> first | rfl | (cases xo <;> cases yo <;> first | rfl | (simp [zAG] at h))
theorem VR.asked {μ : Mu} {x y : AV} {cx cy : Value} (hx : VR μ x cx) (hy : VR μ y cy) (h1 : ∀ (l m : List AV), x = .agg l → y = .agg m → False) (h2 : x = .nilIface → y = .nilIface → False) : asked cx cy = false := by
 cases hcx : cx with
 | nilIface =>
  cases hcy : cy with
  | nilIface =>
   subst hcx; subst hcy;exfalso;have k : ∀ {v : AV}, VR μ v .nilIface → v = .nilIface := fun {v} hv => by
    cases v with
    | nilIface => rfl
    | slice i o n k => obtain ⟨_, _, _, e⟩ := hv.slice_some; cases e
    | ptr _ _ => obtain ⟨_, _, e⟩ := hv; cases e
    | eptr _ _ _ _ => obtain ⟨_, _, _, _, _, e⟩ := hv; cases e
    | sslice _ _ _ _ => obtain ⟨_, _, _, _, _, _, _, ⟨_, e | ⟨_, _, e⟩⟩ | ⟨_, _, e⟩⟩ := hv <;> cases e
    | map _ => obtain ⟨_, _, e⟩ := hv; cases e
    | iface _ _ => obtain ⟨_, _, e⟩ := hv; cases e
    | agg _ => obtain ⟨_, _, e⟩ := hv; cases e
    | tuple _ => obtain ⟨_, _, e⟩ := hv; cases e
    | func _ _ _ => obtain ⟨_, _, _, _, e⟩ := hv; cases e
    | _ => cases hv
   exact h2 (k hx) (k hy)
  | _ => rfl
 | agg a =>
  cases hcy : cy with
  | agg b =>
   subst hcx; subst hcy;exfalso;have k : ∀ {v : AV} {a : Array Value}, VR μ v (.agg a) → ∃ l, v = .agg l := fun {v a} hv => by
    cases v with
    | agg l => exact ⟨l, rfl⟩
    | slice i o n k => obtain ⟨_, _, _, e⟩ := hv.slice_some; cases e
    | ptr _ _ => obtain ⟨_, _, e⟩ := hv; cases e
    | eptr _ _ _ _ => obtain ⟨_, _, _, _, _, e⟩ := hv; cases e
    | sslice _ _ _ _ => obtain ⟨_, _, _, _, _, _, _, ⟨_, e | ⟨_, _, e⟩⟩ | ⟨_, _, e⟩⟩ := hv <;> cases e
    | map _ => obtain ⟨_, _, e⟩ := hv; cases e
    | iface _ _ => obtain ⟨_, _, e⟩ := hv; cases e
    | tuple _ => obtain ⟨_, _, e⟩ := hv; cases e
    | func _ _ _ => obtain ⟨_, _, _, _, e⟩ := hv; cases e
    | _ => cases hv
   obtain ⟨l, hl⟩ := k hx;obtain ⟨m, hm⟩ := k hy;exact h1 l m hl hm
  | _ => rfl
 | _ => rfl
theorem zTn {op : BinOp} {t : TypeId} {x y : AV} {xo yo : Operand} (h : zOc P t (zAG xo || zAG yo) x y = true) {μ : Mu} {cx cy : Value} (hx : VR μ x cx) (hy : VR μ y cy) (w : World) :
  (eqGuard op t xo yo cx cy).run P w = .ok () w := by
 by_cases h1 : ∃ l m, x = .agg l ∧ y = .agg m
 ·obtain ⟨l, m, rfl, rfl⟩ := h1;obtain ⟨_, _, rfl⟩ := hx; obtain ⟨_, _, rfl⟩ := hy;exact run_eqGuard_agg w op t xo yo _ _ (by simpa [zOc] using h)
 ·by_cases h2 : x = .nilIface ∧ y = .nilIface
  ·obtain ⟨rfl, rfl⟩ := h2;cases hx; cases hy;exact zXa t xo yo (by simpa [zOc] using h) w
  ·exact zAI t xo yo cx cy (hx.asked hy (fun l m e1 e2 => h1 ⟨l, m, e1, e2⟩) (fun e1 e2 => h2 ⟨e1, e2⟩)) w
def zDk : Value → Value → Bool
 | .int _ _, .int _ _ => true
 | .string _, .string _ => true
 | .float _ _, .float _ _ => true
 | .complex _ _ _, .complex _ _ _ => true
 | _, _ => false
theorem binOp_eql (t : TypeId) (x y : Value) (h : zDk x y = false) (w : World) {b : Bool} (hb : (Op.equal t x y).run P w = .ok b w) : (binOp .eql t x y).run P w = .ok (.bool b) w := by
 cases x <;> cases y <;> first | (simp [zDk] at h; done) | (simp [binOp, hb])
theorem binOp_neq (t : TypeId) (x y : Value) (h : zDk x y = false) (w : World) {b : Bool} (hb : (Op.equal t x y).run P w = .ok b w) : (binOp .neq t x y).run P w = .ok (.bool (!b)) w := by
 cases x <;> cases y <;> first | (simp [zDk] at h; done) | (simp [binOp, hb])
theorem zRN {op : BinOp} {t : TypeId} {neg : Bool} {x y v : AV} {xo yo : Operand} (h : xH3 P t (zAG xo || zAG yo) neg x y = some v) (ho : op = if neg then .neq else .eql) {μ : Mu} {cx cy : Value} (hx : VR μ x cx) (hy : VR μ y cy)
  (hp : zDk cx cy = false) (w : World) : ∃ c, (do eqGuard op t xo yo cx cy; binOp op t cx cy : Sem Value).run P w = .ok c w ∧ VR μ v c := by
 unfold xH3 at h;cases hg : zOc P t (zAG xo || zAG yo) x y with
 | false => simp [hg] at h
 | true =>
  simp only [hg, cond_true] at h;split at h
  ·rename_i b hb;cases h;have h1 : (Op.equal t cx cy).run P w = .ok b.den.asB w := zM3 zB0 t x y b hb cx cy hx hy 10000 w (by decide)
   simp only [Sem.run_bind, zTn hg hx hy, Result.andThen_ok];subst ho;cases neg
   ·exact ⟨_, binOp_eql t cx cy hp w h1, zLe μ b⟩
   ·exact ⟨_, binOp_neq t cx cy hp w h1, zFh b ▸ zLe μ (xBf b)⟩
  ·cases h
theorem VR.int_inv {μ : Mu} {v : AV} {k : IntKind} {n : Int} (hv : VR μ v (.int k n)) : ∃ t, Ab.tmI v = some (k, t) ∧ t.den.asI = n := by
 cases v with
 | int k' n' => cases hv; exact ⟨_, rfl, rfl⟩
 | sint k' n' => cases hv; exact ⟨_, rfl, rfl⟩
 | slice i o n k => obtain ⟨_, _, _, e⟩ := hv.slice_some; cases e
 | ptr _ _ => obtain ⟨_, _, e⟩ := hv; cases e
 | eptr _ _ _ _ => obtain ⟨_, _, _, _, _, e⟩ := hv; cases e
 | sslice _ _ _ _ => obtain ⟨_, _, _, _, _, _, _, ⟨_, e | ⟨_, _, e⟩⟩ | ⟨_, _, e⟩⟩ := hv <;> cases e
 | map _ => obtain ⟨_, _, e⟩ := hv; cases e
 | iface _ _ => obtain ⟨_, _, e⟩ := hv; cases e
 | agg _ => obtain ⟨_, _, e⟩ := hv; cases e
 | tuple _ => obtain ⟨_, _, e⟩ := hv; cases e
 | func _ _ _ => obtain ⟨_, _, _, _, e⟩ := hv; cases e
 | _ => cases hv
theorem VR.str_inv {μ : Mu} {v : AV} {s : ByteArray} (hv : VR μ v (.string s)) : ∃ t, Ab.tmS v = some t ∧ s = ⟨t.den.asS.toArray⟩ := by
 cases v with
 | str l => cases hv; exact ⟨_, rfl, rfl⟩
 | sstr l => cases hv; exact ⟨_, rfl, rfl⟩
 | slice i o n k => obtain ⟨_, _, _, e⟩ := hv.slice_some; cases e
 | ptr _ _ => obtain ⟨_, _, e⟩ := hv; cases e
 | eptr _ _ _ _ => obtain ⟨_, _, _, _, _, e⟩ := hv; cases e
 | sslice _ _ _ _ => obtain ⟨_, _, _, _, _, _, _, ⟨_, e | ⟨_, _, e⟩⟩ | ⟨_, _, e⟩⟩ := hv <;> cases e
 | map _ => obtain ⟨_, _, e⟩ := hv; cases e
 | iface _ _ => obtain ⟨_, _, e⟩ := hv; cases e
 | agg _ => obtain ⟨_, _, e⟩ := hv; cases e
 | tuple _ => obtain ⟨_, _, e⟩ := hv; cases e
 | func _ _ _ => obtain ⟨_, _, _, _, e⟩ := hv; cases e
 | _ => cases hv
theorem VR.nofloat {μ : Mu} {v : AV} {k : FloatKind} {n : Nat} (hv : VR μ v (.float k n)) : False := by
 cases v with
 | slice i o n k => obtain ⟨_, _, _, e⟩ := hv.slice_some; cases e
 | ptr _ _ => obtain ⟨_, _, e⟩ := hv; cases e
 | eptr _ _ _ _ => obtain ⟨_, _, _, _, _, e⟩ := hv; cases e
 | sslice _ _ _ _ => obtain ⟨_, _, _, _, _, _, _, ⟨_, e | ⟨_, _, e⟩⟩ | ⟨_, _, e⟩⟩ := hv <;> cases e
 | map _ => obtain ⟨_, _, e⟩ := hv; cases e
 | iface _ _ => obtain ⟨_, _, e⟩ := hv; cases e
 | agg _ => obtain ⟨_, _, e⟩ := hv; cases e
 | tuple _ => obtain ⟨_, _, e⟩ := hv; cases e
 | func _ _ _ => obtain ⟨_, _, _, _, e⟩ := hv; cases e
 | _ => cases hv
theorem VR.nocomplex {μ : Mu} {v : AV} {k : FloatKind} {n m : Nat} (hv : VR μ v (.complex k n m)) : False := by
 cases v with
 | slice i o n k => obtain ⟨_, _, _, e⟩ := hv.slice_some; cases e
 | ptr _ _ => obtain ⟨_, _, e⟩ := hv; cases e
 | eptr _ _ _ _ => obtain ⟨_, _, _, _, _, e⟩ := hv; cases e
 | sslice _ _ _ _ => obtain ⟨_, _, _, _, _, _, _, ⟨_, e | ⟨_, _, e⟩⟩ | ⟨_, _, e⟩⟩ := hv <;> cases e
 | map _ => obtain ⟨_, _, e⟩ := hv; cases e
 | iface _ _ => obtain ⟨_, _, e⟩ := hv; cases e
 | agg _ => obtain ⟨_, _, e⟩ := hv; cases e
 | tuple _ => obtain ⟨_, _, e⟩ := hv; cases e
 | func _ _ _ => obtain ⟨_, _, _, _, e⟩ := hv; cases e
 | _ => cases hv
theorem zZf {μ : Mu} {x y : AV} {cx cy : Value} (hx : VR μ x cx) (hy : VR μ y cy) (h1 : ∀ k a k' b, tmI x = some (k, a) → tmI y = some (k', b) → False) (h2 : ∀ a b, tmS x = some a → tmS y = some b → False) : zDk cx cy = false := by
 cases cx with
 | int k a =>
  cases cy with
  | int k' b => obtain ⟨_, e1, _⟩ := hx.int_inv; obtain ⟨_, e2, _⟩ := hy.int_inv; exact (h1 _ _ _ _ e1 e2).elim
  | _ => rfl
 | string a =>
  cases cy with
  | string b => obtain ⟨_, e1, _⟩ := hx.str_inv; obtain ⟨_, e2, _⟩ := hy.str_inv; exact (h2 _ _ e1 e2).elim
  | _ => rfl
 | float k a => exact hx.nofloat.elim
 | complex k a b => exact hx.nocomplex.elim
 | _ => rfl
theorem zX5 {op : BinOp} {t : TypeId} {x y v : AV} {xo yo : Operand} (h : xDS P op t (zAG xo || zAG yo) x y = some v) {μ : Mu} {cx cy : Value} (hx : VR μ x cx) (hy : VR μ y cy)
  (hp : zDk cx cy = false) (w : World) : ∃ c, (do eqGuard op t xo yo cx cy; binOp op t cx cy : Sem Value).run P w = .ok c w ∧ VR μ v c := by
 cases op <;> simp only [xDS] at h
 case eql => exact zRN h (by rfl) hx hy hp w
 case neq => exact zRN h (by rfl) hx hy hp w
 all_goals cases h
theorem xDt (k : IntKind) (a b : Int) (hb : ¬ b = 0) (w : World) : (Op.intDiv .quo k a b).run P w = .ok (.int k (k.wrap (a.tdiv b))) w := by
 simp only [Op.intDiv, if_neg hb]; rfl
theorem xDs (k : IntKind) (a b : Int) (hb : ¬ b = 0) (w : World) : (Op.intDiv .rem k a b).run P w = .ok (.int k (a.tmod b)) w := by
 simp only [Op.intDiv, if_neg hb]; rfl
theorem zY1 {op : BinOp} {k : IntKind} {a b : Tm} {v : AV} (h : xHF op k a b = some v) (hs : op ≠ .shl ∧ op ≠ .shr) (t : TypeId) (w : World) (μ : Mu) :
  ∃ c, (binOp op t (.int k a.den.asI) (.int k b.den.asI)).run P w = .ok c w ∧ VR μ v c := by
 rw [zOE op t k _ _ hs];unfold xHF at h;cases hc : zLj op with
 | true =>
  simp only [hc, cond_true] at h;cases h;refine ⟨_, ?_, zLe μ _⟩;rw [zAz];cases op <;> first | (simp [zLj] at hc; done) | rfl
 | false =>
  cases hp : zPC op with
  | true =>
   simp only [hc, hp, cond_true, cond_false] at h;cases h;refine ⟨_, ?_, zCO μ k _⟩;rw [zAz];cases op <;> first | (simp [zPC] at hp; done) | rfl
  | false =>
   simp only [hc, hp, cond_false] at h;split at h
   ·split at h
    ·cases h
    ·rename_i hz;cases h;refine ⟨_, ?_, zCO μ k _⟩;rw [zAz];exact xDt k _ _ hz w
   ·split at h
    ·cases h
    ·rename_i hz;cases h;refine ⟨_, ?_, zCO μ k _⟩;rw [zAz];exact xDs k _ _ hz w
   ·cases h
theorem xEX (op : BinOp) (t : TypeId) (x y : List UInt8) (hs : op ≠ .shl ∧ op ≠ .shr) : binOp op t (.string ⟨x.toArray⟩) (.string ⟨y.toArray⟩) = Op.stringOp op ⟨x.toArray⟩ ⟨y.toArray⟩ := by
 cases op <;> first | (exact absurd rfl hs.1) | (exact absurd rfl hs.2) | rfl
theorem zY0 {op : BinOp} {a b : Tm} {v : AV} (h : xHE op a b = some v) (hs : op ≠ .shl ∧ op ≠ .shr) (t : TypeId) (w : World) (μ : Mu) :
  ∃ c, (binOp op t (.string ⟨a.den.asS.toArray⟩) (.string ⟨b.den.asS.toArray⟩)).run P w = .ok c w ∧ VR μ v c := by
 have e1 : ∀ z : List UInt8, (⟨z.toArray⟩ : ByteArray).toList = z := fun z => by simp [ByteArray.toList_eq]
 unfold xHE at h;cases hc : zLj op with
 | false => simp [hc] at h
 | true =>
  simp only [hc, cond_true] at h;cases h;refine ⟨_, ?_, zLe μ _⟩;rw [zGd, xEX op t _ _ hs];unfold Op.stringOp;rw [e1, e1];cases op <;> first | (simp [zLj] at hc; done) | rfl
theorem zPE (t : TypeId) (k k' : IntKind) (a b : Int) (hb : ¬ b < 0) (w : World) : (binOp .shl t (.int k a) (.int k' b)).run P w = .ok (.int k (k.wrap (a * 2 ^ (min b.toNat k.bits)))) w := by
 simp only [binOp, Op.shift, if_neg hb]; rfl
theorem zPD (t : TypeId) (k k' : IntKind) (a b : Int) (hb : ¬ b < 0) (w : World) : (binOp .shr t (.int k a) (.int k' b)).run P w = .ok (.int k (a.fdiv (2 ^ (min b.toNat k.bits)))) w := by
 simp only [binOp, Op.shift, if_neg hb]; rfl
theorem xAh {op : BinOp} {t : TypeId} {x y v : AV} {xo yo : Operand} (h : xH5 P op t (zAG xo || zAG yo) x y = some v) {μ : Mu} {cx cy : Value} (hx : VR μ x cx) (hy : VR μ y cy) (w : World) :
  ∃ c, (do eqGuard op t xo yo cx cy; binOp op t cx cy : Sem Value).run P w = .ok c w ∧ VR μ v c := by
 by_cases hs1 : op = .shl
 ·subst hs1;simp only [xH5, xIN] at h;split at h
  ·rename_i k a k' b;split at h
   ·cases h
   ·rename_i hb;cases h; cases hx; cases hy;simp only [Sem.run_bind, zAI (op := .shl) t xo yo (.int k a) (.int k' b) rfl, Result.andThen_ok];exact ⟨_, zPE t k k' a b hb w, rfl⟩
  ·rename_i k a k' b;split at h
   ·cases h
   ·rename_i hb;cases h; cases hx; cases hy;simp only [Sem.run_bind, zAI (op := .shl) t xo yo (.int k a.den.asI) (.int k' b) rfl, Result.andThen_ok];exact ⟨_, zPE t k k' _ b hb w, rfl⟩
  ·cases h
 by_cases hs2 : op = .shr
 ·subst hs2;simp only [xH5, xIM] at h;split at h
  ·rename_i k a k' b;split at h
   ·cases h
   ·rename_i hb;cases h; cases hx; cases hy;simp only [Sem.run_bind, zAI (op := .shr) t xo yo (.int k a) (.int k' b) rfl, Result.andThen_ok];exact ⟨_, zPD t k k' a b hb w, rfl⟩
  ·rename_i k a k' b;split at h
   ·cases h
   ·rename_i hb;cases h; cases hx; cases hy;simp only [Sem.run_bind, zAI (op := .shr) t xo yo (.int k a.den.asI) (.int k' b) rfl, Result.andThen_ok];exact ⟨_, zPD t k k' _ b hb w, rfl⟩
  ·cases h
 have h' : xHZ P op t (zAG xo || zAG yo) x y = some v := by
  cases op <;> first | (exact absurd rfl hs1) | (exact absurd rfl hs2) | exact h
 unfold xHZ at h';split at h'
 ·rename_i k a k' b;split at h'
  ·rename_i hk;subst hk;cases hx; cases hy;simp only [Sem.run_bind, zAI (op := op) t xo yo (.int k a) (.int k b) rfl, Result.andThen_ok];exact zMt h' ⟨hs1, hs2⟩ t w μ
  ·cases h'
 ·rename_i a b;cases hx; cases hy;simp only [Sem.run_bind, zAI (op := op) t xo yo (.string ⟨a.toArray⟩) (.string ⟨b.toArray⟩) rfl, Result.andThen_ok];exact zQ5 h' ⟨hs1, hs2⟩ t w μ
 ·split at h'
  ·rename_i k a k' b ha hb;split at h'
   ·rename_i hk;subst hk;cases hx.tmI ha; cases hy.tmI hb;simp only [Sem.run_bind, zAI (op := op) t xo yo (.int k a.den.asI) (.int k b.den.asI) rfl, Result.andThen_ok];exact zY1 h' ⟨hs1, hs2⟩ t w μ
   ·cases h'
  ·rename_i hni;split at h'
   ·rename_i a b ha hb;cases hx.tmS ha; cases hy.tmS hb;simp only [Sem.run_bind, zAI (op := op) t xo yo (.string ⟨a.den.asS.toArray⟩) (.string ⟨b.den.asS.toArray⟩) rfl, Result.andThen_ok];exact zY0 h' ⟨hs1, hs2⟩ t w μ
   ·rename_i hns;exact zX5 h' hx hy (zZf hx hy (fun k a k' b e1 e2 => hni k a k' b e1 e2) (fun a b e1 e2 => hns a b e1 e2)) w
theorem zWg {op : BinOp} {t : TypeId} {x y v : AV} {xo yo : Operand} {o : Tm} (h : xDf op x y = some (o, v)) {μ : Mu} {cx cy : Value} (hx : VR μ x cx) (hy : VR μ y cy) (ho : o.den.asB = true) (w : World) :
  ∃ c, (do eqGuard op t xo yo cx cy; binOp op t cx cy : Sem Value).run P w = .ok c w ∧ VR μ v c := by
 cases op <;> simp only [xDf] at h <;> first | (cases h; done) | skip
 ·
  cases hsy : (zJF x || zJF y) with
  | false => simp [hsy] at h
  | true =>
   simp only [hsy, cond_true] at h;split at h
   ·rename_i a b ha hb;cases h;cases hx.tmS ha; cases hy.tmS hb;simp only [Sem.run_bind, zAI (op := .add) t xo yo (.string ⟨a.den.asS.toArray⟩) (.string ⟨b.den.asS.toArray⟩) rfl, Result.andThen_ok];rw [zAz] at ho;have hlen : (a.den.asS.length : Int) + b.den.asS.length ≤ 9223372036854775807 := by
     simpa [iop, Dat.asB, Tm.den, Dat.asI, zA8] using ho
    have hst : xEv .add a.den.asS b.den.asS = some (.str (a.den.asS ++ b.den.asS)) := by
     simp only [xEv]; rw [if_pos (by omega)]
    obtain ⟨c, h1, h2⟩ := zQ5 (P := P) hst ⟨by simp, by simp⟩ t w μ
    exact ⟨c, h1, h2⟩
   ·cases h
 ·
  split at h
  ·rename_i k a k' b ha;split at h
   ·rename_i hk;subst hk;cases h;cases hx.tmI ha; cases hy;rw [zAz] at ho;have hz : ¬ b.den.asI = 0 := by simpa [iop, Dat.asB, Tm.den, Dat.asI] using ho
    simp only [Sem.run_bind, zAI (op := .quo) t xo yo (.int k a.den.asI) (.int k b.den.asI) rfl, Result.andThen_ok];exact zMt (op := .quo) (x := a.den.asI) (y := b.den.asI) (v := .int k (k.wrap (a.den.asI.tdiv b.den.asI))) (by simp [xDu, hz]) ⟨by simp, by simp⟩ t w μ
   ·cases h
  ·cases h
 ·
  split at h
  ·rename_i k a k' b ha;split at h
   ·rename_i hk;subst hk;cases h;cases hx.tmI ha; cases hy;rw [zAz] at ho;have hz : ¬ b.den.asI = 0 := by simpa [iop, Dat.asB, Tm.den, Dat.asI] using ho
    simp only [Sem.run_bind, zAI (op := .rem) t xo yo (.int k a.den.asI) (.int k b.den.asI) rfl, Result.andThen_ok];exact zMt (op := .rem) (x := a.den.asI) (y := b.den.asI) (v := .int k (a.den.asI.tmod b.den.asI)) (by simp [xDu, hz]) ⟨by simp, by simp⟩ t w μ
   ·cases h
  ·cases h
 ·
  split at h
  ·rename_i k a k' b ha;cases h;cases hx.tmI ha; cases hy;rw [zAz] at ho;have hz : ¬ b.den.asI < 0 := Int.not_lt.2 (of_decide_eq_true (show decide ((0 : Int) ≤ b.den.asI) = true from ho))
   simp only [Sem.run_bind, zAI (op := .shl) t xo yo (.int k a.den.asI) (.int k' b.den.asI) rfl, Result.andThen_ok];exact ⟨_, zPE t k k' _ _ hz w, rfl⟩
  ·cases h
 ·
  split at h
  ·rename_i k a k' b ha;cases h;cases hx.tmI ha; cases hy;rw [zAz] at ho;have hz : ¬ b.den.asI < 0 := Int.not_lt.2 (of_decide_eq_true (show decide ((0 : Int) ≤ b.den.asI) = true from ho))
   simp only [Sem.run_bind, zAI (op := .shr) t xo yo (.int k a.den.asI) (.int k' b.den.asI) rfl, Result.andThen_ok];exact ⟨_, zPD t k k' _ _ hz w, rfl⟩
  ·cases h
theorem xBD {op : UnOp} {x v : AV} (h : unA op x = some v) {μ : Mu} {c : Value} (hx : VR μ x c) (w : World) : ∃ y, (Op.unary op c).run P w = .ok y w ∧ VR μ v y := by
 unfold unA at h;split at h
 ·cases h; cases hx; exact ⟨_, rfl, rfl⟩
 ·cases h; cases hx; exact ⟨_, rfl, rfl⟩
 ·simp only [zTA] at h;cases h; cases hx; exact ⟨_, rfl, rfl⟩
 ·cases h; cases hx; exact ⟨_, rfl, rfl⟩
 ·cases h; cases hx; exact ⟨_, rfl, rfl⟩
 ·cases h; cases hx; exact ⟨_, rfl, zFh _ ▸ zLe μ _⟩
 ·cases h
end
end Go.Proofs.YtenkabjkgngcdaaGreat.Ab
namespace Go.Proofs.YtenkabjkgngcdaaGreat.Ab
open Go
variable [Rho]
section
variable {P : Program}
theorem zDA {μ : Mu} {h : Nat → Option AObj} {w : World} (r : Rep μ h w) {id : Nat} {vs : List AV} {own lf : Bool} (hg : h id = some (.row vs own lf)) :
  ∃ l c e lo hi, (μ id = some l ∧ l.nil = false) ∧ w.heap[l.b]? = some (.cells c e (lo, hi)) ∧ vs.length = l.ext ∧ l.ext ≤ l.cap * l.k ∧ l.s + l.cap * l.k ≤ c.size ∧
   (own = true → c.size ≤ lo ∨ hi ≤ lo) ∧ (∀ i x, vs[i]? = some x → zCo x = true ∧ ∃ y, c[l.s + i]? = some y ∧ VR μ x y) := r.obj _ _ hg
theorem zED {μ : Mu} {l : Loc} {c : Array Value} {vs : List AV} (h : ∀ i x, vs[i]? = some x → zCo x = true ∧ ∃ y, c[l.s + i]? = some y ∧ VR μ x y) {off n : Nat} {xs : List AV} (hx : zEq vs off n = some xs) :
  ∃ cs : List Value, VRs μ xs cs ∧ cs.length = n ∧ (∀ j y, cs[j]? = some y → c[l.s + off + j]? = some y) ∧ zA4 xs = true := by
 obtain ⟨h1, h2⟩ := zFp hx;rcases h2 with h2 | h2
 ·subst h2;simp at h1; subst h1;exact ⟨[], rfl, rfl, by simp, rfl⟩
 ·have hlen : xs.length = n := by rw [h1]; simp; omega
  have hget : ∀ j x, xs[j]? = some x → j < n ∧ vs[off + j]? = some x := fun j x hj => by
   have hlt : j < xs.length := (List.getElem?_eq_some_iff.1 hj).1;rw [h1, List.getElem?_take, if_pos (by omega), List.getElem?_drop] at hj
   exact ⟨by omega, hj⟩
  have hcs : ∀ j, j < n → ∃ y, c[l.s + off + j]? = some y := fun j hj => by
   obtain ⟨x, hx'⟩ : ∃ x, xs[j]? = some x := ⟨_, List.getElem?_eq_getElem (by omega)⟩
   obtain ⟨_, y, h3, _⟩ := h _ _ (hget j x hx').2;exact ⟨y, by rw [← h3]; congr 1; omega⟩
  refine ⟨(c.toList.drop (l.s + off)).take n, VRs.of_get ?_ ?_, ?_, ?_, ?_⟩
  ·simp [hlen];rcases Nat.lt_or_ge 0 n with h0 | h0
   ·obtain ⟨y, hy⟩ := hcs (n - 1) (by omega)
    have := (Array.getElem?_eq_some_iff.1 hy).1;omega
   ·omega
  ·intro i x y hxi hy;obtain ⟨h3, h4⟩ := hget i x hxi;obtain ⟨_, z, h5, h6⟩ := h _ _ h4;rw [List.getElem?_take, if_pos h3, List.getElem?_drop, Array.getElem?_toList] at hy;have : l.s + (off + i) = l.s + off + i := by omega
   rw [this, hy] at h5; cases h5; exact h6
  ·simp;rcases Nat.lt_or_ge 0 n with h0 | h0
   ·obtain ⟨y, hy⟩ := hcs (n - 1) (by omega)
    have := (Array.getElem?_eq_some_iff.1 hy).1;omega
   ·omega
  ·intro j y hy;rw [List.getElem?_take] at hy;split at hy
   ·rw [List.getElem?_drop, Array.getElem?_toList] at hy; exact hy
   ·cases hy
  ·simp only [zA4, List.all_eq_true];intro x hx';obtain ⟨j, hj⟩ := List.mem_iff_getElem?.1 hx';exact (h _ _ (hget j x hj).2).1
def zM5 : AObj → Tm → Option (List AV)
 | .bytes l _, i => some [.sint .u8 (.at l i)]
 | .seq sh l _, i => some (zCR l i sh 0)
 | .nst sh l jn z _ k2, .ci (.ofNat r) => some (zCU l r jn z k2 sh 0)
 | _, _ => none
theorem zHI (t i : Tm) : ∀ (sh : List Kd) (n j : Nat), (zCR t i sh n)[j]? = (sh[j]?).map fun kd => zI6 t i kd (n + j)
 | [], _, _ => by simp [zCR]
 | k :: sh, n, 0 => by simp [zCR]
 | k :: sh, n, j + 1 => by
  simp only [zCR, List.getElem?_cons_succ, zHI t i sh (n + 1) j];congr 1; funext kd; congr 1; omega
theorem zE8 (t i : Tm) : ∀ (sh : List Kd) (n : Nat), (zCR t i sh n).length = sh.length
 | [], _ => rfl
 | k :: sh, n => by simp [zCR, zE8 t i sh (n + 1)]
theorem zS3 (μ : Mu) (t i : Tm) (kd : Kd) (j : Nat) : VR μ (zI6 t i kd j) (kdV kd ((t.den.asL.getD i.den.asI.toNat []).getD j (.dI 0))) := by
 cases kd <;> rfl
theorem zHS (t : Tm) (r jn z k2 : Nat) : ∀ (sh : List Kd) (n j : Nat), (zCU t r jn z k2 sh n)[j]? = (sh[j]?).map fun kd => zMc t r jn z k2 kd (n + j)
 | [], _, _ => by simp [zCU]
 | k :: sh, n, 0 => by simp [zCU]
 | k :: sh, n, j + 1 => by
  simp only [zCU, List.getElem?_cons_succ, zHS t r jn z k2 sh (n + 1) j];congr 1; funext kd; congr 1; omega
theorem zEO (t : Tm) (r jn z k2 : Nat) : ∀ (sh : List Kd) (n : Nat), (zCU t r jn z k2 sh n).length = sh.length
 | [], _ => rfl
 | k :: sh, n => by simp [zCU, zEO t r jn z k2 sh (n + 1)]
theorem zYP {μ : Mu} {h : Nat → Option AObj} {w : World} (r : Rep μ h w) {id : Nat} {o : AObj} (hg : h id = some o) {i : Tm} {cs : List AV} (he : zM5 o i = some cs) {l : Loc} (hl : μ id = some l) (hk0 : 0 < l.k) (hi : i.den.asI.toNat * l.k + l.k ≤ l.ext) :
  ∃ (c : Array Value) (e : TypeId) (fz : Nat × Nat) (vs : List Value), w.heap[l.b]? = some (.cells c e fz) ∧ VRs μ cs vs ∧ cs.length = l.k ∧ ∀ j y, vs[j]? = some y → c[l.s + (i.den.asI.toNat * l.k + j)]? = some y := by
 cases o with
 | row vs own lf => simp [zM5] at he
 | map es => simp [zM5] at he
 | pin b q => simp [zM5] at he
 | abs p t => simp [zM5] at he
 | nst sh t jn z N k2 =>
  unfold zM5 at he;split at he
  ·rename_i e; cases e
  ·rename_i e; cases e
  ·rename_i sh' l' jn' z' N' k2' q e;cases e; cases he;obtain ⟨l', c, e, lo, hi', ⟨h1, _⟩, h2, ⟨h3, h3'⟩, h4, h5, h6⟩ := r.obj _ _ hg;rw [hl] at h1; cases h1;have hd : (Tm.ci (Int.ofNat q)).den.asI.toNat = q := rfl;rw [hd] at hi ⊢;have hle : (q + 1) * l.k ≤ t.den.asL.length * l.k := by rw [Nat.add_mul]; omega
   have hlt : q < t.den.asL.length := Nat.lt_of_succ_le (Nat.le_of_mul_le_mul_right hle hk0);have hex : ∀ j, j < sh.length → ∃ y, c[l.s + (q * l.k + j)]? = some y := fun j hj => by
    obtain ⟨y, hy, _⟩ := h6 q hlt j sh[j] (List.getElem?_eq_getElem hj);exact ⟨y, hy⟩
   refine ⟨c, e, (lo, hi'), (List.range sh.length).map fun j => (c[l.s + (q * l.k + j)]?).getD undef, h2, VRs.of_get (by simp [zEO]) fun j x y hx hy => ?_, by rw [zEO, h3], fun j y hj => ?_⟩
   ·rw [zHS] at hx;cases hsj : sh[j]? with
    | none => simp [hsj] at hx
    | some kd =>
     simp [hsj] at hx;subst hx;have hj := (List.getElem?_eq_some_iff.1 hsj).1;obtain ⟨y', h7, h8⟩ := h6 q hlt j kd hsj;simp [hj, h7] at hy;subst hy; exact h8
   ·have hj' : j < sh.length := by
     have := (List.getElem?_eq_some_iff.1 hj).1;simpa using this
    obtain ⟨y', hy'⟩ := hex j hj';simp [hj', hy'] at hj;rw [hy', hj]
  ·cases he
 | bytes t own =>
  simp only [zM5] at he; cases he;obtain ⟨l', c, e, lo, hi', ⟨h1, _⟩, h2, ⟨h3, h3'⟩, h4, h5, h6, h7⟩ := r.obj _ _ hg;rw [hl] at h1; cases h1;rw [h3] at hi;obtain ⟨x, hx⟩ : ∃ x, t.den.asS[i.den.asI.toNat]? = some x := ⟨_, List.getElem?_eq_getElem (by omega)⟩
  refine ⟨c, e, (lo, hi'), [.int .u8 (x.toNat : Int)], h2, ⟨_, [], ?_, rfl, rfl⟩, by simp [h3], fun j y hj => ?_⟩
  ·show Value.int .u8 (x.toNat : Int) = .int .u8 (zDm t.den.asS i.den.asI.toNat);simp [zDm, List.getD_eq_getElem?_getD, hx]
  ·cases j with
   | zero => simp at hj; subst hj; rw [h3]; simpa using h7 _ _ hx
   | succ j => simp at hj
 | seq sh t own =>
  simp only [zM5] at he; cases he;obtain ⟨c, e, lo, hi', h2, ⟨h3, h3'⟩, h4, h5, h6, h7⟩ := (r.obj _ _ hg).seq_at hl ((r.obj _ _ hg).seq_real hl (by omega))
  have hle : (i.den.asI.toNat + 1) * l.k ≤ t.den.asL.length * l.k := by rw [Nat.add_mul]; omega
  refine ⟨c, e, (lo, hi'), sh.mapIdx fun j kd => kdV kd ((t.den.asL.getD i.den.asI.toNat []).getD j (.dI 0)), h2, VRs.of_get (by simp [zE8]) fun j x y hx hy => ?_, by rw [zE8, h3], fun j y hj => ?_⟩
  ·rw [zHI] at hx;rw [List.getElem?_mapIdx] at hy;cases hsj : sh[j]? with
   | none => simp [hsj] at hx
   | some kd =>
    simp [hsj] at hx hy;subst hx; subst hy;have := zS3 μ t i kd j;simpa using this
  ·rw [List.getElem?_mapIdx] at hj;cases hsj : sh[j]? with
   | none => simp [hsj] at hj
   | some kd =>
    simp [hsj] at hj;subst hj;have hlt : i.den.asI.toNat < t.den.asL.length := Nat.lt_of_succ_le (Nat.le_of_mul_le_mul_right hle hk0);have := h7 _ hlt j kd hsj;simpa using this
theorem zWe {t : TypeId} {cs : List AV} {j : Nat} {v : AV} (h : zSU P t cs j = some v) {μ : Mu} {vs : List Value} (hc : VRs μ cs vs) {w : World} {b o : Nat} (hm : ∀ j y, vs[j]? = some y → w.cell? ⟨b, o + j, none⟩ = some y) :
  ∃ c, (loadVar t ⟨b, o + j, none⟩).run P w = .ok c w ∧ VR μ v c := by
 unfold zSU at h;split at h
 ·rename_i hag;split at h
  ·rename_i n hn;split at h
   ·rename_i xs hxs;cases h;obtain ⟨e1, e2⟩ := zFp hxs;have hv : VRs μ xs ((vs.drop j).take n) := by rw [e1]; exact (hc.drop j).take n
    refine ⟨.agg ((vs.drop j).take n).toArray, ?_, _, hv, rfl⟩;simp only [loadVar, Sem.run_bind, zFt hag, Result.andThen_ok, if_true, zAt hn];rw [run_loadCells b (o + j) n ((vs.drop j).take n) (by have := hc.length; simp; omega) (fun i y hi => by
     rw [List.getElem?_take] at hi;split at hi
     ·rw [List.getElem?_drop] at hi;have := hm _ y hi;rw [← this]; congr 2; omega
     ·cases hi)]
    rfl
   ·cases h
  ·cases h
 ·rename_i hag;obtain ⟨y, h8, h9⟩ := hc.get _ _ h;refine ⟨y, ?_, h9⟩;simp only [loadVar, Sem.run_bind, zFt hag, Result.andThen_ok, Bool.false_eq_true, if_false];exact Ab.run_load (hm _ _ h8)
 ·cases h
theorem elem_run {t : TypeId} {H : Heap} {μ : Mu} {w : World} (r : Rep μ H.get w) {id k : Nat} {i : Tm} {j : Nat} {o : AObj} (hg : H.get id = some o) {cs : List AV} (he : zM5 o i = some cs) {v : AV} (h : zSU P t cs j = some v) (hk : 0 < k) {ca : Value} (ha : VR μ (.eptr id k i j) ca) :
  ∃ c, (Instr.loadAt t ca).run P w = .ok c w ∧ VR μ v c := by
 obtain ⟨l, h1, h2, h3, h4, rfl⟩ := ha;subst h2;obtain ⟨c, e, fz, vs, k1, k2, k3, k4⟩ := zYP r hg he h1 hk h4;have hrun : (Instr.loadAt t (.pointer (some ⟨l.b, l.s + (i.den.asI.toNat * l.k + j), none⟩))).run P w = (loadVar t ⟨l.b, l.s + i.den.asI.toNat * l.k + j, none⟩).run P w := by
  simp [Instr.loadAt, Instr.sureAddr, Nat.add_assoc]
 rw [hrun];refine zWe h k2 fun j y hj => ?_;rw [zBU k1, Nat.add_assoc];exact k4 j y hj
theorem zNU {t : TypeId} {a v : AV} {H : Heap} (h : zWB P t a H = some v) {μ : Mu} {w : World} (r : Rep μ H.get w) {ca : Value} (ha : VR μ a ca) :
  ∃ c, (Instr.loadAt t ca).run P w = .ok c w ∧ VR μ v c := by
 unfold zWB at h;split at h
 ·rename_i id k i j;split at h
  ·rename_i t' own hg;split at h
   ·exact elem_run r hg rfl h (by decide) ha
   ·cases h
  ·rename_i sh t' own hg;cases hb : Nat.beq sh.length k && Nat.blt 0 k with
   | false => simp [hb] at h
   | true =>
    simp only [hb, cond_true] at h;exact elem_run r hg rfl h (by have := (Bool.and_eq_true_iff.1 hb).2; simpa [Nat.blt_eq] using this) ha
  ·rename_i sh t' jn z N k2 hg;split at h
   ·rename_i q;cases hb : Nat.beq sh.length k && Nat.blt 0 k with
    | false => simp [hb] at h
    | true =>
     simp only [hb, cond_true] at h;exact elem_run r hg rfl h (by have := (Bool.and_eq_true_iff.1 hb).2; simpa [Nat.blt_eq] using this) ha
   ·cases h
  ·cases h
 ·rename_i id off;split at h
  ·rename_i vs own lf hg;obtain ⟨l, c, e, lo, hi, ⟨h1, _⟩, h2, h3, h4, h5, h6, h7⟩ := zDA r hg;have hca := ha.ptr_block h1;subst hca;have hrun : (Instr.loadAt t (.pointer (some ⟨l.b, l.s + off, none⟩))).run P w = (loadVar t ⟨l.b, l.s + off, none⟩).run P w := by
    simp [Instr.loadAt, Instr.sureAddr]
   rw [hrun];split at h
   ·rename_i hag;split at h
    ·rename_i n hn;split at h
     ·rename_i xs hxs;cases h;obtain ⟨cs, k1, k2, k3, _⟩ := zED h7 hxs;refine ⟨.agg cs.toArray, ?_, cs, k1, rfl⟩;simp only [loadVar, Sem.run_bind, zFt hag, Result.andThen_ok, if_true, zAt hn];rw [run_loadCells l.b (l.s + off) n cs k2 (fun j y hj => by rw [zBU h2]; exact k3 j y hj)]
      rfl
     ·cases h
    ·cases h
   ·rename_i hag;obtain ⟨_, y, h8, h9⟩ := h7 _ _ h;refine ⟨y, ?_, h9⟩;simp only [loadVar, Sem.run_bind, zFt hag, Result.andThen_ok, Bool.false_eq_true, if_false];exact Ab.run_load (by rw [zBU h2]; exact h8)
   ·cases h
  ·cases h
 ·cases h
theorem zDg {μ : Mu} {H : Heap} {w : World} (r : Rep μ H.get w) (d : Dom μ H.next) {id : Nat} {vs : List AV} {lf : Bool} (hg : H.get id = some (.row vs true lf)) {off : Nat} {new vs' : List AV} (hp : putAt vs off new = some vs')
  {cs : List Value} (hc : VRs μ new cs) (ha : zA4 new = true) (lf' : Bool) {l : Loc} (hl : μ id = some l) :
  ∃ w', (storeCells ⟨l.b, l.s + off, none⟩ cs).run P w = .ok () w' ∧ Evo μ H.get H.next w μ (H.upd id (.row vs' true lf')).get (H.upd id (.row vs' true lf')).next w' := by
 obtain ⟨l', c, e, lo, hi, ⟨h1, hz⟩, h2, h3, h4, h5, h6, h7⟩ := zDA r hg;rw [hl] at h1; cases h1;obtain ⟨hp1, hp2⟩ := zGD _ _ _ _ hp;have hcl := hc.length;have hroom : l.s + off + cs.length ≤ c.size := by omega
 have hrun := zBA (P := P) l.b (l.s + off) e lo hi cs 0 w c h2 (by omega) (h6 rfl) (hc.cellsV ha)
 obtain ⟨c', k1, k2, k3⟩ := zEA e (lo, hi) cs w l.b (l.s + off) c h2 hroom;obtain ⟨m1, m2, m3, m4⟩ := zDh cs w l.b (l.s + off);refine ⟨_, hrun, ?_⟩;refine zMx r d hg rfl ⟨hl, hz⟩ (fun b hb => zE9 cs w l.b (l.s + off) b hb) m1 m2 m3 m4 ?_;refine ⟨l, c', e, lo, hi, ⟨hl, hz⟩, k1, by rw [zNK hp, h3], h4, by omega, fun _ => by rw [k2]; exact h6 rfl, fun i x hx => ?_⟩
 rw [zNL hp] at hx;rw [k3];by_cases hi' : off ≤ i ∧ i < off + new.length
 ·rw [if_pos hi'] at hx;rw [if_pos (by omega)]
  obtain ⟨y, hy, hv⟩ := hc.get _ x hx;refine ⟨?_, y, by rw [← hy]; congr 1; omega, hv⟩
  simp only [zA4, List.all_eq_true] at ha;exact ha x (List.mem_of_getElem? hx)
 ·rw [if_neg hi'] at hx;rw [if_neg (by omega)]
  exact h7 i x hx
theorem zCw {μ : Mu} : ∀ {sh : List Kd} {new : List AV} {r : Tm} {cn : List Value}, zB6 sh new = some r → VRs μ new cn → ∀ (j : Nat) (kd : Kd), sh[j]? = some kd → cn[j]? = some (kdV kd ((cellsD r.den).getD j (.dI 0)))
 | [], [], r, cn, _, _, j, kd, h => by simp at h
 | .kb :: sh, v :: l, r, cn, h, hv, j, kd, hj => by
  simp only [zB6] at h;split at h
  ·rename_i t u ht hu;cases h;obtain ⟨x, y, q1, q2, rfl⟩ := hv;cases j with
   | zero => simp at hj; subst hj; simpa [Tm.den, cellsD, kdV] using q1.tmB ht
   | succ j => simpa [Tm.den, cellsD] using zCw hu q2 j kd (by simpa using hj)
  ·cases h
 | .ki k :: sh, v :: l, r, cn, h, hv, j, kd, hj => by
  simp only [zB6] at h;split at h
  ·rename_i k' t u ht hu;cases hk : eqK k k' with
   | false => rw [hk] at h; cases h
   | true =>
    rw [hk] at h; cases h;obtain ⟨x, y, q1, q2, rfl⟩ := hv;cases j with
    | zero => simp at hj; subst hj; rw [zHY _ _ hk]; simpa [Tm.den, cellsD, kdV] using q1.tmI ht
    | succ j => simpa [Tm.den, cellsD] using zCw hu q2 j kd (by simpa using hj)
  ·cases h
 | .ks :: sh, v :: l, r, cn, h, hv, j, kd, hj => by
  simp only [zB6] at h;split at h
  ·rename_i t u ht hu;cases h;obtain ⟨x, y, q1, q2, rfl⟩ := hv;cases j with
   | zero => simp at hj; subst hj; simpa [Tm.den, cellsD, kdV] using q1.tmS ht
   | succ j => simpa [Tm.den, cellsD] using zCw hu q2 j kd (by simpa using hj)
  ·cases h
 | [], _ :: _, _, _, h, _, _, _, _ => by simp [zB6] at h
 | .kb :: _, [], _, _, h, _, _, _, _ => by simp [zB6] at h
 | .ki _ :: _, [], _, _, h, _, _, _, _ => by simp [zB6] at h
 | .ks :: _, [], _, _, h, _, _, _, _ => by simp [zB6] at h
theorem zFk : ∀ {sh : List Kd} {new : List AV} {r : Tm}, zB6 sh new = some r → new.length = sh.length
 | [], [], _, _ => rfl
 | .kb :: sh, v :: l, r, h => by
  simp only [zB6] at h;split at h
  ·rename_i hu; simp [zFk hu]
  ·cases h
 | .ki k :: sh, v :: l, r, h => by
  simp only [zB6] at h;split at h
  ·rename_i hu; simp [zFk hu]
  ·cases h
 | .ks :: sh, v :: l, r, h => by
  simp only [zB6] at h;split at h
  ·rename_i hu; simp [zFk hu]
  ·cases h
 | [], _ :: _, _, h => by simp [zB6] at h
 | .kb :: _, [], _, h => by simp [zB6] at h
 | .ki _ :: _, [], _, h => by simp [zB6] at h
 | .ks :: _, [], _, h => by simp [zB6] at h
theorem zS5 {t : TypeId} {a v : AV} {H H' : Heap} (h : zKv P t a v H = some H') {μ : Mu} {w : World} (r : Rep μ H.get w) (d : Dom μ H.next) {ca cv : Value} (ha : VR μ a ca) (hv : VR μ v cv) :
  ∃ w', (Instr.storeAt t ca cv).run P w = .ok () w' ∧ Evo μ H.get H.next w μ H'.get H'.next w' := by
 unfold zKv at h;split at h
 ·rename_i id off;split at h
  ·rename_i vs lf n hg hn;split at h
   ·rename_i hc;obtain ⟨hc1, hc2⟩ := hc;split at h
    ·rename_i vs' hp;cases h;obtain ⟨l, c, e, lo, hi, ⟨h1, _⟩, h2, _⟩ := zDA r hg;have hca := ha.ptr_block h1;subst hca;obtain ⟨w', hr, he⟩ := zDg (P := P) r d hg hp hv.cells hc2 (lf && flats v.cells) h1;refine ⟨w', ?_, he⟩;have hsz : cv.cells.size = n := by
      have := hv.cells.length;simp at this; omega
     simp only [Instr.storeAt, Instr.sureAddr, Sem.run_bind, Sem.run_pure, Result.andThen_ok, storeVar, zAt hn, hsz, ne_eq, not_true, if_false];exact hr
    ·cases h
   ·cases h
  ·cases h
 ·rename_i id k i j;split at h
  ·rename_i sh tm n hg hn;split at h
   ·rename_i hc;obtain ⟨hc1, hc2, rfl, hsh, rfl, hk0⟩ := hc;split at h
    ·rename_i rr hkind;cases h;obtain ⟨l, h1, q1, q2, q3, hca⟩ := ha;have hz := (r.obj id _ hg).seq_real h1 (by omega)
     obtain ⟨c, e, lo, hi, h2, ⟨h3, h3'⟩, h4, h5, h6, h7⟩ := (r.obj id _ hg).seq_at h1 hz;have h5 := h5 rfl;subst hca;rw [h3, hsh] at h3' h4 h5;rw [h3, hsh] at h7;have hcv := hv.cells;have hcl : cv.cells.toList.length = n := by rw [hcv.length, hc1]
     have hin : l.s + i.den.asI.toNat * n + n ≤ c.size := by omega
     have hst := zBA (P := P) l.b (l.s + i.den.asI.toNat * n) e lo hi cv.cells.toList 0 w c h2 (by omega) (h6 rfl) (hcv.cellsV hc2)
     obtain ⟨c', s1, s2, s3⟩ := zEA e (lo, hi) cv.cells.toList w l.b (l.s + i.den.asI.toNat * n) c h2 (by omega)
     obtain ⟨m1, m2, m3, m4⟩ := zDh cv.cells.toList w l.b (l.s + i.den.asI.toNat * n);refine ⟨setRow w l.b (l.s + i.den.asI.toNat * n) cv.cells.toList, ?_, zMx r d hg rfl ⟨h1, hz⟩ (fun b hb => zE9 cv.cells.toList w l.b _ b hb) m1 m2 m3 m4 ?_⟩
     ·have hsz : cv.cells.size = n := by simpa using hcl
      simp only [Instr.storeAt, Instr.sureAddr, Sem.run_bind, Sem.run_pure, Result.andThen_ok, storeVar, zAt hn, hsz, ne_eq, not_true, if_false];exact hst
     ·have hlen : (Tm.lput tm i rr).den.asL = tm.den.asL.set i.den.asI.toNat (cellsD rr.den) := rfl;refine ⟨l, h1, ⟨h3, by rw [hlen, List.length_set, h3, hsh]; exact h3'⟩, by rw [h3, hsh]; exact h4, .inr ⟨hz, c', e, lo, hi, s1, fun _ => by rw [s2, h3, hsh]; exact h5, fun _ => by rw [s2]; exact h6 rfl, ?_⟩⟩
      rw [hlen];intro p hp j kd hj;rw [List.length_set] at hp;have hjl := (List.getElem?_eq_some_iff.1 hj).1;rw [h3, hsh, s3];by_cases hpi : p = i.den.asI.toNat
      ·subst hpi;rw [if_pos (by omega), show l.s + (i.den.asI.toNat * n + j) - (l.s + i.den.asI.toNat * n) = j by omega, zCw hkind hcv j kd hj]
       simp [List.getD_eq_getElem?_getD, hp]
      ·have hout : ¬ (l.s + i.den.asI.toNat * n ≤ l.s + (p * n + j) ∧ l.s + (p * n + j) < l.s + i.den.asI.toNat * n + cv.cells.toList.length) := by
        rw [hcl];rcases Nat.lt_or_gt_of_ne hpi with h8 | h8
        ·have := Nat.mul_le_mul_right n (show p + 1 ≤ i.den.asI.toNat from h8)
         rw [Nat.add_mul, Nat.one_mul] at this; omega
        ·have := Nat.mul_le_mul_right n (show i.den.asI.toNat + 1 ≤ p from h8)
         rw [Nat.add_mul, Nat.one_mul] at this; omega
       rw [if_neg hout, h7 p hp j kd hj];simp [List.getD_eq_getElem?_getD, List.getElem?_set_ne (Ne.symm hpi)]
    ·cases h
   ·cases h
  ·cases h
 ·cases h
theorem zJB {μ : Mu} {H : Heap} {w : World} (r : Rep μ H.get w) (d : Dom μ H.next) {cells : List AV} {cs : List Value} (hc : VRs μ cells cs) (ha : zA4 cells = true) (e : TypeId) (lf : Bool) :
  Evo μ H.get H.next w (setMu μ H.next ⟨w.heap.size, 0, cells.length, 1, cells.length, false⟩) (H.new (.row cells true lf)).get (H.new (.row cells true lf)).next { w with heap := w.heap.push (.cells cs.toArray e) } := by
 refine zFP r d (Plus.refl w _) _ _ rfl fun μ' he hm => ?_;have hl := hc.length;refine ⟨_, cs.toArray, e, 0, 0, ⟨hm, rfl⟩, by simp, rfl, by simp, by simp; omega, fun _ => .inr (Nat.le_refl _), fun i x hx => ?_⟩
 obtain ⟨y, hy, hv⟩ := hc.get i x hx;refine ⟨?_, y, by simpa using hy, hv.ext he⟩
 simp only [zA4, List.all_eq_true] at ha;exact ha x (List.mem_of_getElem? hx)
theorem zSn {v p : AV} {H H' : Heap} (h : xB5 v H = some (p, H')) {μ : Mu} {w : World} (r : Rep μ H.get w) (d : Dom μ H.next) {cv : Value} (hv : VR μ v cv) (e : TypeId) :
  ∃ μ' c w', (newVar e cv).run P w = .ok c w' ∧ VR μ' p (.pointer (some c)) ∧ Evo μ H.get H.next w μ' H'.get H'.next w' := by
 unfold xB5 at h;split at h
 ·rename_i ha;cases h;have he := zJB r d hv.cells ha e (flats v.cells);refine ⟨_, ⟨w.heap.size, 0, none⟩, _, ?_, ⟨⟨w.heap.size, 0, v.cells.length, 1, v.cells.length, false⟩, by simp [setMu], rfl⟩, he⟩
  simp [newVar, newRow]
 ·cases h
theorem zTC {e : TypeId} {p : AV} {H H' : Heap} (h : zL0 P e H = some (p, H')) {μ : Mu} {w : World} (r : Rep μ H.get w) (d : Dom μ H.next) :
  ∃ μ' c w', (Instr.alloc e true (.tuple #[])).run P w = .ok c w' ∧ VR μ' p c ∧ Evo μ H.get H.next w μ' H'.get H'.next w' := by
 unfold zL0 at h;split at h
 ·rename_i v hz;obtain ⟨z, h1, h2⟩ := zE5 hz w;obtain ⟨μ', c, w', h3, h4, h5⟩ := zSn (P := P) h r d (zJ8 μ z v h2) e;refine ⟨μ', _, w', ?_, h4, h5⟩;simp [Instr.alloc, h1, h3]
 ·cases h
end
end Go.Proofs.YtenkabjkgngcdaaGreat.Ab
namespace Go.Proofs.YtenkabjkgngcdaaGreat.Ab
open Go
variable [Rho]
section
variable {P : Program}
theorem zKn {s : TypeId} {a v : AV} {f : Nat} (h : zH3 P s a f = some v) {μ : Mu} {ca : Value} (ha : VR μ a ca) (w : World) : ∃ c, (Instr.fieldAt s ca f).run P w = .ok c w ∧ VR μ v c := by
 unfold zH3 at h;split at h
 ·rename_i fs id off ht;split at h
  ·rename_i fd hf;split at h
   ·rename_i n hn;cases h;obtain ⟨l, hl, rfl⟩ := ha;refine ⟨_, ?_, l, hl, rfl⟩;simp only [Instr.fieldAt, Sem.run_bind, run_underlying ht, Result.andThen_ok, hf, Instr.sureAddr, Sem.run_pure, fieldPlace, zAt hn, Nat.succ_ne_zero, if_false, zBp];simp only [Nat.add_assoc]
   ·cases h
  ·cases h
 ·rename_i fs id k i j ht;split at h
  ·rename_i fd hf;split at h
   ·rename_i n hn;cases h;obtain ⟨l, hl, h2, h3, h4, rfl⟩ := ha;refine ⟨_, ?_, l, hl, h2, h3, h4, rfl⟩;simp only [Instr.fieldAt, Sem.run_bind, run_underlying ht, Result.andThen_ok, hf, Instr.sureAddr, Sem.run_pure, fieldPlace, zAt hn, Nat.succ_ne_zero, if_false, zBp];simp only [Nat.add_assoc]
   ·cases h
  ·cases h
 ·cases h
theorem zTu {t : TypeId} {x v : AV} {f : Nat} (h : zXg P t x f = some v) {μ : Mu} {c : Value} (hx : VR μ x c) (w : World) : ∃ y, (Instr.field t c f).run P w = .ok y w ∧ VR μ v y := by
 unfold zXg at h;split at h
 ·rename_i fs cs ht;split at h
  ·rename_i fd hf;obtain ⟨l, hl, rfl⟩ := hx;obtain ⟨y, h1, h2⟩ := zC8 h hl w;refine ⟨y, ?_, h2⟩;simp only [Instr.field, Sem.run_bind, run_underlying ht, Result.andThen_ok, hf, asAgg, Sem.run_pure, h1]
  ·cases h
 ·cases h
theorem zDE {t : TypeId} {x i v : AV} (h : zCx P t x i = some v) {μ : Mu} {c j : Value} (hx : VR μ x c) (hi : VR μ i j) (w : World) : ∃ y, (Instr.indexAt t c j).run P w = .ok y w ∧ VR μ v y := by
 unfold zCx at h;split at h
 ·rename_i k n;cases hi;split at h
  ·rename_i len e id off ht;split at h
   ·rename_i m hm;split at h
    ·rename_i hb;cases h;obtain ⟨l, hl, rfl⟩ := hx;refine ⟨_, ?_, l, hl, rfl⟩;simp only [Instr.indexAt, asIntOf, Sem.run_bind, Sem.run_pure, run_underlying ht, Result.andThen_ok, Instr.sureAddr, if_pos hb, zAt hm, Sem.run_ite, zBp];simp only [Nat.add_assoc]
    ·cases h
   ·cases h
  ·rename_i e id off len cap ht;split at h
   ·rename_i m hm;split at h
    ·rename_i hb;cases h;obtain ⟨l, hl, hc⟩ := hx;have : ∃ q, c = .slice (some ⟨l.b, l.s + off, none⟩) len q := by
      cases cap with
      | known q => exact ⟨_, hc⟩
      | unk k =>
       rcases hc with ⟨_, _, _, _, hc | ⟨h0, _⟩⟩
       ·exact ⟨_, hc⟩
       ·omega
     obtain ⟨q, rfl⟩ := this;refine ⟨_, ?_, l, hl, rfl⟩;simp only [Instr.indexAt, asIntOf, Sem.run_bind, Sem.run_pure, run_underlying ht, Result.andThen_ok, if_pos hb, zAt hm, Sem.run_ite, zBp];simp only [Nat.add_assoc]
    ·cases h
   ·cases h
  ·cases h
 ·cases h
theorem zH1 {t : TypeId} {x i v : AV} (h : zJK P t x i = some v) {μ : Mu} {c j : Value} (hx : VR μ x c) (hi : VR μ i j) (w : World) : ∃ y, (Instr.index t c j).run P w = .ok y w ∧ VR μ v y := by
 unfold zJK at h;split at h
 ·rename_i k n;cases hi;split at h
  ·rename_i len e cs ht;split at h
   ·rename_i m hm;split at h
    ·rename_i hb;obtain ⟨l, hl, rfl⟩ := hx;obtain ⟨y, h1, h2⟩ := zC8 h hl w;refine ⟨y, ?_, h2⟩;simp only [Instr.index, asIntOf, Sem.run_bind, Sem.run_pure, run_underlying ht, Result.andThen_ok, if_pos hb, zAt hm, Sem.run_ite, h1]
    ·cases h
   ·cases h
  ·rename_i s ht;split at h
   ·rename_i h0;split at h
    ·rename_i b hb;cases h; cases hx;refine ⟨_, ?_, rfl⟩;have hg : (⟨s.toArray⟩ : ByteArray)[n.toNat]? = some b := by
      have hlt : n.toNat < s.length := (List.getElem?_eq_some_iff.1 hb).1;have : (⟨s.toArray⟩ : ByteArray)[n.toNat]? = some ((⟨s.toArray⟩ : ByteArray)[n.toNat]'hlt) := getElem?_pos _ _ _;rw [this];congr 1;have := (List.getElem?_eq_some_iff.1 hb).2;exact this
     simp only [Instr.index, asIntOf, Sem.run_bind, Sem.run_pure, run_underlying ht, Result.andThen_ok, if_pos h0, hg]
    ·cases h
   ·cases h
  ·cases h
 ·cases h
def VO (μ : Mu) : Option AV → Option Value → Prop
 | none, none => True
 | some v, some c => VR μ v c
 | _, _ => False
theorem zOD {x : AV} {y n : Nat} (h : zAC (some x) y 0 = some n) {μ : Mu} {c : Value} (hx : VR μ x c) (code : BoundsCode) (w : World) : (Instr.sliceBound c y code).run P w = .ok n w ∧ n ≤ y := by
 unfold zAC at h;split at h
 ·rename_i heq; cases heq
 ·rename_i k i heq;cases heq;split at h
  ·rename_i hb;cases h; cases hx;refine ⟨by simp only [Instr.sliceBound, asIntOf, Sem.run_bind, Sem.run_pure, Result.andThen_ok, Sem.run_ite, if_pos hb], by omega⟩
  ·cases h
 ·cases h
theorem zT9 {lo hi : Option AV} {clo chi : Option Value} {μ : Mu} (hlo : VO μ lo clo) (hhi : VO μ hi chi) (isS : Bool) {len cap y h l : Nat} (hh : zAC hi y len = some h) (hy : y ≤ cap) (hl : zAC lo h 0 = some l) (w : World) :
  (Instr.sliceBounds isS len cap clo chi none).run P w = .ok (l, h, cap) w ∧ l ≤ h ∨ (hi = none ∧ h = len ∧ (Instr.sliceBounds isS len cap clo chi none).run P w = .ok (l, h, cap) w) := by
 have key : ∀ (hr : (match chi with | some v => Instr.sliceBound v cap (if isS then .sliceAcap else .sliceAlen) | none => pure len : Sem Nat).run P w = .ok h w),
   (Instr.sliceBounds isS len cap clo chi none).run P w = .ok (l, h, cap) w := fun hr => by
  have hlr : (match clo with | some v => Instr.sliceBound v h .sliceB | none => pure 0 : Sem Nat).run P w = .ok l w := by
   cases lo with
   | none =>
    cases clo with
    | none => simp [zAC] at hl; subst hl; rfl
    | some _ => exact hlo.elim
   | some v =>
    cases clo with
    | none => exact hlo.elim
    | some c => exact (zOD hl hlo _ w).1
  unfold Instr.sliceBounds;cases chi with
  | none =>
   simp only [Sem.run_bind, Sem.run_pure, Result.andThen_ok];simp at hr; subst hr;cases clo with
   | none => simp at hlr ⊢; exact hlr
   | some c => simp at hlr ⊢; rw [hlr]; rfl
  | some v =>
   simp only [Sem.run_bind, Sem.run_pure, Result.andThen_ok];simp only at hr;rw [hr];simp only [Result.andThen_ok];cases clo with
   | none => simp at hlr ⊢; exact hlr
   | some c => simp at hlr ⊢; rw [hlr]; rfl
 have hle : l ≤ h := by
  cases lo with
  | none => simp [zAC] at hl; omega
  | some v =>
   cases clo with
   | none => exact hlo.elim
   | some c => exact (zOD (P := P) hl hlo .sliceB w).2
 refine .inl ⟨key ?_, hle⟩;cases hi with
 | none =>
  cases chi with
  | none => simp [zAC] at hh; subst hh; rfl
  | some _ => exact hhi.elim
 | some v =>
  cases chi with
  | none => exact hhi.elim
  | some c =>
   unfold zAC at hh;split at hh
   ·rename_i heq; cases heq
   ·rename_i k i heq;cases heq;split at hh
    ·rename_i hb;cases hh; cases hhi;have hb' : 0 ≤ i ∧ i ≤ (cap : Int) := ⟨hb.1, by omega⟩
     simp only [Instr.sliceBound, asIntOf, Sem.run_bind, Sem.run_pure, Result.andThen_ok, Sem.run_ite, if_pos hb']
    ·cases hh
   ·cases hh
theorem zAV {lo hi : Option AV} {clo chi : Option Value} {μ : Mu} (hlo : VO μ lo clo) (hhi : VO μ hi chi) (isS : Bool) {len cap y h l : Nat} (hh : zAC hi y len = some h) (hy : y ≤ cap) (hl : zAC lo h 0 = some l) (w : World) :
  (Instr.sliceBounds isS len cap clo chi none).run P w = .ok (l, h, cap) w := by
 rcases zT9 (P := P) hlo hhi isS hh hy hl w with h1 | h1
 ·exact h1.1
 ·exact h1.2.2
theorem xBh {lo : Option AV} {clo : Option Value} {μ : Mu} (hlo : VO μ lo clo) {h l : Nat} (hl : zAC lo h 0 = some l) : l ≤ h := by
 cases lo with
 | none => simp [zAC] at hl; omega
 | some v =>
  unfold zAC at hl;split at hl
  ·rename_i heq; cases heq
  ·split at hl
   ·cases hl; omega
   ·cases hl
  ·cases hl
theorem zWV {hi : Option AV} {y len h : Nat} (hh : zAC hi y len = some h) : h ≤ y ∨ (hi = none ∧ h = len) := by
 unfold zAC at hh;split at hh
 ·cases hh; exact .inr ⟨rfl, rfl⟩
 ·split at hh
  ·cases hh; exact .inl (by omega)
  ·cases hh
 ·cases hh
theorem zGQ (s : List UInt8) (l h : Nat) : (⟨s.toArray⟩ : ByteArray).extract l h = ⟨((s.drop l).take (h - l)).toArray⟩ := by
 apply ByteArray.ext; simp
theorem zS8 {t : TypeId} {x v : AV} {lo hi : Option AV} {H : Heap} (h : zUd P t x lo hi H = some v) {μ : Mu} {w : World} (r : Rep μ H.get w) {c : Value} {clo chi : Option Value} (hx : VR μ x c) (hlo : VO μ lo clo) (hhi : VO μ hi chi) :
  ∃ y, (Instr.sliceAt t c clo chi none).run P w = .ok y w ∧ VR μ v y := by
 unfold zUd at h;split at h
 ·rename_i s ht;split at h
  ·rename_i h' hh;split at h
   ·rename_i l hl;cases h; cases hx;refine ⟨_, ?_, rfl⟩;have hb := zAV (P := P) hlo hhi false hh (Nat.le_refl _) hl w;simp only [Instr.sliceAt, Sem.run_bind, run_underlying ht, Result.andThen_ok, Instr.slice];have e2 : (⟨s.toArray⟩ : ByteArray).size = s.length := rfl;simp only [Option.isSome_none, Bool.false_eq_true, if_false, e2, Sem.run_bind, Sem.run_pure, Result.andThen_ok, hb, zGQ]
   ·cases h
  ·cases h
 ·rename_i e ht;split at h
  ·rename_i z h' hz hh;split at h
   ·rename_i l hl;cases h; cases hx;have h0 : h' = 0 := by
     rcases zWV hh with h1 | ⟨_, h1⟩ <;> omega
    subst h0;have l0 : l = 0 := by have := xBh hlo hl; omega
    subst l0;have hb := zAV (P := P) hlo hhi true hh (Nat.le_refl _) hl w;exact ⟨_, by simp only [Instr.sliceAt, Sem.run_bind, run_underlying ht, Result.andThen_ok, Instr.slice, hb, zAt hz, Sem.run_pure]; rfl, rfl⟩
   ·cases h
  ·cases h
 ·rename_i e id off len cp ht;split at h
  ·rename_i k hk;split at h
   ·rename_i h' hh;split at h
    ·rename_i l hl;cases h;obtain ⟨L, hL, rfl⟩ := hx;have hb : (Instr.sliceBounds true len cp clo chi none).run P w = .ok (l, h', cp) w := zAV (P := P) hlo hhi true hh (Nat.le_refl _) hl w;refine ⟨_, ?_, L, hL, rfl⟩;simp only [Instr.sliceAt, Sem.run_bind, run_underlying ht, Result.andThen_ok, Instr.slice, hb, zAt hk, Sem.run_pure];by_cases hcl : cp = l
     ·simp only [if_pos hcl]
     ·simp only [if_neg hcl, Option.map_some, zBp, Nat.add_assoc]
    ·cases h
   ·cases h
  ·cases h
 ·rename_i e id off len k ht;split at h
  ·rename_i vs own lf hg;split at h
   ·rename_i hk;obtain ⟨hk, hk0⟩ := hk;split at h
    ·rename_i h' hh;split at h
     ·rename_i l hl;cases h;obtain ⟨L, hL, q1, q2, q3, q4, q5⟩ := hx;obtain ⟨L', c0, e0, lo0, hi0, ⟨h1, hz⟩, h2, h3, h4, h5, h6, h7⟩ := zDA r hg;rw [hL] at h1; cases h1;rw [q2] at h4 h5;have hlow := xBh hlo hl;obtain ⟨o, rfl⟩ : ∃ o, off = o * k := ⟨off / k, by rw [Nat.div_mul_cancel (Nat.dvd_of_mod_eq_zero q3)]⟩
      have hdo : o * k / k = o := Nat.mul_div_cancel _ q1;rw [hdo] at q5;have hy : (vs.length - o * k) / k ≤ L.cap - o := by
       rw [h3]
       calc (L.ext - o * k) / k ≤ (L.cap * k - o * k) / k := Nat.div_le_div_right (by omega)
        _ = L.cap - o := by rw [← Nat.sub_mul, Nat.mul_div_cancel _ q1]
      have hh' : h' ≤ (vs.length - o * k) / k := by
       rcases zWV hh with h8 | ⟨_, h8⟩
       ·exact h8
       ·rw [h8, Nat.le_div_iff_mul_le q1]; omega
      have hh2 : h' * k ≤ vs.length - o * k := by
       have := Nat.mul_le_mul_right k hh';exact Nat.le_trans this (Nat.div_mul_le_self _ _)
      have hlk : l * k ≤ h' * k := Nat.mul_le_mul_right k hlow;have hsub : (h' - l) * k = h' * k - l * k := Nat.sub_mul _ _ _;have g1 : (o * k + l * k) % k = 0 := by rw [← Nat.add_mul]; exact Nat.mul_mod_left _ _
      have g2 : (o * k + l * k) / k = o + l := by rw [← Nat.add_mul, Nat.mul_div_cancel _ q1]
      have g3 : o * k + l * k + (h' - l) * k ≤ L.ext := by
       rcases Nat.eq_zero_or_pos h' with h0 | h0
       ·subst h0;have l0 : l = 0 := by omega
        subst l0
        simp; omega
       ·have : k ≤ h' * k := Nat.le_mul_of_pos_left k h0;omega
      rcases q5 with rfl | ⟨q5, q6, o', rfl⟩
      ·have hb : (Instr.sliceBounds true len (L.cap - o) clo chi none).run P w = .ok (l, h', L.cap - o) w := zAV (P := P) hlo hhi true hh hy hl w;have hrun : (Instr.sliceAt t (.slice (some ⟨L.b, L.s + o * k, none⟩) len (L.cap - o)) clo chi none).run P w =
         .ok (.slice (if L.cap - o = l then some ⟨L.b, L.s + o * k, none⟩ else some ⟨L.b, L.s + o * k + l * k, none⟩) (h' - l) (L.cap - o - l)) w := by
        simp only [Instr.sliceAt, Sem.run_bind, run_underlying ht, Result.andThen_ok, Instr.slice, hb, zAt hk, Sem.run_pure, Option.map_some, zBp]
       refine ⟨_, hrun, L, hL, q1, q2, g1, g3, ?_⟩;by_cases hcl : L.cap - o = l
       ·right;have hhl : h' - l = 0 := by omega
        refine ⟨hhl, ?_, L.s + o * k, ?_⟩
        ·have : L.ext ≤ L.cap * k := h4;have h9 : L.cap * k ≤ o * k + l * k := by
          rw [← Nat.add_mul]; exact Nat.mul_le_mul_right k (by omega)
         omega
        ·rw [if_pos hcl, hhl]; congr 1; omega
       ·left;rw [if_neg hcl, g2];simp only [Nat.add_assoc];congr 1; omega
      ·subst q5;have h0 : h' = 0 := by
        have : vs.length - o * k = 0 := by omega
        rw [this] at hh'; simpa using hh'
       subst h0;have l0 : l = 0 := by omega
       subst l0;have hh0 : zAC hi 0 0 = some 0 := by
        have : (vs.length - o * k) / k = 0 := by
         have : vs.length - o * k = 0 := by omega
         rw [this]; simp
        rw [this] at hh; exact hh
       have hb : (Instr.sliceBounds true 0 0 clo chi none).run P w = .ok (0, 0, 0) w := zAV (P := P) hlo hhi true hh0 (Nat.le_refl _) hl w;refine ⟨_, by simp only [Instr.sliceAt, Sem.run_bind, run_underlying ht, Result.andThen_ok, Instr.slice, hb, zAt hk, Sem.run_pure]; rfl, L, hL, q1, q2, g1, g3, .inr ⟨rfl, by omega, o', rfl⟩⟩
     ·cases h
    ·cases h
   ·cases h
  ·cases h
 ·rename_i n e id off ht;split at h
  ·rename_i k hk;split at h
   ·rename_i h' hh;split at h
    ·rename_i l hl;cases h;obtain ⟨L, hL, rfl⟩ := hx;have hb : (Instr.sliceBounds false n n clo chi none).run P w = .ok (l, h', n) w := zAV (P := P) hlo hhi false hh (Nat.le_refl _) hl w;refine ⟨_, ?_, L, hL, rfl⟩;simp only [Instr.sliceAt, Sem.run_bind, run_underlying ht, Result.andThen_ok, Instr.sureAddr, hb, zAt hk, Sem.run_pure];by_cases hcl : n = l
     ·simp only [if_pos hcl]
     ·simp only [if_neg hcl, zBp, Nat.add_assoc]
    ·cases h
   ·cases h
  ·cases h
 ·cases h
end
end Go.Proofs.YtenkabjkgngcdaaGreat.Ab
namespace Go.Proofs.YtenkabjkgngcdaaGreat.Ab
open Go
variable [Rho]
section
variable {P : Program}
theorem foldl_set (off : Nat) : ∀ (l : List Value) (n : Nat) (cs : Array Value), off + n + l.length ≤ cs.size →
  ((l.zipIdx n).foldl (fun cs (x : Value × Nat) => cs.setIfInBounds (off + x.2) x.1) cs).size = cs.size ∧
  ∀ i : Nat, ((l.zipIdx n).foldl (fun cs (x : Value × Nat) => cs.setIfInBounds (off + x.2) x.1) cs)[i]? = if off + n ≤ i ∧ i < off + n + l.length then l[i - (off + n)]? else cs[i]?
 | [], n, cs, _ => by
  refine ⟨rfl, fun i => ?_⟩;rw [if_neg (by simp)]; rfl
 | v :: l, n, cs, h => by
  simp only [List.length_cons] at h;simp only [List.zipIdx_cons, List.foldl_cons];obtain ⟨h1, h2⟩ := foldl_set off l (n + 1) (cs.setIfInBounds (off + n) v) (by rw [Array.size_setIfInBounds]; omega)
  refine ⟨by rw [h1]; simp, fun i => ?_⟩
  rw [h2 i];have hsz : (cs.setIfInBounds (off + n) v).size = cs.size := by simp
  rcases Nat.lt_trichotomy i (off + n) with h3 | h3 | h3
  ·rw [if_neg (by omega), if_neg (by omega), Array.getElem?_setIfInBounds_ne (by omega)]
  ·subst h3;rw [if_neg (by omega), if_pos (by simp)]
   rw [Array.getElem?_setIfInBounds]
   simp; omega
  ·by_cases h4 : i < off + n + 1 + l.length
   ·rw [if_pos (by omega), if_pos (by simp; omega)]
    obtain ⟨j, rfl⟩ : ∃ j, i = off + n + 1 + j := ⟨i - (off + n + 1), by omega⟩
    have e4 : off + n + 1 + j - (off + (n + 1)) = j := by omega
    have e5 : off + n + 1 + j - (off + n) = j + 1 := by omega
    rw [e4, e5, List.getElem?_cons_succ]
   ·rw [if_neg (by omega), if_neg (by simp; omega), Array.getElem?_setIfInBounds_ne (by omega)]
theorem VRs.putAt {μ : Mu} {vs new l : List AV} {off : Nat} (h : putAt vs off new = some l) {cs cn : List Value} (h1 : VRs μ vs cs) (h2 : VRs μ new cn) {cl : List Value} (hs : cl.length = cs.length)
  (hg : ∀ i : Nat, cl[i]? = if off ≤ i ∧ i < off + cn.length then cn[i - off]? else cs[i]?) : VRs μ l cl := by
 refine VRs.of_get (by rw [hs, h1.length, zNK h]) fun i x y hx hy => ?_
 rw [zNL h] at hx;rw [hg i, h2.length] at hy;split at hx
 ·rename_i hi;rw [if_pos hi] at hy;obtain ⟨z, hz, hv⟩ := h2.get _ x hx;rw [hz] at hy; cases hy; exact hv
 ·rename_i hi;rw [if_neg hi] at hy;obtain ⟨z, hz, hv⟩ := h1.get _ x hx;rw [hz] at hy; cases hy; exact hv
def PR (μ : Mu) : List (Nat × AV) → List (Nat × Value) → Prop
 | [], l => l = []
 | p :: l, m => ∃ c r, VR μ p.2 c ∧ PR μ l r ∧ m = (p.1, c) :: r
theorem zGO {μ : Mu} {place place' : Nat → Option (Nat × Nat)} (hp : ∀ i x, place i = some x → place' i = some x) : ∀ (parts : List (Nat × AV)) (cells : List AV) (out : List AV), zPI place cells parts = some out →
  ∀ (cp : List (Nat × Value)) (cc : Array Value), PR μ parts cp → VRs μ cells cc.toList → ∃ o, Instr.fill place' cc cp = some o ∧ VRs μ out o.toList
 | [], cells, out, h, cp, cc, hr, hc => by
  simp [zPI] at h; subst h;cases hr;exact ⟨cc, rfl, hc⟩
 | (i, v) :: rest, cells, out, h, cp, cc, hr, hc => by
  obtain ⟨c, r, h1, h2, rfl⟩ := hr;simp only [zPI] at h;split at h
  ·cases h
  ·rename_i off size hpl;split at h
   ·cases h
   ·rename_i hsz;split at h
    ·rename_i cells' hput;have hcl := h1.cells.length;have hcc := hc.length;obtain ⟨_, hlen⟩ := zGD _ _ _ _ hput;simp at hcl hcc hsz;have hcond : (c.cells.size ≠ size || decide (off + c.cells.size > cc.size)) = false := by
      simp; omega
     have hf := foldl_set off c.cells.toList 0 cc (by simp; omega)
     have hfe : c.cells.zipIdx.foldl (fun cs (x : Value × Nat) => cs.setIfInBounds (off + x.2) x.1) cc = (c.cells.toList.zipIdx 0).foldl (fun cs (x : Value × Nat) => cs.setIfInBounds (off + x.2) x.1) cc := by
      rw [← Array.foldl_toList, Array.toList_zipIdx]
     rw [← hfe] at hf;have hnew := hc.putAt hput h1.cells (cl := (c.cells.zipIdx.foldl (fun cs (x : Value × Nat) => cs.setIfInBounds (off + x.2) x.1) cc).toList) (by simpa using hf.1) (fun i => by simpa using hf.2 i)
     obtain ⟨o, ho, hv⟩ := zGO hp rest cells' out h r _ h2 hnew;refine ⟨o, ?_, hv⟩;simp only [Instr.fill, hp i _ hpl];rw [if_neg (by simpa using hcond)]
     exact ho
    ·cases h
theorem zJ1 : ∀ (fs : List Field) (l : List (Nat × Nat)), zJ2 P fs = some l → ∀ w : World, (fs.mapM (fun f => do pure (f.offset, ← sizeOf f.type) : Field → Sem (Nat × Nat))).run P w = .ok l w
 | [], l, h, w => by simp [zJ2] at h; subst h; rfl
 | f :: fs, l, h, w => by
  simp only [zJ2] at h;split at h
  ·rename_i n r hn hr;cases h;simp only [List.mapM_cons, Sem.run_bind, zAt hn, Result.andThen_ok, Sem.run_pure, zJ1 fs r hr w]
  ·cases h
theorem zFZ {t : TypeId} {z : List AV} (h : zBJ P t = some z) (μ : Mu) (w : World) : ∃ v, (zeroValue t).run P w = .ok v w ∧ VRs μ z v.cells.toList := by
 unfold zBJ at h;split at h
 ·rename_i v hv;cases h;obtain ⟨c, h1, h2⟩ := zE5 hv w;exact ⟨c, h1, (zJ8 μ c v h2).cells⟩
 ·cases h
theorem zF1 {t : TypeId} {z : List AV} (h : zBJ P t = some z) (μ : Mu) : ∃ v, (∀ w, (zeroValue t).run P w = .ok v w) ∧ VRs μ z v.cells.toList := by
 unfold zBJ at h;split at h
 ·rename_i v hv;cases h;obtain ⟨c, h1, h2⟩ := zSu hv;exact ⟨c, h1, (zJ8 μ c v h2).cells⟩
 ·cases h
theorem PR.mk {μ : Mu} {fr : FR} {a : Act} (hf : FRel μ fr a.tmps) : ∀ {l : List (Nat × Operand)} {v : List (Nat × AV)}, zTv fr l = some v → PR μ v (l.map fun p => (p.1, a.eval p.2))
 | [], v, h => by simp [zTv] at h; subst h; rfl
 | (i, x) :: l, v, h => by
  simp only [zTv] at h;split at h
  ·rename_i y r h1 h2;cases h;exact ⟨_, _, zAg hf h1, PR.mk hf h2, rfl⟩
  ·cases h
theorem zT8 {t : TypeId} {parts : List (Nat × AV)} {v : AV} (h : zYa P t parts = some v) {μ : Mu} {cp : Array (Nat × Value)} (hp : PR μ parts cp.toList) (w : World) :
  ∃ c, (Instr.build t cp).run P w = .ok c w ∧ VR μ v c := by
 unfold zYa at h;split at h
 ·cases h
 ·rename_i zero hz;obtain ⟨z, h1, h2⟩ := zFZ hz μ w;split at h
  ·rename_i fs ht;split at h
   ·rename_i pl hpl;split at h
    ·rename_i c hc;cases h;obtain ⟨o, ho, hv⟩ := zGO (place' := fun i => pl.toArray[i]?) (fun i x hx => by simpa using hx) parts zero c hc cp.toList z.cells hp h2
     refine ⟨.agg o, ?_, o.toList, hv, by simp⟩
     have hm : (fs.mapM (fun f => do pure (f.offset, ← sizeOf f.type) : Field → Sem (Nat × Nat))).run P w = .ok pl.toArray w := by
      rw [Array.mapM_eq_mapM_toList, Sem.run_map, zJ1 _ _ hpl];rfl
     simp only [Instr.build, Sem.run_bind, h1, Result.andThen_ok, run_underlying ht, hm, ho, Sem.run_pure]
    ·cases h
   ·cases h
  ·rename_i n e ht;split at h
   ·rename_i k hk;split at h
    ·rename_i c hc;cases h;obtain ⟨o, ho, hv⟩ := zGO (place' := fun i => some (i * k, k)) (fun i x hx => hx) parts zero c hc cp.toList z.cells hp h2;refine ⟨.agg o, ?_, o.toList, hv, by simp⟩
     simp only [Instr.build, Sem.run_bind, h1, Result.andThen_ok, run_underlying ht, zAt hk, ho, Sem.run_pure]
    ·cases h
   ·cases h
  ·cases h
theorem zQH {μ : Mu} {z : List AV} {c : List Value} (h : VRs μ z c) : ∀ n, VRs μ (xHs n z) (List.flatten (List.replicate n c))
 | 0 => rfl
 | n + 1 => by simpa [xHs, List.replicate_succ] using h.append (zQH h n)
theorem zEU (c : List Value) (hc : 0 < c.length) : ∀ (n i : Nat), i < n * c.length → (List.flatten (List.replicate n c))[i]? = c[i % c.length]?
 | 0, i, h => by simp at h
 | n + 1, i, h => by
  rw [List.replicate_succ, List.flatten_cons];by_cases h1 : i < c.length
  ·rw [List.getElem?_append_left h1, Nat.mod_eq_of_lt h1]
  ·rw [List.getElem?_append_right (by omega), zEU c hc n (i - c.length) (by rw [Nat.succ_mul] at h; omega)]
   congr 1;rw [← Nat.mod_eq_sub_mod (by omega)]
theorem zMm (z : Array Value) (k n : Nat) (hk : z.size = k) (h0 : 0 < k) : ((Array.range (n * k)).map (fun i => z[i % z.size]!)).toList = List.flatten (List.replicate n z.toList) := by
 apply List.ext_getElem?;intro i;have hl : (List.flatten (List.replicate n z.toList)).length = n * k := by simp [hk]
 by_cases h : i < n * k
 ·have hm : i % z.size < z.size := Nat.mod_lt _ (by omega)
  rw [zEU z.toList (by simp; omega) n i (by simpa [hk] using h)]
  simp [h, hm]
 ·rw [List.getElem?_eq_none (by simp; omega), List.getElem?_eq_none (by omega)]
theorem zFc {e : TypeId} {n : Nat} {z : List AV} (h : zKs P e n = some z) (μ : Mu) (w : World) : ∃ v k, (zeroValue e).run P w = .ok v w ∧ zFv P e = some k ∧ v.cells.size = k ∧ 0 < k ∧ VRs μ z (List.flatten (List.replicate n v.cells.toList)) := by
 unfold zKs at h;split at h
 ·rename_i zc k hz hk;split at h
  ·rename_i hc;cases h;obtain ⟨v, h1, h2⟩ := zFZ hz μ w;have := h2.length;simp at this;exact ⟨v, k, h1, hk, by omega, hc.2, zQH h2 n⟩
  ·cases h
 ·cases h
theorem zKf {t : TypeId} {len : Nat} {parts : List (Nat × AV)} {v : AV} {H H' : Heap} (h : zC3 P t len parts H = some (v, H')) {μ : Mu} {w : World} (r : Rep μ H.get w) (d : Dom μ H.next) {cp : Array (Nat × Value)} (hp : PR μ parts cp.toList) :
  ∃ μ' c w', (Instr.buildSlice t len cp).run P w = .ok c w' ∧ VR μ' v c ∧ Evo μ H.get H.next w μ' H'.get H'.next w' := by
 unfold zC3 at h;split at h
 ·rename_i e ht;split at h
  ·rename_i k z hk hz;split at h
   ·rename_i hsmall;split at h
    ·rename_i c hc;split at h
     ·rename_i ha;cases h;obtain ⟨zv, k', h1, h2, h3, h4, h5⟩ := zFc hz μ w;rw [hk] at h2; cases h2;rw [← zMm zv.cells k len h3 h4] at h5;obtain ⟨o, ho, hv⟩ := zGO (place' := fun i => some (i * k, k)) (fun i x hx => hx) parts z c hc cp.toList _ hp h5;have he := zJB r d hv ha e (flats c);refine ⟨_, .slice (some ⟨w.heap.size, 0, none⟩) len len, _, ?_, ⟨⟨w.heap.size, 0, c.length, 1, c.length, false⟩, by simp [setMu], rfl⟩, he⟩
      have hn : ¬ len * k > 2 ^ 24 := by omega
      simp only [Instr.buildSlice, Sem.run_bind, run_underlying ht, Result.andThen_ok, zAt hk, if_neg hn];by_cases h0 : len * k = 0
      ·have hl0 : len = 0 := by
        rcases Nat.mul_eq_zero.1 h0 with h | h
        ·exact h
        ·omega
       subst hl0;simp only [Nat.zero_mul, if_true, Sem.run_pure, Result.andThen_ok];have e0 : (Array.map (fun i => zv.cells[i % zv.cells.size]!) (Array.range (0 * k))) = #[] := by simp
       rw [e0] at ho;have e1 : ∀ g : Nat → Value, Array.map g (Array.range 0) = #[] := fun g => Array.eq_empty_of_size_eq_zero (by simp)
       simp [ho, newRow, e1]
      ·simp only [if_neg h0, Sem.run_bind, h1, Result.andThen_ok, Sem.run_pure, ho];simp [newRow]
     ·cases h
    ·cases h
   ·cases h
  ·cases h
 ·cases h
end
end Go.Proofs.YtenkabjkgngcdaaGreat.Ab
namespace Go.Proofs.YtenkabjkgngcdaaGreat.Ab
open Go
variable [Rho]
section
variable {P : Program}
theorem zRv {μ : Mu} : ∀ (l : List AV) (s : List UInt8), xFH l = some s → ∀ c, VRs μ l c → ∃ ns : List Int, c = ns.map (Value.int .u8) ∧ s = ns.map fun n => UInt8.ofNat n.toNat
 | [], s, h, c, hc => by simp [xFH] at h; subst h; cases hc; exact ⟨[], rfl, rfl⟩
 | v :: l, s, h, c, hc => by
  unfold xFH at h;split at h
  ·rename_i heq; cases heq
  ·rename_i n l' heq;cases heq;split at h
   ·rename_i r hr;cases h;obtain ⟨x, cr, h1, h2, rfl⟩ := hc;cases h1;obtain ⟨ns, rfl, h4⟩ := zRv l r hr cr h2;exact ⟨n :: ns, rfl, by simp [h4]⟩
   ·cases h
  ·cases h
theorem zFl : ∀ (ns : List Int) (s : ByteArray), ns.foldl (fun (r : ByteArray) n => r.push (UInt8.ofNat n.toNat)) s = ⟨(s.data.toList ++ ns.map fun n => UInt8.ofNat n.toNat).toArray⟩
 | [], s => by simp
 | n :: ns, s => by
  rw [List.foldl_cons, zFl ns];congr 1;simp [ByteArray.push]
theorem zSX (μ : Mu) (s : List UInt8) : VRs μ (zF7 s) (s.map fun b => Value.int .u8 (b.toNat : Int)) :=
 VRs.of_get (by simp [zF7]) fun i x y hx hy => by
  simp only [zF7, List.getElem?_map] at hx hy;cases hs : s[i]? with
  | none => simp [hs] at hx
  | some b => simp [hs] at hx hy; subst hx; subst hy; rfl
theorem VR.slice_at {μ : Mu} {id off len : Nat} {cap : Cap} {c : Value} (h : VR μ (.slice id off len cap) c) {l : Loc} (hl : μ id = some l) (h0 : len ≠ 0) : ∃ q, c = .slice (some ⟨l.b, l.s + off, none⟩) len q := by
 obtain ⟨L, hL, hc⟩ := h;rw [hl] at hL; cases hL;cases cap with
 | known q => exact ⟨_, hc⟩
 | unk k =>
  rcases hc with ⟨_, _, _, _, hc | ⟨h1, _⟩⟩
  ·exact ⟨_, hc⟩
  ·exact absurd h1 h0
theorem VR.slice_zero {μ : Mu} {id off : Nat} {cap : Cap} {c : Value} (h : VR μ (.slice id off 0 cap) c) : ∃ a q, c = .slice (some a) 0 q := by
 obtain ⟨L, hL, hc⟩ := h;cases cap with
 | known q => exact ⟨_, _, hc⟩
 | unk k =>
  rcases hc with ⟨_, _, _, _, hc | ⟨_, _, o, hc⟩⟩
  ·exact ⟨_, _, hc⟩
  ·exact ⟨_, _, hc⟩
theorem zBu (a : Addr) (w : World) : (loadCells a 0).run P w = .ok #[] w := rfl
theorem zLD {k n : Nat} {x : AV} {H : Heap} {xs : List AV} (h : xCm k x n H = some xs) (hk : 0 < k) {μ : Mu} {w : World} (r : Rep μ H.get w) {c : Value} (hx : VR μ x c) {m : Nat} (hm : zYn x = some m) (hn : n ≤ m) :
  ∃ cs : List Value, (∀ w' : World, w'.heap = w.heap → (Builtin.firstCells k n c).run P w' = .ok cs.toArray w') ∧ VRs μ xs cs := by
 unfold xCm at h;split at h
 ·cases h; cases hx;exact ⟨[], fun w' _ => by simp [Builtin.firstCells], rfl⟩
 ·rename_i id off len cap;split at h
  ·rename_i vs own lf hg;obtain ⟨l, c0, e, lo, hi, ⟨h1, hz⟩, h2, h3, h4, h5, h6, h7⟩ := zDA r hg;obtain ⟨cs, k1, k2, k3, _⟩ := zED h7 h;simp [zYn] at hm; subst hm;by_cases h0 : len = 0
   ·subst h0;have n0 : n = 0 := by omega
    subst n0;obtain ⟨a, q, rfl⟩ := hx.slice_zero;have : cs = [] := List.eq_nil_of_length_eq_zero (by simpa using k2)
    subst this;exact ⟨[], fun w' _ => by simp [Builtin.firstCells, zBu], k1⟩
   ·obtain ⟨q, rfl⟩ := hx.slice_at h1 h0;refine ⟨cs, fun w' ew => ?_, k1⟩;simp only [Builtin.firstCells];exact run_loadCells l.b (l.s + off) (n * k) cs k2 (fun j y hj => by rw [zBU (w := w') (by rw [ew]; exact h2)]; exact k3 j y hj)
  ·cases h
 ·rename_i s;split at h
  ·cases h; cases hx;refine ⟨(s.take n).map fun b => Value.int .u8 (b.toNat : Int), fun w' _ => ?_, zSX μ _⟩;simp only [Builtin.firstCells, Sem.run_pure];congr 1;apply Array.ext';simp
  ·cases h
 ·cases h
theorem zMs {x : AV} {m : Nat} (h : zYn x = some m) {μ : Mu} {c : Value} (hx : VR μ x c) (w : World) : (Builtin.lenOf c).run P w = .ok m w := by
 unfold zYn at h;split at h
 ·cases h; cases hx; rfl
 ·rename_i id off n cap;cases h;obtain ⟨L, hL, hc⟩ := hx;cases cap with
  | known q => subst hc; rfl
  | unk k =>
   rcases hc with ⟨_, _, _, _, hc | ⟨h1, _, o, hc⟩⟩
   ·subst hc; rfl
   ·subst hc; subst h1; rfl
 ·cases h; cases hx; rfl
 ·cases h
theorem zX1 (need old : Nat) (e : TypeId) (t : Nat) : need ≤ (Question.appendCap need old e).cut t := Nat.le_add_right _ _
theorem zJC {α : Type} (a : Array α) (x : α) (f : α → α) : (a.push x).modify a.size f = a.push (f x) := by
 apply Array.ext_getElem?;intro i;rw [Array.getElem?_modify, Array.getElem?_push, Array.getElem?_push];by_cases h : a.size = i
 ·subst h; simp
 ·rw [if_neg h, if_neg (Ne.symm h), if_neg (Ne.symm h)]
theorem zHe {μ : Mu} {H : Heap} {w : World} (r : Rep μ H.get w) (d : Dom μ H.next) (s : List UInt8) (e : TypeId) :
  ∃ μ' y w', (Conv.stringToBytes e ⟨s.toArray⟩).run P w = .ok y w' ∧ VR μ' (.slice H.next 0 s.length (.unk 1)) y ∧ Evo μ H.get H.next w μ' (H.new (.row (zF7 s) true true)).get (H.new (.row (zF7 s) true true)).next w' := by
 generalize hcap : (Question.appendCap s.length 0 e).cut (w.tape w.drawn (Question.appendCap s.length 0 e)) = cap;have hge : s.length ≤ cap := by rw [← hcap]; exact zX1 _ _ _ _
 let c : Array Value := (s.map fun b => Value.int .u8 (b.toNat : Int)).toArray ++ Array.replicate (cap - s.length) (.int .u8 0)
 have hcs : c.size = cap := by simp [c]; omega
 have hrun : (Conv.stringToBytes e ⟨s.toArray⟩).run P w = .ok (.slice (some ⟨w.heap.size, 0, none⟩) s.length cap) { w with heap := w.heap.push (.cells c e (c.size, c.size + 1)), drawn := w.drawn + 1 } := by
  have e2 : (⟨s.toArray⟩ : ByteArray).size = s.length := rfl;simp only [Conv.stringToBytes, e2, Sem.run_bind, run_choose, Question.forced, Bool.false_eq_true, if_false, Result.andThen_ok, hcap];have e3 : (Array.map (fun (b : UInt8) => Value.int IntKind.u8 (b.toNat : Int)) s.toArray ++ Array.replicate (cap - s.length) (Value.int IntKind.u8 0)) = c := by simp [c]
  simp only [newRow, Sem.run_bind, run_newObj, Result.andThen_ok, Sem.run_pure, markStringish, run_shape];rw [e3];simp [World.shape?, World.freeze, zJC]
 refine ⟨setMu μ H.next ⟨w.heap.size, 0, cap, 1, s.length, false⟩, _, _, hrun, ⟨⟨w.heap.size, 0, cap, 1, s.length, false⟩, by simp [setMu], by simp, rfl, by simp, by simp, .inl (by simp)⟩, ?_⟩
 refine zFP (w' := { w with heap := w.heap.push (.cells c e (c.size, c.size + 1)), drawn := w.drawn + 1 }) r d (obj := .cells c e (c.size, c.size + 1)) ⟨rfl, rfl, rfl, rfl⟩ _ ⟨w.heap.size, 0, cap, 1, s.length, false⟩ rfl fun μ' he hm => ?_
 refine ⟨_, c, e, c.size, c.size + 1, ⟨hm, rfl⟩, by simp, by simp [zF7], by simpa using hge, by simp [hcs], fun _ => .inl (Nat.le_refl _), fun i x hx => ?_⟩
 simp only [zF7, List.getElem?_map] at hx;cases hs : s[i]? with
 | none => simp [hs] at hx
 | some b =>
  simp [hs] at hx; subst hx;have hlt := (List.getElem?_eq_some_iff.1 hs).1;refine ⟨rfl, _, ?_, rfl⟩;simp only [c, Nat.zero_add];rw [Array.getElem?_append_left (by simpa using hlt)]
  simp [hs]
theorem zHd {μ : Mu} {H : Heap} {w : World} (r : Rep μ H.get w) (d : Dom μ H.next) (t : Tm) (e : TypeId) :
  ∃ μ' y w', (Conv.stringToBytes e ⟨t.den.asS.toArray⟩).run P w = .ok y w' ∧ VR μ' (.sslice H.next 1 (.ci 0) (zCP t)) y ∧ Evo μ H.get H.next w μ' (H.new (.bytes t true)).get (H.new (.bytes t true)).next w' := by
 generalize hts : t.den.asS = s;generalize hcap : (Question.appendCap s.length 0 e).cut (w.tape w.drawn (Question.appendCap s.length 0 e)) = cap;have hge : s.length ≤ cap := by rw [← hcap]; exact zX1 _ _ _ _
 let c : Array Value := (s.map fun b => Value.int .u8 (b.toNat : Int)).toArray ++ Array.replicate (cap - s.length) (.int .u8 0)
 have hcs : c.size = cap := by simp [c]; omega
 have hrun : (Conv.stringToBytes e ⟨s.toArray⟩).run P w = .ok (.slice (some ⟨w.heap.size, 0, none⟩) s.length cap) { w with heap := w.heap.push (.cells c e (c.size, c.size + 1)), drawn := w.drawn + 1 } := by
  have e2 : (⟨s.toArray⟩ : ByteArray).size = s.length := rfl;simp only [Conv.stringToBytes, e2, Sem.run_bind, run_choose, Question.forced, Bool.false_eq_true, if_false, Result.andThen_ok, hcap];have e3 : (Array.map (fun (b : UInt8) => Value.int IntKind.u8 (b.toNat : Int)) s.toArray ++ Array.replicate (cap - s.length) (Value.int IntKind.u8 0)) = c := by simp [c]
  simp only [newRow, Sem.run_bind, run_newObj, Result.andThen_ok, Sem.run_pure, markStringish, run_shape];rw [e3];simp [World.shape?, World.freeze, zJC]
 have hlen : (zCP t).den.asI = (s.length : Int) := by rw [zA8, hts]; rfl
 have h0 : (Tm.ci 0).den.asI = 0 := rfl;refine ⟨setMu μ H.next ⟨w.heap.size, 0, cap, 1, s.length, false⟩, _, _, hrun, ⟨⟨w.heap.size, 0, cap, 1, s.length, false⟩, by simp [setMu], rfl, by simp, by rw [h0]; exact Int.le_refl _, by rw [hlen]; omega, ⟨by rw [hlen, h0]; simp, by rw [hlen, h0]; simpa using hge⟩, .inl ⟨rfl, .inl (by rw [hlen, h0]; simp)⟩⟩, ?_⟩
 refine zFP (w' := { w with heap := w.heap.push (.cells c e (c.size, c.size + 1)), drawn := w.drawn + 1 }) r d (obj := .cells c e (c.size, c.size + 1)) ⟨rfl, rfl, rfl, rfl⟩ _ ⟨w.heap.size, 0, cap, 1, s.length, false⟩ rfl fun μ' he hm => ?_
 refine ⟨_, c, e, c.size, c.size + 1, ⟨hm, rfl⟩, by simp, ⟨rfl, by rw [hts]⟩, by simpa using hge, by simp [hcs], fun _ => .inl (Nat.le_refl _), fun i x hx => ?_⟩
 rw [hts] at hx;have hlt := (List.getElem?_eq_some_iff.1 hx).1;simp only [c, Nat.zero_add];rw [Array.getElem?_append_left (by simpa using hlt)]
 simp [hx]
theorem zJ9 {μ : Mu} : ∀ (l : List AV) (t : Tm), zPy l = some t → ∀ (cs : List Value), VRs μ l cs → ∃ ns : List Int, cs = ns.map (Value.int .u8) ∧ t.den.asS = ns.map fun n => UInt8.ofNat n.toNat
 | [], t, h, cs, hc => by simp [zPy] at h; subst h; cases hc; exact ⟨[], rfl, rfl⟩
 | .int .u8 n :: l, t, h, cs, hc => by
  simp only [zPy] at h;split at h
  ·rename_i r hr;cases h;obtain ⟨x, rr, h1, h2, rfl⟩ := hc;cases h1;obtain ⟨ns, rfl, e⟩ := zJ9 l r hr rr h2;refine ⟨n :: ns, rfl, ?_⟩;rw [zGd];show [UInt8.ofNat n.toNat] ++ r.den.asS = _;rw [e]; rfl
  ·cases h
 | .sint .u8 n :: l, t, h, cs, hc => by
  simp only [zPy] at h;split at h
  ·rename_i r hr;cases h;obtain ⟨x, rr, h1, h2, rfl⟩ := hc;cases h1;obtain ⟨ns, rfl, e⟩ := zJ9 l r hr rr h2;refine ⟨n.den.asI :: ns, rfl, ?_⟩;rw [zGd];show [UInt8.ofNat n.den.asI.toNat] ++ r.den.asS = _;rw [e]; rfl
  ·cases h
theorem zQf {μ : Mu} {H : Heap} {w : World} (r : Rep μ H.get w) {id : Nat} {t : Tm} {own : Bool} (hg : H.get id = some (.bytes t own)) {l : Loc} (hl : μ id = some l) {off len : Nat} (hb : off + len ≤ l.ext) :
  (loadCells ⟨l.b, l.s + off, none⟩ len).run P w = .ok ((((t.den.asS.drop off).take len).map fun b => (b.toNat : Int)).map (Value.int .u8)).toArray w ∧ l.k = 1 := by
 obtain ⟨l', c, e, lo, hi, ⟨h1, hz⟩, h2, ⟨h3, h3'⟩, h4, h5, h6, h7⟩ := r.obj _ _ hg;rw [hl] at h1; cases h1;refine ⟨run_loadCells l.b (l.s + off) len _ (by simp; omega) fun j y hj => ?_, h3⟩
 rw [zBU h2];simp only [List.map_map, List.getElem?_map, Option.map_eq_some_iff] at hj;obtain ⟨b, hb', rfl⟩ := hj;rw [List.getElem?_take] at hb';split at hb'
 ·rw [List.getElem?_drop] at hb';have := h7 _ _ hb';rw [← Nat.add_assoc] at this;exact this
 ·cases hb'
theorem zTc (s : List UInt8) : (s.map fun b => (b.toNat : Int)).map (fun n => UInt8.ofNat n.toNat) = s := by
 rw [List.map_map];have : ((fun n : Int => UInt8.ofNat n.toNat) ∘ fun b : UInt8 => (b.toNat : Int)) = id := by funext b; simp
 rw [this, List.map_id]
theorem zY8 {μ : Mu} {H : Heap} {w : World} (r : Rep μ H.get w) {id : Nat} {t : Tm} {own : Bool} (hg : H.get id = some (.seq [.ki .u8] t own)) {l : Loc} (hl : μ id = some l) (hz : l.nil = false) :
  (loadCells ⟨l.b, l.s, none⟩ t.den.asL.length).run P w = .ok ((t.den.asL.map fun r => (r.getD 0 (.dI 0)).asI).map (Value.int .u8)).toArray w := by
 obtain ⟨c, e, lo, hi, h2, ⟨h3, _⟩, _, _, _, h7⟩ := (r.obj _ _ hg).seq_at hl hz;have h3 : l.k = 1 := h3;refine run_loadCells l.b l.s _ _ (by simp) fun j y hj => ?_
 rw [zBU h2];simp only [List.map_map, List.getElem?_map, Option.map_eq_some_iff] at hj;obtain ⟨b, hb', rfl⟩ := hj;obtain ⟨hlt, hb⟩ := List.getElem?_eq_some_iff.1 hb';have := h7 j hlt 0 _ rfl;rw [h3, Nat.mul_one, Nat.add_zero, show t.den.asL.getD j [] = b by rw [List.getD_eq_getElem?_getD, hb']; rfl] at this
 exact this
theorem zUf (o : Addr) (w : World) : (loadCells o 0).run P w = .ok (([] : List Int).map (Value.int .u8)).toArray w := by simp; rfl
theorem zX4 {src dst : TypeId} {x v : AV} {H H' : Heap} (h : zPU P src dst x H = some (v, H')) {μ : Mu} {w : World} (r : Rep μ H.get w) (d : Dom μ H.next) {c : Value} (hx : VR μ x c) :
  ∃ μ' y w', (convert src dst c).run P w = .ok y w' ∧ VR μ' v y ∧ Evo μ H.get H.next w μ' H'.get H'.next w' := by
 unfold zPU at h;split at h
 ·rename_i u k k' n hs hd;cases h; cases hx;exact ⟨μ, _, w, by simp [convert, run_underlying hs, run_underlying hd, Conv.intToInt], rfl, Evo.refl r d⟩
 ·rename_i u k k' n hs hd;cases h; cases hx;refine ⟨μ, .int k (k.wrap n.den.asI), w, ?_, ?_, Evo.refl r d⟩
  ·simp only [convert, Sem.run_bind, run_underlying hs, run_underlying hd, Result.andThen_ok]; rfl
  ·have := zCO μ k (zYq k n);rw [zTF] at this;exact this
 ·rename_i e hs hd;split at h
  ·rename_i he;cases h; cases hx;refine ⟨μ, _, w, ?_, rfl, Evo.refl r d⟩;simp only [convert, Sem.run_bind, run_underlying hs, run_underlying hd, run_underlying he, Result.andThen_ok, Conv.bytesToString];rfl
  ·cases h
 ·rename_i e id off len cap hs hd;split at h
  ·rename_i he;split at h
   ·rename_i vs own lf hg;split at h
    ·rename_i l hl;obtain ⟨L, c0, e0, lo, hi, ⟨h1, hz⟩, h2, h3, h4, h5, h6, h7⟩ := zDA r hg;obtain ⟨cs, k1, k2, k3, _⟩ := zED h7 hl;have main : ∀ ns : List Int, cs = ns.map (Value.int .u8) → (convert src dst c).run P w = .ok (.string ⟨(ns.map fun n => UInt8.ofNat n.toNat).toArray⟩) w := fun ns hns => by
      subst hns;have hrun : ∃ a q, c = .slice (some a) len q ∧ (loadCells a len).run P w = .ok (ns.map (Value.int .u8)).toArray w := by
       by_cases h0 : len = 0
       ·subst h0;obtain ⟨a, q, rfl⟩ := hx.slice_zero;have : ns = [] := List.eq_nil_of_length_eq_zero (by simpa using k2)
        subst this;exact ⟨a, q, rfl, rfl⟩
       ·obtain ⟨q, rfl⟩ := hx.slice_at h1 h0;exact ⟨_, q, rfl, run_loadCells L.b (L.s + off) len _ k2 (fun j y hj => by rw [zBU h2]; exact k3 j y hj)⟩
      obtain ⟨a, q, rfl, hload⟩ := hrun;rw [run_convert_bytes_string w src dst e (some a) len q hs he hd, run_bytesToString w a len q ns hload, zFl];simp
     split at h
     ·rename_i s hs';cases h;obtain ⟨ns, hns, rfl⟩ := zRv l s hs' cs k1;exact ⟨μ, _, w, main ns hns, rfl, Evo.refl r d⟩
     ·split at h
      ·rename_i t ht;cases h;obtain ⟨ns, hns, e2⟩ := zJ9 l t ht cs k1;refine ⟨μ, _, w, main ns hns, ?_, Evo.refl r d⟩;rw [← e2];exact zRz μ t
      ·cases h
    ·cases h
   ·cases h
  ·cases h
 ·rename_i e id k off len hs hd;split at h
  ·rename_i he;split at h
   ·rename_i t own hg;split at h
    ·rename_i hk;cases h;have hk1 : k = 1 := Nat.eq_of_beq_eq_true hk;obtain ⟨l, h1, h2, h3, h4, h5, h6, h7⟩ := hx;refine ⟨μ, .string ⟨(zBl t.den.asS off.den.asI (off.den.asI + len.den.asI)).toArray⟩, w, ?_, rfl, Evo.refl r d⟩;have hcut : zBl t.den.asS off.den.asI (off.den.asI + len.den.asI) = (t.den.asS.drop off.den.asI.toNat).take len.den.asI.toNat := by
      unfold zBl; congr 1; omega
     rw [hcut];obtain ⟨m1, m2⟩ := zQf (P := P) r hg h1 (off := off.den.asI.toNat) (len := len.den.asI.toNat) (by subst hk1; simpa using h6.1)
     have hrun : ∃ a q, c = .slice (some a) len.den.asI.toNat q ∧ (loadCells a len.den.asI.toNat).run P w = .ok ((((t.den.asS.drop off.den.asI.toNat).take len.den.asI.toNat).map fun b => (b.toNat : Int)).map (Value.int .u8)).toArray w := by
      rcases h7 with ⟨_, rfl | ⟨h0, o, rfl⟩⟩ | ⟨hz, _⟩
      ·refine ⟨_, _, rfl, ?_⟩;subst hk1;simpa using m1
      ·rw [h0];exact ⟨_, _, rfl, by simp; rfl⟩
      ·obtain ⟨l', _, _, _, _, ⟨e1, e2⟩, _⟩ := r.obj _ _ hg;rw [h1] at e1; cases e1;rw [hz] at e2; cases e2
     obtain ⟨a, q, rfl, hload⟩ := hrun;rw [run_convert_bytes_string w src dst e (some a) _ q hs he hd, run_bytesToString w a _ q _ hload, zFl, zTc];simp
    ·cases h
   ·rename_i sh t own hg;split at h
    ·rename_i hc;cases h;simp only [Bool.and_eq_true] at hc;obtain ⟨c1, c2, c3⟩ := hc;obtain rfl := zH4 c1;obtain rfl := Tm.eqv_eq _ _ c2;obtain rfl := Tm.eqv_eq _ _ c3;obtain ⟨l, h1, h2, h3, h4, h5, h6, h7⟩ := hx;have hlen : (Tm.llen t).den.asI.toNat = t.den.asL.length := by show ((t.den.asL.length : Int)).toNat = _; simp
     have hz0 : ∀ {n : Int}, n = (Tm.llen t).den.asI → n = 0 → t.den.asL = [] := fun h1 h2 => List.eq_nil_of_length_eq_zero (by rw [← hlen, ← h1, h2]; rfl)
     refine ⟨μ, .string ⟨(Tm.flat t).den.asS.toArray⟩, w, ?_, rfl, Evo.refl r d⟩;rcases h7 with ⟨hz, rfl | ⟨h0, o, rfl⟩⟩ | ⟨_, h0, rfl⟩
     ·have hl := zY8 (P := P) r hg h1 hz;rw [hlen, show l.s + (Tm.ci 0).den.asI.toNat * k = l.s by show l.s + 0 * k = _; simp, run_convert_bytes_string w src dst e _ _ _ hs he hd, run_bytesToString w _ _ _ _ hl, zFl, List.map_map]
      rfl
     ·have hl := zUf (P := P) o w;rw [run_convert_bytes_string w src dst e _ _ _ hs he hd, run_bytesToString w o 0 0 [] hl];show _ = Result.ok (Value.string ⟨(t.den.asL.map _).toArray⟩) w;rw [hz0 rfl h0];rfl
     ·rw [run_convert_bytes_string w src dst e _ _ _ hs he hd];show _ = Result.ok (Value.string ⟨(t.den.asL.map _).toArray⟩) w;rw [hz0 rfl h0];rfl
    ·cases h
   ·cases h
  ·cases h
 ·cases h
 ·rename_i u s hs hd;cases h; cases hx;refine ⟨μ, _, w, ?_, rfl, Evo.refl r d⟩;simp only [convert, Sem.run_bind, run_underlying hs, run_underlying hd, Result.andThen_ok];rfl
 ·rename_i u s hs hd;cases h; cases hx;refine ⟨μ, _, w, ?_, rfl, Evo.refl r d⟩;simp only [convert, Sem.run_bind, run_underlying hs, run_underlying hd, Result.andThen_ok];rfl
 ·rename_i u e s hs hd;split at h
  ·rename_i he;cases h; cases hx;obtain ⟨μ', y, w', h1, h2, h3⟩ := zHe (P := P) r d s e;refine ⟨μ', y, w', ?_, h2, h3⟩;simp only [convert, Sem.run_bind, run_underlying hs, run_underlying hd, run_underlying he, Result.andThen_ok];exact h1
  ·cases h
 ·rename_i u e s hs hd;split at h
  ·rename_i he;cases h; cases hx;obtain ⟨μ', y, w', h1, h2, h3⟩ := zHd (P := P) r d s e;refine ⟨μ', y, w', ?_, h2, h3⟩;simp only [convert, Sem.run_bind, run_underlying hs, run_underlying hd, run_underlying he, Result.andThen_ok];exact h1
  ·cases h
 ·cases h
end
end Go.Proofs.YtenkabjkgngcdaaGreat.Ab
namespace Go.Proofs.YtenkabjkgngcdaaGreat.Ab
open Go
variable [Rho]
section
variable {P : Program}
theorem zOd (N : Nat) : ∀ r c, Builtin.growBy N r c ≤ max c (N + (N + 768) / 4)
 | 0, c => by simp [Builtin.growBy]; omega
 | r + 1, c => by
  simp only [Builtin.growBy];split
  ·omega
  ·have := zOd N r (c + (c + 768) / 4);omega
theorem xDi (N old : Nat) (h : old < N) : Builtin.nextslicecap N old ≤ 2 * N + 768 := by
 unfold Builtin.nextslicecap;split
 ·omega
 ·split
  ·omega
  ·have := zOd N 4 old;omega
theorem Rep.draw {μ : Mu} {h : Nat → Option AObj} {w w' : World} (r : Rep μ h w) (e : w'.heap = w.heap) : Rep μ h w' :=
 ⟨fun id o ho => (r.obj id o ho).keep (Ext.refl μ) fun l _ _ => by rw [e], r.inj⟩
theorem zHG (z : Array Value) (n k : Nat) (hk : z.size = k) (h0 : 0 < k) : (Builtin.zeroCells z n).toList = List.flatten (List.replicate n z.toList) := by
 have := zMm z k n hk h0;unfold Builtin.zeroCells;rw [hk];rw [hk] at this;exact this
structure AT (P : Program) (ts : Array TypeId) (e : TypeId) (k by' : Nat) (z : Value) : Prop where
 slice : ∃ t, ts[0]? = some t ∧ P.underlying t = some (.slice e)
 other : ∃ t d, ts[1]? = some t ∧ P.underlying t = some d ∧ ∀ k, d ≠ .int k
 size : zFv P e = some k
 bytes : ∃ i, P.info? e = some i ∧ i.bytes = by'
 zero : ∀ w, (zeroValue e).run P w = .ok z w
 zsize : z.cells.size = k
 small : by' ≤ 1024
 pos : 0 < k
theorem zBC {ts : Array TypeId} {e : TypeId} {k by' : Nat} {z : Value} (a : AT P ts e k by' z) (ty : TypeId) (base : Option Addr) (len cap m : Nat) (x : Value) (w : World) (new : List Value)
  (hl : (Builtin.lenOf x).run P w = .ok m w) (hn : (Builtin.firstCells k m x).run P w = .ok new.toArray w) (hc : len + m ≤ cap) (w' : World)
  (hst : match base with | some p => (storeCells (p.add (len * k)) new).run P w = .ok () w' | none => w' = w) :
  (Builtin.append_ ts ty #[.slice base len cap, x]).run P w = .ok (.slice base (len + m) cap) w' := by
 obtain ⟨t, ht, hu⟩ := a.slice;obtain ⟨t', d, ht', hu', hd⟩ := a.other;unfold Builtin.append_;simp only [ht, ht', List.getElem?_toArray, List.getElem?_cons_zero, List.getElem?_cons_succ];simp only [Sem.run_bind, run_underlying hu, run_underlying hu', Result.andThen_ok, zAt a.size, Sem.run_pure];cases d
 case int => exact absurd rfl (hd _)
 all_goals
  simp only [Bool.false_eq_true, if_false, hl, Bool.not_false, if_true, if_pos hc, hn, Sem.run_bind, Result.andThen_ok, Sem.run_pure];cases base with
  | none => subst hst; rfl
  | some p =>
   simp only at hst;simp only [Sem.run_bind, hst, Result.andThen_ok, Sem.run_pure]
theorem zLz {ts : Array TypeId} {e : TypeId} {k by' : Nat} {z : Value} (a : AT P ts e k by' z) (ty : TypeId) (base : Option Addr) (len cap m : Nat) (x : Value) (w : World) (old new : List Value)
  (hl : (Builtin.lenOf x).run P w = .ok m w) (hn : ∀ w' : World, w'.heap = w.heap → (Builtin.firstCells k m x).run P w' = .ok new.toArray w') (ho : ∀ w' : World, w'.heap = w.heap → (Builtin.firstCells k len (.slice base len cap)).run P w' = .ok old.toArray w')
  (hc : ¬ len + m ≤ cap) (hm : len + m ≤ 4294967296) :
  ∃ nc, len + m ≤ nc ∧ (Builtin.append_ ts ty #[.slice base len cap, x]).run P w =
   .ok (.slice (some ⟨w.heap.size, 0, none⟩) (len + m) nc) { w with heap := w.heap.push (.cells ((old ++ new ++ List.flatten (List.replicate (nc - (len + m)) z.cells.toList)).toArray) e), drawn := w.drawn + 1 } := by
 obtain ⟨t, ht, hu⟩ := a.slice;obtain ⟨t', d, ht', hu', hd⟩ := a.other;obtain ⟨i, hi, hby⟩ := a.bytes;have hsm := a.small;have hw : ({ w with drawn := w.drawn + 1 } : World).heap = w.heap := rfl
 have hti : ∀ w, (typeInfo e).run P w = .ok i w := fun w => run_typeInfo w hi;generalize hnc : (Question.appendCap (len + m) cap e).cut (w.tape w.drawn (Question.appendCap (len + m) cap e)) = nc;refine ⟨nc, by rw [← hnc]; exact zX1 _ _ _ _, ?_⟩
 have h1 : ¬ (((len + m : Nat) : Int) > IntKind.i64.max ∧ (False ∨ i.bytes = 0)) := by
  intro h;have := h.1;simp [IntKind.max, IntKind.signed, IntKind.bits] at this;omega
 have h2 : ¬ Builtin.nextslicecap (len + m) cap * i.bytes > 2 ^ 48 := by
  have := xDi (len + m) cap (by omega)
  have h3 : Builtin.nextslicecap (len + m) cap * i.bytes ≤ (2 * (len + m) + 768) * 1024 := Nat.mul_le_mul this (by omega)
  omega
 have hz := zHG z.cells (nc - (len + m)) k a.zsize a.pos;have hz' : Builtin.zeroCells z.cells (nc - (len + m)) = (List.flatten (List.replicate (nc - (len + m)) z.cells.toList)).toArray := by
  apply Array.ext'; rw [hz]
 unfold Builtin.append_;simp only [ht, ht', List.getElem?_toArray, List.getElem?_cons_zero, List.getElem?_cons_succ];simp only [Sem.run_bind, run_underlying hu, run_underlying hu', Result.andThen_ok, zAt a.size, Sem.run_pure];cases d
 case int => exact absurd rfl (hd _)
 all_goals
  simp only [Bool.false_eq_true, if_false, hl, Bool.not_false, if_true, if_neg hc, Sem.run_ite, Sem.run_bind, Result.andThen_ok, Sem.run_pure, hti, if_neg h1, if_neg h2];simp only [run_choose, Question.forced, Bool.false_eq_true, if_false, Result.andThen_ok, hnc, run_askRoom];rw [ho _ hw];simp only [Result.andThen_ok];rw [hn _ hw];simp only [Result.andThen_ok, a.zero, newRow, Sem.run_bind, run_newObj, Sem.run_pure, hz'];simp
theorem zQ8 {k n : Nat} {x : AV} {H : Heap} {xs : List AV} (h : xCm k x n H = some xs) {m : Nat} (hm : zYn x = some m) (hn : n ≤ m) : xs.length = n * k := by
 unfold xCm at h;split at h
 ·cases h; simp [zYn] at hm; have : n = 0 := by omega
  subst this; simp
 ·split at h
  ·obtain ⟨h1, h2⟩ := zFp h;rw [h1]; simp;rcases h2 with h2 | h2 <;> omega
  ·cases h
 ·rename_i s;split at h
  ·rename_i hk;cases h;simp [zYn] at hm;simp [zF7, Nat.eq_of_beq_eq_true hk]; omega
  ·cases h
 ·cases h
theorem zQi {t : TypeId} {s x v : AV} {H H' : Heap} (h : zHE P t s x H = some (v, H')) {ts : Array TypeId} (hts : ts[0]? = some t) {t' : TypeId} {d' : TypeDesc} (ht' : ts[1]? = some t') (hd' : P.underlying t' = some d') (hni : ∀ k, d' ≠ .int k)
  {μ : Mu} {w : World} (r : Rep μ H.get w) (d : Dom μ H.next) {cs cx : Value} (hs : VR μ s cs) (hx : VR μ x cx) (ty : TypeId) :
  ∃ μ' y w', (Builtin.append_ ts ty #[cs, cx]).run P w = .ok y w' ∧ VR μ' v y ∧ Evo μ H.get H.next w μ' H'.get H'.next w' := by
 unfold zHE at h;split at h
 case h_2 => cases h
 rename_i e hu;split at h
 case h_2 => cases h
 rename_i k' by' z m hk hby hz hm
 split at h
 case isFalse => cases h
 rename_i hc;obtain ⟨hc1, hc2, hc3⟩ := hc;split at h
 case h_2 => cases h
 rename_i new hnew;split at h
 case isFalse => cases h
 rename_i hcells;obtain ⟨zv, hz1, hz2⟩ := zF1 hz μ;have hzs : zv.cells.size = k' + 1 := by
  have := hz2.length; simp at this; omega
 have at_ : AT P ts e (k' + 1) by' zv := ⟨⟨t, hts, hu⟩, ⟨t', d', ht', hd', hni⟩, hk, zEw hby, hz1, hzs, hc1, Nat.succ_pos _⟩
 have hlen := zMs (P := P) hm hx w;obtain ⟨cn, hn1, hn2⟩ := zLD (P := P) hnew (Nat.succ_pos _) r hx hm (Nat.le_refl _);have hcn := hn2.length;have hrest : ∀ nc need (l : List Value), l.length = need * (k' + 1) → need ≤ nc → (l ++ List.flatten (List.replicate (nc - need) zv.cells.toList)).length = nc * (k' + 1) := fun nc need l hl hle => by
  rw [List.length_append, hl];have : (List.flatten (List.replicate (nc - need) zv.cells.toList)).length = (nc - need) * (k' + 1) := by simp [hzs]
  rw [this, ← Nat.add_mul]; congr 1; omega
 have grow : ∀ (G : Heap) (n0 : Nat), Rep μ G.get w → Dom μ G.next → ∀ (cold : List Value) (old : List AV) (len cap : Nat) (base : Option Addr) (lf : Bool), VRs μ old cold → zA4 old = true → old.length = len * (k' + 1) → new.length = m * (k' + 1) →
   (∀ w' : World, w'.heap = w.heap → (Builtin.firstCells (k' + 1) len (.slice base len cap)).run P w' = .ok cold.toArray w') → ¬ len + m ≤ cap → len + m ≤ 4294967296 →
   ∃ μ' y w', (Builtin.append_ ts ty #[.slice base len cap, cx]).run P w = .ok y w' ∧ VR μ' (.slice G.next 0 (len + m) (.unk (k' + 1))) y ∧ Evo μ G.get G.next w μ' (G.new (.row (old ++ new) true lf)).get (G.new (.row (old ++ new) true lf)).next w' := by
  intro G n0 rG dG cold old len cap base lf hv1 ha1 hl1 hl2 hfc hcap hsm;obtain ⟨nc, hnc, hrun⟩ := zLz at_ ty base len cap m cx w cold cn hlen hn1 hfc hcap hsm;have hl3 : (old ++ new).length = (len + m) * (k' + 1) := by simp [hl1, hl2, Nat.add_mul]
  have hl4 : (cold ++ cn).length = (len + m) * (k' + 1) := by have := hv1.length; simp; rw [Nat.add_mul]; omega
  refine ⟨setMu μ G.next ⟨w.heap.size, 0, nc, k' + 1, (len + m) * (k' + 1), false⟩, _, _, hrun, ⟨⟨w.heap.size, 0, nc, k' + 1, (len + m) * (k' + 1), false⟩, by simp [setMu], Nat.succ_pos _, rfl, by simp, by simp, .inl (by simp)⟩, ?_⟩
  refine zFP (w' := { w with heap := w.heap.push (.cells ((cold ++ cn ++ List.flatten (List.replicate (nc - (len + m)) zv.cells.toList)).toArray) e), drawn := w.drawn + 1 }) rG dG (obj := .cells ((cold ++ cn ++ List.flatten (List.replicate (nc - (len + m)) zv.cells.toList)).toArray) e) ⟨rfl, rfl, rfl, rfl⟩ _
   ⟨w.heap.size, 0, nc, k' + 1, (len + m) * (k' + 1), false⟩ rfl fun μ' he hm' => ?_
  refine ⟨_, (cold ++ cn ++ List.flatten (List.replicate (nc - (len + m)) zv.cells.toList)).toArray, e, 0, 0, ⟨hm', rfl⟩, by simp, hl3, Nat.mul_le_mul_right _ hnc, ?_, fun _ => .inr (Nat.le_refl _), fun i y hy => ?_⟩
  ·have := hrest nc (len + m) (cold ++ cn) hl4 hnc;simp only [List.size_toArray];omega
  ·obtain ⟨c, hc', hv⟩ := (hv1.append hn2).get i y hy;refine ⟨?_, c, ?_, hv.ext he⟩
   ·have h5 : y ∈ old ++ new := List.mem_of_getElem? hy;simp only [zA4, List.all_eq_true] at ha1 hcells;rcases List.mem_append.1 h5 with h6 | h6
    ·exact ha1 y h6
    ·exact hcells y h6
   ·have hlt := (List.getElem?_eq_some_iff.1 hc').1;simp only [Nat.zero_add, List.getElem?_toArray];rw [List.getElem?_append_left hlt]; exact hc'
 have hl2 := zQ8 hnew hm (Nat.le_refl _);split at h
 ·
  cases hs;split at h
  ·rename_i m0;cases h; subst m0;have : new = [] := List.eq_nil_of_length_eq_zero (by omega)
   subst this;cases hn2;exact ⟨μ, _, w, zBC at_ ty none 0 0 0 cx w [] hlen (hn1 w rfl) (Nat.le_refl _) w rfl, rfl, Evo.refl r d⟩
  ·split at h
   ·rename_i m0 hsm;cases h;obtain ⟨μ', y, w', p1, p2, p3⟩ := grow H 0 r d [] [] 0 0 none (flats new) rfl rfl (by simp) hl2 (fun w' _ => by simp [Builtin.firstCells]) (by omega) (by unfold small at hsm; omega)
    refine ⟨μ', y, w', p1, ?_, ?_⟩
    ·simpa using p2
    ·simpa using p3
   ·cases h
 ·
  rename_i id off len c;split at h
  ·rename_i vs own lf hg;obtain ⟨L, c0, e0, lo, hi, ⟨h1, hz⟩, h2, h3, h4, h5, h6, h7⟩ := zDA r hg;obtain ⟨L', hL', rfl⟩ := hs;rw [h1] at hL'; cases hL';split at h
   ·rename_i hle;split at h
    ·rename_i ho;subst ho;split at h
     ·rename_i v' hp;cases h;obtain ⟨w', q1, q2⟩ := zDg (P := P) r d hg hp hn2 hcells (lf && flats new) h1;refine ⟨μ, _, w', zBC at_ ty _ len c m cx w cn hlen (hn1 w rfl) hle w' ?_, ⟨L, h1, rfl⟩, q2⟩;simp only [zBp];rw [Nat.add_assoc];exact q1
     ·cases h
    ·split at h
     ·rename_i m0;cases h; subst m0;have : new = [] := List.eq_nil_of_length_eq_zero (by omega)
      subst this;cases hn2;exact ⟨μ, _, w, zBC at_ ty _ len c 0 cx w [] hlen (hn1 w rfl) hle w (by simp [storeCells]), ⟨L, h1, rfl⟩, Evo.refl r d⟩
     ·cases h
   ·rename_i hle;split at h
    ·rename_i hsm;split at h
     ·rename_i old hold;cases h;obtain ⟨co, k1, k2, k3, k4⟩ := zED h7 hold;have hol : old.length = len * (k' + 1) := by rw [← k2, k1.length]
      exact grow H 0 r d co old len c (some ⟨L.b, L.s + off, none⟩) (lf && flats new) k1 k4 hol hl2
       (fun w' ew => run_loadCells L.b (L.s + off) (len * (k' + 1)) co k2 (fun j y hj => by rw [zBU (w := w') (by rw [ew]; exact h2)]; exact k3 j y hj)) hle (by unfold small at hsm; omega)
     ·cases h
    ·cases h
  ·cases h
 ·
  rename_i id off len k;split at h
  ·rename_i vs own lf hg;split at h
   ·rename_i hkk;subst hkk;obtain ⟨L, c0, e0, lo, hi, ⟨h1, hz⟩, h2, h3, h4, h5, h6, h7⟩ := zDA r hg;obtain ⟨L', hL', q1, q2, q3, q4, q5⟩ := hs;rw [h1] at hL'; cases hL';obtain ⟨o, rfl⟩ : ∃ o, off = o * (k' + 1) := ⟨off / (k' + 1), by rw [Nat.div_mul_cancel (Nat.dvd_of_mod_eq_zero q3)]⟩
    have hdo : o * (k' + 1) / (k' + 1) = o := Nat.mul_div_cancel _ q1;rw [hdo] at q5;rw [q2] at h4 h5;split at h
    ·rename_i m0;cases h; subst m0;have : new = [] := List.eq_nil_of_length_eq_zero (by omega)
     subst this;cases hn2;rcases q5 with rfl | ⟨rfl, q6, o', rfl⟩
     ·have hle : len + 0 ≤ L.cap - o := by
       have : (o + len) * (k' + 1) ≤ L.cap * (k' + 1) := by rw [Nat.add_mul]; omega
       have := Nat.le_of_mul_le_mul_right this q1;omega
      exact ⟨μ, _, w, zBC at_ ty _ len (L.cap - o) 0 cx w [] hlen (hn1 w rfl) hle w (by simp [storeCells]), ⟨L, h1, q1, q2, q3, q4, .inl (by rw [hdo]; rfl)⟩, Evo.refl r d⟩
     ·exact ⟨μ, _, w, zBC at_ ty _ 0 0 0 cx w [] hlen (hn1 w rfl) (Nat.le_refl _) w (by simp [storeCells]), ⟨L, h1, q1, q2, q3, q4, .inr ⟨rfl, q6, o', rfl⟩⟩, Evo.refl r d⟩
    ·rename_i m0;split at h
     ·rename_i hos;obtain ⟨ho, hsm⟩ := hos;subst ho;have hmk : k' + 1 ≤ m * (k' + 1) := Nat.le_mul_of_pos_left _ (Nat.pos_of_ne_zero m0);have hlm : (len + m) * (k' + 1) = len * (k' + 1) + m * (k' + 1) := Nat.add_mul _ _ _;split at h
      ·rename_i hin;split at h
       ·rename_i v' hp;cases h;rcases q5 with rfl | ⟨rfl, q6, o', rfl⟩
        ·have hle : len + m ≤ L.cap - o := by
          have : (o + (len + m)) * (k' + 1) ≤ L.cap * (k' + 1) := by rw [Nat.add_mul]; omega
          have := Nat.le_of_mul_le_mul_right this q1;omega
         obtain ⟨w', p1, p2⟩ := zDg (P := P) r d hg hp hn2 hcells (lf && flats new) h1;refine ⟨μ, _, w', zBC at_ ty _ len (L.cap - o) m cx w cn hlen (hn1 w rfl) hle w' ?_, ⟨L, h1, q1, q2, q3, by omega, .inl (by rw [hdo])⟩, p2⟩
         simp only [zBp];rw [Nat.add_assoc];exact p1
        ·omega
       ·cases h
      ·rename_i hin;split at h
       ·rename_i old hold;cases h;obtain ⟨co, k1, k2, k3, k4⟩ := zED h7 hold;have hol : old.length = len * (k' + 1) := by rw [← k2, k1.length]
        have growit : ∀ (cap : Nat) (a : Option Addr), ¬ len + m ≤ cap → (∀ w' : World, w'.heap = w.heap → (Builtin.firstCells (k' + 1) len (.slice a len cap)).run P w' = .ok co.toArray w') →
          ∃ μ' y w', (Builtin.append_ ts ty #[.slice a len cap, cx]).run P w = .ok y w' ∧ VR μ' (.slice H.next 0 (len + m) (.unk (k' + 1))) y ∧ Evo μ H.get H.next w μ' ((H.kill id).new (.row (old ++ new) true (lf && flats new))).get ((H.kill id).new (.row (old ++ new) true (lf && flats new))).next w' := by
         intro cap a hcap hfc;have hk := zRI r d id;obtain ⟨μ', y, w', p1, p2, p3⟩ := grow (H.kill id) 0 hk.rep hk.dom co old len cap a (lf && flats new) k1 k4 hol hl2 hfc hcap (by unfold small at hsm; omega)
         exact ⟨μ', y, w', p1, p2, hk.trans p3⟩
        rcases q5 with rfl | ⟨rfl, q6, o', rfl⟩
        ·by_cases hle : len + m ≤ L.cap - o
         ·have hroom : L.s + o * (k' + 1) + (L.cap - o) * (k' + 1) ≤ c0.size := by
           have : (o + (L.cap - o)) * (k' + 1) = o * (k' + 1) + (L.cap - o) * (k' + 1) := Nat.add_mul _ _ _;have e2 : o + (L.cap - o) = L.cap := by
            have : len + m ≠ 0 := by omega
            omega
           rw [e2] at this;omega
          have hfit : L.s + o * (k' + 1) + len * (k' + 1) + cn.length ≤ c0.size := by
           have : (len + m) * (k' + 1) ≤ (L.cap - o) * (k' + 1) := Nat.mul_le_mul_right _ hle;omega
          have hst := zBA (P := P) L.b (L.s + o * (k' + 1) + len * (k' + 1)) e0 lo hi cn 0 w c0 h2 (by omega) (h6 rfl) (hn2.cellsV hcells)
          obtain ⟨c', s1, s2, s3⟩ := zEA e0 (lo, hi) cn w L.b (L.s + o * (k' + 1) + len * (k' + 1)) c0 h2 hfit;obtain ⟨m1, m2, m3, m4⟩ := zDh cn w L.b (L.s + o * (k' + 1) + len * (k' + 1));refine ⟨setMu μ H.next ⟨L.b, L.s + o * (k' + 1), L.cap - o, k' + 1, (len + m) * (k' + 1), false⟩, _, _, zBC at_ ty _ len (L.cap - o) m cx w cn hlen (hn1 w rfl) hle _ (by simp only [zBp]; exact hst),
           ⟨⟨L.b, L.s + o * (k' + 1), L.cap - o, k' + 1, (len + m) * (k' + 1), false⟩, (by show setMu μ H.next _ H.next = _; simp [setMu]), Nat.succ_pos _, rfl, by simp, by simp, .inl (by simp)⟩, ?_⟩
          refine zMy r d hg rfl ⟨h1, hz⟩ (l' := ⟨L.b, L.s + o * (k' + 1), L.cap - o, k' + 1, (len + m) * (k' + 1), false⟩) rfl rfl (fun b hb => zE9 cn w L.b _ b hb) m1 m2 m3 m4 fun μ' he hm' => ?_;refine ⟨_, c', e0, lo, hi, ⟨hm', rfl⟩, s1, by simp [hol, hl2, hlm], Nat.mul_le_mul_right _ hle, by rw [s2]; exact hroom, fun _ => by rw [s2]; exact h6 rfl, fun i y hy => ?_⟩
          rw [s3];by_cases hi' : i < old.length
          ·rw [List.getElem?_append_left hi'] at hy;rw [if_neg (by simp only []; omega)]
           obtain ⟨z', hz', hv'⟩ := k1.get i y hy;refine ⟨?_, z', k3 i z' hz', hv'.ext he⟩;simp only [zA4, List.all_eq_true] at k4;exact k4 y (List.mem_of_getElem? hy)
          ·have hlt := (List.getElem?_eq_some_iff.1 hy).1;rw [List.getElem?_append_right (by omega)] at hy
           rw [List.length_append] at hlt;rw [if_pos (by simp only []; omega)]
           obtain ⟨z', hz', hv'⟩ := hn2.get _ y hy;refine ⟨?_, z', ?_, hv'.ext he⟩
           ·simp only [zA4, List.all_eq_true] at hcells;exact hcells y (List.mem_of_getElem? hy)
           ·rw [← hz']; congr 1; simp only []; omega
         ·exact growit _ _ hle (fun w' ew => run_loadCells L.b (L.s + o * (k' + 1)) (len * (k' + 1)) co k2 (fun j y hj => by rw [zBU (w := w') (by rw [ew]; exact h2)]; exact k3 j y hj))
        ·have : co = [] := List.eq_nil_of_length_eq_zero (by rw [k2]; simp)
         subst this;exact growit 0 _ (by omega) (fun w' _ => by simp [Builtin.firstCells, zBu])
       ·cases h
     ·cases h
   ·cases h
  ·cases h
 ·cases h
end
end Go.Proofs.YtenkabjkgngcdaaGreat.Ab
