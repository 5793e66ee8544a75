/-
  The document's side of chapter 15 as plain functions; the shapes in which its methods meet and leave it.
  No condition: definitions.
-/
import Derived.Test.YtlbkficdelepeaaArqM
namespace Go.Proofs.Ytlbkficdelepeaa.Ab
set_option linter.unusedSimpArgs false
set_option linter.unusedVariables false
open Go
noncomputable section
/-- The document's side. -/
structure SSt where
  k : Int
  n2 : Int
  t1 : Int
  off : Int
  len : Int
  L : List (List Dat)
  acked : Int
  sent : Int
  top : Int
  got : Int
  due : Bool
  final : Bool
  reject : Bool
  poll : Bool
  pb : Bool
  busy : Bool
  rejs : Bool
  asks : Bool
  failed : Bool
  wants : Bool
  tries : Int
  left : Int
def sOf (l : List Dat) : SSt := ⟨gI l 0, gI l 1, gI l 2, gI l 3, gI l 4, gL l 5, gI l 6, gI l 7, gI l 8, gI l 9, gB l 10, gB l 11, gB l 12, gB l 13, gB l 14, gB l 15, gB l 16, gB l 17, gB l 18, gB l 19, gI l 20, gI l 21⟩
def SSt.W (s : SSt) : List (List Dat) := (s.L.drop s.off.toNat).take s.len.toNat
def cntS (t1 len acked sent : Int) (pb asks failed wants : Bool) (left : Int) (again : Bool) : Int :=
  if failed = true then 0
  else if sent > acked ∨ asks = true ∨ wants = true ∨ (pb = true ∧ len - acked > 0) then (if left = 0 ∨ again = true then t1 else left)
  else 0
def SSt.count (s : SSt) (again : Bool) : SSt := { s with left := cntS s.t1 s.len s.acked s.sent s.pb s.asks s.failed s.wants s.left again }
def SSt.push (s : SSt) (info : Dat) : Int × SSt :=
  if s.failed = true then (4, s) else if s.len - s.acked ≥ s.k then (3, s)
  else (0, ({ s with off := 0, len := (s.W.length : Int) + 1, L := s.W ++ [[info]] } : SSt).count false)
def hasS (len sent : Int) (due poll pb asks failed : Bool) : Bool := !failed && (due || poll || (!pb && !asks && decide (sent < len)))
def SSt.has (s : SSt) : Bool := hasS s.len s.sent s.due s.poll s.pb s.asks s.failed
def SSt.next (s : SSt) : Frm × Bool × SSt :=
  if s.failed = true then (.none, false, s)
  else if s.due = true then (⟨0, false, if s.busy = false ∧ s.reject = true then 10 else if s.busy = true then 9 else 8, s.final, 0, s.got % 8, []⟩, true, ({ s with due := false, final := false, reject := false } : SSt).count false)
  else if s.poll = true then (⟨0, true, if s.busy = true then 9 else 8, true, 0, s.got % 8, []⟩, true, ({ s with poll := false } : SSt).count false)
  else if s.pb = false ∧ s.asks = false ∧ s.sent < s.len then (⟨0, true, 7, false, s.sent % 8, s.got % 8, infoAt s.L (s.off + s.sent)⟩, true, ({ s with sent := s.sent + 1, top := max s.top (s.sent + 1) } : SSt).count false)
  else (.none, false, s)
/-- The number that an N(R) means. -/
def ackn (acked top nr : Int) : Int × Bool := if way8 acked nr ≤ top - acked then (acked + way8 acked nr, true) else (0, false)
/-- An information that is heard: what comes of it; got, due, reject, rejs. -/
def takS (got : Int) (due reject busy rejs : Bool) (ns : Int) (info : List UInt8) (act : Act) : Act × Int × Bool × Bool × Bool :=
  if ¬ ns % 8 = got % 8 then
    if rejs = false ∧ busy = false then (act, got, true, true, true) else (act, got, due, reject, rejs)
  else if busy = true then (act, got, true, reject, rejs)
  else ({ act with info := info, taken := true }, got + 1, true, false, false)
def SSt.take (s : SSt) (ns : Int) (info : List UInt8) (act : Act) : Act × SSt :=
  let t := takS s.got s.due s.reject s.busy s.rejs ns info act
  (t.1, { s with got := t.2.1, due := t.2.2.1, reject := t.2.2.2.1, rejs := t.2.2.2.2 })
def SSt.kind (s : SSt) (k : Int) : SSt := { s with sent := if k = 9 ∨ k = 10 then s.acked else s.sent, pb := if k = 7 then s.pb else decide (k = 9) }
def SSt.answered (s : SSt) (f : Frm) : SSt := if s.asks = true ∧ f.pf = true ∧ f.c = false then { s with asks := false, poll := false, tries := 0, sent := s.acked } else s
def SSt.polled (s : SSt) (f : Frm) : SSt := if f.pf = true ∧ f.c = true then { s with due := true, final := true } else s
def SSt.hear (s : SSt) (f : Frm) : Act × SSt :=
  if s.failed = true ∨ (f.k ≠ 7 ∧ f.k ≠ 8 ∧ f.k ≠ 9 ∧ f.k ≠ 10) then (.none, s)
  else
    let r := ackn s.acked s.top f.nr
    if r.2 = false then (⟨[], false, 0, true⟩, { s with failed := true, left := 0 })
    else
      let d := r.1 - s.acked
      let s1 := ((({ s with acked := r.1, sent := max s.sent r.1, tries := if d > 0 then 0 else s.tries } : SSt).kind f.k).answered f)
      let t := if f.k = 7 then s1.take f.ns f.info ⟨[], false, d, false⟩ else (⟨[], false, d, false⟩, s1)
      (t.1, (t.2.polled f).count (decide (t.1.acked > 0)))
def SSt.setBusy (s : SSt) (b : Bool) : SSt := if s.failed = true ∨ b = s.busy then s else ({ s with busy := b, due := true } : SSt).count false
def SSt.setWant (s : SSt) (b : Bool) : SSt := if s.failed = false then ({ s with wants := b } : SSt).count false else s
def SSt.tick (s : SSt) : Act × SSt :=
  if s.failed = true ∨ s.left = 0 then (.none, s)
  else if s.left - 1 > 0 then (.none, { s with left := s.left - 1 })
  else
    let tr := if s.sent > s.acked ∨ s.asks = true then s.tries + 1 else s.tries
    if tr > s.n2 then (⟨[], false, 0, true⟩, { s with left := s.left - 1, tries := tr, failed := true })
    else (.none, { s with tries := tr, asks := true, poll := true, left := s.t1 })
/-! ### shapes -/
def rowS (w : Nat) : List AV := [iv 0, iv 1, iv 2, .sslice w 1 (vt 3) (vt 4), iv 6, iv 7, iv 8, iv 9, bv 10, bv 11, bv 12, bv 13, bv 14, bv 15, bv 16, bv 17, bv 18, bv 19, iv 20, iv 21]
def poS : List (Nat × AObj) := [(0, .row (rowS 1) true false), (1, .seq [.ks] (vt 5) true)]
def qoS (ps : List (Nat × AV)) : List (Nat × AObj) := [(0, .row (setC (rowS 1) ps) true false), (1, .seq [.ks] (vt 5) true)]
def SWaitsS : Sum := ⟨2, 22, [.ptr 0 0], poS, 2, iv 22, qoS [], [4, 6]⟩
def SCountS : Sum := ⟨2, 23, [.ptr 0 0, bv 22], poS, 2, .tuple [], qoS [(19, iv 23)], [2, 4, 6, 7, 14, 17, 18, 19, 21, 22]⟩
def SHasS : Sum := ⟨2, 22, [.ptr 0 0], poS, 2, bv 22, qoS [], [4, 7, 10, 13, 14, 17, 18]⟩
def SPushS : Sum := ⟨2, 23, [.ptr 0 0, .sstr (vt 22)], poS, 3, iv 23, [(0, .row (setC (rowS 2) [(3, .sslice 2 1 (vt 25) (vt 26)), (19, iv 24)]) true false), (2, .seq [.ks] (vt 27) true)], List.range 23⟩
def SNextS : Sum := ⟨2, 22, [.ptr 0 0], poS, 2, .tuple [frA 22, bv 29], qoS [(5, iv 30), (6, iv 31), (8, bv 32), (9, bv 33), (10, bv 34), (11, bv 35), (19, iv 36)], List.range 22⟩
def SAckn : Sum := ⟨2, 23, [.ptr 0 0, uv 22], poS, 2, .tuple [iv 23, bv 24], qoS [], [6, 8, 22]⟩
def STakeS : Sum := ⟨2, 33, [.ptr 0 0, frA 22, actA 29], poS, 2, actA 33, qoS [(7, iv 37), (8, bv 38), (10, bv 39), (14, bv 40)], [9, 10, 12, 15, 16, 26, 28, 29, 30, 31, 32]⟩
def SHearS : Sum := ⟨2, 29, [.ptr 0 0, frA 22], poS, 2, actA 29, qoS [(4, iv 33), (5, iv 34), (7, iv 35), (8, bv 36), (9, bv 37), (10, bv 38), (11, bv 39), (12, bv 40), (14, bv 41), (15, bv 42), (16, bv 43), (18, iv 44), (19, iv 45)], List.range 29⟩
def SBusyS : Sum := ⟨2, 23, [.ptr 0 0, bv 22], poS, 2, .tuple [], qoS [(8, bv 23), (13, bv 24), (19, iv 25)], List.range 23⟩
def SWantS : Sum := ⟨2, 23, [.ptr 0 0, bv 22], poS, 2, .tuple [], qoS [(17, bv 23), (19, iv 24)], List.range 23⟩
def STickS : Sum := ⟨2, 22, [.ptr 0 0], poS, 2, actA 22, qoS [(11, bv 26), (15, bv 27), (16, bv 28), (18, iv 29), (19, iv 30)], List.range 22⟩
/-! ### what the letters of functions stand for -/
def okL (l : List Dat) : Prop := 0 ≤ gI l 3 ∧ 0 ≤ gI l 4 ∧ gI l 4 ≤ 100000 ∧ gI l 3 + gI l 4 ≤ ((gL l 5).length : Int) ∧ 0 ≤ gI l 6 ∧ gI l 6 ≤ 100000 ∧ 0 ≤ gI l 7 ∧ gI l 7 ≤ 100000 ∧ 0 ≤ gI l 8 ∧ gI l 8 ≤ 100000 ∧ 0 ≤ gI l 9 ∧ gI l 9 ≤ 100000
instance (l : List Dat) : Decidable (okL l) := by unfold okL; infer_instance
def mPushS (l : List Dat) : List Dat := let p := (sOf l).push (l.getD 22 (.dI 0)); [.dI p.1, .dI p.2.left, .dI p.2.off, .dI p.2.len, .dL p.2.L, .dB (decide (okL l))]
def mNextS (l : List Dat) : List Dat := let p := (sOf l).next; frD p.1 ++ [.dB p.2.1, .dI p.2.2.sent, .dI p.2.2.top, .dB p.2.2.due, .dB p.2.2.final, .dB p.2.2.reject, .dB p.2.2.poll, .dI p.2.2.left, .dB (decide (okL l))]
def mTakeS (l : List Dat) : List Dat := let t := takS (gI l 0) (gB l 1) (gB l 2) (gB l 3) (gB l 4) (gI l 5) (gS l 6) ⟨gS l 7, gB l 8, gI l 9, gB l 10⟩; actD t.1 ++ [.dI t.2.1, .dB t.2.2.1, .dB t.2.2.2.1, .dB t.2.2.2.2, .dB (decide (0 ≤ gI l 0 ∧ gI l 0 ≤ 100000 ∧ 0 ≤ gI l 5 ∧ gI l 5 ≤ 255))]
def mHearS (l : List Dat) : List Dat := let p := (sOf l).hear (frOf l 22); actD p.1 ++ [.dI p.2.acked, .dI p.2.sent, .dI p.2.got, .dB p.2.due, .dB p.2.final, .dB p.2.reject, .dB p.2.poll, .dB p.2.pb, .dB p.2.rejs, .dB p.2.asks, .dB p.2.failed, .dI p.2.tries, .dI p.2.left,
  .dB (decide (okL l ∧ gI l 8 - gI l 6 ≤ 7 ∧ 0 ≤ gI l 26 ∧ gI l 26 ≤ 255 ∧ 0 ≤ gI l 27 ∧ gI l 27 ≤ 255))]
def mTickS (l : List Dat) : List Dat := let p := (sOf l).tick; actD p.1 ++ [.dB p.2.poll, .dB p.2.asks, .dB p.2.failed, .dI p.2.tries, .dI p.2.left, .dB (decide (0 ≤ gI l 20 ∧ gI l 20 ≤ 1000 ∧ 0 ≤ gI l 21 ∧ gI l 21 ≤ 1000))]
def mSid : Nat → List Dat → List Dat
  | 20, l => [.dI (gI l 0 - gI l 1), .dB (decide (0 ≤ gI l 0 ∧ gI l 0 ≤ 200000 ∧ 0 ≤ gI l 1 ∧ gI l 1 ≤ 200000))]
  | 21, l => [.dI (cntS (gI l 0) (gI l 1) (gI l 2) (gI l 3) (gB l 4) (gB l 5) (gB l 6) (gB l 7) (gI l 8) (gB l 9)), .dB (decide (0 ≤ gI l 1 ∧ gI l 1 ≤ 200000 ∧ 0 ≤ gI l 2 ∧ gI l 2 ≤ 200000))]
  | 22, l => [.dB (hasS (gI l 0) (gI l 1) (gB l 2) (gB l 3) (gB l 4) (gB l 5) (gB l 6))]
  | 23, l => mPushS l
  | 24, l => mNextS l
  | 25, l => [.dI (ackn (gI l 0) (gI l 1) (gI l 2)).1, .dB (ackn (gI l 0) (gI l 1) (gI l 2)).2, .dB (decide (0 ≤ gI l 0 ∧ gI l 1 ≤ 100000 ∧ gI l 1 - gI l 0 ≤ 7 ∧ 0 ≤ gI l 2 ∧ gI l 2 ≤ 255))]
  | 26, l => mTakeS l
  | 27, l => mHearS l
  | 28, l => let s := (sOf l).setBusy (gB l 22); [.dB s.due, .dB s.busy, .dI s.left, .dB (decide (okL l))]
  | 29, l => let s := (sOf l).setWant (gB l 22); [.dB s.wants, .dI s.left, .dB (decide (okL l))]
  | 30, l => mTickS l
  | k, l => mArq k l
def tabS0 : List (Nat × (List AV → Heap → Option (Tm × AV × Heap))) := [(78, sumG SWaitsS 1280 1)]
def tabS1 : List (Nat × (List AV → Heap → Option (Tm × AV × Heap))) := (101, sumG SCountS 1344 1) :: (102, sumG SAckn 1600 2) :: (103, sumG STakeS 1664 8) :: (31, sumG SHasS 1408 1) :: tabS0
def envS0 : Env := ⟨tabGet tabS0, fun _ _ => none⟩
def envS1 : Env := ⟨tabGet tabS1, fun _ _ => none⟩
end
end Go.Proofs.Ytlbkficdelepeaa.Ab
