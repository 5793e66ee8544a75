import Derived.Test.YtenkabjkgngcdaaGreatKb5
set_option linter.unusedVariables false
set_option linter.unusedSimpArgs false
set_option linter.unusedSectionVars false
namespace Go.Proofs.YtenkabjkgngcdaaGreat.Ab
open Go
noncomputable section
structure SSt where
 k : Int
 n2 : Int
 t1 : Int
 off : Int
 len : Int
 L : List (List Dat)
 acked : Int
 sent : Int
 top : Int
 got : Int
 due : Bool
 final : Bool
 reject : Bool
 poll : Bool
 pb : Bool
 busy : Bool
 rejs : Bool
 asks : Bool
 failed : Bool
 wants : Bool
 tries : Int
 left : Int
def sOf (l : List Dat) : SSt := ⟨gI l 0, gI l 1, gI l 2, gI l 3, gI l 4, gL l 5, gI l 6, gI l 7, gI l 8, gI l 9, gB l 10, gB l 11, gB l 12, gB l 13, gB l 14, gB l 15, gB l 16, gB l 17, gB l 18, gB l 19, gI l 20, gI l 21⟩
def SSt.W (s : SSt) : List (List Dat) := (s.L.drop s.off.toNat).take s.len.toNat
def xG2 (t1 len acked sent : Int) (pb asks failed wants : Bool) (left : Int) (again : Bool) : Int :=
 if failed = true then 0
 else if sent > acked ∨ asks = true ∨ wants = true ∨ (pb = true ∧ len - acked > 0) then (if left = 0 ∨ again = true then t1 else left)
 else 0
def SSt.count (s : SSt) (again : Bool) : SSt := { s with left := xG2 s.t1 s.len s.acked s.sent s.pb s.asks s.failed s.wants s.left again }
def SSt.push (s : SSt) (info : Dat) : Int × SSt :=
 if s.failed = true then (4, s) else if s.len - s.acked ≥ s.k then (3, s)
 else (0, ({ s with off := 0, len := (s.W.length : Int) + 1, L := s.W ++ [[info]] } : SSt).count false)
def xJ0 (len sent : Int) (due poll pb asks failed : Bool) : Bool := !failed && (due || poll || (!pb && !asks && decide (sent < len)))
def SSt.has (s : SSt) : Bool := xJ0 s.len s.sent s.due s.poll s.pb s.asks s.failed
def SSt.next (s : SSt) : Frm × Bool × SSt :=
 if s.failed = true then (.none, false, s)
 else if s.due = true then (⟨0, false, if s.busy = false ∧ s.reject = true then 10 else if s.busy = true then 9 else 8, s.final, 0, s.got % 8, []⟩, true, ({ s with due := false, final := false, reject := false } : SSt).count false)
 else if s.poll = true then (⟨0, true, if s.busy = true then 9 else 8, true, 0, s.got % 8, []⟩, true, ({ s with poll := false } : SSt).count false)
 else if s.pb = false ∧ s.asks = false ∧ s.sent < s.len then (⟨0, true, 7, false, s.sent % 8, s.got % 8, infoAt s.L (s.off + s.sent)⟩, true, ({ s with sent := s.sent + 1, top := max s.top (s.sent + 1) } : SSt).count false)
 else (.none, false, s)
def xEm (acked top nr : Int) : Int × Bool := if zFa acked nr ≤ top - acked then (acked + zFa acked nr, true) else (0, false)
def xHo (got : Int) (due reject busy rejs : Bool) (ns : Int) (info : List UInt8) (act : Act) : Act × Int × Bool × Bool × Bool :=
 if ¬ ns % 8 = got % 8 then
  if rejs = false ∧ busy = false then (act, got, true, true, true) else (act, got, due, reject, rejs)
 else if busy = true then (act, got, true, reject, rejs)
 else ({ act with info := info, taken := true }, got + 1, true, false, false)
def SSt.take (s : SSt) (ns : Int) (info : List UInt8) (act : Act) : Act × SSt :=
 let t := xHo s.got s.due s.reject s.busy s.rejs ns info act
 (t.1, { s with got := t.2.1, due := t.2.2.1, reject := t.2.2.2.1, rejs := t.2.2.2.2 })
def SSt.kind (s : SSt) (k : Int) : SSt := { s with sent := if k = 9 ∨ k = 10 then s.acked else s.sent, pb := if k = 7 then s.pb else decide (k = 9) }
def SSt.answered (s : SSt) (f : Frm) : SSt := if s.asks = true ∧ f.pf = true ∧ f.c = false then { s with asks := false, poll := false, tries := 0, sent := s.acked } else s
def SSt.polled (s : SSt) (f : Frm) : SSt := if f.pf = true ∧ f.c = true then { s with due := true, final := true } else s
def SSt.hear (s : SSt) (f : Frm) : Act × SSt :=
 if s.failed = true ∨ (f.k ≠ 7 ∧ f.k ≠ 8 ∧ f.k ≠ 9 ∧ f.k ≠ 10) then (.none, s)
 else
  let r := xEm s.acked s.top f.nr
  if r.2 = false then (⟨[], false, 0, true⟩, { s with failed := true, left := 0 })
  else
   let d := r.1 - s.acked
   let s1 := ((({ s with acked := r.1, sent := max s.sent r.1, tries := if d > 0 then 0 else s.tries } : SSt).kind f.k).answered f)
   let t := if f.k = 7 then s1.take f.ns f.info ⟨[], false, d, false⟩ else (⟨[], false, d, false⟩, s1)
   (t.1, (t.2.polled f).count (decide (t.1.acked > 0)))
def SSt.setBusy (s : SSt) (b : Bool) : SSt := if s.failed = true ∨ b = s.busy then s else ({ s with busy := b, due := true } : SSt).count false
def SSt.setWant (s : SSt) (b : Bool) : SSt := if s.failed = false then ({ s with wants := b } : SSt).count false else s
def SSt.tick (s : SSt) : Act × SSt :=
 if s.failed = true ∨ s.left = 0 then (.none, s)
 else if s.left - 1 > 0 then (.none, { s with left := s.left - 1 })
 else
  let tr := if s.sent > s.acked ∨ s.asks = true then s.tries + 1 else s.tries
  if tr > s.n2 then (⟨[], false, 0, true⟩, { s with left := s.left - 1, tries := tr, failed := true })
  else (.none, { s with tries := tr, asks := true, poll := true, left := s.t1 })
def okL (l : List Dat) : Prop := 0 ≤ gI l 3 ∧ 0 ≤ gI l 4 ∧ gI l 4 ≤ 100000 ∧ gI l 3 + gI l 4 ≤ ((gL l 5).length : Int) ∧ 0 ≤ gI l 6 ∧ gI l 6 ≤ 100000 ∧ 0 ≤ gI l 7 ∧ gI l 7 ≤ 100000 ∧ 0 ≤ gI l 8 ∧ gI l 8 ≤ 100000 ∧ 0 ≤ gI l 9 ∧ gI l 9 ≤ 100000
instance (l : List Dat) : Decidable (okL l) := by unfold okL; infer_instance
def xFQ (l : List Dat) : List Dat := let p := (sOf l).push (l.getD 22 (.dI 0)); [.dI p.1, .dI p.2.left, .dI p.2.off, .dI p.2.len, .dL p.2.L, .dB (decide (okL l))]
def xFR (l : List Dat) : List Dat := let p := (sOf l).next; frD p.1 ++ [.dB p.2.1, .dI p.2.2.sent, .dI p.2.2.top, .dB p.2.2.due, .dB p.2.2.final, .dB p.2.2.reject, .dB p.2.2.poll, .dI p.2.2.left, .dB (decide (okL l))]
def xFO (l : List Dat) : List Dat := let t := xHo (gI l 0) (gB l 1) (gB l 2) (gB l 3) (gB l 4) (gI l 5) (gS l 6) ⟨gS l 7, gB l 8, gI l 9, gB l 10⟩; xEC t.1 ++ [.dI t.2.1, .dB t.2.2.1, .dB t.2.2.2.1, .dB t.2.2.2.2, .dB (decide (0 ≤ gI l 0 ∧ gI l 0 ≤ 100000 ∧ 0 ≤ gI l 5 ∧ gI l 5 ≤ 255))]
def xFS (l : List Dat) : List Dat := let p := (sOf l).hear (zC7 l 22); xEC p.1 ++ [.dI p.2.acked, .dI p.2.sent, .dI p.2.got, .dB p.2.due, .dB p.2.final, .dB p.2.reject, .dB p.2.poll, .dB p.2.pb, .dB p.2.rejs, .dB p.2.asks, .dB p.2.failed, .dI p.2.tries, .dI p.2.left,
 .dB (decide (okL l ∧ gI l 8 - gI l 6 ≤ 7 ∧ 0 ≤ gI l 26 ∧ gI l 26 ≤ 255 ∧ 0 ≤ gI l 27 ∧ gI l 27 ≤ 255))]
def xFN (l : List Dat) : List Dat := let p := (sOf l).tick; xEC p.1 ++ [.dB p.2.poll, .dB p.2.asks, .dB p.2.failed, .dI p.2.tries, .dI p.2.left, .dB (decide (0 ≤ gI l 20 ∧ gI l 20 ≤ 1000 ∧ 0 ≤ gI l 21 ∧ gI l 21 ≤ 1000))]
def zEf : Nat → List Dat → List Dat
 | 20, l => [.dI (gI l 0 - gI l 1), .dB (decide (0 ≤ gI l 0 ∧ gI l 0 ≤ 200000 ∧ 0 ≤ gI l 1 ∧ gI l 1 ≤ 200000))]
 | 21, l => [.dI (xG2 (gI l 0) (gI l 1) (gI l 2) (gI l 3) (gB l 4) (gB l 5) (gB l 6) (gB l 7) (gI l 8) (gB l 9)), .dB (decide (0 ≤ gI l 1 ∧ gI l 1 ≤ 200000 ∧ 0 ≤ gI l 2 ∧ gI l 2 ≤ 200000))]
 | 22, l => [.dB (xJ0 (gI l 0) (gI l 1) (gB l 2) (gB l 3) (gB l 4) (gB l 5) (gB l 6))]
 | 23, l => xFQ l
 | 24, l => xFR l
 | 25, l => [.dI (xEm (gI l 0) (gI l 1) (gI l 2)).1, .dB (xEm (gI l 0) (gI l 1) (gI l 2)).2, .dB (decide (0 ≤ gI l 0 ∧ gI l 1 ≤ 100000 ∧ gI l 1 - gI l 0 ≤ 7 ∧ 0 ≤ gI l 2 ∧ gI l 2 ≤ 255))]
 | 26, l => xFO l
 | 27, l => xFS l
 | 28, l => let s := (sOf l).setBusy (gB l 22); [.dB s.due, .dB s.busy, .dI s.left, .dB (decide (okL l))]
 | 29, l => let s := (sOf l).setWant (gB l 22); [.dB s.wants, .dI s.left, .dB (decide (okL l))]
 | 30, l => xFN l
 | k, l => xJP k l
end
end Go.Proofs.YtenkabjkgngcdaaGreat.Ab
