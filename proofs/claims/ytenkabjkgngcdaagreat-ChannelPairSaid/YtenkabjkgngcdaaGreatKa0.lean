import Derived.Test.YtenkabjkgngcdaaGreatProg
import Derived.WalkKit
import Derived.WalkLawsBesides
import Derived.WalkSpells
import Derived.Outline
import Derived.Laws.BitsAllLaws
import Derived.Laws.BytesArg
import Derived.Laws.IdiomStrings
import Derived.Lib.BufferRead
import Derived.Lib.Hide
import Derived.Deep.QuietTactic
import Derived.BigQuiet
import Derived.Deep.RegionHeld3
import Derived.Deep.RegionWith
import Derived.IntWalk
import Derived.OwnWalk
import Derived.Laws.MakeOwn
import Derived.Laws.Bits128
import Derived.ProofKit
import Derived.OpenShut
import Derived.ShutString
import Derived.ChangeOld
import Derived.Below
import Derived.Carry
import Derived.Deep.Fields
import Derived.Lib.SmallJoins
set_option linter.unusedVariables false
set_option linter.unusedSimpArgs false
set_option linter.unusedSectionVars false
namespace Go.Proofs.YtenkabjkgngcdaaGreat
open Go.RowKit
def S (l : List UInt8) : ByteArray := ⟨l.toArray⟩
@[go_sem] theorem xH7 (l : List UInt8) : (S l).toList = l := by simp [S, ByteArray.toList_eq]
@[go_sem] theorem zSs (l : List UInt8) : (S l).size = l.length := rfl
@[go_sem] theorem xH8 (a b : List UInt8) : S a ++ S b = S (a ++ b) := by
 apply ByteArray.ext; simp [S]
@[go_sem] theorem xHf (l : List UInt8) (a b : Nat) : (S l).extract a b = S ((l.drop a).take (b - a)) := by
 apply ByteArray.ext; simp [S]
attribute [go_sem] List.drop_zero List.take_succ_cons List.take_zero List.drop_succ_cons List.take_nil List.drop_nil List.cons_append List.nil_append List.append_nil
attribute [go_sem] List.getElem_cons_zero List.getElem_cons_succ List.length_cons List.length_nil
end Go.Proofs.YtenkabjkgngcdaaGreat
namespace Go.Proofs.YtenkabjkgngcdaaGreat
open Go.RowKit
def b8 (x : Int) : UInt8 := UInt8.ofNat x.toNat
theorem xI5 (c : UInt8) : b8 (c.toNat : Int) = c := by
 simp [b8]
theorem xJR {P : Program} (w : World) (src dst e : TypeId) (hs : P.underlying src = some (.slice e)) (he : P.underlying e = some (.int .u8)) (hd : P.underlying dst = some .string) (c : Nat) (xs : List Int) :
  (convert src dst (.slice (some ⟨w.heap.size, 0, none⟩) xs.length c)).run P (w.alloc (.cells (xs.map (Value.int .u8)).toArray e)) = .ok (.string (S (xs.map b8))) (w.alloc (.cells (xs.map (Value.int .u8)).toArray e)) := by
 have := run_convert_bytes_arg (P := P) (w.alloc (.cells (xs.map (Value.int .u8)).toArray e)) src e hs he w.heap.size 0 xs.length c xs rfl (fun i hi => by
  rw [World.cell?_alloc_at _ _ _ _ (by simp)]; simp [hi]) dst hd
 rw [this]; rfl
@[go_sem] theorem xJS {P : Program} (w : World) (src dst e : TypeId) (hs : P.underlying src = some (.slice e)) (he : P.underlying e = some (.int .u8)) (hd : P.underlying dst = some .string) (c : Nat) (x : Int) :
  (convert src dst (.slice (some ⟨w.heap.size, 0, none⟩) 1 c)).run P (w.alloc (.cells #[.int .u8 x] e)) = .ok (.string (S [b8 x])) (w.alloc (.cells #[.int .u8 x] e)) := xJR w src dst e hs he hd c [x]
theorem xDj {P : Program} (t e : TypeId) (z : Value) (bytes : Nat) (ht : P.underlying t = some (.slice e)) (hinfo : (P.info? e).map (fun i => (i.zero, i.size, i.bytes)) = some (some z, 1, bytes)) (hz1 : z.cells = #[z])
  (l c : Nat) (hlc : l ≤ c) (hby : bytes ≤ 1024) (hc : c ≤ 4294967296) (w : World) :
  (Instr.makeSlice t (.int .i64 (l : Int)) (.int .i64 (c : Int))).run P w = .ok (.slice (some ⟨w.heap.size, 0, none⟩) l c) (w.alloc (.cells (madeCells #[z] c) e)) := by
 obtain ⟨i0, hi, hz0, hz1', hz2⟩ := info_parts hinfo;have hb : (i0.bytes : Int) * (c : Int) ≤ 1024 * 4294967296 := by
  rw [hz2];exact Int.mul_le_mul (by omega) (by omega) (by omega) (by omega)
 have := run_make (P := P) w t e i0 z ht hi hz0 .i64 .i64 (l : Int) (c : Int) (by omega) (by omega) (by omega) (by omega)
 rw [this, hz1', hz1];simp
end Go.Proofs.YtenkabjkgngcdaaGreat
namespace Go.Proofs.YtenkabjkgngcdaaGreat
open Go.ChangeShapes Go.WideShapes Go.ChangeAt Go.RowKit Go.Deep
theorem own : ownKnob Tryz.prog.godebug = none := by kernel_rfl
theorem laidOut : laidOutB Tryz.prog = true := by kernel_rfl
section
variable {H : Type} {enc : TypeId × Value → H} {P : Program} {w : World} {base : Nat} {spare : Nat → Bool} {held : Bool}
theorem zZi {r : Reach} {b0 : Nat} {t : TypeId} {fs : Array Field} {v : Value} {d : DataW H} {p : List MemPlace} (hs : P.underlying t = some (.struct fs)) (hone : oneCellFields P fs = true) (hC : P.cellsOf t = fs.size)
  (hv : Value.okWide P w r b0 t v) (h : DataW.Trod enc P w base spare held t v d p) :
  ∃ (l : List Value) (n : Nat), v = .agg l.toArray ∧ l.length = fs.size ∧ ∀ (j : Nat) (f : Field), fs[j]? = some f → ∃ (c : Value) (y : DataW H × List MemPlace), l[j]? = some c ∧ DataW.trod enc P w base spare held n f.type [c] = some y := by
 obtain ⟨cs, rfl, hsz⟩ := okWide_struct hs hv;obtain ⟨l⟩ := cs;have hl : l.length = fs.size := by simpa using hsz.trans hC
 obtain ⟨fuel, hf⟩ := h;obtain ⟨xs, n, _, hx, _, hlen, hg⟩ := DataW.trod_struct hs hf;refine ⟨l, n, rfl, hl, fun j f hj => ?_⟩;obtain ⟨o, k⟩ := hone_of hone j f hj;have hjl : j < fs.size := (Array.getElem?_eq_some_iff.1 hj).1;have h1 := hg j f hj;rw [o, k] at h1;have hv : l[j]? = some (l[j]'(by omega)) := List.getElem?_eq_getElem (by omega)
 have hone' : (((Value.agg l.toArray).cells.toList.drop j).take 1) = [l[j]'(by omega)] := by
  simp only [Value.cells];rw [List.drop_eq_getElem_cons (by omega)]
  rfl
 rw [hone'] at h1;have hys : xs[j]? = some (xs[j]'(by omega)) := List.getElem?_eq_getElem (by omega)
 exact ⟨_, _, hv, h1.trans hys⟩
end
end Go.Proofs.YtenkabjkgngcdaaGreat
