import Derived.Test.YtenkabjkgngcdaaGreatKb4
import Derived.Test.YtenkabjkgngcdaaGreatKb9
import Derived.Test.YtenkabjkgngcdaaGreatKb6
import Derived.Test.YtenkabjkgngcdaaGreatKa3
import Derived.Test.YtenkabjkgngcdaaGreatKa4
import Derived.Test.YtenkabjkgngcdaaGreatKa8
set_option linter.unusedVariables false
set_option linter.unusedSimpArgs false
set_option linter.unusedSectionVars false
namespace Go.Proofs.YtenkabjkgngcdaaGreat.Ab
open Go
noncomputable section
abbrev zVP : Nat × AObj := (0, .row [.ptr 1 0, .ptr 2 0, .ptr 4 0, .ptr 5 0, .ptr 6 0, .ptr 7 0, .ptr 9 0, bv 39, bv 40, iv 41, iv 42, iv 43, iv 44, iv 45, iv 46, uv 47, uv 48, bv 49, .sslice 10 1 y50 y51, iv 53, uv 54, bv 55, uv 56, bv 57, uv 58, uv 59, .sstr y60, uv 61, bv 62, uv 63, bv 64, uv 65, uv 66, .sstr y67] true false)
abbrev zNH : Nat × AObj := (1, .row [uv 0, bv 1, iv 2, iv 3] true true)
abbrev zLN : Nat × AObj := (2, .row [uv 4, uv 5, uv 6, iv 7, iv 8, iv 9, iv 10, bv 11, bv 12, bv 13, bv 14, bv 15, bv 16, iv 17, iv 18, iv 19, .sslice 3 1 y20 y21, iv 23, bv 24, bv 25, bv 26, bv 27] true false)
abbrev zG6 : Nat × AObj := (3, .seq [.ks] y22 true)
abbrev zG7 : Nat × AObj := (4, .row [bv 28] true true)
abbrev zJj : Nat × AObj := (5, .row [iv 29, iv 30] true true)
abbrev zJk : Nat × AObj := (6, .row [iv 31, iv 32, iv 33] true true)
abbrev zYZ : Nat × AObj := (7, .row [.sslice 8 1 (.ci 0) y36, iv 34, .sint .i64 (.len y35)] true false)
abbrev zRj : Nat × AObj := (8, .abs 2 (.pair y34 (.pair y36 y35)))
abbrev zHg : Nat × AObj := (9, .abs 1 (.pair y37 y38))
abbrev zNI : Nat × AObj := (10, .seq [.ks] y52 true)
def poC : List (Nat × AObj) :=
 [zVP, zNH, zLN, zG6, zG7, zJj, zJk, zYZ, zRj, zHg, zNI]
def SCWant : Sum :=
 ⟨11, 68, [.ptr 0 0], poC, 11, .tuple [], [zVP, zNH, (2, .row [uv 4, uv 5, uv 6, iv 7, iv 8, iv 9, iv 68, bv 11, bv 12, bv 13, bv 14, bv 69, bv 16, iv 17, iv 18, iv 19, .sslice 3 1 y20 y21, iv 23, bv 24, bv 25, bv 26, bv 27] true false), zG6, zG7, zJj, zJk, zYZ, zRj, zHg, zNI], [4, 5, 6, 7, 8, 9, 10, 11, 12, 13, 14, 15, 16, 17, 18, 19, 20, 21, 22, 23, 24, 25, 26, 27, 48, 35, 29]⟩
abbrev zVO : Nat × AObj := (11, .row [uv 69, bv 70, iv 71, iv 72] true true)
def SCEnd : Sum :=
 ⟨11, 69, [.ptr 0 0, uv 68], poC, 12, .tuple [], [(0, .row [.ptr 11 0, .ptr 2 0, .ptr 4 0, .ptr 5 0, .ptr 6 0, .ptr 7 0, .ptr 9 0, bv 39, bv 40, iv 41, iv 42, iv 43, iv 44, iv 45, iv 46, uv 47, uv 68, bv 49, .nilSlice, .int .i64 0, uv 54, bv 55, uv 56, bv 57, uv 58, uv 59, .sstr y60, .int .u8 0, .bool false, .int .u8 0, .bool false, .int .u8 0, .int .u8 0, .str []] true false), zVO, zLN, zG6, zG7, zJj, zJk, (7, .row [.sslice 8 1 (.ci 0) y36, iv 73, .int .i64 0] true false), (8, .abs 2 (.pair y73 (.pair y36 (.cs [])))), zHg], [0, 1, 2, 3, 34, 35, 36, 44]⟩
def SCDoes : Sum :=
 ⟨11, 73, [.ptr 0 0, .agg [uv 68, bv 69, bv 70, uv 71, uv 72]], poC, 13, .tuple [], [(0, .row [.ptr 11 0, .ptr 2 0, .ptr 4 0, .ptr 5 0, .ptr 6 0, .ptr 7 0, .ptr 9 0, bv 39, bv 40, iv 41, iv 42, iv 43, iv 44, iv 45, iv 46, uv 47, uv 79, bv 80, .sslice 12 1 y81 y82, iv 84, uv 85, bv 86, uv 87, bv 88, uv 89, uv 90, .sstr y91, uv 92, bv 93, uv 94, bv 95, uv 96, uv 97, .sstr y98] true false), (11, .row
 [uv 73, bv 74, iv 75, iv 76] true true), zLN, zG6, zG7, zJj, zJk, (7, .row [.sslice 8 1 (.ci 0) y36, iv 77, .sint .i64 (.len y78)] true false), (8, .abs 2 (.pair y77 (.pair y36 y78))), zHg, (12, .seq [.ks] y83 true)], [0, 1, 2, 3, 34, 35, 36, 42, 44, 47, 48, 49, 50, 51, 52, 53, 54, 55, 56, 57, 58, 59, 60, 61, 62, 63, 64, 65, 66, 67, 68, 69, 70, 71, 72]⟩
abbrev xF9 : Nat × AObj := (0, .row [.ptr 11 0, .ptr 2 0, .ptr 4 0, .ptr 5 0, .ptr 6 0, .ptr 7 0, .ptr 9 0, bv 39, bv 40, iv 41, iv 42, iv 43, iv 44, iv 45, iv 46, uv 47, uv 75, bv 76, .sslice 12 1 y77 y78, iv 80, uv 81, bv 82, uv 83, bv 84, uv 85, uv 86, .sstr y87, uv 88, bv 89, uv 90, bv 91, uv 92, uv 93, .sstr y94] true false)
abbrev xAU : Nat × AObj := (7, .row [.sslice 8 1 (.ci 0) y36, iv 73, .sint .i64 (.len y74)] true false)
def SCOpen : Sum :=
 ⟨11, 68, [.ptr 0 0], poC, 13, iv 68, [xF9, zVO, zLN, zG6, zG7, zJj, zJk, xAU, (8, .abs 2 (.pair y73 (.pair y36 y74))), zHg, (12, .seq [.ks] y79 true)], [0, 1, 2, 3, 34, 35, 36, 42, 44, 47, 48, 49, 50, 51, 52, 53, 54, 55, 56, 57, 58, 59, 60, 61, 62, 63, 64, 65, 66, 67]⟩
def SCClose : Sum :=
 ⟨11, 68, [.ptr 0 0], poC, 13, iv 68, [xF9, zVO, zLN, zG6, zG7, zJj, zJk, xAU, (8, .abs 2 (.pair y73 (.pair y36 y74))), zHg, (12, .seq [.ks] y79 true)], [0, 1, 2, 3, 34, 35, 36, 42, 44, 47, 48, 49, 50, 51, 52, 53, 54, 55, 56, 57, 58, 59, 60, 61, 62, 63, 64, 65, 66, 67]⟩
def SCWrite : Sum :=
 ⟨11, 69, [.ptr 0 0, .sstr y68], poC, 11, .tuple [iv 69, iv 70], [zVP, zNH, (2, .row [uv 4, uv 5, uv 6, iv 7, iv 8, iv 9, iv 72, bv 11, bv 12, bv 13, bv 14, bv 73, bv 16, iv 17, iv 18, iv 19, .sslice 3 1 y20 y21, iv 23, bv 24, bv 25, bv 26, bv 27] true false), zG6, zG7, zJj, zJk, (7, .row [.sslice 8 1 (.ci 0) y36, iv 34, .sint .i64 (.len y71)] true false), (8, .abs 2 (.pair y34 (.pair y36 y71))), zHg, zNI], [4, 5, 6, 7, 8, 9, 10, 11, 12, 13, 14, 15, 16, 17, 18, 19, 20, 21, 22, 23, 24, 25, 26, 27, 48, 35, 29, 36, 68]⟩
def SCRead : Sum :=
 ⟨11, 69, [.ptr 0 0, iv 68], poC, 11, .sstr y69, [zVP, zNH, zLN, zG6, zG7, zJj, (6, .row [iv 71, iv 32, iv 72] true true), zYZ, zRj, (9, .abs 1 (.pair y37 y70)), zNI], [38, 31, 33, 68]⟩
def SCNumbered : Sum :=
 ⟨11, 75, [.ptr 0 0, .agg [uv 68, bv 69, uv 70, bv 71, uv 72, uv 73, .sstr y74]], poC, 13, .tuple [], [(0, .row [.ptr 11 0, .ptr 2 0, .ptr 4 0, .ptr 5 0, .ptr 6 0, .ptr 7 0, .ptr 9 0, bv 39, bv 40, iv 41, iv 42, iv 43, iv 44, iv 45, iv 46, uv 47, uv 101, bv 49, .sslice 12 1 y102 zMA, iv 105, uv 54, bv 55, uv 56, bv 57, uv 58, uv 59, .sstr y60, uv 106, bv 107, uv 108, bv 109, uv 110, uv 111, .sstr
 y112] true false), (11, .row [uv 95, bv 96, iv 97, iv 98] true true), (2, .row [uv 75, uv 5, uv 76, iv 7, iv 77, iv 78, iv 79, bv 80, bv 12, bv 81, bv 82, bv 15, bv 83, iv 17, iv 18, iv 19, .sslice 3 1 y84 y85, iv 86, bv 87, bv 88, bv 89, bv 90] true false), zG6, (4, .row [bv 91] true true), (5, .row [iv 92, iv 30] true true), (6, .row [iv 93, iv 32, iv 33] true true), (7, .row [.sslice 8 1 (.ci
 0) y36, iv 99, .sint .i64 (.len zFV)] true false), (8, .abs 2 (.pair y99 (.pair y36 zFV))), (9, .abs 1 (.pair y37 y94)), (12, .seq [.ks] y104 true)], List.range 75⟩
def SCLinked : Sum :=
 ⟨11, 75, [.ptr 0 0, .agg [uv 68, bv 69, uv 70, bv 71, uv 72, uv 73, .sstr y74]], poC, 13, .tuple [], [(0, .row [.ptr 11 0, .ptr 2 0, .ptr 4 0, .ptr 5 0, .ptr 6 0, .ptr 7 0, .ptr 9 0, bv 39, bv 40, iv 41, iv 42, iv 43, iv 44, iv 45, iv 46, uv 47, uv 81, bv 82, .sslice 12 1 y83 y84, iv 86, uv 87, bv 88, uv 89, bv 90, uv 91, uv 92, .sstr y93, uv 94, bv 95, uv 96, bv 97, uv 98, uv 99, .sstr zFV] true
 false), (11, .row [uv 75, bv 76, iv 77, iv 78] true true), zLN, zG6, zG7, zJj, zJk, (7, .row [.sslice 8 1 (.ci 0) y36, iv 79, .sint .i64 (.len y80)] true false), (8, .abs 2 (.pair y79 (.pair y36 y80))), zHg, (12, .seq [.ks] y85 true)], [0, 1, 2, 3, 34, 35, 36, 42, 44, 47, 48, 49, 50, 51, 52, 53, 54, 55, 56, 57, 58, 59, 60, 61, 62, 63, 64, 65, 66, 67, 70, 71, 69]⟩
def SCHear : Sum :=
 ⟨11, 75, [.ptr 0 0, .agg [uv 68, bv 69, uv 70, bv 71, uv 72, uv 73, .sstr y74]], poC, 13, .tuple [], [(0, .row [.ptr 11 0, .ptr 2 0, .ptr 4 0, .ptr 5 0, .ptr 6 0, .ptr 7 0, .ptr 9 0, bv 39, bv 40, iv 41, iv 42, iv 43, iv 44, iv 45, iv 46, uv 47, uv 102, bv 103, .sslice 12 1 y104 zMB, iv 107, uv 108, bv 109, uv 110, bv 111, uv 112, uv 113, .sstr y114, uv 115, bv 116, uv 117, bv 118, uv 119, uv 120,
 .sstr xEs] true false), (11, .row [uv 96, bv 97, iv 98, iv 99] true true), (2, .row [uv 75, uv 5, uv 76, iv 7, iv 77, iv 78, iv 79, bv 80, bv 12, bv 81, bv 82, bv 91, bv 83, iv 17, iv 18, iv 19, .sslice 3 1 y84 y85, iv 86, bv 87, bv 88, bv 89, bv 90] true false), zG6, (4, .row [bv 92] true true), (5, .row [iv 93, iv 30] true true), (6, .row [iv 94, iv 32, iv 33] true true), (7, .row [.sslice 8 1
 (.ci 0) y36, iv 100, .sint .i64 (.len y101)] true false), (8, .abs 2 (.pair zFV (.pair y36 y101))), (9, .abs 1 (.pair y37 y95)), (12, .seq [.ks] zKe true)], List.range 75⟩
def SCTick : Sum :=
 ⟨11, 68, [.ptr 0 0], poC, 13, .tuple [], [(0, .row [.ptr 11 0, .ptr 2 0, .ptr 4 0, .ptr 5 0, .ptr 6 0, .ptr 7 0, .ptr 9 0, bv 39, bv 40, iv 41, iv 42, iv 43, iv 44, iv 45, iv 46, uv 47, uv 80, bv 81, .sslice 12 1 y82 y83, iv 85, uv 86, bv 87, uv 88, bv 89, uv 90, uv 91, .sstr y92, uv 93, bv 94, uv 95, bv 96, uv 97, uv 98, .sstr y99] true false), (11, .row [uv 74, bv 75, iv 76, iv 77] true true), (2,
 .row [uv 4, uv 5, uv 6, iv 7, iv 8, iv 68, iv 69, bv 11, bv 12, bv 13, bv 70, bv 71, bv 72, iv 17, iv 18, iv 19, .sslice 3 1 y20 y21, iv 23, bv 24, bv 25, bv 26, bv 73] true false), zG6, zG7, zJj, zJk, (7, .row [.sslice 8 1 (.ci 0) y36, iv 78, .sint .i64 (.len y79)] true false), (8, .abs 2 (.pair y78 (.pair y36 y79))), zHg, (12, .seq [.ks] y84 true)], List.range 68⟩
def SCHas : Sum :=
 ⟨11, 69, [.ptr 0 0, bv 68], poC, 11, bv 69, [zVP, zNH, zLN, zG6, zG7, zJj, zJk, zYZ, zRj, zHg, zNI], [4, 5, 6, 7, 8, 9, 10, 11, 12, 13, 14, 15, 16, 17, 18, 19, 20, 21, 22, 23, 24, 25, 26, 27, 29, 31, 33, 35, 45, 46, 48, 51, 56, 63, 68]⟩
def SCCut : Sum :=
 ⟨11, 68, [.ptr 0 0], poC, 12, bv 68, [(0, .row [.ptr 1 0, .ptr 2 0, .ptr 4 0, .ptr 5 0, .ptr 6 0, .ptr 7 0, .ptr 9 0, bv 39, bv 40, iv 41, iv 42, iv 43, iv 44, iv 45, iv 46, uv 47, uv 48, bv 49, .sslice 11 1 y72 y73, iv 53, uv 54, bv 55, uv 56, bv 57, uv 58, uv 59, .sstr y60, uv 61, bv 62, uv 63, bv 64, uv 65, uv 66, .sstr y67] true false), zNH, zLN, zG6, zG7, (5, .row [iv 69, iv 30] true
 true), zJk, (7, .row [.sslice 8 1 (.ci 0) y36, iv 70, .sint .i64 (.len y71)] true false), (8, .abs 2 (.pair y70 (.pair y36 y71))), zHg, (11, .seq [.ks] y74 true)], [29, 34, 35, 36, 41, 50, 51, 52]⟩
def SCFill : Sum :=
 ⟨11, 69, [.ptr 0 0, bv 68], poC, 13, .tuple [], [(0, .row [.ptr 1 0, .ptr 2 0, .ptr 4 0, .ptr 5 0, .ptr 6 0, .ptr 7 0, .ptr 9 0, bv 39, bv 40, iv 41, iv 42, iv 43, iv 44, iv 45, iv 46, uv 47, uv 48, bv 49, .sslice 11 1 y77 y78, iv 53, uv 54, bv 55, uv 56, bv 57, uv 58, uv 59, .sstr y60, uv 61, bv 62, uv 63, bv 64, uv 65, uv 66, .sstr y67] true false), zNH, (2, .row [uv 4, uv 5, uv 6, iv 7, iv 8,
 iv 9, iv 69, bv 11, bv 12, bv 13, bv 14, bv 15, bv 16, iv 17, iv 18, iv 19, .sslice 12 1 y70 y71, iv 23, bv 24, bv 25, bv 26, bv 27] true false), (12, .seq [.ks] y72 true), zG7, (5, .row [iv 73, iv 30] true true), (6, .row [iv 31, iv 32, iv 74] true true), (7, .row [.sslice 8 1 (.ci 0) y36, iv 75, .sint .i64 (.len y76)] true false), (8, .abs 2 (.pair y75 (.pair y36 y76))), zHg, (11, .seq [.ks]
 y79 true)], [4, 5, 6, 7, 8, 9, 10, 11, 12, 13, 14, 15, 16, 17, 18, 19, 20, 21, 22, 23, 24, 25, 26, 27, 29, 31, 33, 34, 35, 36, 41, 45, 46, 50, 51, 52, 68]⟩
def SCNext : Sum :=
 ⟨11, 69, [.ptr 0 0, bv 68], poC, 13, .tuple [.agg [uv 69, bv 70, uv 71, bv 72, uv 73, uv 74, .sstr y75], bv 76], [(0, .row [.ptr 1 0, .ptr 2 0, .ptr 4 0, .ptr 5 0, .ptr 6 0, .ptr 7 0, .ptr 9 0, bv 39, bv 40, iv 41, iv 42, iv 43, iv 44, iv 45, iv 46, uv 47, uv 48, bv 49, .sslice 11 1 y92 y93, iv 53, uv 95, bv 96, uv 97, bv 98, uv 99, uv 100, .sstr y101, uv 102, bv 103, uv 104, bv 105, uv 106, uv 107,
 .sstr zOP] true false), zNH, (2, .row [uv 4, uv 5, uv 6, iv 7, iv 77, iv 9, iv 78, bv 11, bv 12, bv 13, bv 14, bv 79, bv 16, iv 17, iv 18, iv 19, .sslice 12 1 y80 y81, iv 83, bv 84, bv 85, bv 86, bv 87] true false), (12, .seq [.ks] y82 true), zG7, (5, .row [iv 88, iv 30] true true), (6, .row [iv 31, iv 32, iv 89] true true), (7, .row [.sslice 8 1 (.ci 0) y36, iv 90, .sint .i64 (.len y91)] true
 false), (8, .abs 2 (.pair y90 (.pair y36 y91))), zHg, (11, .seq [.ks] y94 true)], List.range 69⟩
abbrev zRk : Nat × AObj := (0, .row [uv 0, bv 1, iv 2, iv 3] true true)
abbrev zVN : Nat × AObj := (0, .row [uv 9, bv 1, iv 10, iv 3] true true)
def SLOpen : Sum :=
 ⟨1, 4, [.ptr 0 0], [zRk], 1, .agg [uv 4, bv 5, bv 6, uv 7, uv 8], [zVN], List.range 4⟩
def SLClose : Sum :=
 ⟨1, 4, [.ptr 0 0], [zRk], 1, .agg [uv 4, bv 5, bv 6, uv 7, uv 8], [zVN], List.range 4⟩
def SLDue : Sum :=
 ⟨1, 4, [.ptr 0 0], [zRk], 1, .agg [uv 4, bv 5, bv 6, uv 7, uv 8], [zVN], List.range 4⟩
def SLHear : Sum :=
 ⟨1, 7, [.ptr 0 0, uv 4, bv 5, bv 6], [zRk], 1, .agg [uv 7, bv 8, bv 9, uv 10, uv 11], [(0, .row [uv 12, bv 1, iv 13, iv 3] true true)], List.range 7⟩
end
end Go.Proofs.YtenkabjkgngcdaaGreat.Ab
namespace Go.Proofs.YtenkabjkgngcdaaGreat.Ab
open Go
noncomputable section
def xCl (t k : Tm) : Tm := .app 3520 (tp [t, k])
def zTY : List AV → Heap → Option (Tm × AV × Heap)
 | [s, n], H => match xEY s, zTi n with
  | some t, some k => some (zSr (zSr (zFA .leq .i64 (.ci 2) k) (zFA .leq .i64 k (.ci 128))) (zFA .leq .i64 (zCP t) (.ci 99999)),
    .tuple [.sslice H.next 1 (.ci 0) (.llen (xCl t k)), .int .i64 0], H.new (.seq [.ks] (xCl t k) true))
  | _, _ => none
 | _, _ => none
end
end Go.Proofs.YtenkabjkgngcdaaGreat.Ab
namespace Go.Proofs.YtenkabjkgngcdaaGreat.Ab
open Go
noncomputable section
def xEt : List (Nat × zM9) := [(61, zFX SHas 512 1), (74, zFX SPush 576 5), (52, zFX SNext 640 15), (94, zFX SHear 704 20), (63, zFX SWant 832 2), (50, zFX STick 896 9),
 (37, zWE), (147, zXc), (131, xCY), (30, xD4), (47, zZo),
 (29, xCW), (103, zWt), (67, zPT), (46, zZn), (146, zSe)]
def zZF : Env := ⟨zBP xEt, fun _ _ => none⟩
def xIH : List (Nat × zM9) := [(27, zFX SLOpen 2176 7), (33, zFX SLClose 2240 7), (49, zFX SLDue 2304 7), (93, zFX SLHear 2368 7)]
def xBM : List (Nat × zM9) := (28, zFX SCWant 2432 2) :: (32, zFX SCEnd 2496 5) :: (xIH ++ xEt)
def zPO : Env := ⟨zBP xBM, fun _ _ => none⟩
def xBL : List (Nat × zM9) := (26, zFX SCDoes 2560 26) :: xBM
def zPG : Env := ⟨zBP xBL, fun _ _ => none⟩
def xEU : List (Nat × zM9) := (58, zFX SCNumbered 3008 38) :: (57, zFX SCLinked 3072 26) :: xBL
def zXp : Env := ⟨zBP xEU, fun _ _ => none⟩
def xET : List (Nat × zM9) := (107, zTY) :: xEt
def xGn : Env := ⟨zBP xET, fun _ _ => none⟩
def xBK : List (Nat × zM9) := (75, zFX SCCut 3456 7) :: xEt
def xGm : Env := ⟨zBP xBK, fun _ _ => none⟩
def xES : List (Nat × zM9) := (25, zFX SCHas 3392 1) :: (51, zFX SCFill 3264 11) :: (28, zFX SCWant 2432 2) :: xEt
def xDK : Env := ⟨zBP xES, fun _ _ => none⟩
end
end Go.Proofs.YtenkabjkgngcdaaGreat.Ab
