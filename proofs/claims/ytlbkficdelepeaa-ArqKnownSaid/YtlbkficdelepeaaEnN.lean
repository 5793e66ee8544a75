/-
  ArqEnds: the law's tree.
  No condition.
-/
import Derived.Test.YtlbkficdelepeaaEnL
namespace Go.Proofs.Ytlbkficdelepeaa.Ab
set_option linter.unusedSimpArgs false
set_option linter.unusedVariables false
open Go
noncomputable section
abbrev nEn_0 : Tm := (tp [(vt 5), (vt 6), (vt 7), (vt 8), (vt 9), (vt 10), (vt 11), (vt 12), (vt 13), (vt 14), (vt 15), (vt 16), (vt 17), (vt 18), (vt 19), (vt 20), (vt 21), (vt 22), (vt 23), (vt 24), (vt 25), (vt 26), (vt 27), (vt 28), (.cb false)])
abbrev nEn_1 : Tm := (tp [(vt 29), (vt 30), (vt 31), (vt 32), (vt 33), (vt 34), (vt 35), (vt 36), (vt 37), (vt 38), (vt 39), (vt 40), (vt 41), (vt 42), (vt 43), (vt 44), (vt 45), (vt 46), (vt 47), (vt 48), (vt 49), (vt 50), (vt 51), (vt 52), (.cb false)])
abbrev nEn_2 : Tm := (tp [(vt 128), (vt 129), (vt 130), (vt 131), (vt 132), (vt 133), (vt 134), (vt 135), (vt 136), (vt 137), (vt 138), (vt 139), (vt 140), (vt 141), (vt 142), (vt 143), (vt 144), (vt 145), (vt 146), (vt 147), (vt 148), (vt 149), (vt 150), (vt 151), (vt 152), (vt 153), (vt 154), (vt 155), (vt 156), (vt 157), (vt 158), (vt 159), (vt 160), (vt 161), (vt 162), (vt 163), (vt 164), (vt 165), (vt 166), (vt 167), (vt 168), (vt 169), (vt 170), (vt 171), (vt 172), (vt 173), (vt 174), (vt 175), (vt 176), (vt 177), (vt 178), (vt 179), (vt 180), (vt 181), (vt 182), (vt 183), (vt 184), (vt 185), (vt 186)])
def nEn : (Tree AV) :=
 (.fork (.ib .gtr .i64 (.llen (vt 0)) (.ci 200))
 (.leaf (.bool true))
 (.fork (.ib .geq .i64 (vt 1) (.ci 1))
  (.fork (.ib .leq .i64 (vt 1) (.ci 7))
   (.fork (.ib .geq .i64 (vt 2) (.ci 0))
    (.fork (.ib .leq .i64 (vt 2) (.ci 255))
     (.fork (.ib .geq .i64 (vt 3) (.ci 1))
      (.fork (.ib .gtr .i64 (vt 3) (.ci 255))
       (.leaf (.bool true))
       (.fork (.ib .gtr .i64 (vt 3) (.ci 40))
        (.leaf (.bool true))
        (.fork (.app 771 nEn_0)
         (.fork (.app 771 nEn_1)
          (.fork (.app 3457 nEn_2)
           (.fork (.not (.app 3456 nEn_2))
            (.leaf (.bool false))
            (.fork (.app 129 (tp [(vt 128), (vt 132)]))
             (.fork (.app 129 (tp [(vt 152), (vt 156)]))
              (.fork (vt 140)
               (.leaf (.bool true))
               (.fork (vt 164)
                (.leaf (.bool true))
                (.fork (.ib .eql .i64 (vt 145) (.ci 0))
                 (.fork (.ib .eql .i64 (vt 169) (.ci 0))
                  (.fork (.ib .eql .i64 (vt 178) (vt 176))
                   (.fork (.ib .eql .i64 (vt 179) (vt 177))
                    (.leaf (.bool true))
                    (.leaf (.bool false)))
                   (.leaf (.bool false)))
                  (.leaf (.bool false)))
                 (.leaf (.bool false)))))
              .fail)
             .fail))
           .fail)
          .fail)
         .fail)))
      (.leaf (.bool true)))
     (.leaf (.bool true)))
    (.leaf (.bool true)))
   (.leaf (.bool true)))
  (.leaf (.bool true))))
set_option maxRecDepth 100000 in
theorem nEn_eq : lawEn gAe gBe gCe = nEn := by kernel_rfl
end
end Go.Proofs.Ytlbkficdelepeaa.Ab
