/-
  msc.Put, called: what it answers.
  Conditions: a number of an octet lies from 0 to 255.
-/
import Derived.Test.YtamibbjpapkfeaaMscW
import Derived.Test.YtamibbjpapkfeaaMscR
namespace Go.Proofs.Ytamibbjpapkfeaa
set_option linter.unusedSimpArgs false
set_option linter.unusedVariables false
open Go.RowKit

theorem msc_Put (d : Int) (fc rtc rtr ic dv hb : Bool) (br : Int) (d0 : 0 ≤ d) (d1 : d ≤ 255) (b0 : 0 ≤ br) (b1 : br ≤ 255) (w : World) :
    Calls Try.prog 42 #[.agg #[.int .u8 d, .bool fc, .bool rtc, .bool rtr, .bool ic, .bool dv, .bool hb, .int .u8 br]] w fun e w' => e = .returned (.tuple #[.string (S (mput ⟨d, fc, rtc, rtr, ic, dv, hb, br⟩).1), .int .i64 (mput ⟨d, fc, rtc, rtr, ic, dv, hb, br⟩).2]) ∧ Below w.heap.size w w' := by
  cases hb
  · exact msc_Put0 d fc rtc rtr ic dv br d0 d1 b0 b1 w
  · exact msc_Put1 d fc rtc rtr ic dv br d0 d1 b0 b1 w

end Go.Proofs.Ytamibbjpapkfeaa
