import Derived.Test.YtenkabjkgngcdaaGreatKc8
import Derived.Test.YtenkabjkgngcdaaGreatKd0
set_option linter.unusedVariables false
set_option linter.unusedSimpArgs false
set_option linter.unusedSectionVars false
namespace Go.Proofs.YtenkabjkgngcdaaGreat.Ab
open Go
noncomputable section
end
end Go.Proofs.YtenkabjkgngcdaaGreat.Ab
