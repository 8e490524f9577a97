/- The walks of some functions of the program, printed by a program of this session out of the translation: conditions as each theorem states them. -/
import Derived.Test.YtjhaaaljlpcnaaaDoorA0
import Derived.Test.YtjhaaaljlpcnaaaDoorA1
import Derived.Test.YtjhaaaljlpcnaaaDoorA2
namespace Go.Proofs.YtjhaaaljlpcnaaaDoor.A
open Go.RowKit Go.Proofs.YtjhaaaljlpcnaaaDoorW.PrintWords Go.Proofs.YtjhaaaljlpcnaaaDoorW.PrintLast Go.Proofs.YtjhaaaljlpcnaaaDoorW.PrintMore Go.Proofs.YtjhaaaljlpcnaaaDoor.X
attribute [local go_sem] max2_int min2_int max_two min_two max_three min_three max_four min_four   -- for this text's walks alone
set_option linter.unusedVariables false
set_option linter.unusedSimpArgs false

end Go.Proofs.YtjhaaaljlpcnaaaDoor.A
