/- The pure statement of the law FnExactConstants is proved. Conditions: those of the statement alone. -/
import Derived.Test.YtnibeghaebdajaaPFnExactConstantsx1
import Derived.Test.YtnibeghaebdajaaBase
import Derived.Test.YtnibeghaebdajaaBase2
import Derived.Test.YtnibeghaebdajaaBin
import Derived.Test.YtnibeghaebdajaaNum
namespace Go.Proofs.Ytnibeghaebdajaa.Pure
open Go.RowKit Go.Proofs.Ytnibeghaebdajaa.PFnExactConstants Go.Proofs.Ytnibeghaebdajaa.Base Go.Proofs.YtnibeghaebdajaaW.PrintWords Go.Proofs.YtnibeghaebdajaaW.PrintLast Go.Proofs.YtnibeghaebdajaaW.PrintMore
open Go.Proofs.Ytnibeghaebdajaa.Base.F
set_option linter.unusedVariables false
set_option linter.unusedSimpArgs false

theorem FnExactConstants : laws_FnExactConstants.Pure := rfl

end Go.Proofs.Ytnibeghaebdajaa.Pure
