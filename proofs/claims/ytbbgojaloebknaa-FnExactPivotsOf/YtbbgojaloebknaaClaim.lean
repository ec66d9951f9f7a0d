/- The statement FnExactPivotsOfSaid is proved, for every input, without a condition. -/
import Derived.Test.YtbbgojaloebknaaVcR5
namespace Go.Proofs.Ytbbgojaloebknaa
theorem FnExactPivotsOf_proved : Rows.FnExactPivotsOfSaid := Vc.FnExactPivotsOf_holds
end Go.Proofs.Ytbbgojaloebknaa
