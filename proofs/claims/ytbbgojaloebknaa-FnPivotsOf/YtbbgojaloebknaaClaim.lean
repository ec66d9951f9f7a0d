/- The statement FnPivotsOfSaid is proved, for every input, without a condition. -/
import Derived.Test.YtbbgojaloebknaaVcR7
namespace Go.Proofs.Ytbbgojaloebknaa
theorem FnPivotsOf_proved : Rows.FnPivotsOfSaid := Vc.FnPivotsOf_holds
end Go.Proofs.Ytbbgojaloebknaa
