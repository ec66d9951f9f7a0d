/- The statement FnSwingsOfSaid is proved, for every input, without a condition. -/
import Derived.Test.YtbbgojaloebknaaVcR4
namespace Go.Proofs.Ytbbgojaloebknaa
theorem FnSwingsOf_proved : Rows.FnSwingsOfSaid := Vc.FnSwingsOf_holds
end Go.Proofs.Ytbbgojaloebknaa
