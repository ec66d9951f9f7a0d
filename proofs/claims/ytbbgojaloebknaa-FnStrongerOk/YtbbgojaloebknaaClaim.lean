/- The statement FnStrongerOkSaid is proved, for every input, without a condition. -/
import Derived.Test.YtbbgojaloebknaaVcR8
namespace Go.Proofs.Ytbbgojaloebknaa
theorem FnStrongerOk_proved : Rows.FnStrongerOkSaid := Vc.FnStrongerOk_holds
end Go.Proofs.Ytbbgojaloebknaa
