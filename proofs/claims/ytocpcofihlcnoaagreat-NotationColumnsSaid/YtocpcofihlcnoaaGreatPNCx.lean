-- made by xprint.py (ours) out of the translation
import Derived.Test.YtocpcofihlcnoaaGreatPNCx0
import Derived.Test.YtocpcofihlcnoaaGreatPNCx1
import Derived.Test.YtocpcofihlcnoaaGreatPNCx2
import Derived.Test.YtocpcofihlcnoaaGreatPNCx3
import Derived.Test.YtocpcofihlcnoaaGreatPNCx4
import Derived.Test.YtocpcofihlcnoaaGreatPNCx5
import Derived.Test.YtocpcofihlcnoaaGreatPNCx6
import Derived.Test.YtocpcofihlcnoaaGreatPNCx7
import Derived.Test.YtocpcofihlcnoaaGreatPNCx8
import Derived.Test.YtocpcofihlcnoaaGreatPNCx9
import Derived.Test.YtocpcofihlcnoaaGreatPNCx10
import Derived.Test.YtocpcofihlcnoaaGreatPNCx11
namespace Go.Proofs.YtocpcofihlcnoaaGreat.PNC
open Go.RowKit Go.Proofs.YtocpcofihlcnoaaGreatW.PrintWords Go.Proofs.YtocpcofihlcnoaaGreatW.PrintLast Go.Proofs.YtocpcofihlcnoaaGreatW.PrintMore
attribute [local go_sem] max2_int min2_int max_two min_two max_three min_three max_four min_four   -- for this text's walks alone
set_option linter.unusedVariables false
set_option linter.unusedSimpArgs false

end Go.Proofs.YtocpcofihlcnoaaGreat.PNC
