-- made by xprint.py (ours) out of the translation
import Derived.Test.YtocpcofihlcnoaaGreatPNLx0
import Derived.Test.YtocpcofihlcnoaaGreatPNLx1
import Derived.Test.YtocpcofihlcnoaaGreatPNLx2
import Derived.Test.YtocpcofihlcnoaaGreatPNLx3
import Derived.Test.YtocpcofihlcnoaaGreatPNLx4
import Derived.Test.YtocpcofihlcnoaaGreatPNLx5
import Derived.Test.YtocpcofihlcnoaaGreatPNLx6
import Derived.Test.YtocpcofihlcnoaaGreatPNLx7
import Derived.Test.YtocpcofihlcnoaaGreatPNLx8
import Derived.Test.YtocpcofihlcnoaaGreatPNLx9
import Derived.Test.YtocpcofihlcnoaaGreatPNLx10
import Derived.Test.YtocpcofihlcnoaaGreatPNLx11
import Derived.Test.YtocpcofihlcnoaaGreatPNLx12
import Derived.Test.YtocpcofihlcnoaaGreatPNLx13
import Derived.Test.YtocpcofihlcnoaaGreatPNLx14
import Derived.Test.YtocpcofihlcnoaaGreatPNLx15
import Derived.Test.YtocpcofihlcnoaaGreatPNLx16
import Derived.Test.YtocpcofihlcnoaaGreatPNLx17
namespace Go.Proofs.YtocpcofihlcnoaaGreat.PNL
open Go.RowKit Go.Proofs.YtocpcofihlcnoaaGreatW.PrintWords Go.Proofs.YtocpcofihlcnoaaGreatW.PrintLast Go.Proofs.YtocpcofihlcnoaaGreatW.PrintMore
attribute [local go_sem] max2_int min2_int max_two min_two max_three min_three max_four min_four   -- for this text's walks alone
set_option linter.unusedVariables false
set_option linter.unusedSimpArgs false

end Go.Proofs.YtocpcofihlcnoaaGreat.PNL
