-- made by xprint.py (ours) out of the translation
import Derived.Test.YtocpcofihlcnoaaPNCellsx0
import Derived.Test.YtocpcofihlcnoaaPNCellsx1
import Derived.Test.YtocpcofihlcnoaaPNCellsx2
import Derived.Test.YtocpcofihlcnoaaPNCellsx3
import Derived.Test.YtocpcofihlcnoaaPNCellsx4
import Derived.Test.YtocpcofihlcnoaaPNCellsx5
import Derived.Test.YtocpcofihlcnoaaPNCellsx6
import Derived.Test.YtocpcofihlcnoaaPNCellsx7
import Derived.Test.YtocpcofihlcnoaaPNCellsx8
import Derived.Test.YtocpcofihlcnoaaPNCellsx9
import Derived.Test.YtocpcofihlcnoaaPNCellsx10
import Derived.Test.YtocpcofihlcnoaaPNCellsx11
import Derived.Test.YtocpcofihlcnoaaPNCellsx12
import Derived.Test.YtocpcofihlcnoaaPNCellsx13
import Derived.Test.YtocpcofihlcnoaaPNCellsx14
namespace Go.Proofs.Ytocpcofihlcnoaa.PNCells
open Go.RowKit Go.Proofs.YtocpcofihlcnoaaW.PrintWords Go.Proofs.YtocpcofihlcnoaaW.PrintLast Go.Proofs.YtocpcofihlcnoaaW.PrintMore
attribute [local go_sem] max2_int min2_int max_two min_two max_three min_three max_four min_four   -- for this text's walks alone
set_option linter.unusedVariables false
set_option linter.unusedSimpArgs false

end Go.Proofs.Ytocpcofihlcnoaa.PNCells
