-- the one pure statement of the law
import Derived.Test.YtocpcofihlcnoaaPNCellsx
namespace Go.Proofs.Ytocpcofihlcnoaa.PNCells
open Go.RowKit Go.Proofs.YtocpcofihlcnoaaW.PrintWords Go.Proofs.YtocpcofihlcnoaaW.PrintLast Go.Proofs.YtocpcofihlcnoaaW.PrintMore
set_option linter.unusedVariables false
def theorbolaw03_NotationReadsCells.good0 : (Int) × (Int) × (Int) × (ByteArray) → Prop := (fun x : (Int) × (Int) × (Int) × (ByteArray) => (fun n : Int => (Lit.int .u8 n).wf = true) x.1 ∧ (fun x : (Int) × (Int) × (ByteArray) => (fun n : Int => (Lit.int .i64 n).wf = true) x.1 ∧ (fun x : (Int) × (ByteArray) => (fun n : Int => (Lit.int .i64 n).wf = true) x.1 ∧ (fun s : ByteArray => s.size ≤ maxLen) x.2) x.2) x.2)
def theorbolaw03_NotationReadsCells.Pure : Prop := ∀ (a0_0 : Int) (a0_1 : Int) (a0_2 : Int) (a0_3 : ByteArray), theorbolaw03_NotationReadsCells.good0 (a0_0, a0_1, a0_2, a0_3) → ∃ k, theorbolaw03_NotationReadsCells.f k a0_0 a0_1 a0_2 a0_3 = some true
end Go.Proofs.Ytocpcofihlcnoaa.PNCells
