-- the one pure statement of the law
import Derived.Test.YtocpcofihlcnoaaPNCellsx
namespace Go.Proofs.Ytocpcofihlcnoaa.PNCells
open Go.RowKit Go.Proofs.YtocpcofihlcnoaaW.PrintWords Go.Proofs.YtocpcofihlcnoaaW.PrintLast Go.Proofs.YtocpcofihlcnoaaW.PrintMore
set_option linter.unusedVariables false
def theorbolaw03_NotationCells.good0 : Int → Prop := (fun n : Int => (Lit.int .u8 n).wf = true)
def theorbolaw03_NotationCells.good1 : (Int) × (Int) × (Int) × (Int) × (Int) → Prop := (fun x : (Int) × (Int) × (Int) × (Int) × (Int) => (fun n : Int => (Lit.int .i64 n).wf = true) x.1 ∧ (fun x : (Int) × (Int) × (Int) × (Int) => (fun n : Int => (Lit.int .i64 n).wf = true) x.1 ∧ (fun x : (Int) × (Int) × (Int) => (fun n : Int => (Lit.int .i64 n).wf = true) x.1 ∧ (fun x : (Int) × (Int) => (fun n : Int => (Lit.int .i64 n).wf = true) x.1 ∧ (fun n : Int => (Lit.int .i64 n).wf = true) x.2) x.2) x.2) x.2)
def theorbolaw03_NotationCells.good2 : Int → Prop := (fun n : Int => (Lit.int .i64 n).wf = true)
def theorbolaw03_NotationCells.Pure : Prop := ∀ (a0 : Int) (a1_0 : Int) (a1_1 : Int) (a1_2 : Int) (a1_3 : Int) (a1_4 : Int) (a2 : Int), theorbolaw03_NotationCells.good0 a0 → theorbolaw03_NotationCells.good1 (a1_0, a1_1, a1_2, a1_3, a1_4) → theorbolaw03_NotationCells.good2 a2 → ∃ k, theorbolaw03_NotationCells.f k a0 a1_0 a1_1 a1_2 a1_3 a1_4 a2 = some true
end Go.Proofs.Ytocpcofihlcnoaa.PNCells
