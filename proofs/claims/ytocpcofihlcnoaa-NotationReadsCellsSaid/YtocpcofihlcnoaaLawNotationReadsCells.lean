/- The law 'NotationReadsCells', for every input, as the given row states it: out of its pure statement and the walk of the program. No condition. -/
import Derived.Test.YtocpcofihlcnoaaRows
import Derived.Test.YtocpcofihlcnoaaPureNotationReadsCells
import Derived.Test.YtocpcofihlcnoaaXRow
import Derived.WalkKit
import Derived.ProofKit
import Derived.OpenShut
import Derived.ShutString
import Derived.ChangeOld
import Derived.Below
import Derived.SizedLaws
namespace Go.Proofs.Ytocpcofihlcnoaa.notationReadsCells
open Go.ChangeShapes Go.WideShapes Go.ChangeAt Go.RowKit Go.Proofs.Ytocpcofihlcnoaa.PNCells Go.Proofs.YtocpcofihlcnoaaW.PrintWords Go.Proofs.YtocpcofihlcnoaaW.PrintLast Go.Proofs.YtocpcofihlcnoaaW.PrintMore
open Go.ChangeMaps (open_string shut_string)
set_option linter.unusedVariables false
theorem own : ownKnob Try.prog.godebug = none := by kernel_rfl
theorem laidOut : laidOutB Try.prog = true := by kernel_rfl
set_option maxRecDepth 100000 in
theorem rd0 : Reads Try.prog 34 (Kd.pair (Kd.int .u8) (Kd.pair (Kd.int .i64) (Kd.pair (Kd.int .i64) Kd.string))) theorbolaw03_NotationReadsCells.good0 := (Reads.struct Try.underlying34 (by kernel_rfl) (ReadsF.cons rfl (by kernel_rfl) (Reads.int Try.underlying22) (ReadsF.cons rfl (by kernel_rfl) (Reads.int Try.underlying3) (ReadsF.cons rfl (by kernel_rfl) (Reads.int Try.underlying3) (ReadsF.one rfl (by kernel_rfl) (Reads.string Try.underlying9))))))
set_option maxHeartbeats 800000 in
set_option maxRecDepth 100000 in
theorem lifted (os : Os) (started : os.Started) (H : Type) (enc : TypeId × Value → H) :
    ReturnsInHanded {} Try.checked os 4 .any (Rows.notationReadsCellsSpec.pre6 enc Try.prog Try.f4 Rows.notationReadsCellsRow.domain false) (Rows.notationReadsCellsSpec.post enc Try.prog Try.f4 false true false false) := by
  refine returnsInHanded_of_change_sized (C := Try.checked) own started (by kernel_rfl) Try.func4
    (ChangeSpec.witness6 (enc := enc) (C := Try.checked) false ⟨#[], #[.agg #[.int .u8 0, .int .i64 0, .int .i64 0, .string ByteArray.empty]], []⟩ 8 (by kernel_rfl) (by kernel_rfl) (by kernel_rfl) (by kernel_rfl)) ?_
  intro W base args ds gs before hval0 hW hcnd hsz0 _
  have hval : ∀ (j : Nat) t v, Try.f4.params[j]? = some t → args[j]? = some v → Value.okWide Try.prog W .any base t v := hval0
  have hW' := hW
  obtain ⟨p, q, hA0, hV, rfl, hfz, hnd⟩ := hW
  have hA : DataW.TrodAll enc Try.prog W 0 (fun _ => true) true Try.f4.params.toList args.toList ds p := hA0
  rw [Try.params4] at hA hval
  obtain ⟨v0, vs0, d0, ds0, p0, q0, hargs, rfl, rfl, h0, r0⟩ := trodAll_cons hA
  obtain ⟨rfl, rfl, rfl⟩ := trodAll_nil r0
  obtain rfl : args = #[v0] := by cases args; simp_all
  obtain ⟨rfl, rfl⟩ := trodVars_none hV
  have k0 := h0
  have lt0 : ∀ x ∈ p0, x.block < W.heap.size := by obtain ⟨m, hm⟩ := k0; exact DataW.trod_lt m _ _ _ hm
  obtain ⟨fuel0, hf0⟩ := h0
  obtain ⟨⟨a0_0, a0_1, a0_2, a0_3⟩, hk0, hg0⟩ := rd0 H enc W fuel0 _ _ hf0
  obtain ⟨cs0, rfl, _⟩ := okWide_struct Try.underlying34 (hval 0 34 v0 rfl rfl)
  generalize hcs0 : (Value.agg cs0).cells.toList = L0 at hk0
  obtain ⟨_, _, rfl, rfl, ⟨_, _, rfl, rfl, ⟨_, _, rfl, rfl, rfl⟩⟩⟩ := hk0
  obtain rfl : cs0 = #[(.int .u8 a0_0), (.int .i64 a0_1), (.int .i64 a0_2), (.string a0_3)] := by
    apply Array.ext'
    simpa [Value.cells] using hcs0
  obtain ⟨k, h⟩ := Pure.NotationReadsCells a0_0 a0_1 a0_2 a0_3 hg0
  clear hA0 hval0 hsz0
  refine (theorbolaw03_NotationReadsCells.calls k a0_0 a0_1 a0_2 a0_3 true W h).mono fun e W' ⟨he, bel0⟩ => ?_
  have bel : Below W.heap.size W W' := bel0
  subst he
  exact ⟨_, rfl, _, _, _, [], _, [], hW', trodAll_mk1 (shut_bool Try.underlying4 _), (trodAll_cons_mk (Below.trod laidOut (by kernel_rfl) (of_decide_eq_true (by kernel_rfl)) k0 bel lt0) trodAll_mk0), rfl, bel.frame _, fun h => by cases h⟩
theorem over : Rows.notationReadsCellsRow.holds Try.pinned (OpenSpec.ofChange Rows.notationReadsCellsSpec) :=
  OpenClaim.holds_of_wide 4 Try.f4 rfl rfl rfl rfl rfl rfl rfl ⟨rfl, rfl, rfl, rfl, rfl⟩ rfl rfl rfl rfl rfl (by kernel_rfl) Try.func4 (by kernel_rfl)
    (of_decide_eq_true (by kernel_rfl)) (by unfold Func.isWrapper; first | (rw [if_pos (by decide +kernel)]; kernel_rfl) | (rw [if_neg (by decide +kernel)]; exact ⟨rfl, rfl⟩))
    (fun os started H enc _ => lifted os started H enc)
theorem proved : Rows.NotationReadsCellsSaid := over
#print axioms proved
end Go.Proofs.Ytocpcofihlcnoaa.notationReadsCells
namespace Go.Proofs.Ytocpcofihlcnoaa
/-- The row, under a short name, for the claim. -/
theorem notationReadsCells_holds : Rows.NotationReadsCellsSaid := notationReadsCells.proved
end Go.Proofs.Ytocpcofihlcnoaa
