/- The law 'NotationCells', for every input, as the given row states it: out of its pure statement and the walk of the program. No condition. -/
import Derived.Test.YtocpcofihlcnoaaRows
import Derived.Test.YtocpcofihlcnoaaPureNotationCells
import Derived.Test.YtocpcofihlcnoaaXRow
import Derived.WalkKit
import Derived.ProofKit
import Derived.OpenShut
import Derived.ShutString
import Derived.ChangeOld
import Derived.Below
import Derived.SizedLaws
namespace Go.Proofs.Ytocpcofihlcnoaa.notationCells
open Go.ChangeShapes Go.WideShapes Go.ChangeAt Go.RowKit Go.Proofs.Ytocpcofihlcnoaa.PNCells Go.Proofs.YtocpcofihlcnoaaW.PrintWords Go.Proofs.YtocpcofihlcnoaaW.PrintLast Go.Proofs.YtocpcofihlcnoaaW.PrintMore
open Go.ChangeMaps (open_string shut_string)
set_option linter.unusedVariables false
theorem own : ownKnob Try.prog.godebug = none := by kernel_rfl
theorem laidOut : laidOutB Try.prog = true := by kernel_rfl
set_option maxRecDepth 100000 in
theorem rd0 : Reads Try.prog 22 (Kd.int .u8) theorbolaw03_NotationCells.good0 := (Reads.int Try.underlying22)
set_option maxRecDepth 100000 in
theorem rd1 : Reads Try.prog 24 (Kd.pair (Kd.int .i64) (Kd.pair (Kd.int .i64) (Kd.pair (Kd.int .i64) (Kd.pair (Kd.int .i64) (Kd.int .i64))))) theorbolaw03_NotationCells.good1 := (Reads.struct Try.underlying24 (by kernel_rfl) (ReadsF.cons rfl (by kernel_rfl) (Reads.int Try.underlying3) (ReadsF.cons rfl (by kernel_rfl) (Reads.int Try.underlying3) (ReadsF.cons rfl (by kernel_rfl) (Reads.int Try.underlying3) (ReadsF.cons rfl (by kernel_rfl) (Reads.int Try.underlying3) (ReadsF.one rfl (by kernel_rfl) (Reads.int Try.underlying3)))))))
set_option maxRecDepth 100000 in
theorem rd2 : Reads Try.prog 3 (Kd.int .i64) theorbolaw03_NotationCells.good2 := (Reads.int Try.underlying3)
set_option maxHeartbeats 800000 in
set_option maxRecDepth 100000 in
theorem lifted (os : Os) (started : os.Started) (H : Type) (enc : TypeId × Value → H) :
    ReturnsInHanded {} Try.checked os 3 .any (Rows.notationCellsSpec.pre6 enc Try.prog Try.f3 Rows.notationCellsRow.domain false) (Rows.notationCellsSpec.post enc Try.prog Try.f3 false true false false) := by
  refine returnsInHanded_of_change_sized (C := Try.checked) own started (by kernel_rfl) Try.func3
    (ChangeSpec.witness6 (enc := enc) (C := Try.checked) false ⟨#[], #[.int .u8 0, .agg #[.int .i64 0, .int .i64 0, .int .i64 0, .int .i64 0, .int .i64 0], .int .i64 0], []⟩ 8 (by kernel_rfl) (by kernel_rfl) (by kernel_rfl) (by kernel_rfl)) ?_
  intro W base args ds gs before hval0 hW hcnd hsz0 _
  have hval : ∀ (j : Nat) t v, Try.f3.params[j]? = some t → args[j]? = some v → Value.okWide Try.prog W .any base t v := hval0
  have hW' := hW
  obtain ⟨p, q, hA0, hV, rfl, hfz, hnd⟩ := hW
  have hA : DataW.TrodAll enc Try.prog W 0 (fun _ => true) true Try.f3.params.toList args.toList ds p := hA0
  rw [Try.params3] at hA hval
  obtain ⟨v0, vs0, d0, ds0, p0, q0, hargs, rfl, rfl, h0, r0⟩ := trodAll_cons hA
  obtain ⟨v1, vs1, d1, ds1, p1, q1, rfl, rfl, rfl, h1, r1⟩ := trodAll_cons r0
  obtain ⟨v2, vs2, d2, ds2, p2, q2, rfl, rfl, rfl, h2, r2⟩ := trodAll_cons r1
  obtain ⟨rfl, rfl, rfl⟩ := trodAll_nil r2
  obtain rfl : args = #[v0, v1, v2] := by cases args; simp_all
  obtain ⟨rfl, rfl⟩ := trodVars_none hV
  have k0 := h0
  have lt0 : ∀ x ∈ p0, x.block < W.heap.size := by obtain ⟨m, hm⟩ := k0; exact DataW.trod_lt m _ _ _ hm
  obtain ⟨fuel0, hf0⟩ := h0
  obtain ⟨a0, hk0, hg0⟩ := rd0 H enc W fuel0 _ _ hf0
  obtain ⟨b0, rfl⟩ := okWide_int Try.underlying22 (hval 0 22 v0 rfl rfl)
  have eb0 : b0 = a0 := by simpa [Value.cells, Kd.int, Kd.bool, Kd.string, Kd.scalar] using hk0
  subst b0
  have k1 := h1
  have lt1 : ∀ x ∈ p1, x.block < W.heap.size := by obtain ⟨m, hm⟩ := k1; exact DataW.trod_lt m _ _ _ hm
  obtain ⟨fuel1, hf1⟩ := h1
  obtain ⟨⟨a1_0, a1_1, a1_2, a1_3, a1_4⟩, hk1, hg1⟩ := rd1 H enc W fuel1 _ _ hf1
  obtain ⟨cs1, rfl, _⟩ := okWide_struct Try.underlying24 (hval 1 24 v1 rfl rfl)
  generalize hcs1 : (Value.agg cs1).cells.toList = L1 at hk1
  obtain ⟨_, _, rfl, rfl, ⟨_, _, rfl, rfl, ⟨_, _, rfl, rfl, ⟨_, _, rfl, rfl, rfl⟩⟩⟩⟩ := hk1
  obtain rfl : cs1 = #[(.int .i64 a1_0), (.int .i64 a1_1), (.int .i64 a1_2), (.int .i64 a1_3), (.int .i64 a1_4)] := by
    apply Array.ext'
    simpa [Value.cells] using hcs1
  have k2 := h2
  have lt2 : ∀ x ∈ p2, x.block < W.heap.size := by obtain ⟨m, hm⟩ := k2; exact DataW.trod_lt m _ _ _ hm
  obtain ⟨fuel2, hf2⟩ := h2
  obtain ⟨a2, hk2, hg2⟩ := rd2 H enc W fuel2 _ _ hf2
  obtain ⟨b2, rfl⟩ := okWide_int Try.underlying3 (hval 2 3 v2 rfl rfl)
  have eb2 : b2 = a2 := by simpa [Value.cells, Kd.int, Kd.bool, Kd.string, Kd.scalar] using hk2
  subst b2
  obtain ⟨k, h⟩ := Pure.NotationCells a0 a1_0 a1_1 a1_2 a1_3 a1_4 a2 hg0 hg1 hg2
  clear hA0 hval0 hsz0
  refine (theorbolaw03_NotationCells.calls k a0 a1_0 a1_1 a1_2 a1_3 a1_4 a2 true W h).mono fun e W' ⟨he, bel0⟩ => ?_
  have bel : Below W.heap.size W W' := bel0
  subst he
  exact ⟨_, rfl, _, _, _, [], _, [], hW', trodAll_mk1 (shut_bool Try.underlying4 _), (trodAll_cons_mk (Below.trod laidOut (by kernel_rfl) (of_decide_eq_true (by kernel_rfl)) k0 bel lt0) (trodAll_cons_mk (Below.trod laidOut (by kernel_rfl) (of_decide_eq_true (by kernel_rfl)) k1 bel lt1) (trodAll_cons_mk (Below.trod laidOut (by kernel_rfl) (of_decide_eq_true (by kernel_rfl)) k2 bel lt2) trodAll_mk0))), rfl, bel.frame _, fun h => by cases h⟩
theorem over : Rows.notationCellsRow.holds Try.pinned (OpenSpec.ofChange Rows.notationCellsSpec) :=
  OpenClaim.holds_of_wide 3 Try.f3 rfl rfl rfl rfl rfl rfl rfl ⟨rfl, rfl, rfl, rfl, rfl⟩ rfl rfl rfl rfl rfl (by kernel_rfl) Try.func3 (by kernel_rfl)
    (of_decide_eq_true (by kernel_rfl)) (by unfold Func.isWrapper; first | (rw [if_pos (by decide +kernel)]; kernel_rfl) | (rw [if_neg (by decide +kernel)]; exact ⟨rfl, rfl⟩))
    (fun os started H enc _ => lifted os started H enc)
theorem proved : Rows.NotationCellsSaid := over
#print axioms proved
end Go.Proofs.Ytocpcofihlcnoaa.notationCells
namespace Go.Proofs.Ytocpcofihlcnoaa
/-- The row, under a short name, for the claim. -/
theorem notationCells_holds : Rows.NotationCellsSaid := notationCells.proved
end Go.Proofs.Ytocpcofihlcnoaa
