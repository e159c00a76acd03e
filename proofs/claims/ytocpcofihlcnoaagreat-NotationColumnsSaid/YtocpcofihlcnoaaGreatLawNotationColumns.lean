/- The law 'NotationColumns', for every input, as the given row states it: out of its pure statement and the walk of the program. No condition. -/
import Derived.Test.YtocpcofihlcnoaaGreatRows
import Derived.Test.YtocpcofihlcnoaaGreatPureNotationColumns
import Derived.Test.YtocpcofihlcnoaaGreatXRow
import Derived.WalkKit
import Derived.ProofKit
import Derived.OpenShut
import Derived.ShutString
import Derived.ChangeOld
import Derived.Below
import Derived.SizedLaws
namespace Go.Proofs.YtocpcofihlcnoaaGreat.notationColumns
open Go.ChangeShapes Go.WideShapes Go.ChangeAt Go.RowKit Go.Proofs.YtocpcofihlcnoaaGreat.PNC Go.Proofs.YtocpcofihlcnoaaGreatW.PrintWords Go.Proofs.YtocpcofihlcnoaaGreatW.PrintLast Go.Proofs.YtocpcofihlcnoaaGreatW.PrintMore
open Go.ChangeMaps (open_string shut_string)
set_option linter.unusedVariables false
theorem own : ownKnob Tryz.prog.godebug = none := by kernel_rfl
theorem laidOut : laidOutB Tryz.prog = true := by kernel_rfl
set_option maxRecDepth 100000 in
theorem rd0 : Reads Tryz.prog 22 (Kd.int .u8) theorbolaw03_NotationColumns.good0 := (Reads.int Tryz.underlying22)
set_option maxRecDepth 100000 in
theorem rd1 : Reads Tryz.prog 29 (Kd.pair (Kd.pair (Kd.slice 99 k99) (Kd.slice 3 (Kd.int .i64))) (Kd.slice 46 k46)) theorbolaw03_NotationColumns.good1 := (Reads.struct Tryz.underlying29 (by kernel_rfl) (ReadsF.cons rfl (by kernel_rfl) (Reads.struct Tryz.underlying26 (by kernel_rfl) (ReadsF.cons rfl (by kernel_rfl) (Reads.slice Tryz.underlying23 (by kernel_rfl) (Reads.iso (Reads.struct Tryz.underlying99 (by kernel_rfl) (ReadsF.cons rfl (by kernel_rfl) (Reads.int Tryz.underlying3) (ReadsF.cons rfl (by kernel_rfl) (Reads.int Tryz.underlying3) (ReadsF.one rfl (by kernel_rfl) (Reads.bool Tryz.underlying4))))) (fun b : S99 => (b.f0, b.f1, b.f2)) (fun x => ⟨x.1, x.2.1, x.2.2⟩) (fun _ => rfl))) (ReadsF.one rfl (by kernel_rfl) (Reads.slice Tryz.underlying24 (by kernel_rfl) (Reads.int Tryz.underlying3))))) (ReadsF.one rfl (by kernel_rfl) (Reads.slice Tryz.underlying27 (by kernel_rfl) (Reads.iso (Reads.struct Tryz.underlying46 (by kernel_rfl) (ReadsF.cons rfl (by kernel_rfl) (Reads.bool Tryz.underlying4) (ReadsF.cons rfl (by kernel_rfl) (Reads.iso (Reads.struct Tryz.underlying43 (by kernel_rfl) (ReadsF.cons rfl (by kernel_rfl) (Reads.int Tryz.underlying3) (ReadsF.cons rfl (by kernel_rfl) (Reads.bool Tryz.underlying4) (ReadsF.one rfl (by kernel_rfl) (Reads.bool Tryz.underlying4))))) (fun b : S43 => (b.f0, b.f1, b.f2)) (fun x => ⟨x.1, x.2.1, x.2.2⟩) (fun _ => rfl)) (ReadsF.cons rfl (by kernel_rfl) (Reads.bool Tryz.underlying4) (ReadsF.one rfl (by kernel_rfl) (Reads.slice Tryz.underlying44 (by kernel_rfl) (Reads.iso (Reads.struct Tryz.underlying54 (by kernel_rfl) (ReadsF.cons rfl (by kernel_rfl) (Reads.int Tryz.underlying3) (ReadsF.cons rfl (by kernel_rfl) (Reads.int Tryz.underlying3) (ReadsF.cons rfl (by kernel_rfl) (Reads.int Tryz.underlying3) (ReadsF.cons rfl (by kernel_rfl) (Reads.int Tryz.underlying3) (ReadsF.one rfl (by kernel_rfl) (Reads.int Tryz.underlying3))))))) (fun b : S54 => (b.f0, b.f1, b.f2, b.f3, b.f4)) (fun x => ⟨x.1, x.2.1, x.2.2.1, x.2.2.2.1, x.2.2.2.2⟩) (fun _ => rfl)))))))) (fun b : S46 => (b.f0, b.f1, b.f2, b.f3)) (fun x => ⟨x.1, x.2.1, x.2.2.1, x.2.2.2⟩) (fun _ => rfl))))))
set_option maxHeartbeats 800000 in
set_option maxRecDepth 100000 in
theorem lifted (os : Os) (started : os.Started) (H : Type) (enc : TypeId × Value → H) :
    ReturnsInHanded {} Tryz.checked os 4 .any (Rows.notationColumnsSpec.pre6 enc Tryz.prog Tryz.f4 Rows.notationColumnsRow.domain false) (Rows.notationColumnsSpec.post enc Tryz.prog Tryz.f4 false true false false) := by
  refine returnsInHanded_of_change_sized (C := Tryz.checked) own started (by kernel_rfl) Tryz.func4
    (ChangeSpec.witness6 (enc := enc) (C := Tryz.checked) false ⟨#[], #[.int .u8 0, .agg #[.slice none 0 0, .slice none 0 0, .slice none 0 0]], []⟩ 8 (by kernel_rfl) (by kernel_rfl) (by kernel_rfl) (by kernel_rfl)) ?_
  intro W base args ds gs before hval0 hW hcnd hsz0 _
  have hval : ∀ (j : Nat) t v, Tryz.f4.params[j]? = some t → args[j]? = some v → Value.okWide Tryz.prog W .any base t v := hval0
  have hW' := hW
  obtain ⟨p, q, hA0, hV, rfl, hfz, hnd⟩ := hW
  have hA : DataW.TrodAll enc Tryz.prog W 0 (fun _ => true) true Tryz.f4.params.toList args.toList ds p := hA0
  rw [Tryz.params4] at hA hval
  obtain ⟨v0, vs0, d0, ds0, p0, q0, hargs, rfl, rfl, h0, r0⟩ := trodAll_cons hA
  obtain ⟨v1, vs1, d1, ds1, p1, q1, rfl, rfl, rfl, h1, r1⟩ := trodAll_cons r0
  obtain ⟨rfl, rfl, rfl⟩ := trodAll_nil r1
  obtain rfl : args = #[v0, v1] := by cases args; simp_all
  obtain ⟨rfl, rfl⟩ := trodVars_none hV
  have k0 := h0
  have lt0 : ∀ x ∈ p0, x.block < W.heap.size := by obtain ⟨m, hm⟩ := k0; exact DataW.trod_lt m _ _ _ hm
  obtain ⟨fuel0, hf0⟩ := h0
  obtain ⟨a0, hk0, hg0⟩ := rd0 H enc W fuel0 _ _ hf0
  obtain ⟨b0, rfl⟩ := okWide_int Tryz.underlying22 (hval 0 22 v0 rfl rfl)
  have eb0 : b0 = a0 := by simpa [Value.cells, Kd.int, Kd.bool, Kd.string, Kd.scalar] using hk0
  subst b0
  have k1 := h1
  have lt1 : ∀ x ∈ p1, x.block < W.heap.size := by obtain ⟨m, hm⟩ := k1; exact DataW.trod_lt m _ _ _ hm
  obtain ⟨fuel1, hf1⟩ := h1
  obtain ⟨⟨⟨l1_0, l1_1⟩, l1_2⟩, hk1, hg1⟩ := rd1 H enc W fuel1 _ _ hf1
  obtain ⟨cs1, rfl, _⟩ := okWide_struct Tryz.underlying29 (hval 1 29 v1 rfl rfl)
  generalize hcs1 : (Value.agg cs1).cells.toList = L1 at hk1
  obtain ⟨_, _, rfl, ⟨_, _, rfl, ⟨A1_0, c1_0, rfl, hc1_0, hr1_0⟩, ⟨A1_1, c1_1, rfl, hc1_1, hr1_1⟩⟩, ⟨A1_2, c1_2, rfl, hc1_2, hr1_2⟩⟩ := hk1
  obtain rfl : cs1 = #[.slice A1_0 l1_0.length c1_0, .slice A1_1 l1_1.length c1_1, .slice A1_2 l1_2.length c1_2] := by
    apply Array.ext'
    simpa [Value.cells] using hcs1
  obtain ⟨k, h⟩ := Pure.NotationColumns a0 l1_0 l1_1 l1_2 hg0 hg1
  clear hA0 hval0 hsz0
  refine (theorbolaw03_NotationColumns.calls k a0 A1_0 c1_0 l1_0 A1_1 c1_1 l1_1 A1_2 c1_2 l1_2 true W hr1_0 hc1_0 hr1_1 hc1_1 hr1_2 hc1_2 h).mono fun e W' ⟨he, bel0⟩ => ?_
  have bel : Below W.heap.size W W' := bel0
  subst he
  exact ⟨_, rfl, _, _, _, [], _, [], hW', trodAll_mk1 (shut_bool Tryz.underlying4 _), (trodAll_cons_mk (Below.trod laidOut (by kernel_rfl) (of_decide_eq_true (by kernel_rfl)) k0 bel lt0) (trodAll_cons_mk (Below.trod laidOut (by kernel_rfl) (of_decide_eq_true (by kernel_rfl)) k1 bel lt1) trodAll_mk0)), rfl, bel.frame _, fun h => by cases h⟩
theorem over : Rows.notationColumnsRow.holds Tryz.pinned (OpenSpec.ofChange Rows.notationColumnsSpec) :=
  OpenClaim.holds_of_wide 4 Tryz.f4 rfl rfl rfl rfl rfl rfl rfl ⟨rfl, rfl, rfl, rfl, rfl⟩ rfl rfl rfl rfl rfl (by kernel_rfl) Tryz.func4 (by kernel_rfl)
    (of_decide_eq_true (by kernel_rfl)) (by unfold Func.isWrapper; first | (rw [if_pos (by decide +kernel)]; kernel_rfl) | (rw [if_neg (by decide +kernel)]; exact ⟨rfl, rfl⟩))
    (fun os started H enc _ => lifted os started H enc)
theorem proved : Rows.NotationColumnsSaid := over
#print axioms proved
end Go.Proofs.YtocpcofihlcnoaaGreat.notationColumns
namespace Go.Proofs.YtocpcofihlcnoaaGreat
/-- The row, under a short name, for the claim. -/
theorem notationColumns_holds : Rows.NotationColumnsSaid := notationColumns.proved
end Go.Proofs.YtocpcofihlcnoaaGreat
