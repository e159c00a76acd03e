-- made by xprint.py (ours) out of the translation
import Derived.Test.YtocpcofihlcnoaaGreatPNCx0
import Derived.Test.YtocpcofihlcnoaaGreatPNCx2
import Derived.Test.YtocpcofihlcnoaaGreatPNCx3
namespace Go.Proofs.YtocpcofihlcnoaaGreat.PNC
open Go.RowKit Go.Proofs.YtocpcofihlcnoaaGreatW.PrintWords Go.Proofs.YtocpcofihlcnoaaGreatW.PrintLast Go.Proofs.YtocpcofihlcnoaaGreatW.PrintMore
attribute [local go_sem] max2_int min2_int max_two min_two max_three min_three max_four min_four   -- for this text's walks alone
set_option linter.unusedVariables false
set_option linter.unusedSimpArgs false

attribute [local go_sem high] eqA49
/-! ### notation_french_right: function 98 -/
def notation_french_right.f  (a1 : Int) : Option (ByteArray × Bool) := (notation_marked.f (([(⟨#[]⟩ : ByteArray), (⟨#[46]⟩ : ByteArray), (⟨#[58]⟩ : ByteArray), (⟨#[39]⟩ : ByteArray)] : List ByteArray)) a1).bind fun bt227 => (some (bt227.1, bt227.2))
set_option maxHeartbeats 8000000 in
set_option maxRecDepth 100000 in
theorem notation_french_right.calls  (a1 : Int) (r1 : ByteArray) (r2 : Bool) (w : World) (h : notation_french_right.f a1 = some (r1, r2)) :
    Calls Tryz.prog 98 #[.agg #[], .int .i64 a1] w fun e w' => e = .returned (.tuple #[.string r1, .bool r2]) ∧ Below w.heap.size w w' := by
  have hu78 := Tryz.underlying78
  have HB := Aside0.mk (Below.refl w.heap.size w)
  have H : ((notation_marked.f (([(⟨#[]⟩ : ByteArray), (⟨#[46]⟩ : ByteArray), (⟨#[58]⟩ : ByteArray), (⟨#[39]⟩ : ByteArray)] : List ByteArray)) a1).bind fun bt227 => (some (bt227.1, bt227.2))) = some (r1, r2) := h
  clear h
  obtain ⟨y224, hy224⟩ : ∃ y_ : List ByteArray, y_ = (([(⟨#[]⟩ : ByteArray), (⟨#[46]⟩ : ByteArray), (⟨#[58]⟩ : ByteArray), (⟨#[39]⟩ : ByteArray)] : List ByteArray)) := ⟨_, rfl⟩
  replace H : ((notation_marked.f y224 a1).bind fun bt227 => (some (bt227.1, bt227.2))) = some (r1, r2) := by first | (rw [hy224]; with_reducible exact H) | (have H2_ := (Option.bind_some _ _).symm.trans H; rw [hy224]; with_reducible exact H2_) | (have H2_ := (Option.bind_some _ _).symm.trans H; with_reducible exact H2_) | with_reducible exact H | (rw [hy224]; exact H) | exact H
  have Ny224 := Aside0.mk hy224
  clear hy224
  replace H := Option.bind_eq_some_iff.mp H
  obtain ⟨⟨t227, t228⟩, A30, H⟩ := H
  try dsimp only at H
  have A3 := Aside0.mk A30
  clear A30
  simp only [Option.some.injEq, Prod.mk.injEq] at H
  obtain ⟨rfl, rfl⟩ := H
  go_enter Tryz.func98, Tryz.ntmps98
  go_wp2_with (first | ((with_reducible refine gate_dst (N := 2) rfl ?_); refine bx_ 2 #[] 78 HB ?_; clear HB; intro gb223 w4 hg hb BK223 HB GW223; have GE223 := GW223; clear hg hb) | ((with_reducible refine gate_dst (N := 6) rfl ?_); refine Kd.R_lit Kd.string _ 9 ?hg (N := 6) ?hd (xs := ([(⟨#[]⟩ : ByteArray), (⟨#[46]⟩ : ByteArray), (⟨#[58]⟩ : ByteArray), (⟨#[39]⟩ : ByteArray)] : List ByteArray)) (inner := [.string (⟨#[]⟩ : ByteArray), .string (⟨#[46]⟩ : ByteArray), .string (⟨#[58]⟩ : ByteArray), .string (⟨#[39]⟩ : ByteArray)]) (ok := fun _ => True) (okp := fun _ => True) ?hr ?hp (fun _ hk => hk) trivial (Below.refl _ _) (Nat.le_refl _) (by simp) ?_; (case hd => rfl); (case hg => rfl); (case hr => first | (go_simp; done) | (go_simp; rfl)); (case hp => exact (Reps.one (show Kd.M Kd.string _ _ _ (⟨#[]⟩ : ByteArray) [.string (⟨#[]⟩ : ByteArray)] from rfl) (Reps.one (show Kd.M Kd.string _ _ _ (⟨#[46]⟩ : ByteArray) [.string (⟨#[46]⟩ : ByteArray)] from rfl) (Reps.one (show Kd.M Kd.string _ _ _ (⟨#[58]⟩ : ByteArray) [.string (⟨#[58]⟩ : ByteArray)] from rfl) (Reps.one (show Kd.M Kd.string _ _ _ (⟨#[39]⟩ : ByteArray) [.string (⟨#[39]⟩ : ByteArray)] from rfl) (Reps.none _ _)))))); intro v225 w5 ho6 hb hg_ hnew_; clear hg_ hnew_; (first | rw [← Ny224.out] at ho6 | (simp only [Int.reduceToNat] at ho6; rw [← Ny224.out] at ho6)); have HO226 := rl_ ho6 HB; replace BK223 := bb_ BK223 hb; replace HB := bs_ HB hb; clear hb ho6; obtain ⟨Ao7, co7, eo7⟩ := Kd.R_slice HO226.out; subst eo7) | ((with_reducible refine gate_callee (f := 100) rfl ?_); refine cl_ 100 (some 8) Tryz.func100 (notation_marked.calls _ _ y224 a1 t227 t228 _ (kq_ HO226) ((Kd.R_reads' HO226.out).2.1) A3.out) ?_; rintro e w' ⟨rfl, ⟨nd, rfl⟩⟩; refine ⟨_, rfl, ?_⟩))
  go_ret2
  exact ⟨rv_, bl_ HB⟩

/-! ### notation_italian_right: function 129 -/
def notation_italian_right.f  (a1 : Int) : Option (ByteArray × Bool) := (notation_marked.f (([(⟨#[]⟩ : ByteArray), (⟨#[46]⟩ : ByteArray)] : List ByteArray)) a1).bind fun bt239 => (some (bt239.1, bt239.2))
set_option maxHeartbeats 8000000 in
set_option maxRecDepth 100000 in
theorem notation_italian_right.calls  (a1 : Int) (r1 : ByteArray) (r2 : Bool) (w : World) (h : notation_italian_right.f a1 = some (r1, r2)) :
    Calls Tryz.prog 129 #[.agg #[], .int .i64 a1] w fun e w' => e = .returned (.tuple #[.string r1, .bool r2]) ∧ Below w.heap.size w w' := by
  have hu82 := Tryz.underlying82
  have HB := Aside0.mk (Below.refl w.heap.size w)
  have H : ((notation_marked.f (([(⟨#[]⟩ : ByteArray), (⟨#[46]⟩ : ByteArray)] : List ByteArray)) a1).bind fun bt239 => (some (bt239.1, bt239.2))) = some (r1, r2) := h
  clear h
  obtain ⟨y236, hy236⟩ : ∃ y_ : List ByteArray, y_ = (([(⟨#[]⟩ : ByteArray), (⟨#[46]⟩ : ByteArray)] : List ByteArray)) := ⟨_, rfl⟩
  replace H : ((notation_marked.f y236 a1).bind fun bt239 => (some (bt239.1, bt239.2))) = some (r1, r2) := by first | (rw [hy236]; with_reducible exact H) | (have H2_ := (Option.bind_some _ _).symm.trans H; rw [hy236]; with_reducible exact H2_) | (have H2_ := (Option.bind_some _ _).symm.trans H; with_reducible exact H2_) | with_reducible exact H | (rw [hy236]; exact H) | exact H
  have Ny236 := Aside0.mk hy236
  clear hy236
  replace H := Option.bind_eq_some_iff.mp H
  obtain ⟨⟨t239, t240⟩, A30, H⟩ := H
  try dsimp only at H
  have A3 := Aside0.mk A30
  clear A30
  simp only [Option.some.injEq, Prod.mk.injEq] at H
  obtain ⟨rfl, rfl⟩ := H
  go_enter Tryz.func129, Tryz.ntmps129
  go_wp2_with (first | ((with_reducible refine gate_dst (N := 2) rfl ?_); refine bx_ 2 #[] 82 HB ?_; clear HB; intro gb235 w4 hg hb BK235 HB GW235; have GE235 := GW235; clear hg hb) | ((with_reducible refine gate_dst (N := 6) rfl ?_); refine Kd.R_lit Kd.string _ 9 ?hg (N := 6) ?hd (xs := ([(⟨#[]⟩ : ByteArray), (⟨#[46]⟩ : ByteArray)] : List ByteArray)) (inner := [.string (⟨#[]⟩ : ByteArray), .string (⟨#[46]⟩ : ByteArray)]) (ok := fun _ => True) (okp := fun _ => True) ?hr ?hp (fun _ hk => hk) trivial (Below.refl _ _) (Nat.le_refl _) (by simp) ?_; (case hd => rfl); (case hg => rfl); (case hr => first | (go_simp; done) | (go_simp; rfl)); (case hp => exact (Reps.one (show Kd.M Kd.string _ _ _ (⟨#[]⟩ : ByteArray) [.string (⟨#[]⟩ : ByteArray)] from rfl) (Reps.one (show Kd.M Kd.string _ _ _ (⟨#[46]⟩ : ByteArray) [.string (⟨#[46]⟩ : ByteArray)] from rfl) (Reps.none _ _)))); intro v237 w5 ho6 hb hg_ hnew_; clear hg_ hnew_; (first | rw [← Ny236.out] at ho6 | (simp only [Int.reduceToNat] at ho6; rw [← Ny236.out] at ho6)); have HO238 := rl_ ho6 HB; replace BK235 := bb_ BK235 hb; replace HB := bs_ HB hb; clear hb ho6; obtain ⟨Ao7, co7, eo7⟩ := Kd.R_slice HO238.out; subst eo7) | ((with_reducible refine gate_callee (f := 100) rfl ?_); refine cl_ 100 (some 8) Tryz.func100 (notation_marked.calls _ _ y236 a1 t239 t240 _ (kq_ HO238) ((Kd.R_reads' HO238.out).2.1) A3.out) ?_; rintro e w' ⟨rfl, ⟨nd, rfl⟩⟩; refine ⟨_, rfl, ?_⟩))
  go_ret2
  exact ⟨rv_, bl_ HB⟩

/-! ### notation_spanish_right: function 137 -/
def notation_spanish_right.f  (a1 : Int) : Option (ByteArray × Bool) := some ((⟨#[]⟩ : ByteArray), (a1 == 0))
set_option maxHeartbeats 8000000 in
set_option maxRecDepth 100000 in
theorem notation_spanish_right.calls  (a1 : Int) (r1 : ByteArray) (r2 : Bool) (w : World) (h : notation_spanish_right.f a1 = some (r1, r2)) :
    Calls Tryz.prog 137 #[.agg #[], .int .i64 a1] w fun e w' => e = .returned (.tuple #[.string r1, .bool r2]) ∧ Below w.heap.size w w' := by
  have hu84 := Tryz.underlying84
  have HB := Aside0.mk (Below.refl w.heap.size w)
  have H : (some ((⟨#[]⟩ : ByteArray), (a1 == 0))) = some (r1, r2) := h
  clear h
  simp only [Option.some.injEq, Prod.mk.injEq] at H
  obtain ⟨rfl, rfl⟩ := H
  go_enter Tryz.func137, Tryz.ntmps137
  go_wp2_with (first | ((with_reducible refine gate_dst (N := 2) rfl ?_); refine bx_ 2 #[] 84 HB ?_; clear HB; intro gb247 w3 hg hb BK247 HB GW247; have GE247 := GW247; clear hg hb))
  go_ret2
  exact ⟨rv_, bl_ HB⟩

/-! ### notation_german_right: function 144 -/
def notation_german_right.f  (a1 : Int) : Option (ByteArray × Bool) := (notation_marked.f (([(⟨#[]⟩ : ByteArray), (⟨#[46]⟩ : ByteArray)] : List ByteArray)) a1).bind fun bt253 => (some (bt253.1, bt253.2))
set_option maxHeartbeats 8000000 in
set_option maxRecDepth 100000 in
theorem notation_german_right.calls  (a1 : Int) (r1 : ByteArray) (r2 : Bool) (w : World) (h : notation_german_right.f a1 = some (r1, r2)) :
    Calls Tryz.prog 144 #[.agg #[], .int .i64 a1] w fun e w' => e = .returned (.tuple #[.string r1, .bool r2]) ∧ Below w.heap.size w w' := by
  have hu86 := Tryz.underlying86
  have HB := Aside0.mk (Below.refl w.heap.size w)
  have H : ((notation_marked.f (([(⟨#[]⟩ : ByteArray), (⟨#[46]⟩ : ByteArray)] : List ByteArray)) a1).bind fun bt253 => (some (bt253.1, bt253.2))) = some (r1, r2) := h
  clear h
  obtain ⟨y250, hy250⟩ : ∃ y_ : List ByteArray, y_ = (([(⟨#[]⟩ : ByteArray), (⟨#[46]⟩ : ByteArray)] : List ByteArray)) := ⟨_, rfl⟩
  replace H : ((notation_marked.f y250 a1).bind fun bt253 => (some (bt253.1, bt253.2))) = some (r1, r2) := by first | (rw [hy250]; with_reducible exact H) | (have H2_ := (Option.bind_some _ _).symm.trans H; rw [hy250]; with_reducible exact H2_) | (have H2_ := (Option.bind_some _ _).symm.trans H; with_reducible exact H2_) | with_reducible exact H | (rw [hy250]; exact H) | exact H
  have Ny250 := Aside0.mk hy250
  clear hy250
  replace H := Option.bind_eq_some_iff.mp H
  obtain ⟨⟨t253, t254⟩, A30, H⟩ := H
  try dsimp only at H
  have A3 := Aside0.mk A30
  clear A30
  simp only [Option.some.injEq, Prod.mk.injEq] at H
  obtain ⟨rfl, rfl⟩ := H
  go_enter Tryz.func144, Tryz.ntmps144
  go_wp2_with (first | ((with_reducible refine gate_dst (N := 2) rfl ?_); refine bx_ 2 #[] 86 HB ?_; clear HB; intro gb249 w4 hg hb BK249 HB GW249; have GE249 := GW249; clear hg hb) | ((with_reducible refine gate_dst (N := 6) rfl ?_); refine Kd.R_lit Kd.string _ 9 ?hg (N := 6) ?hd (xs := ([(⟨#[]⟩ : ByteArray), (⟨#[46]⟩ : ByteArray)] : List ByteArray)) (inner := [.string (⟨#[]⟩ : ByteArray), .string (⟨#[46]⟩ : ByteArray)]) (ok := fun _ => True) (okp := fun _ => True) ?hr ?hp (fun _ hk => hk) trivial (Below.refl _ _) (Nat.le_refl _) (by simp) ?_; (case hd => rfl); (case hg => rfl); (case hr => first | (go_simp; done) | (go_simp; rfl)); (case hp => exact (Reps.one (show Kd.M Kd.string _ _ _ (⟨#[]⟩ : ByteArray) [.string (⟨#[]⟩ : ByteArray)] from rfl) (Reps.one (show Kd.M Kd.string _ _ _ (⟨#[46]⟩ : ByteArray) [.string (⟨#[46]⟩ : ByteArray)] from rfl) (Reps.none _ _)))); intro v251 w5 ho6 hb hg_ hnew_; clear hg_ hnew_; (first | rw [← Ny250.out] at ho6 | (simp only [Int.reduceToNat] at ho6; rw [← Ny250.out] at ho6)); have HO252 := rl_ ho6 HB; replace BK249 := bb_ BK249 hb; replace HB := bs_ HB hb; clear hb ho6; obtain ⟨Ao7, co7, eo7⟩ := Kd.R_slice HO252.out; subst eo7) | ((with_reducible refine gate_callee (f := 100) rfl ?_); refine cl_ 100 (some 8) Tryz.func100 (notation_marked.calls _ _ y250 a1 t253 t254 _ (kq_ HO252) ((Kd.R_reads' HO252.out).2.1) A3.out) ?_; rintro e w' ⟨rfl, ⟨nd, rfl⟩⟩; refine ⟨_, rfl, ?_⟩))
  go_ret2
  exact ⟨rv_, bl_ HB⟩

/-! ### dyn_notation_right: a method of an interface's value, by its tag -/
def dyn_notation_right.f (a0 : Int) (a1 : Int) : Option (ByteArray × Bool) := if a0 = 1 then notation_french_right.f a1 else if a0 = 2 then notation_italian_right.f a1 else if a0 = 3 then notation_spanish_right.f a1 else if a0 = 4 then notation_german_right.f a1 else  none
set_option maxRecDepth 100000 in
theorem dyn_notation_right.calls (a0 : Int) (a1 : Int) (r1 : ByteArray) (r2 : Bool) (w : World) (h : dyn_notation_right.f a0 a1 = some (r1, r2)) :
    Invokes Tryz.prog (sysW a0) "theorbo/notation.right" #[.int .i64 a1] w fun e w' => e = .returned (.tuple #[.string r1, .bool r2]) ∧ Below w.heap.size w w' := by
  unfold dyn_notation_right.f at h
  by_cases c1 : a0 = 1
  · subst c1
    rw [if_pos rfl] at h
    exact ⟨98, _, (fun w => by kernel_rfl : ∀ w : World, (callMethod (sysW 1) "theorbo/notation.right" #[.int .i64 a1]).run Tryz.prog w = .ok (.enter 98 #[.agg #[], .int .i64 a1]) w) w, (notation_french_right.calls a1 r1 r2 w h)⟩
  rw [if_neg c1] at h
  by_cases c2 : a0 = 2
  · subst c2
    rw [if_pos rfl] at h
    exact ⟨129, _, (fun w => by kernel_rfl : ∀ w : World, (callMethod (sysW 2) "theorbo/notation.right" #[.int .i64 a1]).run Tryz.prog w = .ok (.enter 129 #[.agg #[], .int .i64 a1]) w) w, (notation_italian_right.calls a1 r1 r2 w h)⟩
  rw [if_neg c2] at h
  by_cases c3 : a0 = 3
  · subst c3
    rw [if_pos rfl] at h
    exact ⟨137, _, (fun w => by kernel_rfl : ∀ w : World, (callMethod (sysW 3) "theorbo/notation.right" #[.int .i64 a1]).run Tryz.prog w = .ok (.enter 137 #[.agg #[], .int .i64 a1]) w) w, (notation_spanish_right.calls a1 r1 r2 w h)⟩
  rw [if_neg c3] at h
  by_cases c4 : a0 = 4
  · subst c4
    rw [if_pos rfl] at h
    exact ⟨144, _, (fun w => by kernel_rfl : ∀ w : World, (callMethod (sysW 4) "theorbo/notation.right" #[.int .i64 a1]).run Tryz.prog w = .ok (.enter 144 #[.agg #[], .int .i64 a1]) w) w, (notation_german_right.calls a1 r1 r2 w h)⟩
  rw [if_neg c4] at h
  exact absurd h (by simp)

/-! ### notation_cell: function 34 -/
def notation_cell.f (k : Nat) (a0 : Int) (a1_0 : Int) (a1_1 : Int) (a1_2 : Int) (a1_3 : Int) (a1_4 : Int) (a2 : Int) : Option (ByteArray × Bool) := (dyn_notation_symbol.f k a0 a1_0 a1_1).bind fun bt262 => ((dyn_notation_right.f a0 a1_2).bind fun bt264 => ((dyn_notation_grace.f a0 a1_3).bind fun bt266 => ((dyn_notation_hold.f a0 a1_4 a2).bind fun bt268 => (if bt262.1.size + bt264.1.size ≤ 9223372036854775807 then (if (bt262.1 ++ bt264.1).size + bt266.1.size ≤ 9223372036854775807 then (if ((bt262.1 ++ bt264.1) ++ bt266.1).size + bt268.1.size ≤ 9223372036854775807 then (if bt262.2 = true then (if bt264.2 = true then (if bt266.2 = true then (some (((bt262.1 ++ bt264.1) ++ bt266.1) ++ bt268.1, bt268.2)) else (some (((bt262.1 ++ bt264.1) ++ bt266.1) ++ bt268.1, false))) else (some (((bt262.1 ++ bt264.1) ++ bt266.1) ++ bt268.1, false))) else (some (((bt262.1 ++ bt264.1) ++ bt266.1) ++ bt268.1, false))) else (none)) else (none)) else (none)))))
theorem notation_cell.mono : ∀ a0 a1 a2 a3 a4 a5 a6 k, LeO (notation_cell.f k a0 a1 a2 a3 a4 a5 a6) (notation_cell.f (k + 1) a0 a1 a2 a3 a4 a5 a6) := by
  intro a0 a1 a2 a3 a4 a5 a6 k
  unfold notation_cell.f
  repeat' first | (with_reducible first | apply dyn_notation_symbol.mono | exact LeO.refl _ | exact LeO.none _ | refine LeO.ite ?_ ?_ | refine LeO.bind ?_ fun _ => ?_) | exact LeO.none _ | refine LeO.ite ?_ ?_ | refine LeO.bind ?_ fun _ => ?_ | apply dyn_notation_symbol.mono
set_option maxHeartbeats 8000000 in
set_option maxRecDepth 100000 in
theorem notation_cell.calls (k : Nat) (a0 : Int) (a1_0 : Int) (a1_1 : Int) (a1_2 : Int) (a1_3 : Int) (a1_4 : Int) (a2 : Int) (r1 : ByteArray) (r2 : Bool) (w : World) (h : notation_cell.f k a0 a1_0 a1_1 a1_2 a1_3 a1_4 a2 = some (r1, r2)) :
    Calls Tryz.prog 34 #[sysW a0, .agg #[.int .i64 a1_0, .int .i64 a1_1, .int .i64 a1_2, .int .i64 a1_3, .int .i64 a1_4], .int .i64 a2] w fun e w' => e = .returned (.tuple #[.string r1, .bool r2]) ∧ Below w.heap.size w w' := by
  have hu54 := Tryz.underlying54
  have hu49 := Tryz.underlying49
  have HB := Aside0.mk (Below.refl w.heap.size w)
  have H : ((dyn_notation_symbol.f k a0 a1_0 a1_1).bind fun bt262 => ((dyn_notation_right.f a0 a1_2).bind fun bt264 => ((dyn_notation_grace.f a0 a1_3).bind fun bt266 => ((dyn_notation_hold.f a0 a1_4 a2).bind fun bt268 => (if bt262.1.size + bt264.1.size ≤ 9223372036854775807 then (if (bt262.1 ++ bt264.1).size + bt266.1.size ≤ 9223372036854775807 then (if ((bt262.1 ++ bt264.1) ++ bt266.1).size + bt268.1.size ≤ 9223372036854775807 then (if bt262.2 = true then (if bt264.2 = true then (if bt266.2 = true then (some (((bt262.1 ++ bt264.1) ++ bt266.1) ++ bt268.1, bt268.2)) else (some (((bt262.1 ++ bt264.1) ++ bt266.1) ++ bt268.1, false))) else (some (((bt262.1 ++ bt264.1) ++ bt266.1) ++ bt268.1, false))) else (some (((bt262.1 ++ bt264.1) ++ bt266.1) ++ bt268.1, false))) else (none)) else (none)) else (none)))))) = some (r1, r2) := h
  clear h
  replace H := Option.bind_eq_some_iff.mp H
  obtain ⟨⟨t262, t263⟩, A40, H⟩ := H
  try dsimp only at H
  have A4 := Aside0.mk A40
  clear A40
  replace H := Option.bind_eq_some_iff.mp H
  obtain ⟨⟨t264, t265⟩, A50, H⟩ := H
  try dsimp only at H
  have A5 := Aside0.mk A50
  clear A50
  replace H := Option.bind_eq_some_iff.mp H
  obtain ⟨⟨t266, t267⟩, A60, H⟩ := H
  try dsimp only at H
  have A6 := Aside0.mk A60
  clear A60
  replace H := Option.bind_eq_some_iff.mp H
  obtain ⟨⟨t268, t269⟩, A70, H⟩ := H
  try dsimp only at H
  have A7 := Aside0.mk A70
  clear A70
  by_cases c8 : t262.size + t264.size ≤ 9223372036854775807
  · rw [if_pos c8] at H
    (have c8b0 := eq_true c8); (have c8b1 : decide (t262.size + t264.size ≤ 9223372036854775807) = true := decide_eq_true c8); (try have c8b2 : (9223372036854775807 < t262.size + t264.size) = False := eq_false (Nat.not_lt.2 c8)); (by_cases c9 : (t262 ++ t264).size + t266.size ≤ 9223372036854775807)
    · rw [if_pos c9] at H
      (have c9b0 := eq_true c9); (have c9b1 : decide ((t262 ++ t264).size + t266.size ≤ 9223372036854775807) = true := decide_eq_true c9); (try have c9b2 : (9223372036854775807 < (t262 ++ t264).size + t266.size) = False := eq_false (Nat.not_lt.2 c9)); (by_cases c10 : ((t262 ++ t264) ++ t266).size + t268.size ≤ 9223372036854775807)
      · rw [if_pos c10] at H
        (have c10b0 := eq_true c10); (have c10b1 : decide (((t262 ++ t264) ++ t266).size + t268.size ≤ 9223372036854775807) = true := decide_eq_true c10); (try have c10b2 : (9223372036854775807 < ((t262 ++ t264) ++ t266).size + t268.size) = False := eq_false (Nat.not_lt.2 c10)); (by_cases c11 : t263 = true)
        · subst c11
          (rw [if_pos rfl] at H); (by_cases c12 : t265 = true)
          · subst c12
            (rw [if_pos rfl] at H); (by_cases c13 : t267 = true)
            · subst c13
              (rw [if_pos rfl] at H); (simp only [Option.some.injEq, Prod.mk.injEq] at H); (obtain ⟨rfl, rfl⟩ := H); (go_enter Tryz.func34, Tryz.ntmps34); (go_wp2_with (first | ((with_reducible refine gate_dst (N := 4) rfl ?_); refine bx_ 4 #[.int .i64 a1_0, .int .i64 a1_1, .int .i64 a1_2, .int .i64 a1_3, .int .i64 a1_4] 54 HB ?_; clear HB; intro gb261 w14 hg hb BK261 HB GW261; have GE261 := GW261; clear hg hb; have hcz15 := blk_cell BK261.out; have hfz15 := blk_frozen BK261.out) | ((with_reducible refine gate_invoke_ (m := "theorbo/notation.symbol") rfl ?_); refine goesI_ (some 23) rfl rfl (sysW a0) #[.agg #[.int .i64 a1_0, .int .i64 a1_1]] rfl (by rfl) (by (try simp only [mA_, mB_, mC_]); first | done | rfl | (simp only [List.length_drop, List.length_take]; rfl)) ?_; (with_reducible refine (dyn_notation_symbol.calls k a0 a1_0 a1_1 t262 true _ A4.out).mono ?_); rintro e w16 ⟨rfl, hb⟩; refine ⟨_, rfl, ?_⟩; replace BK261 := bb_ BK261 hb; replace HB := bs_ HB hb; (try clear hb); (try clear hb2); (try clear hk); (try clear hi); have hcz17 := blk_cell BK261.out; have hfz17 := blk_frozen BK261.out) | ((with_reducible refine gate_invoke_ (m := "theorbo/notation.right") rfl ?_); refine goesI_ (some 30) rfl rfl (sysW a0) #[.int .i64 a1_2] rfl (by rfl) (by (try simp only [mA_, mB_, mC_]); first | done | rfl | (simp only [List.length_drop, List.length_take]; rfl)) ?_; (with_reducible refine (dyn_notation_right.calls a0 a1_2 t264 true _ A5.out).mono ?_); rintro e w18 ⟨rfl, hb⟩; refine ⟨_, rfl, ?_⟩; replace BK261 := bb_ BK261 hb; replace HB := bs_ HB hb; (try clear hb); (try clear hb2); (try clear hk); (try clear hi); have hcz19 := blk_cell BK261.out; have hfz19 := blk_frozen BK261.out) | ((with_reducible refine gate_invoke_ (m := "theorbo/notation.grace") rfl ?_); refine goesI_ (some 37) rfl rfl (sysW a0) #[.int .i64 a1_3] rfl (by rfl) (by (try simp only [mA_, mB_, mC_]); first | done | rfl | (simp only [List.length_drop, List.length_take]; rfl)) ?_; (with_reducible refine (dyn_notation_grace.calls a0 a1_3 t266 true _ A6.out).mono ?_); rintro e w20 ⟨rfl, hb⟩; refine ⟨_, rfl, ?_⟩; replace BK261 := bb_ BK261 hb; replace HB := bs_ HB hb; (try clear hb); (try clear hb2); (try clear hk); (try clear hi); have hcz21 := blk_cell BK261.out; have hfz21 := blk_frozen BK261.out) | ((with_reducible refine gate_invoke_ (m := "theorbo/notation.hold") rfl ?_); refine goesI_ (some 45) rfl rfl (sysW a0) #[.int .i64 a1_4, .int .i64 a2] rfl (by rfl) (by (try simp only [mA_, mB_, mC_]); first | done | rfl | (simp only [List.length_drop, List.length_take]; rfl)) ?_; (with_reducible refine (dyn_notation_hold.calls a0 a1_4 a2 t268 t269 _ A7.out).mono ?_); rintro e w22 ⟨rfl, hb⟩; refine ⟨_, rfl, ?_⟩; replace BK261 := bb_ BK261 hb; replace HB := bs_ HB hb; (try clear hb); (try clear hb2); (try clear hk); (try clear hi)))); (go_ret2); (exact ⟨rv_, bl_ HB⟩)
            · replace c13 := Bool.eq_false_iff.mpr c13
              subst c13; (rw [if_neg Bool.false_ne_true] at H); (simp only [Option.some.injEq, Prod.mk.injEq] at H); (obtain ⟨rfl, rfl⟩ := H); (go_enter Tryz.func34, Tryz.ntmps34); (go_wp2_with (first | ((with_reducible refine gate_dst (N := 4) rfl ?_); refine bx_ 4 #[.int .i64 a1_0, .int .i64 a1_1, .int .i64 a1_2, .int .i64 a1_3, .int .i64 a1_4] 54 HB ?_; clear HB; intro gb261 w23 hg hb BK261 HB GW261; have GE261 := GW261; clear hg hb; have hcz24 := blk_cell BK261.out; have hfz24 := blk_frozen BK261.out) | ((with_reducible refine gate_invoke_ (m := "theorbo/notation.symbol") rfl ?_); refine goesI_ (some 23) rfl rfl (sysW a0) #[.agg #[.int .i64 a1_0, .int .i64 a1_1]] rfl (by rfl) (by (try simp only [mA_, mB_, mC_]); first | done | rfl | (simp only [List.length_drop, List.length_take]; rfl)) ?_; (with_reducible refine (dyn_notation_symbol.calls k a0 a1_0 a1_1 t262 true _ A4.out).mono ?_); rintro e w25 ⟨rfl, hb⟩; refine ⟨_, rfl, ?_⟩; replace BK261 := bb_ BK261 hb; replace HB := bs_ HB hb; (try clear hb); (try clear hb2); (try clear hk); (try clear hi); have hcz26 := blk_cell BK261.out; have hfz26 := blk_frozen BK261.out) | ((with_reducible refine gate_invoke_ (m := "theorbo/notation.right") rfl ?_); refine goesI_ (some 30) rfl rfl (sysW a0) #[.int .i64 a1_2] rfl (by rfl) (by (try simp only [mA_, mB_, mC_]); first | done | rfl | (simp only [List.length_drop, List.length_take]; rfl)) ?_; (with_reducible refine (dyn_notation_right.calls a0 a1_2 t264 true _ A5.out).mono ?_); rintro e w27 ⟨rfl, hb⟩; refine ⟨_, rfl, ?_⟩; replace BK261 := bb_ BK261 hb; replace HB := bs_ HB hb; (try clear hb); (try clear hb2); (try clear hk); (try clear hi); have hcz28 := blk_cell BK261.out; have hfz28 := blk_frozen BK261.out) | ((with_reducible refine gate_invoke_ (m := "theorbo/notation.grace") rfl ?_); refine goesI_ (some 37) rfl rfl (sysW a0) #[.int .i64 a1_3] rfl (by rfl) (by (try simp only [mA_, mB_, mC_]); first | done | rfl | (simp only [List.length_drop, List.length_take]; rfl)) ?_; (with_reducible refine (dyn_notation_grace.calls a0 a1_3 t266 false _ A6.out).mono ?_); rintro e w29 ⟨rfl, hb⟩; refine ⟨_, rfl, ?_⟩; replace BK261 := bb_ BK261 hb; replace HB := bs_ HB hb; (try clear hb); (try clear hb2); (try clear hk); (try clear hi); have hcz30 := blk_cell BK261.out; have hfz30 := blk_frozen BK261.out) | ((with_reducible refine gate_invoke_ (m := "theorbo/notation.hold") rfl ?_); refine goesI_ (some 45) rfl rfl (sysW a0) #[.int .i64 a1_4, .int .i64 a2] rfl (by rfl) (by (try simp only [mA_, mB_, mC_]); first | done | rfl | (simp only [List.length_drop, List.length_take]; rfl)) ?_; (with_reducible refine (dyn_notation_hold.calls a0 a1_4 a2 t268 t269 _ A7.out).mono ?_); rintro e w31 ⟨rfl, hb⟩; refine ⟨_, rfl, ?_⟩; replace BK261 := bb_ BK261 hb; replace HB := bs_ HB hb; (try clear hb); (try clear hb2); (try clear hk); (try clear hi)))); (go_ret2); (exact ⟨rv_, bl_ HB⟩)
          · replace c12 := Bool.eq_false_iff.mpr c12
            subst c12; (rw [if_neg Bool.false_ne_true] at H); (simp only [Option.some.injEq, Prod.mk.injEq] at H); (obtain ⟨rfl, rfl⟩ := H); (go_enter Tryz.func34, Tryz.ntmps34); (go_wp2_with (first | ((with_reducible refine gate_dst (N := 4) rfl ?_); refine bx_ 4 #[.int .i64 a1_0, .int .i64 a1_1, .int .i64 a1_2, .int .i64 a1_3, .int .i64 a1_4] 54 HB ?_; clear HB; intro gb261 w32 hg hb BK261 HB GW261; have GE261 := GW261; clear hg hb; have hcz33 := blk_cell BK261.out; have hfz33 := blk_frozen BK261.out) | ((with_reducible refine gate_invoke_ (m := "theorbo/notation.symbol") rfl ?_); refine goesI_ (some 23) rfl rfl (sysW a0) #[.agg #[.int .i64 a1_0, .int .i64 a1_1]] rfl (by rfl) (by (try simp only [mA_, mB_, mC_]); first | done | rfl | (simp only [List.length_drop, List.length_take]; rfl)) ?_; (with_reducible refine (dyn_notation_symbol.calls k a0 a1_0 a1_1 t262 true _ A4.out).mono ?_); rintro e w34 ⟨rfl, hb⟩; refine ⟨_, rfl, ?_⟩; replace BK261 := bb_ BK261 hb; replace HB := bs_ HB hb; (try clear hb); (try clear hb2); (try clear hk); (try clear hi); have hcz35 := blk_cell BK261.out; have hfz35 := blk_frozen BK261.out) | ((with_reducible refine gate_invoke_ (m := "theorbo/notation.right") rfl ?_); refine goesI_ (some 30) rfl rfl (sysW a0) #[.int .i64 a1_2] rfl (by rfl) (by (try simp only [mA_, mB_, mC_]); first | done | rfl | (simp only [List.length_drop, List.length_take]; rfl)) ?_; (with_reducible refine (dyn_notation_right.calls a0 a1_2 t264 false _ A5.out).mono ?_); rintro e w36 ⟨rfl, hb⟩; refine ⟨_, rfl, ?_⟩; replace BK261 := bb_ BK261 hb; replace HB := bs_ HB hb; (try clear hb); (try clear hb2); (try clear hk); (try clear hi); have hcz37 := blk_cell BK261.out; have hfz37 := blk_frozen BK261.out) | ((with_reducible refine gate_invoke_ (m := "theorbo/notation.grace") rfl ?_); refine goesI_ (some 37) rfl rfl (sysW a0) #[.int .i64 a1_3] rfl (by rfl) (by (try simp only [mA_, mB_, mC_]); first | done | rfl | (simp only [List.length_drop, List.length_take]; rfl)) ?_; (with_reducible refine (dyn_notation_grace.calls a0 a1_3 t266 t267 _ A6.out).mono ?_); rintro e w38 ⟨rfl, hb⟩; refine ⟨_, rfl, ?_⟩; replace BK261 := bb_ BK261 hb; replace HB := bs_ HB hb; (try clear hb); (try clear hb2); (try clear hk); (try clear hi); have hcz39 := blk_cell BK261.out; have hfz39 := blk_frozen BK261.out) | ((with_reducible refine gate_invoke_ (m := "theorbo/notation.hold") rfl ?_); refine goesI_ (some 45) rfl rfl (sysW a0) #[.int .i64 a1_4, .int .i64 a2] rfl (by rfl) (by (try simp only [mA_, mB_, mC_]); first | done | rfl | (simp only [List.length_drop, List.length_take]; rfl)) ?_; (with_reducible refine (dyn_notation_hold.calls a0 a1_4 a2 t268 t269 _ A7.out).mono ?_); rintro e w40 ⟨rfl, hb⟩; refine ⟨_, rfl, ?_⟩; replace BK261 := bb_ BK261 hb; replace HB := bs_ HB hb; (try clear hb); (try clear hb2); (try clear hk); (try clear hi)))); (go_ret2); (exact ⟨rv_, bl_ HB⟩)
        · replace c11 := Bool.eq_false_iff.mpr c11
          subst c11; (rw [if_neg Bool.false_ne_true] at H); (simp only [Option.some.injEq, Prod.mk.injEq] at H); (obtain ⟨rfl, rfl⟩ := H); (go_enter Tryz.func34, Tryz.ntmps34); (go_wp2_with (first | ((with_reducible refine gate_dst (N := 4) rfl ?_); refine bx_ 4 #[.int .i64 a1_0, .int .i64 a1_1, .int .i64 a1_2, .int .i64 a1_3, .int .i64 a1_4] 54 HB ?_; clear HB; intro gb261 w41 hg hb BK261 HB GW261; have GE261 := GW261; clear hg hb; have hcz42 := blk_cell BK261.out; have hfz42 := blk_frozen BK261.out) | ((with_reducible refine gate_invoke_ (m := "theorbo/notation.symbol") rfl ?_); refine goesI_ (some 23) rfl rfl (sysW a0) #[.agg #[.int .i64 a1_0, .int .i64 a1_1]] rfl (by rfl) (by (try simp only [mA_, mB_, mC_]); first | done | rfl | (simp only [List.length_drop, List.length_take]; rfl)) ?_; (with_reducible refine (dyn_notation_symbol.calls k a0 a1_0 a1_1 t262 false _ A4.out).mono ?_); rintro e w43 ⟨rfl, hb⟩; refine ⟨_, rfl, ?_⟩; replace BK261 := bb_ BK261 hb; replace HB := bs_ HB hb; (try clear hb); (try clear hb2); (try clear hk); (try clear hi); have hcz44 := blk_cell BK261.out; have hfz44 := blk_frozen BK261.out) | ((with_reducible refine gate_invoke_ (m := "theorbo/notation.right") rfl ?_); refine goesI_ (some 30) rfl rfl (sysW a0) #[.int .i64 a1_2] rfl (by rfl) (by (try simp only [mA_, mB_, mC_]); first | done | rfl | (simp only [List.length_drop, List.length_take]; rfl)) ?_; (with_reducible refine (dyn_notation_right.calls a0 a1_2 t264 t265 _ A5.out).mono ?_); rintro e w45 ⟨rfl, hb⟩; refine ⟨_, rfl, ?_⟩; replace BK261 := bb_ BK261 hb; replace HB := bs_ HB hb; (try clear hb); (try clear hb2); (try clear hk); (try clear hi); have hcz46 := blk_cell BK261.out; have hfz46 := blk_frozen BK261.out) | ((with_reducible refine gate_invoke_ (m := "theorbo/notation.grace") rfl ?_); refine goesI_ (some 37) rfl rfl (sysW a0) #[.int .i64 a1_3] rfl (by rfl) (by (try simp only [mA_, mB_, mC_]); first | done | rfl | (simp only [List.length_drop, List.length_take]; rfl)) ?_; (with_reducible refine (dyn_notation_grace.calls a0 a1_3 t266 t267 _ A6.out).mono ?_); rintro e w47 ⟨rfl, hb⟩; refine ⟨_, rfl, ?_⟩; replace BK261 := bb_ BK261 hb; replace HB := bs_ HB hb; (try clear hb); (try clear hb2); (try clear hk); (try clear hi); have hcz48 := blk_cell BK261.out; have hfz48 := blk_frozen BK261.out) | ((with_reducible refine gate_invoke_ (m := "theorbo/notation.hold") rfl ?_); refine goesI_ (some 45) rfl rfl (sysW a0) #[.int .i64 a1_4, .int .i64 a2] rfl (by rfl) (by (try simp only [mA_, mB_, mC_]); first | done | rfl | (simp only [List.length_drop, List.length_take]; rfl)) ?_; (with_reducible refine (dyn_notation_hold.calls a0 a1_4 a2 t268 t269 _ A7.out).mono ?_); rintro e w49 ⟨rfl, hb⟩; refine ⟨_, rfl, ?_⟩; replace BK261 := bb_ BK261 hb; replace HB := bs_ HB hb; (try clear hb); (try clear hb2); (try clear hk); (try clear hi)))); (go_ret2); (exact ⟨rv_, bl_ HB⟩)
      · rw [if_neg c10] at H
        exact absurd H (by simp)
    · rw [if_neg c9] at H
      exact absurd H (by simp)
  · rw [if_neg c8] at H
    exact absurd H (by simp)

/-! ### notation_Cell: function 19 -/
mutual
def notation_Cell.j0 : Nat → Int → Int → Bool → Int → Int → Int → Int → Int → Option (ByteArray × Int)
  | 0, _, _, _, _, _, _, _, _ => none
  | k + 1, x2, x8, x25, x285000, x285001, x285002, x285003, x285004 => if x25 = true then (some ((⟨#[]⟩ : ByteArray), 23)) else (if x2 < 0 then (notation_Cell.j1 k x2 x8 true x285000 x285001 x285002 x285003 x285004) else (if x2 > 15 then (notation_Cell.j1 k x2 x8 true x285000 x285001 x285002 x285003 x285004) else (if x285004 < 0 then (notation_Cell.j1 k x2 x8 true x285000 x285001 x285002 x285003 x285004) else (if x285004 > x2 then (notation_Cell.j1 k x2 x8 true x285000 x285001 x285002 x285003 x285004) else (if x285004 > 0 then (notation_Cell.j1 k x2 x8 (x285001 == 0) x285000 x285001 x285002 x285003 x285004) else (notation_Cell.j1 k x2 x8 false x285000 x285001 x285002 x285003 x285004))))))
def notation_Cell.j1 : Nat → Int → Int → Bool → Int → Int → Int → Int → Int → Option (ByteArray × Int)
  | 0, _, _, _, _, _, _, _, _ => none
  | k + 1, x2, x8, x44, x285000, x285001, x285002, x285003, x285004 => if x44 = true then (some ((⟨#[]⟩ : ByteArray), 24)) else ((notation_cell.f k x8 x285000 x285001 x285002 x285003 x285004 x2).bind fun bt287 => (if bt287.2 = true then (some (bt287.1, 0)) else (some ((⟨#[]⟩ : ByteArray), 31))))
end
def notation_Cell.f (k : Nat) (a0 : Int) (a1_0 : Int) (a1_1 : Int) (a1_2 : Int) (a1_3 : Int) (a1_4 : Int) (a2 : Int) : Option (ByteArray × Int) := (notation_placed.f k a0 a1_0 a1_1).bind fun bt285 => (if bt285.2 = 0 then (if a1_2 < 0 then (notation_Cell.j0 k a2 bt285.1 true a1_0 a1_1 a1_2 a1_3 a1_4) else (if a1_2 > 3 then (notation_Cell.j0 k a2 bt285.1 true a1_0 a1_1 a1_2 a1_3 a1_4) else (if a1_3 < 0 then (notation_Cell.j0 k a2 bt285.1 true a1_0 a1_1 a1_2 a1_3 a1_4) else (notation_Cell.j0 k a2 bt285.1 (decide (a1_3 > 4)) a1_0 a1_1 a1_2 a1_3 a1_4)))) else (some ((⟨#[]⟩ : ByteArray), bt285.2)))
theorem notation_Cell.mono_l : ∀ k, (∀ y0 y1 y2 y3 y4 y5 y6 y7, LeO (notation_Cell.j0 k y0 y1 y2 y3 y4 y5 y6 y7) (notation_Cell.j0 (k + 1) y0 y1 y2 y3 y4 y5 y6 y7)) ∧ (∀ y0 y1 y2 y3 y4 y5 y6 y7, LeO (notation_Cell.j1 k y0 y1 y2 y3 y4 y5 y6 y7) (notation_Cell.j1 (k + 1) y0 y1 y2 y3 y4 y5 y6 y7))
  | 0 => ⟨fun _ _ _ _ _ _ _ _ r h => by simp [notation_Cell.j0] at h, fun _ _ _ _ _ _ _ _ r h => by simp [notation_Cell.j1] at h⟩
  | k + 1 => by
    ((obtain ⟨ih0, ih1⟩ := notation_Cell.mono_l k); (refine ⟨?_, ?_⟩)); (focus intro y0 y1 y2 y3 y4 y5 y6 y7; (unfold notation_Cell.j0); (repeat' first | (with_reducible first | apply ih0 | apply ih1 | apply notation_cell.mono | apply notation_placed.mono | exact LeO.refl _ | exact LeO.none _ | refine LeO.ite ?_ ?_ | refine LeO.bind ?_ fun _ => ?_) | exact LeO.none _ | refine LeO.ite ?_ ?_ | refine LeO.bind ?_ fun _ => ?_ | apply ih0 | apply ih1 | apply notation_cell.mono | apply notation_placed.mono)); (focus intro y0 y1 y2 y3 y4 y5 y6 y7; (unfold notation_Cell.j1); (repeat' first | (with_reducible first | apply ih0 | apply ih1 | apply notation_cell.mono | apply notation_placed.mono | exact LeO.refl _ | exact LeO.none _ | refine LeO.ite ?_ ?_ | refine LeO.bind ?_ fun _ => ?_) | exact LeO.none _ | refine LeO.ite ?_ ?_ | refine LeO.bind ?_ fun _ => ?_ | apply ih0 | apply ih1 | apply notation_cell.mono | apply notation_placed.mono))
theorem notation_Cell.mono : ∀ a0 a1 a2 a3 a4 a5 a6 k, LeO (notation_Cell.f k a0 a1 a2 a3 a4 a5 a6) (notation_Cell.f (k + 1) a0 a1 a2 a3 a4 a5 a6) := by
  intro a0 a1 a2 a3 a4 a5 a6 k
  obtain ⟨ih0, ih1⟩ := notation_Cell.mono_l k
  unfold notation_Cell.f
  repeat' first | (with_reducible first | apply ih0 | apply ih1 | apply notation_cell.mono | apply notation_placed.mono | exact LeO.refl _ | exact LeO.none _ | refine LeO.ite ?_ ?_ | refine LeO.bind ?_ fun _ => ?_) | exact LeO.none _ | refine LeO.ite ?_ ?_ | refine LeO.bind ?_ fun _ => ?_ | apply ih0 | apply ih1 | apply notation_cell.mono | apply notation_placed.mono
set_option maxHeartbeats 8000000 in
set_option maxRecDepth 100000 in
theorem notation_Cell.calls (k : Nat) (a0 : Int) (a1_0 : Int) (a1_1 : Int) (a1_2 : Int) (a1_3 : Int) (a1_4 : Int) (a2 : Int) (r1 : ByteArray) (r2 : Int) (w : World) (h : notation_Cell.f k a0 a1_0 a1_1 a1_2 a1_3 a1_4 a2 = some (r1, r2)) :
    Calls Tryz.prog 19 #[.int .u8 a0, .agg #[.int .i64 a1_0, .int .i64 a1_1, .int .i64 a1_2, .int .i64 a1_3, .int .i64 a1_4], .int .i64 a2] w fun e w' => e = .returned (.tuple #[.string r1, .int .i64 r2]) ∧ Below w.heap.size w w' := by
  have hu54 := Tryz.underlying54
  have HB := Aside0.mk (Below.refl w.heap.size w)
  have H : ((notation_placed.f k a0 a1_0 a1_1).bind fun bt285 => (if bt285.2 = 0 then (if a1_2 < 0 then (notation_Cell.j0 k a2 bt285.1 true a1_0 a1_1 a1_2 a1_3 a1_4) else (if a1_2 > 3 then (notation_Cell.j0 k a2 bt285.1 true a1_0 a1_1 a1_2 a1_3 a1_4) else (if a1_3 < 0 then (notation_Cell.j0 k a2 bt285.1 true a1_0 a1_1 a1_2 a1_3 a1_4) else (notation_Cell.j0 k a2 bt285.1 (decide (a1_3 > 4)) a1_0 a1_1 a1_2 a1_3 a1_4)))) else (some ((⟨#[]⟩ : ByteArray), bt285.2)))) = some (r1, r2) := h
  clear h
  replace H := Option.bind_eq_some_iff.mp H
  obtain ⟨⟨t285, t286⟩, A40, H⟩ := H
  try dsimp only at H
  have A4 := Aside0.mk A40
  clear A40
  have HC5 := Aside0.mk H
  clear H
  go_enter Tryz.func19, Tryz.ntmps19
  go_upto_if 21 with (first | ((with_reducible refine gate_dst (N := 4) rfl ?_); refine bx_ 4 #[.int .i64 a1_0, .int .i64 a1_1, .int .i64 a1_2, .int .i64 a1_3, .int .i64 a1_4] 54 HB ?_; clear HB; intro gb284 w6 hg hb BK284 HB GW284; have GE284 := GW284; clear hg hb; have hcz7 := blk_cell BK284.out; have hfz7 := blk_frozen BK284.out) | ((with_reducible refine gate_callee (f := 31) rfl ?_); refine cl_ 31 (some 18) Tryz.func31 (notation_placed.calls k a0 a1_0 a1_1 t285 t286 _ A4.out) ?_; rintro e w' ⟨rfl, ⟨nd, rfl⟩⟩; refine ⟨_, rfl, ?_⟩))
  (try simp only [Act.put, List.setIfInBounds_toArray, List.set_cons_zero, List.set_cons_succ])
  have H := HC5.out
  clear HC5
  by_cases c8 : t286 = 0
  · rw [if_pos c8] at H
    (obtain ⟨c8b0, c8b1⟩ := eqT_ c8); clear c8; ((first | rw [c8b0] | rw [c8b1] | (simp only [i64_w, i32_w]; rw [c8b0]) | skip)); (have HC9 := Aside0.mk H); clear H; (go_upto_region 4 with (fail)); (go_cut [25] (fun v25 wc => ∃ (kq : Nat) (x25_8 : Bool), v25 = .bool x25_8 ∧ Aside0 (notation_Cell.j0 kq a2 t285 x25_8 a1_0 a1_1 a1_2 a1_3 a1_4 = some (r1, r2)) ∧ Aside0 (kq ≤ k) ∧ Aside0 (wc.heap[gb284]? = some (.cells #[.int .i64 a1_0, .int .i64 a1_1, .int .i64 a1_2, .int .i64 a1_3, .int .i64 a1_4] 54 (0, 0))) ∧ Aside0 (Below w.heap.size w wc)))
    case first =>
      (have H := HC9.out); clear HC9; (by_cases c10 : a1_2 < 0)
      · rw [if_pos c10] at H
        (have c10b0 := decide_eq_true c10); clear c10; ((first | rw [c10b0] | (simp only [i64_w, i32_w]; rw [c10b0]) | skip)); (have H' := Aside0.mk H); clear H; (have hcz11 := blk_cell BK284.out); (have hfz11 := blk_frozen BK284.out); (go_wp2); (go_meet)
        case rel => exact ⟨_, (true), (rs_), H', ⟨om_⟩, ⟨bk_ BK284⟩, ⟨bl_ HB⟩⟩
      · rw [if_neg c10] at H
        (have c10b0 := decide_eq_false c10); clear c10; ((first | rw [c10b0] | (simp only [i64_w, i32_w]; rw [c10b0]) | skip)); (by_cases c12 : a1_2 > 3)
        · rw [if_pos c12] at H
          (have c12b0 : decide (3 < a1_2) = true := decide_eq_true c12); clear c12; (have H' := Aside0.mk H); clear H; (have hcz13 := blk_cell BK284.out); (have hfz13 := blk_frozen BK284.out); (go_wp2); (go_meet)
          case rel => exact ⟨_, (true), (rs_), H', ⟨om_⟩, ⟨bk_ BK284⟩, ⟨bl_ HB⟩⟩
        · rw [if_neg c12] at H
          (have c12b0 : decide (3 < a1_2) = false := decide_eq_false c12); clear c12; (by_cases c14 : a1_3 < 0)
          · rw [if_pos c14] at H
            (have c14b0 := decide_eq_true c14); clear c14; (have H' := Aside0.mk H); clear H; (have hcz15 := blk_cell BK284.out); (have hfz15 := blk_frozen BK284.out); (go_wp2); (go_meet)
            case rel => exact ⟨_, (true), (rs_), H', ⟨om_⟩, ⟨bk_ BK284⟩, ⟨bl_ HB⟩⟩
          · rw [if_neg c14] at H
            (have c14b0 := decide_eq_false c14); clear c14; (have H' := Aside0.mk H); clear H; (have hcz16 := blk_cell BK284.out); (have hfz16 := blk_frozen BK284.out); (go_wp2); (go_meet)
            case rel => exact ⟨_, (decide (a1_3 > 4)), (rs_), H', ⟨om_⟩, ⟨bk_ BK284⟩, ⟨bl_ HB⟩⟩
    case rest =>
      clear HC9; (try clear c8b0 c8b1 hcz7 hfz7); (obtain ⟨kq, x25_8, rfl, HA, HJ8, BK284, HB⟩ := hcut)
      cases kq with
      | zero => exact absurd HA.out (by simp [notation_Cell.j0])
      | succ kj8 =>
        (have H := HA.out); clear HA; (simp only [notation_Cell.j0] at H); (by_cases c17 : x25_8 = true)
        · subst c17
          (rw [if_pos rfl] at H); (simp only [Option.some.injEq, Prod.mk.injEq] at H); (obtain ⟨rfl, rfl⟩ := H); (go_wp2); (go_ret2); (exact ⟨rv_, bl_ HB⟩)
        · replace c17 := Bool.eq_false_iff.mpr c17
          subst c17; (rw [if_neg Bool.false_ne_true] at H); (have HC18 := Aside0.mk H); clear H; (go_upto_region 6 with (fail)); (go_cut [44] (fun v44 wc => ∃ (kq : Nat) (x44_17 : Bool), v44 = .bool x44_17 ∧ Aside0 (notation_Cell.j1 kq a2 t285 x44_17 a1_0 a1_1 a1_2 a1_3 a1_4 = some (r1, r2)) ∧ Aside0 (kq ≤ kj8) ∧ Aside0 (wc.heap[gb284]? = some (.cells #[.int .i64 a1_0, .int .i64 a1_1, .int .i64 a1_2, .int .i64 a1_3, .int .i64 a1_4] 54 (0, 0))) ∧ Aside0 (Below w.heap.size w wc)))
          case first =>
            (have H := HC18.out); clear HC18; (by_cases c19 : a2 < 0)
            · rw [if_pos c19] at H
              (have c19b0 := decide_eq_true c19); clear c19; ((first | rw [c19b0] | (simp only [i64_w, i32_w]; rw [c19b0]) | skip)); (have H' := Aside0.mk H); clear H; (go_wp2); (go_meet)
              case rel => exact ⟨_, (true), (rs_), H', ⟨by have := HJ8.out; first | omega | exact Nat.le_refl _⟩, ⟨bk_ BK284⟩, ⟨bl_ HB⟩⟩
            · rw [if_neg c19] at H
              (have c19b0 := decide_eq_false c19); clear c19; ((first | rw [c19b0] | (simp only [i64_w, i32_w]; rw [c19b0]) | skip)); (by_cases c20 : a2 > 15)
              · rw [if_pos c20] at H
                (have c20b0 : decide (15 < a2) = true := decide_eq_true c20); clear c20; (have H' := Aside0.mk H); clear H; (go_wp2); (go_meet)
                case rel => exact ⟨_, (true), (rs_), H', ⟨by have := HJ8.out; first | omega | exact Nat.le_refl _⟩, ⟨bk_ BK284⟩, ⟨bl_ HB⟩⟩
              · rw [if_neg c20] at H
                (have c20b0 : decide (15 < a2) = false := decide_eq_false c20); clear c20; (by_cases c21 : a1_4 < 0)
                · rw [if_pos c21] at H
                  (have c21b0 := decide_eq_true c21); clear c21; (have H' := Aside0.mk H); clear H; (have hcz22 := blk_cell BK284.out); (have hfz22 := blk_frozen BK284.out); (go_wp2); (go_meet)
                  case rel => exact ⟨_, (true), (rs_), H', ⟨by have := HJ8.out; first | omega | exact Nat.le_refl _⟩, ⟨bk_ BK284⟩, ⟨bl_ HB⟩⟩
                · rw [if_neg c21] at H
                  (have c21b0 := decide_eq_false c21); clear c21; (by_cases c23 : a1_4 > a2)
                  · rw [if_pos c23] at H
                    (have c23b0 : decide (a2 < a1_4) = true := decide_eq_true c23); clear c23; (have H' := Aside0.mk H); clear H; (have hcz24 := blk_cell BK284.out); (have hfz24 := blk_frozen BK284.out); (go_wp2); (go_meet)
                    case rel => exact ⟨_, (true), (rs_), H', ⟨by have := HJ8.out; first | omega | exact Nat.le_refl _⟩, ⟨bk_ BK284⟩, ⟨bl_ HB⟩⟩
                  · rw [if_neg c23] at H
                    (have c23b0 : decide (a2 < a1_4) = false := decide_eq_false c23); clear c23; (by_cases c25 : a1_4 > 0)
                    · rw [if_pos c25] at H
                      (have c25b0 : decide (0 < a1_4) = true := decide_eq_true c25); clear c25; (have H' := Aside0.mk H); clear H; (have hcz26 := blk_cell BK284.out); (have hfz26 := blk_frozen BK284.out); (go_wp2); (go_meet)
                      case rel => exact ⟨_, ((a1_1 == 0)), (rs_), H', ⟨by have := HJ8.out; first | omega | exact Nat.le_refl _⟩, ⟨bk_ BK284⟩, ⟨bl_ HB⟩⟩
                    · rw [if_neg c25] at H
                      (have c25b0 : decide (0 < a1_4) = false := decide_eq_false c25); clear c25; (have H' := Aside0.mk H); clear H; (have hcz27 := blk_cell BK284.out); (have hfz27 := blk_frozen BK284.out); (go_wp2); (go_meet)
                      case rel => exact ⟨_, (false), (rs_), H', ⟨by have := HJ8.out; first | omega | exact Nat.le_refl _⟩, ⟨bk_ BK284⟩, ⟨bl_ HB⟩⟩
          case rest =>
            clear HC18; (try clear c17); (obtain ⟨kq, x44_17, rfl, HA, HJ17, BK284, HB⟩ := hcut)
            cases kq with
            | zero => exact absurd HA.out (by simp [notation_Cell.j1])
            | succ kj17 =>
              (have H := HA.out); clear HA; (simp only [notation_Cell.j1] at H); (by_cases c28 : x44_17 = true)
              · subst c28
                (rw [if_pos rfl] at H); (simp only [Option.some.injEq, Prod.mk.injEq] at H); (obtain ⟨rfl, rfl⟩ := H); (go_wp2); (go_ret2); (exact ⟨rv_, bl_ HB⟩)
              · replace c28 := Bool.eq_false_iff.mpr c28
                subst c28; (rw [if_neg Bool.false_ne_true] at H); (replace H := Option.bind_eq_some_iff.mp H); (obtain ⟨⟨t287, t288⟩, A290, H⟩ := H); (try dsimp only at H); (have A29 := Aside0.mk A290); clear A290; (have HC30 := Aside0.mk H); clear H; (have hcz31 := blk_cell BK284.out); (have hfz31 := blk_frozen BK284.out); (go_upto_if 80 with (first | ((with_reducible refine gate_callee (f := 34) rfl ?_); refine cl_ 34 (some 76) Tryz.func34 (notation_cell.calls kj17 t285 a1_0 a1_1 a1_2 a1_3 a1_4 a2 t287 t288 _ A29.out) ?_; rintro e w32 ⟨rfl, hb⟩; refine ⟨_, rfl, ?_⟩; replace BK284 := bb_ BK284 hb; replace HB := bs_ HB hb; (try clear hb); (try clear hb2); (try clear hk); (try clear hi)))); ((try simp only [Act.put, List.setIfInBounds_toArray, List.set_cons_zero, List.set_cons_succ])); (have H := HC30.out); clear HC30; (by_cases c33 : t288 = true)
                · subst c33
                  (rw [if_pos rfl] at H); (simp only [Option.some.injEq, Prod.mk.injEq] at H); (obtain ⟨rfl, rfl⟩ := H); (go_wp2); (go_ret2); (exact ⟨rv_, bl_ HB⟩)
                · replace c33 := Bool.eq_false_iff.mpr c33
                  subst c33; (rw [if_neg Bool.false_ne_true] at H); (simp only [Option.some.injEq, Prod.mk.injEq] at H); (obtain ⟨rfl, rfl⟩ := H); (go_wp2); (go_ret2); (exact ⟨rv_, bl_ HB⟩)
  · rw [if_neg c8] at H
    (obtain ⟨c8b0, c8b1⟩ := eqF_ c8); ((first | rw [c8b0] | rw [c8b1] | (simp only [i64_w, i32_w]; rw [c8b0]) | skip)); (simp only [Option.some.injEq, Prod.mk.injEq] at H); (obtain ⟨rfl, rfl⟩ := H); (go_wp2); (go_ret2); (exact ⟨rv_, bl_ HB⟩)

/-! ### theorbolaw03_works: function 6 -/
def theorbolaw03_works.f (k : Nat)  : Option (Bool) := (notation_Symbol.f k 4 6 4).bind fun bt289 => ((notation_Place.f k 4 0 (⟨#[38]⟩ : ByteArray)).bind fun bt291 => ((notation_Cell.f k 1 1 2 1 0 3 4).bind fun bt295 => (if bt289.1.toList = ([68] : List UInt8) then (if bt289.2 = 0 then (if (bt291.1 == 2 && (bt291.2.1 == 5)) = true then (if bt291.2.2 = 0 then (if bt295.1.toList = ([99, 46, 95, 51] : List UInt8) then (some (bt295.2 == 0)) else (some false)) else (some false)) else (some false)) else (some false)) else (some false))))
theorem theorbolaw03_works.mono : ∀ k, LeO (theorbolaw03_works.f k ) (theorbolaw03_works.f (k + 1) ) := by
  intro  k
  unfold theorbolaw03_works.f
  repeat' first | (with_reducible first | apply notation_Cell.mono | apply notation_Place.mono | apply notation_Symbol.mono | exact LeO.refl _ | exact LeO.none _ | refine LeO.ite ?_ ?_ | refine LeO.bind ?_ fun _ => ?_) | exact LeO.none _ | refine LeO.ite ?_ ?_ | refine LeO.bind ?_ fun _ => ?_ | apply notation_Cell.mono | apply notation_Place.mono | apply notation_Symbol.mono
set_option maxHeartbeats 8000000 in
set_option maxRecDepth 100000 in
theorem theorbolaw03_works.calls (k : Nat)  (r : Bool) (w : World) (h : theorbolaw03_works.f k  = some r) :
    Calls Tryz.prog 6 #[] w fun e w' => e = .returned (.bool r) ∧ Below w.heap.size w w' := by
  have hu49 := Tryz.underlying49
  have hu54 := Tryz.underlying54
  have HB := Aside0.mk (Below.refl w.heap.size w)
  have H : ((notation_Symbol.f k 4 6 4).bind fun bt289 => ((notation_Place.f k 4 0 (⟨#[38]⟩ : ByteArray)).bind fun bt291 => ((notation_Cell.f k 1 1 2 1 0 3 4).bind fun bt295 => (if bt289.1.toList = ([68] : List UInt8) then (if bt289.2 = 0 then (if (bt291.1 == 2 && (bt291.2.1 == 5)) = true then (if bt291.2.2 = 0 then (if bt295.1.toList = ([99, 46, 95, 51] : List UInt8) then (some (bt295.2 == 0)) else (some false)) else (some false)) else (some false)) else (some false)) else (some false))))) = some r := h
  clear h
  replace H := Option.bind_eq_some_iff.mp H
  obtain ⟨⟨t289, t290⟩, A10, H⟩ := H
  try dsimp only at H
  have A1 := Aside0.mk A10
  clear A10
  replace H := Option.bind_eq_some_iff.mp H
  obtain ⟨⟨t291, t292, t293⟩, A20, H⟩ := H
  try dsimp only at H
  have A2 := Aside0.mk A20
  clear A20
  replace H := Option.bind_eq_some_iff.mp H
  obtain ⟨⟨t295, t296⟩, A30, H⟩ := H
  try dsimp only at H
  have A3 := Aside0.mk A30
  clear A30
  by_cases c4 : t289.toList = ([68] : List UInt8)
  · rw [if_pos c4] at H
    (have c4b0 : (t289.toList == ([68] : List UInt8)) = true := beq_iff_eq.mpr c4); (have c4b1 : (t289.toList != ([68] : List UInt8)) = false := bne_eq_false_iff_eq.mpr c4); clear c4; (by_cases c5 : t290 = 0)
    · rw [if_pos c5] at H
      (obtain ⟨c5b0, c5b1⟩ := eqT_ c5); clear c5; (by_cases c6 : (t291 == 2 && (t292 == 5)) = true)
      · rw [if_pos c6] at H
        (have c6b0 : (t291 == 2 && (t292 == 5)) = true := c6); ((try (have c6b1 : decide (t291 = 2 && (t292 == 5)) = true := by simpa using c6))); ((try (have c6b2 : (t291 == 2 && (t292 == 5)) = true := by simpa using c6))); clear c6; (by_cases c7 : t293 = 0)
        · rw [if_pos c7] at H
          (obtain ⟨c7b0, c7b1⟩ := eqT_ c7); clear c7; (by_cases c8 : t295.toList = ([99, 46, 95, 51] : List UInt8))
          · rw [if_pos c8] at H
            (have c8b0 : (t295.toList == ([99, 46, 95, 51] : List UInt8)) = true := beq_iff_eq.mpr c8); (have c8b1 : (t295.toList != ([99, 46, 95, 51] : List UInt8)) = false := bne_eq_false_iff_eq.mpr c8); clear c8; (obtain rfl := Option.some.inj H); (go_enter Tryz.func6, Tryz.ntmps6); (go_wp2_with (first | ((with_reducible refine gate_callee (f := 17) rfl ?_); refine cl_ 17 (some 9) Tryz.func17 (notation_Symbol.calls k 4 6 4 t289 t290 _ A1.out) ?_; rintro e w9 ⟨rfl, hb⟩; refine ⟨_, rfl, ?_⟩; replace HB := bs_ HB hb; (try clear hb); (try clear hb2); (try clear hk); (try clear hi)) | ((with_reducible refine gate_callee (f := 18) rfl ?_); refine cl_ 18 (some 13) Tryz.func18 (notation_Place.calls k 4 0 (⟨#[38]⟩ : ByteArray) t291 t292 t293 _ A2.out) ?_; rintro e w10 ⟨rfl, hb⟩; refine ⟨_, rfl, ?_⟩; replace HB := bs_ HB hb; (try clear hb); (try clear hb2); (try clear hk); (try clear hi)) | ((with_reducible refine gate_dst (N := 3) rfl ?_); refine bx_ 3 #[.int .i64 0, .int .i64 0] 49 HB ?_; clear HB; intro gb294 w11 hg hb BK294 HB GW294; have GE294 := GW294; clear hg hb; have hcz12 := blk_cell BK294.out; have hfz12 := blk_frozen BK294.out) | ((with_reducible refine gate_callee (f := 19) rfl ?_); refine cl_ 19 (some 18) Tryz.func19 (notation_Cell.calls k 1 1 2 1 0 3 4 t295 t296 _ A3.out) ?_; rintro e w13 ⟨rfl, hb⟩; refine ⟨_, rfl, ?_⟩; replace BK294 := Aside0.mk (blk_below (g := gb294) (o := .cells #[.int .i64 t291, .int .i64 t292] 49 (0, 0)) (bk_ BK294) hb); replace HB := bs_ HB hb; (try clear hb); (try clear hb2); (try clear hk); (try clear hi); have hcz14 := blk_cell BK294.out; have hfz14 := blk_frozen BK294.out))); (go_ret); (exact ⟨rv_, bl_ HB⟩)
          · rw [if_neg c8] at H
            (have c8b0 : (t295.toList == ([99, 46, 95, 51] : List UInt8)) = false := beq_eq_false_iff_ne.mpr c8); (have c8b1 : (t295.toList != ([99, 46, 95, 51] : List UInt8)) = true := bne_iff_ne.mpr c8); (obtain rfl := Option.some.inj H); (go_enter Tryz.func6, Tryz.ntmps6); (go_wp2_with (first | ((with_reducible refine gate_callee (f := 17) rfl ?_); refine cl_ 17 (some 9) Tryz.func17 (notation_Symbol.calls k 4 6 4 t289 t290 _ A1.out) ?_; rintro e w15 ⟨rfl, hb⟩; refine ⟨_, rfl, ?_⟩; replace HB := bs_ HB hb; (try clear hb); (try clear hb2); (try clear hk); (try clear hi)) | ((with_reducible refine gate_callee (f := 18) rfl ?_); refine cl_ 18 (some 13) Tryz.func18 (notation_Place.calls k 4 0 (⟨#[38]⟩ : ByteArray) t291 t292 t293 _ A2.out) ?_; rintro e w16 ⟨rfl, hb⟩; refine ⟨_, rfl, ?_⟩; replace HB := bs_ HB hb; (try clear hb); (try clear hb2); (try clear hk); (try clear hi)) | ((with_reducible refine gate_dst (N := 3) rfl ?_); refine bx_ 3 #[.int .i64 0, .int .i64 0] 49 HB ?_; clear HB; intro gb294 w17 hg hb BK294 HB GW294; have GE294 := GW294; clear hg hb; have hcz18 := blk_cell BK294.out; have hfz18 := blk_frozen BK294.out) | ((with_reducible refine gate_callee (f := 19) rfl ?_); refine cl_ 19 (some 18) Tryz.func19 (notation_Cell.calls k 1 1 2 1 0 3 4 t295 t296 _ A3.out) ?_; rintro e w19 ⟨rfl, hb⟩; refine ⟨_, rfl, ?_⟩; replace BK294 := Aside0.mk (blk_below (g := gb294) (o := .cells #[.int .i64 t291, .int .i64 t292] 49 (0, 0)) (bk_ BK294) hb); replace HB := bs_ HB hb; (try clear hb); (try clear hb2); (try clear hk); (try clear hi); have hcz20 := blk_cell BK294.out; have hfz20 := blk_frozen BK294.out))); (go_ret); (exact ⟨rv_, bl_ HB⟩)
        · rw [if_neg c7] at H
          (obtain ⟨c7b0, c7b1⟩ := eqF_ c7); (obtain rfl := Option.some.inj H); (go_enter Tryz.func6, Tryz.ntmps6); (go_wp2_with (first | ((with_reducible refine gate_callee (f := 17) rfl ?_); refine cl_ 17 (some 9) Tryz.func17 (notation_Symbol.calls k 4 6 4 t289 t290 _ A1.out) ?_; rintro e w21 ⟨rfl, hb⟩; refine ⟨_, rfl, ?_⟩; replace HB := bs_ HB hb; (try clear hb); (try clear hb2); (try clear hk); (try clear hi)) | ((with_reducible refine gate_callee (f := 18) rfl ?_); refine cl_ 18 (some 13) Tryz.func18 (notation_Place.calls k 4 0 (⟨#[38]⟩ : ByteArray) t291 t292 t293 _ A2.out) ?_; rintro e w22 ⟨rfl, hb⟩; refine ⟨_, rfl, ?_⟩; replace HB := bs_ HB hb; (try clear hb); (try clear hb2); (try clear hk); (try clear hi)) | ((with_reducible refine gate_dst (N := 3) rfl ?_); refine bx_ 3 #[.int .i64 0, .int .i64 0] 49 HB ?_; clear HB; intro gb294 w23 hg hb BK294 HB GW294; have GE294 := GW294; clear hg hb; have hcz24 := blk_cell BK294.out; have hfz24 := blk_frozen BK294.out) | ((with_reducible refine gate_callee (f := 19) rfl ?_); refine cl_ 19 (some 18) Tryz.func19 (notation_Cell.calls k 1 1 2 1 0 3 4 t295 t296 _ A3.out) ?_; rintro e w25 ⟨rfl, hb⟩; refine ⟨_, rfl, ?_⟩; replace BK294 := Aside0.mk (blk_below (g := gb294) (o := .cells #[.int .i64 t291, .int .i64 t292] 49 (0, 0)) (bk_ BK294) hb); replace HB := bs_ HB hb; (try clear hb); (try clear hb2); (try clear hk); (try clear hi); have hcz26 := blk_cell BK294.out; have hfz26 := blk_frozen BK294.out))); (go_ret); (exact ⟨rv_, bl_ HB⟩)
      · rw [if_neg c6] at H
        (have c6b0 : (t291 == 2 && (t292 == 5)) = false := by simpa using c6); ((try (have c6b1 : decide (t291 = 2 && (t292 == 5)) = false := by simpa using c6))); ((try (have c6b2 : (t291 == 2 && (t292 == 5)) = false := by simpa using c6))); ((try (have c6b3 : ¬ (t291 = 2 && (t292 == 5)) := by simpa using c6))); clear c6; (obtain rfl := Option.some.inj H); (go_enter Tryz.func6, Tryz.ntmps6); (go_wp2_with (first | ((with_reducible refine gate_callee (f := 17) rfl ?_); refine cl_ 17 (some 9) Tryz.func17 (notation_Symbol.calls k 4 6 4 t289 t290 _ A1.out) ?_; rintro e w27 ⟨rfl, hb⟩; refine ⟨_, rfl, ?_⟩; replace HB := bs_ HB hb; (try clear hb); (try clear hb2); (try clear hk); (try clear hi)) | ((with_reducible refine gate_callee (f := 18) rfl ?_); refine cl_ 18 (some 13) Tryz.func18 (notation_Place.calls k 4 0 (⟨#[38]⟩ : ByteArray) t291 t292 t293 _ A2.out) ?_; rintro e w28 ⟨rfl, hb⟩; refine ⟨_, rfl, ?_⟩; replace HB := bs_ HB hb; (try clear hb); (try clear hb2); (try clear hk); (try clear hi)) | ((with_reducible refine gate_dst (N := 3) rfl ?_); refine bx_ 3 #[.int .i64 0, .int .i64 0] 49 HB ?_; clear HB; intro gb294 w29 hg hb BK294 HB GW294; have GE294 := GW294; clear hg hb; have hcz30 := blk_cell BK294.out; have hfz30 := blk_frozen BK294.out) | ((with_reducible refine gate_callee (f := 19) rfl ?_); refine cl_ 19 (some 18) Tryz.func19 (notation_Cell.calls k 1 1 2 1 0 3 4 t295 t296 _ A3.out) ?_; rintro e w31 ⟨rfl, hb⟩; refine ⟨_, rfl, ?_⟩; replace BK294 := Aside0.mk (blk_below (g := gb294) (o := .cells #[.int .i64 t291, .int .i64 t292] 49 (0, 0)) (bk_ BK294) hb); replace HB := bs_ HB hb; (try clear hb); (try clear hb2); (try clear hk); (try clear hi); have hcz32 := blk_cell BK294.out; have hfz32 := blk_frozen BK294.out))); (go_ret); (exact ⟨rv_, bl_ HB⟩)
    · rw [if_neg c5] at H
      (obtain ⟨c5b0, c5b1⟩ := eqF_ c5); (obtain rfl := Option.some.inj H); (go_enter Tryz.func6, Tryz.ntmps6); (go_wp2_with (first | ((with_reducible refine gate_callee (f := 17) rfl ?_); refine cl_ 17 (some 9) Tryz.func17 (notation_Symbol.calls k 4 6 4 t289 t290 _ A1.out) ?_; rintro e w33 ⟨rfl, hb⟩; refine ⟨_, rfl, ?_⟩; replace HB := bs_ HB hb; (try clear hb); (try clear hb2); (try clear hk); (try clear hi)) | ((with_reducible refine gate_callee (f := 18) rfl ?_); refine cl_ 18 (some 13) Tryz.func18 (notation_Place.calls k 4 0 (⟨#[38]⟩ : ByteArray) t291 t292 t293 _ A2.out) ?_; rintro e w34 ⟨rfl, hb⟩; refine ⟨_, rfl, ?_⟩; replace HB := bs_ HB hb; (try clear hb); (try clear hb2); (try clear hk); (try clear hi)) | ((with_reducible refine gate_dst (N := 3) rfl ?_); refine bx_ 3 #[.int .i64 0, .int .i64 0] 49 HB ?_; clear HB; intro gb294 w35 hg hb BK294 HB GW294; have GE294 := GW294; clear hg hb; have hcz36 := blk_cell BK294.out; have hfz36 := blk_frozen BK294.out) | ((with_reducible refine gate_callee (f := 19) rfl ?_); refine cl_ 19 (some 18) Tryz.func19 (notation_Cell.calls k 1 1 2 1 0 3 4 t295 t296 _ A3.out) ?_; rintro e w37 ⟨rfl, hb⟩; refine ⟨_, rfl, ?_⟩; replace BK294 := Aside0.mk (blk_below (g := gb294) (o := .cells #[.int .i64 t291, .int .i64 t292] 49 (0, 0)) (bk_ BK294) hb); replace HB := bs_ HB hb; (try clear hb); (try clear hb2); (try clear hk); (try clear hi)))); (go_ret); (exact ⟨rv_, bl_ HB⟩)
  · rw [if_neg c4] at H
    (have c4b0 : (t289.toList == ([68] : List UInt8)) = false := beq_eq_false_iff_ne.mpr c4); (have c4b1 : (t289.toList != ([68] : List UInt8)) = true := bne_iff_ne.mpr c4); (obtain rfl := Option.some.inj H); (go_enter Tryz.func6, Tryz.ntmps6); (go_wp2_with (first | ((with_reducible refine gate_callee (f := 17) rfl ?_); refine cl_ 17 (some 9) Tryz.func17 (notation_Symbol.calls k 4 6 4 t289 t290 _ A1.out) ?_; rintro e w38 ⟨rfl, hb⟩; refine ⟨_, rfl, ?_⟩; replace HB := bs_ HB hb; (try clear hb); (try clear hb2); (try clear hk); (try clear hi)) | ((with_reducible refine gate_callee (f := 18) rfl ?_); refine cl_ 18 (some 13) Tryz.func18 (notation_Place.calls k 4 0 (⟨#[38]⟩ : ByteArray) t291 t292 t293 _ A2.out) ?_; rintro e w39 ⟨rfl, hb⟩; refine ⟨_, rfl, ?_⟩; replace HB := bs_ HB hb; (try clear hb); (try clear hb2); (try clear hk); (try clear hi)) | ((with_reducible refine gate_dst (N := 3) rfl ?_); refine bx_ 3 #[.int .i64 0, .int .i64 0] 49 HB ?_; clear HB; intro gb294 w40 hg hb BK294 HB GW294; have GE294 := GW294; clear hg hb; have hcz41 := blk_cell BK294.out; have hfz41 := blk_frozen BK294.out) | ((with_reducible refine gate_callee (f := 19) rfl ?_); refine cl_ 19 (some 18) Tryz.func19 (notation_Cell.calls k 1 1 2 1 0 3 4 t295 t296 _ A3.out) ?_; rintro e w42 ⟨rfl, hb⟩; refine ⟨_, rfl, ?_⟩; replace BK294 := Aside0.mk (blk_below (g := gb294) (o := .cells #[.int .i64 t291, .int .i64 t292] 49 (0, 0)) (bk_ BK294) hb); replace HB := bs_ HB hb; (try clear hb); (try clear hb2); (try clear hk); (try clear hi)))); (go_ret); (exact ⟨rv_, bl_ HB⟩)

/-! ### theorboref01_Copy: function 20 -/
def theorboref01_Copy.f (l0_0 : List (S99)) (l0_1 : List Int) : Option ((List (S99)) × List Int) := (some (([] : List (S99)) : List (S99))).bind fun y307 => (if y307.length + l0_0.length < 5864062014805 then ((some (([] : List Int) : List Int)).bind fun y313 => (if y313.length + l0_1.length < 17592186044416 then (some ((y307 ++ l0_0), (y313 ++ l0_1))) else (none))) else (none))
def theorboref01_Copy.T1 : Bool × List (List Nat × List Nat) := (true, [([], []), ([], []), ([1], [1]), ([0, 2], [0, 2]), ([], []), ([], []), ([5], [5]), ([4, 6, 3], [4, 6]), ([3, 7], [3, 7]), ([8, 7, 0, 1, 2, 3, 4, 5, 6, 7, 8], [8])])
def theorboref01_Copy.B1 : List Nat := [0, 0, 2, 7, 0, 0, 32, 127, 255, 511]
theorem theorboref01_Copy.tab1 : rtab .any (opsOf Tryz.f20 1) = theorboref01_Copy.T1 := by kernel_rfl
theorem theorboref01_Copy.bits1 : waitsOk theorboref01_Copy.T1.2 theorboref01_Copy.B1 = true := by kernel_rfl
set_option maxHeartbeats 8000000 in
set_option maxRecDepth 100000 in
theorem theorboref01_Copy.calls (A0_0 : Option Addr) (c0_0 : Nat) (l0_0 : List (S99)) (A0_1 : Option Addr) (c0_1 : Nat) (l0_1 : List Int) (r1 : List (S99)) (r2 : List Int) (w : World) (hr0_0 : Kd.C k99 w A0_0 l0_0.length l0_0) (hc0_0 : l0_0.length ≤ c0_0) (hr0_1 : Kd.C (Kd.int .i64) w A0_1 l0_1.length l0_1) (hc0_1 : l0_1.length ≤ c0_1) (h : theorboref01_Copy.f l0_0 l0_1 = some (r1, r2)) :
    Calls Tryz.prog 20 #[.agg #[.slice A0_0 l0_0.length c0_0, .slice A0_1 l0_1.length c0_1]] w fun e w' => ∃ v0_ v1_ : Value, e = .returned (.agg #[v0_, v1_]) ∧ Kd.R k99 99 w' w.heap.size (fun _ => True) v0_ r1 ∧ Kd.R (Kd.int .i64) 3 w' w.heap.size (fun _ => True) v1_ r2 ∧ Below w.heap.size w w' := by
  have hu26 := Tryz.underlying26
  have HR0_0 := Aside0.mk hr0_0
  have HC0_0 := Aside0.mk hc0_0
  clear hr0_0 hc0_0
  have HR0_1 := Aside0.mk hr0_1
  have HC0_1 := Aside0.mk hc0_1
  clear hr0_1 hc0_1
  have HB := Aside0.mk (Below.refl w.heap.size w)
  have H : ((some (([] : List (S99)) : List (S99))).bind fun y307 => (if y307.length + l0_0.length < 5864062014805 then ((some (([] : List Int) : List Int)).bind fun y313 => (if y313.length + l0_1.length < 17592186044416 then (some ((y307 ++ l0_0), (y313 ++ l0_1))) else (none))) else (none))) = some (r1, r2) := h
  clear h
  obtain ⟨y307, hy307⟩ : ∃ y_ : List (S99), y_ = (([] : List (S99))) := ⟨_, rfl⟩
  replace H : (if y307.length + l0_0.length < 5864062014805 then ((some (([] : List Int) : List Int)).bind fun y313 => (if y313.length + l0_1.length < 17592186044416 then (some ((y307 ++ l0_0), (y313 ++ l0_1))) else (none))) else (none)) = some (r1, r2) := by first | (rw [hy307]; with_reducible exact H) | (have H2_ := (Option.bind_some _ _).symm.trans H; rw [hy307]; with_reducible exact H2_) | (have H2_ := (Option.bind_some _ _).symm.trans H; with_reducible exact H2_) | with_reducible exact H | (rw [hy307]; exact H) | exact H
  have Ny307 := Aside0.mk hy307
  clear hy307
  by_cases c2 : y307.length + l0_0.length < 5864062014805
  · rw [if_pos c2] at H
    (have LMc2 := Aside0.mk c2); clear c2; (obtain ⟨y310, hy310⟩ : ∃ y_ : List (S99), y_ = (y307 ++ l0_0) := ⟨_, rfl⟩); (replace H : ((some (([] : List Int) : List Int)).bind fun y313 => (if y313.length + l0_1.length < 17592186044416 then (some (y310, (y313 ++ l0_1))) else (none))) = some (r1, r2) := by first | (rw [hy310]; with_reducible exact H) | (have H2_ := (Option.bind_some _ _).symm.trans H; rw [hy310]; with_reducible exact H2_) | (have H2_ := (Option.bind_some _ _).symm.trans H; with_reducible exact H2_) | with_reducible exact H | (rw [hy310]; exact H) | exact H); (have Ny310 := Aside0.mk hy310); clear hy310; (obtain ⟨y313, hy313⟩ : ∃ y_ : List Int, y_ = (([] : List Int)) := ⟨_, rfl⟩); (replace H : (if y313.length + l0_1.length < 17592186044416 then (some (y310, (y313 ++ l0_1))) else (none)) = some (r1, r2) := by first | (rw [hy313]; with_reducible exact H) | (have H2_ := (Option.bind_some _ _).symm.trans H; rw [hy313]; with_reducible exact H2_) | (have H2_ := (Option.bind_some _ _).symm.trans H; with_reducible exact H2_) | with_reducible exact H | (rw [hy313]; exact H) | exact H); (have Ny313 := Aside0.mk hy313); clear hy313; (by_cases c3 : y313.length + l0_1.length < 17592186044416)
    · rw [if_pos c3] at H
      ((have LMc3 := Aside0.mk c3); clear c3; (obtain ⟨y316, hy316⟩ : ∃ y_ : List Int, y_ = (y313 ++ l0_1) := ⟨_, rfl⟩); (replace H : (some (y310, y316)) = some (r1, r2) := by first | (rw [hy316]; with_reducible exact H) | (have H2_ := (Option.bind_some _ _).symm.trans H; rw [hy316]; with_reducible exact H2_) | (have H2_ := (Option.bind_some _ _).symm.trans H; with_reducible exact H2_) | with_reducible exact H | (rw [hy316]; exact H) | exact H); (have Ny316 := Aside0.mk hy316); clear hy316; (simp only [Option.some.injEq, Prod.mk.injEq] at H); (obtain ⟨rfl, rfl⟩ := H); (go_enter Tryz.func20, Tryz.ntmps20); (try go_wp2_with (first | ((with_reducible refine gate_dst (N := 1) rfl ?_); refine bx_ 1 #[.slice A0_0 l0_0.length c0_0, .slice A0_1 l0_1.length c0_1] 26 HB ?_; clear HB; intro gb305 w4 hg hb BK305 HB GW305; have GE305 := GW305; clear hg hb) | ((with_reducible refine gate_dst (N := 2) rfl ?_); refine bx_ 2 #[.slice none 0 0, .slice none 0 0] 26 HB ?_; clear HB; intro gb306 w5 hg hb BK306 HB GW306; have GE306 := GW306; have NB305_306 := nl_ BK305 hg; have NB306_305 := ng_ BK305 hg; replace BK305 := bb_ BK305 hb; clear hg hb))); (replace BK305 := Aside0.mk (blk_drew BK305.out)); (replace BK306 := Aside0.mk (blk_drew BK306.out)); (replace HB := Aside0.mk (below_drew1 HB.out)); (refine start_ (n := 10) (S := fun w' => w'.cell? ⟨gb305, 0, none⟩ = some (.slice A0_0 l0_0.length c0_0) ∧ w'.cell? ⟨gb305, 1, none⟩ = some (.slice A0_1 l0_1.length c0_1)) (ds := []) _ (by kernel_rfl) rfl rfl ⟨(blk_cell BK305.out 0).trans rfl, (blk_cell BK305.out 1).trans rfl⟩ (fun hHeld => ?_); refine with_tabW theorboref01_Copy.tab1 theorboref01_Copy.bits1 (fun HT_ HW_ => ?_)); (generalize w5.drew = w6 at BK305 BK306 HB hHeld ⊢); (refine pS_ 1 (some 4) HT_ ?_); (refine pS_ 5 (some 8) HT_ ?_); (refine tS_ 2 (some 5) HT_ HW_ hHeld ?_); (refine tS_ 6 (some 9) HT_ HW_ hHeld ?_); (refine join_ (σ := Value × Value × Value) 3 #[true, true, true, true, true, true, true, false, false, false] (fun s_ => [(3, s_.1), (6, s_.2.1), (7, s_.2.2)]) (fun s_ w' => (w'.cell? ⟨gb305, 0, none⟩ = some (.slice A0_0 l0_0.length c0_0) ∧ w'.cell? ⟨gb305, 1, none⟩ = some (.slice A0_1 l0_1.length c0_1)) ∧ (Kd.R k99 99 w' w.heap.size (fun _ => True) s_.2.1 y310) ∧ (Kd.R (Kd.int .i64) 3 w' w.heap.size (fun _ => True) s_.2.2 y313) ∧ (w'.heap[gb305]? = some (.cells #[.slice A0_0 l0_0.length c0_0, .slice A0_1 l0_1.length c0_1] 26 (0, 0))) ∧ (w'.heap[gb306]? = some (.cells #[.slice none 0 0, .slice none 0 0] 26 (0, 0))) ∧ (Below w.heap.size w w')) ?_ ?_); rotate_left); (focus intro hCont; ((refine two_ (i := 0) (j := 4) (Ni := some 3) (Nj := some 7) #[true, true, true, false, false, true, true, false, false, false] #[false, true, true, false, true, true, true, false, false, false] rfl rfl rfl rfl (two_of HT_.out (by kernel_rfl)) (by decide) (by decide) (fun K hK => ?_) (fun K hK => ?_)); (focus (skip); (((refine Kd.R_lit_step k99 _ 99 ?hg (N := 3) ?hd (xs := ([] : List (S99))) (inner := []) (ok := fun _ => True) (okp := fun _ => True) ?hr ?hp (fun _ hk => hk) trivial (Below.refl _ _) (Nat.le_refl _) (by simp) ?_; (case hd => rfl); (case hg => rfl); (case hr => first | (go_simp; done) | (go_simp; rfl)); (case hp => exact (Reps.none _ _))); intro v308 w7 ho8 hb hg_ hnew_; clear hg_ hnew_; ((first | rw [← Ny307.out] at ho8 | (simp only [Int.reduceToNat] at ho8; rw [← Ny307.out] at ho8))); (have HO309 := rl_ ho8 HB); (replace BK305 := bb_ BK305 hb); (replace BK306 := bb_ BK306 hb); (replace HB := bs_ HB hb); clear hb ho8; (refine hK.out _ _ ⟨(blk_cell BK305.out 0).trans rfl, (blk_cell BK305.out 1).trans rfl⟩ (fun hHeld => ?_)); clear hK K; (refine nS_ (some 3) ?_); (refine two_ (i := 3) (j := 4) (Ni := some 6) (Nj := some 7) #[true, true, true, true, false, true, true, false, false, false] #[true, true, true, false, true, true, true, false, false, false] rfl rfl rfl rfl (two_of HT_.out (by kernel_rfl)) (by decide) (by decide) (fun K hK => ?_) (fun K hK => ?_))); (focus (skip); ((refine Kd.R_append_rows_step k99 (w0 := w) w.heap.size (by rfl) (.tmp 3) (.tmp 5) 23 99 (.agg #[(.int .i64 0), (.int .i64 0), (.bool false)]) 24 rfl Tryz.underlying23 info99 rfl (by decide) (by omega) v308 y307 l0_0 _ _ _ (fun _ => True) (fun _ => False) rfl rfl ?aO ?aR (fun _ _ h => h) (fun _ h => h.elim) ?aF ?aB ?aS ?aL ?_); ((case aR => exact kc_ HR0_0 HB)); ((case aB => exact (bl_ HB))); ((case aF => exact (fun _ _ => trivial))); ((case aO => exact (kr_ HO309))); ((case aS => exact (below_size (bl_ HB)))); ((case aL => have := LMc2.out; omega)); intro v311 w9 ho hb hg hat; (rw [← Ny310.out] at ho); (replace BK305 := bg_ BK305 hg (Kd.R_ne HO309.out BK305.out (by decide))); (replace BK306 := bg_ BK306 hg (Kd.R_ne HO309.out BK306.out (by decide))); (replace HB := Aside0.mk (hb)); (have HO312 := Aside0.mk (ho)); clear HO309 ho hb hg hat; (refine hK.out _ _ ⟨(blk_cell BK305.out 0).trans rfl, (blk_cell BK305.out 1).trans rfl⟩ (fun hHeld => ?_)); clear hK K; (refine nS_ (some 6) ?_); (refine oS_ 4 (some 7) HT_ (fun K hK => ?_)); (refine Kd.R_lit_step (Kd.int .i64) _ 3 ?hg (N := 7) ?hd (xs := ([] : List Int)) (inner := []) (ok := fun _ => True) (okp := fun _ => True) ?hr ?hp (fun _ hk => hk) trivial (Below.refl _ _) (Nat.le_refl _) (by simp) ?_; (case hd => rfl); (case hg => rfl); (case hr => first | (go_simp; done) | (go_simp; rfl)); (case hp => exact (Reps.none _ _))); intro v314 w10 ho11 hb hg_ hnew_; clear hg_ hnew_; ((first | rw [← Ny313.out] at ho11 | (simp only [Int.reduceToNat] at ho11; rw [← Ny313.out] at ho11))); (replace HO312 := rb_ HO312 hb); (have HO315 := rl_ ho11 HB); (replace BK305 := bb_ BK305 hb); (replace BK306 := bb_ BK306 hb); (replace HB := bs_ HB hb); clear hb ho11; (refine hK.out _ _ ⟨(blk_cell BK305.out 0).trans rfl, (blk_cell BK305.out 1).trans rfl⟩ (fun hHeld => ?_)); clear hK K; (refine nS_ (some 7) ?_); (exact norm_ (by simp only [putAll, Act.put, List.setIfInBounds_toArray, List.set_cons_zero, List.set_cons_succ]) (hCont (v308, v311, v314) _ ⟨hHeld, (kr_ HO312), (kr_ HO315), (bk_ BK305), (bk_ BK306), (bl_ HB)⟩)))); (focus (skip); ((refine Kd.R_lit_step (Kd.int .i64) _ 3 ?hg (N := 7) ?hd (xs := ([] : List Int)) (inner := []) (ok := fun _ => True) (okp := fun _ => True) ?hr ?hp (fun _ hk => hk) trivial (Below.refl _ _) (Nat.le_refl _) (by simp) ?_; (case hd => rfl); (case hg => rfl); (case hr => first | (go_simp; done) | (go_simp; rfl)); (case hp => exact (Reps.none _ _))); intro v314 w9 ho10 hb hg_ hnew_; clear hg_ hnew_; ((first | rw [← Ny313.out] at ho10 | (simp only [Int.reduceToNat] at ho10; rw [← Ny313.out] at ho10))); (replace HO309 := rb_ HO309 hb); (have HO315 := rl_ ho10 HB); (replace BK305 := bb_ BK305 hb); (replace BK306 := bb_ BK306 hb); (replace HB := bs_ HB hb); clear hb ho10; (refine hK.out _ _ ⟨(blk_cell BK305.out 0).trans rfl, (blk_cell BK305.out 1).trans rfl⟩ (fun hHeld => ?_)); clear hK K; (refine nS_ (some 7) ?_); (refine oS_ 3 (some 6) HT_ (fun K hK => ?_)); (refine Kd.R_append_rows_step k99 (w0 := w) w.heap.size (by rfl) (.tmp 3) (.tmp 5) 23 99 (.agg #[(.int .i64 0), (.int .i64 0), (.bool false)]) 24 rfl Tryz.underlying23 info99 rfl (by decide) (by omega) v308 y307 l0_0 _ _ _ (fun _ => True) (fun _ => False) rfl rfl ?aO ?aR (fun _ _ h => h) (fun _ h => h.elim) ?aF ?aB ?aS ?aL ?_); ((case aR => exact kc_ HR0_0 HB)); ((case aB => exact (bl_ HB))); ((case aF => exact (fun _ _ => trivial))); ((case aO => exact (kr_ HO309))); ((case aS => exact (below_size (bl_ HB)))); ((case aL => have := LMc2.out; omega)); intro v311 w11 ho hb hg hat; (rw [← Ny310.out] at ho); (replace BK305 := bg_ BK305 hg (Kd.R_ne HO309.out BK305.out (by decide))); (replace BK306 := bg_ BK306 hg (Kd.R_ne HO309.out BK306.out (by decide))); (replace HO315 := Aside0.mk (Kd.R_over' (kr_ HO315) (Kd.R_typed (kr_ HO309)) (by decide) hg)); (replace HB := Aside0.mk (hb)); (have HO312 := Aside0.mk (ho)); clear HO309 ho hb hg hat; (refine hK.out _ _ ⟨(blk_cell BK305.out 0).trans rfl, (blk_cell BK305.out 1).trans rfl⟩ (fun hHeld => ?_)); clear hK K; (refine nS_ (some 6) ?_); (exact norm_ (by simp only [putAll, Act.put, List.setIfInBounds_toArray, List.set_cons_zero, List.set_cons_succ]) (hCont (v308, v311, v314) _ ⟨hHeld, (kr_ HO312), (kr_ HO315), (bk_ BK305), (bk_ BK306), (bl_ HB)⟩)))))); (focus (skip); ((refine Kd.R_lit_step (Kd.int .i64) _ 3 ?hg (N := 7) ?hd (xs := ([] : List Int)) (inner := []) (ok := fun _ => True) (okp := fun _ => True) ?hr ?hp (fun _ hk => hk) trivial (Below.refl _ _) (Nat.le_refl _) (by simp) ?_; (case hd => rfl); (case hg => rfl); (case hr => first | (go_simp; done) | (go_simp; rfl)); (case hp => exact (Reps.none _ _))); intro v314 w7 ho8 hb hg_ hnew_; clear hg_ hnew_; ((first | rw [← Ny313.out] at ho8 | (simp only [Int.reduceToNat] at ho8; rw [← Ny313.out] at ho8))); (have HO315 := rl_ ho8 HB); (replace BK305 := bb_ BK305 hb); (replace BK306 := bb_ BK306 hb); (replace HB := bs_ HB hb); clear hb ho8; (refine hK.out _ _ ⟨(blk_cell BK305.out 0).trans rfl, (blk_cell BK305.out 1).trans rfl⟩ (fun hHeld => ?_)); clear hK K; (refine nS_ (some 7) ?_); (refine oS_ 0 (some 3) HT_ (fun K hK => ?_)); (refine Kd.R_lit_step k99 _ 99 ?hg (N := 3) ?hd (xs := ([] : List (S99))) (inner := []) (ok := fun _ => True) (okp := fun _ => True) ?hr ?hp (fun _ hk => hk) trivial (Below.refl _ _) (Nat.le_refl _) (by simp) ?_; (case hd => rfl); (case hg => rfl); (case hr => first | (go_simp; done) | (go_simp; rfl)); (case hp => exact (Reps.none _ _))); intro v308 w9 ho10 hb hg_ hnew_; clear hg_ hnew_; ((first | rw [← Ny307.out] at ho10 | (simp only [Int.reduceToNat] at ho10; rw [← Ny307.out] at ho10))); (replace HO315 := rb_ HO315 hb); (have HO309 := rl_ ho10 HB); (replace BK305 := bb_ BK305 hb); (replace BK306 := bb_ BK306 hb); (replace HB := bs_ HB hb); clear hb ho10; (refine hK.out _ _ ⟨(blk_cell BK305.out 0).trans rfl, (blk_cell BK305.out 1).trans rfl⟩ (fun hHeld => ?_)); clear hK K; (refine nS_ (some 3) ?_); (refine oS_ 3 (some 6) HT_ (fun K hK => ?_)); (refine Kd.R_append_rows_step k99 (w0 := w) w.heap.size (by rfl) (.tmp 3) (.tmp 5) 23 99 (.agg #[(.int .i64 0), (.int .i64 0), (.bool false)]) 24 rfl Tryz.underlying23 info99 rfl (by decide) (by omega) v308 y307 l0_0 _ _ _ (fun _ => True) (fun _ => False) rfl rfl ?aO ?aR (fun _ _ h => h) (fun _ h => h.elim) ?aF ?aB ?aS ?aL ?_); ((case aR => exact kc_ HR0_0 HB)); ((case aB => exact (bl_ HB))); ((case aF => exact (fun _ _ => trivial))); ((case aO => exact (kr_ HO309))); ((case aS => exact (below_size (bl_ HB)))); ((case aL => have := LMc2.out; omega)); intro v311 w11 ho hb hg hat; (rw [← Ny310.out] at ho); (replace BK305 := bg_ BK305 hg (Kd.R_ne HO309.out BK305.out (by decide))); (replace BK306 := bg_ BK306 hg (Kd.R_ne HO309.out BK306.out (by decide))); (replace HO315 := Aside0.mk (Kd.R_over' (kr_ HO315) (Kd.R_typed (kr_ HO309)) (by decide) hg)); (replace HB := Aside0.mk (hb)); (have HO312 := Aside0.mk (ho)); clear HO309 ho hb hg hat; (refine hK.out _ _ ⟨(blk_cell BK305.out 0).trans rfl, (blk_cell BK305.out 1).trans rfl⟩ (fun hHeld => ?_)); clear hK K; (refine nS_ (some 6) ?_); (exact norm_ (by simp only [putAll, Act.put, List.setIfInBounds_toArray, List.set_cons_zero, List.set_cons_succ]) (hCont (v308, v311, v314) _ ⟨hHeld, (kr_ HO312), (kr_ HO315), (bk_ BK305), (bk_ BK306), (bl_ HB)⟩)))))); (((rintro ⟨v308, v311, v314⟩ w12 ⟨hS_, h0_, h1_, h2_, h3_, h4_⟩); (have n0_ : Aside0 (Kd.R k99 99 w12 w.heap.size (fun _ => True) v311 y310) := ⟨h0_⟩); (have n1_ : Aside0 (Kd.R (Kd.int .i64) 3 w12 w.heap.size (fun _ => True) v314 y313) := ⟨h1_⟩); (have n2_ : Aside0 (w12.heap[gb305]? = some (.cells #[.slice A0_0 l0_0.length c0_0, .slice A0_1 l0_1.length c0_1] 26 (0, 0))) := ⟨h2_⟩); (have n3_ : Aside0 (w12.heap[gb306]? = some (.cells #[.slice none 0 0, .slice none 0 0] 26 (0, 0))) := ⟨h3_⟩); (have n4_ : Aside0 (Below w.heap.size w w12) := ⟨h4_⟩); clear BK305 BK306 HB h0_ h1_ h2_ h3_ h4_; (have HO312 := n0_); (have HO315 := n1_); (have BK305 := n2_); (have BK306 := n3_); (have HB := n4_); clear n0_ n1_ n2_ n3_ n4_; (have hHeld : w12.cell? ⟨gb305, 0, none⟩ = some (.slice A0_0 l0_0.length c0_0) ∧ w12.cell? ⟨gb305, 1, none⟩ = some (.slice A0_1 l0_1.length c0_1) := hS_); (refine norm_ (a' := ?_) ?_ ?_); rotate_left); (focus (simp only [putAll, Act.put, List.setIfInBounds_toArray, List.set_cons_zero, List.set_cons_succ]); rfl); ((refine oS_ 7 (some 10) HT_ (fun K hK => ?_)); (refine Kd.R_append_rows_step (Kd.int .i64) (w0 := w) w.heap.size (by rfl) (.tmp 7) (.tmp 9) 24 3 (.int .i64 0) 8 rfl Tryz.underlying24 info3 rfl (by decide) (by omega) v314 y313 l0_1 _ _ _ (fun _ => True) (fun _ => False) rfl rfl ?aO ?aR (fun _ _ h => h) (fun _ h => h.elim) ?aF ?aB ?aS ?aL ?_); ((case aR => exact kc_ HR0_1 HB)); ((case aB => exact (bl_ HB))); ((case aF => exact (fun _ _ => trivial))); ((case aO => exact (kr_ HO315))); ((case aS => exact (below_size (bl_ HB)))); ((case aL => have := LMc3.out; omega)); intro v317 w13 ho hb hg hat; (rw [← Ny316.out] at ho); (replace BK305 := bg_ BK305 hg (Kd.R_ne HO315.out BK305.out (by decide))); (replace BK306 := bg_ BK306 hg (Kd.R_ne HO315.out BK306.out (by decide))); (replace HO312 := Aside0.mk (Kd.R_over' (kr_ HO312) (Kd.R_typed (kr_ HO315)) (by decide) hg)); (replace HB := Aside0.mk (hb)); (have HO318 := Aside0.mk (ho)); clear HO315 ho hb hg hat; (obtain ⟨Ao14, co14, eo14⟩ := Kd.R_slice HO318.out); ((first | subst eo14 | (injection eo14 with f1_ f2_ f3_; have f4_ := f1_.symm; have f5_ := f3_.symm; clear f1_ f2_ f3_; subst f4_; subst f5_))); (obtain ⟨Ao15, co15, eo15⟩ := Kd.R_slice HO312.out); ((first | subst eo15 | (injection eo15 with f1_ f2_ f3_; have f4_ := f1_.symm; have f5_ := f3_.symm; clear f1_ f2_ f3_; subst f4_; subst f5_))); (refine hK.out _ _ ⟨(blk_cell BK305.out 0).trans rfl, (blk_cell BK305.out 1).trans rfl⟩ (fun hHeld => ?_)); clear hK K; (refine nS_ (some 10) ?_); (refine pS_ 8 (some 11) HT_ ?_); (refine oS_ 9 (none) HT_ (fun K hK => ?_)); (have hs16 : w13.cell? ⟨gb306, 0, none⟩ = some (.slice none 0 0) := (blk_cell BK306.out 0).trans rfl); (have hfs16 := blk_frozen BK306.out 0); (have hns16_0 := NB305_306.out); (have hms16_0 := NB306_305.out); (have hs17 : w13.cell? ⟨gb306, 1, none⟩ = some (.slice none 0 0) := (blk_cell BK306.out 1).trans rfl); (have hfs17 := blk_frozen BK306.out 1); (have hns17_0 := NB305_306.out); (have hms17_0 := NB306_305.out); (refine skip_ (w1 := ?_) (by rfl) rfl ?_ ?_); rotate_left); (focus go_simp; rfl); ((refine hK.out _ _ ⟨((cell_far (p := ⟨gb306, _, none⟩) NB305_306.out _).trans (((cell_far (p := ⟨gb306, _, none⟩) NB305_306.out _).trans (hHeld.1)))), ((cell_far (p := ⟨gb306, _, none⟩) NB305_306.out _).trans (((cell_far (p := ⟨gb306, _, none⟩) NB305_306.out _).trans (hHeld.2))))⟩ (fun hHeld => ?_)); clear hK K; (refine done_ (done_of HT_.out (by kernel_rfl)) ?_); (try go_wp2); (refine bodyPost_ret (results_cell_row rfl _ _ gb306 26 #[.slice Ao15 y310.length co15, .slice Ao14 y316.length co14] (0, 0) _ rfl (bk_ BK306) Tryz.underlying26 rfl (by kernel_rfl)) rfl ?_); (exact ⟨_, _, rv_, by (with_reducible repeat (first | apply Kd.R_alloc | apply Kd.R_drewN | apply Kd.R_drew)); exact Kd.R_mono (Kd.R_far (p := ⟨gb306, 1, none⟩) (Kd.R_far (p := ⟨gb306, 0, none⟩) (Kd.R_types HO312.out BK306.out (by decide)) (fun _ hk => hk.2) (.slice Ao15 y310.length co15)) (fun _ hk => hk.2) (.slice Ao14 y316.length co14)) (fun _ hk => trivial), by (with_reducible repeat (first | apply Kd.R_alloc | apply Kd.R_drewN | apply Kd.R_drew)); exact Kd.R_mono (Kd.R_far (p := ⟨gb306, 1, none⟩) (Kd.R_far (p := ⟨gb306, 0, none⟩) (Kd.R_types HO318.out BK306.out (by decide)) (fun _ hk => hk.2) (.slice Ao15 y310.length co15)) (fun _ hk => hk.2) (.slice Ao14 y316.length co14)) (fun _ hk => trivial), bl_ HB⟩)))
    · rw [if_neg c3] at H
      exact absurd H (by simp)
  · rw [if_neg c2] at H
    exact absurd H (by simp)

/-! ### theorboref02_Copy: function 7 -/
def theorboref02_Copy.l0 : Nat → Int → List (S99) → List Int → List (S46) → List (S99) → List Int → List (S46) → Option ((List (S99)) × List Int × (List (S46)))
  | 0, _, _, _, _, _, _, _ => none
  | k + 1, x4, x334000, x334001, x334002, x342000, x342001, x342002 => if x4 < (x334002.length : Int) then (if 0 ≤ x4 then ((some (([] : List (S54)) : List (S54))).bind fun y344 => (if y344.length + ((rd_T46 x334002 x4).f3).length < 3518437208883 then (if x342002.length < 2513169434916 then (theorboref02_Copy.l0 k (wrap64 (x4 + 1)) x334000 x334001 x334002 x342000 x342001 (x342002 ++ [(⟨(rd_T46 x334002 x4).f0, (⟨(rd_T46 x334002 x4).f1.f0, (rd_T46 x334002 x4).f1.f1, (rd_T46 x334002 x4).f1.f2⟩ : S43), (rd_T46 x334002 x4).f2, (y344 ++ ((rd_T46 x334002 x4).f3))⟩ : S46)])) else (none)) else (none))) else (none)) else (some (x342000, x342001, x342002))
def theorboref02_Copy.f (k : Nat) (l0_0 : List (S99)) (l0_1 : List Int) (l0_2 : List (S46)) : Option ((List (S99)) × List Int × (List (S46))) := (theorboref01_Copy.f l0_0 l0_1).bind fun bt335 => (theorboref02_Copy.l0 k 0 l0_0 l0_1 l0_2 bt335.1 bt335.2 ([] : List (S46)))
theorem theorboref02_Copy.mono_l : ∀ k, (∀ y0 y1 y2 y3 y4 y5 y6, LeO (theorboref02_Copy.l0 k y0 y1 y2 y3 y4 y5 y6) (theorboref02_Copy.l0 (k + 1) y0 y1 y2 y3 y4 y5 y6))
  | 0 => fun _ _ _ _ _ _ _ r h => by simp [theorboref02_Copy.l0] at h
  | k + 1 => by
    (have ih0 := theorboref02_Copy.mono_l k); (focus intro y0 y1 y2 y3 y4 y5 y6; (unfold theorboref02_Copy.l0); (repeat' first | (with_reducible first | apply ih0 | exact LeO.refl _ | exact LeO.none _ | refine LeO.ite ?_ ?_ | refine LeO.bind ?_ fun _ => ?_) | exact LeO.none _ | refine LeO.ite ?_ ?_ | refine LeO.bind ?_ fun _ => ?_ | apply ih0))
theorem theorboref02_Copy.mono : ∀ a0 a1 a2 k, LeO (theorboref02_Copy.f k a0 a1 a2) (theorboref02_Copy.f (k + 1) a0 a1 a2) := by
  intro a0 a1 a2 k
  have ih0 := theorboref02_Copy.mono_l k
  unfold theorboref02_Copy.f
  repeat' first | (with_reducible first | apply ih0 | exact LeO.refl _ | exact LeO.none _ | refine LeO.ite ?_ ?_ | refine LeO.bind ?_ fun _ => ?_) | exact LeO.none _ | refine LeO.ite ?_ ?_ | refine LeO.bind ?_ fun _ => ?_ | apply ih0
set_option maxHeartbeats 8000000 in
set_option maxRecDepth 100000 in
theorem theorboref02_Copy.calls (k : Nat) (A0_0 : Option Addr) (c0_0 : Nat) (l0_0 : List (S99)) (A0_1 : Option Addr) (c0_1 : Nat) (l0_1 : List Int) (A0_2 : Option Addr) (c0_2 : Nat) (l0_2 : List (S46)) (r1 : List (S99)) (r2 : List Int) (r3 : List (S46)) (w : World) (hr0_0 : Kd.C k99 w A0_0 l0_0.length l0_0) (hc0_0 : l0_0.length ≤ c0_0) (hr0_1 : Kd.C (Kd.int .i64) w A0_1 l0_1.length l0_1) (hc0_1 : l0_1.length ≤ c0_1) (hr0_2 : Kd.C k46 w A0_2 l0_2.length l0_2) (hc0_2 : l0_2.length ≤ c0_2) (h : theorboref02_Copy.f k l0_0 l0_1 l0_2 = some (r1, r2, r3)) :
    Calls Tryz.prog 7 #[.agg #[.slice A0_0 l0_0.length c0_0, .slice A0_1 l0_1.length c0_1, .slice A0_2 l0_2.length c0_2]] w fun e w' => ∃ v0_ v1_ v2_ : Value, e = .returned (.agg #[v0_, v1_, v2_]) ∧ Kd.R k99 99 w' w.heap.size (fun _ => True) v0_ r1 ∧ Kd.R (Kd.int .i64) 3 w' w.heap.size (fun _ => True) v1_ r2 ∧ Kd.S k46 46 w' w.heap.size (fun _ => True) v2_ r3 ∧ Below w.heap.size w w' := by
  have hu29 := Tryz.underlying29
  have hu26 := Tryz.underlying26
  have hu46 := Tryz.underlying46
  have HR0_0 := Aside0.mk hr0_0
  have HC0_0 := Aside0.mk hc0_0
  clear hr0_0 hc0_0
  have HR0_1 := Aside0.mk hr0_1
  have HC0_1 := Aside0.mk hc0_1
  clear hr0_1 hc0_1
  have HR0_2 := Aside0.mk hr0_2
  have HC0_2 := Aside0.mk hc0_2
  clear hr0_2 hc0_2
  have HB := Aside0.mk (Below.refl w.heap.size w)
  have H : ((theorboref01_Copy.f l0_0 l0_1).bind fun bt335 => (theorboref02_Copy.l0 k 0 l0_0 l0_1 l0_2 bt335.1 bt335.2 ([] : List (S46)))) = some (r1, r2, r3) := h
  clear h
  replace H := Option.bind_eq_some_iff.mp H
  obtain ⟨⟨t335, t338⟩, A20, H⟩ := H
  try dsimp only at H
  have A2 := Aside0.mk A20
  clear A20
  have H' := Aside0.mk H
  clear H
  go_enter Tryz.func7, Tryz.ntmps7
  go_wp2_with (first | ((with_reducible refine gate_dst (N := 1) rfl ?_); refine bx_ 1 #[.slice A0_0 l0_0.length c0_0, .slice A0_1 l0_1.length c0_1, .slice A0_2 l0_2.length c0_2] 29 HB ?_; clear HB; intro gb333 w3 hg hb BK333 HB GW333; have GE333 := GW333; clear hg hb) | ((with_reducible refine gate_dst (N := 2) rfl ?_); refine bx_ 2 #[.slice none 0 0, .slice none 0 0, .slice none 0 0] 29 HB ?_; clear HB; intro gb334 w4 hg hb BK334 HB GW334; have GE334 := GW334; have NB333_334 := nl_ BK333 hg; have NB334_333 := ng_ BK333 hg; replace BK333 := bb_ BK333 hb; clear hg hb; have hnb5 := NB333_334.out; have hnc5 := NB334_333.out; have hcz6 := blk_cell BK333.out; have hfz6 := blk_frozen BK333.out) | ((with_reducible refine gate_callee (f := 20) rfl ?_); refine cl_ 20 (some 8) Tryz.func20 (theorboref01_Copy.calls _ _ l0_0 _ _ l0_1 t335 t338 _ (kc_ HR0_0 HB) HC0_0.out (kc_ HR0_1 HB) HC0_1.out A2.out) ?_; rintro e w7 ⟨v336, v339, rfl, ho0, ho1, hb⟩; refine ⟨_, rfl, ?_⟩; have HO337 := rl_ ho0 HB; have HO340 := rl_ ho1 HB; replace BK333 := bb_ BK333 hb; replace BK334 := bb_ BK334 hb; replace HB := bs_ HB hb; (try clear hb); (try clear hb2); (try clear hk); (try clear hi); (try clear ho0); (try clear ho1); obtain ⟨Ao8, co8, eo8⟩ := Kd.R_slice HO340.out; subst eo8; obtain ⟨Ao9, co9, eo9⟩ := Kd.R_slice HO337.out; subst eo9) | ((with_reducible refine gate_dst (N := 3) rfl ?_); refine bx_ 3 #[.slice none 0 0, .slice none 0 0, .slice none 0 0] 29 HB ?_; clear HB; intro gb341 w10 hg hb BK341 HB GW341; have GE341 := GW341; have NB333_341 := nl_ BK333 hg; have NB341_333 := ng_ BK333 hg; have NB334_341 := nl_ BK334 hg; have NB341_334 := ng_ BK334 hg; replace HO337 := rb_ HO337 hb; replace HO340 := rb_ HO340 hb; replace BK333 := bb_ BK333 hb; replace BK334 := bb_ BK334 hb; clear hg hb; have hnb11 := NB341_333.out; have hnc11 := NB333_341.out; have hnb12 := NB341_334.out; have hnc12 := NB334_341.out; have hcz13 := blk_cell BK341.out; have hfz13 := blk_frozen BK341.out))
  go_loopg [4] k (fun kq v4 w' => ∃ (x4_1 : Int) (x342002_1 : List (S46)) (u342002 : Value), v4 = .int .i64 x4_1 ∧ Aside0 (theorboref02_Copy.l0 kq x4_1 l0_0 l0_1 l0_2 t335 t338 x342002_1 = some (r1, r2, r3)) ∧ Aside0 (kq ≤ k) ∧ Aside0 (Kd.R k99 99 w' w.heap.size (fun _ => True) (.slice Ao9 t335.length co9) t335) ∧ Aside0 (Kd.R (Kd.int .i64) 3 w' w.heap.size (fun _ => True) (.slice Ao8 t338.length co8) t338) ∧ Aside0 (Kd.S k46 46 w' w.heap.size (fun _ => True) u342002 x342002_1) ∧ Aside0 (w'.heap[gb333]? = some (.cells #[(.slice A0_0 l0_0.length c0_0), (.slice A0_1 l0_1.length c0_1), (.slice A0_2 l0_2.length c0_2)] 29 (0, 0))) ∧ Aside0 (w'.heap[gb334]? = some (.cells #[(.slice none 0 0), (.slice none 0 0), (.slice none 0 0)] 29 (0, 0))) ∧ Aside0 (w'.heap[gb341]? = some (.cells #[(.slice Ao9 t335.length co9), (.slice Ao8 t338.length co8), u342002] 29 (0, 0))) ∧ Aside0 (Below w.heap.size w w'))
  case atStart => exact ⟨(0), (([] : List (S46))), (.slice none 0 0), (rs_), H', ⟨Nat.le_refl _⟩, ⟨by (with_reducible repeat (first | apply Kd.R_alloc | apply Kd.R_drewN | apply Kd.R_drew)); exact Kd.R_mono (Kd.R_far (p := ⟨gb341, 2, none⟩) (Kd.R_far (p := ⟨gb341, 1, none⟩) (Kd.R_far (p := ⟨gb341, 0, none⟩) (Kd.R_types HO337.out BK341.out (by decide)) (fun _ hk => hk.2) (.slice Ao9 t335.length co9)) (fun _ hk => hk.2) (.slice Ao8 t338.length co8)) (fun _ hk => hk.2) (.slice none 0 0)) (fun _ hk => trivial)⟩, ⟨by (with_reducible repeat (first | apply Kd.R_alloc | apply Kd.R_drewN | apply Kd.R_drew)); exact Kd.R_mono (Kd.R_far (p := ⟨gb341, 2, none⟩) (Kd.R_far (p := ⟨gb341, 1, none⟩) (Kd.R_far (p := ⟨gb341, 0, none⟩) (Kd.R_types HO340.out BK341.out (by decide)) (fun _ hk => hk.2) (.slice Ao9 t335.length co9)) (fun _ hk => hk.2) (.slice Ao8 t338.length co8)) (fun _ hk => hk.2) (.slice none 0 0)) (fun _ hk => trivial)⟩, ⟨by first | exact Kd.S_nil _ _ _ _ _ | exact Kd.N_nil _ _ _ _ _ | exact Kd.V_nil _ _ _ _ _ | exact Kd.Q_nil _ _ _ _ _ | exact Kd.R_nil _ _ _ _ _⟩, ⟨bk_ BK333⟩, ⟨bk_ BK334⟩, ⟨bk_ BK341⟩, ⟨bl_ HB⟩⟩
  case round =>
    clear H'; (try clear hcz13 hcz6 hfz13 hfz6); (obtain ⟨x4_1, x342002_1, u342002, rfl, HA, HK1, HO_342000, HO_342001, HO_342002, BK333, BK334, BK341, HB⟩ := hrel)
    cases gk with
    | zero => exact absurd HA.out (by simp [theorboref02_Copy.l0])
    | succ k1 =>
      (have H := HA.out); clear HA; (simp only [theorboref02_Copy.l0] at H); (by_cases c14 : x4_1 < (l0_2.length : Int))
      · rw [if_pos c14] at H
        (have c14b0 := decide_eq_true c14); clear c14; (by_cases c15 : 0 ≤ x4_1)
        · rw [if_pos c15] at H
          (have c15b0 := decide_eq_true c15); clear c15; (obtain ⟨y344, hy344⟩ : ∃ y_ : List (S54), y_ = (([] : List (S54))) := ⟨_, rfl⟩); (replace H : (if y344.length + ((rd_T46 l0_2 x4_1).f3).length < 3518437208883 then (if x342002_1.length < 2513169434916 then (theorboref02_Copy.l0 k1 (wrap64 (x4_1 + 1)) l0_0 l0_1 l0_2 t335 t338 (x342002_1 ++ [(⟨(rd_T46 l0_2 x4_1).f0, (⟨(rd_T46 l0_2 x4_1).f1.f0, (rd_T46 l0_2 x4_1).f1.f1, (rd_T46 l0_2 x4_1).f1.f2⟩ : S43), (rd_T46 l0_2 x4_1).f2, (y344 ++ ((rd_T46 l0_2 x4_1).f3))⟩ : S46)])) else (none)) else (none)) = some (r1, r2, r3) := by first | (rw [hy344]; with_reducible exact H) | (have H2_ := (Option.bind_some _ _).symm.trans H; rw [hy344]; with_reducible exact H2_) | (have H2_ := (Option.bind_some _ _).symm.trans H; with_reducible exact H2_) | with_reducible exact H | (rw [hy344]; exact H) | exact H); (have Ny344 := Aside0.mk hy344); clear hy344; (by_cases c16 : y344.length + ((rd_T46 l0_2 x4_1).f3).length < 3518437208883)
          · rw [if_pos c16] at H
            (have LMc16 := Aside0.mk c16); clear c16; (obtain ⟨y347, hy347⟩ : ∃ y_ : List (S54), y_ = (y344 ++ ((rd_T46 l0_2 x4_1).f3)) := ⟨_, rfl⟩); (replace H : (if x342002_1.length < 2513169434916 then (theorboref02_Copy.l0 k1 (wrap64 (x4_1 + 1)) l0_0 l0_1 l0_2 t335 t338 (x342002_1 ++ [(⟨(rd_T46 l0_2 x4_1).f0, (⟨(rd_T46 l0_2 x4_1).f1.f0, (rd_T46 l0_2 x4_1).f1.f1, (rd_T46 l0_2 x4_1).f1.f2⟩ : S43), (rd_T46 l0_2 x4_1).f2, y347⟩ : S46)])) else (none)) = some (r1, r2, r3) := by first | (rw [hy347]; with_reducible exact H) | (have H2_ := (Option.bind_some _ _).symm.trans H; rw [hy347]; with_reducible exact H2_) | (have H2_ := (Option.bind_some _ _).symm.trans H; with_reducible exact H2_) | with_reducible exact H | (rw [hy347]; exact H) | exact H); (have Ny347 := Aside0.mk hy347); clear hy347; (by_cases c17 : x342002_1.length < 2513169434916)
            · rw [if_pos c17] at H
              (have LMc17 := Aside0.mk c17); clear c17; (obtain ⟨y350, hy350⟩ : ∃ y_ : List (S46), y_ = (x342002_1 ++ [(⟨(rd_T46 l0_2 x4_1).f0, (⟨(rd_T46 l0_2 x4_1).f1.f0, (rd_T46 l0_2 x4_1).f1.f1, (rd_T46 l0_2 x4_1).f1.f2⟩ : S43), (rd_T46 l0_2 x4_1).f2, y347⟩ : S46)]) := ⟨_, rfl⟩); (replace H : (theorboref02_Copy.l0 k1 (wrap64 (x4_1 + 1)) l0_0 l0_1 l0_2 t335 t338 y350) = some (r1, r2, r3) := by first | (rw [hy350]; with_reducible exact H) | (have H2_ := (Option.bind_some _ _).symm.trans H; rw [hy350]; with_reducible exact H2_) | (have H2_ := (Option.bind_some _ _).symm.trans H; with_reducible exact H2_) | with_reducible exact H | (rw [hy350]; exact H) | exact H); (have Ny350 := Aside0.mk hy350); clear hy350; (have H' := Aside0.mk H); clear H; (have hnb18 := NB333_334.out); (have hnc18 := NB334_333.out); (have hnb19 := NB333_341.out); (have hnc19 := NB341_333.out); (have hcz20 := blk_cell BK333.out); (have hfz20 := blk_frozen BK333.out); (have p342 : 0 ≤ (x4_1 : Int) := of_decide_eq_true (by first | (with_reducible assumption) | assumption)); (have q342 : x4_1 < (l0_2.length : Int) := of_decide_eq_true (by first | (with_reducible assumption) | assumption)); (obtain ⟨ad342, A342_5, c342_5, e342, hx342_0, hx342_1, hx342_2, hx342_3, hx342_4, hx342_5, hl342_5, hi342_5⟩ := at_T46 HR0_2.out x4_1 p342 q342)
              cases e342
              (replace hx342_0 := pw_cell_below HB.out hx342_0); (replace hx342_1 := pw_cell_below HB.out hx342_1); (replace hx342_2 := pw_cell_below HB.out hx342_2); (replace hx342_3 := pw_cell_below HB.out hx342_3); (replace hx342_4 := pw_cell_below HB.out hx342_4); (replace hx342_5 := pw_cell_below HB.out hx342_5); (have HR342_5 := Aside0.mk hi342_5); (have HC342_5 := Aside0.mk hl342_5); clear hi342_5 hl342_5; (replace p342 := eq_true p342); (replace q342 := eq_true q342); (go_wp2_with (first | ((with_reducible refine gate_dst (N := 5) rfl ?_); refine box_event ?hg (N := 5) ?hd (cs := #[.bool false, .int .i64 0, .bool false, .bool false, .bool false, .slice none 0 0]) (t := 46) ?hr ?_; (case hd => rfl); (case hg => rfl); (case hr => first | (go_simp; done) | (go_simp; rfl)); intro gb343 hg w21 hbox hb; replace HO_342000 := rb_ HO_342000 hb; replace HO_342001 := rb_ HO_342001 hb; replace HO_342002 := Aside0.mk (Kd.S_below (Kd.S_elderB (ks_ HO_342002) gb343 (Nat.le_of_eq hg.symm)) hb); have BK343 := Aside0.mk (hbox); have GW343 := ge_ HB hg; have GE343 := ge_ HB hg; replace HB := bs_ HB hb; have NB333_343 := nl_ BK333 hg; have NB343_333 := ng_ BK333 hg; replace BK333 := bb_ BK333 hb; have NB334_343 := nl_ BK334 hg; have NB343_334 := ng_ BK334 hg; replace BK334 := bb_ BK334 hb; have NB341_343 := nl_ BK341 hg; have NB343_341 := ng_ BK341 hg; replace BK341 := bb_ BK341 hb; clear hb hbox hg; have hnb22 := NB343_333.out; have hnc22 := NB333_343.out; have hnb23 := NB343_334.out; have hnc23 := NB334_343.out; have hnb24 := NB343_341.out; have hnc24 := NB341_343.out; have hcz25 := blk_cell BK343.out; have hfz25 := blk_frozen BK343.out) | ((with_reducible refine gate_dst (N := 22) rfl ?_); refine Kd.R_lit k54 _ 54 ?hg (N := 22) ?hd (xs := ([] : List (S54))) (inner := []) (ok := fun _ => True) (okp := fun _ => True) ?hr ?hp (fun _ hk => hk) trivial (Below.refl _ _) (Nat.le_refl _) (by simp) ?_; (case hd => rfl); (case hg => rfl); (case hr => first | (go_simp; done) | (go_simp; rfl)); (case hp => exact (Reps.none _ _)); intro v345 w26 ho27 hb hg_ hnew_; clear hg_ hnew_; (first | rw [← Ny344.out] at ho27 | (simp only [Int.reduceToNat] at ho27; rw [← Ny344.out] at ho27)); replace HO_342000 := Aside0.mk (Kd.R_below (by (with_reducible repeat (first | apply Kd.R_alloc | apply Kd.R_drewN | apply Kd.R_drew)); exact (Kd.R_mono (Kd.R_far (p := ⟨gb343, 5, none⟩) (Kd.R_far (p := ⟨gb343, 4, none⟩) (Kd.R_far (p := ⟨gb343, 3, none⟩) (Kd.R_far (p := ⟨gb343, 2, none⟩) (Kd.R_far (p := ⟨gb343, 1, none⟩) (Kd.R_far (p := ⟨gb343, 0, none⟩) (Kd.R_types HO_342000.out BK343.out (by decide)) (fun _ hk => hk.2) (.bool ((rd_T46 l0_2 x4_1).f0))) (fun _ hk => hk.2) (.int .i64 ((rd_T46 l0_2 x4_1).f1.f0))) (fun _ hk => hk.2) (.bool ((rd_T46 l0_2 x4_1).f1.f1))) (fun _ hk => hk.2) (.bool ((rd_T46 l0_2 x4_1).f1.f2))) (fun _ hk => hk.2) (.bool ((rd_T46 l0_2 x4_1).f2))) (fun _ hk => hk.2) (.slice A342_5 ((rd_T46 l0_2 x4_1).f3).length c342_5)) (fun _ h_ => h_.1))) hb); replace HO_342001 := Aside0.mk (Kd.R_below (by (with_reducible repeat (first | apply Kd.R_alloc | apply Kd.R_drewN | apply Kd.R_drew)); exact (Kd.R_mono (Kd.R_far (p := ⟨gb343, 5, none⟩) (Kd.R_far (p := ⟨gb343, 4, none⟩) (Kd.R_far (p := ⟨gb343, 3, none⟩) (Kd.R_far (p := ⟨gb343, 2, none⟩) (Kd.R_far (p := ⟨gb343, 1, none⟩) (Kd.R_far (p := ⟨gb343, 0, none⟩) (Kd.R_types HO_342001.out BK343.out (by decide)) (fun _ hk => hk.2) (.bool ((rd_T46 l0_2 x4_1).f0))) (fun _ hk => hk.2) (.int .i64 ((rd_T46 l0_2 x4_1).f1.f0))) (fun _ hk => hk.2) (.bool ((rd_T46 l0_2 x4_1).f1.f1))) (fun _ hk => hk.2) (.bool ((rd_T46 l0_2 x4_1).f1.f2))) (fun _ hk => hk.2) (.bool ((rd_T46 l0_2 x4_1).f2))) (fun _ hk => hk.2) (.slice A342_5 ((rd_T46 l0_2 x4_1).f3).length c342_5)) (fun _ h_ => h_.1))) hb); replace HO_342002 := Aside0.mk (Kd.S_elder' (by (with_reducible repeat (first | apply Kd.S_alloc | apply Kd.S_drewN | apply Kd.S_drew)); exact (Kd.S_mono (Kd.S_far (p := ⟨gb343, 5, none⟩) (Kd.S_far (p := ⟨gb343, 4, none⟩) (Kd.S_far (p := ⟨gb343, 3, none⟩) (Kd.S_far (p := ⟨gb343, 2, none⟩) (Kd.S_far (p := ⟨gb343, 1, none⟩) (Kd.S_far (p := ⟨gb343, 0, none⟩) (Kd.S_mono HO_342002.out (fun k_ hk => (⟨hk, hk.2⟩ : _ ∧ k_ ≠ gb343))) (fun _ hk => hk.2) (.bool ((rd_T46 l0_2 x4_1).f0))) (fun _ hk => hk.2) (.int .i64 ((rd_T46 l0_2 x4_1).f1.f0))) (fun _ hk => hk.2) (.bool ((rd_T46 l0_2 x4_1).f1.f1))) (fun _ hk => hk.2) (.bool ((rd_T46 l0_2 x4_1).f1.f2))) (fun _ hk => hk.2) (.bool ((rd_T46 l0_2 x4_1).f2))) (fun _ hk => hk.2) (.slice A342_5 ((rd_T46 l0_2 x4_1).f3).length c342_5)) (fun _ h_ => h_.1))) (Kd.R_base ho27) hb); have HO346 := rl_ ho27 HB; replace BK333 := bb_ BK333 hb; replace BK334 := bb_ BK334 hb; replace BK341 := bb_ BK341 hb; replace BK343 := Aside0.mk (blk_below (g := gb343) (o := .cells #[.bool ((rd_T46 l0_2 x4_1).f0), .int .i64 ((rd_T46 l0_2 x4_1).f1.f0), .bool ((rd_T46 l0_2 x4_1).f1.f1), .bool ((rd_T46 l0_2 x4_1).f1.f2), .bool ((rd_T46 l0_2 x4_1).f2), .slice A342_5 ((rd_T46 l0_2 x4_1).f3).length c342_5] 46 (0, 0)) (bk_ BK343) hb); replace HB := bs_ HB hb; clear hb ho27; have hcz28 := blk_cell BK343.out; have hfz28 := blk_frozen BK343.out) | ((with_reducible refine gate_builtin (b := .append) (xs := #[.tmp 22, .tmp 24]) rfl ?_); at_builtin; refine Kd.R_append_rows k54 (w0 := w) w.heap.size rfl (.tmp 22) (.tmp 24) 44 54 (.agg #[(.int .i64 0), (.int .i64 0), (.int .i64 0), (.int .i64 0), (.int .i64 0)]) 40 rfl Tryz.underlying44 info54 rfl (by decide) (by omega) v345 y344 ((rd_T46 l0_2 x4_1).f3) _ _ _ (fun _ => True) (fun _ => False) rfl rfl ?aO ?aR (fun _ _ h => h) (fun _ h => h.elim) ?aF ?aB ?aS ?aL ?_; (case aR => exact kc_ HR342_5 HB); (case aB => exact (bl_ HB)); (case aF => exact (fun _ _ => trivial)); (case aO => exact (kr_ HO346)); (case aS => exact (below_size (bl_ HB))); (case aL => have := LMc16.out; omega); intro v348 w29 ho hb hg hat; rw [← Ny347.out] at ho; replace HO_342000 := Aside0.mk (Kd.R_over' (kr_ HO_342000) (Kd.R_typed (kr_ HO346)) (by decide) hg); replace HO_342001 := Aside0.mk (Kd.R_over' (kr_ HO_342001) (Kd.R_typed (kr_ HO346)) (by decide) hg); replace HO_342002 := Aside0.mk (Kd.S_after (ok := (fun k_ => k_ ≠ gb343)) (by (with_reducible repeat (first | apply Kd.S_alloc | apply Kd.S_drewN | apply Kd.S_drew)); exact Kd.S_mono HO_342002.out (fun _ hk => ⟨hk.1.2, hk.2⟩)) hg hat); replace BK333 := bg_ BK333 hg (Kd.R_ne HO346.out BK333.out (by decide)); replace BK334 := bg_ BK334 hg (Kd.R_ne HO346.out BK334.out (by decide)); replace BK341 := bg_ BK341 hg (Kd.R_ne HO346.out BK341.out (by decide)); replace BK343 := bg_ BK343 hg (Kd.R_ne HO346.out BK343.out (by decide)); replace HB := Aside0.mk (hb); have HO349 := Aside0.mk (ho); clear HO346; clear ho hb hg hat; obtain ⟨Ao30, co30, eo30⟩ := Kd.R_slice HO349.out; subst eo30; have hcz31 := blk_cell BK343.out; have hfz31 := blk_frozen BK343.out) | ((with_reducible refine gate_store (t := 44) (p := 26) rfl ?_); refine store_event (t := 44) (p := 26) (v := ?vo_w32) (w1 := (w29.setCell ⟨gb343, 5, none⟩ (.slice Ao30 y347.length co30))) ?hg ?ho ?hn ?hr ?_; (case ho => rfl); (case hg => rfl); (case hn => rfl); (case hr => first | (go_simp; done) | (go_simp; rfl)); intro w32 hw; have n0_ : Aside0 (Kd.R k99 99 w32 w.heap.size (fun _ => True) (.slice Ao9 t335.length co9) t335) := ⟨(by rw [hw]; exact (by (with_reducible repeat (first | apply Kd.R_alloc | apply Kd.R_drewN | apply Kd.R_drew)); exact Kd.R_mono (Kd.R_far (p := ⟨gb343, 5, none⟩) (Kd.R_types HO_342000.out BK343.out (by decide)) (fun _ hk => hk.2) (.slice Ao30 y347.length co30)) (fun _ hk => trivial)))⟩; have n1_ : Aside0 (Kd.R (Kd.int .i64) 3 w32 w.heap.size (fun _ => True) (.slice Ao8 t338.length co8) t338) := ⟨(by rw [hw]; exact (by (with_reducible repeat (first | apply Kd.R_alloc | apply Kd.R_drewN | apply Kd.R_drew)); exact Kd.R_mono (Kd.R_far (p := ⟨gb343, 5, none⟩) (Kd.R_types HO_342001.out BK343.out (by decide)) (fun _ hk => hk.2) (.slice Ao30 y347.length co30)) (fun _ hk => trivial)))⟩; have n2_ : Aside0 (Kd.S k46 46 w32 w.heap.size (fun k_ => some k_ ≠ (.slice Ao30 y347.length co30 : Value).ownBlock ∧ k_ ≠ gb343) u342002 x342002_1) := ⟨(by rw [hw]; exact (by (with_reducible repeat (first | apply Kd.S_alloc | apply Kd.S_drewN | apply Kd.S_drew)); exact Kd.S_mono (Kd.S_far (p := ⟨gb343, 5, none⟩) (Kd.S_mono HO_342002.out (fun k_ hk => (⟨hk, hk.1⟩ : _ ∧ k_ ≠ gb343))) (fun _ hk => hk.2) (.slice Ao30 y347.length co30)) (fun _ hk => ⟨hk.1.2, hk.1.1⟩)))⟩; have n3_ : Aside0 (Kd.R k54 54 w32 w.heap.size (fun _ => True) (.slice Ao30 y347.length co30) y347) := ⟨(by rw [hw]; exact (by (with_reducible repeat (first | apply Kd.R_alloc | apply Kd.R_drewN | apply Kd.R_drew)); exact Kd.R_mono (Kd.R_far (p := ⟨gb343, 5, none⟩) (Kd.R_types HO349.out BK343.out (by decide)) (fun _ hk => hk.2) (.slice Ao30 y347.length co30)) (fun _ hk => trivial)))⟩; have n4_ : Aside0 (w32.heap[gb333]? = some (.cells #[.slice A0_0 l0_0.length c0_0, .slice A0_1 l0_1.length c0_1, .slice (some ad342) l0_2.length c0_2] 29 (0, 0))) := ⟨(by rw [hw]; exact (bk_ BK333))⟩; have n5_ : Aside0 (w32.heap[gb334]? = some (.cells #[.slice none 0 0, .slice none 0 0, .slice none 0 0] 29 (0, 0))) := ⟨(by rw [hw]; exact (bk_ BK334))⟩; have n6_ : Aside0 (w32.heap[gb341]? = some (.cells #[.slice Ao9 t335.length co9, .slice Ao8 t338.length co8, u342002] 29 (0, 0))) := ⟨(by rw [hw]; exact (bk_ BK341))⟩; have n7_ : Aside0 (w32.heap[gb343]? = some (.cells #[.bool ((rd_T46 l0_2 x4_1).f0), .int .i64 ((rd_T46 l0_2 x4_1).f1.f0), .bool ((rd_T46 l0_2 x4_1).f1.f1), .bool ((rd_T46 l0_2 x4_1).f1.f2), .bool ((rd_T46 l0_2 x4_1).f2), .slice Ao30 y347.length co30] 46 (0, 0))) := ⟨(by rw [hw]; exact (bk_ BK343))⟩; have n8_ : Aside0 (Below w.heap.size w w32) := ⟨(by rw [hw]; exact (bl_ HB))⟩; clear hw; clear HO_342000; clear HO_342001; clear HO_342002; clear HO349; clear BK333; clear BK334; clear BK341; clear BK343; clear HB; have HO_342000 := n0_; have HO_342001 := n1_; have HO_342002 := n2_; have HO349 := n3_; have BK333 := n4_; have BK334 := n5_; have BK341 := n6_; have BK343 := n7_; have HB := n8_; clear n0_ n1_ n2_ n3_ n4_ n5_ n6_ n7_ n8_; have hnb33 := NB341_334.out; have hnc33 := NB334_341.out; have hcz34 := blk_cell BK341.out; have hfz34 := blk_frozen BK341.out; have hcz35 := blk_cell BK343.out; have hfz35 := blk_frozen BK343.out) | ((with_reducible refine gate_builtin (b := .append) (xs := #[.tmp 28, .tmp 30]) rfl ?_); at_builtin; refine Kd.S_append k46 (w0 := w) w.heap.size rfl (.tmp 28) (.tmp 30) 27 46 (.agg #[(.bool false), (.int .i64 0), (.bool false), (.bool false), (.bool false), (.slice none 0 0)]) 56 rfl Tryz.underlying27 info46 rfl (by decide) (by omega) u342002 x342002_1 (⟨(rd_T46 l0_2 x4_1).f0, (⟨(rd_T46 l0_2 x4_1).f1.f0, (rd_T46 l0_2 x4_1).f1.f1, (rd_T46 l0_2 x4_1).f1.f2⟩ : S43), (rd_T46 l0_2 x4_1).f2, y347⟩ : S46) [.bool ((rd_T46 l0_2 x4_1).f0), .int .i64 ((rd_T46 l0_2 x4_1).f1.f0), .bool ((rd_T46 l0_2 x4_1).f1.f1), .bool ((rd_T46 l0_2 x4_1).f1.f2), .bool ((rd_T46 l0_2 x4_1).f2), .slice Ao30 y347.length co30] (fun k_ => k_ ≠ gb343) (fun k_ => some k_ = (.slice Ao30 y347.length co30 : Value).ownBlock) rfl rfl ?aP (fun k_ hk_ => ((Kd.R_mono (ok' := fun k_ => ((fun k_ => k_ ≠ gb343)) k_ ∧ some k_ ≠ (u342002 : Value).ownBlock) (Kd.R_types (Kd.R_apart' (HO349.out) (Kd.S_typed HO_342002.out) (by decide)) BK343.out (by decide)) (fun k_ hk => ⟨hk.2, hk.1.2⟩))).1 k_ hk_.symm) ?aF ?aO ?aB ?aS ?aL ?_; (case aP => exact k46_mkM _ _ _ (⟨(rd_T46 l0_2 x4_1).f0, (⟨(rd_T46 l0_2 x4_1).f1.f0, (rd_T46 l0_2 x4_1).f1.f1, (rd_T46 l0_2 x4_1).f1.f2⟩ : S43), (rd_T46 l0_2 x4_1).f2, y347⟩ : S46) (Kd.R_mono (Kd.R_tight rfl (Kd.R_mono (ok' := fun k_ => ((fun k_ => k_ ≠ gb343)) k_ ∧ some k_ ≠ (u342002 : Value).ownBlock) (Kd.R_types (Kd.R_apart' (HO349.out) (Kd.S_typed HO_342002.out) (by decide)) BK343.out (by decide)) (fun k_ hk => ⟨hk.2, hk.1.2⟩))) (fun _ h_ => h_))); (case aB => exact (bl_ HB)); (case aF => exact (fun k_ hk => Kd.freshB (g := gb343) (o := .cells #[.bool ((rd_T46 l0_2 x4_1).f0), .int .i64 ((rd_T46 l0_2 x4_1).f1.f0), .bool ((rd_T46 l0_2 x4_1).f1.f1), .bool ((rd_T46 l0_2 x4_1).f1.f2), .bool ((rd_T46 l0_2 x4_1).f2), .slice Ao30 y347.length co30] 46 (0, 0)) (bk_ BK343) k_ hk)); (case aO => exact (by (with_reducible repeat (first | apply Kd.S_alloc | apply Kd.S_drewN | apply Kd.S_drew)); exact Kd.S_mono HO_342002.out (fun k_ hk => ⟨hk.2, fun e_ => hk.1 e_⟩))); (case aS => exact (below_size (bl_ HB))); (case aL => have := LMc17.out; omega); intro v351 w36 ho hb hg hat; rw [← Ny350.out] at ho; replace HO_342000 := Aside0.mk (Kd.R_over' (kr_ HO_342000) (Kd.S_typed (ks_ HO_342002)) (by decide) hg); replace HO_342001 := Aside0.mk (Kd.R_over' (kr_ HO_342001) (Kd.S_typed (ks_ HO_342002)) (by decide) hg); replace BK333 := bg_ BK333 hg (Kd.S_ne HO_342002.out BK333.out (by decide)); replace BK334 := bg_ BK334 hg (Kd.S_ne HO_342002.out BK334.out (by decide)); replace BK341 := bg_ BK341 hg (Kd.S_ne HO_342002.out BK341.out (by decide)); replace BK343 := bg_ BK343 hg (Kd.S_away HO_342002.out (fun _ hk => hk.2)); replace HB := Aside0.mk (hb); have HO352 := Aside0.mk (ho); clear HO_342002; clear HO349; clear ho hb hg hat; obtain ⟨Ao37, co37, eo37⟩ := Kd.S_slice HO352.out; subst eo37; have hcz38 := blk_cell BK341.out; have hfz38 := blk_frozen BK341.out))); (go_roundg k1)
              case measure => have := HK1.out; omega
              case rel => exact ⟨(wrap64 (x4_1 + 1)), (y350), (.slice Ao37 y350.length co37), (rs_), H', ⟨by have := HK1.out; omega⟩, ⟨by (with_reducible repeat (first | apply Kd.R_alloc | apply Kd.R_drewN | apply Kd.R_drew)); exact Kd.R_mono (Kd.R_far (p := ⟨gb341, 2, none⟩) (Kd.R_types HO_342000.out BK341.out (by decide)) (fun _ hk => hk.2) (.slice Ao37 y350.length co37)) (fun _ hk => trivial)⟩, ⟨by (with_reducible repeat (first | apply Kd.R_alloc | apply Kd.R_drewN | apply Kd.R_drew)); exact Kd.R_mono (Kd.R_far (p := ⟨gb341, 2, none⟩) (Kd.R_types HO_342001.out BK341.out (by decide)) (fun _ hk => hk.2) (.slice Ao37 y350.length co37)) (fun _ hk => trivial)⟩, ⟨by (with_reducible repeat (first | apply Kd.S_alloc | apply Kd.S_drewN | apply Kd.S_drew)); exact Kd.S_mono (Kd.S_far (p := ⟨gb341, 2, none⟩) (Kd.S_types HO352.out BK341.out (by decide)) (fun _ hk => hk.2) (.slice Ao37 y350.length co37)) (fun _ hk => trivial)⟩, ⟨bk_ BK333⟩, ⟨bk_ BK334⟩, ⟨bk_ BK341⟩, ⟨bl_ HB⟩⟩
            · rw [if_neg c17] at H
              exact absurd H (by simp)
          · rw [if_neg c16] at H
            exact absurd H (by simp)
        · rw [if_neg c15] at H
          exact absurd H (by simp)
      · rw [if_neg c14] at H
        (have c14b0 := decide_eq_false c14); clear c14; (simp only [Option.some.injEq, Prod.mk.injEq] at H); (obtain ⟨rfl, rfl, rfl⟩ := H); (have hnb39 := NB333_334.out); (have hnc39 := NB334_333.out); (have hnb40 := NB333_341.out); (have hnc40 := NB341_333.out); (have hcz41 := blk_cell BK333.out); (have hfz41 := blk_frozen BK333.out); (have hnb42 := NB341_334.out); (have hnc42 := NB334_341.out); (have hcz43 := blk_cell BK341.out); (have hfz43 := blk_frozen BK341.out); (have hcz44 := blk_cell BK334.out); (have hfz44 := blk_frozen BK334.out); (obtain ⟨Ao45, co45, eo45⟩ := Kd.S_slice HO_342002.out); subst eo45; (go_wp2); (refine bodyPost_ret (results_cell_row rfl _ _ gb334 29 #[.slice Ao9 t335.length co9, .slice Ao8 t338.length co8, .slice Ao45 x342002_1.length co45] (0, 0) _ rfl (bk_ BK334) Tryz.underlying29 rfl (by kernel_rfl)) rfl ?_); (exact ⟨_, _, _, rv_, by (with_reducible repeat (first | apply Kd.R_alloc | apply Kd.R_drewN | apply Kd.R_drew)); exact Kd.R_mono (Kd.R_far (p := ⟨gb334, 2, none⟩) (Kd.R_far (p := ⟨gb334, 1, none⟩) (Kd.R_far (p := ⟨gb334, 0, none⟩) (Kd.R_types HO_342000.out BK334.out (by decide)) (fun _ hk => hk.2) (.slice Ao9 t335.length co9)) (fun _ hk => hk.2) (.slice Ao8 t338.length co8)) (fun _ hk => hk.2) (.slice Ao45 x342002_1.length co45)) (fun _ hk => trivial), by (with_reducible repeat (first | apply Kd.R_alloc | apply Kd.R_drewN | apply Kd.R_drew)); exact Kd.R_mono (Kd.R_far (p := ⟨gb334, 2, none⟩) (Kd.R_far (p := ⟨gb334, 1, none⟩) (Kd.R_far (p := ⟨gb334, 0, none⟩) (Kd.R_types HO_342001.out BK334.out (by decide)) (fun _ hk => hk.2) (.slice Ao9 t335.length co9)) (fun _ hk => hk.2) (.slice Ao8 t338.length co8)) (fun _ hk => hk.2) (.slice Ao45 x342002_1.length co45)) (fun _ hk => trivial), by (with_reducible repeat (first | apply Kd.S_alloc | apply Kd.S_drewN | apply Kd.S_drew)); exact Kd.S_mono (Kd.S_far (p := ⟨gb334, 2, none⟩) (Kd.S_far (p := ⟨gb334, 1, none⟩) (Kd.S_far (p := ⟨gb334, 0, none⟩) (Kd.S_types HO_342002.out BK334.out (by decide)) (fun _ hk => hk.2) (.slice Ao9 t335.length co9)) (fun _ hk => hk.2) (.slice Ao8 t338.length co8)) (fun _ hk => hk.2) (.slice Ao45 x342002_1.length co45)) (fun _ hk => trivial), bl_ HB⟩)

/-! ### theorbolaw02_Big: function 5 -/
mutual
def theorbolaw02_Big.j0 : Nat → Bool → List (S99) → List Int → List (S46) → Option (Bool)
  | 0, _, _, _, _ => none
  | k + 1, x21, x376000, x376001, x376002 => if x21 = true then (some true) else (theorbolaw02_Big.l0 k 0 x376000 x376001 x376002)
def theorbolaw02_Big.l0 : Nat → Int → List (S99) → List Int → List (S46) → Option (Bool)
  | 0, _, _, _, _ => none
  | k + 1, x3, x376000, x376001, x376002 => if x3 < (x376002.length : Int) then (if 0 ≤ x3 then (if (((rd_T46 x376002 x3).f3).length : Int) > 20 then (some true) else (theorbolaw02_Big.l0 k (wrap64 (x3 + 1)) x376000 x376001 x376002)) else (none)) else (some false)
end
def theorbolaw02_Big.f (k : Nat) (l0_0 : List (S99)) (l0_1 : List Int) (l0_2 : List (S46)) : Option (Bool) := if (l0_0.length : Int) > 64 then (theorbolaw02_Big.j0 k true l0_0 l0_1 l0_2) else (if (l0_1.length : Int) > 64 then (theorbolaw02_Big.j0 k true l0_0 l0_1 l0_2) else (theorbolaw02_Big.j0 k (decide ((l0_2.length : Int) > 420)) l0_0 l0_1 l0_2))
theorem theorbolaw02_Big.mono_l : ∀ k, (∀ y0 y1 y2 y3, LeO (theorbolaw02_Big.j0 k y0 y1 y2 y3) (theorbolaw02_Big.j0 (k + 1) y0 y1 y2 y3)) ∧ (∀ y0 y1 y2 y3, LeO (theorbolaw02_Big.l0 k y0 y1 y2 y3) (theorbolaw02_Big.l0 (k + 1) y0 y1 y2 y3))
  | 0 => ⟨fun _ _ _ _ r h => by simp [theorbolaw02_Big.j0] at h, fun _ _ _ _ r h => by simp [theorbolaw02_Big.l0] at h⟩
  | k + 1 => by
    ((obtain ⟨ih0, ih1⟩ := theorbolaw02_Big.mono_l k); (refine ⟨?_, ?_⟩)); (focus intro y0 y1 y2 y3; (unfold theorbolaw02_Big.j0); (repeat' first | (with_reducible first | apply ih0 | apply ih1 | exact LeO.refl _ | exact LeO.none _ | refine LeO.ite ?_ ?_ | refine LeO.bind ?_ fun _ => ?_) | exact LeO.none _ | refine LeO.ite ?_ ?_ | refine LeO.bind ?_ fun _ => ?_ | apply ih0 | apply ih1)); (focus intro y0 y1 y2 y3; (unfold theorbolaw02_Big.l0); (repeat' first | (with_reducible first | apply ih0 | apply ih1 | exact LeO.refl _ | exact LeO.none _ | refine LeO.ite ?_ ?_ | refine LeO.bind ?_ fun _ => ?_) | exact LeO.none _ | refine LeO.ite ?_ ?_ | refine LeO.bind ?_ fun _ => ?_ | apply ih0 | apply ih1))
theorem theorbolaw02_Big.mono : ∀ a0 a1 a2 k, LeO (theorbolaw02_Big.f k a0 a1 a2) (theorbolaw02_Big.f (k + 1) a0 a1 a2) := by
  intro a0 a1 a2 k
  obtain ⟨ih0, ih1⟩ := theorbolaw02_Big.mono_l k
  unfold theorbolaw02_Big.f
  repeat' first | (with_reducible first | apply ih0 | apply ih1 | exact LeO.refl _ | exact LeO.none _ | refine LeO.ite ?_ ?_ | refine LeO.bind ?_ fun _ => ?_) | exact LeO.none _ | refine LeO.ite ?_ ?_ | refine LeO.bind ?_ fun _ => ?_ | apply ih0 | apply ih1
set_option maxHeartbeats 8000000 in
set_option maxRecDepth 100000 in
theorem theorbolaw02_Big.calls (k : Nat) (A0_0 : Option Addr) (c0_0 : Nat) (l0_0 : List (S99)) (A0_1 : Option Addr) (c0_1 : Nat) (l0_1 : List Int) (A0_2 : Option Addr) (c0_2 : Nat) (l0_2 : List (S46)) (r : Bool) (w : World) (hr0_0 : Kd.C k99 w A0_0 l0_0.length l0_0) (hc0_0 : l0_0.length ≤ c0_0) (hr0_1 : Kd.C (Kd.int .i64) w A0_1 l0_1.length l0_1) (hc0_1 : l0_1.length ≤ c0_1) (hr0_2 : Kd.C k46 w A0_2 l0_2.length l0_2) (hc0_2 : l0_2.length ≤ c0_2) (h : theorbolaw02_Big.f k l0_0 l0_1 l0_2 = some r) :
    Calls Tryz.prog 5 #[.agg #[.slice A0_0 l0_0.length c0_0, .slice A0_1 l0_1.length c0_1, .slice A0_2 l0_2.length c0_2]] w fun e w' => e = .returned (.bool r) ∧ Below w.heap.size w w' := by
  have hu29 := Tryz.underlying29
  have HR0_0 := Aside0.mk hr0_0
  have HC0_0 := Aside0.mk hc0_0
  clear hr0_0 hc0_0
  have HR0_1 := Aside0.mk hr0_1
  have HC0_1 := Aside0.mk hc0_1
  clear hr0_1 hc0_1
  have HR0_2 := Aside0.mk hr0_2
  have HC0_2 := Aside0.mk hc0_2
  clear hr0_2 hc0_2
  have HB := Aside0.mk (Below.refl w.heap.size w)
  have H : (if (l0_0.length : Int) > 64 then (theorbolaw02_Big.j0 k true l0_0 l0_1 l0_2) else (if (l0_1.length : Int) > 64 then (theorbolaw02_Big.j0 k true l0_0 l0_1 l0_2) else (theorbolaw02_Big.j0 k (decide ((l0_2.length : Int) > 420)) l0_0 l0_1 l0_2))) = some r := h
  clear h
  have HC2 := Aside0.mk H
  clear H
  go_enter Tryz.func5, Tryz.ntmps5
  go_upto_region 1 with (first | ((with_reducible refine gate_dst (N := 1) rfl ?_); (try (refine gate_guard (by rfl) ?_; dsimp only)); refine bx_ 1 #[.slice A0_0 l0_0.length c0_0, .slice A0_1 l0_1.length c0_1, .slice A0_2 l0_2.length c0_2] 29 HB ?_; clear HB; intro gb375 w3 hg hb BK375 HB GW375; have GE375 := GW375; clear hg hb))
  (try simp only [Act.put, List.setIfInBounds_toArray, List.set_cons_zero, List.set_cons_succ])
  go_cut [21] (fun v21 wc => ∃ (kq : Nat) (x21_1 : Bool), v21 = .bool x21_1 ∧ Aside0 (theorbolaw02_Big.j0 kq x21_1 l0_0 l0_1 l0_2 = some r) ∧ Aside0 (kq ≤ k) ∧ Aside0 (wc.heap[gb375]? = some (.cells #[(.slice A0_0 l0_0.length c0_0), (.slice A0_1 l0_1.length c0_1), (.slice A0_2 l0_2.length c0_2)] 29 (0, 0))) ∧ Aside0 (Below w.heap.size w wc))
  case first =>
    (have H := HC2.out); clear HC2; (by_cases c4 : (l0_0.length : Int) > 64)
    · rw [if_pos c4] at H
      (have c4b0 : decide (64 < (l0_0.length : Int)) = true := decide_eq_true c4); (have c4b1 : decide (64 < l0_0.length) = true := decide_eq_true (by omega)); clear c4; ((first | rw [c4b0] | rw [c4b1] | (simp only [i64_w, i32_w]; rw [c4b0]) | skip)); (have H' := Aside0.mk H); clear H; (have hcz5 := blk_cell BK375.out); (have hfz5 := blk_frozen BK375.out); (go_wp2); (go_meet)
      case rel => exact ⟨_, (true), (rs_), H', ⟨om_⟩, ⟨bk_ BK375⟩, ⟨bl_ HB⟩⟩
    · rw [if_neg c4] at H
      (have c4b0 : decide (64 < (l0_0.length : Int)) = false := decide_eq_false c4); (have c4b1 : decide (64 < l0_0.length) = false := decide_eq_false (by omega)); clear c4; ((first | rw [c4b0] | rw [c4b1] | (simp only [i64_w, i32_w]; rw [c4b0]) | skip)); (by_cases c6 : (l0_1.length : Int) > 64)
      · rw [if_pos c6] at H
        (have c6b0 : decide (64 < (l0_1.length : Int)) = true := decide_eq_true c6); (have c6b1 : decide (64 < l0_1.length) = true := decide_eq_true (by omega)); clear c6; (have H' := Aside0.mk H); clear H; (have hcz7 := blk_cell BK375.out); (have hfz7 := blk_frozen BK375.out); (go_wp2); (go_meet)
        case rel => exact ⟨_, (true), (rs_), H', ⟨om_⟩, ⟨bk_ BK375⟩, ⟨bl_ HB⟩⟩
      · rw [if_neg c6] at H
        (have c6b0 : decide (64 < (l0_1.length : Int)) = false := decide_eq_false c6); (have c6b1 : decide (64 < l0_1.length) = false := decide_eq_false (by omega)); clear c6; (have H' := Aside0.mk H); clear H; (have hcz8 := blk_cell BK375.out); (have hfz8 := blk_frozen BK375.out); (go_wp2); (go_meet)
        case rel => exact ⟨_, (decide ((l0_2.length : Int) > 420)), (rs_), H', ⟨om_⟩, ⟨bk_ BK375⟩, ⟨bl_ HB⟩⟩
  case rest =>
    clear HC2; (obtain ⟨kq, x21_1, rfl, HA, HJ1, BK375, HB⟩ := hcut)
    cases kq with
    | zero => exact absurd HA.out (by simp [theorbolaw02_Big.j0])
    | succ kj1 =>
      (have H := HA.out); clear HA; (simp only [theorbolaw02_Big.j0] at H); (by_cases c9 : x21_1 = true)
      · subst c9
        (rw [if_pos rfl] at H); (obtain rfl := Option.some.inj H); (go_wp2); (go_ret); (exact ⟨rv_, bl_ HB⟩)
      · replace c9 := Bool.eq_false_iff.mpr c9
        subst c9; (rw [if_neg Bool.false_ne_true] at H); (have H' := Aside0.mk H); clear H; (go_wp2); (go_loopg [3] kj1 (fun kq v3 w' => ∃ (x3_2 : Int), v3 = .int .i64 x3_2 ∧ Aside0 (theorbolaw02_Big.l0 kq x3_2 l0_0 l0_1 l0_2 = some r) ∧ Aside0 (kq ≤ kj1) ∧ Aside0 (w'.heap[gb375]? = some (.cells #[(.slice A0_0 l0_0.length c0_0), (.slice A0_1 l0_1.length c0_1), (.slice A0_2 l0_2.length c0_2)] 29 (0, 0))) ∧ Aside0 (Below w.heap.size w w')))
        case atStart => exact ⟨(0), (rs_), H', ⟨Nat.le_refl _⟩, ⟨bk_ BK375⟩, ⟨bl_ HB⟩⟩
        case round =>
          clear H'; (try clear c9); (obtain ⟨x3_2, rfl, HA, HK2, BK375, HB⟩ := hrel)
          cases gk with
          | zero => exact absurd HA.out (by simp [theorbolaw02_Big.l0])
          | succ k2 =>
            (have H := HA.out); clear HA; (simp only [theorbolaw02_Big.l0] at H); (have HC10 := Aside0.mk H); clear H; (have hcz11 := blk_cell BK375.out); (have hfz11 := blk_frozen BK375.out); (go_upto_if 26 with (fail)); (have H := HC10.out); clear HC10; (by_cases c12 : x3_2 < (l0_2.length : Int))
            · rw [if_pos c12] at H
              (have c12b0 := decide_eq_true c12); clear c12; ((first | rw [c12b0] | (simp only [i64_w, i32_w]; rw [c12b0]) | skip)); (by_cases c13 : 0 ≤ x3_2)
              · rw [if_pos c13] at H
                (have c13b0 := decide_eq_true c13); clear c13; (have HC14 := Aside0.mk H); clear H; (have hcz15 := blk_cell BK375.out); (have hfz15 := blk_frozen BK375.out); (have p376 : 0 ≤ (x3_2 : Int) := of_decide_eq_true (by first | (with_reducible assumption) | assumption)); (have q376 : x3_2 < (l0_2.length : Int) := of_decide_eq_true (by first | (with_reducible assumption) | assumption)); (obtain ⟨ad376, A376_5, c376_5, e376, hx376_0, hx376_1, hx376_2, hx376_3, hx376_4, hx376_5, hl376_5, hi376_5⟩ := at_T46 HR0_2.out x3_2 p376 q376)
                cases e376
                (replace hx376_0 := pw_cell_below HB.out hx376_0); (replace hx376_1 := pw_cell_below HB.out hx376_1); (replace hx376_2 := pw_cell_below HB.out hx376_2); (replace hx376_3 := pw_cell_below HB.out hx376_3); (replace hx376_4 := pw_cell_below HB.out hx376_4); (replace hx376_5 := pw_cell_below HB.out hx376_5); (have HR376_5 := Aside0.mk hi376_5); (have HC376_5 := Aside0.mk hl376_5); clear hi376_5 hl376_5; (replace p376 := eq_true p376); (replace q376 := eq_true q376); (go_upto_if 36 with (fail)); (have H := HC14.out); clear HC14; (by_cases c16 : (((rd_T46 l0_2 x3_2).f3).length : Int) > 20)
                · rw [if_pos c16] at H
                  (have c16b0 : decide (20 < (((rd_T46 l0_2 x3_2).f3).length : Int)) = true := decide_eq_true c16); (have c16b1 : decide (20 < ((rd_T46 l0_2 x3_2).f3).length) = true := decide_eq_true (by omega)); clear c16; ((first | rw [c16b0] | rw [c16b1] | (simp only [i64_w, i32_w]; rw [c16b0]) | skip)); (obtain rfl := Option.some.inj H); (go_wp2); (go_ret); (exact ⟨rv_, bl_ HB⟩)
                · rw [if_neg c16] at H
                  (have c16b0 : decide (20 < (((rd_T46 l0_2 x3_2).f3).length : Int)) = false := decide_eq_false c16); (have c16b1 : decide (20 < ((rd_T46 l0_2 x3_2).f3).length) = false := decide_eq_false (by omega)); clear c16; ((first | rw [c16b0] | rw [c16b1] | (simp only [i64_w, i32_w]; rw [c16b0]) | skip)); (have H' := Aside0.mk H); clear H; (go_wp2); (go_roundg k2)
                  case measure => have := HJ1.out; have := HK2.out; omega
                  case rel => exact ⟨(wrap64 (x3_2 + 1)), (rs_), H', ⟨by have := HJ1.out; have := HK2.out; omega⟩, ⟨bk_ BK375⟩, ⟨bl_ HB⟩⟩
              · rw [if_neg c13] at H
                exact absurd H (by simp)
            · rw [if_neg c12] at H
              (have c12b0 := decide_eq_false c12); clear c12; ((first | rw [c12b0] | (simp only [i64_w, i32_w]; rw [c12b0]) | skip)); (obtain rfl := Option.some.inj H); (go_wp2); (go_ret); (exact ⟨rv_, bl_ HB⟩)

/-! ### theorbolaw02_Long: function 14 -/
def theorbolaw02_Long.f (k : Nat) (l0_0 : List (S99)) (l0_1 : List Int) (l0_2 : List (S46)) : Option (Bool) := (theorbolaw02_Big.f k l0_0 l0_1 l0_2).bind fun t378 => (if t378 = true then (some true) else (some (decide ((l0_2.length : Int) > 60))))
theorem theorbolaw02_Long.mono : ∀ a0 a1 a2 k, LeO (theorbolaw02_Long.f k a0 a1 a2) (theorbolaw02_Long.f (k + 1) a0 a1 a2) := by
  intro a0 a1 a2 k
  unfold theorbolaw02_Long.f
  repeat' first | (with_reducible first | apply theorbolaw02_Big.mono | exact LeO.refl _ | exact LeO.none _ | refine LeO.ite ?_ ?_ | refine LeO.bind ?_ fun _ => ?_) | exact LeO.none _ | refine LeO.ite ?_ ?_ | refine LeO.bind ?_ fun _ => ?_ | apply theorbolaw02_Big.mono
set_option maxHeartbeats 8000000 in
set_option maxRecDepth 100000 in
theorem theorbolaw02_Long.calls (k : Nat) (A0_0 : Option Addr) (c0_0 : Nat) (l0_0 : List (S99)) (A0_1 : Option Addr) (c0_1 : Nat) (l0_1 : List Int) (A0_2 : Option Addr) (c0_2 : Nat) (l0_2 : List (S46)) (r : Bool) (w : World) (hr0_0 : Kd.C k99 w A0_0 l0_0.length l0_0) (hc0_0 : l0_0.length ≤ c0_0) (hr0_1 : Kd.C (Kd.int .i64) w A0_1 l0_1.length l0_1) (hc0_1 : l0_1.length ≤ c0_1) (hr0_2 : Kd.C k46 w A0_2 l0_2.length l0_2) (hc0_2 : l0_2.length ≤ c0_2) (h : theorbolaw02_Long.f k l0_0 l0_1 l0_2 = some r) :
    Calls Tryz.prog 14 #[.agg #[.slice A0_0 l0_0.length c0_0, .slice A0_1 l0_1.length c0_1, .slice A0_2 l0_2.length c0_2]] w fun e w' => e = .returned (.bool r) ∧ Below w.heap.size w w' := by
  have hu29 := Tryz.underlying29
  have HR0_0 := Aside0.mk hr0_0
  have HC0_0 := Aside0.mk hc0_0
  clear hr0_0 hc0_0
  have HR0_1 := Aside0.mk hr0_1
  have HC0_1 := Aside0.mk hc0_1
  clear hr0_1 hc0_1
  have HR0_2 := Aside0.mk hr0_2
  have HC0_2 := Aside0.mk hc0_2
  clear hr0_2 hc0_2
  have HB := Aside0.mk (Below.refl w.heap.size w)
  have H : ((theorbolaw02_Big.f k l0_0 l0_1 l0_2).bind fun t378 => (if t378 = true then (some true) else (some (decide ((l0_2.length : Int) > 60))))) = some r := h
  clear h
  replace H := Option.bind_eq_some_iff.mp H
  obtain ⟨t378, A20, H⟩ := H
  try dsimp only at H
  have A2 := Aside0.mk A20
  clear A20
  by_cases c3 : t378 = true
  · subst c3
    (rw [if_pos rfl] at H); (obtain rfl := Option.some.inj H); (go_enter Tryz.func14, Tryz.ntmps14); (go_wp2_with (first | ((with_reducible refine gate_dst (N := 1) rfl ?_); (try (refine gate_guard (by rfl) ?_; dsimp only)); refine bx_ 1 #[.slice A0_0 l0_0.length c0_0, .slice A0_1 l0_1.length c0_1, .slice A0_2 l0_2.length c0_2] 29 HB ?_; clear HB; intro gb377 w4 hg hb BK377 HB GW377; have GE377 := GW377; clear hg hb; have hcz5 := blk_cell BK377.out; have hfz5 := blk_frozen BK377.out) | ((with_reducible refine gate_callee (f := 5) rfl ?_); refine cl_ 5 (some 4) Tryz.func5 (theorbolaw02_Big.calls k _ _ l0_0 _ _ l0_1 _ _ l0_2 true _ (kc_ HR0_0 HB) HC0_0.out (kc_ HR0_1 HB) HC0_1.out (kc_ HR0_2 HB) HC0_2.out A2.out) ?_; rintro e w6 ⟨rfl, hb⟩; refine ⟨_, rfl, ?_⟩; replace BK377 := bb_ BK377 hb; replace HB := bs_ HB hb; (try clear hb); (try clear hb2); (try clear hk); (try clear hi)))); (go_ret); (exact ⟨rv_, bl_ HB⟩)
  · replace c3 := Bool.eq_false_iff.mpr c3
    subst c3; (rw [if_neg Bool.false_ne_true] at H); (obtain rfl := Option.some.inj H); (go_enter Tryz.func14, Tryz.ntmps14); (go_wp2_with (first | ((with_reducible refine gate_dst (N := 1) rfl ?_); (try (refine gate_guard (by rfl) ?_; dsimp only)); refine bx_ 1 #[.slice A0_0 l0_0.length c0_0, .slice A0_1 l0_1.length c0_1, .slice A0_2 l0_2.length c0_2] 29 HB ?_; clear HB; intro gb377 w7 hg hb BK377 HB GW377; have GE377 := GW377; clear hg hb; have hcz8 := blk_cell BK377.out; have hfz8 := blk_frozen BK377.out) | ((with_reducible refine gate_callee (f := 5) rfl ?_); refine cl_ 5 (some 4) Tryz.func5 (theorbolaw02_Big.calls k _ _ l0_0 _ _ l0_1 _ _ l0_2 false _ (kc_ HR0_0 HB) HC0_0.out (kc_ HR0_1 HB) HC0_1.out (kc_ HR0_2 HB) HC0_2.out A2.out) ?_; rintro e w9 ⟨rfl, hb⟩; refine ⟨_, rfl, ?_⟩; replace BK377 := bb_ BK377 hb; replace HB := bs_ HB hb; (try clear hb); (try clear hb2); (try clear hk); (try clear hi); have hcz10 := blk_cell BK377.out; have hfz10 := blk_frozen BK377.out))); (go_ret); (exact ⟨rv_, bl_ HB⟩)

/-! ### instrument_highest: function 51 -/
def instrument_highest.f (l0_0 : List (S99)) (l0_1 : List Int) (a1_0 : Int) (a1_1 : Int) (a1_2 : Bool) : Option (Int) := if a1_1 > 0 then (if 0 ≤ (wrap64 (a1_1 - 1)) then (if (wrap64 (a1_1 - 1)) < (l0_1.length : Int) then (if a1_2 = true then (some (wrap64 ((wrap64 (a1_0 + (rd l0_1 (wrap64 (a1_1 - 1))))) + 12))) else (some (wrap64 (a1_0 + (rd l0_1 (wrap64 (a1_1 - 1))))))) else (none)) else (none)) else (if a1_2 = true then (some (wrap64 (a1_0 + 12))) else (some a1_0))
set_option maxHeartbeats 8000000 in
set_option maxRecDepth 100000 in
theorem instrument_highest.calls (A0_0 : Option Addr) (c0_0 : Nat) (l0_0 : List (S99)) (A0_1 : Option Addr) (c0_1 : Nat) (l0_1 : List Int) (a1_0 : Int) (a1_1 : Int) (a1_2 : Bool) (r : Int) (w : World) (hr0_0 : Kd.C k99 w A0_0 l0_0.length l0_0) (hc0_0 : l0_0.length ≤ c0_0) (hr0_1 : Kd.C (Kd.int .i64) w A0_1 l0_1.length l0_1) (hc0_1 : l0_1.length ≤ c0_1) (h : instrument_highest.f l0_0 l0_1 a1_0 a1_1 a1_2 = some r) :
    Calls Tryz.prog 51 #[.agg #[.slice A0_0 l0_0.length c0_0, .slice A0_1 l0_1.length c0_1], .agg #[.int .i64 a1_0, .int .i64 a1_1, .bool a1_2]] w fun e w' => e = .returned (.int .i64 r) ∧ Below w.heap.size w w' := by
  have hu26 := Tryz.underlying26
  have hu99 := Tryz.underlying99
  have HR0_0 := Aside0.mk hr0_0
  have HC0_0 := Aside0.mk hc0_0
  clear hr0_0 hc0_0
  have HR0_1 := Aside0.mk hr0_1
  have HC0_1 := Aside0.mk hc0_1
  clear hr0_1 hc0_1
  have HB := Aside0.mk (Below.refl w.heap.size w)
  have H : (if a1_1 > 0 then (if 0 ≤ (wrap64 (a1_1 - 1)) then (if (wrap64 (a1_1 - 1)) < (l0_1.length : Int) then (if a1_2 = true then (some (wrap64 ((wrap64 (a1_0 + (rd l0_1 (wrap64 (a1_1 - 1))))) + 12))) else (some (wrap64 (a1_0 + (rd l0_1 (wrap64 (a1_1 - 1))))))) else (none)) else (none)) else (if a1_2 = true then (some (wrap64 (a1_0 + 12))) else (some a1_0))) = some r := h
  clear h
  have HC3 := Aside0.mk H
  clear H
  go_enter Tryz.func51, Tryz.ntmps51
  go_upto_if 10 with (first | ((with_reducible refine gate_dst (N := 2) rfl ?_); refine bx_ 2 #[.slice A0_0 l0_0.length c0_0, .slice A0_1 l0_1.length c0_1] 26 HB ?_; clear HB; intro gb384 w4 hg hb BK384 HB GW384; have GE384 := GW384; clear hg hb) | ((with_reducible refine gate_dst (N := 3) rfl ?_); refine bx_ 3 #[.int .i64 a1_0, .int .i64 a1_1, .bool a1_2] 99 HB ?_; clear HB; intro gb385 w5 hg hb BK385 HB GW385; have GE385 := GW385; have NB384_385 := nl_ BK384 hg; have NB385_384 := ng_ BK384 hg; replace BK384 := bb_ BK384 hb; clear hg hb; have hnb6 := NB385_384.out; have hnc6 := NB384_385.out; have hcz7 := blk_cell BK385.out; have hfz7 := blk_frozen BK385.out))
  (try simp only [Act.put, List.setIfInBounds_toArray, List.set_cons_zero, List.set_cons_succ])
  have H := HC3.out
  clear HC3
  by_cases c8 : a1_1 > 0
  · rw [if_pos c8] at H
    (have c8b0 : decide (0 < a1_1) = true := decide_eq_true c8); clear c8; ((first | rw [c8b0] | (simp only [i64_w, i32_w]; rw [c8b0]) | skip)); (obtain ⟨ji9, hji9⟩ : ∃ j_ : Int, (wrap64 (a1_1 - 1)) = j_ := ⟨_, rfl⟩); (replace H : (if 0 ≤ (ji9) then (if (ji9) < (l0_1.length : Int) then (if a1_2 = true then (some (wrap64 ((wrap64 (a1_0 + (rd l0_1 (ji9)))) + 12))) else (some (wrap64 (a1_0 + (rd l0_1 (ji9)))))) else (none)) else (none)) = some r := by first | (rw [hji9] at H; exact H) | (simp only [hji9] at H ⊢; exact H)); (have hji9w : (IntKind.i64.wrap (a1_1 - 1)) = ji9 := (i64_w _).trans hji9); (by_cases c10 : 0 ≤ (ji9))
    · rw [if_pos c10] at H
      (have c10b0 := decide_eq_true c10); clear c10; (by_cases c11 : (ji9) < (l0_1.length : Int))
      · rw [if_pos c11] at H
        (have c11b0 := decide_eq_true c11); clear c11; (have HC12 := Aside0.mk H); clear H; (have hnb13 := NB384_385.out); (have hnc13 := NB385_384.out); (have hcz14 := blk_cell BK384.out); (have hfz14 := blk_frozen BK384.out); (have hcz15 := blk_cell BK385.out); (have hfz15 := blk_frozen BK385.out); (have p386 : 0 ≤ ((ji9) : Int) := of_decide_eq_true (by first | (with_reducible assumption) | assumption)); (have q386 : (ji9) < (l0_1.length : Int) := of_decide_eq_true (by first | (with_reducible assumption) | assumption)); (obtain ⟨ad386, e386, hx386_0⟩ := Kd.at_int HR0_1.out (ji9) p386 q386)
        cases e386
        (replace hx386_0 := pw_cell_below HB.out hx386_0); (replace p386 := eq_true p386); (replace q386 := eq_true q386); (go_upto_if 21 with (fail)); (have H := HC12.out); clear HC12; (by_cases c16 : a1_2 = true)
        · subst c16
          (rw [if_pos rfl] at H); (obtain rfl := Option.some.inj H); (go_wp2); (go_ret); (exact ⟨by first | rfl | (simp [errW_none, errW_some] <;> rfl) | (simp only [← hji9]; first | rfl | (simp [errW_none, errW_some] <;> rfl)) | (simp [*, errW_none, errW_some] <;> rfl), bl_ HB⟩)
        · replace c16 := Bool.eq_false_iff.mpr c16
          subst c16; (rw [if_neg Bool.false_ne_true] at H); (obtain rfl := Option.some.inj H); (go_wp2); (go_ret); (exact ⟨by first | rfl | (simp [errW_none, errW_some] <;> rfl) | (simp only [← hji9]; first | rfl | (simp [errW_none, errW_some] <;> rfl)) | (simp [*, errW_none, errW_some] <;> rfl), bl_ HB⟩)
      · rw [if_neg c11] at H
        exact absurd H (by simp)
    · rw [if_neg c10] at H
      exact absurd H (by simp)
  · rw [if_neg c8] at H
    (have c8b0 : decide (0 < a1_1) = false := decide_eq_false c8); clear c8; ((first | rw [c8b0] | (simp only [i64_w, i32_w]; rw [c8b0]) | skip)); (have HC17 := Aside0.mk H); clear H; (have hnb18 := NB385_384.out); (have hnc18 := NB384_385.out); (have hcz19 := blk_cell BK385.out); (have hfz19 := blk_frozen BK385.out); (go_upto_if 21 with (fail)); (have H := HC17.out); clear HC17; (by_cases c20 : a1_2 = true)
    · subst c20
      (rw [if_pos rfl] at H); (obtain rfl := Option.some.inj H); (go_wp2); (go_ret); (exact ⟨rv_, bl_ HB⟩)
    · replace c20 := Bool.eq_false_iff.mpr c20
      subst c20; (rw [if_neg Bool.false_ne_true] at H); (obtain rfl := Option.some.inj H); (go_wp2); (go_ret); (exact ⟨rv_, bl_ HB⟩)

/-! ### instrument_Check: function 35 -/
mutual
def instrument_Check.j0 : Nat → Bool → List (S99) → List Int → Option (Int)
  | 0, _, _, _ => none
  | k + 1, x17, x393000, x393001 => if x17 = true then (some 2) else (if (x393000.length : Int) = 0 then (some 11) else (instrument_Check.l0 k 0 x393001 (x393001.length : Int) 0 x393000 x393001))
def instrument_Check.l0 : Nat → Int → List Int → Int → Int → List (S99) → List Int → Option (Int)
  | 0, _, _, _, _, _, _ => none
  | k + 1, x3, x23, x24, x25, x393000, x393001 => if x25 < x24 then (if 0 ≤ x25 then (if x25 < (x23.length : Int) then (if (rd x23 x25) ≤ x3 then (some 11) else (if (rd x23 x25) > 127 then (some 11) else (instrument_Check.l0 k (rd x23 x25) x23 x24 (wrap64 (x25 + 1)) x393000 x393001))) else (none)) else (none)) else (instrument_Check.l1 k x393000 (x393000.length : Int) 0 x393000 x393001)
def instrument_Check.l1 : Nat → List (S99) → Int → Int → List (S99) → List Int → Option (Int)
  | 0, _, _, _, _, _ => none
  | k + 1, x39, x40, x41, x393000, x393001 => if x41 < x40 then (if 0 ≤ x41 then (if x41 < (x39.length : Int) then (if ((rd_T99 x39 x41).f1) < 0 then (instrument_Check.j3 k x39 x40 x41 true x393000 x393001 ((rd_T99 x39 x41).f0) ((rd_T99 x39 x41).f1) ((rd_T99 x39 x41).f2)) else (instrument_Check.j3 k x39 x40 x41 (decide (((rd_T99 x39 x41).f1) > (x393001.length : Int))) x393000 x393001 ((rd_T99 x39 x41).f0) ((rd_T99 x39 x41).f1) ((rd_T99 x39 x41).f2))) else (none)) else (none)) else (some 0)
def instrument_Check.j3 : Nat → List (S99) → Int → Int → Bool → List (S99) → List Int → Int → Int → Bool → Option (Int)
  | 0, _, _, _, _, _, _, _, _, _ => none
  | k + 1, x39, x40, x41, x55, x393000, x393001, x396000, x396001, x396002 => if x55 = true then (some 13) else (if x396000 < 0 then (some 10) else (if x396000 > 127 then (some 10) else ((instrument_highest.f x393000 x393001 x396000 x396001 x396002).bind fun t396 => (if t396 > 127 then (some 10) else (instrument_Check.l1 k x39 x40 (wrap64 (x41 + 1)) x393000 x393001)))))
end
def instrument_Check.f (k : Nat) (l0_0 : List (S99)) (l0_1 : List Int) : Option (Int) := if (l0_0.length : Int) > 14 then (instrument_Check.j0 k true l0_0 l0_1) else (instrument_Check.j0 k (decide ((l0_1.length : Int) > 18)) l0_0 l0_1)
theorem instrument_Check.mono_l : ∀ k, (∀ y0 y1 y2, LeO (instrument_Check.j0 k y0 y1 y2) (instrument_Check.j0 (k + 1) y0 y1 y2)) ∧ (∀ y0 y1 y2 y3 y4 y5, LeO (instrument_Check.l0 k y0 y1 y2 y3 y4 y5) (instrument_Check.l0 (k + 1) y0 y1 y2 y3 y4 y5)) ∧ (∀ y0 y1 y2 y3 y4, LeO (instrument_Check.l1 k y0 y1 y2 y3 y4) (instrument_Check.l1 (k + 1) y0 y1 y2 y3 y4)) ∧ (∀ y0 y1 y2 y3 y4 y5 y6 y7 y8, LeO (instrument_Check.j3 k y0 y1 y2 y3 y4 y5 y6 y7 y8) (instrument_Check.j3 (k + 1) y0 y1 y2 y3 y4 y5 y6 y7 y8))
  | 0 => ⟨fun _ _ _ r h => by simp [instrument_Check.j0] at h, fun _ _ _ _ _ _ r h => by simp [instrument_Check.l0] at h, fun _ _ _ _ _ r h => by simp [instrument_Check.l1] at h, fun _ _ _ _ _ _ _ _ _ r h => by simp [instrument_Check.j3] at h⟩
  | k + 1 => by
    ((obtain ⟨ih0, ih1, ih2, ih3⟩ := instrument_Check.mono_l k); (refine ⟨?_, ?_, ?_, ?_⟩)); (focus intro y0 y1 y2; (unfold instrument_Check.j0); (repeat' first | (with_reducible first | apply ih0 | apply ih1 | apply ih2 | apply ih3 | exact LeO.refl _ | exact LeO.none _ | refine LeO.ite ?_ ?_ | refine LeO.bind ?_ fun _ => ?_) | exact LeO.none _ | refine LeO.ite ?_ ?_ | refine LeO.bind ?_ fun _ => ?_ | apply ih0 | apply ih1 | apply ih2 | apply ih3)); (focus intro y0 y1 y2 y3 y4 y5; (unfold instrument_Check.l0); (repeat' first | (with_reducible first | apply ih0 | apply ih1 | apply ih2 | apply ih3 | exact LeO.refl _ | exact LeO.none _ | refine LeO.ite ?_ ?_ | refine LeO.bind ?_ fun _ => ?_) | exact LeO.none _ | refine LeO.ite ?_ ?_ | refine LeO.bind ?_ fun _ => ?_ | apply ih0 | apply ih1 | apply ih2 | apply ih3)); (focus intro y0 y1 y2 y3 y4; (unfold instrument_Check.l1); (repeat' first | (with_reducible first | apply ih0 | apply ih1 | apply ih2 | apply ih3 | exact LeO.refl _ | exact LeO.none _ | refine LeO.ite ?_ ?_ | refine LeO.bind ?_ fun _ => ?_) | exact LeO.none _ | refine LeO.ite ?_ ?_ | refine LeO.bind ?_ fun _ => ?_ | apply ih0 | apply ih1 | apply ih2 | apply ih3)); (focus intro y0 y1 y2 y3 y4 y5 y6 y7 y8; (unfold instrument_Check.j3); (repeat' first | (with_reducible first | apply ih0 | apply ih1 | apply ih2 | apply ih3 | exact LeO.refl _ | exact LeO.none _ | refine LeO.ite ?_ ?_ | refine LeO.bind ?_ fun _ => ?_) | exact LeO.none _ | refine LeO.ite ?_ ?_ | refine LeO.bind ?_ fun _ => ?_ | apply ih0 | apply ih1 | apply ih2 | apply ih3))
theorem instrument_Check.mono : ∀ a0 a1 k, LeO (instrument_Check.f k a0 a1) (instrument_Check.f (k + 1) a0 a1) := by
  intro a0 a1 k
  obtain ⟨ih0, ih1, ih2, ih3⟩ := instrument_Check.mono_l k
  unfold instrument_Check.f
  repeat' first | (with_reducible first | apply ih0 | apply ih1 | apply ih2 | apply ih3 | exact LeO.refl _ | exact LeO.none _ | refine LeO.ite ?_ ?_ | refine LeO.bind ?_ fun _ => ?_) | exact LeO.none _ | refine LeO.ite ?_ ?_ | refine LeO.bind ?_ fun _ => ?_ | apply ih0 | apply ih1 | apply ih2 | apply ih3
set_option maxHeartbeats 8000000 in
set_option maxRecDepth 100000 in
theorem instrument_Check.calls (k : Nat) (A0_0 : Option Addr) (c0_0 : Nat) (l0_0 : List (S99)) (A0_1 : Option Addr) (c0_1 : Nat) (l0_1 : List Int) (r : Int) (w : World) (hr0_0 : Kd.C k99 w A0_0 l0_0.length l0_0) (hc0_0 : l0_0.length ≤ c0_0) (hr0_1 : Kd.C (Kd.int .i64) w A0_1 l0_1.length l0_1) (hc0_1 : l0_1.length ≤ c0_1) (h : instrument_Check.f k l0_0 l0_1 = some r) :
    Calls Tryz.prog 35 #[.agg #[.slice A0_0 l0_0.length c0_0, .slice A0_1 l0_1.length c0_1]] w fun e w' => e = .returned (.int .i64 r) ∧ Below w.heap.size w w' := by
  have hu26 := Tryz.underlying26
  have hu99 := Tryz.underlying99
  have HR0_0 := Aside0.mk hr0_0
  have HC0_0 := Aside0.mk hc0_0
  clear hr0_0 hc0_0
  have HR0_1 := Aside0.mk hr0_1
  have HC0_1 := Aside0.mk hc0_1
  clear hr0_1 hc0_1
  have HB := Aside0.mk (Below.refl w.heap.size w)
  have H : (if (l0_0.length : Int) > 14 then (instrument_Check.j0 k true l0_0 l0_1) else (instrument_Check.j0 k (decide ((l0_1.length : Int) > 18)) l0_0 l0_1)) = some r := h
  clear h
  have HC2 := Aside0.mk H
  clear H
  go_enter Tryz.func35, Tryz.ntmps35
  go_upto_region 1 with (first | ((with_reducible refine gate_dst (N := 1) rfl ?_); (try (refine gate_guard (by rfl) ?_; dsimp only)); refine bx_ 1 #[.slice A0_0 l0_0.length c0_0, .slice A0_1 l0_1.length c0_1] 26 HB ?_; clear HB; intro gb392 w3 hg hb BK392 HB GW392; have GE392 := GW392; clear hg hb))
  (try simp only [Act.put, List.setIfInBounds_toArray, List.set_cons_zero, List.set_cons_succ])
  go_cut [17] (fun v17 wc => ∃ (kq : Nat) (x17_1 : Bool), v17 = .bool x17_1 ∧ Aside0 (instrument_Check.j0 kq x17_1 l0_0 l0_1 = some r) ∧ Aside0 (kq ≤ k) ∧ Aside0 (wc.heap[gb392]? = some (.cells #[(.slice A0_0 l0_0.length c0_0), (.slice A0_1 l0_1.length c0_1)] 26 (0, 0))) ∧ Aside0 (Below w.heap.size w wc))
  case first =>
    (have H := HC2.out); clear HC2; (by_cases c4 : (l0_0.length : Int) > 14)
    · rw [if_pos c4] at H
      (have c4b0 : decide (14 < (l0_0.length : Int)) = true := decide_eq_true c4); (have c4b1 : decide (14 < l0_0.length) = true := decide_eq_true (by omega)); clear c4; ((first | rw [c4b0] | rw [c4b1] | (simp only [i64_w, i32_w]; rw [c4b0]) | skip)); (have H' := Aside0.mk H); clear H; (have hcz5 := blk_cell BK392.out); (have hfz5 := blk_frozen BK392.out); (go_wp2); (go_meet)
      case rel => exact ⟨_, (true), (rs_), H', ⟨om_⟩, ⟨bk_ BK392⟩, ⟨bl_ HB⟩⟩
    · rw [if_neg c4] at H
      (have c4b0 : decide (14 < (l0_0.length : Int)) = false := decide_eq_false c4); (have c4b1 : decide (14 < l0_0.length) = false := decide_eq_false (by omega)); clear c4; ((first | rw [c4b0] | rw [c4b1] | (simp only [i64_w, i32_w]; rw [c4b0]) | skip)); (have H' := Aside0.mk H); clear H; (have hcz6 := blk_cell BK392.out); (have hfz6 := blk_frozen BK392.out); (go_wp2); (go_meet)
      case rel => exact ⟨_, (decide ((l0_1.length : Int) > 18)), (rs_), H', ⟨om_⟩, ⟨bk_ BK392⟩, ⟨bl_ HB⟩⟩
  case rest =>
    clear HC2; (obtain ⟨kq, x17_1, rfl, HA, HJ1, BK392, HB⟩ := hcut)
    cases kq with
    | zero => exact absurd HA.out (by simp [instrument_Check.j0])
    | succ kj1 =>
      (have H := HA.out); clear HA; (simp only [instrument_Check.j0] at H); (by_cases c7 : x17_1 = true)
      · subst c7
        (rw [if_pos rfl] at H); (obtain rfl := Option.some.inj H); (go_wp2); (go_ret); (exact ⟨rv_, bl_ HB⟩)
      · replace c7 := Bool.eq_false_iff.mpr c7
        subst c7; (rw [if_neg Bool.false_ne_true] at H); (have HC8 := Aside0.mk H); clear H; (have hcz9 := blk_cell BK392.out); (have hfz9 := blk_frozen BK392.out); (go_upto_if 21 with (fail)); (have H := HC8.out); clear HC8; (by_cases c10 : (l0_0.length : Int) = 0)
        · rw [if_pos c10] at H
          (obtain ⟨c10b0, c10b1⟩ := eqT_ c10); clear c10; ((first | rw [c10b0] | rw [c10b1] | (simp only [i64_w, i32_w]; rw [c10b0]) | skip)); (obtain rfl := Option.some.inj H); (go_wp2); (go_ret); (exact ⟨rv_, bl_ HB⟩)
        · rw [if_neg c10] at H
          (obtain ⟨c10b0, c10b1⟩ := eqF_ c10); (have c10b2 : ¬ (l0_0 = []) := fun h_ => c10 (by rw [h_]; rfl)); ((first | rw [c10b0] | rw [c10b1] | (simp only [i64_w, i32_w]; rw [c10b0]) | skip)); (have H' := Aside0.mk H); clear H; (have hcz11 := blk_cell BK392.out); (have hfz11 := blk_frozen BK392.out); (go_wp2); (go_loopg [3, 25] kj1 (fun kq v3 v25 w' => ∃ (x3_2 : Int) (x25_2 : Int), v3 = .int .i64 x3_2 ∧ v25 = .int .i64 x25_2 ∧ Aside0 (instrument_Check.l0 kq x3_2 l0_1 (l0_1.length : Int) x25_2 l0_0 l0_1 = some r) ∧ Aside0 (kq ≤ kj1) ∧ Aside0 (w'.heap[gb392]? = some (.cells #[(.slice A0_0 l0_0.length c0_0), (.slice A0_1 l0_1.length c0_1)] 26 (0, 0))) ∧ Aside0 (Below w.heap.size w w')))
          case atStart => exact ⟨(0), (0), (rs_), (rs_), H', ⟨Nat.le_refl _⟩, ⟨bk_ BK392⟩, ⟨bl_ HB⟩⟩
          case round =>
            clear H'; (try clear c7 c10b0 c10b1 c10b2 hcz11 hcz9 hfz11 hfz9); (obtain ⟨x3_2, x25_2, rfl, rfl, HA, HK2, BK392, HB⟩ := hrel)
            cases gk with
            | zero => exact absurd HA.out (by simp [instrument_Check.l0])
            | succ k2 =>
              (have H := HA.out); clear HA; (simp only [instrument_Check.l0] at H); (by_cases c12 : x25_2 < (l0_1.length : Int))
              · rw [if_pos c12] at H
                (have c12b0 := decide_eq_true c12); clear c12; (by_cases c13 : 0 ≤ x25_2)
                · rw [if_pos c13] at H
                  (have c13b0 := decide_eq_true c13); clear c13; (by_cases c14 : x25_2 < (l0_1.length : Int))
                  · rw [if_pos c14] at H
                    (have c14b0 := decide_eq_true c14); clear c14; (by_cases c15 : (rd l0_1 x25_2) ≤ x3_2)
                    · rw [if_pos c15] at H
                      (have c15b0 := decide_eq_true c15); clear c15; (obtain rfl := Option.some.inj H); (have p393 : 0 ≤ (x25_2 : Int) := of_decide_eq_true (by first | (with_reducible assumption) | assumption)); (have q393 : x25_2 < (l0_1.length : Int) := of_decide_eq_true (by first | (with_reducible assumption) | assumption)); (obtain ⟨ad393, e393, hx393_0⟩ := Kd.at_int HR0_1.out x25_2 p393 q393)
                      cases e393
                      (replace hx393_0 := pw_cell_below HB.out hx393_0); (replace p393 := eq_true p393); (replace q393 := eq_true q393); (go_wp2); (go_ret); (exact ⟨rv_, bl_ HB⟩)
                    · rw [if_neg c15] at H
                      (have c15b0 := decide_eq_false c15); clear c15; (have HC16 := Aside0.mk H); clear H; (have p393 : 0 ≤ (x25_2 : Int) := of_decide_eq_true (by first | (with_reducible assumption) | assumption)); (have q393 : x25_2 < (l0_1.length : Int) := of_decide_eq_true (by first | (with_reducible assumption) | assumption)); (obtain ⟨ad393, e393, hx393_0⟩ := Kd.at_int HR0_1.out x25_2 p393 q393)
                      cases e393
                      (replace hx393_0 := pw_cell_below HB.out hx393_0); (replace p393 := eq_true p393); (replace q393 := eq_true q393); (go_upto_if 35 with (fail)); (have H := HC16.out); clear HC16; (by_cases c17 : (rd l0_1 x25_2) > 127)
                      · rw [if_pos c17] at H
                        (have c17b0 : decide (127 < (rd l0_1 x25_2)) = true := decide_eq_true c17); clear c17; ((first | rw [c17b0] | (simp only [i64_w, i32_w]; rw [c17b0]) | skip)); (obtain rfl := Option.some.inj H); (go_wp2); (go_ret); (exact ⟨rv_, bl_ HB⟩)
                      · rw [if_neg c17] at H
                        (have c17b0 : decide (127 < (rd l0_1 x25_2)) = false := decide_eq_false c17); clear c17; ((first | rw [c17b0] | (simp only [i64_w, i32_w]; rw [c17b0]) | skip)); (have H' := Aside0.mk H); clear H; (go_wp2); (go_roundg k2)
                        case measure => have := HJ1.out; have := HK2.out; omega
                        case rel => exact ⟨(rd l0_1 x25_2), (wrap64 (x25_2 + 1)), (rs_), (rs_), H', ⟨by have := HJ1.out; have := HK2.out; omega⟩, ⟨bk_ BK392⟩, ⟨bl_ HB⟩⟩
                  · rw [if_neg c14] at H
                    exact absurd H (by simp)
                · rw [if_neg c13] at H
                  exact absurd H (by simp)
              · rw [if_neg c12] at H
                (have c12b0 := decide_eq_false c12); clear c12; (have H' := Aside0.mk H); clear H; (have hcz18 := blk_cell BK392.out); (have hfz18 := blk_frozen BK392.out); (go_wp2); (go_loopg [41] k2 (fun kq v41 w' => ∃ (x41_3 : Int), v41 = .int .i64 x41_3 ∧ Aside0 (instrument_Check.l1 kq l0_0 (l0_0.length : Int) x41_3 l0_0 l0_1 = some r) ∧ Aside0 (kq ≤ k2) ∧ Aside0 (w'.heap[gb392]? = some (.cells #[(.slice A0_0 l0_0.length c0_0), (.slice A0_1 l0_1.length c0_1)] 26 (0, 0))) ∧ Aside0 (Below w.heap.size w w')))
                case atStart => exact ⟨(0), (rs_), H', ⟨Nat.le_refl _⟩, ⟨bk_ BK392⟩, ⟨bl_ HB⟩⟩
                case round =>
                  clear H'; (try clear c12b0 hcz18 hfz18); (obtain ⟨x41_3, rfl, HA, HK3, BK392, HB⟩ := hrel)
                  cases gk with
                  | zero => exact absurd HA.out (by simp [instrument_Check.l1])
                  | succ k3 =>
                    (have H := HA.out); clear HA; (simp only [instrument_Check.l1] at H); (by_cases c19 : x41_3 < (l0_0.length : Int))
                    · rw [if_pos c19] at H
                      (have c19b0 := decide_eq_true c19); clear c19; (by_cases c20 : 0 ≤ x41_3)
                      · rw [if_pos c20] at H
                        (have c20b0 := decide_eq_true c20); clear c20; (by_cases c21 : x41_3 < (l0_0.length : Int))
                        · rw [if_pos c21] at H
                          (have c21b0 := decide_eq_true c21); clear c21; (have HC22 := Aside0.mk H); clear H; (have p394 : 0 ≤ (x41_3 : Int) := of_decide_eq_true (by first | (with_reducible assumption) | assumption)); (have q394 : x41_3 < (l0_0.length : Int) := of_decide_eq_true (by first | (with_reducible assumption) | assumption)); (obtain ⟨ad394, e394, hx394_0, hx394_1, hx394_2⟩ := at_T99 HR0_0.out x41_3 p394 q394)
                          cases e394
                          (replace hx394_0 := pw_cell_below HB.out hx394_0); (replace hx394_1 := pw_cell_below HB.out hx394_1); (replace hx394_2 := pw_cell_below HB.out hx394_2); (replace p394 := eq_true p394); (replace q394 := eq_true q394); (go_upto_region 16 with (first | ((with_reducible refine gate_dst (N := 7) rfl ?_); (try (refine gate_guard (by rfl) ?_; dsimp only)); refine bx_ 7 #[.int .i64 0, .int .i64 0, .bool false] 99 HB ?_; clear HB; intro gb395 w23 hg hb BK395 HB GW395; have GE395 := GW395; have NB392_395 := nl_ BK392 hg; have NB395_392 := ng_ BK392 hg; replace BK392 := bb_ BK392 hb; clear hg hb; have hnb24 := NB395_392.out; have hnc24 := NB392_395.out; have hcz25 := blk_cell BK395.out; have hfz25 := blk_frozen BK395.out))); ((try simp only [Act.put, List.setIfInBounds_toArray, List.set_cons_zero, List.set_cons_succ])); (go_cut [55] (fun v55 wc => ∃ (kq : Nat) (x55_21 : Bool), v55 = .bool x55_21 ∧ Aside0 (instrument_Check.j3 kq l0_0 (l0_0.length : Int) x41_3 x55_21 l0_0 l0_1 ((rd_T99 l0_0 x41_3).f0) ((rd_T99 l0_0 x41_3).f1) ((rd_T99 l0_0 x41_3).f2) = some r) ∧ Aside0 (kq ≤ k3) ∧ Aside0 (wc.heap[gb392]? = some (.cells #[(.slice (some ad394) l0_0.length c0_0), (.slice A0_1 l0_1.length c0_1)] 26 (0, 0))) ∧ Aside0 (wc.heap[gb395]? = some (.cells #[.int .i64 ((rd_T99 l0_0 x41_3).f0), .int .i64 ((rd_T99 l0_0 x41_3).f1), .bool ((rd_T99 l0_0 x41_3).f2)] 99 (0, 0))) ∧ Aside0 (Below w.heap.size w wc)))
                          case first =>
                            (have H := HC22.out); clear HC22; (by_cases c26 : ((rd_T99 l0_0 x41_3).f1) < 0)
                            · rw [if_pos c26] at H
                              (have c26b0 := decide_eq_true c26); clear c26; ((first | rw [c26b0] | (simp only [i64_w, i32_w]; rw [c26b0]) | skip)); (have H' := Aside0.mk H); clear H; (have hnb27 := NB395_392.out); (have hnc27 := NB392_395.out); (have hcz28 := blk_cell BK395.out); (have hfz28 := blk_frozen BK395.out); (go_wp2); (go_meet)
                              case rel => exact ⟨_, (true), (rs_), H', ⟨by have := HJ1.out; have := HK2.out; have := HK3.out; first | omega | exact Nat.le_refl _⟩, ⟨bk_ BK392⟩, ⟨bk_ BK395⟩, ⟨bl_ HB⟩⟩
                            · rw [if_neg c26] at H
                              (have c26b0 := decide_eq_false c26); clear c26; ((first | rw [c26b0] | (simp only [i64_w, i32_w]; rw [c26b0]) | skip)); (have H' := Aside0.mk H); clear H; (have hnb29 := NB395_392.out); (have hnc29 := NB392_395.out); (have hcz30 := blk_cell BK395.out); (have hfz30 := blk_frozen BK395.out); (have hcz31 := blk_cell BK392.out); (have hfz31 := blk_frozen BK392.out); (go_wp2); (go_meet)
                              case rel => exact ⟨_, (decide (((rd_T99 l0_0 x41_3).f1) > (l0_1.length : Int))), (rs_), H', ⟨by have := HJ1.out; have := HK2.out; have := HK3.out; first | omega | exact Nat.le_refl _⟩, ⟨bk_ BK392⟩, ⟨bk_ BK395⟩, ⟨bl_ HB⟩⟩
                          case rest =>
                            clear HC22; (try clear c19b0 c20b0 c21b0 hcz25 hfz25 hx394_0 hx394_1 hx394_2 p394 q394); (obtain ⟨kq, x55_21, rfl, HA, HJ21, BK392, BK395, HB⟩ := hcut)
                            cases kq with
                            | zero => exact absurd HA.out (by simp [instrument_Check.j3])
                            | succ kj21 =>
                              (have H := HA.out); clear HA; (simp only [instrument_Check.j3] at H); (by_cases c32 : x55_21 = true)
                              · subst c32
                                (rw [if_pos rfl] at H); (obtain rfl := Option.some.inj H); (go_wp2); (go_ret); (exact ⟨rv_, bl_ HB⟩)
                              · replace c32 := Bool.eq_false_iff.mpr c32
                                subst c32; (rw [if_neg Bool.false_ne_true] at H); (by_cases c33 : ((rd_T99 l0_0 x41_3).f0) < 0)
                                · rw [if_pos c33] at H
                                  (have c33b0 := decide_eq_true c33); clear c33; (obtain rfl := Option.some.inj H); (have hnb34 := NB395_392.out); (have hnc34 := NB392_395.out); (have hcz35 := blk_cell BK395.out); (have hfz35 := blk_frozen BK395.out); (go_wp2); (go_ret); (exact ⟨rv_, bl_ HB⟩)
                                · rw [if_neg c33] at H
                                  (have c33b0 := decide_eq_false c33); clear c33; (by_cases c36 : ((rd_T99 l0_0 x41_3).f0) > 127)
                                  · rw [if_pos c36] at H
                                    (have c36b0 : decide (127 < ((rd_T99 l0_0 x41_3).f0)) = true := decide_eq_true c36); clear c36; (obtain rfl := Option.some.inj H); (have hnb37 := NB395_392.out); (have hnc37 := NB392_395.out); (have hcz38 := blk_cell BK395.out); (have hfz38 := blk_frozen BK395.out); (go_wp2); (go_ret); (exact ⟨rv_, bl_ HB⟩)
                                  · rw [if_neg c36] at H
                                    (have c36b0 : decide (127 < ((rd_T99 l0_0 x41_3).f0)) = false := decide_eq_false c36); clear c36; (replace H := Option.bind_eq_some_iff.mp H); (obtain ⟨t396, A390, H⟩ := H); (try dsimp only at H); (have A39 := Aside0.mk A390); clear A390; (have HC40 := Aside0.mk H); clear H; (have hnb41 := NB395_392.out); (have hnc41 := NB392_395.out); (have hcz42 := blk_cell BK395.out); (have hfz42 := blk_frozen BK395.out); (have hcz43 := blk_cell BK392.out); (have hfz43 := blk_frozen BK392.out); (go_upto_if 69 with (first | (go_at_call 51; (with_reducible refine (instrument_highest.calls _ _ l0_0 _ _ l0_1 ((rd_T99 l0_0 x41_3).f0) ((rd_T99 l0_0 x41_3).f1) ((rd_T99 l0_0 x41_3).f2) t396 _ ?side1 ?side2 ?side3 ?side4 A39.out).mono ?_); (case side1 => exact kc_ HR0_0 HB); (case side2 => exact HC0_0.out); (case side3 => exact kc_ HR0_1 HB); (case side4 => exact HC0_1.out); rintro e w44 ⟨rfl, hb⟩; replace BK392 := bb_ BK392 hb; replace BK395 := bb_ BK395 hb; replace HB := bs_ HB hb; (try clear hb); (try clear hb2); (try clear hk); (try clear hi)))); ((try simp only [Act.put, List.setIfInBounds_toArray, List.set_cons_zero, List.set_cons_succ])); (have H := HC40.out); clear HC40; (by_cases c45 : t396 > 127)
                                    · rw [if_pos c45] at H
                                      (have c45b0 : decide (127 < t396) = true := decide_eq_true c45); clear c45; ((first | rw [c45b0] | (simp only [i64_w, i32_w]; rw [c45b0]) | skip)); (obtain rfl := Option.some.inj H); (go_wp2); (go_ret); (exact ⟨rv_, bl_ HB⟩)
                                    · rw [if_neg c45] at H
                                      (have c45b0 : decide (127 < t396) = false := decide_eq_false c45); clear c45; ((first | rw [c45b0] | (simp only [i64_w, i32_w]; rw [c45b0]) | skip)); (have H' := Aside0.mk H); clear H; (go_wp2); (go_roundg kj21)
                                      case measure => have := HJ1.out; have := HK2.out; have := HK3.out; have := HJ21.out; omega
                                      case rel => exact ⟨(wrap64 (x41_3 + 1)), (rs_), H', ⟨by have := HJ1.out; have := HK2.out; have := HK3.out; have := HJ21.out; omega⟩, ⟨bk_ BK392⟩, ⟨bl_ HB⟩⟩
                        · rw [if_neg c21] at H
                          exact absurd H (by simp)
                      · rw [if_neg c20] at H
                        exact absurd H (by simp)
                    · rw [if_neg c19] at H
                      (have c19b0 := decide_eq_false c19); clear c19; (obtain rfl := Option.some.inj H); (go_wp2); (go_ret); (exact ⟨rv_, bl_ HB⟩)

end Go.Proofs.YtocpcofihlcnoaaGreat.PNC
