-- made by xprint.py (ours) out of the translation
import Derived.Test.YtocpcofihlcnoaaGreatPNCx0
import Derived.Test.YtocpcofihlcnoaaGreatPNCx1
import Derived.Test.YtocpcofihlcnoaaGreatPNCx4
namespace Go.Proofs.YtocpcofihlcnoaaGreat.PNC
open Go.RowKit Go.Proofs.YtocpcofihlcnoaaGreatW.PrintWords Go.Proofs.YtocpcofihlcnoaaGreatW.PrintLast Go.Proofs.YtocpcofihlcnoaaGreatW.PrintMore
attribute [local go_sem] max2_int min2_int max_two min_two max_three min_three max_four min_four   -- for this text's walks alone
set_option linter.unusedVariables false
set_option linter.unusedSimpArgs false

attribute [local go_sem high] eqA43
/-! ### piece_Ticks: function 52 -/
def piece_Ticks.j0 : Nat → Bool → Int → Bool → Bool → Option (Int)
  | 0, _, _, _, _ => none
  | k + 1, x19, x398000, x398001, x398002 => if x19 = true then (some 0) else (if 0 ≤ (wrap64 (x398000 - 1)) then (if x398001 = true then (some (((shr .i64 384 (wrap64 (x398000 - 1))) / 2) * 3)) else (if x398002 = true then (some (((shr .i64 384 (wrap64 (x398000 - 1))) / 3) * 2)) else (some (shr .i64 384 (wrap64 (x398000 - 1)))))) else (none))
def piece_Ticks.f (k : Nat) (a0_0 : Int) (a0_1 : Bool) (a0_2 : Bool) : Option (Int) := if a0_0 < 1 then (piece_Ticks.j0 k true a0_0 a0_1 a0_2) else (if a0_0 > 7 then (piece_Ticks.j0 k true a0_0 a0_1 a0_2) else (if a0_1 = true then (piece_Ticks.j0 k a0_2 a0_0 a0_1 a0_2) else (piece_Ticks.j0 k false a0_0 a0_1 a0_2)))
theorem piece_Ticks.mono_l : ∀ k, (∀ y0 y1 y2 y3, LeO (piece_Ticks.j0 k y0 y1 y2 y3) (piece_Ticks.j0 (k + 1) y0 y1 y2 y3))
  | 0 => fun _ _ _ _ r h => by simp [piece_Ticks.j0] at h
  | k + 1 => by
    (have ih0 := piece_Ticks.mono_l k); (focus intro y0 y1 y2 y3; (unfold piece_Ticks.j0); (repeat' first | (with_reducible first | apply ih0 | exact LeO.refl _ | exact LeO.none _ | refine LeO.ite ?_ ?_ | refine LeO.bind ?_ fun _ => ?_) | exact LeO.none _ | refine LeO.ite ?_ ?_ | refine LeO.bind ?_ fun _ => ?_ | apply ih0))
theorem piece_Ticks.mono : ∀ a0 a1 a2 k, LeO (piece_Ticks.f k a0 a1 a2) (piece_Ticks.f (k + 1) a0 a1 a2) := by
  intro a0 a1 a2 k
  have ih0 := piece_Ticks.mono_l k
  unfold piece_Ticks.f
  repeat' first | (with_reducible first | apply ih0 | exact LeO.refl _ | exact LeO.none _ | refine LeO.ite ?_ ?_ | refine LeO.bind ?_ fun _ => ?_) | exact LeO.none _ | refine LeO.ite ?_ ?_ | refine LeO.bind ?_ fun _ => ?_ | apply ih0
set_option maxHeartbeats 8000000 in
set_option maxRecDepth 100000 in
theorem piece_Ticks.calls (k : Nat) (a0_0 : Int) (a0_1 : Bool) (a0_2 : Bool) (r : Int) (w : World) (h : piece_Ticks.f k a0_0 a0_1 a0_2 = some r) :
    Calls Tryz.prog 52 #[.agg #[.int .i64 a0_0, .bool a0_1, .bool a0_2]] w fun e w' => e = .returned (.int .i64 r) ∧ Below w.heap.size w w' := by
  have hu43 := Tryz.underlying43
  have HB := Aside0.mk (Below.refl w.heap.size w)
  have H : (if a0_0 < 1 then (piece_Ticks.j0 k true a0_0 a0_1 a0_2) else (if a0_0 > 7 then (piece_Ticks.j0 k true a0_0 a0_1 a0_2) else (if a0_1 = true then (piece_Ticks.j0 k a0_2 a0_0 a0_1 a0_2) else (piece_Ticks.j0 k false a0_0 a0_1 a0_2)))) = some r := h
  clear h
  have HC2 := Aside0.mk H
  clear H
  go_enter Tryz.func52, Tryz.ntmps52
  go_upto_region 1 with (first | ((with_reducible refine gate_dst (N := 1) rfl ?_); refine bx_ 1 #[.int .i64 a0_0, .bool a0_1, .bool a0_2] 43 HB ?_; clear HB; intro gb397 w3 hg hb BK397 HB GW397; have GE397 := GW397; clear hg hb))
  (try simp only [Act.put, List.setIfInBounds_toArray, List.set_cons_zero, List.set_cons_succ])
  go_cut [19] (fun v19 wc => ∃ (kq : Nat) (x19_1 : Bool), v19 = .bool x19_1 ∧ Aside0 (piece_Ticks.j0 kq x19_1 a0_0 a0_1 a0_2 = some r) ∧ Aside0 (kq ≤ k) ∧ Aside0 (wc.heap[gb397]? = some (.cells #[.int .i64 a0_0, .bool a0_1, .bool a0_2] 43 (0, 0))) ∧ Aside0 (Below w.heap.size w wc))
  case first =>
    (have H := HC2.out); clear HC2; (by_cases c4 : a0_0 < 1)
    · rw [if_pos c4] at H
      (have c4b0 := decide_eq_true c4); clear c4; ((first | rw [c4b0] | (simp only [i64_w, i32_w]; rw [c4b0]) | skip)); (have H' := Aside0.mk H); clear H; (have hcz5 := blk_cell BK397.out); (have hfz5 := blk_frozen BK397.out); (go_wp2); (go_meet)
      case rel => exact ⟨_, (true), (rs_), H', ⟨om_⟩, ⟨bk_ BK397⟩, ⟨bl_ HB⟩⟩
    · rw [if_neg c4] at H
      (have c4b0 := decide_eq_false c4); clear c4; ((first | rw [c4b0] | (simp only [i64_w, i32_w]; rw [c4b0]) | skip)); (by_cases c6 : a0_0 > 7)
      · rw [if_pos c6] at H
        (have c6b0 : decide (7 < a0_0) = true := decide_eq_true c6); clear c6; (have H' := Aside0.mk H); clear H; (have hcz7 := blk_cell BK397.out); (have hfz7 := blk_frozen BK397.out); (go_wp2); (go_meet)
        case rel => exact ⟨_, (true), (rs_), H', ⟨om_⟩, ⟨bk_ BK397⟩, ⟨bl_ HB⟩⟩
      · rw [if_neg c6] at H
        (have c6b0 : decide (7 < a0_0) = false := decide_eq_false c6); clear c6; (by_cases c8 : a0_1 = true)
        · subst c8
          (rw [if_pos rfl] at H); (have H' := Aside0.mk H); clear H; (have hcz9 := blk_cell BK397.out); (have hfz9 := blk_frozen BK397.out); (go_wp2); (go_meet)
          case rel => exact ⟨_, (a0_2), (rs_), H', ⟨om_⟩, ⟨bk_ BK397⟩, ⟨bl_ HB⟩⟩
        · replace c8 := Bool.eq_false_iff.mpr c8
          subst c8; (rw [if_neg Bool.false_ne_true] at H); (have H' := Aside0.mk H); clear H; (have hcz10 := blk_cell BK397.out); (have hfz10 := blk_frozen BK397.out); (go_wp2); (go_meet)
          case rel => exact ⟨_, (false), (rs_), H', ⟨om_⟩, ⟨bk_ BK397⟩, ⟨bl_ HB⟩⟩
  case rest =>
    clear HC2; (obtain ⟨kq, x19_1, rfl, HA, HJ1, BK397, HB⟩ := hcut)
    cases kq with
    | zero => exact absurd HA.out (by simp [piece_Ticks.j0])
    | succ kj1 =>
      (have H := HA.out); clear HA; (simp only [piece_Ticks.j0] at H); (by_cases c11 : x19_1 = true)
      · subst c11
        (rw [if_pos rfl] at H); (obtain rfl := Option.some.inj H); (go_wp2); (go_ret); (exact ⟨rv_, bl_ HB⟩)
      · replace c11 := Bool.eq_false_iff.mpr c11
        subst c11; (rw [if_neg Bool.false_ne_true] at H); (obtain ⟨ji12, hji12⟩ : ∃ j_ : Int, (wrap64 (a0_0 - 1)) = j_ := ⟨_, rfl⟩); (replace H : (if 0 ≤ (ji12) then (if a0_1 = true then (some (((shr .i64 384 (ji12)) / 2) * 3)) else (if a0_2 = true then (some (((shr .i64 384 (ji12)) / 3) * 2)) else (some (shr .i64 384 (ji12))))) else (none)) = some r := by first | (rw [hji12] at H; exact H) | (simp only [hji12] at H ⊢; exact H)); (have hji12w : (IntKind.i64.wrap (a0_0 - 1)) = ji12 := (i64_w _).trans hji12); (by_cases c13 : 0 ≤ (ji12))
        · rw [if_pos c13] at H
          (have c13b0 := eq_true c13); (have c13b1 : decide (0 ≤ (ji12)) = true := decide_eq_true c13); clear c13; (obtain ⟨ji14, hji14⟩ : ∃ j_ : Int, (shr .i64 384 (ji12)) = j_ := ⟨_, rfl⟩); (replace H : (if a0_1 = true then (some (((ji14) / 2) * 3)) else (if a0_2 = true then (some (((ji14) / 3) * 2)) else (some ji14))) = some r := by first | (rw [hji14] at H; exact H) | (simp only [hji14] at H ⊢; exact H)); (have hji14l : 0 ≤ ji14 := by rw [show ji14 = 384 / 2 ^ min (ji12).toNat 64 from hji14.symm]; exact Int.ediv_nonneg (by decide) (Int.pow_nonneg (by decide))); (have hji14h : ji14 ≤ 384 := by rw [show ji14 = 384 / 2 ^ min (ji12).toNat 64 from hji14.symm]; exact Int.ediv_le_self _ (by decide)); (have hji14_ : (384 / 2 ^ min (ji12).toNat 64) = ji14 := hji14); (have hji14z : (ji12) ≤ 64 → (384 / 2 ^ (ji12).toNat) = ji14 := shr_small hji14); (by_cases c15 : a0_1 = true)
          · subst c15
            (rw [if_pos rfl] at H); (obtain rfl := Option.some.inj H); (have hcz16 := blk_cell BK397.out); (have hfz16 := blk_frozen BK397.out); (go_wp2); (go_ret); (exact ⟨by first | rfl | (simp [errW_none, errW_some] <;> rfl) | (simp only [← hji12, ← hji14]; first | rfl | (simp [errW_none, errW_some] <;> rfl)) | (simp [*, errW_none, errW_some] <;> rfl) | (simp [*, errW_none, errW_some] <;> (rw [Int.tdiv_eq_ediv_of_nonneg (by omega)]; unfold wrap64; omega)), bl_ HB⟩)
          · replace c15 := Bool.eq_false_iff.mpr c15
            subst c15; (rw [if_neg Bool.false_ne_true] at H); (by_cases c17 : a0_2 = true)
            · subst c17
              (rw [if_pos rfl] at H); (obtain rfl := Option.some.inj H); (have hcz18 := blk_cell BK397.out); (have hfz18 := blk_frozen BK397.out); (go_wp2); (go_ret); (exact ⟨by first | rfl | (simp [errW_none, errW_some] <;> rfl) | (simp only [← hji12, ← hji14]; first | rfl | (simp [errW_none, errW_some] <;> rfl)) | (simp [*, errW_none, errW_some] <;> rfl) | (simp [*, errW_none, errW_some] <;> (rw [Int.tdiv_eq_ediv_of_nonneg (by omega)]; unfold wrap64; omega)), bl_ HB⟩)
            · replace c17 := Bool.eq_false_iff.mpr c17
              subst c17; (rw [if_neg Bool.false_ne_true] at H); (obtain rfl := Option.some.inj H); (have hcz19 := blk_cell BK397.out); (have hfz19 := blk_frozen BK397.out); (go_wp2); (go_ret); (exact ⟨by first | rfl | (simp [errW_none, errW_some] <;> rfl) | (simp only [← hji12, ← hji14]; first | rfl | (simp [errW_none, errW_some] <;> rfl)) | (simp [*, errW_none, errW_some] <;> rfl) | (simp [*, errW_none, errW_some] <;> (rw [Int.tdiv_eq_ediv_of_nonneg (by omega)]; unfold wrap64; omega)), bl_ HB⟩)
        · rw [if_neg c13] at H
          exact absurd H (by simp)

/-! ### piece_valid: function 36 -/
def piece_valid.f (k : Nat) (a0_0 : Int) (a0_1 : Bool) (a0_2 : Bool) : Option (Bool) := if (a0_0 == 0 && (!a0_1 && (!a0_2))) = true then (some true) else ((piece_Ticks.f k a0_0 a0_1 a0_2).bind fun t400 => (some (decide (t400 > 0))))
theorem piece_valid.mono : ∀ a0 a1 a2 k, LeO (piece_valid.f k a0 a1 a2) (piece_valid.f (k + 1) a0 a1 a2) := by
  intro a0 a1 a2 k
  unfold piece_valid.f
  repeat' first | (with_reducible first | apply piece_Ticks.mono | exact LeO.refl _ | exact LeO.none _ | refine LeO.ite ?_ ?_ | refine LeO.bind ?_ fun _ => ?_) | exact LeO.none _ | refine LeO.ite ?_ ?_ | refine LeO.bind ?_ fun _ => ?_ | apply piece_Ticks.mono
set_option maxHeartbeats 8000000 in
set_option maxRecDepth 100000 in
theorem piece_valid.calls (k : Nat) (a0_0 : Int) (a0_1 : Bool) (a0_2 : Bool) (r : Bool) (w : World) (h : piece_valid.f k a0_0 a0_1 a0_2 = some r) :
    Calls Tryz.prog 36 #[.agg #[.int .i64 a0_0, .bool a0_1, .bool a0_2]] w fun e w' => e = .returned (.bool r) ∧ Below w.heap.size w w' := by
  have hu43 := Tryz.underlying43
  have HB := Aside0.mk (Below.refl w.heap.size w)
  have H : (if (a0_0 == 0 && (!a0_1 && (!a0_2))) = true then (some true) else ((piece_Ticks.f k a0_0 a0_1 a0_2).bind fun t400 => (some (decide (t400 > 0))))) = some r := h
  clear h
  by_cases c2 : (a0_0 == 0 && (!a0_1 && (!a0_2))) = true
  · rw [if_pos c2] at H
    (have c2b0 : (a0_0 == 0 && (!a0_1 && (!a0_2))) = true := c2); ((try (have c2b1 : decide (a0_0 = 0 && (!a0_1 && (!a0_2))) = true := by simpa using c2))); ((try (have c2b2 : (a0_0 == 0 && (!a0_1 && (!a0_2))) = true := by simpa using c2))); clear c2; (obtain rfl := Option.some.inj H); (go_enter Tryz.func36, Tryz.ntmps36); (go_wp2_with (first | ((with_reducible refine gate_dst (N := 1) rfl ?_); refine bx_ 1 #[.int .i64 a0_0, .bool a0_1, .bool a0_2] 43 HB ?_; clear HB; intro gb399 w3 hg hb BK399 HB GW399; have GE399 := GW399; clear hg hb; have hcz4 := blk_cell BK399.out; have hfz4 := blk_frozen BK399.out))); (go_ret); (exact ⟨rv_, bl_ HB⟩)
  · rw [if_neg c2] at H
    (have c2b0 : (a0_0 == 0 && (!a0_1 && (!a0_2))) = false := by simpa using c2); ((try (have c2b1 : decide (a0_0 = 0 && (!a0_1 && (!a0_2))) = false := by simpa using c2))); ((try (have c2b2 : (a0_0 == 0 && (!a0_1 && (!a0_2))) = false := by simpa using c2))); ((try (have c2b3 : ¬ (a0_0 = 0 && (!a0_1 && (!a0_2))) := by simpa using c2))); clear c2; (replace H := Option.bind_eq_some_iff.mp H); (obtain ⟨t400, A50, H⟩ := H); (try dsimp only at H); (have A5 := Aside0.mk A50); clear A50; (obtain rfl := Option.some.inj H); (go_enter Tryz.func36, Tryz.ntmps36); (go_wp2_with (first | ((with_reducible refine gate_dst (N := 1) rfl ?_); refine bx_ 1 #[.int .i64 a0_0, .bool a0_1, .bool a0_2] 43 HB ?_; clear HB; intro gb399 w6 hg hb BK399 HB GW399; have GE399 := GW399; clear hg hb; have hcz7 := blk_cell BK399.out; have hfz7 := blk_frozen BK399.out) | (go_at_call 52; (with_reducible refine (piece_Ticks.calls k a0_0 a0_1 a0_2 t400 _ A5.out).mono ?_); rintro e w8 ⟨rfl, hb⟩; replace BK399 := bb_ BK399 hb; replace HB := bs_ HB hb; (try clear hb); (try clear hb2); (try clear hk); (try clear hi)))); (go_ret); (exact ⟨rv_, bl_ HB⟩)

/-! ### piece_isRest: function 53 -/
def piece_isRest.f (a0_0 : Bool) (a0_1 : Int) (a0_2 : Bool) (a0_3 : Bool) (a0_4 : Bool) (l0_5 : List (S54)) : Option (Bool) := if (l0_5.length : Int) = 0 then (some (!a0_4)) else (some false)
set_option maxHeartbeats 8000000 in
set_option maxRecDepth 100000 in
theorem piece_isRest.calls (a0_0 : Bool) (a0_1 : Int) (a0_2 : Bool) (a0_3 : Bool) (a0_4 : Bool) (A0_5 : Option Addr) (c0_5 : Nat) (l0_5 : List (S54)) (r : Bool) (w : World) (hr0_5 : Kd.C k54 w A0_5 l0_5.length l0_5) (hc0_5 : l0_5.length ≤ c0_5) (h : piece_isRest.f a0_0 a0_1 a0_2 a0_3 a0_4 l0_5 = some r) :
    Calls Tryz.prog 53 #[.agg #[.bool a0_0, .int .i64 a0_1, .bool a0_2, .bool a0_3, .bool a0_4, .slice A0_5 l0_5.length c0_5]] w fun e w' => e = .returned (.bool r) ∧ Below w.heap.size w w' := by
  have hu46 := Tryz.underlying46
  have HR0_5 := Aside0.mk hr0_5
  have HC0_5 := Aside0.mk hc0_5
  clear hr0_5 hc0_5
  have HB := Aside0.mk (Below.refl w.heap.size w)
  have H : (if (l0_5.length : Int) = 0 then (some (!a0_4)) else (some false)) = some r := h
  clear h
  by_cases c2 : (l0_5.length : Int) = 0
  · rw [if_pos c2] at H
    (obtain ⟨c2b0, c2b1⟩ := eqT_ c2); clear c2; (obtain rfl := Option.some.inj H); (go_enter Tryz.func53, Tryz.ntmps53); (go_wp2_with (first | ((with_reducible refine gate_dst (N := 1) rfl ?_); refine bx_ 1 #[.bool a0_0, .int .i64 a0_1, .bool a0_2, .bool a0_3, .bool a0_4, .slice A0_5 l0_5.length c0_5] 46 HB ?_; clear HB; intro gb403 w3 hg hb BK403 HB GW403; have GE403 := GW403; clear hg hb; have hcz4 := blk_cell BK403.out; have hfz4 := blk_frozen BK403.out))); (go_ret); (exact ⟨rv_, bl_ HB⟩)
  · rw [if_neg c2] at H
    (obtain ⟨c2b0, c2b1⟩ := eqF_ c2); (have c2b2 : ¬ (l0_5 = []) := fun h_ => c2 (by rw [h_]; rfl)); (obtain rfl := Option.some.inj H); (go_enter Tryz.func53, Tryz.ntmps53); (go_wp2_with (first | ((with_reducible refine gate_dst (N := 1) rfl ?_); refine bx_ 1 #[.bool a0_0, .int .i64 a0_1, .bool a0_2, .bool a0_3, .bool a0_4, .slice A0_5 l0_5.length c0_5] 46 HB ?_; clear HB; intro gb403 w5 hg hb BK403 HB GW403; have GE403 := GW403; clear hg hb; have hcz6 := blk_cell BK403.out; have hfz6 := blk_frozen BK403.out))); (go_ret); (exact ⟨rv_, bl_ HB⟩)

/-! ### piece_plucks: function 54, told by hand -/
/-- An event has a stop on a course. -/
def piece_plucks.f (a0_0 : Bool) (a0_1 : Int) (a0_2 : Bool) (a0_3 : Bool) (a0_4 : Bool) (l0_5 : List S54) (a1 : Int) : Option Bool := if l0_5.length ≤ 9223372036854775807 then some (l0_5.any fun s => s.f0 == a1) else none
theorem piece_plucks.one (s0 s1 s2 s3 s4 c : Int) (g : Nat) (w : World) (hc : w.cell? ⟨g, 0, none⟩ = some (.int .i64 c)) :
    Calls Tryz.prog 66 #[.agg #[.int .i64 s0, .int .i64 s1, .int .i64 s2, .int .i64 s3, .int .i64 s4], .pointer (some ⟨g, 0, none⟩)] w fun e w' => e = .returned (.bool (s0 == c)) ∧ Below w.heap.size w w' := by
  have hg := World.block_lt_of_cell? w _ hc
  have hu := Tryz.underlying54
  have hne : ¬ w.heap.size = g := fun e => by simp [← e] at hg
  have hne' : ¬ g = w.heap.size := fun e => by simp [e] at hg
  go_enter Tryz.func66, Tryz.ntmps66
  go_wp2
  go_ret
  exact ⟨rfl, (Below.refl _ _).alloc (Nat.le_refl _) _⟩
/-- Where the first stop on a course stands, from i on; -1: nowhere. -/
def piece_plucks.idx (c : Int) : List S54 → Int → Int
  | [], _ => -1
  | s :: l, i => if s.f0 == c then i else piece_plucks.idx c l (i + 1)
theorem piece_plucks.idx_any (c : Int) : ∀ (l : List S54) (i : Int), 0 ≤ i → decide (piece_plucks.idx c l i ≥ 0) = l.any fun s => s.f0 == c
  | [], i, _ => rfl
  | s :: l, i, h => by
    unfold piece_plucks.idx
    by_cases e : (s.f0 == c) = true
    · simp [e, h]
    · rw [if_neg e, piece_plucks.idx_any c l (i + 1) (by omega)]
      simp [e]
theorem piece_plucks.idx_drop (c : Int) (l : List S54) (k : Nat) (hk : k < l.length) : piece_plucks.idx c (l.drop k) k = if ((rd_T54 l k).f0 == c) = true then (k : Int) else piece_plucks.idx c (l.drop (k + 1)) ((k + 1 : Nat) : Int) := by
  rw [List.drop_eq_getElem_cons hk]
  have e : rd_T54 l k = l[k] := by simp [rd_T54, hk]
  rw [e]
  rfl
set_option maxHeartbeats 1600000 in
set_option maxRecDepth 100000 in
theorem piece_plucks.index (A : Option Addr) (cap : Nat) (l : List S54) (c : Int) (g : Nat) (w : World) (hr : Kd.C k54 w A l.length l) (hcp : l.length ≤ cap) (hl : l.length ≤ 9223372036854775807) (hc : w.cell? ⟨g, 0, none⟩ = some (.int .i64 c)) :
    Calls Tryz.prog 74 #[.slice A l.length cap, .func (.func 66) #[] #[.pointer (some ⟨g, 0, none⟩)]] w fun e w' => e = .returned (.int .i64 (piece_plucks.idx c l 0)) ∧ Below w.heap.size w w' := by
  have HR := Aside0.mk hr
  have HC := Aside0.mk hc
  have HP := Aside0.mk hcp
  clear hr hc hcp
  have hu := Tryz.underlying54
  have HD := Aside0.mk (piece_plucks.idx_drop c l)
  go_enter Tryz.func74, Tryz.ntmps74
  go_wp2
  go_loopw [8] (fun v8 w' => ∃ k : Nat, k ≤ l.length ∧ v8 = .int .i64 k ∧ Aside0 (piece_plucks.idx c l 0 = piece_plucks.idx c (l.drop k) k) ∧ Aside0 (Below w.heap.size w w')) (fun v8 _ => l.length - (intOf v8).toNat)
  case atStart => exact ⟨0, Nat.zero_le _, rfl, ⟨rfl⟩, ⟨Below.refl _ _⟩⟩
  case round =>
    obtain ⟨k, hk, rfl, HI, HB⟩ := hrel
    by_cases hlt : k < l.length
    · have p := at_T54 HR.out (k : Int) (by omega) (by omega)
      obtain ⟨ad, rfl, h0, h1, h2, h3, h4⟩ := p
      have e0 := HD.out k hlt
      replace h0 := (HB.out.cell (World.block_lt_of_cell? w _ h0)).trans h0
      replace h1 := (HB.out.cell (World.block_lt_of_cell? w _ h1)).trans h1
      replace h2 := (HB.out.cell (World.block_lt_of_cell? w _ h2)).trans h2
      replace h3 := (HB.out.cell (World.block_lt_of_cell? w _ h3)).trans h3
      replace h4 := (HB.out.cell (World.block_lt_of_cell? w _ h4)).trans h4
      simp only [Int.toNat_natCast] at h0 h1 h2 h3 h4
      have C1 := Aside0.mk ((HB.out.cell (World.block_lt_of_cell? w _ HC.out)).trans HC.out)
      have hlt' : (k : Int) < (l.length : Int) := by omega
      by_cases hit : ((rd_T54 l k).f0 == c) = true
      · rw [if_pos hit] at e0
        have E0 := Aside0.mk (HI.out.trans e0)
        clear e0
        go_wp2_with (go_at_call 66; refine (piece_plucks.one _ _ _ _ _ c g _ C1.out).mono ?_; rintro e w1 ⟨rfl, hb⟩)
        go_ret
        exact ⟨by rw [E0.out]; rfl, below_step HB.out hb⟩
      · rw [if_neg hit] at e0
        have E0 := Aside0.mk (HI.out.trans e0)
        have hit' : ((rd_T54 l k).f0 == c) = false := by simpa using hit
        clear e0 hit
        go_wp2_with (go_at_call 66; refine (piece_plucks.one _ _ _ _ _ c g _ C1.out).mono ?_; rintro e w1 ⟨rfl, hb⟩)
        go_roundw
        case rel => exact ⟨k + 1, by omega, by go_num, E0, ⟨below_step HB.out hb⟩⟩
        case measure => simp [intOf]; omega
    · have hlt' : ¬ (k : Int) < (l.length : Int) := by omega
      have ek : k = l.length := by omega
      have E0 := HI.out
      rw [ek, List.drop_length] at E0
      have E1 := Aside0.mk E0
      clear E0 ek
      go_wp2
      go_ret
      exact ⟨by rw [E1.out]; rfl, HB.out⟩
theorem piece_plucks.has (A : Option Addr) (cap : Nat) (l : List S54) (c : Int) (g : Nat) (w : World) (hr : Kd.C k54 w A l.length l) (hcp : l.length ≤ cap) (hl : l.length ≤ 9223372036854775807) (hc : w.cell? ⟨g, 0, none⟩ = some (.int .i64 c)) :
    Calls Tryz.prog 65 #[.slice A l.length cap, .func (.func 66) #[] #[.pointer (some ⟨g, 0, none⟩)]] w fun e w' => e = .returned (.bool (l.any fun s => s.f0 == c)) ∧ Below w.heap.size w w' := by
  have HA := Aside0.mk (piece_plucks.idx_any c l 0 (by omega))
  have HI := Aside0.mk (piece_plucks.index A cap l c g w hr hcp hl hc)
  clear hr hcp hc
  go_enter Tryz.func65, Tryz.ntmps65
  go_wp2_with (go_at_call 74; (with_reducible refine (HI.out).mono ?_); rintro e w1 ⟨rfl, hb⟩)
  go_ret
  exact ⟨by rw [← HA.out]; rfl, hb⟩
theorem piece_plucks.calls (a0_0 : Bool) (a0_1 : Int) (a0_2 : Bool) (a0_3 : Bool) (a0_4 : Bool) (A0_5 : Option Addr) (c0_5 : Nat) (l0_5 : List S54) (a1 : Int) (r : Bool) (w : World) (hr0_5 : Kd.C k54 w A0_5 l0_5.length l0_5) (hc0_5 : l0_5.length ≤ c0_5) (h : piece_plucks.f a0_0 a0_1 a0_2 a0_3 a0_4 l0_5 a1 = some r) :
    Calls Tryz.prog 54 #[.agg #[.bool a0_0, .int .i64 a0_1, .bool a0_2, .bool a0_3, .bool a0_4, .slice A0_5 l0_5.length c0_5], .int .i64 a1] w fun e w' => e = .returned (.bool r) ∧ Below w.heap.size w w' := by
  have HR := Aside0.mk hr0_5
  clear hr0_5
  have hu := Tryz.underlying46
  have hmf : ∀ (fn : Fn) (first cap : Array Value) (w : World), (Instr.makeFunc fn first cap).run Tryz.prog w = .ok (.func fn first cap) w := fun _ _ _ _ => rfl
  go_enter Tryz.func54, Tryz.ntmps54
  unfold piece_plucks.f at h
  by_cases hl : l0_5.length ≤ 9223372036854775807
  · rw [if_pos hl] at h
    obtain rfl := Option.some.inj h
    have HI := Aside0.mk (fun (W : World) (g : Nat) (hb : Below w.heap.size w W) (hc : W.cell? ⟨g, 0, none⟩ = some (.int .i64 a1)) => piece_plucks.has A0_5 c0_5 l0_5 a1 g W (Kd.C_below HR.out hb) hc0_5 hl hc)
    clear h hc0_5 HR
    have B0 := Aside0.mk (((Below.refl _ w).alloc (Nat.le_refl _) (Obj.cells #[Value.bool a0_0, Value.int IntKind.i64 a0_1, Value.bool a0_2, Value.bool a0_3, Value.bool a0_4, Value.slice A0_5 l0_5.length c0_5] 46)).alloc (by simp) (Obj.cells #[Value.int IntKind.i64 a1] 3))
    go_wp2_with (go_at_call 65; (with_reducible refine (HI.out _ _ B0.out ?_).mono ?_); rotate_left 1; rintro e w1 ⟨rfl, hb⟩)
    · go_ret
      exact ⟨rfl, below_step B0.out hb⟩
    · rw [World.cell?_alloc_at _ _ _ _ (by simp)]
      rfl
  · rw [if_neg hl] at h
    exact absurd h (by simp)

/-! ### piece_Longest: function 39 -/
mutual
def piece_Longest.j0 : Nat → Int → Int → Bool → List (S99) → List Int → List (S46) → Option (Int)
  | 0, _, _, _, _, _, _ => none
  | k + 1, x1, x2, x18, x415000, x415001, x415002 => if x18 = true then (some 0) else (if 0 ≤ (wrap64 (x1 + 1)) then (if (wrap64 (x1 + 1)) ≤ (x415002.length : Int) then ((some (x415002.drop ((wrap64 (x1 + 1)) : Int).toNat : List (S46))).bind fun y415 => (piece_Longest.l0 k x2 0 y415 (y415.length : Int) 0)) else (none)) else (none))
def piece_Longest.l0 : Nat → Int → Int → List (S46) → Int → Int → Option (Int)
  | 0, _, _, _, _, _ => none
  | k + 1, x2, x7, x23, x24, x25 => if x25 < x24 then (if 0 ≤ x25 then (if x25 < (x23.length : Int) then (if x7 = 15 then (some x7) else ((piece_isRest.f ((rd_T46 x23 x25).f0) ((rd_T46 x23 x25).f1.f0) ((rd_T46 x23 x25).f1.f1) ((rd_T46 x23 x25).f1.f2) ((rd_T46 x23 x25).f2) ((rd_T46 x23 x25).f3)).bind fun t421 => (if t421 = true then (some x7) else ((piece_plucks.f ((rd_T46 x23 x25).f0) ((rd_T46 x23 x25).f1.f0) ((rd_T46 x23 x25).f1.f1) ((rd_T46 x23 x25).f1.f2) ((rd_T46 x23 x25).f2) ((rd_T46 x23 x25).f3) x2).bind fun t422 => (if t422 = true then (some x7) else (piece_Longest.l0 k x2 (wrap64 (x7 + 1)) x23 x24 (wrap64 (x25 + 1)))))))) else (none)) else (none)) else (some x7)
end
def piece_Longest.f (k : Nat) (l0_0 : List (S99)) (l0_1 : List Int) (l0_2 : List (S46)) (a1 : Int) (a2 : Int) : Option (Int) := if a1 < 0 then (piece_Longest.j0 k a1 a2 true l0_0 l0_1 l0_2) else (piece_Longest.j0 k a1 a2 (decide (a1 ≥ (l0_2.length : Int))) l0_0 l0_1 l0_2)
theorem piece_Longest.mono_l : ∀ k, (∀ y0 y1 y2 y3 y4 y5, LeO (piece_Longest.j0 k y0 y1 y2 y3 y4 y5) (piece_Longest.j0 (k + 1) y0 y1 y2 y3 y4 y5)) ∧ (∀ y0 y1 y2 y3 y4, LeO (piece_Longest.l0 k y0 y1 y2 y3 y4) (piece_Longest.l0 (k + 1) y0 y1 y2 y3 y4))
  | 0 => ⟨fun _ _ _ _ _ _ r h => by simp [piece_Longest.j0] at h, fun _ _ _ _ _ r h => by simp [piece_Longest.l0] at h⟩
  | k + 1 => by
    ((obtain ⟨ih0, ih1⟩ := piece_Longest.mono_l k); (refine ⟨?_, ?_⟩)); (focus intro y0 y1 y2 y3 y4 y5; (unfold piece_Longest.j0); (repeat' first | (with_reducible first | apply ih0 | apply ih1 | exact LeO.refl _ | exact LeO.none _ | refine LeO.ite ?_ ?_ | refine LeO.bind ?_ fun _ => ?_) | exact LeO.none _ | refine LeO.ite ?_ ?_ | refine LeO.bind ?_ fun _ => ?_ | apply ih0 | apply ih1)); (focus intro y0 y1 y2 y3 y4; (unfold piece_Longest.l0); (repeat' first | (with_reducible first | apply ih0 | apply ih1 | exact LeO.refl _ | exact LeO.none _ | refine LeO.ite ?_ ?_ | refine LeO.bind ?_ fun _ => ?_) | exact LeO.none _ | refine LeO.ite ?_ ?_ | refine LeO.bind ?_ fun _ => ?_ | apply ih0 | apply ih1))
theorem piece_Longest.mono : ∀ a0 a1 a2 a3 a4 k, LeO (piece_Longest.f k a0 a1 a2 a3 a4) (piece_Longest.f (k + 1) a0 a1 a2 a3 a4) := by
  intro a0 a1 a2 a3 a4 k
  obtain ⟨ih0, ih1⟩ := piece_Longest.mono_l k
  unfold piece_Longest.f
  repeat' first | (with_reducible first | apply ih0 | apply ih1 | exact LeO.refl _ | exact LeO.none _ | refine LeO.ite ?_ ?_ | refine LeO.bind ?_ fun _ => ?_) | exact LeO.none _ | refine LeO.ite ?_ ?_ | refine LeO.bind ?_ fun _ => ?_ | apply ih0 | apply ih1
set_option maxHeartbeats 8000000 in
set_option maxRecDepth 100000 in
theorem piece_Longest.calls (k : Nat) (A0_0 : Option Addr) (c0_0 : Nat) (l0_0 : List (S99)) (A0_1 : Option Addr) (c0_1 : Nat) (l0_1 : List Int) (A0_2 : Option Addr) (c0_2 : Nat) (l0_2 : List (S46)) (a1 : Int) (a2 : Int) (r : Int) (w : World) (hr0_0 : Kd.C k99 w A0_0 l0_0.length l0_0) (hc0_0 : l0_0.length ≤ c0_0) (hr0_1 : Kd.C (Kd.int .i64) w A0_1 l0_1.length l0_1) (hc0_1 : l0_1.length ≤ c0_1) (hr0_2 : Kd.C k46 w A0_2 l0_2.length l0_2) (hc0_2 : l0_2.length ≤ c0_2) (h : piece_Longest.f k l0_0 l0_1 l0_2 a1 a2 = some r) :
    Calls Tryz.prog 39 #[.agg #[.slice A0_0 l0_0.length c0_0, .slice A0_1 l0_1.length c0_1, .slice A0_2 l0_2.length c0_2], .int .i64 a1, .int .i64 a2] w fun e w' => e = .returned (.int .i64 r) ∧ Below w.heap.size w w' := by
  have hu29 := Tryz.underlying29
  have hu46 := Tryz.underlying46
  have HR0_0 := Aside0.mk hr0_0
  have HC0_0 := Aside0.mk hc0_0
  clear hr0_0 hc0_0
  have HR0_1 := Aside0.mk hr0_1
  have HC0_1 := Aside0.mk hc0_1
  clear hr0_1 hc0_1
  have HR0_2 := Aside0.mk hr0_2
  have HC0_2 := Aside0.mk hc0_2
  clear hr0_2 hc0_2
  have HB := Aside0.mk (Below.refl w.heap.size w)
  have H : (if a1 < 0 then (piece_Longest.j0 k a1 a2 true l0_0 l0_1 l0_2) else (piece_Longest.j0 k a1 a2 (decide (a1 ≥ (l0_2.length : Int))) l0_0 l0_1 l0_2)) = some r := h
  clear h
  have HC4 := Aside0.mk H
  clear H
  go_enter Tryz.func39, Tryz.ntmps39
  go_upto_region 1 with (first | ((with_reducible refine gate_dst (N := 3) rfl ?_); (try (refine gate_guard (by rfl) ?_; dsimp only)); refine bx_ 3 #[.slice A0_0 l0_0.length c0_0, .slice A0_1 l0_1.length c0_1, .slice A0_2 l0_2.length c0_2] 29 HB ?_; clear HB; intro gb414 w5 hg hb BK414 HB GW414; have GE414 := GW414; clear hg hb))
  (try simp only [Act.put, List.setIfInBounds_toArray, List.set_cons_zero, List.set_cons_succ])
  go_cut [18] (fun v18 wc => ∃ (kq : Nat) (x18_3 : Bool), v18 = .bool x18_3 ∧ Aside0 (piece_Longest.j0 kq a1 a2 x18_3 l0_0 l0_1 l0_2 = some r) ∧ Aside0 (kq ≤ k) ∧ Aside0 (wc.heap[gb414]? = some (.cells #[(.slice A0_0 l0_0.length c0_0), (.slice A0_1 l0_1.length c0_1), (.slice A0_2 l0_2.length c0_2)] 29 (0, 0))) ∧ Aside0 (Below w.heap.size w wc))
  case first =>
    (have H := HC4.out); clear HC4; (by_cases c6 : a1 < 0)
    · rw [if_pos c6] at H
      (have c6b0 := decide_eq_true c6); clear c6; ((first | rw [c6b0] | (simp only [i64_w, i32_w]; rw [c6b0]) | skip)); (have H' := Aside0.mk H); clear H; (go_wp2); (go_meet)
      case rel => exact ⟨_, (true), (rs_), H', ⟨om_⟩, ⟨bk_ BK414⟩, ⟨bl_ HB⟩⟩
    · rw [if_neg c6] at H
      (have c6b0 := decide_eq_false c6); clear c6; ((first | rw [c6b0] | (simp only [i64_w, i32_w]; rw [c6b0]) | skip)); (have H' := Aside0.mk H); clear H; (have hcz7 := blk_cell BK414.out); (have hfz7 := blk_frozen BK414.out); (go_wp2); (go_meet)
      case rel => exact ⟨_, (decide (a1 ≥ (l0_2.length : Int))), (rs_), H', ⟨om_⟩, ⟨bk_ BK414⟩, ⟨bl_ HB⟩⟩
  case rest =>
    clear HC4; (obtain ⟨kq, x18_3, rfl, HA, HJ3, BK414, HB⟩ := hcut)
    cases kq with
    | zero => exact absurd HA.out (by simp [piece_Longest.j0])
    | succ kj3 =>
      (have H := HA.out); clear HA; (simp only [piece_Longest.j0] at H); (by_cases c8 : x18_3 = true)
      · subst c8
        (rw [if_pos rfl] at H); (obtain rfl := Option.some.inj H); (go_wp2); (go_ret); (exact ⟨rv_, bl_ HB⟩)
      · replace c8 := Bool.eq_false_iff.mpr c8
        subst c8; (rw [if_neg Bool.false_ne_true] at H); (obtain ⟨ji9, hji9⟩ : ∃ j_ : Int, (wrap64 (a1 + 1)) = j_ := ⟨_, rfl⟩); (replace H : (if 0 ≤ (ji9) then (if (ji9) ≤ (l0_2.length : Int) then ((some (l0_2.drop ((ji9) : Int).toNat : List (S46))).bind fun y415 => (piece_Longest.l0 kj3 a2 0 y415 (y415.length : Int) 0)) else (none)) else (none)) = some r := by first | (rw [hji9] at H; exact H) | (simp only [hji9] at H ⊢; exact H)); (have hji9w : (IntKind.i64.wrap (a1 + 1)) = ji9 := (i64_w _).trans hji9); (by_cases c10 : 0 ≤ (ji9))
        · rw [if_pos c10] at H
          (have c10b0 := eq_true c10); (have c10b1 : decide (0 ≤ (ji9)) = true := decide_eq_true c10); clear c10; (by_cases c11 : (ji9) ≤ (l0_2.length : Int))
          · rw [if_pos c11] at H
            (have c11b0 := eq_true c11); (have c11b1 : decide ((ji9) ≤ (l0_2.length : Int)) = true := decide_eq_true c11); clear c11; (obtain ⟨y415, hy415⟩ : ∃ y_ : List (S46), y_ = (l0_2.drop ((ji9) : Int).toNat) := ⟨_, rfl⟩); (replace H : (piece_Longest.l0 kj3 a2 0 y415 (y415.length : Int) 0) = some r := by first | (rw [hy415]; with_reducible exact H) | (have H2_ := (Option.bind_some _ _).symm.trans H; rw [hy415]; with_reducible exact H2_) | (have H2_ := (Option.bind_some _ _).symm.trans H; with_reducible exact H2_) | with_reducible exact H | (rw [hy415]; exact H) | exact H); (have Ny415 := Aside0.mk hy415); clear hy415; (have H' := Aside0.mk H); clear H; (have hcz12 := blk_cell BK414.out); (have hfz12 := blk_frozen BK414.out); (have q13 : ((ji9) : Int) ≤ ((l0_2.length : Int) : Int) := of_decide_eq_true (by first | (with_reducible assumption) | assumption)); (obtain ⟨i013, hi013, _, hsz13, _⟩ := info_parts info46); (have hroom13 : l0_2.length ≤ c0_2 := HC0_2.out); (have hC13 : Kd.C k46 _ A0_2 l0_2.length l0_2 := HR0_2.out); (have q013 : (0 : Int) ≤ ((ji9) : Int) := of_decide_eq_true (by first | (with_reducible assumption) | assumption)); (have hcut13 := cut_from (P := Tryz.prog) 27 46 .i64 Tryz.underlying27 hi013 6 hsz13 A0_2 l0_2.length c0_2 (ji9) q013 q13); (have hr13 := Kd.C_drop (m := ((ji9) : Int).toNat) (c := c0_2) hC13 (by omega) hroom13); (obtain ⟨A13, hA13⟩ : ∃ A1, A1 = (if c0_2 = ((ji9) : Int).toNat then A0_2 else (A0_2 : Option Addr).map (·.add (((ji9) : Int).toNat * 6))) := ⟨_, rfl⟩); (obtain ⟨c13, hc13⟩ : ∃ c1, c1 = c0_2 - ((ji9) : Int).toNat := ⟨_, rfl⟩); (have hy13 : y415.length = l0_2.length - ((ji9) : Int).toNat := (by rw [Ny415.out, List.length_drop] <;> omega)); (rw [show (l0_2).drop ((ji9) : Int).toNat = y415 from Ny415.out.symm] at hr13); (replace hr13 : Kd.C k46 _ A13 y415.length y415 := (by rw [hA13]; exact hr13)); (rw [← hy13, ← hA13, ← hc13] at hcut13); (have HR418 := Aside0.mk hr13); (have HC418 := Aside0.mk (show y415.length ≤ c13 from by rw [hy13, hc13]; exact Nat.sub_le_sub_right hroom13 _)); clear hr13 hC13 hroom13 hi013 hsz13 hc13; (have KY13 := Aside0.mk hy13); (have KA13 := Aside0.mk hA13); clear hy13 hA13; (replace q13 := eq_true q13); (go_wp2); (go_loopg [7, 25] kj3 (fun kq v7 v25 w' => ∃ (x7_2 : Int) (x25_2 : Int), v7 = .int .i64 x7_2 ∧ v25 = .int .i64 x25_2 ∧ Aside0 (piece_Longest.l0 kq a2 x7_2 y415 (y415.length : Int) x25_2 = some r) ∧ Aside0 (kq ≤ kj3) ∧ Aside0 (w'.heap[gb414]? = some (.cells #[(.slice A0_0 l0_0.length c0_0), (.slice A0_1 l0_1.length c0_1), (.slice A0_2 l0_2.length c0_2)] 29 (0, 0))) ∧ Aside0 (Below w.heap.size w w')))
            case atStart => exact ⟨(0), (0), (rs_), (rs_), H', ⟨Nat.le_refl _⟩, ⟨bk_ BK414⟩, ⟨bl_ HB⟩⟩
            case round =>
              clear H'; (try clear c8 c10b0 c10b1 c11b0 c11b1 c13 q13 hcz12 hfz12 q013); (obtain ⟨x7_2, x25_2, rfl, rfl, HA, HK2, BK414, HB⟩ := hrel)
              cases gk with
              | zero => exact absurd HA.out (by simp [piece_Longest.l0])
              | succ k2 =>
                (have H := HA.out); clear HA; (simp only [piece_Longest.l0] at H); (by_cases c14 : x25_2 < (y415.length : Int))
                · rw [if_pos c14] at H
                  (have c14b0 := decide_eq_true c14); clear c14; (by_cases c15 : 0 ≤ x25_2)
                  · rw [if_pos c15] at H
                    (have c15b0 := decide_eq_true c15); clear c15; (by_cases c16 : x25_2 < (y415.length : Int))
                    · rw [if_pos c16] at H
                      (have c16b0 := decide_eq_true c16); clear c16; (by_cases c17 : x7_2 = 15)
                      · rw [if_pos c17] at H
                        (obtain ⟨c17b0, c17b1⟩ := eqT_ c17); clear c17; (obtain rfl := Option.some.inj H); (have p419 : 0 ≤ (x25_2 : Int) := of_decide_eq_true (by first | (with_reducible assumption) | assumption)); (have q419 : x25_2 < (y415.length : Int) := of_decide_eq_true (by first | (with_reducible assumption) | assumption)); (obtain ⟨ad419, A419_5, c419_5, e419, hx419_0, hx419_1, hx419_2, hx419_3, hx419_4, hx419_5, hl419_5, hi419_5⟩ := at_T46 HR418.out x25_2 p419 q419)
                        cases e419
                        (replace hx419_0 := pw_cell_below HB.out hx419_0); (replace hx419_1 := pw_cell_below HB.out hx419_1); (replace hx419_2 := pw_cell_below HB.out hx419_2); (replace hx419_3 := pw_cell_below HB.out hx419_3); (replace hx419_4 := pw_cell_below HB.out hx419_4); (replace hx419_5 := pw_cell_below HB.out hx419_5); (have HR419_5 := Aside0.mk hi419_5); (have HC419_5 := Aside0.mk hl419_5); clear hi419_5 hl419_5; (replace p419 := eq_true p419); (replace q419 := eq_true q419); (go_wp2_with (first | ((with_reducible refine gate_dst (N := 9) rfl ?_); (try (refine gate_guard (by rfl) ?_; dsimp only)); refine bx_ 9 #[.bool false, .int .i64 0, .bool false, .bool false, .bool false, .slice none 0 0] 46 HB ?_; clear HB; intro gb420 w18 hg hb BK420 HB GW420; have GE420 := GW420; have NB414_420 := nl_ BK414 hg; have NB420_414 := ng_ BK414 hg; replace BK414 := bb_ BK414 hb; clear hg hb; have hnb19 := NB420_414.out; have hnc19 := NB414_420.out; have hcz20 := blk_cell BK420.out; have hfz20 := blk_frozen BK420.out))); (go_ret); (exact ⟨by first | rfl | (simp [errW_none, errW_some] <;> rfl) | (simp only [← hji9]; first | rfl | (simp [errW_none, errW_some] <;> rfl)) | (simp [*, errW_none, errW_some] <;> rfl), bl_ HB⟩)
                      · rw [if_neg c17] at H
                        (obtain ⟨c17b0, c17b1⟩ := eqF_ c17); (replace H := Option.bind_eq_some_iff.mp H); (obtain ⟨t421, A210, H⟩ := H); (try dsimp only at H); (have A21 := Aside0.mk A210); clear A210; (by_cases c22 : t421 = true)
                        · subst c22
                          (rw [if_pos rfl] at H); (obtain rfl := Option.some.inj H); (have p419 : 0 ≤ (x25_2 : Int) := of_decide_eq_true (by first | (with_reducible assumption) | assumption)); (have q419 : x25_2 < (y415.length : Int) := of_decide_eq_true (by first | (with_reducible assumption) | assumption)); (obtain ⟨ad419, A419_5, c419_5, e419, hx419_0, hx419_1, hx419_2, hx419_3, hx419_4, hx419_5, hl419_5, hi419_5⟩ := at_T46 HR418.out x25_2 p419 q419)
                          cases e419
                          (replace hx419_0 := pw_cell_below HB.out hx419_0); (replace hx419_1 := pw_cell_below HB.out hx419_1); (replace hx419_2 := pw_cell_below HB.out hx419_2); (replace hx419_3 := pw_cell_below HB.out hx419_3); (replace hx419_4 := pw_cell_below HB.out hx419_4); (replace hx419_5 := pw_cell_below HB.out hx419_5); (have HR419_5 := Aside0.mk hi419_5); (have HC419_5 := Aside0.mk hl419_5); clear hi419_5 hl419_5; (replace p419 := eq_true p419); (replace q419 := eq_true q419); (go_wp2_with (first | ((with_reducible refine gate_dst (N := 9) rfl ?_); (try (refine gate_guard (by rfl) ?_; dsimp only)); refine bx_ 9 #[.bool false, .int .i64 0, .bool false, .bool false, .bool false, .slice none 0 0] 46 HB ?_; clear HB; intro gb420 w23 hg hb BK420 HB GW420; have GE420 := GW420; have NB414_420 := nl_ BK414 hg; have NB420_414 := ng_ BK414 hg; replace BK414 := bb_ BK414 hb; clear hg hb; have hnb24 := NB420_414.out; have hnc24 := NB414_420.out; have hcz25 := blk_cell BK420.out; have hfz25 := blk_frozen BK420.out) | (go_at_call 53; (with_reducible refine (piece_isRest.calls ((rd_T46 y415 x25_2).f0) ((rd_T46 y415 x25_2).f1.f0) ((rd_T46 y415 x25_2).f1.f1) ((rd_T46 y415 x25_2).f1.f2) ((rd_T46 y415 x25_2).f2) _ _ ((rd_T46 y415 x25_2).f3) true _ ?side1 ?side2 A21.out).mono ?_); (case side1 => exact kc_ HR419_5 HB); (case side2 => exact HC419_5.out); rintro e w26 ⟨rfl, hb⟩; replace BK414 := bb_ BK414 hb; replace BK420 := Aside0.mk (blk_below (g := gb420) (o := .cells #[.bool ((rd_T46 y415 x25_2).f0), .int .i64 ((rd_T46 y415 x25_2).f1.f0), .bool ((rd_T46 y415 x25_2).f1.f1), .bool ((rd_T46 y415 x25_2).f1.f2), .bool ((rd_T46 y415 x25_2).f2), .slice A419_5 ((rd_T46 y415 x25_2).f3).length c419_5] 46 (0, 0)) (bk_ BK420) hb); replace HB := bs_ HB hb; (try clear hb); (try clear hb2); (try clear hk); (try clear hi)))); (go_ret); (exact ⟨by first | rfl | (simp [errW_none, errW_some] <;> rfl) | (simp only [← hji9]; first | rfl | (simp [errW_none, errW_some] <;> rfl)) | (simp [*, errW_none, errW_some] <;> rfl), bl_ HB⟩)
                        · replace c22 := Bool.eq_false_iff.mpr c22
                          subst c22; (rw [if_neg Bool.false_ne_true] at H); (replace H := Option.bind_eq_some_iff.mp H); (obtain ⟨t422, A270, H⟩ := H); (try dsimp only at H); (have A27 := Aside0.mk A270); clear A270; (have HC28 := Aside0.mk H); clear H; (have p419 : 0 ≤ (x25_2 : Int) := of_decide_eq_true (by first | (with_reducible assumption) | assumption)); (have q419 : x25_2 < (y415.length : Int) := of_decide_eq_true (by first | (with_reducible assumption) | assumption)); (obtain ⟨ad419, A419_5, c419_5, e419, hx419_0, hx419_1, hx419_2, hx419_3, hx419_4, hx419_5, hl419_5, hi419_5⟩ := at_T46 HR418.out x25_2 p419 q419)
                          cases e419
                          (replace hx419_0 := pw_cell_below HB.out hx419_0); (replace hx419_1 := pw_cell_below HB.out hx419_1); (replace hx419_2 := pw_cell_below HB.out hx419_2); (replace hx419_3 := pw_cell_below HB.out hx419_3); (replace hx419_4 := pw_cell_below HB.out hx419_4); (replace hx419_5 := pw_cell_below HB.out hx419_5); (have HR419_5 := Aside0.mk hi419_5); (have HC419_5 := Aside0.mk hl419_5); clear hi419_5 hl419_5; (replace p419 := eq_true p419); (replace q419 := eq_true q419); (go_upto_if 39 with (first | ((with_reducible refine gate_dst (N := 9) rfl ?_); (try (refine gate_guard (by rfl) ?_; dsimp only)); refine bx_ 9 #[.bool false, .int .i64 0, .bool false, .bool false, .bool false, .slice none 0 0] 46 HB ?_; clear HB; intro gb420 w29 hg hb BK420 HB GW420; have GE420 := GW420; have NB414_420 := nl_ BK414 hg; have NB420_414 := ng_ BK414 hg; replace BK414 := bb_ BK414 hb; clear hg hb; have hnb30 := NB420_414.out; have hnc30 := NB414_420.out; have hcz31 := blk_cell BK420.out; have hfz31 := blk_frozen BK420.out) | (go_at_call 53; (with_reducible refine (piece_isRest.calls ((rd_T46 y415 x25_2).f0) ((rd_T46 y415 x25_2).f1.f0) ((rd_T46 y415 x25_2).f1.f1) ((rd_T46 y415 x25_2).f1.f2) ((rd_T46 y415 x25_2).f2) _ _ ((rd_T46 y415 x25_2).f3) false _ ?side1 ?side2 A21.out).mono ?_); (case side1 => exact kc_ HR419_5 HB); (case side2 => exact HC419_5.out); rintro e w32 ⟨rfl, hb⟩; replace BK414 := bb_ BK414 hb; replace BK420 := Aside0.mk (blk_below (g := gb420) (o := .cells #[.bool ((rd_T46 y415 x25_2).f0), .int .i64 ((rd_T46 y415 x25_2).f1.f0), .bool ((rd_T46 y415 x25_2).f1.f1), .bool ((rd_T46 y415 x25_2).f1.f2), .bool ((rd_T46 y415 x25_2).f2), .slice A419_5 ((rd_T46 y415 x25_2).f3).length c419_5] 46 (0, 0)) (bk_ BK420) hb); replace HB := bs_ HB hb; (try clear hb); (try clear hb2); (try clear hk); (try clear hi); have hcz33 := blk_cell BK420.out; have hfz33 := blk_frozen BK420.out) | (go_at_call 54; (with_reducible refine (piece_plucks.calls ((rd_T46 y415 x25_2).f0) ((rd_T46 y415 x25_2).f1.f0) ((rd_T46 y415 x25_2).f1.f1) ((rd_T46 y415 x25_2).f1.f2) ((rd_T46 y415 x25_2).f2) _ _ ((rd_T46 y415 x25_2).f3) a2 t422 _ ?side1 ?side2 A27.out).mono ?_); (case side1 => exact kc_ HR419_5 HB); (case side2 => exact HC419_5.out); rintro e w34 ⟨rfl, hb⟩; replace BK414 := bb_ BK414 hb; replace BK420 := bb_ BK420 hb; replace HB := bs_ HB hb; (try clear hb); (try clear hb2); (try clear hk); (try clear hi)))); ((try simp only [Act.put, List.setIfInBounds_toArray, List.set_cons_zero, List.set_cons_succ])); (have H := HC28.out); clear HC28; (by_cases c35 : t422 = true)
                          · subst c35
                            (rw [if_pos rfl] at H); (obtain rfl := Option.some.inj H); (go_wp2); (go_ret); (exact ⟨by first | rfl | (simp [errW_none, errW_some] <;> rfl) | (simp only [← hji9]; first | rfl | (simp [errW_none, errW_some] <;> rfl)) | (simp [*, errW_none, errW_some] <;> rfl), bl_ HB⟩)
                          · replace c35 := Bool.eq_false_iff.mpr c35
                            subst c35; (rw [if_neg Bool.false_ne_true] at H); (have H' := Aside0.mk H); clear H; (go_wp2); (go_roundg k2)
                            case measure => have := HJ3.out; have := HK2.out; omega
                            case rel => exact ⟨(wrap64 (x7_2 + 1)), (wrap64 (x25_2 + 1)), (rs_), (rs_), H', ⟨by have := HJ3.out; have := HK2.out; omega⟩, ⟨bk_ BK414⟩, ⟨bl_ HB⟩⟩
                    · rw [if_neg c16] at H
                      exact absurd H (by simp)
                  · rw [if_neg c15] at H
                    exact absurd H (by simp)
                · rw [if_neg c14] at H
                  (have c14b0 := decide_eq_false c14); clear c14; (obtain rfl := Option.some.inj H); (go_wp2); (go_ret); (exact ⟨by first | rfl | (simp [errW_none, errW_some] <;> rfl) | (simp only [← hji9]; first | rfl | (simp [errW_none, errW_some] <;> rfl)) | (simp [*, errW_none, errW_some] <;> rfl), bl_ HB⟩)
          · rw [if_neg c11] at H
            exact absurd H (by simp)
        · rw [if_neg c10] at H
          exact absurd H (by simp)

/-! ### piece_checkStop: function 37 -/
mutual
def piece_checkStop.j0 : Nat → Int → Int → Bool → List (S99) → List Int → List (S46) → Int → Int → Int → Int → Int → Option (Int)
  | 0, _, _, _, _, _, _, _, _, _, _, _ => none
  | k + 1, x1, x3, x9, x428000, x428001, x428002, x429000, x429001, x429002, x429003, x429004 => if x9 = true then (some 12) else (if x429001 < 0 then (piece_checkStop.j1 k x1 x3 true x428000 x428001 x428002 x429000 x429001 x429002 x429003 x429004) else (if 0 ≤ (wrap64 (x429000 - 1)) then (if (wrap64 (x429000 - 1)) < (x428000.length : Int) then (piece_checkStop.j1 k x1 x3 (decide (x429001 > ((rd_T99 x428000 (wrap64 (x429000 - 1))).f1))) x428000 x428001 x428002 x429000 x429001 x429002 x429003 x429004) else (none)) else (none)))
def piece_checkStop.j1 : Nat → Int → Int → Bool → List (S99) → List Int → List (S46) → Int → Int → Int → Int → Int → Option (Int)
  | 0, _, _, _, _, _, _, _, _, _, _, _ => none
  | k + 1, x1, x3, x22, x428000, x428001, x428002, x429000, x429001, x429002, x429003, x429004 => if x22 = true then (some 13) else (if x429000 ≤ x3 then (some 22) else (if x429002 < 0 then (piece_checkStop.j2 k x1 true x428000 x428001 x428002 x429000 x429001 x429002 x429003 x429004) else (if x429002 > 3 then (piece_checkStop.j2 k x1 true x428000 x428001 x428002 x429000 x429001 x429002 x429003 x429004) else (if x429003 < 0 then (piece_checkStop.j2 k x1 true x428000 x428001 x428002 x429000 x429001 x429002 x429003 x429004) else (piece_checkStop.j2 k x1 (decide (x429003 > 4)) x428000 x428001 x428002 x429000 x429001 x429002 x429003 x429004)))))
def piece_checkStop.j2 : Nat → Int → Bool → List (S99) → List Int → List (S46) → Int → Int → Int → Int → Int → Option (Int)
  | 0, _, _, _, _, _, _, _, _, _, _ => none
  | k + 1, x1, x45, x428000, x428001, x428002, x429000, x429001, x429002, x429003, x429004 => if x45 = true then (some 23) else (if x429004 < 0 then (some 24) else ((piece_Longest.f k x428000 x428001 x428002 x1 x429000).bind fun t430 => (if x429004 > t430 then (some 24) else (if x429004 > 0 then (if x429001 = 0 then (some 24) else (some 0)) else (some 0)))))
end
def piece_checkStop.f (k : Nat) (l0_0 : List (S99)) (l0_1 : List Int) (l0_2 : List (S46)) (a1 : Int) (a2_0 : Int) (a2_1 : Int) (a2_2 : Int) (a2_3 : Int) (a2_4 : Int) (a3 : Int) : Option (Int) := if a2_0 < 1 then (piece_checkStop.j0 k a1 a3 true l0_0 l0_1 l0_2 a2_0 a2_1 a2_2 a2_3 a2_4) else (piece_checkStop.j0 k a1 a3 (decide (a2_0 > (l0_0.length : Int))) l0_0 l0_1 l0_2 a2_0 a2_1 a2_2 a2_3 a2_4)
theorem piece_checkStop.mono_l : ∀ k, (∀ y0 y1 y2 y3 y4 y5 y6 y7 y8 y9 y10, LeO (piece_checkStop.j0 k y0 y1 y2 y3 y4 y5 y6 y7 y8 y9 y10) (piece_checkStop.j0 (k + 1) y0 y1 y2 y3 y4 y5 y6 y7 y8 y9 y10)) ∧ (∀ y0 y1 y2 y3 y4 y5 y6 y7 y8 y9 y10, LeO (piece_checkStop.j1 k y0 y1 y2 y3 y4 y5 y6 y7 y8 y9 y10) (piece_checkStop.j1 (k + 1) y0 y1 y2 y3 y4 y5 y6 y7 y8 y9 y10)) ∧ (∀ y0 y1 y2 y3 y4 y5 y6 y7 y8 y9, LeO (piece_checkStop.j2 k y0 y1 y2 y3 y4 y5 y6 y7 y8 y9) (piece_checkStop.j2 (k + 1) y0 y1 y2 y3 y4 y5 y6 y7 y8 y9))
  | 0 => ⟨fun _ _ _ _ _ _ _ _ _ _ _ r h => by simp [piece_checkStop.j0] at h, fun _ _ _ _ _ _ _ _ _ _ _ r h => by simp [piece_checkStop.j1] at h, fun _ _ _ _ _ _ _ _ _ _ r h => by simp [piece_checkStop.j2] at h⟩
  | k + 1 => by
    ((obtain ⟨ih0, ih1, ih2⟩ := piece_checkStop.mono_l k); (refine ⟨?_, ?_, ?_⟩)); (focus intro y0 y1 y2 y3 y4 y5 y6 y7 y8 y9 y10; (unfold piece_checkStop.j0); (repeat' first | (with_reducible first | apply ih0 | apply ih1 | apply ih2 | apply piece_Longest.mono | exact LeO.refl _ | exact LeO.none _ | refine LeO.ite ?_ ?_ | refine LeO.bind ?_ fun _ => ?_) | exact LeO.none _ | refine LeO.ite ?_ ?_ | refine LeO.bind ?_ fun _ => ?_ | apply ih0 | apply ih1 | apply ih2 | apply piece_Longest.mono)); (focus intro y0 y1 y2 y3 y4 y5 y6 y7 y8 y9 y10; (unfold piece_checkStop.j1); (repeat' first | (with_reducible first | apply ih0 | apply ih1 | apply ih2 | apply piece_Longest.mono | exact LeO.refl _ | exact LeO.none _ | refine LeO.ite ?_ ?_ | refine LeO.bind ?_ fun _ => ?_) | exact LeO.none _ | refine LeO.ite ?_ ?_ | refine LeO.bind ?_ fun _ => ?_ | apply ih0 | apply ih1 | apply ih2 | apply piece_Longest.mono)); (focus intro y0 y1 y2 y3 y4 y5 y6 y7 y8 y9; (unfold piece_checkStop.j2); (repeat' first | (with_reducible first | apply ih0 | apply ih1 | apply ih2 | apply piece_Longest.mono | exact LeO.refl _ | exact LeO.none _ | refine LeO.ite ?_ ?_ | refine LeO.bind ?_ fun _ => ?_) | exact LeO.none _ | refine LeO.ite ?_ ?_ | refine LeO.bind ?_ fun _ => ?_ | apply ih0 | apply ih1 | apply ih2 | apply piece_Longest.mono))
theorem piece_checkStop.mono : ∀ a0 a1 a2 a3 a4 a5 a6 a7 a8 a9 k, LeO (piece_checkStop.f k a0 a1 a2 a3 a4 a5 a6 a7 a8 a9) (piece_checkStop.f (k + 1) a0 a1 a2 a3 a4 a5 a6 a7 a8 a9) := by
  intro a0 a1 a2 a3 a4 a5 a6 a7 a8 a9 k
  obtain ⟨ih0, ih1, ih2⟩ := piece_checkStop.mono_l k
  unfold piece_checkStop.f
  repeat' first | (with_reducible first | apply ih0 | apply ih1 | apply ih2 | apply piece_Longest.mono | exact LeO.refl _ | exact LeO.none _ | refine LeO.ite ?_ ?_ | refine LeO.bind ?_ fun _ => ?_) | exact LeO.none _ | refine LeO.ite ?_ ?_ | refine LeO.bind ?_ fun _ => ?_ | apply ih0 | apply ih1 | apply ih2 | apply piece_Longest.mono
def piece_checkStop.T3 : Bool × List (List Nat × List Nat) := (true, [([], []), ([0], [0]), ([1], [1]), ([2], [2]), ([3], [3]), ([4, 3], [3, 4]), ([3], [3]), ([6, 3], [3, 6]), ([7, 3], [3, 7]), ([3], [3]), ([9, 3], [3, 9]), ([10, 3], [3, 10]), ([8, 11, 3], [3, 8, 11]), ([12, 3], [3, 12]), ([13, 3], [3, 13]), ([5, 14, 3], [3, 5, 14]), ([3, 15], [3, 15]), ([16, 3], [16])])
def piece_checkStop.B3 : List Nat := [0, 1, 3, 7, 15, 31, 15, 79, 207, 15, 527, 1551, 4047, 8143, 16335, 32767, 65535, 131071]
theorem piece_checkStop.tab3 : rtab .any (opsOf Tryz.f37 3) = piece_checkStop.T3 := by kernel_rfl
theorem piece_checkStop.bits3 : waitsOk piece_checkStop.T3.2 piece_checkStop.B3 = true := by kernel_rfl
def piece_checkStop.T9 : Bool × List (List Nat × List Nat) := (true, [([], []), ([0], [0]), ([1], [1]), ([2], [2]), ([3], [3]), ([4, 3], [3, 4]), ([3], [3]), ([3], [3]), ([3], [3]), ([8, 3], [3, 8]), ([6, 7, 9, 3, 3], [3, 6, 7, 9]), ([5, 10, 3], [3, 5, 10]), ([3, 11], [3, 11]), ([12, 10], [12]), ([13], [13]), ([14, 13], [13, 14]), ([15, 13], [13, 15]), ([16, 13, 13], [13, 16]), ([17], [17]), ([18, 17], [17, 18]), ([19, 17], [17, 19]), ([17, 20, 13], [13, 17, 20]), ([13, 21], [13, 21]), ([22, 17], [22])])
def piece_checkStop.B9 : List Nat := [0, 1, 3, 7, 15, 31, 15, 15, 15, 271, 975, 2047, 4095, 8191, 16383, 32767, 65535, 131071, 262143, 524287, 1048575, 2097151, 4194303, 8388607]
theorem piece_checkStop.tab9 : rtab .any (opsOf Tryz.f37 9) = piece_checkStop.T9 := by kernel_rfl
theorem piece_checkStop.bits9 : waitsOk piece_checkStop.T9.2 piece_checkStop.B9 = true := by kernel_rfl
set_option maxHeartbeats 8000000 in
set_option maxRecDepth 100000 in
theorem piece_checkStop.calls (k : Nat) (A0_0 : Option Addr) (c0_0 : Nat) (l0_0 : List (S99)) (A0_1 : Option Addr) (c0_1 : Nat) (l0_1 : List Int) (A0_2 : Option Addr) (c0_2 : Nat) (l0_2 : List (S46)) (a1 : Int) (a2_0 : Int) (a2_1 : Int) (a2_2 : Int) (a2_3 : Int) (a2_4 : Int) (a3 : Int) (r : Int) (w : World) (hr0_0 : Kd.C k99 w A0_0 l0_0.length l0_0) (hc0_0 : l0_0.length ≤ c0_0) (hr0_1 : Kd.C (Kd.int .i64) w A0_1 l0_1.length l0_1) (hc0_1 : l0_1.length ≤ c0_1) (hr0_2 : Kd.C k46 w A0_2 l0_2.length l0_2) (hc0_2 : l0_2.length ≤ c0_2) (h : piece_checkStop.f k l0_0 l0_1 l0_2 a1 a2_0 a2_1 a2_2 a2_3 a2_4 a3 = some r) :
    Calls Tryz.prog 37 #[.agg #[.slice A0_0 l0_0.length c0_0, .slice A0_1 l0_1.length c0_1, .slice A0_2 l0_2.length c0_2], .int .i64 a1, .agg #[.int .i64 a2_0, .int .i64 a2_1, .int .i64 a2_2, .int .i64 a2_3, .int .i64 a2_4], .int .i64 a3] w fun e w' => e = .returned (.int .i64 r) ∧ Below w.heap.size w w' := by
  have hu29 := Tryz.underlying29
  have hu54 := Tryz.underlying54
  have HR0_0 := Aside0.mk hr0_0
  have HC0_0 := Aside0.mk hc0_0
  clear hr0_0 hc0_0
  have HR0_1 := Aside0.mk hr0_1
  have HC0_1 := Aside0.mk hc0_1
  clear hr0_1 hc0_1
  have HR0_2 := Aside0.mk hr0_2
  have HC0_2 := Aside0.mk hc0_2
  clear hr0_2 hc0_2
  have HB := Aside0.mk (Below.refl w.heap.size w)
  have H : (if a2_0 < 1 then (piece_checkStop.j0 k a1 a3 true l0_0 l0_1 l0_2 a2_0 a2_1 a2_2 a2_3 a2_4) else (piece_checkStop.j0 k a1 a3 (decide (a2_0 > (l0_0.length : Int))) l0_0 l0_1 l0_2 a2_0 a2_1 a2_2 a2_3 a2_4)) = some r := h
  clear h
  have HC5 := Aside0.mk H
  clear H
  go_enter Tryz.func37, Tryz.ntmps37
  go_upto_region 1 with (first | ((with_reducible refine gate_dst (N := 4) rfl ?_); (try (refine gate_guard (by rfl) ?_; dsimp only)); refine bx_ 4 #[.slice A0_0 l0_0.length c0_0, .slice A0_1 l0_1.length c0_1, .slice A0_2 l0_2.length c0_2] 29 HB ?_; clear HB; intro gb427 w6 hg hb BK427 HB GW427; have GE427 := GW427; clear hg hb) | ((with_reducible refine gate_dst (N := 6) rfl ?_); (try (refine gate_guard (by rfl) ?_; dsimp only)); refine bx_ 6 #[.int .i64 a2_0, .int .i64 a2_1, .int .i64 a2_2, .int .i64 a2_3, .int .i64 a2_4] 54 HB ?_; clear HB; intro gb428 w7 hg hb BK428 HB GW428; have GE428 := GW428; have NB427_428 := nl_ BK427 hg; have NB428_427 := ng_ BK427 hg; replace BK427 := bb_ BK427 hb; clear hg hb))
  (try simp only [Act.put, List.setIfInBounds_toArray, List.set_cons_zero, List.set_cons_succ])
  go_cut [9] (fun v9 wc => ∃ (kq : Nat) (x9_4 : Bool), v9 = .bool x9_4 ∧ Aside0 (piece_checkStop.j0 kq a1 a3 x9_4 l0_0 l0_1 l0_2 a2_0 a2_1 a2_2 a2_3 a2_4 = some r) ∧ Aside0 (kq ≤ k) ∧ Aside0 (wc.heap[gb427]? = some (.cells #[(.slice A0_0 l0_0.length c0_0), (.slice A0_1 l0_1.length c0_1), (.slice A0_2 l0_2.length c0_2)] 29 (0, 0))) ∧ Aside0 (wc.heap[gb428]? = some (.cells #[.int .i64 a2_0, .int .i64 a2_1, .int .i64 a2_2, .int .i64 a2_3, .int .i64 a2_4] 54 (0, 0))) ∧ Aside0 (Below w.heap.size w wc))
  case first =>
    (have H := HC5.out); clear HC5; (by_cases c8 : a2_0 < 1)
    · rw [if_pos c8] at H
      (have c8b0 := decide_eq_true c8); clear c8; ((first | rw [c8b0] | (simp only [i64_w, i32_w]; rw [c8b0]) | skip)); (have H' := Aside0.mk H); clear H; (have hnb9 := NB428_427.out); (have hnc9 := NB427_428.out); (have hcz10 := blk_cell BK428.out); (have hfz10 := blk_frozen BK428.out); (go_wp2); (go_meet)
      case rel => exact ⟨_, (true), (rs_), H', ⟨om_⟩, ⟨bk_ BK427⟩, ⟨bk_ BK428⟩, ⟨bl_ HB⟩⟩
    · rw [if_neg c8] at H
      (have c8b0 := decide_eq_false c8); clear c8; ((first | rw [c8b0] | (simp only [i64_w, i32_w]; rw [c8b0]) | skip)); (have H' := Aside0.mk H); clear H; (have hnb11 := NB428_427.out); (have hnc11 := NB427_428.out); (have hcz12 := blk_cell BK428.out); (have hfz12 := blk_frozen BK428.out); (have hcz13 := blk_cell BK427.out); (have hfz13 := blk_frozen BK427.out); (go_wp2); (go_meet)
      case rel => exact ⟨_, (decide (a2_0 > (l0_0.length : Int))), (rs_), H', ⟨om_⟩, ⟨bk_ BK427⟩, ⟨bk_ BK428⟩, ⟨bl_ HB⟩⟩
  case rest =>
    clear HC5; (obtain ⟨kq, x9_4, rfl, HA, HJ4, BK427, BK428, HB⟩ := hcut)
    cases kq with
    | zero => exact absurd HA.out (by simp [piece_checkStop.j0])
    | succ kj4 =>
      (have H := HA.out); clear HA; (simp only [piece_checkStop.j0] at H); (by_cases c14 : x9_4 = true)
      · subst c14
        (rw [if_pos rfl] at H); (obtain rfl := Option.some.inj H); (go_wp2); (go_ret); (exact ⟨rv_, bl_ HB⟩)
      · replace c14 := Bool.eq_false_iff.mpr c14
        subst c14; (rw [if_neg Bool.false_ne_true] at H); (have HC15 := Aside0.mk H); clear H; (go_upto_region 3 with (fail)); (go_cut [22] (fun v22 wc => ∃ (kq : Nat) (x22_14 : Bool), v22 = .bool x22_14 ∧ Aside0 (piece_checkStop.j1 kq a1 a3 x22_14 l0_0 l0_1 l0_2 a2_0 a2_1 a2_2 a2_3 a2_4 = some r) ∧ Aside0 (kq ≤ kj4) ∧ Aside0 (wc.heap[gb427]? = some (.cells #[(.slice A0_0 l0_0.length c0_0), (.slice A0_1 l0_1.length c0_1), (.slice A0_2 l0_2.length c0_2)] 29 (0, 0))) ∧ Aside0 (wc.heap[gb428]? = some (.cells #[.int .i64 a2_0, .int .i64 a2_1, .int .i64 a2_2, .int .i64 a2_3, .int .i64 a2_4] 54 (0, 0))) ∧ Aside0 (Below w.heap.size w wc)))
        case first =>
          (have H := HC15.out); clear HC15; (by_cases c16 : a2_1 < 0)
          · rw [if_pos c16] at H
            (have c16b0 := decide_eq_true c16); clear c16; ((first | rw [c16b0] | (simp only [i64_w, i32_w]; rw [c16b0]) | skip)); (have H' := Aside0.mk H); clear H; (try go_wp2); (replace BK427 := Aside0.mk (blk_drew BK427.out)); (replace BK428 := Aside0.mk (blk_drew BK428.out)); (replace HB := Aside0.mk (below_drew1 HB.out)); (refine start_ (n := 18) (S := fun w' => w'.cell? ⟨gb428, 0, none⟩ = some (.int .i64 a2_0) ∧ w'.cell? ⟨gb428, 1, none⟩ = some (.int .i64 a2_1) ∧ w'.cell? ⟨gb428, 2, none⟩ = some (.int .i64 a2_2) ∧ w'.cell? ⟨gb428, 3, none⟩ = some (.int .i64 a2_3) ∧ w'.cell? ⟨gb428, 4, none⟩ = some (.int .i64 a2_4)) (ds := []) _ (by kernel_rfl) rfl rfl ⟨(blk_cell BK428.out 0).trans rfl, (blk_cell BK428.out 1).trans rfl, (blk_cell BK428.out 2).trans rfl, (blk_cell BK428.out 3).trans rfl, (blk_cell BK428.out 4).trans rfl⟩ (fun hHeld => ?_); refine with_tabW piece_checkStop.tab3 piece_checkStop.bits3 (fun HT_ HW_ => ?_)); (generalize wc.drew = w17 at BK427 BK428 HB hHeld ⊢); (refine pS_ 0 (some 23) HT_ ?_); (refine tS_ 1 (some 24) HT_ HW_ hHeld ?_); (refine pS_ 2 (some 25) HT_ ?_); (refine pS_ 3 (some 26) HT_ ?_); (refine uS_ 4 (some 27) HT_ ?_); (refine uS_ 5 (some 28) HT_ ?_); (refine uS_ 6 (some 29) HT_ ?_); (refine uS_ 7 (some 30) HT_ ?_); (refine uS_ 8 (some 31) HT_ ?_); (refine uS_ 9 (some 32) HT_ ?_); (refine uS_ 10 (some 33) HT_ ?_); (refine uS_ 11 (some 34) HT_ ?_); (refine uS_ 12 (some 35) HT_ ?_); (refine uS_ 13 (some 36) HT_ ?_); (refine uS_ 14 (some 37) HT_ ?_); (refine uS_ 15 (some 38) HT_ ?_); (refine pS_ 16 (some 39) HT_ ?_); (refine pS_ 17 (some 22) HT_ ?_); (refine done_ (done_of HT_.out (by kernel_rfl)) ?_); (try go_wp2); (go_meet)
            case rel => exact ⟨_, (true), (rs_), H', ⟨by have := HJ4.out; first | omega | exact Nat.le_refl _⟩, ⟨bk_ BK427⟩, ⟨bk_ BK428⟩, ⟨bl_ HB⟩⟩
          · rw [if_neg c16] at H
            (have c16b0 := decide_eq_false c16); clear c16; ((first | rw [c16b0] | (simp only [i64_w, i32_w]; rw [c16b0]) | skip)); (obtain ⟨ji18, hji18⟩ : ∃ j_ : Int, (wrap64 (a2_0 - 1)) = j_ := ⟨_, rfl⟩); (replace H : (if 0 ≤ (ji18) then (if (ji18) < (l0_0.length : Int) then (piece_checkStop.j1 kj4 a1 a3 (decide (a2_1 > ((rd_T99 l0_0 (ji18)).f1))) l0_0 l0_1 l0_2 a2_0 a2_1 a2_2 a2_3 a2_4) else (none)) else (none)) = some r := by first | (rw [hji18] at H; exact H) | (simp only [hji18] at H ⊢; exact H)); (have hji18w : (IntKind.i64.wrap (a2_0 - 1)) = ji18 := (i64_w _).trans hji18); (by_cases c19 : 0 ≤ (ji18))
            · rw [if_pos c19] at H
              (have c19b0 := decide_eq_true c19); clear c19; (by_cases c20 : (ji18) < (l0_0.length : Int))
              · rw [if_pos c20] at H
                (have c20b0 := decide_eq_true c20); clear c20; (have H' := Aside0.mk H); clear H; (try go_wp2); (replace BK427 := Aside0.mk (blk_drew BK427.out)); (replace BK428 := Aside0.mk (blk_drew BK428.out)); (replace HB := Aside0.mk (below_drew1 HB.out)); (have p429 : 0 ≤ ((ji18) : Int) := of_decide_eq_true (by first | (with_reducible assumption) | assumption)); (have q429 : (ji18) < (l0_0.length : Int) := of_decide_eq_true (by first | (with_reducible assumption) | assumption)); (obtain ⟨ad429, e429, hx429_0, hx429_1, hx429_2⟩ := at_T99 HR0_0.out (ji18) p429 q429); (have hw429_2 := hx429_2); (have hw429_1 := hx429_1); (have hw429_0 := hx429_0)
                cases e429
                (replace hx429_0 := pw_cell_below HB.out hx429_0); (replace hx429_1 := pw_cell_below HB.out hx429_1); (replace hx429_2 := pw_cell_below HB.out hx429_2); (replace p429 := eq_true p429); (replace q429 := eq_true q429); (refine start_ (n := 18) (S := fun w' => w'.cell? ⟨gb428, 0, none⟩ = some (.int .i64 a2_0) ∧ w'.cell? ⟨gb428, 1, none⟩ = some (.int .i64 a2_1) ∧ w'.cell? ⟨gb428, 2, none⟩ = some (.int .i64 a2_2) ∧ w'.cell? ⟨gb428, 3, none⟩ = some (.int .i64 a2_3) ∧ w'.cell? ⟨gb428, 4, none⟩ = some (.int .i64 a2_4) ∧ w'.cell? ⟨gb427, 0, none⟩ = some (.slice (some ad429) l0_0.length c0_0) ∧ w'.cell? ⟨gb427, 1, none⟩ = some (.slice A0_1 l0_1.length c0_1) ∧ w'.cell? ⟨gb427, 2, none⟩ = some (.slice A0_2 l0_2.length c0_2) ∧ w'.cell? (ad429.add (((ji18)).toNat * 3)) = some (.int .i64 ((rd_T99 l0_0 (ji18)).f0)) ∧ w'.cell? ⟨(ad429.add (((ji18)).toNat * 3)).block, (ad429.add (((ji18)).toNat * 3)).off + 1, none⟩ = some (.int .i64 ((rd_T99 l0_0 (ji18)).f1)) ∧ w'.cell? ⟨(ad429.add (((ji18)).toNat * 3)).block, (ad429.add (((ji18)).toNat * 3)).off + 2, none⟩ = some (.bool ((rd_T99 l0_0 (ji18)).f2))) (ds := []) _ (by kernel_rfl) rfl rfl ⟨(blk_cell BK428.out 0).trans rfl, (blk_cell BK428.out 1).trans rfl, (blk_cell BK428.out 2).trans rfl, (blk_cell BK428.out 3).trans rfl, (blk_cell BK428.out 4).trans rfl, (blk_cell BK427.out 0).trans rfl, (blk_cell BK427.out 1).trans rfl, (blk_cell BK427.out 2).trans rfl, (pw_cell_below HB.out hw429_0), (pw_cell_below HB.out hw429_1), (pw_cell_below HB.out hw429_2)⟩ (fun hHeld => ?_); refine with_tabW piece_checkStop.tab3 piece_checkStop.bits3 (fun HT_ HW_ => ?_)); (generalize wc.drew = w21 at BK427 BK428 HB hx429_0 hx429_1 hx429_2 hHeld ⊢); (refine pS_ 0 (some 23) HT_ ?_); (refine tS_ 1 (some 24) HT_ HW_ hHeld ?_); (refine pS_ 2 (some 25) HT_ ?_); (refine pS_ 3 (some 26) HT_ ?_); (refine pS_ 4 (some 27) HT_ ?_); (refine pS_ 6 (some 29) HT_ ?_); (refine pS_ 7 (some 30) HT_ ?_); (refine pS_ 9 (some 32) HT_ ?_); (refine tS_ 5 (some 28) HT_ HW_ hHeld ?_); (refine tS_ 8 (some 31) HT_ HW_ hHeld ?_); (refine tS_ 10 (some 33) HT_ HW_ hHeld ?_); (refine pS_ 11 (some 34) HT_ ?_); (refine pS_ 12 (some 35) HT_ ?_); (refine pS_ 13 (some 36) HT_ ?_); (refine tS_ 14 (some 37) HT_ HW_ hHeld ?_); (refine pS_ 15 (some 38) HT_ ?_); (refine pS_ 16 (some 39) HT_ ?_); (refine pS_ 17 (some 22) HT_ ?_); (refine done_ (done_of HT_.out (by kernel_rfl)) ?_); (try go_wp2); (go_meet)
                case rel => exact ⟨_, (decide (a2_1 > ((rd_T99 l0_0 (ji18)).f1))), (by first | rfl | (simp; done) | (simp only [← hji18] <;> (first | rfl | simp)) | (simp [*]; done)), H', ⟨by have := HJ4.out; first | omega | exact Nat.le_refl _⟩, ⟨bk_ BK427⟩, ⟨bk_ BK428⟩, ⟨bl_ HB⟩⟩
              · rw [if_neg c20] at H
                exact absurd H (by simp)
            · rw [if_neg c19] at H
              exact absurd H (by simp)
        case rest =>
          clear HC15; (try clear c14); (obtain ⟨kq, x22_14, rfl, HA, HJ14, BK427, BK428, HB⟩ := hcut)
          cases kq with
          | zero => exact absurd HA.out (by simp [piece_checkStop.j1])
          | succ kj14 =>
            (have H := HA.out); clear HA; (simp only [piece_checkStop.j1] at H); (by_cases c22 : x22_14 = true)
            · subst c22
              (rw [if_pos rfl] at H); (obtain rfl := Option.some.inj H); (go_wp2); (go_ret); (exact ⟨rv_, bl_ HB⟩)
            · replace c22 := Bool.eq_false_iff.mpr c22
              subst c22; (rw [if_neg Bool.false_ne_true] at H); (have HC23 := Aside0.mk H); clear H; (have hnb24 := NB428_427.out); (have hnc24 := NB427_428.out); (have hcz25 := blk_cell BK428.out); (have hfz25 := blk_frozen BK428.out); (go_upto_if 40 with (fail)); (have H := HC23.out); clear HC23; (by_cases c26 : a2_0 ≤ a3)
              · rw [if_pos c26] at H
                (have c26b0 := decide_eq_true c26); clear c26; ((first | rw [c26b0] | (simp only [i64_w, i32_w]; rw [c26b0]) | skip)); (obtain rfl := Option.some.inj H); (go_wp2); (go_ret); (exact ⟨rv_, bl_ HB⟩)
              · rw [if_neg c26] at H
                (have c26b0 := decide_eq_false c26); clear c26; ((first | rw [c26b0] | (simp only [i64_w, i32_w]; rw [c26b0]) | skip)); (have HC27 := Aside0.mk H); clear H; (go_upto_region 7 with (fail)); (go_cut [45] (fun v45 wc => ∃ (kq : Nat) (x45_26 : Bool), v45 = .bool x45_26 ∧ Aside0 (piece_checkStop.j2 kq a1 x45_26 l0_0 l0_1 l0_2 a2_0 a2_1 a2_2 a2_3 a2_4 = some r) ∧ Aside0 (kq ≤ kj14) ∧ Aside0 (wc.heap[gb427]? = some (.cells #[(.slice A0_0 l0_0.length c0_0), (.slice A0_1 l0_1.length c0_1), (.slice A0_2 l0_2.length c0_2)] 29 (0, 0))) ∧ Aside0 (wc.heap[gb428]? = some (.cells #[.int .i64 a2_0, .int .i64 a2_1, .int .i64 a2_2, .int .i64 a2_3, .int .i64 a2_4] 54 (0, 0))) ∧ Aside0 (Below w.heap.size w wc)))
                case first =>
                  (have H := HC27.out); clear HC27; (by_cases c28 : a2_2 < 0)
                  · rw [if_pos c28] at H
                    (have c28b0 := decide_eq_true c28); clear c28; ((first | rw [c28b0] | (simp only [i64_w, i32_w]; rw [c28b0]) | skip)); (have H' := Aside0.mk H); clear H; (have hnb29 := NB428_427.out); (have hnc29 := NB427_428.out); (have hcz30 := blk_cell BK428.out); (have hfz30 := blk_frozen BK428.out); (go_wp2); (go_meet)
                    case rel => exact ⟨_, (true), (rs_), H', ⟨by have := HJ4.out; have := HJ14.out; first | omega | exact Nat.le_refl _⟩, ⟨bk_ BK427⟩, ⟨bk_ BK428⟩, ⟨bl_ HB⟩⟩
                  · rw [if_neg c28] at H
                    (have c28b0 := decide_eq_false c28); clear c28; ((first | rw [c28b0] | (simp only [i64_w, i32_w]; rw [c28b0]) | skip)); (by_cases c31 : a2_2 > 3)
                    · rw [if_pos c31] at H
                      (have c31b0 : decide (3 < a2_2) = true := decide_eq_true c31); clear c31; (have H' := Aside0.mk H); clear H; (have hnb32 := NB428_427.out); (have hnc32 := NB427_428.out); (have hcz33 := blk_cell BK428.out); (have hfz33 := blk_frozen BK428.out); (go_wp2); (go_meet)
                      case rel => exact ⟨_, (true), (rs_), H', ⟨by have := HJ4.out; have := HJ14.out; first | omega | exact Nat.le_refl _⟩, ⟨bk_ BK427⟩, ⟨bk_ BK428⟩, ⟨bl_ HB⟩⟩
                    · rw [if_neg c31] at H
                      (have c31b0 : decide (3 < a2_2) = false := decide_eq_false c31); clear c31; (by_cases c34 : a2_3 < 0)
                      · rw [if_pos c34] at H
                        (have c34b0 := decide_eq_true c34); clear c34; (have H' := Aside0.mk H); clear H; (have hnb35 := NB428_427.out); (have hnc35 := NB427_428.out); (have hcz36 := blk_cell BK428.out); (have hfz36 := blk_frozen BK428.out); (go_wp2); (go_meet)
                        case rel => exact ⟨_, (true), (rs_), H', ⟨by have := HJ4.out; have := HJ14.out; first | omega | exact Nat.le_refl _⟩, ⟨bk_ BK427⟩, ⟨bk_ BK428⟩, ⟨bl_ HB⟩⟩
                      · rw [if_neg c34] at H
                        (have c34b0 := decide_eq_false c34); clear c34; (have H' := Aside0.mk H); clear H; (have hnb37 := NB428_427.out); (have hnc37 := NB427_428.out); (have hcz38 := blk_cell BK428.out); (have hfz38 := blk_frozen BK428.out); (go_wp2); (go_meet)
                        case rel => exact ⟨_, (decide (a2_3 > 4)), (rs_), H', ⟨by have := HJ4.out; have := HJ14.out; first | omega | exact Nat.le_refl _⟩, ⟨bk_ BK427⟩, ⟨bk_ BK428⟩, ⟨bl_ HB⟩⟩
                case rest =>
                  clear HC27; (try clear c22 c26b0 hcz25 hfz25); (obtain ⟨kq, x45_26, rfl, HA, HJ26, BK427, BK428, HB⟩ := hcut)
                  cases kq with
                  | zero => exact absurd HA.out (by simp [piece_checkStop.j2])
                  | succ kj26 =>
                    (have H := HA.out); clear HA; (simp only [piece_checkStop.j2] at H); (by_cases c39 : x45_26 = true)
                    · subst c39
                      (rw [if_pos rfl] at H); (obtain rfl := Option.some.inj H); (go_wp2); (go_ret); (exact ⟨rv_, bl_ HB⟩)
                    · replace c39 := Bool.eq_false_iff.mpr c39
                      subst c39; (rw [if_neg Bool.false_ne_true] at H); (by_cases c40 : a2_4 < 0)
                      · rw [if_pos c40] at H
                        (have c40b0 := decide_eq_true c40); clear c40; (obtain rfl := Option.some.inj H); (try go_wp2); (replace BK427 := Aside0.mk (blk_drew BK427.out)); (replace BK428 := Aside0.mk (blk_drew BK428.out)); (replace HB := Aside0.mk (below_drew1 HB.out)); (refine start_ (n := 24) (S := fun w' => w'.cell? ⟨gb428, 0, none⟩ = some (.int .i64 a2_0) ∧ w'.cell? ⟨gb428, 1, none⟩ = some (.int .i64 a2_1) ∧ w'.cell? ⟨gb428, 2, none⟩ = some (.int .i64 a2_2) ∧ w'.cell? ⟨gb428, 3, none⟩ = some (.int .i64 a2_3) ∧ w'.cell? ⟨gb428, 4, none⟩ = some (.int .i64 a2_4)) (ds := []) _ (by kernel_rfl) rfl rfl ⟨(blk_cell BK428.out 0).trans rfl, (blk_cell BK428.out 1).trans rfl, (blk_cell BK428.out 2).trans rfl, (blk_cell BK428.out 3).trans rfl, (blk_cell BK428.out 4).trans rfl⟩ (fun hHeld => ?_); refine with_tabW piece_checkStop.tab9 piece_checkStop.bits9 (fun HT_ HW_ => ?_)); (generalize wc.drew = w41 at BK427 BK428 HB hHeld ⊢); (refine pS_ 0 (some 65) HT_ ?_); (refine tS_ 1 (some 66) HT_ HW_ hHeld ?_); (refine pS_ 2 (some 67) HT_ ?_); (refine pS_ 3 (some 68) HT_ ?_); (refine uS_ 4 (some 69) HT_ ?_); (refine uS_ 5 (some 70) HT_ ?_); (refine uS_ 6 (some 71) HT_ ?_); (refine uS_ 7 (some 72) HT_ ?_); (refine uS_ 8 (some 73) HT_ ?_); (refine uS_ 9 (some 74) HT_ ?_); (refine uS_ 10 (some 75) HT_ ?_); (refine uS_ 11 (some 76) HT_ ?_); (refine pS_ 12 (some 77) HT_ ?_); (refine pS_ 13 (some 78) HT_ ?_); (refine uS_ 14 (some 79) HT_ ?_); (refine uS_ 15 (some 80) HT_ ?_); (refine uS_ 16 (some 81) HT_ ?_); (refine uS_ 17 (some 82) HT_ ?_); (refine uS_ 18 (some 83) HT_ ?_); (refine uS_ 19 (some 84) HT_ ?_); (refine uS_ 20 (some 85) HT_ ?_); (refine uS_ 21 (some 86) HT_ ?_); (refine pS_ 22 (some 87) HT_ ?_); (refine pS_ 23 (some 64) HT_ ?_); (refine done_ (done_of HT_.out (by kernel_rfl)) ?_); (try go_wp2); (go_ret); (exact ⟨rv_, bl_ HB⟩)
                      · rw [if_neg c40] at H
                        (have c40b0 := decide_eq_false c40); clear c40; (replace H := Option.bind_eq_some_iff.mp H); (obtain ⟨t430, A420, H⟩ := H); (try dsimp only at H); (have A42 := Aside0.mk A420); clear A420; (by_cases c43 : a2_4 > t430)
                        · rw [if_pos c43] at H
                          (have c43b0 : decide (t430 < a2_4) = true := decide_eq_true c43); clear c43; (obtain rfl := Option.some.inj H); (try go_wp2); (replace BK427 := Aside0.mk (blk_drew BK427.out)); (replace BK428 := Aside0.mk (blk_drew BK428.out)); (replace HB := Aside0.mk (below_drew1 HB.out)); (refine start_ (n := 24) (S := fun w' => w'.cell? ⟨gb428, 0, none⟩ = some (.int .i64 a2_0) ∧ w'.cell? ⟨gb428, 1, none⟩ = some (.int .i64 a2_1) ∧ w'.cell? ⟨gb428, 2, none⟩ = some (.int .i64 a2_2) ∧ w'.cell? ⟨gb428, 3, none⟩ = some (.int .i64 a2_3) ∧ w'.cell? ⟨gb428, 4, none⟩ = some (.int .i64 a2_4) ∧ w'.cell? ⟨gb427, 0, none⟩ = some (.slice A0_0 l0_0.length c0_0) ∧ w'.cell? ⟨gb427, 1, none⟩ = some (.slice A0_1 l0_1.length c0_1) ∧ w'.cell? ⟨gb427, 2, none⟩ = some (.slice A0_2 l0_2.length c0_2)) (ds := []) _ (by kernel_rfl) rfl rfl ⟨(blk_cell BK428.out 0).trans rfl, (blk_cell BK428.out 1).trans rfl, (blk_cell BK428.out 2).trans rfl, (blk_cell BK428.out 3).trans rfl, (blk_cell BK428.out 4).trans rfl, (blk_cell BK427.out 0).trans rfl, (blk_cell BK427.out 1).trans rfl, (blk_cell BK427.out 2).trans rfl⟩ (fun hHeld => ?_); refine with_tabW piece_checkStop.tab9 piece_checkStop.bits9 (fun HT_ HW_ => ?_)); (generalize wc.drew = w44 at BK427 BK428 HB hHeld ⊢); (refine pS_ 0 (some 65) HT_ ?_); (refine tS_ 1 (some 66) HT_ HW_ hHeld ?_); (refine pS_ 2 (some 67) HT_ ?_); (refine pS_ 3 (some 68) HT_ ?_); (refine pS_ 4 (some 69) HT_ ?_); (refine pS_ 7 (some 72) HT_ ?_); (refine pS_ 8 (some 73) HT_ ?_); (refine tS_ 5 (some 70) HT_ HW_ hHeld ?_); (refine tS_ 6 (some 71) HT_ HW_ hHeld ?_); (refine tS_ 9 (some 74) HT_ HW_ hHeld ?_); (refine oS_ 10 (some 75) HT_ (fun K hK => ?_)); (refine goes_ Tryz.func39 (by kernel_rfl) rfl #[.agg #[.slice A0_0 l0_0.length c0_0, .slice A0_1 l0_1.length c0_1, .slice A0_2 l0_2.length c0_2], .int .i64 a1, .int .i64 a2_0] (by rfl) rfl rfl (by (try simp only [mA_, mB_, mC_]); first | done | rfl | (simp only [List.length_drop, List.length_take]; rfl)) ?_); (with_reducible refine (piece_Longest.calls kj26 _ _ l0_0 _ _ l0_1 _ _ l0_2 a1 a2_0 t430 _ ?side1 ?side2 ?side3 ?side4 ?side5 ?side6 A42.out).mono ?_); ((case side1 => exact kc_ HR0_0 HB)); ((case side2 => exact HC0_0.out)); ((case side3 => exact kc_ HR0_1 HB)); ((case side4 => exact HC0_1.out)); ((case side5 => exact kc_ HR0_2 HB)); ((case side6 => exact HC0_2.out)); (rintro e w45 ⟨rfl, hb⟩); (refine ⟨_, rfl, ?_⟩); (replace BK427 := bb_ BK427 hb); (replace BK428 := bb_ BK428 hb); (replace HB := bs_ HB hb); ((try clear hb)); ((try clear hb2)); ((try clear hk)); ((try clear hi)); (refine hK.out _ _ ⟨(blk_cell BK428.out 0).trans rfl, (blk_cell BK428.out 1).trans rfl, (blk_cell BK428.out 2).trans rfl, (blk_cell BK428.out 3).trans rfl, (blk_cell BK428.out 4).trans rfl, (blk_cell BK427.out 0).trans rfl, (blk_cell BK427.out 1).trans rfl, (blk_cell BK427.out 2).trans rfl⟩ (fun hHeld => ?_)); clear hK K; (refine nS_ (some 75) ?_); (refine pS_ 11 (some 76) HT_ ?_); (refine pS_ 12 (some 77) HT_ ?_); (refine pS_ 13 (some 78) HT_ ?_); (refine uS_ 14 (some 79) HT_ ?_); (refine uS_ 15 (some 80) HT_ ?_); (refine uS_ 16 (some 81) HT_ ?_); (refine uS_ 17 (some 82) HT_ ?_); (refine uS_ 18 (some 83) HT_ ?_); (refine uS_ 19 (some 84) HT_ ?_); (refine uS_ 20 (some 85) HT_ ?_); (refine uS_ 21 (some 86) HT_ ?_); (refine pS_ 22 (some 87) HT_ ?_); (refine pS_ 23 (some 64) HT_ ?_); (refine done_ (done_of HT_.out (by kernel_rfl)) ?_); (try go_wp2); (go_ret); (exact ⟨rv_, bl_ HB⟩)
                        · rw [if_neg c43] at H
                          (have c43b0 : decide (t430 < a2_4) = false := decide_eq_false c43); clear c43; (by_cases c46 : a2_4 > 0)
                          · rw [if_pos c46] at H
                            (have c46b0 : decide (0 < a2_4) = true := decide_eq_true c46); clear c46; (have HC47 := Aside0.mk H); clear H; (try go_wp2); (replace BK427 := Aside0.mk (blk_drew BK427.out)); (replace BK428 := Aside0.mk (blk_drew BK428.out)); (replace HB := Aside0.mk (below_drew1 HB.out)); (refine start_ (n := 24) (S := fun w' => w'.cell? ⟨gb428, 0, none⟩ = some (.int .i64 a2_0) ∧ w'.cell? ⟨gb428, 1, none⟩ = some (.int .i64 a2_1) ∧ w'.cell? ⟨gb428, 2, none⟩ = some (.int .i64 a2_2) ∧ w'.cell? ⟨gb428, 3, none⟩ = some (.int .i64 a2_3) ∧ w'.cell? ⟨gb428, 4, none⟩ = some (.int .i64 a2_4) ∧ w'.cell? ⟨gb427, 0, none⟩ = some (.slice A0_0 l0_0.length c0_0) ∧ w'.cell? ⟨gb427, 1, none⟩ = some (.slice A0_1 l0_1.length c0_1) ∧ w'.cell? ⟨gb427, 2, none⟩ = some (.slice A0_2 l0_2.length c0_2)) (ds := []) _ (by kernel_rfl) rfl rfl ⟨(blk_cell BK428.out 0).trans rfl, (blk_cell BK428.out 1).trans rfl, (blk_cell BK428.out 2).trans rfl, (blk_cell BK428.out 3).trans rfl, (blk_cell BK428.out 4).trans rfl, (blk_cell BK427.out 0).trans rfl, (blk_cell BK427.out 1).trans rfl, (blk_cell BK427.out 2).trans rfl⟩ (fun hHeld => ?_); refine with_tabW piece_checkStop.tab9 piece_checkStop.bits9 (fun HT_ HW_ => ?_)); (generalize wc.drew = w48 at BK427 BK428 HB hHeld ⊢); (refine pS_ 0 (some 65) HT_ ?_); (refine tS_ 1 (some 66) HT_ HW_ hHeld ?_); (refine pS_ 2 (some 67) HT_ ?_); (refine pS_ 3 (some 68) HT_ ?_); (refine pS_ 4 (some 69) HT_ ?_); (refine pS_ 7 (some 72) HT_ ?_); (refine pS_ 8 (some 73) HT_ ?_); (refine tS_ 5 (some 70) HT_ HW_ hHeld ?_); (refine tS_ 6 (some 71) HT_ HW_ hHeld ?_); (refine tS_ 9 (some 74) HT_ HW_ hHeld ?_); (refine oS_ 10 (some 75) HT_ (fun K hK => ?_)); (refine goes_ Tryz.func39 (by kernel_rfl) rfl #[.agg #[.slice A0_0 l0_0.length c0_0, .slice A0_1 l0_1.length c0_1, .slice A0_2 l0_2.length c0_2], .int .i64 a1, .int .i64 a2_0] (by rfl) rfl rfl (by (try simp only [mA_, mB_, mC_]); first | done | rfl | (simp only [List.length_drop, List.length_take]; rfl)) ?_); (with_reducible refine (piece_Longest.calls kj26 _ _ l0_0 _ _ l0_1 _ _ l0_2 a1 a2_0 t430 _ ?side1 ?side2 ?side3 ?side4 ?side5 ?side6 A42.out).mono ?_); ((case side1 => exact kc_ HR0_0 HB)); ((case side2 => exact HC0_0.out)); ((case side3 => exact kc_ HR0_1 HB)); ((case side4 => exact HC0_1.out)); ((case side5 => exact kc_ HR0_2 HB)); ((case side6 => exact HC0_2.out)); (rintro e w49 ⟨rfl, hb⟩); (refine ⟨_, rfl, ?_⟩); (replace BK427 := bb_ BK427 hb); (replace BK428 := bb_ BK428 hb); (replace HB := bs_ HB hb); ((try clear hb)); ((try clear hb2)); ((try clear hk)); ((try clear hi)); (refine hK.out _ _ ⟨(blk_cell BK428.out 0).trans rfl, (blk_cell BK428.out 1).trans rfl, (blk_cell BK428.out 2).trans rfl, (blk_cell BK428.out 3).trans rfl, (blk_cell BK428.out 4).trans rfl, (blk_cell BK427.out 0).trans rfl, (blk_cell BK427.out 1).trans rfl, (blk_cell BK427.out 2).trans rfl⟩ (fun hHeld => ?_)); clear hK K; (refine nS_ (some 75) ?_); (refine pS_ 11 (some 76) HT_ ?_); (refine pS_ 12 (some 77) HT_ ?_); (refine pS_ 13 (some 78) HT_ ?_); (refine pS_ 14 (some 79) HT_ ?_); (refine tS_ 15 (some 80) HT_ HW_ hHeld ?_); (refine pS_ 16 (some 81) HT_ ?_); (refine pS_ 17 (some 82) HT_ ?_); (refine pS_ 18 (some 83) HT_ ?_); (refine tS_ 19 (some 84) HT_ HW_ hHeld ?_); (refine pS_ 20 (some 85) HT_ ?_); (refine pS_ 21 (some 86) HT_ ?_); (refine pS_ 22 (some 87) HT_ ?_); (refine pS_ 23 (some 64) HT_ ?_); (refine done_ (done_of HT_.out (by kernel_rfl)) ?_); (go_upto_if 64 with (fail)); (have H := HC47.out); clear HC47; (by_cases c50 : a2_1 = 0)
                            · rw [if_pos c50] at H
                              (obtain ⟨c50b0, c50b1⟩ := eqT_ c50); clear c50; ((first | rw [c50b0] | rw [c50b1] | (simp only [i64_w, i32_w]; rw [c50b0]) | skip)); (obtain rfl := Option.some.inj H); (go_wp2); (go_ret); (exact ⟨rv_, bl_ HB⟩)
                            · rw [if_neg c50] at H
                              (obtain ⟨c50b0, c50b1⟩ := eqF_ c50); ((first | rw [c50b0] | rw [c50b1] | (simp only [i64_w, i32_w]; rw [c50b0]) | skip)); (obtain rfl := Option.some.inj H); (go_wp2); (go_ret); (exact ⟨rv_, bl_ HB⟩)
                          · rw [if_neg c46] at H
                            (have c46b0 : decide (0 < a2_4) = false := decide_eq_false c46); clear c46; (obtain rfl := Option.some.inj H); (try go_wp2); (replace BK427 := Aside0.mk (blk_drew BK427.out)); (replace BK428 := Aside0.mk (blk_drew BK428.out)); (replace HB := Aside0.mk (below_drew1 HB.out)); (refine start_ (n := 24) (S := fun w' => w'.cell? ⟨gb428, 0, none⟩ = some (.int .i64 a2_0) ∧ w'.cell? ⟨gb428, 1, none⟩ = some (.int .i64 a2_1) ∧ w'.cell? ⟨gb428, 2, none⟩ = some (.int .i64 a2_2) ∧ w'.cell? ⟨gb428, 3, none⟩ = some (.int .i64 a2_3) ∧ w'.cell? ⟨gb428, 4, none⟩ = some (.int .i64 a2_4) ∧ w'.cell? ⟨gb427, 0, none⟩ = some (.slice A0_0 l0_0.length c0_0) ∧ w'.cell? ⟨gb427, 1, none⟩ = some (.slice A0_1 l0_1.length c0_1) ∧ w'.cell? ⟨gb427, 2, none⟩ = some (.slice A0_2 l0_2.length c0_2)) (ds := []) _ (by kernel_rfl) rfl rfl ⟨(blk_cell BK428.out 0).trans rfl, (blk_cell BK428.out 1).trans rfl, (blk_cell BK428.out 2).trans rfl, (blk_cell BK428.out 3).trans rfl, (blk_cell BK428.out 4).trans rfl, (blk_cell BK427.out 0).trans rfl, (blk_cell BK427.out 1).trans rfl, (blk_cell BK427.out 2).trans rfl⟩ (fun hHeld => ?_); refine with_tabW piece_checkStop.tab9 piece_checkStop.bits9 (fun HT_ HW_ => ?_)); (generalize wc.drew = w51 at BK427 BK428 HB hHeld ⊢); (refine pS_ 0 (some 65) HT_ ?_); (refine tS_ 1 (some 66) HT_ HW_ hHeld ?_); (refine pS_ 2 (some 67) HT_ ?_); (refine pS_ 3 (some 68) HT_ ?_); (refine pS_ 4 (some 69) HT_ ?_); (refine pS_ 7 (some 72) HT_ ?_); (refine pS_ 8 (some 73) HT_ ?_); (refine tS_ 5 (some 70) HT_ HW_ hHeld ?_); (refine tS_ 6 (some 71) HT_ HW_ hHeld ?_); (refine tS_ 9 (some 74) HT_ HW_ hHeld ?_); (refine oS_ 10 (some 75) HT_ (fun K hK => ?_)); (refine goes_ Tryz.func39 (by kernel_rfl) rfl #[.agg #[.slice A0_0 l0_0.length c0_0, .slice A0_1 l0_1.length c0_1, .slice A0_2 l0_2.length c0_2], .int .i64 a1, .int .i64 a2_0] (by rfl) rfl rfl (by (try simp only [mA_, mB_, mC_]); first | done | rfl | (simp only [List.length_drop, List.length_take]; rfl)) ?_); (with_reducible refine (piece_Longest.calls kj26 _ _ l0_0 _ _ l0_1 _ _ l0_2 a1 a2_0 t430 _ ?side1 ?side2 ?side3 ?side4 ?side5 ?side6 A42.out).mono ?_); ((case side1 => exact kc_ HR0_0 HB)); ((case side2 => exact HC0_0.out)); ((case side3 => exact kc_ HR0_1 HB)); ((case side4 => exact HC0_1.out)); ((case side5 => exact kc_ HR0_2 HB)); ((case side6 => exact HC0_2.out)); (rintro e w52 ⟨rfl, hb⟩); (refine ⟨_, rfl, ?_⟩); (replace BK427 := bb_ BK427 hb); (replace BK428 := bb_ BK428 hb); (replace HB := bs_ HB hb); ((try clear hb)); ((try clear hb2)); ((try clear hk)); ((try clear hi)); (refine hK.out _ _ ⟨(blk_cell BK428.out 0).trans rfl, (blk_cell BK428.out 1).trans rfl, (blk_cell BK428.out 2).trans rfl, (blk_cell BK428.out 3).trans rfl, (blk_cell BK428.out 4).trans rfl, (blk_cell BK427.out 0).trans rfl, (blk_cell BK427.out 1).trans rfl, (blk_cell BK427.out 2).trans rfl⟩ (fun hHeld => ?_)); clear hK K; (refine nS_ (some 75) ?_); (refine pS_ 11 (some 76) HT_ ?_); (refine pS_ 12 (some 77) HT_ ?_); (refine pS_ 13 (some 78) HT_ ?_); (refine pS_ 14 (some 79) HT_ ?_); (refine tS_ 15 (some 80) HT_ HW_ hHeld ?_); (refine pS_ 16 (some 81) HT_ ?_); (refine pS_ 17 (some 82) HT_ ?_); (refine uS_ 18 (some 83) HT_ ?_); (refine uS_ 19 (some 84) HT_ ?_); (refine uS_ 20 (some 85) HT_ ?_); (refine pS_ 21 (some 86) HT_ ?_); (refine pS_ 22 (some 87) HT_ ?_); (refine pS_ 23 (some 64) HT_ ?_); (refine done_ (done_of HT_.out (by kernel_rfl)) ?_); (try go_wp2); (go_ret); (exact ⟨rv_, bl_ HB⟩)

/-! ### piece_Check: function 22 -/
mutual
def piece_Check.l0 : Nat → List (S46) → Int → Int → List (S99) → List Int → List (S46) → Option (Int)
  | 0, _, _, _, _, _, _ => none
  | k + 1, x21, x22, x23, x440000, x440001, x440002 => if x23 < x22 then (if 0 ≤ x23 then (if x23 < (x21.length : Int) then ((piece_valid.f k ((rd_T46 x21 x23).f1.f0) ((rd_T46 x21 x23).f1.f1) ((rd_T46 x21 x23).f1.f2)).bind fun t443 => (if t443 = true then (if x23 = 0 then (piece_Check.j1 k x23 x21 x22 x23 (((rd_T46 x21 x23).f1.f0) == 0 && (!((rd_T46 x21 x23).f1.f1) && (!((rd_T46 x21 x23).f1.f2)))) x440000 x440001 x440002 ((rd_T46 x21 x23).f0) ((rd_T46 x21 x23).f1.f0) ((rd_T46 x21 x23).f1.f1) ((rd_T46 x21 x23).f1.f2) ((rd_T46 x21 x23).f2) ((rd_T46 x21 x23).f3)) else (piece_Check.j1 k x23 x21 x22 x23 false x440000 x440001 x440002 ((rd_T46 x21 x23).f0) ((rd_T46 x21 x23).f1.f0) ((rd_T46 x21 x23).f1.f1) ((rd_T46 x21 x23).f1.f2) ((rd_T46 x21 x23).f2) ((rd_T46 x21 x23).f3))) else (piece_Check.j1 k x23 x21 x22 x23 true x440000 x440001 x440002 ((rd_T46 x21 x23).f0) ((rd_T46 x21 x23).f1.f0) ((rd_T46 x21 x23).f1.f1) ((rd_T46 x21 x23).f1.f2) ((rd_T46 x21 x23).f2) ((rd_T46 x21 x23).f3)))) else (none)) else (none)) else (some 0)
def piece_Check.j1 : Nat → Int → List (S46) → Int → Int → Bool → List (S99) → List Int → List (S46) → Bool → Int → Bool → Bool → Bool → List (S54) → Option (Int)
  | 0, _, _, _, _, _, _, _, _, _, _, _, _, _, _ => none
  | k + 1, x4, x21, x22, x23, x41, x440000, x440001, x440002, x443000, x443001, x443002, x443003, x443004, x443005 => if x41 = true then (some 20) else (if x443004 = true then (if x4 = 0 then (piece_Check.j2 k x4 x21 x22 x23 true x440000 x440001 x440002 x443000 x443001 x443002 x443003 x443004 x443005) else (piece_Check.j2 k x4 x21 x22 x23 (decide ((x443005.length : Int) > 0)) x440000 x440001 x440002 x443000 x443001 x443002 x443003 x443004 x443005)) else (piece_Check.j2 k x4 x21 x22 x23 false x440000 x440001 x440002 x443000 x443001 x443002 x443003 x443004 x443005))
def piece_Check.j2 : Nat → Int → List (S46) → Int → Int → Bool → List (S99) → List Int → List (S46) → Bool → Int → Bool → Bool → Bool → List (S54) → Option (Int)
  | 0, _, _, _, _, _, _, _, _, _, _, _, _, _, _ => none
  | k + 1, x4, x21, x22, x23, x53, x440000, x440001, x440002, x443000, x443001, x443002, x443003, x443004, x443005 => if x53 = true then (some 21) else (piece_Check.l1 k x4 0 x21 x22 x23 x443005 (x443005.length : Int) 0 x440000 x440001 x440002)
def piece_Check.l1 : Nat → Int → Int → List (S46) → Int → Int → List (S54) → Int → Int → List (S99) → List Int → List (S46) → Option (Int)
  | 0, _, _, _, _, _, _, _, _, _, _, _ => none
  | k + 1, x4, x6, x21, x22, x23, x55, x56, x57, x440000, x440001, x440002 => if x57 < x56 then (if 0 ≤ x57 then (if x57 < (x55.length : Int) then ((piece_checkStop.f k x440000 x440001 x440002 x4 ((rd_T54 x55 x57).f0) ((rd_T54 x55 x57).f1) ((rd_T54 x55 x57).f2) ((rd_T54 x55 x57).f3) ((rd_T54 x55 x57).f4) x6).bind fun t446 => (if t446 = 0 then (piece_Check.l1 k x4 ((rd_T54 x55 x57).f0) x21 x22 x23 x55 x56 (wrap64 (x57 + 1)) x440000 x440001 x440002) else (some t446))) else (none)) else (none)) else (piece_Check.l0 k x21 x22 (wrap64 (x23 + 1)) x440000 x440001 x440002)
end
def piece_Check.f (k : Nat) (l0_0 : List (S99)) (l0_1 : List Int) (l0_2 : List (S46)) : Option (Int) := (instrument_Check.f k l0_0 l0_1).bind fun t440 => (if t440 = 0 then (if (l0_2.length : Int) > 400 then (some 2) else (piece_Check.l0 k l0_2 (l0_2.length : Int) 0 l0_0 l0_1 l0_2)) else (some t440))
theorem piece_Check.mono_l : ∀ k, (∀ y0 y1 y2 y3 y4 y5, LeO (piece_Check.l0 k y0 y1 y2 y3 y4 y5) (piece_Check.l0 (k + 1) y0 y1 y2 y3 y4 y5)) ∧ (∀ y0 y1 y2 y3 y4 y5 y6 y7 y8 y9 y10 y11 y12 y13, LeO (piece_Check.j1 k y0 y1 y2 y3 y4 y5 y6 y7 y8 y9 y10 y11 y12 y13) (piece_Check.j1 (k + 1) y0 y1 y2 y3 y4 y5 y6 y7 y8 y9 y10 y11 y12 y13)) ∧ (∀ y0 y1 y2 y3 y4 y5 y6 y7 y8 y9 y10 y11 y12 y13, LeO (piece_Check.j2 k y0 y1 y2 y3 y4 y5 y6 y7 y8 y9 y10 y11 y12 y13) (piece_Check.j2 (k + 1) y0 y1 y2 y3 y4 y5 y6 y7 y8 y9 y10 y11 y12 y13)) ∧ (∀ y0 y1 y2 y3 y4 y5 y6 y7 y8 y9 y10, LeO (piece_Check.l1 k y0 y1 y2 y3 y4 y5 y6 y7 y8 y9 y10) (piece_Check.l1 (k + 1) y0 y1 y2 y3 y4 y5 y6 y7 y8 y9 y10))
  | 0 => ⟨fun _ _ _ _ _ _ r h => by simp [piece_Check.l0] at h, fun _ _ _ _ _ _ _ _ _ _ _ _ _ _ r h => by simp [piece_Check.j1] at h, fun _ _ _ _ _ _ _ _ _ _ _ _ _ _ r h => by simp [piece_Check.j2] at h, fun _ _ _ _ _ _ _ _ _ _ _ r h => by simp [piece_Check.l1] at h⟩
  | k + 1 => by
    ((obtain ⟨ih0, ih1, ih2, ih3⟩ := piece_Check.mono_l k); (refine ⟨?_, ?_, ?_, ?_⟩)); (focus intro y0 y1 y2 y3 y4 y5; (unfold piece_Check.l0); (repeat' first | (with_reducible first | apply ih0 | apply ih1 | apply ih2 | apply ih3 | apply instrument_Check.mono | apply piece_checkStop.mono | apply piece_valid.mono | exact LeO.refl _ | exact LeO.none _ | refine LeO.ite ?_ ?_ | refine LeO.bind ?_ fun _ => ?_) | exact LeO.none _ | refine LeO.ite ?_ ?_ | refine LeO.bind ?_ fun _ => ?_ | apply ih0 | apply ih1 | apply ih2 | apply ih3 | apply instrument_Check.mono | apply piece_checkStop.mono | apply piece_valid.mono)); (focus intro y0 y1 y2 y3 y4 y5 y6 y7 y8 y9 y10 y11 y12 y13; (unfold piece_Check.j1); (repeat' first | (with_reducible first | apply ih0 | apply ih1 | apply ih2 | apply ih3 | apply instrument_Check.mono | apply piece_checkStop.mono | apply piece_valid.mono | exact LeO.refl _ | exact LeO.none _ | refine LeO.ite ?_ ?_ | refine LeO.bind ?_ fun _ => ?_) | exact LeO.none _ | refine LeO.ite ?_ ?_ | refine LeO.bind ?_ fun _ => ?_ | apply ih0 | apply ih1 | apply ih2 | apply ih3 | apply instrument_Check.mono | apply piece_checkStop.mono | apply piece_valid.mono)); (focus intro y0 y1 y2 y3 y4 y5 y6 y7 y8 y9 y10 y11 y12 y13; (unfold piece_Check.j2); (repeat' first | (with_reducible first | apply ih0 | apply ih1 | apply ih2 | apply ih3 | apply instrument_Check.mono | apply piece_checkStop.mono | apply piece_valid.mono | exact LeO.refl _ | exact LeO.none _ | refine LeO.ite ?_ ?_ | refine LeO.bind ?_ fun _ => ?_) | exact LeO.none _ | refine LeO.ite ?_ ?_ | refine LeO.bind ?_ fun _ => ?_ | apply ih0 | apply ih1 | apply ih2 | apply ih3 | apply instrument_Check.mono | apply piece_checkStop.mono | apply piece_valid.mono)); (focus intro y0 y1 y2 y3 y4 y5 y6 y7 y8 y9 y10; (unfold piece_Check.l1); (repeat' first | (with_reducible first | apply ih0 | apply ih1 | apply ih2 | apply ih3 | apply instrument_Check.mono | apply piece_checkStop.mono | apply piece_valid.mono | exact LeO.refl _ | exact LeO.none _ | refine LeO.ite ?_ ?_ | refine LeO.bind ?_ fun _ => ?_) | exact LeO.none _ | refine LeO.ite ?_ ?_ | refine LeO.bind ?_ fun _ => ?_ | apply ih0 | apply ih1 | apply ih2 | apply ih3 | apply instrument_Check.mono | apply piece_checkStop.mono | apply piece_valid.mono))
theorem piece_Check.mono : ∀ a0 a1 a2 k, LeO (piece_Check.f k a0 a1 a2) (piece_Check.f (k + 1) a0 a1 a2) := by
  intro a0 a1 a2 k
  obtain ⟨ih0, ih1, ih2, ih3⟩ := piece_Check.mono_l k
  unfold piece_Check.f
  repeat' first | (with_reducible first | apply ih0 | apply ih1 | apply ih2 | apply ih3 | apply instrument_Check.mono | apply piece_checkStop.mono | apply piece_valid.mono | exact LeO.refl _ | exact LeO.none _ | refine LeO.ite ?_ ?_ | refine LeO.bind ?_ fun _ => ?_) | exact LeO.none _ | refine LeO.ite ?_ ?_ | refine LeO.bind ?_ fun _ => ?_ | apply ih0 | apply ih1 | apply ih2 | apply ih3 | apply instrument_Check.mono | apply piece_checkStop.mono | apply piece_valid.mono
set_option maxHeartbeats 8000000 in
set_option maxRecDepth 100000 in
theorem piece_Check.calls (k : Nat) (A0_0 : Option Addr) (c0_0 : Nat) (l0_0 : List (S99)) (A0_1 : Option Addr) (c0_1 : Nat) (l0_1 : List Int) (A0_2 : Option Addr) (c0_2 : Nat) (l0_2 : List (S46)) (r : Int) (w : World) (hr0_0 : Kd.C k99 w A0_0 l0_0.length l0_0) (hc0_0 : l0_0.length ≤ c0_0) (hr0_1 : Kd.C (Kd.int .i64) w A0_1 l0_1.length l0_1) (hc0_1 : l0_1.length ≤ c0_1) (hr0_2 : Kd.C k46 w A0_2 l0_2.length l0_2) (hc0_2 : l0_2.length ≤ c0_2) (h : piece_Check.f k l0_0 l0_1 l0_2 = some r) :
    Calls Tryz.prog 22 #[.agg #[.slice A0_0 l0_0.length c0_0, .slice A0_1 l0_1.length c0_1, .slice A0_2 l0_2.length c0_2]] w fun e w' => e = .returned (.int .i64 r) ∧ Below w.heap.size w w' := by
  have hu29 := Tryz.underlying29
  have hu26 := Tryz.underlying26
  have hu46 := Tryz.underlying46
  have hu43 := Tryz.underlying43
  have hu54 := Tryz.underlying54
  have HR0_0 := Aside0.mk hr0_0
  have HC0_0 := Aside0.mk hc0_0
  clear hr0_0 hc0_0
  have HR0_1 := Aside0.mk hr0_1
  have HC0_1 := Aside0.mk hc0_1
  clear hr0_1 hc0_1
  have HR0_2 := Aside0.mk hr0_2
  have HC0_2 := Aside0.mk hc0_2
  clear hr0_2 hc0_2
  have HB := Aside0.mk (Below.refl w.heap.size w)
  have H : ((instrument_Check.f k l0_0 l0_1).bind fun t440 => (if t440 = 0 then (if (l0_2.length : Int) > 400 then (some 2) else (piece_Check.l0 k l0_2 (l0_2.length : Int) 0 l0_0 l0_1 l0_2)) else (some t440))) = some r := h
  clear h
  replace H := Option.bind_eq_some_iff.mp H
  obtain ⟨t440, A20, H⟩ := H
  try dsimp only at H
  have A2 := Aside0.mk A20
  clear A20
  have HC3 := Aside0.mk H
  clear H
  go_enter Tryz.func22, Tryz.ntmps22
  go_upto_if 14 with (first | ((with_reducible refine gate_dst (N := 1) rfl ?_); (try (refine gate_guard (by rfl) ?_; dsimp only)); refine bx_ 1 #[.slice A0_0 l0_0.length c0_0, .slice A0_1 l0_1.length c0_1, .slice A0_2 l0_2.length c0_2] 29 HB ?_; clear HB; intro gb439 w4 hg hb BK439 HB GW439; have GE439 := GW439; clear hg hb; have hcz5 := blk_cell BK439.out; have hfz5 := blk_frozen BK439.out) | ((with_reducible refine gate_callee (f := 35) rfl ?_); refine cl_ 35 (some 12) Tryz.func35 (instrument_Check.calls k _ _ l0_0 _ _ l0_1 t440 _ (kc_ HR0_0 HB) HC0_0.out (kc_ HR0_1 HB) HC0_1.out A2.out) ?_; rintro e w6 ⟨rfl, hb⟩; refine ⟨_, rfl, ?_⟩; replace BK439 := bb_ BK439 hb; replace HB := bs_ HB hb; (try clear hb); (try clear hb2); (try clear hk); (try clear hi)))
  (try simp only [Act.put, List.setIfInBounds_toArray, List.set_cons_zero, List.set_cons_succ])
  have H := HC3.out
  clear HC3
  by_cases c7 : t440 = 0
  · rw [if_pos c7] at H
    (obtain ⟨c7b0, c7b1⟩ := eqT_ c7); clear c7; ((first | rw [c7b0] | rw [c7b1] | (simp only [i64_w, i32_w]; rw [c7b0]) | skip)); (have HC8 := Aside0.mk H); clear H; (have hcz9 := blk_cell BK439.out); (have hfz9 := blk_frozen BK439.out); (go_upto_if 19 with (fail)); (have H := HC8.out); clear HC8; (by_cases c10 : (l0_2.length : Int) > 400)
    · rw [if_pos c10] at H
      (have c10b0 : decide (400 < (l0_2.length : Int)) = true := decide_eq_true c10); (have c10b1 : decide (400 < l0_2.length) = true := decide_eq_true (by omega)); clear c10; ((first | rw [c10b0] | rw [c10b1] | (simp only [i64_w, i32_w]; rw [c10b0]) | skip)); (obtain rfl := Option.some.inj H); (go_wp2); (go_ret); (exact ⟨rv_, bl_ HB⟩)
    · rw [if_neg c10] at H
      (have c10b0 : decide (400 < (l0_2.length : Int)) = false := decide_eq_false c10); (have c10b1 : decide (400 < l0_2.length) = false := decide_eq_false (by omega)); clear c10; ((first | rw [c10b0] | rw [c10b1] | (simp only [i64_w, i32_w]; rw [c10b0]) | skip)); (have H' := Aside0.mk H); clear H; (have hcz11 := blk_cell BK439.out); (have hfz11 := blk_frozen BK439.out); (go_wp2); (go_loopg [23] k (fun kq v23 w' => ∃ (x23_1 : Int), v23 = .int .i64 x23_1 ∧ Aside0 (piece_Check.l0 kq l0_2 (l0_2.length : Int) x23_1 l0_0 l0_1 l0_2 = some r) ∧ Aside0 (kq ≤ k) ∧ Aside0 (w'.heap[gb439]? = some (.cells #[(.slice A0_0 l0_0.length c0_0), (.slice A0_1 l0_1.length c0_1), (.slice A0_2 l0_2.length c0_2)] 29 (0, 0))) ∧ Aside0 (Below w.heap.size w w')))
      case atStart => exact ⟨(0), (rs_), H', ⟨Nat.le_refl _⟩, ⟨bk_ BK439⟩, ⟨bl_ HB⟩⟩
      case round =>
        clear H'; (try clear c7b0 c7b1 c10b0 c10b1 hcz11 hcz5 hcz9 hfz11 hfz5 hfz9); (obtain ⟨x23_1, rfl, HA, HK1, BK439, HB⟩ := hrel)
        cases gk with
        | zero => exact absurd HA.out (by simp [piece_Check.l0])
        | succ k1 =>
          (have H := HA.out); clear HA; (simp only [piece_Check.l0] at H); (by_cases c12 : x23_1 < (l0_2.length : Int))
          · rw [if_pos c12] at H
            (have c12b0 := decide_eq_true c12); clear c12; (by_cases c13 : 0 ≤ x23_1)
            · rw [if_pos c13] at H
              (have c13b0 := decide_eq_true c13); clear c13; (by_cases c14 : x23_1 < (l0_2.length : Int))
              · rw [if_pos c14] at H
                (have c14b0 := decide_eq_true c14); clear c14; (have HC15 := Aside0.mk H); clear H; (have p441 : 0 ≤ (x23_1 : Int) := of_decide_eq_true (by first | (with_reducible assumption) | assumption)); (have q441 : x23_1 < (l0_2.length : Int) := of_decide_eq_true (by first | (with_reducible assumption) | assumption)); (obtain ⟨ad441, A441_5, c441_5, e441, hx441_0, hx441_1, hx441_2, hx441_3, hx441_4, hx441_5, hl441_5, hi441_5⟩ := at_T46 HR0_2.out x23_1 p441 q441)
                cases e441
                (replace hx441_0 := pw_cell_below HB.out hx441_0); (replace hx441_1 := pw_cell_below HB.out hx441_1); (replace hx441_2 := pw_cell_below HB.out hx441_2); (replace hx441_3 := pw_cell_below HB.out hx441_3); (replace hx441_4 := pw_cell_below HB.out hx441_4); (replace hx441_5 := pw_cell_below HB.out hx441_5); (have HR441_5 := Aside0.mk hi441_5); (have HC441_5 := Aside0.mk hl441_5); clear hi441_5 hl441_5; (replace p441 := eq_true p441); (replace q441 := eq_true q441); (go_upto_region 9 with (first | ((with_reducible refine gate_dst (N := 5) rfl ?_); (try (refine gate_guard (by rfl) ?_; dsimp only)); refine bx_ 5 #[.bool false, .int .i64 0, .bool false, .bool false, .bool false, .slice none 0 0] 46 HB ?_; clear HB; intro gb442 w16 hg hb BK442 HB GW442; have GE442 := GW442; have NB439_442 := nl_ BK439 hg; have NB442_439 := ng_ BK439 hg; replace BK439 := bb_ BK439 hb; clear hg hb; have hnb17 := NB442_439.out; have hnc17 := NB439_442.out; have hcz18 := blk_cell BK442.out; have hfz18 := blk_frozen BK442.out))); ((try simp only [Act.put, List.setIfInBounds_toArray, List.set_cons_zero, List.set_cons_succ])); (go_cut [41] (fun v41 wc => ∃ (kq : Nat) (x41_14 : Bool), v41 = .bool x41_14 ∧ Aside0 (piece_Check.j1 kq x23_1 l0_2 (l0_2.length : Int) x23_1 x41_14 l0_0 l0_1 l0_2 ((rd_T46 l0_2 x23_1).f0) ((rd_T46 l0_2 x23_1).f1.f0) ((rd_T46 l0_2 x23_1).f1.f1) ((rd_T46 l0_2 x23_1).f1.f2) ((rd_T46 l0_2 x23_1).f2) ((rd_T46 l0_2 x23_1).f3) = some r) ∧ Aside0 (kq ≤ k1) ∧ Aside0 (wc.heap[gb439]? = some (.cells #[(.slice A0_0 l0_0.length c0_0), (.slice A0_1 l0_1.length c0_1), (.slice (some ad441) l0_2.length c0_2)] 29 (0, 0))) ∧ Aside0 (wc.heap[gb442]? = some (.cells #[.bool ((rd_T46 l0_2 x23_1).f0), .int .i64 ((rd_T46 l0_2 x23_1).f1.f0), .bool ((rd_T46 l0_2 x23_1).f1.f1), .bool ((rd_T46 l0_2 x23_1).f1.f2), .bool ((rd_T46 l0_2 x23_1).f2), (.slice A441_5 ((rd_T46 l0_2 x23_1).f3).length c441_5)] 46 (0, 0))) ∧ Aside0 (Below w.heap.size w wc)))
                case first =>
                  (have H := HC15.out); clear HC15; (replace H := Option.bind_eq_some_iff.mp H); (obtain ⟨t443, A190, H⟩ := H); (try dsimp only at H); (have A19 := Aside0.mk A190); clear A190; (by_cases c20 : t443 = true)
                  · subst c20
                    (rw [if_pos rfl] at H); (by_cases c21 : x23_1 = 0)
                    · rw [if_pos c21] at H
                      (obtain ⟨c21b0, c21b1⟩ := eqT_ c21); clear c21; ((first | rw [c21b0] | rw [c21b1] | (simp only [i64_w, i32_w]; rw [c21b0]) | skip)); (have H' := Aside0.mk H); clear H; (have hnb22 := NB442_439.out); (have hnc22 := NB439_442.out); (have hcz23 := blk_cell BK442.out); (have hfz23 := blk_frozen BK442.out); (go_wp2_with (first | ((with_reducible refine gate_callee (f := 36) rfl ?_); refine cl_ 36 (some 30) Tryz.func36 (piece_valid.calls k1 ((rd_T46 l0_2 x23_1).f1.f0) ((rd_T46 l0_2 x23_1).f1.f1) ((rd_T46 l0_2 x23_1).f1.f2) true _ A19.out) ?_; rintro e w24 ⟨rfl, hb⟩; refine ⟨_, rfl, ?_⟩; replace BK439 := bb_ BK439 hb; replace BK442 := Aside0.mk (blk_below (g := gb442) (o := .cells #[.bool ((rd_T46 l0_2 x23_1).f0), .int .i64 ((rd_T46 l0_2 x23_1).f1.f0), .bool ((rd_T46 l0_2 x23_1).f1.f1), .bool ((rd_T46 l0_2 x23_1).f1.f2), .bool ((rd_T46 l0_2 x23_1).f2), .slice A441_5 ((rd_T46 l0_2 x23_1).f3).length c441_5] 46 (0, 0)) (bk_ BK442) hb); replace HB := bs_ HB hb; (try clear hb); (try clear hb2); (try clear hk); (try clear hi); have hcz25 := blk_cell BK442.out; have hfz25 := blk_frozen BK442.out))); (go_meet)
                      case rel => exact ⟨_, ((((rd_T46 l0_2 x23_1).f1.f0) == 0 && (!((rd_T46 l0_2 x23_1).f1.f1) && (!((rd_T46 l0_2 x23_1).f1.f2))))), (rs_), H', ⟨by have := HK1.out; first | omega | exact Nat.le_refl _⟩, ⟨bk_ BK439⟩, ⟨bk_ BK442⟩, ⟨bl_ HB⟩⟩
                    · rw [if_neg c21] at H
                      (obtain ⟨c21b0, c21b1⟩ := eqF_ c21); ((first | rw [c21b0] | rw [c21b1] | (simp only [i64_w, i32_w]; rw [c21b0]) | skip)); (have H' := Aside0.mk H); clear H; (have hnb26 := NB442_439.out); (have hnc26 := NB439_442.out); (have hcz27 := blk_cell BK442.out); (have hfz27 := blk_frozen BK442.out); (go_wp2_with (first | ((with_reducible refine gate_callee (f := 36) rfl ?_); refine cl_ 36 (some 30) Tryz.func36 (piece_valid.calls k1 ((rd_T46 l0_2 x23_1).f1.f0) ((rd_T46 l0_2 x23_1).f1.f1) ((rd_T46 l0_2 x23_1).f1.f2) true _ A19.out) ?_; rintro e w28 ⟨rfl, hb⟩; refine ⟨_, rfl, ?_⟩; replace BK439 := bb_ BK439 hb; replace BK442 := Aside0.mk (blk_below (g := gb442) (o := .cells #[.bool ((rd_T46 l0_2 x23_1).f0), .int .i64 ((rd_T46 l0_2 x23_1).f1.f0), .bool ((rd_T46 l0_2 x23_1).f1.f1), .bool ((rd_T46 l0_2 x23_1).f1.f2), .bool ((rd_T46 l0_2 x23_1).f2), .slice A441_5 ((rd_T46 l0_2 x23_1).f3).length c441_5] 46 (0, 0)) (bk_ BK442) hb); replace HB := bs_ HB hb; (try clear hb); (try clear hb2); (try clear hk); (try clear hi)))); (go_meet)
                      case rel => exact ⟨_, (false), (rs_), H', ⟨by have := HK1.out; first | omega | exact Nat.le_refl _⟩, ⟨bk_ BK439⟩, ⟨bk_ BK442⟩, ⟨bl_ HB⟩⟩
                  · replace c20 := Bool.eq_false_iff.mpr c20
                    subst c20; (rw [if_neg Bool.false_ne_true] at H); (have H' := Aside0.mk H); clear H; (have hnb29 := NB442_439.out); (have hnc29 := NB439_442.out); (have hcz30 := blk_cell BK442.out); (have hfz30 := blk_frozen BK442.out); (go_wp2_with (first | ((with_reducible refine gate_callee (f := 36) rfl ?_); refine cl_ 36 (some 30) Tryz.func36 (piece_valid.calls k1 ((rd_T46 l0_2 x23_1).f1.f0) ((rd_T46 l0_2 x23_1).f1.f1) ((rd_T46 l0_2 x23_1).f1.f2) false _ A19.out) ?_; rintro e w31 ⟨rfl, hb⟩; refine ⟨_, rfl, ?_⟩; replace BK439 := bb_ BK439 hb; replace BK442 := Aside0.mk (blk_below (g := gb442) (o := .cells #[.bool ((rd_T46 l0_2 x23_1).f0), .int .i64 ((rd_T46 l0_2 x23_1).f1.f0), .bool ((rd_T46 l0_2 x23_1).f1.f1), .bool ((rd_T46 l0_2 x23_1).f1.f2), .bool ((rd_T46 l0_2 x23_1).f2), .slice A441_5 ((rd_T46 l0_2 x23_1).f3).length c441_5] 46 (0, 0)) (bk_ BK442) hb); replace HB := bs_ HB hb; (try clear hb); (try clear hb2); (try clear hk); (try clear hi)))); (go_meet)
                    case rel => exact ⟨_, (true), (rs_), H', ⟨by have := HK1.out; first | omega | exact Nat.le_refl _⟩, ⟨bk_ BK439⟩, ⟨bk_ BK442⟩, ⟨bl_ HB⟩⟩
                case rest =>
                  clear HC15; (try clear c12b0 c13b0 c14b0 hcz18 hfz18 hx441_0 hx441_1 hx441_2 hx441_3 hx441_4 hx441_5 p441 q441); (obtain ⟨kq, x41_14, rfl, HA, HJ14, BK439, BK442, HB⟩ := hcut)
                  cases kq with
                  | zero => exact absurd HA.out (by simp [piece_Check.j1])
                  | succ kj14 =>
                    (have H := HA.out); clear HA; (simp only [piece_Check.j1] at H); (by_cases c32 : x41_14 = true)
                    · subst c32
                      (rw [if_pos rfl] at H); (obtain rfl := Option.some.inj H); (go_wp2); (go_ret); (exact ⟨rv_, bl_ HB⟩)
                    · replace c32 := Bool.eq_false_iff.mpr c32
                      subst c32; (rw [if_neg Bool.false_ne_true] at H); (have HC33 := Aside0.mk H); clear H; (go_upto_region 11 with (fail)); (go_cut [53] (fun v53 wc => ∃ (kq : Nat) (x53_32 : Bool), v53 = .bool x53_32 ∧ Aside0 (piece_Check.j2 kq x23_1 l0_2 (l0_2.length : Int) x23_1 x53_32 l0_0 l0_1 l0_2 ((rd_T46 l0_2 x23_1).f0) ((rd_T46 l0_2 x23_1).f1.f0) ((rd_T46 l0_2 x23_1).f1.f1) ((rd_T46 l0_2 x23_1).f1.f2) ((rd_T46 l0_2 x23_1).f2) ((rd_T46 l0_2 x23_1).f3) = some r) ∧ Aside0 (kq ≤ kj14) ∧ Aside0 (wc.heap[gb439]? = some (.cells #[(.slice A0_0 l0_0.length c0_0), (.slice A0_1 l0_1.length c0_1), (.slice (some ad441) l0_2.length c0_2)] 29 (0, 0))) ∧ Aside0 (wc.heap[gb442]? = some (.cells #[.bool ((rd_T46 l0_2 x23_1).f0), .int .i64 ((rd_T46 l0_2 x23_1).f1.f0), .bool ((rd_T46 l0_2 x23_1).f1.f1), .bool ((rd_T46 l0_2 x23_1).f1.f2), .bool ((rd_T46 l0_2 x23_1).f2), (.slice A441_5 ((rd_T46 l0_2 x23_1).f3).length c441_5)] 46 (0, 0))) ∧ Aside0 (Below w.heap.size w wc)))
                      case first =>
                        (have H := HC33.out); clear HC33; (by_cases c34 : ((rd_T46 l0_2 x23_1).f2) = true)
                        · rw [if_pos c34] at H
                          (have c34b0 : ((rd_T46 l0_2 x23_1).f2) = true := c34); clear c34; ((first | rw [c34b0] | (simp only [i64_w, i32_w]; rw [c34b0]) | skip)); (by_cases c35 : x23_1 = 0)
                          · rw [if_pos c35] at H
                            (obtain ⟨c35b0, c35b1⟩ := eqT_ c35); clear c35; (have H' := Aside0.mk H); clear H; (have hnb36 := NB442_439.out); (have hnc36 := NB439_442.out); (have hcz37 := blk_cell BK442.out); (have hfz37 := blk_frozen BK442.out); (go_wp2); (go_meet)
                            case rel => exact ⟨_, (true), (rs_), H', ⟨by have := HK1.out; have := HJ14.out; first | omega | exact Nat.le_refl _⟩, ⟨bk_ BK439⟩, ⟨bk_ BK442⟩, ⟨bl_ HB⟩⟩
                          · rw [if_neg c35] at H
                            (obtain ⟨c35b0, c35b1⟩ := eqF_ c35); (have H' := Aside0.mk H); clear H; (have hnb38 := NB442_439.out); (have hnc38 := NB439_442.out); (have hcz39 := blk_cell BK442.out); (have hfz39 := blk_frozen BK442.out); (go_wp2); (go_meet)
                            case rel => exact ⟨_, (decide ((((rd_T46 l0_2 x23_1).f3).length : Int) > 0)), (rs_), H', ⟨by have := HK1.out; have := HJ14.out; first | omega | exact Nat.le_refl _⟩, ⟨bk_ BK439⟩, ⟨bk_ BK442⟩, ⟨bl_ HB⟩⟩
                        · rw [if_neg c34] at H
                          (have c34b0 : ((rd_T46 l0_2 x23_1).f2) = false := by simpa using c34); clear c34; ((first | rw [c34b0] | (simp only [i64_w, i32_w]; rw [c34b0]) | skip)); (have H' := Aside0.mk H); clear H; (have hnb40 := NB442_439.out); (have hnc40 := NB439_442.out); (have hcz41 := blk_cell BK442.out); (have hfz41 := blk_frozen BK442.out); (go_wp2); (go_meet)
                          case rel => exact ⟨_, (false), (rs_), H', ⟨by have := HK1.out; have := HJ14.out; first | omega | exact Nat.le_refl _⟩, ⟨bk_ BK439⟩, ⟨bk_ BK442⟩, ⟨bl_ HB⟩⟩
                      case rest =>
                        clear HC33; (try clear c32); (obtain ⟨kq, x53_32, rfl, HA, HJ32, BK439, BK442, HB⟩ := hcut)
                        cases kq with
                        | zero => exact absurd HA.out (by simp [piece_Check.j2])
                        | succ kj32 =>
                          (have H := HA.out); clear HA; (simp only [piece_Check.j2] at H); (by_cases c42 : x53_32 = true)
                          · subst c42
                            (rw [if_pos rfl] at H); (obtain rfl := Option.some.inj H); (go_wp2); (go_ret); (exact ⟨rv_, bl_ HB⟩)
                          · replace c42 := Bool.eq_false_iff.mpr c42
                            subst c42; (rw [if_neg Bool.false_ne_true] at H); (have H' := Aside0.mk H); clear H; (have hnb43 := NB442_439.out); (have hnc43 := NB439_442.out); (have hcz44 := blk_cell BK442.out); (have hfz44 := blk_frozen BK442.out); (go_wp2); (go_loopg [6, 57] kj32 (fun kq v6 v57 w' => ∃ (x6_4 : Int) (x57_4 : Int), v6 = .int .i64 x6_4 ∧ v57 = .int .i64 x57_4 ∧ Aside0 (piece_Check.l1 kq x23_1 x6_4 l0_2 (l0_2.length : Int) x23_1 ((rd_T46 l0_2 x23_1).f3) (((rd_T46 l0_2 x23_1).f3).length : Int) x57_4 l0_0 l0_1 l0_2 = some r) ∧ Aside0 (kq ≤ kj32) ∧ Aside0 (w'.heap[gb439]? = some (.cells #[(.slice A0_0 l0_0.length c0_0), (.slice A0_1 l0_1.length c0_1), (.slice (some ad441) l0_2.length c0_2)] 29 (0, 0))) ∧ Aside0 (w'.heap[gb442]? = some (.cells #[.bool ((rd_T46 l0_2 x23_1).f0), .int .i64 ((rd_T46 l0_2 x23_1).f1.f0), .bool ((rd_T46 l0_2 x23_1).f1.f1), .bool ((rd_T46 l0_2 x23_1).f1.f2), .bool ((rd_T46 l0_2 x23_1).f2), (.slice A441_5 ((rd_T46 l0_2 x23_1).f3).length c441_5)] 46 (0, 0))) ∧ Aside0 (Below w.heap.size w w')))
                            case atStart => exact ⟨(0), (0), (rs_), (rs_), H', ⟨Nat.le_refl _⟩, ⟨bk_ BK439⟩, ⟨bk_ BK442⟩, ⟨bl_ HB⟩⟩
                            case round =>
                              clear H'; (try clear c42 hcz44 hfz44); (obtain ⟨x6_4, x57_4, rfl, rfl, HA, HK4, BK439, BK442, HB⟩ := hrel)
                              cases gk with
                              | zero => exact absurd HA.out (by simp [piece_Check.l1])
                              | succ k4 =>
                                (have H := HA.out); clear HA; (simp only [piece_Check.l1] at H); (by_cases c45 : x57_4 < (((rd_T46 l0_2 x23_1).f3).length : Int))
                                · rw [if_pos c45] at H
                                  (have c45b0 := decide_eq_true c45); clear c45; (by_cases c46 : 0 ≤ x57_4)
                                  · rw [if_pos c46] at H
                                    (have c46b0 := decide_eq_true c46); clear c46; (by_cases c47 : x57_4 < (((rd_T46 l0_2 x23_1).f3).length : Int))
                                    · rw [if_pos c47] at H
                                      (have c47b0 := decide_eq_true c47); clear c47; (replace H := Option.bind_eq_some_iff.mp H); (obtain ⟨t446, A480, H⟩ := H); (try dsimp only at H); (have A48 := Aside0.mk A480); clear A480; (have HC49 := Aside0.mk H); clear H; (have p444 : 0 ≤ (x57_4 : Int) := of_decide_eq_true (by first | (with_reducible assumption) | assumption)); (have q444 : x57_4 < (((rd_T46 l0_2 x23_1).f3).length : Int) := of_decide_eq_true (by first | (with_reducible assumption) | assumption)); (obtain ⟨ad444, e444, hx444_0, hx444_1, hx444_2, hx444_3, hx444_4⟩ := at_T54 HR441_5.out x57_4 p444 q444)
                                      cases e444
                                      (replace hx444_0 := pw_cell_below HB.out hx444_0); (replace hx444_1 := pw_cell_below HB.out hx444_1); (replace hx444_2 := pw_cell_below HB.out hx444_2); (replace hx444_3 := pw_cell_below HB.out hx444_3); (replace hx444_4 := pw_cell_below HB.out hx444_4); (replace p444 := eq_true p444); (replace q444 := eq_true q444); (go_upto_if 67 with (first | ((with_reducible refine gate_dst (N := 8) rfl ?_); (try (refine gate_guard (by rfl) ?_; dsimp only)); refine bx_ 8 #[.int .i64 0, .int .i64 0, .int .i64 0, .int .i64 0, .int .i64 0] 54 HB ?_; clear HB; intro gb445 w50 hg hb BK445 HB GW445; have GE445 := GW445; have NB439_445 := nl_ BK439 hg; have NB445_439 := ng_ BK439 hg; have NB442_445 := nl_ BK442 hg; have NB445_442 := ng_ BK442 hg; replace BK439 := bb_ BK439 hb; replace BK442 := bb_ BK442 hb; clear hg hb; have hnb51 := NB445_439.out; have hnc51 := NB439_445.out; have hnb52 := NB445_442.out; have hnc52 := NB442_445.out; have hcz53 := blk_cell BK445.out; have hfz53 := blk_frozen BK445.out; have hnb54 := NB439_442.out; have hnc54 := NB442_439.out; have hcz55 := blk_cell BK439.out; have hfz55 := blk_frozen BK439.out) | ((with_reducible refine gate_callee (f := 37) rfl ?_); refine cl_ 37 (some 65) Tryz.func37 (piece_checkStop.calls k4 _ _ l0_0 _ _ l0_1 _ _ l0_2 x23_1 ((rd_T54 ((rd_T46 l0_2 x23_1).f3) x57_4).f0) ((rd_T54 ((rd_T46 l0_2 x23_1).f3) x57_4).f1) ((rd_T54 ((rd_T46 l0_2 x23_1).f3) x57_4).f2) ((rd_T54 ((rd_T46 l0_2 x23_1).f3) x57_4).f3) ((rd_T54 ((rd_T46 l0_2 x23_1).f3) x57_4).f4) x6_4 t446 _ (kc_ HR0_0 HB) HC0_0.out (kc_ HR0_1 HB) HC0_1.out (kc_ HR0_2 HB) HC0_2.out A48.out) ?_; rintro e w56 ⟨rfl, hb⟩; refine ⟨_, rfl, ?_⟩; replace BK439 := bb_ BK439 hb; replace BK442 := bb_ BK442 hb; replace BK445 := Aside0.mk (blk_below (g := gb445) (o := .cells #[.int .i64 ((rd_T54 ((rd_T46 l0_2 x23_1).f3) x57_4).f0), .int .i64 ((rd_T54 ((rd_T46 l0_2 x23_1).f3) x57_4).f1), .int .i64 ((rd_T54 ((rd_T46 l0_2 x23_1).f3) x57_4).f2), .int .i64 ((rd_T54 ((rd_T46 l0_2 x23_1).f3) x57_4).f3), .int .i64 ((rd_T54 ((rd_T46 l0_2 x23_1).f3) x57_4).f4)] 54 (0, 0)) (bk_ BK445) hb); replace HB := bs_ HB hb; (try clear hb); (try clear hb2); (try clear hk); (try clear hi)))); ((try simp only [Act.put, List.setIfInBounds_toArray, List.set_cons_zero, List.set_cons_succ])); (have H := HC49.out); clear HC49; (by_cases c57 : t446 = 0)
                                      · rw [if_pos c57] at H
                                        (obtain ⟨c57b0, c57b1⟩ := eqT_ c57); clear c57; ((first | rw [c57b0] | rw [c57b1] | (simp only [i64_w, i32_w]; rw [c57b0]) | skip)); (have H' := Aside0.mk H); clear H; (have hnb58 := NB445_439.out); (have hnc58 := NB439_445.out); (have hnb59 := NB445_442.out); (have hnc59 := NB442_445.out); (have hcz60 := blk_cell BK445.out); (have hfz60 := blk_frozen BK445.out); (go_wp2); (go_roundg k4)
                                        case measure => have := HK1.out; have := HJ14.out; have := HJ32.out; have := HK4.out; omega
                                        case rel => exact ⟨((rd_T54 ((rd_T46 l0_2 x23_1).f3) x57_4).f0), (wrap64 (x57_4 + 1)), (rs_), (rs_), H', ⟨by have := HK1.out; have := HJ14.out; have := HJ32.out; have := HK4.out; omega⟩, ⟨bk_ BK439⟩, ⟨bk_ BK442⟩, ⟨bl_ HB⟩⟩
                                      · rw [if_neg c57] at H
                                        (obtain ⟨c57b0, c57b1⟩ := eqF_ c57); ((first | rw [c57b0] | rw [c57b1] | (simp only [i64_w, i32_w]; rw [c57b0]) | skip)); (obtain rfl := Option.some.inj H); (go_wp2); (go_ret); (exact ⟨rv_, bl_ HB⟩)
                                    · rw [if_neg c47] at H
                                      exact absurd H (by simp)
                                  · rw [if_neg c46] at H
                                    exact absurd H (by simp)
                                · rw [if_neg c45] at H
                                  (have c45b0 := decide_eq_false c45); clear c45; (have H' := Aside0.mk H); clear H; (go_wp2); (go_roundg k4)
                                  case measure => have := HK1.out; have := HJ14.out; have := HJ32.out; have := HK4.out; omega
                                  case rel => exact ⟨(wrap64 (x23_1 + 1)), (rs_), H', ⟨by have := HK1.out; have := HJ14.out; have := HJ32.out; have := HK4.out; omega⟩, ⟨bk_ BK439⟩, ⟨bl_ HB⟩⟩
              · rw [if_neg c14] at H
                exact absurd H (by simp)
            · rw [if_neg c13] at H
              exact absurd H (by simp)
          · rw [if_neg c12] at H
            (have c12b0 := decide_eq_false c12); clear c12; (obtain rfl := Option.some.inj H); (go_wp2); (go_ret); (exact ⟨rv_, bl_ HB⟩)
  · rw [if_neg c7] at H
    (obtain ⟨c7b0, c7b1⟩ := eqF_ c7); ((first | rw [c7b0] | rw [c7b1] | (simp only [i64_w, i32_w]; rw [c7b0]) | skip)); (obtain rfl := Option.some.inj H); (go_wp2); (go_ret); (exact ⟨rv_, bl_ HB⟩)

/-! ### notation_french_has: function 93 -/
def notation_french_has.f  (a1 : Int) : Option (Bool) := some true
set_option maxHeartbeats 8000000 in
set_option maxRecDepth 100000 in
theorem notation_french_has.calls  (a1 : Int) (r : Bool) (w : World) (h : notation_french_has.f a1 = some r) :
    Calls Tryz.prog 93 #[.agg #[], .int .i64 a1] w fun e w' => e = .returned (.bool r) ∧ Below w.heap.size w w' := by
  have hu78 := Tryz.underlying78
  have HB := Aside0.mk (Below.refl w.heap.size w)
  have H : (some true) = some r := h
  clear h
  obtain rfl := Option.some.inj H
  go_enter Tryz.func93, Tryz.ntmps93
  go_wp2_with (first | ((with_reducible refine gate_dst (N := 2) rfl ?_); refine bx_ 2 #[] 78 HB ?_; clear HB; intro gb447 w3 hg hb BK447 HB GW447; have GE447 := GW447; clear hg hb))
  go_ret
  exact ⟨rv_, bl_ HB⟩

/-! ### notation_italian_has: function 125 -/
def notation_italian_has.f  (a1 : Int) : Option (Bool) := some true
set_option maxHeartbeats 8000000 in
set_option maxRecDepth 100000 in
theorem notation_italian_has.calls  (a1 : Int) (r : Bool) (w : World) (h : notation_italian_has.f a1 = some r) :
    Calls Tryz.prog 125 #[.agg #[], .int .i64 a1] w fun e w' => e = .returned (.bool r) ∧ Below w.heap.size w w' := by
  have hu82 := Tryz.underlying82
  have HB := Aside0.mk (Below.refl w.heap.size w)
  have H : (some true) = some r := h
  clear h
  obtain rfl := Option.some.inj H
  go_enter Tryz.func125, Tryz.ntmps125
  go_wp2_with (first | ((with_reducible refine gate_dst (N := 2) rfl ?_); refine bx_ 2 #[] 82 HB ?_; clear HB; intro gb449 w3 hg hb BK449 HB GW449; have GE449 := GW449; clear hg hb))
  go_ret
  exact ⟨rv_, bl_ HB⟩

/-! ### notation_spanish_has: function 132 -/
def notation_spanish_has.f  (a1 : Int) : Option (Bool) := some (a1 != 8)
set_option maxHeartbeats 8000000 in
set_option maxRecDepth 100000 in
theorem notation_spanish_has.calls  (a1 : Int) (r : Bool) (w : World) (h : notation_spanish_has.f a1 = some r) :
    Calls Tryz.prog 132 #[.agg #[], .int .i64 a1] w fun e w' => e = .returned (.bool r) ∧ Below w.heap.size w w' := by
  have hu84 := Tryz.underlying84
  have HB := Aside0.mk (Below.refl w.heap.size w)
  have H : (some (a1 != 8)) = some r := h
  clear h
  obtain rfl := Option.some.inj H
  go_enter Tryz.func132, Tryz.ntmps132
  go_wp2_with (first | ((with_reducible refine gate_dst (N := 2) rfl ?_); refine bx_ 2 #[] 84 HB ?_; clear HB; intro gb451 w3 hg hb BK451 HB GW451; have GE451 := GW451; clear hg hb))
  go_ret
  exact ⟨rv_, bl_ HB⟩

/-! ### notation_german_has: function 140 -/
def notation_german_has.f  (a1 : Int) : Option (Bool) := some (a1 == 8)
set_option maxHeartbeats 8000000 in
set_option maxRecDepth 100000 in
theorem notation_german_has.calls  (a1 : Int) (r : Bool) (w : World) (h : notation_german_has.f a1 = some r) :
    Calls Tryz.prog 140 #[.agg #[], .int .i64 a1] w fun e w' => e = .returned (.bool r) ∧ Below w.heap.size w w' := by
  have hu86 := Tryz.underlying86
  have HB := Aside0.mk (Below.refl w.heap.size w)
  have H : (some (a1 == 8)) = some r := h
  clear h
  obtain rfl := Option.some.inj H
  go_enter Tryz.func140, Tryz.ntmps140
  go_wp2_with (first | ((with_reducible refine gate_dst (N := 2) rfl ?_); refine bx_ 2 #[] 86 HB ?_; clear HB; intro gb453 w3 hg hb BK453 HB GW453; have GE453 := GW453; clear hg hb))
  go_ret
  exact ⟨rv_, bl_ HB⟩

/-! ### dyn_notation_has: a method of an interface's value, by its tag -/
def dyn_notation_has.f (a0 : Int) (a1 : Int) : Option (Bool) := if a0 = 1 then notation_french_has.f a1 else if a0 = 2 then notation_italian_has.f a1 else if a0 = 3 then notation_spanish_has.f a1 else if a0 = 4 then notation_german_has.f a1 else  none
set_option maxRecDepth 100000 in
theorem dyn_notation_has.calls (a0 : Int) (a1 : Int) (r : Bool) (w : World) (h : dyn_notation_has.f a0 a1 = some r) :
    Invokes Tryz.prog (sysW a0) "theorbo/notation.has" #[.int .i64 a1] w fun e w' => e = .returned (.bool r) ∧ Below w.heap.size w w' := by
  unfold dyn_notation_has.f at h
  by_cases c1 : a0 = 1
  · subst c1
    rw [if_pos rfl] at h
    exact ⟨93, _, (fun w => by kernel_rfl : ∀ w : World, (callMethod (sysW 1) "theorbo/notation.has" #[.int .i64 a1]).run Tryz.prog w = .ok (.enter 93 #[.agg #[], .int .i64 a1]) w) w, (notation_french_has.calls a1 r w h)⟩
  rw [if_neg c1] at h
  by_cases c2 : a0 = 2
  · subst c2
    rw [if_pos rfl] at h
    exact ⟨125, _, (fun w => by kernel_rfl : ∀ w : World, (callMethod (sysW 2) "theorbo/notation.has" #[.int .i64 a1]).run Tryz.prog w = .ok (.enter 125 #[.agg #[], .int .i64 a1]) w) w, (notation_italian_has.calls a1 r w h)⟩
  rw [if_neg c2] at h
  by_cases c3 : a0 = 3
  · subst c3
    rw [if_pos rfl] at h
    exact ⟨132, _, (fun w => by kernel_rfl : ∀ w : World, (callMethod (sysW 3) "theorbo/notation.has" #[.int .i64 a1]).run Tryz.prog w = .ok (.enter 132 #[.agg #[], .int .i64 a1]) w) w, (notation_spanish_has.calls a1 r w h)⟩
  rw [if_neg c3] at h
  by_cases c4 : a0 = 4
  · subst c4
    rw [if_pos rfl] at h
    exact ⟨140, _, (fun w => by kernel_rfl : ∀ w : World, (callMethod (sysW 4) "theorbo/notation.has" #[.int .i64 a1]).run Tryz.prog w = .ok (.enter 140 #[.agg #[], .int .i64 a1]) w) w, (notation_german_has.calls a1 r w h)⟩
  rw [if_neg c4] at h
  exact absurd h (by simp)

end Go.Proofs.YtocpcofihlcnoaaGreat.PNC
