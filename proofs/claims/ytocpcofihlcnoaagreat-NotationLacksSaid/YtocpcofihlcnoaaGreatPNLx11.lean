-- made by xprint.py (ours) out of the translation
import Derived.Test.YtocpcofihlcnoaaGreatPNLx0
namespace Go.Proofs.YtocpcofihlcnoaaGreat.PNL
open Go.RowKit Go.Proofs.YtocpcofihlcnoaaGreatW.PrintWords Go.Proofs.YtocpcofihlcnoaaGreatW.PrintLast Go.Proofs.YtocpcofihlcnoaaGreatW.PrintMore
attribute [local go_sem] max2_int min2_int max_two min_two max_three min_three max_four min_four   -- for this text's walks alone
set_option linter.unusedVariables false
set_option linter.unusedSimpArgs false

/-! ### theorboref01_Check: function 40 -/
mutual
def theorboref01_Check.j0 : Nat → Bool → List (S99) → List Int → Option (Int)
  | 0, _, _, _ => none
  | k + 1, x17, x479000, x479001 => if x17 = true then (some 2) else (if (x479000.length : Int) = 0 then (some 11) else (theorboref01_Check.l0 k 0 0 x479000 x479001))
def theorboref01_Check.l0 : Nat → Int → Int → List (S99) → List Int → Option (Int)
  | 0, _, _, _, _ => none
  | k + 1, x3, x4, x479000, x479001 => if x4 < (x479001.length : Int) then (if 0 ≤ x4 then (if (rd x479001 x4) ≤ x3 then (some 11) else (if (rd x479001 x4) > 127 then (some 11) else (theorboref01_Check.l0 k (rd x479001 x4) (wrap64 (x4 + 1)) x479000 x479001))) else (none)) else (theorboref01_Check.l1 k 0 x479000 x479001)
def theorboref01_Check.l1 : Nat → Int → List (S99) → List Int → Option (Int)
  | 0, _, _, _ => none
  | k + 1, x5, x479000, x479001 => if x5 < (x479000.length : Int) then (if 0 ≤ x5 then (if ((rd_T99 x479000 x5).f1) < 0 then (theorboref01_Check.j3 k x5 true x479000 x479001 ((rd_T99 x479000 x5).f0) ((rd_T99 x479000 x5).f1) ((rd_T99 x479000 x5).f2)) else (theorboref01_Check.j3 k x5 (decide (((rd_T99 x479000 x5).f1) > (x479001.length : Int))) x479000 x479001 ((rd_T99 x479000 x5).f0) ((rd_T99 x479000 x5).f1) ((rd_T99 x479000 x5).f2))) else (none)) else (some 0)
def theorboref01_Check.j3 : Nat → Int → Bool → List (S99) → List Int → Int → Int → Bool → Option (Int)
  | 0, _, _, _, _, _, _, _ => none
  | k + 1, x5, x71, x479000, x479001, x484000, x484001, x484002 => if x71 = true then (some 13) else (if x484000 < 0 then (theorboref01_Check.j4 k x5 true x479000 x479001 x484000 x484001 x484002) else (theorboref01_Check.j4 k x5 (decide (x484000 > 127)) x479000 x479001 x484000 x484001 x484002))
def theorboref01_Check.j4 : Nat → Int → Bool → List (S99) → List Int → Int → Int → Bool → Option (Int)
  | 0, _, _, _, _, _, _, _ => none
  | k + 1, x5, x79, x479000, x479001, x484000, x484001, x484002 => if x79 = true then (some 10) else (if x484001 > 0 then (if 0 ≤ (wrap64 (x484001 - 1)) then (if (wrap64 (x484001 - 1)) < (x479001.length : Int) then (theorboref01_Check.j5 k x5 (wrap64 (x484000 + (rd x479001 (wrap64 (x484001 - 1))))) x479000 x479001 x484000 x484001 x484002) else (none)) else (none)) else (theorboref01_Check.j5 k x5 x484000 x479000 x479001 x484000 x484001 x484002))
def theorboref01_Check.j5 : Nat → Int → Int → List (S99) → List Int → Int → Int → Bool → Option (Int)
  | 0, _, _, _, _, _, _, _ => none
  | k + 1, x5, x7, x479000, x479001, x484000, x484001, x484002 => if x484002 = true then (if (wrap64 (x7 + 12)) > 127 then (some 10) else (theorboref01_Check.l1 k (wrap64 (x5 + 1)) x479000 x479001)) else (if x7 > 127 then (some 10) else (theorboref01_Check.l1 k (wrap64 (x5 + 1)) x479000 x479001))
end
def theorboref01_Check.f (k : Nat) (l0_0 : List (S99)) (l0_1 : List Int) : Option (Int) := if (l0_0.length : Int) > 14 then (theorboref01_Check.j0 k true l0_0 l0_1) else (theorboref01_Check.j0 k (decide ((l0_1.length : Int) > 18)) l0_0 l0_1)
theorem theorboref01_Check.mono_l : ∀ k, (∀ y0 y1 y2, LeO (theorboref01_Check.j0 k y0 y1 y2) (theorboref01_Check.j0 (k + 1) y0 y1 y2)) ∧ (∀ y0 y1 y2 y3, LeO (theorboref01_Check.l0 k y0 y1 y2 y3) (theorboref01_Check.l0 (k + 1) y0 y1 y2 y3)) ∧ (∀ y0 y1 y2, LeO (theorboref01_Check.l1 k y0 y1 y2) (theorboref01_Check.l1 (k + 1) y0 y1 y2)) ∧ (∀ y0 y1 y2 y3 y4 y5 y6, LeO (theorboref01_Check.j3 k y0 y1 y2 y3 y4 y5 y6) (theorboref01_Check.j3 (k + 1) y0 y1 y2 y3 y4 y5 y6)) ∧ (∀ y0 y1 y2 y3 y4 y5 y6, LeO (theorboref01_Check.j4 k y0 y1 y2 y3 y4 y5 y6) (theorboref01_Check.j4 (k + 1) y0 y1 y2 y3 y4 y5 y6)) ∧ (∀ y0 y1 y2 y3 y4 y5 y6, LeO (theorboref01_Check.j5 k y0 y1 y2 y3 y4 y5 y6) (theorboref01_Check.j5 (k + 1) y0 y1 y2 y3 y4 y5 y6))
  | 0 => ⟨fun _ _ _ r h => by simp [theorboref01_Check.j0] at h, fun _ _ _ _ r h => by simp [theorboref01_Check.l0] at h, fun _ _ _ r h => by simp [theorboref01_Check.l1] at h, fun _ _ _ _ _ _ _ r h => by simp [theorboref01_Check.j3] at h, fun _ _ _ _ _ _ _ r h => by simp [theorboref01_Check.j4] at h, fun _ _ _ _ _ _ _ r h => by simp [theorboref01_Check.j5] at h⟩
  | k + 1 => by
    ((obtain ⟨ih0, ih1, ih2, ih3, ih4, ih5⟩ := theorboref01_Check.mono_l k); (refine ⟨?_, ?_, ?_, ?_, ?_, ?_⟩)); (focus intro y0 y1 y2; (unfold theorboref01_Check.j0); (repeat' first | (with_reducible first | apply ih0 | apply ih1 | apply ih2 | apply ih3 | apply ih4 | apply ih5 | exact LeO.refl _ | exact LeO.none _ | refine LeO.ite ?_ ?_ | refine LeO.bind ?_ fun _ => ?_) | exact LeO.none _ | refine LeO.ite ?_ ?_ | refine LeO.bind ?_ fun _ => ?_ | apply ih0 | apply ih1 | apply ih2 | apply ih3 | apply ih4 | apply ih5)); (focus intro y0 y1 y2 y3; (unfold theorboref01_Check.l0); (repeat' first | (with_reducible first | apply ih0 | apply ih1 | apply ih2 | apply ih3 | apply ih4 | apply ih5 | exact LeO.refl _ | exact LeO.none _ | refine LeO.ite ?_ ?_ | refine LeO.bind ?_ fun _ => ?_) | exact LeO.none _ | refine LeO.ite ?_ ?_ | refine LeO.bind ?_ fun _ => ?_ | apply ih0 | apply ih1 | apply ih2 | apply ih3 | apply ih4 | apply ih5)); (focus intro y0 y1 y2; (unfold theorboref01_Check.l1); (repeat' first | (with_reducible first | apply ih0 | apply ih1 | apply ih2 | apply ih3 | apply ih4 | apply ih5 | exact LeO.refl _ | exact LeO.none _ | refine LeO.ite ?_ ?_ | refine LeO.bind ?_ fun _ => ?_) | exact LeO.none _ | refine LeO.ite ?_ ?_ | refine LeO.bind ?_ fun _ => ?_ | apply ih0 | apply ih1 | apply ih2 | apply ih3 | apply ih4 | apply ih5)); (focus intro y0 y1 y2 y3 y4 y5 y6; (unfold theorboref01_Check.j3); (repeat' first | (with_reducible first | apply ih0 | apply ih1 | apply ih2 | apply ih3 | apply ih4 | apply ih5 | exact LeO.refl _ | exact LeO.none _ | refine LeO.ite ?_ ?_ | refine LeO.bind ?_ fun _ => ?_) | exact LeO.none _ | refine LeO.ite ?_ ?_ | refine LeO.bind ?_ fun _ => ?_ | apply ih0 | apply ih1 | apply ih2 | apply ih3 | apply ih4 | apply ih5)); (focus intro y0 y1 y2 y3 y4 y5 y6; (unfold theorboref01_Check.j4); (repeat' first | (with_reducible first | apply ih0 | apply ih1 | apply ih2 | apply ih3 | apply ih4 | apply ih5 | exact LeO.refl _ | exact LeO.none _ | refine LeO.ite ?_ ?_ | refine LeO.bind ?_ fun _ => ?_) | exact LeO.none _ | refine LeO.ite ?_ ?_ | refine LeO.bind ?_ fun _ => ?_ | apply ih0 | apply ih1 | apply ih2 | apply ih3 | apply ih4 | apply ih5)); (focus intro y0 y1 y2 y3 y4 y5 y6; (unfold theorboref01_Check.j5); (repeat' first | (with_reducible first | apply ih0 | apply ih1 | apply ih2 | apply ih3 | apply ih4 | apply ih5 | exact LeO.refl _ | exact LeO.none _ | refine LeO.ite ?_ ?_ | refine LeO.bind ?_ fun _ => ?_) | exact LeO.none _ | refine LeO.ite ?_ ?_ | refine LeO.bind ?_ fun _ => ?_ | apply ih0 | apply ih1 | apply ih2 | apply ih3 | apply ih4 | apply ih5))
theorem theorboref01_Check.mono : ∀ a0 a1 k, LeO (theorboref01_Check.f k a0 a1) (theorboref01_Check.f (k + 1) a0 a1) := by
  intro a0 a1 k
  obtain ⟨ih0, ih1, ih2, ih3, ih4, ih5⟩ := theorboref01_Check.mono_l k
  unfold theorboref01_Check.f
  repeat' first | (with_reducible first | apply ih0 | apply ih1 | apply ih2 | apply ih3 | apply ih4 | apply ih5 | exact LeO.refl _ | exact LeO.none _ | refine LeO.ite ?_ ?_ | refine LeO.bind ?_ fun _ => ?_) | exact LeO.none _ | refine LeO.ite ?_ ?_ | refine LeO.bind ?_ fun _ => ?_ | apply ih0 | apply ih1 | apply ih2 | apply ih3 | apply ih4 | apply ih5
set_option maxHeartbeats 8000000 in
set_option maxRecDepth 100000 in
theorem theorboref01_Check.calls (k : Nat) (A0_0 : Option Addr) (c0_0 : Nat) (l0_0 : List (S99)) (A0_1 : Option Addr) (c0_1 : Nat) (l0_1 : List Int) (r : Int) (w : World) (hr0_0 : Kd.C k99 w A0_0 l0_0.length l0_0) (hc0_0 : l0_0.length ≤ c0_0) (hr0_1 : Kd.C (Kd.int .i64) w A0_1 l0_1.length l0_1) (hc0_1 : l0_1.length ≤ c0_1) (h : theorboref01_Check.f k l0_0 l0_1 = some r) :
    Calls Tryz.prog 40 #[.agg #[.slice A0_0 l0_0.length c0_0, .slice A0_1 l0_1.length c0_1]] w fun e w' => e = .returned (.int .i64 r) ∧ Below w.heap.size w w' := by
  have hu26 := Tryz.underlying26
  have hu99 := Tryz.underlying99
  have HR0_0 := Aside0.mk hr0_0
  have HC0_0 := Aside0.mk hc0_0
  clear hr0_0 hc0_0
  have HR0_1 := Aside0.mk hr0_1
  have HC0_1 := Aside0.mk hc0_1
  clear hr0_1 hc0_1
  have HB := Aside0.mk (Below.refl w.heap.size w)
  have H : (if (l0_0.length : Int) > 14 then (theorboref01_Check.j0 k true l0_0 l0_1) else (theorboref01_Check.j0 k (decide ((l0_1.length : Int) > 18)) l0_0 l0_1)) = some r := h
  clear h
  have HC2 := Aside0.mk H
  clear H
  go_enter Tryz.func40, Tryz.ntmps40
  go_upto_region 1 with (first | ((with_reducible refine gate_dst (N := 1) rfl ?_); (try (refine gate_guard (by rfl) ?_; dsimp only)); refine bx_ 1 #[.slice A0_0 l0_0.length c0_0, .slice A0_1 l0_1.length c0_1] 26 HB ?_; clear HB; intro gb478 w3 hg hb BK478 HB GW478; have GE478 := GW478; clear hg hb))
  (try simp only [Act.put, List.setIfInBounds_toArray, List.set_cons_zero, List.set_cons_succ])
  go_cut [17] (fun v17 wc => ∃ (kq : Nat) (x17_1 : Bool), v17 = .bool x17_1 ∧ Aside0 (theorboref01_Check.j0 kq x17_1 l0_0 l0_1 = some r) ∧ Aside0 (kq ≤ k) ∧ Aside0 (wc.heap[gb478]? = some (.cells #[(.slice A0_0 l0_0.length c0_0), (.slice A0_1 l0_1.length c0_1)] 26 (0, 0))) ∧ Aside0 (Below w.heap.size w wc))
  case first =>
    (have H := HC2.out); clear HC2; (by_cases c4 : (l0_0.length : Int) > 14)
    · rw [if_pos c4] at H
      (have c4b0 : decide (14 < (l0_0.length : Int)) = true := decide_eq_true c4); (have c4b1 : decide (14 < l0_0.length) = true := decide_eq_true (by omega)); clear c4; ((first | rw [c4b0] | rw [c4b1] | (simp only [i64_w, i32_w]; rw [c4b0]) | skip)); (have H' := Aside0.mk H); clear H; (have hcz5 := blk_cell BK478.out); (have hfz5 := blk_frozen BK478.out); (go_wp2); (go_meet)
      case rel => exact ⟨_, (true), (rs_), H', ⟨om_⟩, ⟨bk_ BK478⟩, ⟨bl_ HB⟩⟩
    · rw [if_neg c4] at H
      (have c4b0 : decide (14 < (l0_0.length : Int)) = false := decide_eq_false c4); (have c4b1 : decide (14 < l0_0.length) = false := decide_eq_false (by omega)); clear c4; ((first | rw [c4b0] | rw [c4b1] | (simp only [i64_w, i32_w]; rw [c4b0]) | skip)); (have H' := Aside0.mk H); clear H; (have hcz6 := blk_cell BK478.out); (have hfz6 := blk_frozen BK478.out); (go_wp2); (go_meet)
      case rel => exact ⟨_, (decide ((l0_1.length : Int) > 18)), (rs_), H', ⟨om_⟩, ⟨bk_ BK478⟩, ⟨bl_ HB⟩⟩
  case rest =>
    clear HC2; (obtain ⟨kq, x17_1, rfl, HA, HJ1, BK478, HB⟩ := hcut)
    cases kq with
    | zero => exact absurd HA.out (by simp [theorboref01_Check.j0])
    | succ kj1 =>
      (have H := HA.out); clear HA; (simp only [theorboref01_Check.j0] at H); (by_cases c7 : x17_1 = true)
      · subst c7
        (rw [if_pos rfl] at H); (obtain rfl := Option.some.inj H); (go_wp2); (go_ret); (exact ⟨rv_, bl_ HB⟩)
      · replace c7 := Bool.eq_false_iff.mpr c7
        subst c7; (rw [if_neg Bool.false_ne_true] at H); (have HC8 := Aside0.mk H); clear H; (have hcz9 := blk_cell BK478.out); (have hfz9 := blk_frozen BK478.out); (go_upto_if 21 with (fail)); (have H := HC8.out); clear HC8; (by_cases c10 : (l0_0.length : Int) = 0)
        · rw [if_pos c10] at H
          (obtain ⟨c10b0, c10b1⟩ := eqT_ c10); clear c10; ((first | rw [c10b0] | rw [c10b1] | (simp only [i64_w, i32_w]; rw [c10b0]) | skip)); (obtain rfl := Option.some.inj H); (go_wp2); (go_ret); (exact ⟨rv_, bl_ HB⟩)
        · rw [if_neg c10] at H
          (obtain ⟨c10b0, c10b1⟩ := eqF_ c10); (have c10b2 : ¬ (l0_0 = []) := fun h_ => c10 (by rw [h_]; rfl)); ((first | rw [c10b0] | rw [c10b1] | (simp only [i64_w, i32_w]; rw [c10b0]) | skip)); (have H' := Aside0.mk H); clear H; (go_wp2); (go_loopg [3, 4] kj1 (fun kq v3 v4 w' => ∃ (x3_2 : Int) (x4_2 : Int), v3 = .int .i64 x3_2 ∧ v4 = .int .i64 x4_2 ∧ Aside0 (theorboref01_Check.l0 kq x3_2 x4_2 l0_0 l0_1 = some r) ∧ Aside0 (kq ≤ kj1) ∧ Aside0 (w'.heap[gb478]? = some (.cells #[(.slice A0_0 l0_0.length c0_0), (.slice A0_1 l0_1.length c0_1)] 26 (0, 0))) ∧ Aside0 (Below w.heap.size w w')))
          case atStart => exact ⟨(0), (0), (rs_), (rs_), H', ⟨Nat.le_refl _⟩, ⟨bk_ BK478⟩, ⟨bl_ HB⟩⟩
          case round =>
            clear H'; (try clear c7 c10b0 c10b1 c10b2 hcz9 hfz9); (obtain ⟨x3_2, x4_2, rfl, rfl, HA, HK2, BK478, HB⟩ := hrel)
            cases gk with
            | zero => exact absurd HA.out (by simp [theorboref01_Check.l0])
            | succ k2 =>
              (have H := HA.out); clear HA; (simp only [theorboref01_Check.l0] at H); (have HC11 := Aside0.mk H); clear H; (have hcz12 := blk_cell BK478.out); (have hfz12 := blk_frozen BK478.out); (go_upto_if 26 with (fail)); (have H := HC11.out); clear HC11; (by_cases c13 : x4_2 < (l0_1.length : Int))
              · rw [if_pos c13] at H
                (have c13b0 := decide_eq_true c13); clear c13; ((first | rw [c13b0] | (simp only [i64_w, i32_w]; rw [c13b0]) | skip)); (by_cases c14 : 0 ≤ x4_2)
                · rw [if_pos c14] at H
                  (have c14b0 := decide_eq_true c14); clear c14; (by_cases c15 : (rd l0_1 x4_2) ≤ x3_2)
                  · rw [if_pos c15] at H
                    (have c15b0 := decide_eq_true c15); clear c15; (obtain rfl := Option.some.inj H); (have hcz16 := blk_cell BK478.out); (have hfz16 := blk_frozen BK478.out); (have p479 : 0 ≤ (x4_2 : Int) := of_decide_eq_true (by first | (with_reducible assumption) | assumption)); (have q479 : x4_2 < (l0_1.length : Int) := of_decide_eq_true (by first | (with_reducible assumption) | assumption)); (obtain ⟨ad479, e479, hx479_0⟩ := Kd.at_int HR0_1.out x4_2 p479 q479)
                    cases e479
                    (replace hx479_0 := pw_cell_below HB.out hx479_0); (replace p479 := eq_true p479); (replace q479 := eq_true q479); (go_wp2); (go_ret); (exact ⟨rv_, bl_ HB⟩)
                  · rw [if_neg c15] at H
                    (have c15b0 := decide_eq_false c15); clear c15; (have HC17 := Aside0.mk H); clear H; (have hcz18 := blk_cell BK478.out); (have hfz18 := blk_frozen BK478.out); (have p479 : 0 ≤ (x4_2 : Int) := of_decide_eq_true (by first | (with_reducible assumption) | assumption)); (have q479 : x4_2 < (l0_1.length : Int) := of_decide_eq_true (by first | (with_reducible assumption) | assumption)); (obtain ⟨ad479, e479, hx479_0⟩ := Kd.at_int HR0_1.out x4_2 p479 q479)
                    cases e479
                    (replace hx479_0 := pw_cell_below HB.out hx479_0); (replace p479 := eq_true p479); (replace q479 := eq_true q479); (have p480 : 0 ≤ (x4_2 : Int) := of_decide_eq_true (by first | (with_reducible assumption) | assumption)); (have q480 : x4_2 < (l0_1.length : Int) := of_decide_eq_true (by first | (with_reducible assumption) | assumption)); (obtain ⟨ad480, e480, hx480_0⟩ := Kd.at_int HR0_1.out x4_2 p480 q480); (obtain rfl : ad479 = ad480 := (by injection e480)); (replace hx480_0 := pw_cell_below HB.out hx480_0); (replace p480 := eq_true p480); (replace q480 := eq_true q480); (go_upto_if 43 with (fail)); (have H := HC17.out); clear HC17; (by_cases c19 : (rd l0_1 x4_2) > 127)
                    · rw [if_pos c19] at H
                      (have c19b0 : decide (127 < (rd l0_1 x4_2)) = true := decide_eq_true c19); clear c19; ((first | rw [c19b0] | (simp only [i64_w, i32_w]; rw [c19b0]) | skip)); (obtain rfl := Option.some.inj H); (go_wp2); (go_ret); (exact ⟨rv_, bl_ HB⟩)
                    · rw [if_neg c19] at H
                      (have c19b0 : decide (127 < (rd l0_1 x4_2)) = false := decide_eq_false c19); clear c19; ((first | rw [c19b0] | (simp only [i64_w, i32_w]; rw [c19b0]) | skip)); (have H' := Aside0.mk H); clear H; (have hcz20 := blk_cell BK478.out); (have hfz20 := blk_frozen BK478.out); (have p481 : 0 ≤ (x4_2 : Int) := of_decide_eq_true (by first | (with_reducible assumption) | assumption)); (have q481 : x4_2 < (l0_1.length : Int) := of_decide_eq_true (by first | (with_reducible assumption) | assumption)); (obtain ⟨ad481, e481, hx481_0⟩ := Kd.at_int HR0_1.out x4_2 p481 q481); (obtain rfl : ad479 = ad481 := (by injection e481)); (replace hx481_0 := pw_cell_below HB.out hx481_0); (replace p481 := eq_true p481); (replace q481 := eq_true q481); (go_wp2); (go_roundg k2)
                      case measure => have := HJ1.out; have := HK2.out; omega
                      case rel => exact ⟨(rd l0_1 x4_2), (wrap64 (x4_2 + 1)), (rs_), (rs_), H', ⟨by have := HJ1.out; have := HK2.out; omega⟩, ⟨bk_ BK478⟩, ⟨bl_ HB⟩⟩
                · rw [if_neg c14] at H
                  exact absurd H (by simp)
              · rw [if_neg c13] at H
                (have c13b0 := decide_eq_false c13); clear c13; ((first | rw [c13b0] | (simp only [i64_w, i32_w]; rw [c13b0]) | skip)); (have H' := Aside0.mk H); clear H; (go_wp2); (go_loopg [5] k2 (fun kq v5 w' => ∃ (x5_3 : Int), v5 = .int .i64 x5_3 ∧ Aside0 (theorboref01_Check.l1 kq x5_3 l0_0 l0_1 = some r) ∧ Aside0 (kq ≤ k2) ∧ Aside0 (w'.heap[gb478]? = some (.cells #[(.slice A0_0 l0_0.length c0_0), (.slice A0_1 l0_1.length c0_1)] 26 (0, 0))) ∧ Aside0 (Below w.heap.size w w')))
                case atStart => exact ⟨(0), (rs_), H', ⟨Nat.le_refl _⟩, ⟨bk_ BK478⟩, ⟨bl_ HB⟩⟩
                case round =>
                  clear H'; (try clear c13b0 hcz12 hfz12); (obtain ⟨x5_3, rfl, HA, HK3, BK478, HB⟩ := hrel)
                  cases gk with
                  | zero => exact absurd HA.out (by simp [theorboref01_Check.l1])
                  | succ k3 =>
                    (have H := HA.out); clear HA; (simp only [theorboref01_Check.l1] at H); (have HC21 := Aside0.mk H); clear H; (have hcz22 := blk_cell BK478.out); (have hfz22 := blk_frozen BK478.out); (go_upto_if 53 with (fail)); (have H := HC21.out); clear HC21; (by_cases c23 : x5_3 < (l0_0.length : Int))
                    · rw [if_pos c23] at H
                      (have c23b0 := decide_eq_true c23); clear c23; ((first | rw [c23b0] | (simp only [i64_w, i32_w]; rw [c23b0]) | skip)); (by_cases c24 : 0 ≤ x5_3)
                      · rw [if_pos c24] at H
                        (have c24b0 := decide_eq_true c24); clear c24; (have HC25 := Aside0.mk H); clear H; (have hcz26 := blk_cell BK478.out); (have hfz26 := blk_frozen BK478.out); (have p482 : 0 ≤ (x5_3 : Int) := of_decide_eq_true (by first | (with_reducible assumption) | assumption)); (have q482 : x5_3 < (l0_0.length : Int) := of_decide_eq_true (by first | (with_reducible assumption) | assumption)); (obtain ⟨ad482, e482, hx482_0, hx482_1, hx482_2⟩ := at_T99 HR0_0.out x5_3 p482 q482)
                        cases e482
                        (replace hx482_0 := pw_cell_below HB.out hx482_0); (replace hx482_1 := pw_cell_below HB.out hx482_1); (replace hx482_2 := pw_cell_below HB.out hx482_2); (replace p482 := eq_true p482); (replace q482 := eq_true q482); (go_upto_region 16 with (first | ((with_reducible refine gate_dst (N := 6) rfl ?_); (try (refine gate_guard (by rfl) ?_; dsimp only)); refine bx_ 6 #[.int .i64 0, .int .i64 0, .bool false] 99 HB ?_; clear HB; intro gb483 w27 hg hb BK483 HB GW483; have GE483 := GW483; have NB478_483 := nl_ BK478 hg; have NB483_478 := ng_ BK478 hg; replace BK478 := bb_ BK478 hb; clear hg hb; have hnb28 := NB483_478.out; have hnc28 := NB478_483.out; have hcz29 := blk_cell BK483.out; have hfz29 := blk_frozen BK483.out))); ((try simp only [Act.put, List.setIfInBounds_toArray, List.set_cons_zero, List.set_cons_succ])); (go_cut [71] (fun v71 wc => ∃ (kq : Nat) (x71_24 : Bool), v71 = .bool x71_24 ∧ Aside0 (theorboref01_Check.j3 kq x5_3 x71_24 l0_0 l0_1 ((rd_T99 l0_0 x5_3).f0) ((rd_T99 l0_0 x5_3).f1) ((rd_T99 l0_0 x5_3).f2) = some r) ∧ Aside0 (kq ≤ k3) ∧ Aside0 (wc.heap[gb478]? = some (.cells #[(.slice (some ad482) l0_0.length c0_0), (.slice A0_1 l0_1.length c0_1)] 26 (0, 0))) ∧ Aside0 (wc.heap[gb483]? = some (.cells #[.int .i64 ((rd_T99 l0_0 x5_3).f0), .int .i64 ((rd_T99 l0_0 x5_3).f1), .bool ((rd_T99 l0_0 x5_3).f2)] 99 (0, 0))) ∧ Aside0 (Below w.heap.size w wc)))
                        case first =>
                          (have H := HC25.out); clear HC25; (by_cases c30 : ((rd_T99 l0_0 x5_3).f1) < 0)
                          · rw [if_pos c30] at H
                            (have c30b0 := decide_eq_true c30); clear c30; ((first | rw [c30b0] | (simp only [i64_w, i32_w]; rw [c30b0]) | skip)); (have H' := Aside0.mk H); clear H; (have hnb31 := NB483_478.out); (have hnc31 := NB478_483.out); (have hcz32 := blk_cell BK483.out); (have hfz32 := blk_frozen BK483.out); (go_wp2); (go_meet)
                            case rel => exact ⟨_, (true), (rs_), H', ⟨by have := HJ1.out; have := HK2.out; have := HK3.out; first | omega | exact Nat.le_refl _⟩, ⟨bk_ BK478⟩, ⟨bk_ BK483⟩, ⟨bl_ HB⟩⟩
                          · rw [if_neg c30] at H
                            (have c30b0 := decide_eq_false c30); clear c30; ((first | rw [c30b0] | (simp only [i64_w, i32_w]; rw [c30b0]) | skip)); (have H' := Aside0.mk H); clear H; (have hnb33 := NB483_478.out); (have hnc33 := NB478_483.out); (have hcz34 := blk_cell BK483.out); (have hfz34 := blk_frozen BK483.out); (have hcz35 := blk_cell BK478.out); (have hfz35 := blk_frozen BK478.out); (go_wp2); (go_meet)
                            case rel => exact ⟨_, (decide (((rd_T99 l0_0 x5_3).f1) > (l0_1.length : Int))), (rs_), H', ⟨by have := HJ1.out; have := HK2.out; have := HK3.out; first | omega | exact Nat.le_refl _⟩, ⟨bk_ BK478⟩, ⟨bk_ BK483⟩, ⟨bl_ HB⟩⟩
                        case rest =>
                          clear HC25; (try clear c23b0 c24b0 hcz22 hcz26 hcz29 hfz22 hfz26 hfz29 hx482_0 hx482_1 hx482_2 p482 q482); (obtain ⟨kq, x71_24, rfl, HA, HJ24, BK478, BK483, HB⟩ := hcut)
                          cases kq with
                          | zero => exact absurd HA.out (by simp [theorboref01_Check.j3])
                          | succ kj24 =>
                            (have H := HA.out); clear HA; (simp only [theorboref01_Check.j3] at H); (by_cases c36 : x71_24 = true)
                            · subst c36
                              (rw [if_pos rfl] at H); (obtain rfl := Option.some.inj H); (go_wp2); (go_ret); (exact ⟨rv_, bl_ HB⟩)
                            · replace c36 := Bool.eq_false_iff.mpr c36
                              subst c36; (rw [if_neg Bool.false_ne_true] at H); (have HC37 := Aside0.mk H); clear H; (go_upto_region 18 with (fail)); (go_cut [79] (fun v79 wc => ∃ (kq : Nat) (x79_36 : Bool), v79 = .bool x79_36 ∧ Aside0 (theorboref01_Check.j4 kq x5_3 x79_36 l0_0 l0_1 ((rd_T99 l0_0 x5_3).f0) ((rd_T99 l0_0 x5_3).f1) ((rd_T99 l0_0 x5_3).f2) = some r) ∧ Aside0 (kq ≤ kj24) ∧ Aside0 (wc.heap[gb478]? = some (.cells #[(.slice (some ad482) l0_0.length c0_0), (.slice A0_1 l0_1.length c0_1)] 26 (0, 0))) ∧ Aside0 (wc.heap[gb483]? = some (.cells #[.int .i64 ((rd_T99 l0_0 x5_3).f0), .int .i64 ((rd_T99 l0_0 x5_3).f1), .bool ((rd_T99 l0_0 x5_3).f2)] 99 (0, 0))) ∧ Aside0 (Below w.heap.size w wc)))
                              case first =>
                                (have H := HC37.out); clear HC37; (by_cases c38 : ((rd_T99 l0_0 x5_3).f0) < 0)
                                · rw [if_pos c38] at H
                                  (have c38b0 := decide_eq_true c38); clear c38; ((first | rw [c38b0] | (simp only [i64_w, i32_w]; rw [c38b0]) | skip)); (have H' := Aside0.mk H); clear H; (have hnb39 := NB483_478.out); (have hnc39 := NB478_483.out); (have hcz40 := blk_cell BK483.out); (have hfz40 := blk_frozen BK483.out); (go_wp2); (go_meet)
                                  case rel => exact ⟨_, (true), (rs_), H', ⟨by have := HJ1.out; have := HK2.out; have := HK3.out; have := HJ24.out; first | omega | exact Nat.le_refl _⟩, ⟨bk_ BK478⟩, ⟨bk_ BK483⟩, ⟨bl_ HB⟩⟩
                                · rw [if_neg c38] at H
                                  (have c38b0 := decide_eq_false c38); clear c38; ((first | rw [c38b0] | (simp only [i64_w, i32_w]; rw [c38b0]) | skip)); (have H' := Aside0.mk H); clear H; (have hnb41 := NB483_478.out); (have hnc41 := NB478_483.out); (have hcz42 := blk_cell BK483.out); (have hfz42 := blk_frozen BK483.out); (go_wp2); (go_meet)
                                  case rel => exact ⟨_, (decide (((rd_T99 l0_0 x5_3).f0) > 127)), (rs_), H', ⟨by have := HJ1.out; have := HK2.out; have := HK3.out; have := HJ24.out; first | omega | exact Nat.le_refl _⟩, ⟨bk_ BK478⟩, ⟨bk_ BK483⟩, ⟨bl_ HB⟩⟩
                              case rest =>
                                clear HC37; (try clear c36); (obtain ⟨kq, x79_36, rfl, HA, HJ36, BK478, BK483, HB⟩ := hcut)
                                cases kq with
                                | zero => exact absurd HA.out (by simp [theorboref01_Check.j4])
                                | succ kj36 =>
                                  (have H := HA.out); clear HA; (simp only [theorboref01_Check.j4] at H); (by_cases c43 : x79_36 = true)
                                  · subst c43
                                    (rw [if_pos rfl] at H); (obtain rfl := Option.some.inj H); (go_wp2); (go_ret); (exact ⟨rv_, bl_ HB⟩)
                                  · replace c43 := Bool.eq_false_iff.mpr c43
                                    subst c43; (rw [if_neg Bool.false_ne_true] at H); (have HC44 := Aside0.mk H); clear H; (have hnb45 := NB483_478.out); (have hnc45 := NB478_483.out); (have hcz46 := blk_cell BK483.out); (have hfz46 := blk_frozen BK483.out); (go_upto_if 84 with (fail)); (go_cut [7] (fun v7 wc => ∃ (kq : Nat) (x7_43 : Int), v7 = .int .i64 x7_43 ∧ Aside0 (theorboref01_Check.j5 kq x5_3 x7_43 l0_0 l0_1 ((rd_T99 l0_0 x5_3).f0) ((rd_T99 l0_0 x5_3).f1) ((rd_T99 l0_0 x5_3).f2) = some r) ∧ Aside0 (kq ≤ kj36) ∧ Aside0 (wc.heap[gb478]? = some (.cells #[(.slice (some ad482) l0_0.length c0_0), (.slice A0_1 l0_1.length c0_1)] 26 (0, 0))) ∧ Aside0 (wc.heap[gb483]? = some (.cells #[.int .i64 ((rd_T99 l0_0 x5_3).f0), .int .i64 ((rd_T99 l0_0 x5_3).f1), .bool ((rd_T99 l0_0 x5_3).f2)] 99 (0, 0))) ∧ Aside0 (Below w.heap.size w wc)))
                                    case first =>
                                      (have H := HC44.out); clear HC44; (by_cases c47 : ((rd_T99 l0_0 x5_3).f1) > 0)
                                      · rw [if_pos c47] at H
                                        (have c47b0 : decide (0 < ((rd_T99 l0_0 x5_3).f1)) = true := decide_eq_true c47); clear c47; ((first | rw [c47b0] | (simp only [i64_w, i32_w]; rw [c47b0]) | skip)); (obtain ⟨ji48, hji48⟩ : ∃ j_ : Int, (wrap64 (((rd_T99 l0_0 x5_3).f1) - 1)) = j_ := ⟨_, rfl⟩); (replace H : (if 0 ≤ (ji48) then (if (ji48) < (l0_1.length : Int) then (theorboref01_Check.j5 kj36 x5_3 (wrap64 (((rd_T99 l0_0 x5_3).f0) + (rd l0_1 (ji48)))) l0_0 l0_1 ((rd_T99 l0_0 x5_3).f0) ((rd_T99 l0_0 x5_3).f1) ((rd_T99 l0_0 x5_3).f2)) else (none)) else (none)) = some r := by first | (rw [hji48] at H; exact H) | (simp only [hji48] at H ⊢; exact H)); (have hji48w : (IntKind.i64.wrap (((rd_T99 l0_0 x5_3).f1) - 1)) = ji48 := (i64_w _).trans hji48); (by_cases c49 : 0 ≤ (ji48))
                                        · rw [if_pos c49] at H
                                          (have c49b0 := decide_eq_true c49); clear c49; (by_cases c50 : (ji48) < (l0_1.length : Int))
                                          · rw [if_pos c50] at H
                                            (have c50b0 := decide_eq_true c50); clear c50; (have H' := Aside0.mk H); clear H; (have hnb51 := NB478_483.out); (have hnc51 := NB483_478.out); (have hcz52 := blk_cell BK478.out); (have hfz52 := blk_frozen BK478.out); (have hcz53 := blk_cell BK483.out); (have hfz53 := blk_frozen BK483.out); (have p484 : 0 ≤ ((ji48) : Int) := of_decide_eq_true (by first | (with_reducible assumption) | assumption)); (have q484 : (ji48) < (l0_1.length : Int) := of_decide_eq_true (by first | (with_reducible assumption) | assumption)); (obtain ⟨ad484, e484, hx484_0⟩ := Kd.at_int HR0_1.out (ji48) p484 q484)
                                            cases e484
                                            (replace hx484_0 := pw_cell_below HB.out hx484_0); (replace p484 := eq_true p484); (replace q484 := eq_true q484); (go_wp2); (go_meet)
                                            case rel => exact ⟨_, (wrap64 (((rd_T99 l0_0 x5_3).f0) + (rd l0_1 (ji48)))), (by first | rfl | (simp; done) | (simp only [← hji48] <;> (first | rfl | simp)) | (simp [*]; done)), H', ⟨by have := HJ1.out; have := HK2.out; have := HK3.out; have := HJ24.out; have := HJ36.out; first | omega | exact Nat.le_refl _⟩, ⟨bk_ BK478⟩, ⟨bk_ BK483⟩, ⟨bl_ HB⟩⟩
                                          · rw [if_neg c50] at H
                                            exact absurd H (by simp)
                                        · rw [if_neg c49] at H
                                          exact absurd H (by simp)
                                      · rw [if_neg c47] at H
                                        (have c47b0 : decide (0 < ((rd_T99 l0_0 x5_3).f1)) = false := decide_eq_false c47); clear c47; ((first | rw [c47b0] | (simp only [i64_w, i32_w]; rw [c47b0]) | skip)); (have H' := Aside0.mk H); clear H; (go_wp2); (go_meet)
                                        case rel => exact ⟨_, (((rd_T99 l0_0 x5_3).f0)), (rs_), H', ⟨by have := HJ1.out; have := HK2.out; have := HK3.out; have := HJ24.out; have := HJ36.out; first | omega | exact Nat.le_refl _⟩, ⟨bk_ BK478⟩, ⟨bk_ BK483⟩, ⟨bl_ HB⟩⟩
                                    case rest =>
                                      clear HC44; (try clear c43 hcz46 hfz46); (obtain ⟨kq, x7_43, rfl, HA, HJ43, BK478, BK483, HB⟩ := hcut)
                                      cases kq with
                                      | zero => exact absurd HA.out (by simp [theorboref01_Check.j5])
                                      | succ kj43 =>
                                        (have H := HA.out); clear HA; (simp only [theorboref01_Check.j5] at H); (have HC54 := Aside0.mk H); clear H; (have hnb55 := NB483_478.out); (have hnc55 := NB478_483.out); (have hcz56 := blk_cell BK483.out); (have hfz56 := blk_frozen BK483.out); (go_upto_if 95 with (fail)); (have H := HC54.out); clear HC54; (by_cases c57 : ((rd_T99 l0_0 x5_3).f2) = true)
                                        · rw [if_pos c57] at H
                                          (have c57b0 : ((rd_T99 l0_0 x5_3).f2) = true := c57); clear c57; ((first | rw [c57b0] | (simp only [i64_w, i32_w]; rw [c57b0]) | skip)); (by_cases c58 : (wrap64 (x7_43 + 12)) > 127)
                                          · rw [if_pos c58] at H
                                            (have c58b0 : decide (127 < (wrap64 (x7_43 + 12))) = true := decide_eq_true c58); clear c58; (obtain rfl := Option.some.inj H); (go_wp2); (go_ret); (exact ⟨rv_, bl_ HB⟩)
                                          · rw [if_neg c58] at H
                                            (have c58b0 : decide (127 < (wrap64 (x7_43 + 12))) = false := decide_eq_false c58); clear c58; (have H' := Aside0.mk H); clear H; (go_wp2); (go_roundg kj43)
                                            case measure => have := HJ1.out; have := HK2.out; have := HK3.out; have := HJ24.out; have := HJ36.out; have := HJ43.out; omega
                                            case rel => exact ⟨(wrap64 (x5_3 + 1)), (rs_), H', ⟨by have := HJ1.out; have := HK2.out; have := HK3.out; have := HJ24.out; have := HJ36.out; have := HJ43.out; omega⟩, ⟨bk_ BK478⟩, ⟨bl_ HB⟩⟩
                                        · rw [if_neg c57] at H
                                          (have c57b0 : ((rd_T99 l0_0 x5_3).f2) = false := by simpa using c57); clear c57; ((first | rw [c57b0] | (simp only [i64_w, i32_w]; rw [c57b0]) | skip)); (by_cases c59 : x7_43 > 127)
                                          · rw [if_pos c59] at H
                                            (have c59b0 : decide (127 < x7_43) = true := decide_eq_true c59); clear c59; (obtain rfl := Option.some.inj H); (go_wp2); (go_ret); (exact ⟨rv_, bl_ HB⟩)
                                          · rw [if_neg c59] at H
                                            (have c59b0 : decide (127 < x7_43) = false := decide_eq_false c59); clear c59; (have H' := Aside0.mk H); clear H; (go_wp2); (go_roundg kj43)
                                            case measure => have := HJ1.out; have := HK2.out; have := HK3.out; have := HJ24.out; have := HJ36.out; have := HJ43.out; omega
                                            case rel => exact ⟨(wrap64 (x5_3 + 1)), (rs_), H', ⟨by have := HJ1.out; have := HK2.out; have := HK3.out; have := HJ24.out; have := HJ36.out; have := HJ43.out; omega⟩, ⟨bk_ BK478⟩, ⟨bl_ HB⟩⟩
                      · rw [if_neg c24] at H
                        exact absurd H (by simp)
                    · rw [if_neg c23] at H
                      (have c23b0 := decide_eq_false c23); clear c23; ((first | rw [c23b0] | (simp only [i64_w, i32_w]; rw [c23b0]) | skip)); (obtain rfl := Option.some.inj H); (go_wp2); (go_ret); (exact ⟨rv_, bl_ HB⟩)

/-! ### theorboref02_Rest: function 42 -/
def theorboref02_Rest.f (a0_0 : Bool) (a0_1 : Int) (a0_2 : Bool) (a0_3 : Bool) (a0_4 : Bool) (l0_5 : List (S54)) : Option (Bool) := if (l0_5.length : Int) = 0 then (some (!a0_4)) else (some false)
set_option maxHeartbeats 8000000 in
set_option maxRecDepth 100000 in
theorem theorboref02_Rest.calls (a0_0 : Bool) (a0_1 : Int) (a0_2 : Bool) (a0_3 : Bool) (a0_4 : Bool) (A0_5 : Option Addr) (c0_5 : Nat) (l0_5 : List (S54)) (r : Bool) (w : World) (hr0_5 : Kd.C k54 w A0_5 l0_5.length l0_5) (hc0_5 : l0_5.length ≤ c0_5) (h : theorboref02_Rest.f a0_0 a0_1 a0_2 a0_3 a0_4 l0_5 = some r) :
    Calls Tryz.prog 42 #[.agg #[.bool a0_0, .int .i64 a0_1, .bool a0_2, .bool a0_3, .bool a0_4, .slice A0_5 l0_5.length c0_5]] w fun e w' => e = .returned (.bool r) ∧ Below w.heap.size w w' := by
  have hu46 := Tryz.underlying46
  have HR0_5 := Aside0.mk hr0_5
  have HC0_5 := Aside0.mk hc0_5
  clear hr0_5 hc0_5
  have HB := Aside0.mk (Below.refl w.heap.size w)
  have H : (if (l0_5.length : Int) = 0 then (some (!a0_4)) else (some false)) = some r := h
  clear h
  by_cases c2 : (l0_5.length : Int) = 0
  · rw [if_pos c2] at H
    (obtain ⟨c2b0, c2b1⟩ := eqT_ c2); clear c2; (obtain rfl := Option.some.inj H); (go_enter Tryz.func42, Tryz.ntmps42); (go_wp2_with (first | (refine bx_ 1 #[.bool a0_0, .int .i64 a0_1, .bool a0_2, .bool a0_3, .bool a0_4, .slice A0_5 l0_5.length c0_5] 46 HB ?_; clear HB; intro gb485 w3 hg hb BK485 HB GW485; have GE485 := GW485; clear hg hb; have hcz4 := blk_cell BK485.out; have hfz4 := blk_frozen BK485.out))); (go_ret); (exact ⟨rv_, bl_ HB⟩)
  · rw [if_neg c2] at H
    (obtain ⟨c2b0, c2b1⟩ := eqF_ c2); (have c2b2 : ¬ (l0_5 = []) := fun h_ => c2 (by rw [h_]; rfl)); (obtain rfl := Option.some.inj H); (go_enter Tryz.func42, Tryz.ntmps42); (go_wp2_with (first | (refine bx_ 1 #[.bool a0_0, .int .i64 a0_1, .bool a0_2, .bool a0_3, .bool a0_4, .slice A0_5 l0_5.length c0_5] 46 HB ?_; clear HB; intro gb485 w5 hg hb BK485 HB GW485; have GE485 := GW485; clear hg hb; have hcz6 := blk_cell BK485.out; have hfz6 := blk_frozen BK485.out))); (go_ret); (exact ⟨rv_, bl_ HB⟩)

/-! ### theorboref02_Has: function 60 -/
def theorboref02_Has.l0 : Nat → Int → Int → Bool → Int → Bool → Bool → Bool → List (S54) → Option (Bool)
  | 0, _, _, _, _, _, _, _, _ => none
  | k + 1, x1, x5, x490000, x490001, x490002, x490003, x490004, x490005 => if x5 < (x490005.length : Int) then (if 0 ≤ x5 then (if ((rd_T54 x490005 x5).f0) = x1 then (some true) else (theorboref02_Has.l0 k x1 (wrap64 (x5 + 1)) x490000 x490001 x490002 x490003 x490004 x490005)) else (none)) else (some false)
def theorboref02_Has.f (k : Nat) (a0_0 : Bool) (a0_1 : Int) (a0_2 : Bool) (a0_3 : Bool) (a0_4 : Bool) (l0_5 : List (S54)) (a1 : Int) : Option (Bool) := theorboref02_Has.l0 k a1 0 a0_0 a0_1 a0_2 a0_3 a0_4 l0_5
theorem theorboref02_Has.mono_l : ∀ k, (∀ y0 y1 y2 y3 y4 y5 y6 y7, LeO (theorboref02_Has.l0 k y0 y1 y2 y3 y4 y5 y6 y7) (theorboref02_Has.l0 (k + 1) y0 y1 y2 y3 y4 y5 y6 y7))
  | 0 => fun _ _ _ _ _ _ _ _ r h => by simp [theorboref02_Has.l0] at h
  | k + 1 => by
    (have ih0 := theorboref02_Has.mono_l k); (focus intro y0 y1 y2 y3 y4 y5 y6 y7; (unfold theorboref02_Has.l0); (repeat' first | (with_reducible first | apply ih0 | exact LeO.refl _ | exact LeO.none _ | refine LeO.ite ?_ ?_ | refine LeO.bind ?_ fun _ => ?_) | exact LeO.none _ | refine LeO.ite ?_ ?_ | refine LeO.bind ?_ fun _ => ?_ | apply ih0))
theorem theorboref02_Has.mono : ∀ a0 a1 a2 a3 a4 a5 a6 k, LeO (theorboref02_Has.f k a0 a1 a2 a3 a4 a5 a6) (theorboref02_Has.f (k + 1) a0 a1 a2 a3 a4 a5 a6) := by
  intro a0 a1 a2 a3 a4 a5 a6 k
  have ih0 := theorboref02_Has.mono_l k
  unfold theorboref02_Has.f
  repeat' first | (with_reducible first | apply ih0 | exact LeO.refl _ | exact LeO.none _ | refine LeO.ite ?_ ?_ | refine LeO.bind ?_ fun _ => ?_) | exact LeO.none _ | refine LeO.ite ?_ ?_ | refine LeO.bind ?_ fun _ => ?_ | apply ih0
set_option maxHeartbeats 8000000 in
set_option maxRecDepth 100000 in
theorem theorboref02_Has.calls (k : Nat) (a0_0 : Bool) (a0_1 : Int) (a0_2 : Bool) (a0_3 : Bool) (a0_4 : Bool) (A0_5 : Option Addr) (c0_5 : Nat) (l0_5 : List (S54)) (a1 : Int) (r : Bool) (w : World) (hr0_5 : Kd.C k54 w A0_5 l0_5.length l0_5) (hc0_5 : l0_5.length ≤ c0_5) (h : theorboref02_Has.f k a0_0 a0_1 a0_2 a0_3 a0_4 l0_5 a1 = some r) :
    Calls Tryz.prog 60 #[.agg #[.bool a0_0, .int .i64 a0_1, .bool a0_2, .bool a0_3, .bool a0_4, .slice A0_5 l0_5.length c0_5], .int .i64 a1] w fun e w' => e = .returned (.bool r) ∧ Below w.heap.size w w' := by
  have hu46 := Tryz.underlying46
  have HR0_5 := Aside0.mk hr0_5
  have HC0_5 := Aside0.mk hc0_5
  clear hr0_5 hc0_5
  have HB := Aside0.mk (Below.refl w.heap.size w)
  have H : (theorboref02_Has.l0 k a1 0 a0_0 a0_1 a0_2 a0_3 a0_4 l0_5) = some r := h
  clear h
  have H' := Aside0.mk H
  clear H
  go_enter Tryz.func60, Tryz.ntmps60
  go_wp2_with (first | (refine bx_ 2 #[.bool a0_0, .int .i64 a0_1, .bool a0_2, .bool a0_3, .bool a0_4, .slice A0_5 l0_5.length c0_5] 46 HB ?_; clear HB; intro gb489 w3 hg hb BK489 HB GW489; have GE489 := GW489; clear hg hb))
  go_loopg [5] k (fun kq v5 w' => ∃ (x5_1 : Int), v5 = .int .i64 x5_1 ∧ Aside0 (theorboref02_Has.l0 kq a1 x5_1 a0_0 a0_1 a0_2 a0_3 a0_4 l0_5 = some r) ∧ Aside0 (kq ≤ k) ∧ Aside0 (w'.heap[gb489]? = some (.cells #[.bool a0_0, .int .i64 a0_1, .bool a0_2, .bool a0_3, .bool a0_4, (.slice A0_5 l0_5.length c0_5)] 46 (0, 0))) ∧ Aside0 (Below w.heap.size w w'))
  case atStart => exact ⟨(0), (rs_), H', ⟨Nat.le_refl _⟩, ⟨bk_ BK489⟩, ⟨bl_ HB⟩⟩
  case round =>
    clear H'; (obtain ⟨x5_1, rfl, HA, HK1, BK489, HB⟩ := hrel)
    cases gk with
    | zero => exact absurd HA.out (by simp [theorboref02_Has.l0])
    | succ k1 =>
      (have H := HA.out); clear HA; (simp only [theorboref02_Has.l0] at H); (have HC4 := Aside0.mk H); clear H; (have hcz5 := blk_cell BK489.out); (have hfz5 := blk_frozen BK489.out); (go_upto_if 10 with (fail)); (have H := HC4.out); clear HC4; (by_cases c6 : x5_1 < (l0_5.length : Int))
      · rw [if_pos c6] at H
        (have c6b0 := decide_eq_true c6); clear c6; ((first | rw [c6b0] | (simp only [i64_w, i32_w]; rw [c6b0]) | skip)); (by_cases c7 : 0 ≤ x5_1)
        · rw [if_pos c7] at H
          (have c7b0 := decide_eq_true c7); clear c7; (have HC8 := Aside0.mk H); clear H; (have hcz9 := blk_cell BK489.out); (have hfz9 := blk_frozen BK489.out); (have p490 : 0 ≤ (x5_1 : Int) := of_decide_eq_true (by first | (with_reducible assumption) | assumption)); (have q490 : x5_1 < (l0_5.length : Int) := of_decide_eq_true (by first | (with_reducible assumption) | assumption)); (obtain ⟨ad490, e490, hx490_0, hx490_1, hx490_2, hx490_3, hx490_4⟩ := at_T54 HR0_5.out x5_1 p490 q490)
          cases e490
          (replace hx490_0 := pw_cell_below HB.out hx490_0); (replace hx490_1 := pw_cell_below HB.out hx490_1); (replace hx490_2 := pw_cell_below HB.out hx490_2); (replace hx490_3 := pw_cell_below HB.out hx490_3); (replace hx490_4 := pw_cell_below HB.out hx490_4); (replace p490 := eq_true p490); (replace q490 := eq_true q490); (go_upto_if 20 with (fail)); (have H := HC8.out); clear HC8; (by_cases c10 : ((rd_T54 l0_5 x5_1).f0) = a1)
          · rw [if_pos c10] at H
            (obtain ⟨c10b0, c10b1⟩ := eqT_ c10); clear c10; ((first | rw [c10b0] | rw [c10b1] | (simp only [i64_w, i32_w]; rw [c10b0]) | skip)); (obtain rfl := Option.some.inj H); (go_wp2); (go_ret); (exact ⟨rv_, bl_ HB⟩)
          · rw [if_neg c10] at H
            (obtain ⟨c10b0, c10b1⟩ := eqF_ c10); ((first | rw [c10b0] | rw [c10b1] | (simp only [i64_w, i32_w]; rw [c10b0]) | skip)); (have H' := Aside0.mk H); clear H; (go_wp2); (go_roundg k1)
            case measure => have := HK1.out; omega
            case rel => exact ⟨(wrap64 (x5_1 + 1)), (rs_), H', ⟨by have := HK1.out; omega⟩, ⟨bk_ BK489⟩, ⟨bl_ HB⟩⟩
        · rw [if_neg c7] at H
          exact absurd H (by simp)
      · rw [if_neg c6] at H
        (have c6b0 := decide_eq_false c6); clear c6; ((first | rw [c6b0] | (simp only [i64_w, i32_w]; rw [c6b0]) | skip)); (obtain rfl := Option.some.inj H); (go_wp2); (go_ret); (exact ⟨rv_, bl_ HB⟩)

/-! ### theorboref02_Longest: function 44 -/
mutual
def theorboref02_Longest.j0 : Nat → Int → Int → Bool → List (S99) → List Int → List (S46) → Option (Int)
  | 0, _, _, _, _, _, _ => none
  | k + 1, x1, x2, x17, x497000, x497001, x497002 => if x17 = true then (some 0) else (theorboref02_Longest.l0 k x1 x2 0 x497000 x497001 x497002)
def theorboref02_Longest.l0 : Nat → Int → Int → Int → List (S99) → List Int → List (S46) → Option (Int)
  | 0, _, _, _, _, _, _ => none
  | k + 1, x1, x2, x7, x497000, x497001, x497002 => if x7 < 15 then (theorboref02_Longest.j2 k x1 x2 x7 (decide ((wrap64 ((wrap64 (x1 + x7)) + 1)) < (x497002.length : Int))) x497000 x497001 x497002) else (theorboref02_Longest.j2 k x1 x2 x7 false x497000 x497001 x497002)
def theorboref02_Longest.j2 : Nat → Int → Int → Int → Bool → List (S99) → List Int → List (S46) → Option (Int)
  | 0, _, _, _, _, _, _, _ => none
  | k + 1, x1, x2, x7, x29, x497000, x497001, x497002 => if x29 = true then (if 0 ≤ (wrap64 ((wrap64 (x1 + x7)) + 1)) then (if (wrap64 ((wrap64 (x1 + x7)) + 1)) < (x497002.length : Int) then ((theorboref02_Rest.f ((rd_T46 x497002 (wrap64 ((wrap64 (x1 + x7)) + 1))).f0) ((rd_T46 x497002 (wrap64 ((wrap64 (x1 + x7)) + 1))).f1.f0) ((rd_T46 x497002 (wrap64 ((wrap64 (x1 + x7)) + 1))).f1.f1) ((rd_T46 x497002 (wrap64 ((wrap64 (x1 + x7)) + 1))).f1.f2) ((rd_T46 x497002 (wrap64 ((wrap64 (x1 + x7)) + 1))).f2) ((rd_T46 x497002 (wrap64 ((wrap64 (x1 + x7)) + 1))).f3)).bind fun t499 => (if t499 = true then (some x7) else ((theorboref02_Has.f k ((rd_T46 x497002 (wrap64 ((wrap64 (x1 + x7)) + 1))).f0) ((rd_T46 x497002 (wrap64 ((wrap64 (x1 + x7)) + 1))).f1.f0) ((rd_T46 x497002 (wrap64 ((wrap64 (x1 + x7)) + 1))).f1.f1) ((rd_T46 x497002 (wrap64 ((wrap64 (x1 + x7)) + 1))).f1.f2) ((rd_T46 x497002 (wrap64 ((wrap64 (x1 + x7)) + 1))).f2) ((rd_T46 x497002 (wrap64 ((wrap64 (x1 + x7)) + 1))).f3) x2).bind fun t500 => (if t500 = true then (some x7) else (theorboref02_Longest.l0 k x1 x2 (wrap64 (x7 + 1)) x497000 x497001 x497002))))) else (none)) else (none)) else (some x7)
end
def theorboref02_Longest.f (k : Nat) (l0_0 : List (S99)) (l0_1 : List Int) (l0_2 : List (S46)) (a1 : Int) (a2 : Int) : Option (Int) := if a1 < 0 then (theorboref02_Longest.j0 k a1 a2 true l0_0 l0_1 l0_2) else (theorboref02_Longest.j0 k a1 a2 (decide (a1 ≥ (l0_2.length : Int))) l0_0 l0_1 l0_2)
theorem theorboref02_Longest.mono_l : ∀ k, (∀ y0 y1 y2 y3 y4 y5, LeO (theorboref02_Longest.j0 k y0 y1 y2 y3 y4 y5) (theorboref02_Longest.j0 (k + 1) y0 y1 y2 y3 y4 y5)) ∧ (∀ y0 y1 y2 y3 y4 y5, LeO (theorboref02_Longest.l0 k y0 y1 y2 y3 y4 y5) (theorboref02_Longest.l0 (k + 1) y0 y1 y2 y3 y4 y5)) ∧ (∀ y0 y1 y2 y3 y4 y5 y6, LeO (theorboref02_Longest.j2 k y0 y1 y2 y3 y4 y5 y6) (theorboref02_Longest.j2 (k + 1) y0 y1 y2 y3 y4 y5 y6))
  | 0 => ⟨fun _ _ _ _ _ _ r h => by simp [theorboref02_Longest.j0] at h, fun _ _ _ _ _ _ r h => by simp [theorboref02_Longest.l0] at h, fun _ _ _ _ _ _ _ r h => by simp [theorboref02_Longest.j2] at h⟩
  | k + 1 => by
    ((obtain ⟨ih0, ih1, ih2⟩ := theorboref02_Longest.mono_l k); (refine ⟨?_, ?_, ?_⟩)); (focus intro y0 y1 y2 y3 y4 y5; (unfold theorboref02_Longest.j0); (repeat' first | (with_reducible first | apply ih0 | apply ih1 | apply ih2 | apply theorboref02_Has.mono | exact LeO.refl _ | exact LeO.none _ | refine LeO.ite ?_ ?_ | refine LeO.bind ?_ fun _ => ?_) | exact LeO.none _ | refine LeO.ite ?_ ?_ | refine LeO.bind ?_ fun _ => ?_ | apply ih0 | apply ih1 | apply ih2 | apply theorboref02_Has.mono)); (focus intro y0 y1 y2 y3 y4 y5; (unfold theorboref02_Longest.l0); (repeat' first | (with_reducible first | apply ih0 | apply ih1 | apply ih2 | apply theorboref02_Has.mono | exact LeO.refl _ | exact LeO.none _ | refine LeO.ite ?_ ?_ | refine LeO.bind ?_ fun _ => ?_) | exact LeO.none _ | refine LeO.ite ?_ ?_ | refine LeO.bind ?_ fun _ => ?_ | apply ih0 | apply ih1 | apply ih2 | apply theorboref02_Has.mono)); (focus intro y0 y1 y2 y3 y4 y5 y6; (unfold theorboref02_Longest.j2); (repeat' first | (with_reducible first | apply ih0 | apply ih1 | apply ih2 | apply theorboref02_Has.mono | exact LeO.refl _ | exact LeO.none _ | refine LeO.ite ?_ ?_ | refine LeO.bind ?_ fun _ => ?_) | exact LeO.none _ | refine LeO.ite ?_ ?_ | refine LeO.bind ?_ fun _ => ?_ | apply ih0 | apply ih1 | apply ih2 | apply theorboref02_Has.mono))
theorem theorboref02_Longest.mono : ∀ a0 a1 a2 a3 a4 k, LeO (theorboref02_Longest.f k a0 a1 a2 a3 a4) (theorboref02_Longest.f (k + 1) a0 a1 a2 a3 a4) := by
  intro a0 a1 a2 a3 a4 k
  obtain ⟨ih0, ih1, ih2⟩ := theorboref02_Longest.mono_l k
  unfold theorboref02_Longest.f
  repeat' first | (with_reducible first | apply ih0 | apply ih1 | apply ih2 | apply theorboref02_Has.mono | exact LeO.refl _ | exact LeO.none _ | refine LeO.ite ?_ ?_ | refine LeO.bind ?_ fun _ => ?_) | exact LeO.none _ | refine LeO.ite ?_ ?_ | refine LeO.bind ?_ fun _ => ?_ | apply ih0 | apply ih1 | apply ih2 | apply theorboref02_Has.mono
set_option maxHeartbeats 8000000 in
set_option maxRecDepth 100000 in
theorem theorboref02_Longest.calls (k : Nat) (A0_0 : Option Addr) (c0_0 : Nat) (l0_0 : List (S99)) (A0_1 : Option Addr) (c0_1 : Nat) (l0_1 : List Int) (A0_2 : Option Addr) (c0_2 : Nat) (l0_2 : List (S46)) (a1 : Int) (a2 : Int) (r : Int) (w : World) (hr0_0 : Kd.C k99 w A0_0 l0_0.length l0_0) (hc0_0 : l0_0.length ≤ c0_0) (hr0_1 : Kd.C (Kd.int .i64) w A0_1 l0_1.length l0_1) (hc0_1 : l0_1.length ≤ c0_1) (hr0_2 : Kd.C k46 w A0_2 l0_2.length l0_2) (hc0_2 : l0_2.length ≤ c0_2) (h : theorboref02_Longest.f k l0_0 l0_1 l0_2 a1 a2 = some r) :
    Calls Tryz.prog 44 #[.agg #[.slice A0_0 l0_0.length c0_0, .slice A0_1 l0_1.length c0_1, .slice A0_2 l0_2.length c0_2], .int .i64 a1, .int .i64 a2] w fun e w' => e = .returned (.int .i64 r) ∧ Below w.heap.size w w' := by
  have hu29 := Tryz.underlying29
  have hu46 := Tryz.underlying46
  have HR0_0 := Aside0.mk hr0_0
  have HC0_0 := Aside0.mk hc0_0
  clear hr0_0 hc0_0
  have HR0_1 := Aside0.mk hr0_1
  have HC0_1 := Aside0.mk hc0_1
  clear hr0_1 hc0_1
  have HR0_2 := Aside0.mk hr0_2
  have HC0_2 := Aside0.mk hc0_2
  clear hr0_2 hc0_2
  have HB := Aside0.mk (Below.refl w.heap.size w)
  have H : (if a1 < 0 then (theorboref02_Longest.j0 k a1 a2 true l0_0 l0_1 l0_2) else (theorboref02_Longest.j0 k a1 a2 (decide (a1 ≥ (l0_2.length : Int))) l0_0 l0_1 l0_2)) = some r := h
  clear h
  have HC4 := Aside0.mk H
  clear H
  go_enter Tryz.func44, Tryz.ntmps44
  go_upto_region 1 with (first | ((with_reducible refine gate_dst (N := 3) rfl ?_); (try (refine gate_guard (by rfl) ?_; dsimp only)); refine bx_ 3 #[.slice A0_0 l0_0.length c0_0, .slice A0_1 l0_1.length c0_1, .slice A0_2 l0_2.length c0_2] 29 HB ?_; clear HB; intro gb496 w5 hg hb BK496 HB GW496; have GE496 := GW496; clear hg hb))
  (try simp only [Act.put, List.setIfInBounds_toArray, List.set_cons_zero, List.set_cons_succ])
  go_cut [17] (fun v17 wc => ∃ (kq : Nat) (x17_3 : Bool), v17 = .bool x17_3 ∧ Aside0 (theorboref02_Longest.j0 kq a1 a2 x17_3 l0_0 l0_1 l0_2 = some r) ∧ Aside0 (kq ≤ k) ∧ Aside0 (wc.heap[gb496]? = some (.cells #[(.slice A0_0 l0_0.length c0_0), (.slice A0_1 l0_1.length c0_1), (.slice A0_2 l0_2.length c0_2)] 29 (0, 0))) ∧ Aside0 (Below w.heap.size w wc))
  case first =>
    (have H := HC4.out); clear HC4; (by_cases c6 : a1 < 0)
    · rw [if_pos c6] at H
      (have c6b0 := decide_eq_true c6); clear c6; ((first | rw [c6b0] | (simp only [i64_w, i32_w]; rw [c6b0]) | skip)); (have H' := Aside0.mk H); clear H; (go_wp2); (go_meet)
      case rel => exact ⟨_, (true), (rs_), H', ⟨om_⟩, ⟨bk_ BK496⟩, ⟨bl_ HB⟩⟩
    · rw [if_neg c6] at H
      (have c6b0 := decide_eq_false c6); clear c6; ((first | rw [c6b0] | (simp only [i64_w, i32_w]; rw [c6b0]) | skip)); (have H' := Aside0.mk H); clear H; (have hcz7 := blk_cell BK496.out); (have hfz7 := blk_frozen BK496.out); (go_wp2); (go_meet)
      case rel => exact ⟨_, (decide (a1 ≥ (l0_2.length : Int))), (rs_), H', ⟨om_⟩, ⟨bk_ BK496⟩, ⟨bl_ HB⟩⟩
  case rest =>
    clear HC4; (obtain ⟨kq, x17_3, rfl, HA, HJ3, BK496, HB⟩ := hcut)
    cases kq with
    | zero => exact absurd HA.out (by simp [theorboref02_Longest.j0])
    | succ kj3 =>
      (have H := HA.out); clear HA; (simp only [theorboref02_Longest.j0] at H); (by_cases c8 : x17_3 = true)
      · subst c8
        (rw [if_pos rfl] at H); (obtain rfl := Option.some.inj H); (go_wp2); (go_ret); (exact ⟨rv_, bl_ HB⟩)
      · replace c8 := Bool.eq_false_iff.mpr c8
        subst c8; (rw [if_neg Bool.false_ne_true] at H); (have H' := Aside0.mk H); clear H; (go_wp2); (go_loopg [7] kj3 (fun kq v7 w' => ∃ (x7_2 : Int), v7 = .int .i64 x7_2 ∧ Aside0 (theorboref02_Longest.l0 kq a1 a2 x7_2 l0_0 l0_1 l0_2 = some r) ∧ Aside0 (kq ≤ kj3) ∧ Aside0 (w'.heap[gb496]? = some (.cells #[(.slice A0_0 l0_0.length c0_0), (.slice A0_1 l0_1.length c0_1), (.slice A0_2 l0_2.length c0_2)] 29 (0, 0))) ∧ Aside0 (Below w.heap.size w w')))
        case atStart => exact ⟨(0), (rs_), H', ⟨Nat.le_refl _⟩, ⟨bk_ BK496⟩, ⟨bl_ HB⟩⟩
        case round =>
          clear H'; (try clear c8); (obtain ⟨x7_2, rfl, HA, HK2, BK496, HB⟩ := hrel)
          cases gk with
          | zero => exact absurd HA.out (by simp [theorboref02_Longest.l0])
          | succ k2 =>
            (have H := HA.out); clear HA; (simp only [theorboref02_Longest.l0] at H); (have HC9 := Aside0.mk H); clear H; (go_upto_region 4 with (fail)); (go_cut [29] (fun v29 wc => ∃ (kq : Nat) (x29_8 : Bool), v29 = .bool x29_8 ∧ Aside0 (theorboref02_Longest.j2 kq a1 a2 x7_2 x29_8 l0_0 l0_1 l0_2 = some r) ∧ Aside0 (kq ≤ k2) ∧ Aside0 (wc.heap[gb496]? = some (.cells #[(.slice A0_0 l0_0.length c0_0), (.slice A0_1 l0_1.length c0_1), (.slice A0_2 l0_2.length c0_2)] 29 (0, 0))) ∧ Aside0 (Below w.heap.size w wc)))
            case first =>
              (have H := HC9.out); clear HC9; (by_cases c10 : x7_2 < 15)
              · rw [if_pos c10] at H
                (have c10b0 := decide_eq_true c10); clear c10; ((first | rw [c10b0] | (simp only [i64_w, i32_w]; rw [c10b0]) | skip)); (have H' := Aside0.mk H); clear H; (have hcz11 := blk_cell BK496.out); (have hfz11 := blk_frozen BK496.out); (go_wp2); (go_meet)
                case rel => exact ⟨_, (decide ((wrap64 ((wrap64 (a1 + x7_2)) + 1)) < (l0_2.length : Int))), (rs_), H', ⟨by have := HJ3.out; have := HK2.out; first | omega | exact Nat.le_refl _⟩, ⟨bk_ BK496⟩, ⟨bl_ HB⟩⟩
              · rw [if_neg c10] at H
                (have c10b0 := decide_eq_false c10); clear c10; ((first | rw [c10b0] | (simp only [i64_w, i32_w]; rw [c10b0]) | skip)); (have H' := Aside0.mk H); clear H; (go_wp2); (go_meet)
                case rel => exact ⟨_, (false), (rs_), H', ⟨by have := HJ3.out; have := HK2.out; first | omega | exact Nat.le_refl _⟩, ⟨bk_ BK496⟩, ⟨bl_ HB⟩⟩
            case rest =>
              clear HC9; (obtain ⟨kq, x29_8, rfl, HA, HJ8, BK496, HB⟩ := hcut)
              cases kq with
              | zero => exact absurd HA.out (by simp [theorboref02_Longest.j2])
              | succ kj8 =>
                (have H := HA.out); clear HA; (simp only [theorboref02_Longest.j2] at H); (by_cases c12 : x29_8 = true)
                · subst c12
                  (rw [if_pos rfl] at H); (obtain ⟨ji13, hji13⟩ : ∃ j_ : Int, (wrap64 ((wrap64 (a1 + x7_2)) + 1)) = j_ := ⟨_, rfl⟩); (replace H : (if 0 ≤ (ji13) then (if (ji13) < (l0_2.length : Int) then ((theorboref02_Rest.f ((rd_T46 l0_2 (ji13)).f0) ((rd_T46 l0_2 (ji13)).f1.f0) ((rd_T46 l0_2 (ji13)).f1.f1) ((rd_T46 l0_2 (ji13)).f1.f2) ((rd_T46 l0_2 (ji13)).f2) ((rd_T46 l0_2 (ji13)).f3)).bind fun t499 => (if t499 = true then (some x7_2) else ((theorboref02_Has.f kj8 ((rd_T46 l0_2 (ji13)).f0) ((rd_T46 l0_2 (ji13)).f1.f0) ((rd_T46 l0_2 (ji13)).f1.f1) ((rd_T46 l0_2 (ji13)).f1.f2) ((rd_T46 l0_2 (ji13)).f2) ((rd_T46 l0_2 (ji13)).f3) a2).bind fun t500 => (if t500 = true then (some x7_2) else (theorboref02_Longest.l0 kj8 a1 a2 (wrap64 (x7_2 + 1)) l0_0 l0_1 l0_2))))) else (none)) else (none)) = some r := by first | (rw [hji13] at H; exact H) | (simp only [hji13] at H ⊢; exact H)); (have hji13w : (IntKind.i64.wrap ((wrap64 (a1 + x7_2)) + 1)) = ji13 := (i64_w _).trans hji13); (by_cases c14 : 0 ≤ (ji13))
                  · rw [if_pos c14] at H
                    (have c14b0 := decide_eq_true c14); clear c14; (by_cases c15 : (ji13) < (l0_2.length : Int))
                    · rw [if_pos c15] at H
                      (have c15b0 := decide_eq_true c15); clear c15; (replace H := Option.bind_eq_some_iff.mp H); (obtain ⟨t499, A160, H⟩ := H); (try dsimp only at H); (have A16 := Aside0.mk A160); clear A160; (by_cases c17 : t499 = true)
                      · subst c17
                        (rw [if_pos rfl] at H); (obtain rfl := Option.some.inj H); (have hcz18 := blk_cell BK496.out); (have hfz18 := blk_frozen BK496.out); (have p497 : 0 ≤ ((ji13) : Int) := of_decide_eq_true (by first | (with_reducible assumption) | assumption)); (have q497 : (ji13) < (l0_2.length : Int) := of_decide_eq_true (by first | (with_reducible assumption) | assumption)); (obtain ⟨ad497, A497_5, c497_5, e497, hx497_0, hx497_1, hx497_2, hx497_3, hx497_4, hx497_5, hl497_5, hi497_5⟩ := at_T46 HR0_2.out (ji13) p497 q497)
                        cases e497
                        (replace hx497_0 := pw_cell_below HB.out hx497_0); (replace hx497_1 := pw_cell_below HB.out hx497_1); (replace hx497_2 := pw_cell_below HB.out hx497_2); (replace hx497_3 := pw_cell_below HB.out hx497_3); (replace hx497_4 := pw_cell_below HB.out hx497_4); (replace hx497_5 := pw_cell_below HB.out hx497_5); (have HR497_5 := Aside0.mk hi497_5); (have HC497_5 := Aside0.mk hl497_5); clear hi497_5 hl497_5; (replace p497 := eq_true p497); (replace q497 := eq_true q497); (go_wp2_with (first | ((with_reducible refine gate_dst (N := 8) rfl ?_); (try (refine gate_guard (by rfl) ?_; dsimp only)); refine bx_ 8 #[.bool false, .int .i64 0, .bool false, .bool false, .bool false, .slice none 0 0] 46 HB ?_; clear HB; intro gb498 w19 hg hb BK498 HB GW498; have GE498 := GW498; have NB496_498 := nl_ BK496 hg; have NB498_496 := ng_ BK496 hg; replace BK496 := bb_ BK496 hb; clear hg hb; have hnb20 := NB498_496.out; have hnc20 := NB496_498.out; have hcz21 := blk_cell BK498.out; have hfz21 := blk_frozen BK498.out) | ((with_reducible refine gate_callee (f := 42) rfl ?_); refine goesL_ (some 39) rfl rfl Tryz.func42 (by kernel_rfl) rfl #[.agg #[.bool ((rd_T46 l0_2 (ji13)).f0), .int .i64 ((rd_T46 l0_2 (ji13)).f1.f0), .bool ((rd_T46 l0_2 (ji13)).f1.f1), .bool ((rd_T46 l0_2 (ji13)).f1.f2), .bool ((rd_T46 l0_2 (ji13)).f2), .slice A497_5 ((rd_T46 l0_2 (ji13)).f3).length c497_5]] rfl (by (try simp only [mA_, mB_, mC_]); first | done | (simp only [hji13]; rfl) | rfl | (simp only [List.length_drop, List.length_take]; rfl)) ?_; (with_reducible refine (theorboref02_Rest.calls ((rd_T46 l0_2 (ji13)).f0) ((rd_T46 l0_2 (ji13)).f1.f0) ((rd_T46 l0_2 (ji13)).f1.f1) ((rd_T46 l0_2 (ji13)).f1.f2) ((rd_T46 l0_2 (ji13)).f2) _ _ ((rd_T46 l0_2 (ji13)).f3) true _ ?side1 ?side2 A16.out).mono ?_); (case side1 => exact kc_ HR497_5 HB); (case side2 => exact HC497_5.out); rintro e w22 ⟨rfl, hb⟩; refine ⟨_, rfl, ?_⟩; replace BK496 := bb_ BK496 hb; replace BK498 := Aside0.mk (blk_below (g := gb498) (o := .cells #[.bool ((rd_T46 l0_2 (ji13)).f0), .int .i64 ((rd_T46 l0_2 (ji13)).f1.f0), .bool ((rd_T46 l0_2 (ji13)).f1.f1), .bool ((rd_T46 l0_2 (ji13)).f1.f2), .bool ((rd_T46 l0_2 (ji13)).f2), .slice A497_5 ((rd_T46 l0_2 (ji13)).f3).length c497_5] 46 (0, 0)) (bk_ BK498) hb); replace HB := bs_ HB hb; (try clear hb); (try clear hb2); (try clear hk); (try clear hi)))); (go_ret); (exact ⟨by first | rfl | (simp [errW_none, errW_some] <;> rfl) | (simp only [← hji13]; first | rfl | (simp [errW_none, errW_some] <;> rfl)) | (simp [*, errW_none, errW_some] <;> rfl), bl_ HB⟩)
                      · replace c17 := Bool.eq_false_iff.mpr c17
                        subst c17; (rw [if_neg Bool.false_ne_true] at H); (replace H := Option.bind_eq_some_iff.mp H); (obtain ⟨t500, A230, H⟩ := H); (try dsimp only at H); (have A23 := Aside0.mk A230); clear A230; (have HC24 := Aside0.mk H); clear H; (have hcz25 := blk_cell BK496.out); (have hfz25 := blk_frozen BK496.out); (have p497 : 0 ≤ ((ji13) : Int) := of_decide_eq_true (by first | (with_reducible assumption) | assumption)); (have q497 : (ji13) < (l0_2.length : Int) := of_decide_eq_true (by first | (with_reducible assumption) | assumption)); (obtain ⟨ad497, A497_5, c497_5, e497, hx497_0, hx497_1, hx497_2, hx497_3, hx497_4, hx497_5, hl497_5, hi497_5⟩ := at_T46 HR0_2.out (ji13) p497 q497)
                        cases e497
                        (replace hx497_0 := pw_cell_below HB.out hx497_0); (replace hx497_1 := pw_cell_below HB.out hx497_1); (replace hx497_2 := pw_cell_below HB.out hx497_2); (replace hx497_3 := pw_cell_below HB.out hx497_3); (replace hx497_4 := pw_cell_below HB.out hx497_4); (replace hx497_5 := pw_cell_below HB.out hx497_5); (have HR497_5 := Aside0.mk hi497_5); (have HC497_5 := Aside0.mk hl497_5); clear hi497_5 hl497_5; (replace p497 := eq_true p497); (replace q497 := eq_true q497); (go_upto_if 44 with (first | ((with_reducible refine gate_dst (N := 8) rfl ?_); (try (refine gate_guard (by rfl) ?_; dsimp only)); refine bx_ 8 #[.bool false, .int .i64 0, .bool false, .bool false, .bool false, .slice none 0 0] 46 HB ?_; clear HB; intro gb498 w26 hg hb BK498 HB GW498; have GE498 := GW498; have NB496_498 := nl_ BK496 hg; have NB498_496 := ng_ BK496 hg; replace BK496 := bb_ BK496 hb; clear hg hb; have hnb27 := NB498_496.out; have hnc27 := NB496_498.out; have hcz28 := blk_cell BK498.out; have hfz28 := blk_frozen BK498.out) | ((with_reducible refine gate_callee (f := 42) rfl ?_); refine goesL_ (some 39) rfl rfl Tryz.func42 (by kernel_rfl) rfl #[.agg #[.bool ((rd_T46 l0_2 (ji13)).f0), .int .i64 ((rd_T46 l0_2 (ji13)).f1.f0), .bool ((rd_T46 l0_2 (ji13)).f1.f1), .bool ((rd_T46 l0_2 (ji13)).f1.f2), .bool ((rd_T46 l0_2 (ji13)).f2), .slice A497_5 ((rd_T46 l0_2 (ji13)).f3).length c497_5]] rfl (by (try simp only [mA_, mB_, mC_]); first | done | (simp only [hji13]; rfl) | rfl | (simp only [List.length_drop, List.length_take]; rfl)) ?_; (with_reducible refine (theorboref02_Rest.calls ((rd_T46 l0_2 (ji13)).f0) ((rd_T46 l0_2 (ji13)).f1.f0) ((rd_T46 l0_2 (ji13)).f1.f1) ((rd_T46 l0_2 (ji13)).f1.f2) ((rd_T46 l0_2 (ji13)).f2) _ _ ((rd_T46 l0_2 (ji13)).f3) false _ ?side1 ?side2 A16.out).mono ?_); (case side1 => exact kc_ HR497_5 HB); (case side2 => exact HC497_5.out); rintro e w29 ⟨rfl, hb⟩; refine ⟨_, rfl, ?_⟩; replace BK496 := bb_ BK496 hb; replace BK498 := Aside0.mk (blk_below (g := gb498) (o := .cells #[.bool ((rd_T46 l0_2 (ji13)).f0), .int .i64 ((rd_T46 l0_2 (ji13)).f1.f0), .bool ((rd_T46 l0_2 (ji13)).f1.f1), .bool ((rd_T46 l0_2 (ji13)).f1.f2), .bool ((rd_T46 l0_2 (ji13)).f2), .slice A497_5 ((rd_T46 l0_2 (ji13)).f3).length c497_5] 46 (0, 0)) (bk_ BK498) hb); replace HB := bs_ HB hb; (try clear hb); (try clear hb2); (try clear hk); (try clear hi); have hcz30 := blk_cell BK498.out; have hfz30 := blk_frozen BK498.out) | (go_at_call 60; (with_reducible refine (theorboref02_Has.calls kj8 ((rd_T46 l0_2 (ji13)).f0) ((rd_T46 l0_2 (ji13)).f1.f0) ((rd_T46 l0_2 (ji13)).f1.f1) ((rd_T46 l0_2 (ji13)).f1.f2) ((rd_T46 l0_2 (ji13)).f2) _ _ ((rd_T46 l0_2 (ji13)).f3) a2 t500 _ ?side1 ?side2 A23.out).mono ?_); (case side1 => exact kc_ HR497_5 HB); (case side2 => exact HC497_5.out); rintro e w31 ⟨rfl, hb⟩; replace BK496 := bb_ BK496 hb; replace BK498 := bb_ BK498 hb; replace HB := bs_ HB hb; (try clear hb); (try clear hb2); (try clear hk); (try clear hi)))); ((try simp only [Act.put, List.setIfInBounds_toArray, List.set_cons_zero, List.set_cons_succ])); (have H := HC24.out); clear HC24; (by_cases c32 : t500 = true)
                        · subst c32
                          (rw [if_pos rfl] at H); (obtain rfl := Option.some.inj H); (go_wp2); (go_ret); (exact ⟨by first | rfl | (simp [errW_none, errW_some] <;> rfl) | (simp only [← hji13]; first | rfl | (simp [errW_none, errW_some] <;> rfl)) | (simp [*, errW_none, errW_some] <;> rfl), bl_ HB⟩)
                        · replace c32 := Bool.eq_false_iff.mpr c32
                          subst c32; (rw [if_neg Bool.false_ne_true] at H); (have H' := Aside0.mk H); clear H; (go_wp2); (go_roundg kj8)
                          case measure => have := HJ3.out; have := HK2.out; have := HJ8.out; omega
                          case rel => exact ⟨(wrap64 (x7_2 + 1)), (rs_), H', ⟨by have := HJ3.out; have := HK2.out; have := HJ8.out; omega⟩, ⟨bk_ BK496⟩, ⟨bl_ HB⟩⟩
                    · rw [if_neg c15] at H
                      exact absurd H (by simp)
                  · rw [if_neg c14] at H
                    exact absurd H (by simp)
                · replace c12 := Bool.eq_false_iff.mpr c12
                  subst c12; (rw [if_neg Bool.false_ne_true] at H); (obtain rfl := Option.some.inj H); (go_wp2); (go_ret); (exact ⟨rv_, bl_ HB⟩)

/-! ### theorboref02_Right: function 55 -/
def theorboref02_Right.f (a0_0 : Int) (a0_1 : Bool) (a0_2 : Bool) : Option (Bool) := if a0_0 = 0 then (if a0_1 = true then (some false) else (some (!a0_2))) else (if a0_0 ≥ 1 then (if a0_0 ≤ 7 then (if a0_1 = true then (some (!a0_2)) else (some (!false))) else (some false)) else (some false))
set_option maxHeartbeats 8000000 in
set_option maxRecDepth 100000 in
theorem theorboref02_Right.calls (a0_0 : Int) (a0_1 : Bool) (a0_2 : Bool) (r : Bool) (w : World) (h : theorboref02_Right.f a0_0 a0_1 a0_2 = some r) :
    Calls Tryz.prog 55 #[.agg #[.int .i64 a0_0, .bool a0_1, .bool a0_2]] w fun e w' => e = .returned (.bool r) ∧ Below w.heap.size w w' := by
  have hu43 := Tryz.underlying43
  have HB := Aside0.mk (Below.refl w.heap.size w)
  have H : (if a0_0 = 0 then (if a0_1 = true then (some false) else (some (!a0_2))) else (if a0_0 ≥ 1 then (if a0_0 ≤ 7 then (if a0_1 = true then (some (!a0_2)) else (some (!false))) else (some false)) else (some false))) = some r := h
  clear h
  have HC2 := Aside0.mk H
  clear H
  go_enter Tryz.func55, Tryz.ntmps55
  go_upto_if 5 with (first | (refine bx_ 1 #[.int .i64 a0_0, .bool a0_1, .bool a0_2] 43 HB ?_; clear HB; intro gb502 w3 hg hb BK502 HB GW502; have GE502 := GW502; clear hg hb; have hcz4 := blk_cell BK502.out; have hfz4 := blk_frozen BK502.out))
  (try simp only [Act.put, List.setIfInBounds_toArray, List.set_cons_zero, List.set_cons_succ])
  have H := HC2.out
  clear HC2
  by_cases c5 : a0_0 = 0
  · rw [if_pos c5] at H
    (obtain ⟨c5b0, c5b1⟩ := eqT_ c5); clear c5; ((first | rw [c5b0] | rw [c5b1] | (simp only [i64_w, i32_w]; rw [c5b0]) | skip)); (by_cases c6 : a0_1 = true)
    · subst c6
      (rw [if_pos rfl] at H); (obtain rfl := Option.some.inj H); (have hcz7 := blk_cell BK502.out); (have hfz7 := blk_frozen BK502.out); (go_wp2); (go_ret); (exact ⟨rv_, bl_ HB⟩)
    · replace c6 := Bool.eq_false_iff.mpr c6
      subst c6; (rw [if_neg Bool.false_ne_true] at H); (obtain rfl := Option.some.inj H); (have hcz8 := blk_cell BK502.out); (have hfz8 := blk_frozen BK502.out); (go_wp2); (go_ret); (exact ⟨rv_, bl_ HB⟩)
  · rw [if_neg c5] at H
    (obtain ⟨c5b0, c5b1⟩ := eqF_ c5); ((first | rw [c5b0] | rw [c5b1] | (simp only [i64_w, i32_w]; rw [c5b0]) | skip)); (by_cases c9 : a0_0 ≥ 1)
    · rw [if_pos c9] at H
      (have c9b0 : decide (1 ≤ a0_0) = true := decide_eq_true c9); clear c9; (by_cases c10 : a0_0 ≤ 7)
      · rw [if_pos c10] at H
        (have c10b0 := decide_eq_true c10); clear c10; (by_cases c11 : a0_1 = true)
        · subst c11
          (rw [if_pos rfl] at H); (obtain rfl := Option.some.inj H); (have hcz12 := blk_cell BK502.out); (have hfz12 := blk_frozen BK502.out); (go_wp2); (go_ret); (exact ⟨rv_, bl_ HB⟩)
        · replace c11 := Bool.eq_false_iff.mpr c11
          subst c11; (rw [if_neg Bool.false_ne_true] at H); (obtain rfl := Option.some.inj H); (have hcz13 := blk_cell BK502.out); (have hfz13 := blk_frozen BK502.out); (go_wp2); (go_ret); (exact ⟨rv_, bl_ HB⟩)
      · rw [if_neg c10] at H
        (have c10b0 := decide_eq_false c10); clear c10; (obtain rfl := Option.some.inj H); (have hcz14 := blk_cell BK502.out); (have hfz14 := blk_frozen BK502.out); (go_wp2); (go_ret); (exact ⟨rv_, bl_ HB⟩)
    · rw [if_neg c9] at H
      (have c9b0 : decide (1 ≤ a0_0) = false := decide_eq_false c9); clear c9; (obtain rfl := Option.some.inj H); (have hcz15 := blk_cell BK502.out); (have hfz15 := blk_frozen BK502.out); (go_wp2); (go_ret); (exact ⟨rv_, bl_ HB⟩)

end Go.Proofs.YtocpcofihlcnoaaGreat.PNL
