-- made by xprint.py (ours) out of the translation
import Derived.Test.YtocpcofihlcnoaaGreatPNCx0
import Derived.Test.YtocpcofihlcnoaaGreatPNCx8
namespace Go.Proofs.YtocpcofihlcnoaaGreat.PNC
open Go.RowKit Go.Proofs.YtocpcofihlcnoaaGreatW.PrintWords Go.Proofs.YtocpcofihlcnoaaGreatW.PrintLast Go.Proofs.YtocpcofihlcnoaaGreatW.PrintMore
attribute [local go_sem] max2_int min2_int max_two min_two max_three min_three max_four min_four   -- for this text's walks alone
set_option linter.unusedVariables false
set_option linter.unusedSimpArgs false

/-! ### theorboref03_symbol: function 56 -/
mutual
def theorboref03_symbol.j0 : Nat → Int → Int → Int → Int → Bool → Option (ByteArray)
  | 0, _, _, _, _, _ => none
  | k + 1, x0, x1, x2, x7, x29 => if x29 = true then (if x1 ≤ 6 then (theorboref03_symbol.j1 k x0 x1 x2 (decide (x2 ≤ 10))) else (theorboref03_symbol.j1 k x0 x1 x2 false)) else (if x7 = 4 then (if x1 ≤ 6 then (if x2 ≤ 10 then ((theorboref03_german.f x1 x2).bind fun t670 => (some t670)) else (some (⟨#[]⟩ : ByteArray))) else (some (⟨#[]⟩ : ByteArray))) else (some (⟨#[]⟩ : ByteArray)))
def theorboref03_symbol.j1 : Nat → Int → Int → Int → Bool → Option (ByteArray)
  | 0, _, _, _, _ => none
  | k + 1, x0, x1, x2, x37 => if x37 = true then ((theorboref03_figure.f x2).bind fun t665 => (some t665)) else (if x0 = 2 then (if x1 > 6 then (if x2 = 0 then ((some (([(⟨#[55]⟩ : ByteArray), (⟨#[56]⟩ : ByteArray), (⟨#[57]⟩ : ByteArray), (⟨#[120]⟩ : ByteArray), (⟨#[49, 49]⟩ : ByteArray), (⟨#[49, 50]⟩ : ByteArray), (⟨#[49, 51]⟩ : ByteArray), (⟨#[49, 52]⟩ : ByteArray)] : List ByteArray) : List ByteArray)).bind fun y666 => (if 0 ≤ (wrap64 (x1 - 7)) then (if (wrap64 (x1 - 7)) < (y666.length : Int) then (some (rdOf ByteArray.empty y666 (wrap64 (x1 - 7)))) else (none)) else (none))) else (some (⟨#[]⟩ : ByteArray))) else (some (⟨#[]⟩ : ByteArray))) else (some (⟨#[]⟩ : ByteArray)))
end
def theorboref03_symbol.f (k : Nat) (a0 : Int) (a1 : Int) (a2 : Int) : Option (ByteArray) := if a0 = 1 then (if a1 ≤ 7 then ((theorboref03_frenchFret.f a2).bind fun t663 => (some t663)) else (if a1 ≤ 10 then (if 0 ≤ (wrap64 (a1 - 7)) then (if (wrap64 (a1 - 7)) ≤ 3 then ((theorboref03_frenchFret.f a2).bind fun t664 => (if ((⟨#[47, 47, 47]⟩ : ByteArray).extract 0 ((wrap64 (a1 - 7)) : Int).toNat).size + t664.size ≤ 9223372036854775807 then (some (((⟨#[47, 47, 47]⟩ : ByteArray).extract 0 ((wrap64 (a1 - 7)) : Int).toNat) ++ t664)) else (none))) else (none)) else (none)) else (if a2 = 0 then (if 0 ≤ (wrap64 (a1 - 11)) then (if (wrap64 (a1 - 11)) ≤ (wrap64 (a1 - 10)) then (if (wrap64 (a1 - 10)) ≤ 4 then (some ((⟨#[52, 53, 54, 55]⟩ : ByteArray).extract ((wrap64 (a1 - 11)) : Int).toNat ((wrap64 (a1 - 10)) : Int).toNat)) else (none)) else (none)) else (none)) else (some (⟨#[]⟩ : ByteArray))))) else (if a0 = 2 then (theorboref03_symbol.j0 k a0 a1 a2 a0 (a0 == 2)) else (theorboref03_symbol.j0 k a0 a1 a2 a0 (a0 == 3)))
theorem theorboref03_symbol.mono_l : ∀ k, (∀ y0 y1 y2 y3 y4, LeO (theorboref03_symbol.j0 k y0 y1 y2 y3 y4) (theorboref03_symbol.j0 (k + 1) y0 y1 y2 y3 y4)) ∧ (∀ y0 y1 y2 y3, LeO (theorboref03_symbol.j1 k y0 y1 y2 y3) (theorboref03_symbol.j1 (k + 1) y0 y1 y2 y3))
  | 0 => ⟨fun _ _ _ _ _ r h => by simp [theorboref03_symbol.j0] at h, fun _ _ _ _ r h => by simp [theorboref03_symbol.j1] at h⟩
  | k + 1 => by
    ((obtain ⟨ih0, ih1⟩ := theorboref03_symbol.mono_l k); (refine ⟨?_, ?_⟩)); (focus intro y0 y1 y2 y3 y4; (unfold theorboref03_symbol.j0); (repeat' first | (with_reducible first | apply ih0 | apply ih1 | exact LeO.refl _ | exact LeO.none _ | refine LeO.ite ?_ ?_ | refine LeO.bind ?_ fun _ => ?_) | exact LeO.none _ | refine LeO.ite ?_ ?_ | refine LeO.bind ?_ fun _ => ?_ | apply ih0 | apply ih1)); (focus intro y0 y1 y2 y3; (unfold theorboref03_symbol.j1); (repeat' first | (with_reducible first | apply ih0 | apply ih1 | exact LeO.refl _ | exact LeO.none _ | refine LeO.ite ?_ ?_ | refine LeO.bind ?_ fun _ => ?_) | exact LeO.none _ | refine LeO.ite ?_ ?_ | refine LeO.bind ?_ fun _ => ?_ | apply ih0 | apply ih1))
theorem theorboref03_symbol.mono : ∀ a0 a1 a2 k, LeO (theorboref03_symbol.f k a0 a1 a2) (theorboref03_symbol.f (k + 1) a0 a1 a2) := by
  intro a0 a1 a2 k
  obtain ⟨ih0, ih1⟩ := theorboref03_symbol.mono_l k
  unfold theorboref03_symbol.f
  repeat' first | (with_reducible first | apply ih0 | apply ih1 | exact LeO.refl _ | exact LeO.none _ | refine LeO.ite ?_ ?_ | refine LeO.bind ?_ fun _ => ?_) | exact LeO.none _ | refine LeO.ite ?_ ?_ | refine LeO.bind ?_ fun _ => ?_ | apply ih0 | apply ih1
set_option maxHeartbeats 8000000 in
set_option maxRecDepth 100000 in
theorem theorboref03_symbol.calls (k : Nat) (a0 : Int) (a1 : Int) (a2 : Int) (r : ByteArray) (w : World) (h : theorboref03_symbol.f k a0 a1 a2 = some r) :
    Calls Tryz.prog 56 #[.int .u8 a0, .int .i64 a1, .int .i64 a2] w fun e w' => e = .returned (.string r) ∧ Below w.heap.size w w' := by
  have HB := Aside0.mk (Below.refl w.heap.size w)
  have H : (if a0 = 1 then (if a1 ≤ 7 then ((theorboref03_frenchFret.f a2).bind fun t663 => (some t663)) else (if a1 ≤ 10 then (if 0 ≤ (wrap64 (a1 - 7)) then (if (wrap64 (a1 - 7)) ≤ 3 then ((theorboref03_frenchFret.f a2).bind fun t664 => (if ((⟨#[47, 47, 47]⟩ : ByteArray).extract 0 ((wrap64 (a1 - 7)) : Int).toNat).size + t664.size ≤ 9223372036854775807 then (some (((⟨#[47, 47, 47]⟩ : ByteArray).extract 0 ((wrap64 (a1 - 7)) : Int).toNat) ++ t664)) else (none))) else (none)) else (none)) else (if a2 = 0 then (if 0 ≤ (wrap64 (a1 - 11)) then (if (wrap64 (a1 - 11)) ≤ (wrap64 (a1 - 10)) then (if (wrap64 (a1 - 10)) ≤ 4 then (some ((⟨#[52, 53, 54, 55]⟩ : ByteArray).extract ((wrap64 (a1 - 11)) : Int).toNat ((wrap64 (a1 - 10)) : Int).toNat)) else (none)) else (none)) else (none)) else (some (⟨#[]⟩ : ByteArray))))) else (if a0 = 2 then (theorboref03_symbol.j0 k a0 a1 a2 a0 (a0 == 2)) else (theorboref03_symbol.j0 k a0 a1 a2 a0 (a0 == 3)))) = some r := h
  clear h
  by_cases c4 : a0 = 1
  · rw [if_pos c4] at H
    (obtain ⟨c4b0, c4b1⟩ := eqT_ c4); clear c4; (by_cases c5 : a1 ≤ 7)
    · rw [if_pos c5] at H
      (have c5b0 := decide_eq_true c5); clear c5; (replace H := Option.bind_eq_some_iff.mp H); (obtain ⟨t663, A60, H⟩ := H); (try dsimp only at H); (have A6 := Aside0.mk A60); clear A60; (obtain rfl := Option.some.inj H); (go_enter Tryz.func56, Tryz.ntmps56); (go_wp2_with (first | (go_at_call 67; (with_reducible refine (theorboref03_frenchFret.calls a2 t663 _ A6.out).mono ?_); rintro e w' ⟨rfl, ⟨nd, rfl⟩⟩; (try first | exact ⟨rfl, _, World.drewN_drewN _ _ _⟩ | exact ⟨rfl, _, Eq.trans (World.drewN_drewN _ _ _) (congrArg (World.drewN _) (Nat.add_assoc _ _ _))⟩)))); (repeat (go_quiet (first | (go_at_call 67; (with_reducible refine (theorboref03_frenchFret.calls a2 t663 _ A6.out).mono ?_); rintro e w' ⟨rfl, ⟨nd, rfl⟩⟩; (try first | exact ⟨rfl, _, World.drewN_drewN _ _ _⟩ | exact ⟨rfl, _, Eq.trans (World.drewN_drewN _ _ _) (congrArg (World.drewN _) (Nat.add_assoc _ _ _))⟩))); try go_wp2_with (first | (go_at_call 67; (with_reducible refine (theorboref03_frenchFret.calls a2 t663 _ A6.out).mono ?_); rintro e w' ⟨rfl, ⟨nd, rfl⟩⟩; (try first | exact ⟨rfl, _, World.drewN_drewN _ _ _⟩ | exact ⟨rfl, _, Eq.trans (World.drewN_drewN _ _ _) (congrArg (World.drewN _) (Nat.add_assoc _ _ _))⟩))))); (go_ret); (exact ⟨rv_, bl_ HB⟩)
    · rw [if_neg c5] at H
      (have c5b0 := decide_eq_false c5); clear c5; (by_cases c7 : a1 ≤ 10)
      · rw [if_pos c7] at H
        (have c7b0 := decide_eq_true c7); clear c7; (obtain ⟨ji8, hji8⟩ : ∃ j_ : Int, (wrap64 (a1 - 7)) = j_ := ⟨_, rfl⟩); (replace H : (if 0 ≤ (ji8) then (if (ji8) ≤ 3 then ((theorboref03_frenchFret.f a2).bind fun t664 => (if ((⟨#[47, 47, 47]⟩ : ByteArray).extract 0 ((ji8) : Int).toNat).size + t664.size ≤ 9223372036854775807 then (some (((⟨#[47, 47, 47]⟩ : ByteArray).extract 0 ((ji8) : Int).toNat) ++ t664)) else (none))) else (none)) else (none)) = some r := by first | (rw [hji8] at H; exact H) | (simp only [hji8] at H ⊢; exact H)); (have hji8w : (IntKind.i64.wrap (a1 - 7)) = ji8 := (i64_w _).trans hji8); (by_cases c9 : 0 ≤ (ji8))
        · rw [if_pos c9] at H
          (have c9b0 := eq_true c9); (have c9b1 : decide (0 ≤ (ji8)) = true := decide_eq_true c9); clear c9; (by_cases c10 : (ji8) ≤ 3)
          · rw [if_pos c10] at H
            (have c10b0 := eq_true c10); (have c10b1 : decide ((ji8) ≤ 3) = true := decide_eq_true c10); clear c10; (replace H := Option.bind_eq_some_iff.mp H); (obtain ⟨t664, A110, H⟩ := H); (try dsimp only at H); (have A11 := Aside0.mk A110); clear A110; (by_cases c12 : ((⟨#[47, 47, 47]⟩ : ByteArray).extract 0 ((ji8) : Int).toNat).size + t664.size ≤ 9223372036854775807)
            · rw [if_pos c12] at H
              (have c12b0 := eq_true c12); (have c12b1 : decide (((⟨#[47, 47, 47]⟩ : ByteArray).extract 0 ((ji8) : Int).toNat).size + t664.size ≤ 9223372036854775807) = true := decide_eq_true c12); (try have c12b2 : (9223372036854775807 < ((⟨#[47, 47, 47]⟩ : ByteArray).extract 0 ((ji8) : Int).toNat).size + t664.size) = False := eq_false (Nat.not_lt.2 c12)); (try have c12b3 : (9223372036854775807 < ((ji8) : Int).toNat + t664.size) = False := eq_false (by have h_ := c12; simp only [ByteArray.size_extract] at h_; have e0_ : ((⟨#[47, 47, 47]⟩ : ByteArray)).size = 3 := rfl; (try simp only [decide_eq_true_eq, decide_eq_true_iff] at *); omega)); (obtain rfl := Option.some.inj H); (go_enter Tryz.func56, Tryz.ntmps56); (go_wp2_with (first | (go_at_call 67; (with_reducible refine (theorboref03_frenchFret.calls a2 t664 _ A11.out).mono ?_); rintro e w' ⟨rfl, ⟨nd, rfl⟩⟩; (try first | exact ⟨rfl, _, World.drewN_drewN _ _ _⟩ | exact ⟨rfl, _, Eq.trans (World.drewN_drewN _ _ _) (congrArg (World.drewN _) (Nat.add_assoc _ _ _))⟩)))); (repeat (go_quiet (first | (go_at_call 67; (with_reducible refine (theorboref03_frenchFret.calls a2 t664 _ A11.out).mono ?_); rintro e w' ⟨rfl, ⟨nd, rfl⟩⟩; (try first | exact ⟨rfl, _, World.drewN_drewN _ _ _⟩ | exact ⟨rfl, _, Eq.trans (World.drewN_drewN _ _ _) (congrArg (World.drewN _) (Nat.add_assoc _ _ _))⟩))); try go_wp2_with (first | (go_at_call 67; (with_reducible refine (theorboref03_frenchFret.calls a2 t664 _ A11.out).mono ?_); rintro e w' ⟨rfl, ⟨nd, rfl⟩⟩; (try first | exact ⟨rfl, _, World.drewN_drewN _ _ _⟩ | exact ⟨rfl, _, Eq.trans (World.drewN_drewN _ _ _) (congrArg (World.drewN _) (Nat.add_assoc _ _ _))⟩))))); (go_ret); (exact ⟨by first | rfl | (simp [errW_none, errW_some] <;> rfl) | (simp only [← hji8]; first | rfl | (simp [errW_none, errW_some] <;> rfl)) | (simp [*, errW_none, errW_some] <;> rfl), bl_ HB⟩)
            · rw [if_neg c12] at H
              exact absurd H (by simp)
          · rw [if_neg c10] at H
            exact absurd H (by simp)
        · rw [if_neg c9] at H
          exact absurd H (by simp)
      · rw [if_neg c7] at H
        (have c7b0 := decide_eq_false c7); clear c7; (by_cases c13 : a2 = 0)
        · rw [if_pos c13] at H
          (obtain ⟨c13b0, c13b1⟩ := eqT_ c13); clear c13; (obtain ⟨ji14, hji14⟩ : ∃ j_ : Int, (wrap64 (a1 - 11)) = j_ := ⟨_, rfl⟩); (replace H : (if 0 ≤ (ji14) then (if (ji14) ≤ (wrap64 (a1 - 10)) then (if (wrap64 (a1 - 10)) ≤ 4 then (some ((⟨#[52, 53, 54, 55]⟩ : ByteArray).extract ((ji14) : Int).toNat ((wrap64 (a1 - 10)) : Int).toNat)) else (none)) else (none)) else (none)) = some r := by first | (rw [hji14] at H; exact H) | (simp only [hji14] at H ⊢; exact H)); (have hji14w : (IntKind.i64.wrap (a1 - 11)) = ji14 := (i64_w _).trans hji14); (by_cases c15 : 0 ≤ (ji14))
          · rw [if_pos c15] at H
            (have c15b0 := eq_true c15); (have c15b1 : decide (0 ≤ (ji14)) = true := decide_eq_true c15); clear c15; (by_cases c16 : (ji14) ≤ (wrap64 (a1 - 10)))
            · rw [if_pos c16] at H
              (have c16b0 := eq_true c16); (have c16b1 : decide ((ji14) ≤ (wrap64 (a1 - 10))) = true := decide_eq_true c16); clear c16; (by_cases c17 : (wrap64 (a1 - 10)) ≤ 4)
              · rw [if_pos c17] at H
                (have c17b0 := eq_true c17); (have c17b1 : decide ((wrap64 (a1 - 10)) ≤ 4) = true := decide_eq_true c17); clear c17; (obtain rfl := Option.some.inj H); (go_enter Tryz.func56, Tryz.ntmps56); (go_wp2); (repeat (go_quiet (fail); try go_wp2)); (go_ret); (exact ⟨by first | rfl | (simp [errW_none, errW_some] <;> rfl) | (simp only [← hji14]; first | rfl | (simp [errW_none, errW_some] <;> rfl)) | (simp [*, errW_none, errW_some] <;> rfl), bl_ HB⟩)
              · rw [if_neg c17] at H
                exact absurd H (by simp)
            · rw [if_neg c16] at H
              exact absurd H (by simp)
          · rw [if_neg c15] at H
            exact absurd H (by simp)
        · rw [if_neg c13] at H
          (obtain ⟨c13b0, c13b1⟩ := eqF_ c13); (obtain rfl := Option.some.inj H); (go_enter Tryz.func56, Tryz.ntmps56); (go_wp2); (repeat (go_quiet (fail); try go_wp2)); (go_ret); (exact ⟨rv_, bl_ HB⟩)
  · rw [if_neg c4] at H
    (obtain ⟨c4b0, c4b1⟩ := eqF_ c4); (have HC18 := Aside0.mk H); clear H; (go_enter Tryz.func56, Tryz.ntmps56); (go_upto_if 29 with (fail)); (repeat (go_quiet (fail); go_upto_if 29 with (fail))); (go_cut [29] (fun v29 wc => ∃ (kq : Nat) (x29_17 : Bool), v29 = .bool x29_17 ∧ Aside0 (theorboref03_symbol.j0 kq a0 a1 a2 a0 x29_17 = some r) ∧ Aside0 (kq ≤ k) ∧ Aside0 (Below w.heap.size w wc)))
    case first =>
      (have H := HC18.out); clear HC18; (by_cases c19 : a0 = 2)
      · rw [if_pos c19] at H
        (obtain ⟨c19b0, c19b1⟩ := eqT_ c19); clear c19; ((first | rw [c19b0] | rw [c19b1] | (simp only [i64_w, i32_w]; rw [c19b0]) | skip)); (have H' := Aside0.mk H); clear H; (go_wp2); (repeat (go_quiet (fail); try go_wp2)); (go_meet)
        case rel => exact ⟨_, ((a0 == 2)), (rs_), H', ⟨om_⟩, ⟨bl_ HB⟩⟩
      · rw [if_neg c19] at H
        (obtain ⟨c19b0, c19b1⟩ := eqF_ c19); ((first | rw [c19b0] | rw [c19b1] | (simp only [i64_w, i32_w]; rw [c19b0]) | skip)); (have H' := Aside0.mk H); clear H; (go_wp2); (repeat (go_quiet (fail); try go_wp2)); (go_meet)
        case rel => exact ⟨_, ((a0 == 3)), (rs_), H', ⟨om_⟩, ⟨bl_ HB⟩⟩
    case rest =>
      clear HC18; (try clear c4b0 c4b1); (obtain ⟨kq, x29_17, rfl, HA, HJ17, HB⟩ := hcut)
      cases kq with
      | zero => exact absurd HA.out (by simp [theorboref03_symbol.j0])
      | succ kj17 =>
        (have H := HA.out); clear HA; (simp only [theorboref03_symbol.j0] at H); (by_cases c20 : x29_17 = true)
        · subst c20
          (rw [if_pos rfl] at H); (have HC21 := Aside0.mk H); clear H; (go_upto_region 11 with (fail)); (repeat (go_quiet (fail); go_upto_region 11 with (fail))); (go_cut [37] (fun v37 wc => ∃ (kq : Nat) (x37_20 : Bool), v37 = .bool x37_20 ∧ Aside0 (theorboref03_symbol.j1 kq a0 a1 a2 x37_20 = some r) ∧ Aside0 (kq ≤ kj17) ∧ Aside0 (Below w.heap.size w wc)))
          case first =>
            (have H := HC21.out); clear HC21; (by_cases c22 : a1 ≤ 6)
            · rw [if_pos c22] at H
              (have c22b0 := decide_eq_true c22); clear c22; ((first | rw [c22b0] | (simp only [i64_w, i32_w]; rw [c22b0]) | skip)); (have H' := Aside0.mk H); clear H; (go_wp2); (repeat (go_quiet (fail); try go_wp2)); (go_meet)
              case rel => exact ⟨_, (decide (a2 ≤ 10)), (rs_), H', ⟨by have := HJ17.out; first | omega | exact Nat.le_refl _⟩, ⟨bl_ HB⟩⟩
            · rw [if_neg c22] at H
              (have c22b0 := decide_eq_false c22); clear c22; ((first | rw [c22b0] | (simp only [i64_w, i32_w]; rw [c22b0]) | skip)); (have H' := Aside0.mk H); clear H; (go_wp2); (repeat (go_quiet (fail); try go_wp2)); (go_meet)
              case rel => exact ⟨_, (false), (rs_), H', ⟨by have := HJ17.out; first | omega | exact Nat.le_refl _⟩, ⟨bl_ HB⟩⟩
          case rest =>
            clear HC21; (try clear c20); (obtain ⟨kq, x37_20, rfl, HA, HJ20, HB⟩ := hcut)
            cases kq with
            | zero => exact absurd HA.out (by simp [theorboref03_symbol.j1])
            | succ kj20 =>
              (have H := HA.out); clear HA; (simp only [theorboref03_symbol.j1] at H); (by_cases c23 : x37_20 = true)
              · subst c23
                (rw [if_pos rfl] at H); (replace H := Option.bind_eq_some_iff.mp H); (obtain ⟨t665, A240, H⟩ := H); (try dsimp only at H); (have A24 := Aside0.mk A240); clear A240; (obtain rfl := Option.some.inj H); (go_wp2_with (first | (go_at_call 68; (with_reducible refine (theorboref03_figure.calls a2 t665 _ A24.out).mono ?_); rintro e w' ⟨rfl, ⟨nd, rfl⟩⟩; (try first | exact ⟨rfl, _, World.drewN_drewN _ _ _⟩ | exact ⟨rfl, _, Eq.trans (World.drewN_drewN _ _ _) (congrArg (World.drewN _) (Nat.add_assoc _ _ _))⟩)))); (repeat (go_quiet (first | (go_at_call 68; (with_reducible refine (theorboref03_figure.calls a2 t665 _ A24.out).mono ?_); rintro e w' ⟨rfl, ⟨nd, rfl⟩⟩; (try first | exact ⟨rfl, _, World.drewN_drewN _ _ _⟩ | exact ⟨rfl, _, Eq.trans (World.drewN_drewN _ _ _) (congrArg (World.drewN _) (Nat.add_assoc _ _ _))⟩))); try go_wp2_with (first | (go_at_call 68; (with_reducible refine (theorboref03_figure.calls a2 t665 _ A24.out).mono ?_); rintro e w' ⟨rfl, ⟨nd, rfl⟩⟩; (try first | exact ⟨rfl, _, World.drewN_drewN _ _ _⟩ | exact ⟨rfl, _, Eq.trans (World.drewN_drewN _ _ _) (congrArg (World.drewN _) (Nat.add_assoc _ _ _))⟩))))); (go_ret); (exact ⟨rv_, bl_ HB⟩)
              · replace c23 := Bool.eq_false_iff.mpr c23
                subst c23; (rw [if_neg Bool.false_ne_true] at H); (by_cases c25 : a0 = 2)
                · rw [if_pos c25] at H
                  (obtain ⟨c25b0, c25b1⟩ := eqT_ c25); clear c25; (by_cases c26 : a1 > 6)
                  · rw [if_pos c26] at H
                    (have c26b0 : decide (6 < a1) = true := decide_eq_true c26); clear c26; (by_cases c27 : a2 = 0)
                    · rw [if_pos c27] at H
                      (obtain ⟨c27b0, c27b1⟩ := eqT_ c27); clear c27; (obtain ⟨y666, hy666⟩ : ∃ y_ : List ByteArray, y_ = (([(⟨#[55]⟩ : ByteArray), (⟨#[56]⟩ : ByteArray), (⟨#[57]⟩ : ByteArray), (⟨#[120]⟩ : ByteArray), (⟨#[49, 49]⟩ : ByteArray), (⟨#[49, 50]⟩ : ByteArray), (⟨#[49, 51]⟩ : ByteArray), (⟨#[49, 52]⟩ : ByteArray)] : List ByteArray)) := ⟨_, rfl⟩); (replace H : (if 0 ≤ (wrap64 (a1 - 7)) then (if (wrap64 (a1 - 7)) < (y666.length : Int) then (some (rdOf ByteArray.empty y666 (wrap64 (a1 - 7)))) else (none)) else (none)) = some r := by first | (rw [hy666]; with_reducible exact H) | (have H2_ := (Option.bind_some _ _).symm.trans H; rw [hy666]; with_reducible exact H2_) | (have H2_ := (Option.bind_some _ _).symm.trans H; with_reducible exact H2_) | with_reducible exact H | (rw [hy666]; exact H) | exact H); (have Ny666 := Aside0.mk hy666); clear hy666; (obtain ⟨ji28, hji28⟩ : ∃ j_ : Int, (wrap64 (a1 - 7)) = j_ := ⟨_, rfl⟩); (replace H : (if 0 ≤ (ji28) then (if (ji28) < (y666.length : Int) then (some (rdOf ByteArray.empty y666 (ji28))) else (none)) else (none)) = some r := by first | (rw [hji28] at H; exact H) | (simp only [hji28] at H ⊢; exact H)); (have hji28w : (IntKind.i64.wrap (a1 - 7)) = ji28 := (i64_w _).trans hji28); (by_cases c29 : 0 ≤ (ji28))
                      · rw [if_pos c29] at H
                        (have c29b0 := decide_eq_true c29); clear c29; (by_cases c30 : (ji28) < (y666.length : Int))
                        · rw [if_pos c30] at H
                          (have c30b0 := decide_eq_true c30); clear c30; (obtain rfl := Option.some.inj H); (go_wp2_with (first | ((with_reducible refine gate_dst (N := 50) rfl ?_); refine Kd.R_lit Kd.string _ 9 ?hg (N := 50) ?hd (xs := ([(⟨#[55]⟩ : ByteArray), (⟨#[56]⟩ : ByteArray), (⟨#[57]⟩ : ByteArray), (⟨#[120]⟩ : ByteArray), (⟨#[49, 49]⟩ : ByteArray), (⟨#[49, 50]⟩ : ByteArray), (⟨#[49, 51]⟩ : ByteArray), (⟨#[49, 52]⟩ : ByteArray)] : List ByteArray)) (inner := [.string (⟨#[55]⟩ : ByteArray), .string (⟨#[56]⟩ : ByteArray), .string (⟨#[57]⟩ : ByteArray), .string (⟨#[120]⟩ : ByteArray), .string (⟨#[49, 49]⟩ : ByteArray), .string (⟨#[49, 50]⟩ : ByteArray), .string (⟨#[49, 51]⟩ : ByteArray), .string (⟨#[49, 52]⟩ : ByteArray)]) (ok := fun _ => True) (okp := fun _ => True) ?hr ?hp (fun _ hk => hk) trivial (Below.refl _ _) (Nat.le_refl _) (by simp) ?_; (case hd => rfl); (case hg => rfl); (case hr => first | (go_simp; done) | (go_simp; rfl)); (case hp => exact (Reps.one (show Kd.M Kd.string _ _ _ (⟨#[55]⟩ : ByteArray) [.string (⟨#[55]⟩ : ByteArray)] from rfl) (Reps.one (show Kd.M Kd.string _ _ _ (⟨#[56]⟩ : ByteArray) [.string (⟨#[56]⟩ : ByteArray)] from rfl) (Reps.one (show Kd.M Kd.string _ _ _ (⟨#[57]⟩ : ByteArray) [.string (⟨#[57]⟩ : ByteArray)] from rfl) (Reps.one (show Kd.M Kd.string _ _ _ (⟨#[120]⟩ : ByteArray) [.string (⟨#[120]⟩ : ByteArray)] from rfl) (Reps.one (show Kd.M Kd.string _ _ _ (⟨#[49, 49]⟩ : ByteArray) [.string (⟨#[49, 49]⟩ : ByteArray)] from rfl) (Reps.one (show Kd.M Kd.string _ _ _ (⟨#[49, 50]⟩ : ByteArray) [.string (⟨#[49, 50]⟩ : ByteArray)] from rfl) (Reps.one (show Kd.M Kd.string _ _ _ (⟨#[49, 51]⟩ : ByteArray) [.string (⟨#[49, 51]⟩ : ByteArray)] from rfl) (Reps.one (show Kd.M Kd.string _ _ _ (⟨#[49, 52]⟩ : ByteArray) [.string (⟨#[49, 52]⟩ : ByteArray)] from rfl) (Reps.none _ _)))))))))); intro v667 w31 ho32 hb hg_ hnew_; clear hg_ hnew_; (first | rw [← Ny666.out] at ho32 | (simp only [Int.reduceToNat] at ho32; rw [← Ny666.out] at ho32)); have HO668 := rl_ ho32 HB; replace HB := bs_ HB hb; clear hb ho32; obtain ⟨Ao33, co33, eo33⟩ := Kd.R_slice HO668.out; subst eo33; have p669 : 0 ≤ ((ji28) : Int) := of_decide_eq_true (by first | (with_reducible assumption) | assumption); have q669 : (ji28) < (y666.length : Int) := of_decide_eq_true (by first | (with_reducible assumption) | assumption); obtain ⟨ad669, e669, hx669_0⟩ := Kd.at_string (Kd.R_reads' HO668.out).2.2 (ji28) p669 q669; cases e669; replace p669 := eq_true p669; replace q669 := eq_true q669))); (repeat (go_quiet (first | ((with_reducible refine gate_dst (N := 50) rfl ?_); refine Kd.R_lit Kd.string _ 9 ?hg (N := 50) ?hd (xs := ([(⟨#[55]⟩ : ByteArray), (⟨#[56]⟩ : ByteArray), (⟨#[57]⟩ : ByteArray), (⟨#[120]⟩ : ByteArray), (⟨#[49, 49]⟩ : ByteArray), (⟨#[49, 50]⟩ : ByteArray), (⟨#[49, 51]⟩ : ByteArray), (⟨#[49, 52]⟩ : ByteArray)] : List ByteArray)) (inner := [.string (⟨#[55]⟩ : ByteArray), .string (⟨#[56]⟩ : ByteArray), .string (⟨#[57]⟩ : ByteArray), .string (⟨#[120]⟩ : ByteArray), .string (⟨#[49, 49]⟩ : ByteArray), .string (⟨#[49, 50]⟩ : ByteArray), .string (⟨#[49, 51]⟩ : ByteArray), .string (⟨#[49, 52]⟩ : ByteArray)]) (ok := fun _ => True) (okp := fun _ => True) ?hr ?hp (fun _ hk => hk) trivial (Below.refl _ _) (Nat.le_refl _) (by simp) ?_; (case hd => rfl); (case hg => rfl); (case hr => first | (go_simp; done) | (go_simp; rfl)); (case hp => exact (Reps.one (show Kd.M Kd.string _ _ _ (⟨#[55]⟩ : ByteArray) [.string (⟨#[55]⟩ : ByteArray)] from rfl) (Reps.one (show Kd.M Kd.string _ _ _ (⟨#[56]⟩ : ByteArray) [.string (⟨#[56]⟩ : ByteArray)] from rfl) (Reps.one (show Kd.M Kd.string _ _ _ (⟨#[57]⟩ : ByteArray) [.string (⟨#[57]⟩ : ByteArray)] from rfl) (Reps.one (show Kd.M Kd.string _ _ _ (⟨#[120]⟩ : ByteArray) [.string (⟨#[120]⟩ : ByteArray)] from rfl) (Reps.one (show Kd.M Kd.string _ _ _ (⟨#[49, 49]⟩ : ByteArray) [.string (⟨#[49, 49]⟩ : ByteArray)] from rfl) (Reps.one (show Kd.M Kd.string _ _ _ (⟨#[49, 50]⟩ : ByteArray) [.string (⟨#[49, 50]⟩ : ByteArray)] from rfl) (Reps.one (show Kd.M Kd.string _ _ _ (⟨#[49, 51]⟩ : ByteArray) [.string (⟨#[49, 51]⟩ : ByteArray)] from rfl) (Reps.one (show Kd.M Kd.string _ _ _ (⟨#[49, 52]⟩ : ByteArray) [.string (⟨#[49, 52]⟩ : ByteArray)] from rfl) (Reps.none _ _)))))))))); intro v667 w31 ho32 hb hg_ hnew_; clear hg_ hnew_; (first | rw [← Ny666.out] at ho32 | (simp only [Int.reduceToNat] at ho32; rw [← Ny666.out] at ho32)); have HO668 := rl_ ho32 HB; replace HB := bs_ HB hb; clear hb ho32; obtain ⟨Ao33, co33, eo33⟩ := Kd.R_slice HO668.out; subst eo33; have p669 : 0 ≤ ((ji28) : Int) := of_decide_eq_true (by first | (with_reducible assumption) | assumption); have q669 : (ji28) < (y666.length : Int) := of_decide_eq_true (by first | (with_reducible assumption) | assumption); obtain ⟨ad669, e669, hx669_0⟩ := Kd.at_string (Kd.R_reads' HO668.out).2.2 (ji28) p669 q669; cases e669; replace p669 := eq_true p669; replace q669 := eq_true q669)); try go_wp2_with (first | ((with_reducible refine gate_dst (N := 50) rfl ?_); refine Kd.R_lit Kd.string _ 9 ?hg (N := 50) ?hd (xs := ([(⟨#[55]⟩ : ByteArray), (⟨#[56]⟩ : ByteArray), (⟨#[57]⟩ : ByteArray), (⟨#[120]⟩ : ByteArray), (⟨#[49, 49]⟩ : ByteArray), (⟨#[49, 50]⟩ : ByteArray), (⟨#[49, 51]⟩ : ByteArray), (⟨#[49, 52]⟩ : ByteArray)] : List ByteArray)) (inner := [.string (⟨#[55]⟩ : ByteArray), .string (⟨#[56]⟩ : ByteArray), .string (⟨#[57]⟩ : ByteArray), .string (⟨#[120]⟩ : ByteArray), .string (⟨#[49, 49]⟩ : ByteArray), .string (⟨#[49, 50]⟩ : ByteArray), .string (⟨#[49, 51]⟩ : ByteArray), .string (⟨#[49, 52]⟩ : ByteArray)]) (ok := fun _ => True) (okp := fun _ => True) ?hr ?hp (fun _ hk => hk) trivial (Below.refl _ _) (Nat.le_refl _) (by simp) ?_; (case hd => rfl); (case hg => rfl); (case hr => first | (go_simp; done) | (go_simp; rfl)); (case hp => exact (Reps.one (show Kd.M Kd.string _ _ _ (⟨#[55]⟩ : ByteArray) [.string (⟨#[55]⟩ : ByteArray)] from rfl) (Reps.one (show Kd.M Kd.string _ _ _ (⟨#[56]⟩ : ByteArray) [.string (⟨#[56]⟩ : ByteArray)] from rfl) (Reps.one (show Kd.M Kd.string _ _ _ (⟨#[57]⟩ : ByteArray) [.string (⟨#[57]⟩ : ByteArray)] from rfl) (Reps.one (show Kd.M Kd.string _ _ _ (⟨#[120]⟩ : ByteArray) [.string (⟨#[120]⟩ : ByteArray)] from rfl) (Reps.one (show Kd.M Kd.string _ _ _ (⟨#[49, 49]⟩ : ByteArray) [.string (⟨#[49, 49]⟩ : ByteArray)] from rfl) (Reps.one (show Kd.M Kd.string _ _ _ (⟨#[49, 50]⟩ : ByteArray) [.string (⟨#[49, 50]⟩ : ByteArray)] from rfl) (Reps.one (show Kd.M Kd.string _ _ _ (⟨#[49, 51]⟩ : ByteArray) [.string (⟨#[49, 51]⟩ : ByteArray)] from rfl) (Reps.one (show Kd.M Kd.string _ _ _ (⟨#[49, 52]⟩ : ByteArray) [.string (⟨#[49, 52]⟩ : ByteArray)] from rfl) (Reps.none _ _)))))))))); intro v667 w31 ho32 hb hg_ hnew_; clear hg_ hnew_; (first | rw [← Ny666.out] at ho32 | (simp only [Int.reduceToNat] at ho32; rw [← Ny666.out] at ho32)); have HO668 := rl_ ho32 HB; replace HB := bs_ HB hb; clear hb ho32; obtain ⟨Ao33, co33, eo33⟩ := Kd.R_slice HO668.out; subst eo33; have p669 : 0 ≤ ((ji28) : Int) := of_decide_eq_true (by first | (with_reducible assumption) | assumption); have q669 : (ji28) < (y666.length : Int) := of_decide_eq_true (by first | (with_reducible assumption) | assumption); obtain ⟨ad669, e669, hx669_0⟩ := Kd.at_string (Kd.R_reads' HO668.out).2.2 (ji28) p669 q669; cases e669; replace p669 := eq_true p669; replace q669 := eq_true q669)))); (go_ret); (exact ⟨by first | rfl | (simp [errW_none, errW_some] <;> rfl) | (simp only [← hji28]; first | rfl | (simp [errW_none, errW_some] <;> rfl)) | (simp [*, errW_none, errW_some] <;> rfl), bl_ HB⟩)
                        · rw [if_neg c30] at H
                          exact absurd H (by simp)
                      · rw [if_neg c29] at H
                        exact absurd H (by simp)
                    · rw [if_neg c27] at H
                      (obtain ⟨c27b0, c27b1⟩ := eqF_ c27); (obtain rfl := Option.some.inj H); (go_wp2); (repeat (go_quiet (fail); try go_wp2)); (go_ret); (exact ⟨rv_, bl_ HB⟩)
                  · rw [if_neg c26] at H
                    (have c26b0 : decide (6 < a1) = false := decide_eq_false c26); clear c26; (obtain rfl := Option.some.inj H); (go_wp2); (repeat (go_quiet (fail); try go_wp2)); (go_ret); (exact ⟨rv_, bl_ HB⟩)
                · rw [if_neg c25] at H
                  (obtain ⟨c25b0, c25b1⟩ := eqF_ c25); (obtain rfl := Option.some.inj H); (go_wp2); (repeat (go_quiet (fail); try go_wp2)); (go_ret); (exact ⟨rv_, bl_ HB⟩)
        · replace c20 := Bool.eq_false_iff.mpr c20
          subst c20; (rw [if_neg Bool.false_ne_true] at H); (by_cases c34 : a0 = 4)
          · rw [if_pos c34] at H
            (obtain ⟨c34b0, c34b1⟩ := eqT_ c34); clear c34; (by_cases c35 : a1 ≤ 6)
            · rw [if_pos c35] at H
              (have c35b0 := decide_eq_true c35); clear c35; (by_cases c36 : a2 ≤ 10)
              · rw [if_pos c36] at H
                (have c36b0 := decide_eq_true c36); clear c36; (replace H := Option.bind_eq_some_iff.mp H); (obtain ⟨t670, A370, H⟩ := H); (try dsimp only at H); (have A37 := Aside0.mk A370); clear A370; (obtain rfl := Option.some.inj H); (go_wp2_with (first | (go_at_call 69; (with_reducible refine (theorboref03_german.calls a1 a2 t670 _ A37.out).mono ?_); rintro e w' ⟨rfl, ⟨nd, rfl⟩⟩; (try first | exact ⟨rfl, _, World.drewN_drewN _ _ _⟩ | exact ⟨rfl, _, Eq.trans (World.drewN_drewN _ _ _) (congrArg (World.drewN _) (Nat.add_assoc _ _ _))⟩)))); (repeat (go_quiet (first | (go_at_call 69; (with_reducible refine (theorboref03_german.calls a1 a2 t670 _ A37.out).mono ?_); rintro e w' ⟨rfl, ⟨nd, rfl⟩⟩; (try first | exact ⟨rfl, _, World.drewN_drewN _ _ _⟩ | exact ⟨rfl, _, Eq.trans (World.drewN_drewN _ _ _) (congrArg (World.drewN _) (Nat.add_assoc _ _ _))⟩))); try go_wp2_with (first | (go_at_call 69; (with_reducible refine (theorboref03_german.calls a1 a2 t670 _ A37.out).mono ?_); rintro e w' ⟨rfl, ⟨nd, rfl⟩⟩; (try first | exact ⟨rfl, _, World.drewN_drewN _ _ _⟩ | exact ⟨rfl, _, Eq.trans (World.drewN_drewN _ _ _) (congrArg (World.drewN _) (Nat.add_assoc _ _ _))⟩))))); (go_ret); (exact ⟨rv_, bl_ HB⟩)
              · rw [if_neg c36] at H
                (have c36b0 := decide_eq_false c36); clear c36; (obtain rfl := Option.some.inj H); (go_wp2); (repeat (go_quiet (fail); try go_wp2)); (go_ret); (exact ⟨rv_, bl_ HB⟩)
            · rw [if_neg c35] at H
              (have c35b0 := decide_eq_false c35); clear c35; (obtain rfl := Option.some.inj H); (go_wp2); (repeat (go_quiet (fail); try go_wp2)); (go_ret); (exact ⟨rv_, bl_ HB⟩)
          · rw [if_neg c34] at H
            (obtain ⟨c34b0, c34b1⟩ := eqF_ c34); (obtain rfl := Option.some.inj H); (go_wp2); (repeat (go_quiet (fail); try go_wp2)); (go_ret); (exact ⟨rv_, bl_ HB⟩)

/-! ### theorboref03_right: function 57 -/
mutual
def theorboref03_right.j0 : Nat → Int → Int → Bool → Option (ByteArray)
  | 0, _, _, _ => none
  | k + 1, x0, x1, x10 => if x10 = true then (some (⟨#[46]⟩ : ByteArray)) else (if x1 = 2 then (theorboref03_right.j1 k x0 x1 (x0 == 1)) else (theorboref03_right.j1 k x0 x1 false))
def theorboref03_right.j1 : Nat → Int → Int → Bool → Option (ByteArray)
  | 0, _, _, _ => none
  | k + 1, x0, x1, x16 => if x16 = true then (some (⟨#[58]⟩ : ByteArray)) else (if x1 = 3 then (if x0 = 1 then (some (⟨#[39]⟩ : ByteArray)) else (some (⟨#[]⟩ : ByteArray))) else (some (⟨#[]⟩ : ByteArray)))
end
def theorboref03_right.f (k : Nat) (a0 : Int) (a1 : Int) : Option (ByteArray) := if a1 = 1 then (theorboref03_right.j0 k a0 a1 (a0 != 3)) else (theorboref03_right.j0 k a0 a1 false)
theorem theorboref03_right.mono_l : ∀ k, (∀ y0 y1 y2, LeO (theorboref03_right.j0 k y0 y1 y2) (theorboref03_right.j0 (k + 1) y0 y1 y2)) ∧ (∀ y0 y1 y2, LeO (theorboref03_right.j1 k y0 y1 y2) (theorboref03_right.j1 (k + 1) y0 y1 y2))
  | 0 => ⟨fun _ _ _ r h => by simp [theorboref03_right.j0] at h, fun _ _ _ r h => by simp [theorboref03_right.j1] at h⟩
  | k + 1 => by
    ((obtain ⟨ih0, ih1⟩ := theorboref03_right.mono_l k); (refine ⟨?_, ?_⟩)); (focus intro y0 y1 y2; (unfold theorboref03_right.j0); (repeat' first | (with_reducible first | apply ih0 | apply ih1 | exact LeO.refl _ | exact LeO.none _ | refine LeO.ite ?_ ?_ | refine LeO.bind ?_ fun _ => ?_) | exact LeO.none _ | refine LeO.ite ?_ ?_ | refine LeO.bind ?_ fun _ => ?_ | apply ih0 | apply ih1)); (focus intro y0 y1 y2; (unfold theorboref03_right.j1); (repeat' first | (with_reducible first | apply ih0 | apply ih1 | exact LeO.refl _ | exact LeO.none _ | refine LeO.ite ?_ ?_ | refine LeO.bind ?_ fun _ => ?_) | exact LeO.none _ | refine LeO.ite ?_ ?_ | refine LeO.bind ?_ fun _ => ?_ | apply ih0 | apply ih1))
theorem theorboref03_right.mono : ∀ a0 a1 k, LeO (theorboref03_right.f k a0 a1) (theorboref03_right.f (k + 1) a0 a1) := by
  intro a0 a1 k
  obtain ⟨ih0, ih1⟩ := theorboref03_right.mono_l k
  unfold theorboref03_right.f
  repeat' first | (with_reducible first | apply ih0 | apply ih1 | exact LeO.refl _ | exact LeO.none _ | refine LeO.ite ?_ ?_ | refine LeO.bind ?_ fun _ => ?_) | exact LeO.none _ | refine LeO.ite ?_ ?_ | refine LeO.bind ?_ fun _ => ?_ | apply ih0 | apply ih1
set_option maxHeartbeats 8000000 in
set_option maxRecDepth 100000 in
theorem theorboref03_right.calls (k : Nat) (a0 : Int) (a1 : Int) (r : ByteArray) (w : World) (h : theorboref03_right.f k a0 a1 = some r) :
    Calls Tryz.prog 57 #[.int .u8 a0, .int .i64 a1] w fun e w' => e = .returned (.string r) ∧ Drawn0 w w' := by
  have H : (if a1 = 1 then (theorboref03_right.j0 k a0 a1 (a0 != 3)) else (theorboref03_right.j0 k a0 a1 false)) = some r := h
  clear h
  have HC3 := Aside0.mk H
  clear H
  go_enter Tryz.func57, Tryz.ntmps57
  go_upto_region 1 with (fail)
  go_cut [10] (fun v10 wc => ∃ (kq : Nat) (x10_2 : Bool), v10 = .bool x10_2 ∧ Aside0 (theorboref03_right.j0 kq a0 a1 x10_2 = some r) ∧ Aside0 (kq ≤ k) ∧ Drawn0 w wc)
  case first =>
    (have H := HC3.out); clear HC3; (by_cases c4 : a1 = 1)
    · rw [if_pos c4] at H
      (obtain ⟨c4b0, c4b1⟩ := eqT_ c4); clear c4; ((first | rw [c4b0] | rw [c4b1] | (simp only [i64_w, i32_w]; rw [c4b0]) | skip)); (have H' := Aside0.mk H); clear H; (go_wp2); (go_meet)
      case rel => exact ⟨_, ((a0 != 3)), (rs_), H', ⟨om_⟩, dr_⟩
    · rw [if_neg c4] at H
      (obtain ⟨c4b0, c4b1⟩ := eqF_ c4); ((first | rw [c4b0] | rw [c4b1] | (simp only [i64_w, i32_w]; rw [c4b0]) | skip)); (have H' := Aside0.mk H); clear H; (go_wp2); (go_meet)
      case rel => exact ⟨_, (false), (rs_), H', ⟨om_⟩, dr_⟩
  case rest =>
    clear HC3; (obtain ⟨kq, x10_2, rfl, HA, HJ2, ⟨mc2, rfl⟩⟩ := hcut)
    cases kq with
    | zero => exact absurd HA.out (by simp [theorboref03_right.j0])
    | succ kj2 =>
      (have H := HA.out); clear HA; (simp only [theorboref03_right.j0] at H); (by_cases c5 : x10_2 = true)
      · subst c5
        (rw [if_pos rfl] at H); (obtain rfl := Option.some.inj H); (go_wp2); (go_ret); (exact ⟨rs_, dr_⟩)
      · replace c5 := Bool.eq_false_iff.mpr c5
        subst c5; (rw [if_neg Bool.false_ne_true] at H); (have HC6 := Aside0.mk H); clear H; (go_upto_region 3 with (fail)); (go_cut [16] (fun v16 wc => ∃ (kq : Nat) (x16_5 : Bool), v16 = .bool x16_5 ∧ Aside0 (theorboref03_right.j1 kq a0 a1 x16_5 = some r) ∧ Aside0 (kq ≤ kj2) ∧ Drawn0 w wc))
        case first =>
          (have H := HC6.out); clear HC6; (by_cases c7 : a1 = 2)
          · rw [if_pos c7] at H
            (obtain ⟨c7b0, c7b1⟩ := eqT_ c7); clear c7; ((first | rw [c7b0] | rw [c7b1] | (simp only [i64_w, i32_w]; rw [c7b0]) | skip)); (have H' := Aside0.mk H); clear H; (go_wp2); (go_meet)
            case rel => exact ⟨_, ((a0 == 1)), (rs_), H', ⟨by have := HJ2.out; first | omega | exact Nat.le_refl _⟩, dr_⟩
          · rw [if_neg c7] at H
            (obtain ⟨c7b0, c7b1⟩ := eqF_ c7); ((first | rw [c7b0] | rw [c7b1] | (simp only [i64_w, i32_w]; rw [c7b0]) | skip)); (have H' := Aside0.mk H); clear H; (go_wp2); (go_meet)
            case rel => exact ⟨_, (false), (rs_), H', ⟨by have := HJ2.out; first | omega | exact Nat.le_refl _⟩, dr_⟩
        case rest =>
          clear HC6; (try clear c5); (obtain ⟨kq, x16_5, rfl, HA, HJ5, ⟨mc5, rfl⟩⟩ := hcut)
          cases kq with
          | zero => exact absurd HA.out (by simp [theorboref03_right.j1])
          | succ kj5 =>
            (have H := HA.out); clear HA; (simp only [theorboref03_right.j1] at H); (by_cases c8 : x16_5 = true)
            · subst c8
              (rw [if_pos rfl] at H); (obtain rfl := Option.some.inj H); (go_wp2); (go_ret); (exact ⟨rs_, dr_⟩)
            · replace c8 := Bool.eq_false_iff.mpr c8
              subst c8; (rw [if_neg Bool.false_ne_true] at H); (by_cases c9 : a1 = 3)
              · rw [if_pos c9] at H
                (obtain ⟨c9b0, c9b1⟩ := eqT_ c9); clear c9; (by_cases c10 : a0 = 1)
                · rw [if_pos c10] at H
                  (obtain ⟨c10b0, c10b1⟩ := eqT_ c10); clear c10; (obtain rfl := Option.some.inj H); (go_wp2); (go_ret); (exact ⟨rs_, dr_⟩)
                · rw [if_neg c10] at H
                  (obtain ⟨c10b0, c10b1⟩ := eqF_ c10); (obtain rfl := Option.some.inj H); (go_wp2); (go_ret); (exact ⟨rs_, dr_⟩)
              · rw [if_neg c9] at H
                (obtain ⟨c9b0, c9b1⟩ := eqF_ c9); (obtain rfl := Option.some.inj H); (go_wp2); (go_ret); (exact ⟨rs_, dr_⟩)

/-! ### theorboref03_grace: function 58 -/
mutual
def theorboref03_grace.j0 : Nat → Int → Int → Bool → Option (ByteArray)
  | 0, _, _, _ => none
  | k + 1, x0, x1, x14 => if x14 = true then (if 0 ≤ (wrap64 (x1 - 1)) then (if (wrap64 (x1 - 1)) ≤ x1 then (if x1 ≤ 4 then (some ((⟨#[44, 94, 35, 40]⟩ : ByteArray).extract ((wrap64 (x1 - 1)) : Int).toNat (x1 : Int).toNat)) else (none)) else (none)) else (none)) else (if x0 = 2 then (theorboref03_grace.j1 k x0 x1 (x1 == 1)) else (theorboref03_grace.j1 k x0 x1 false))
def theorboref03_grace.j1 : Nat → Int → Int → Bool → Option (ByteArray)
  | 0, _, _, _ => none
  | k + 1, x0, x1, x24 => if x24 = true then (some (⟨#[116]⟩ : ByteArray)) else (if x0 = 2 then (if x1 = 3 then (some (⟨#[35]⟩ : ByteArray)) else (some (⟨#[]⟩ : ByteArray))) else (if x0 = 4 then (if x1 = 3 then (some (⟨#[35]⟩ : ByteArray)) else (some (⟨#[]⟩ : ByteArray))) else (some (⟨#[]⟩ : ByteArray))))
end
def theorboref03_grace.f (k : Nat) (a0 : Int) (a1 : Int) : Option (ByteArray) := if a0 = 1 then (if a1 ≥ 1 then (theorboref03_grace.j0 k a0 a1 (decide (a1 ≤ 4))) else (theorboref03_grace.j0 k a0 a1 false)) else (theorboref03_grace.j0 k a0 a1 false)
theorem theorboref03_grace.mono_l : ∀ k, (∀ y0 y1 y2, LeO (theorboref03_grace.j0 k y0 y1 y2) (theorboref03_grace.j0 (k + 1) y0 y1 y2)) ∧ (∀ y0 y1 y2, LeO (theorboref03_grace.j1 k y0 y1 y2) (theorboref03_grace.j1 (k + 1) y0 y1 y2))
  | 0 => ⟨fun _ _ _ r h => by simp [theorboref03_grace.j0] at h, fun _ _ _ r h => by simp [theorboref03_grace.j1] at h⟩
  | k + 1 => by
    ((obtain ⟨ih0, ih1⟩ := theorboref03_grace.mono_l k); (refine ⟨?_, ?_⟩)); (focus intro y0 y1 y2; (unfold theorboref03_grace.j0); (repeat' first | (with_reducible first | apply ih0 | apply ih1 | exact LeO.refl _ | exact LeO.none _ | refine LeO.ite ?_ ?_ | refine LeO.bind ?_ fun _ => ?_) | exact LeO.none _ | refine LeO.ite ?_ ?_ | refine LeO.bind ?_ fun _ => ?_ | apply ih0 | apply ih1)); (focus intro y0 y1 y2; (unfold theorboref03_grace.j1); (repeat' first | (with_reducible first | apply ih0 | apply ih1 | exact LeO.refl _ | exact LeO.none _ | refine LeO.ite ?_ ?_ | refine LeO.bind ?_ fun _ => ?_) | exact LeO.none _ | refine LeO.ite ?_ ?_ | refine LeO.bind ?_ fun _ => ?_ | apply ih0 | apply ih1))
theorem theorboref03_grace.mono : ∀ a0 a1 k, LeO (theorboref03_grace.f k a0 a1) (theorboref03_grace.f (k + 1) a0 a1) := by
  intro a0 a1 k
  obtain ⟨ih0, ih1⟩ := theorboref03_grace.mono_l k
  unfold theorboref03_grace.f
  repeat' first | (with_reducible first | apply ih0 | apply ih1 | exact LeO.refl _ | exact LeO.none _ | refine LeO.ite ?_ ?_ | refine LeO.bind ?_ fun _ => ?_) | exact LeO.none _ | refine LeO.ite ?_ ?_ | refine LeO.bind ?_ fun _ => ?_ | apply ih0 | apply ih1
set_option maxHeartbeats 8000000 in
set_option maxRecDepth 100000 in
theorem theorboref03_grace.calls (k : Nat) (a0 : Int) (a1 : Int) (r : ByteArray) (w : World) (h : theorboref03_grace.f k a0 a1 = some r) :
    Calls Tryz.prog 58 #[.int .u8 a0, .int .i64 a1] w fun e w' => e = .returned (.string r) ∧ Drawn0 w w' := by
  have H : (if a0 = 1 then (if a1 ≥ 1 then (theorboref03_grace.j0 k a0 a1 (decide (a1 ≤ 4))) else (theorboref03_grace.j0 k a0 a1 false)) else (theorboref03_grace.j0 k a0 a1 false)) = some r := h
  clear h
  have HC3 := Aside0.mk H
  clear H
  go_enter Tryz.func58, Tryz.ntmps58
  go_upto_region 1 with (fail)
  go_cut [14] (fun v14 wc => ∃ (kq : Nat) (x14_2 : Bool), v14 = .bool x14_2 ∧ Aside0 (theorboref03_grace.j0 kq a0 a1 x14_2 = some r) ∧ Aside0 (kq ≤ k) ∧ Drawn0 w wc)
  case first =>
    (have H := HC3.out); clear HC3; (by_cases c4 : a0 = 1)
    · rw [if_pos c4] at H
      (obtain ⟨c4b0, c4b1⟩ := eqT_ c4); clear c4; ((first | rw [c4b0] | rw [c4b1] | (simp only [i64_w, i32_w]; rw [c4b0]) | skip)); (by_cases c5 : a1 ≥ 1)
      · rw [if_pos c5] at H
        (have c5b0 : decide (1 ≤ a1) = true := decide_eq_true c5); clear c5; (have H' := Aside0.mk H); clear H; (go_wp2); (go_meet)
        case rel => exact ⟨_, (decide (a1 ≤ 4)), (rs_), H', ⟨om_⟩, dr_⟩
      · rw [if_neg c5] at H
        (have c5b0 : decide (1 ≤ a1) = false := decide_eq_false c5); clear c5; (have H' := Aside0.mk H); clear H; (go_wp2); (go_meet)
        case rel => exact ⟨_, (false), (rs_), H', ⟨om_⟩, dr_⟩
    · rw [if_neg c4] at H
      (obtain ⟨c4b0, c4b1⟩ := eqF_ c4); ((first | rw [c4b0] | rw [c4b1] | (simp only [i64_w, i32_w]; rw [c4b0]) | skip)); (have H' := Aside0.mk H); clear H; (go_wp2); (go_meet)
      case rel => exact ⟨_, (false), (rs_), H', ⟨om_⟩, dr_⟩
  case rest =>
    clear HC3; (obtain ⟨kq, x14_2, rfl, HA, HJ2, ⟨mc2, rfl⟩⟩ := hcut)
    cases kq with
    | zero => exact absurd HA.out (by simp [theorboref03_grace.j0])
    | succ kj2 =>
      (have H := HA.out); clear HA; (simp only [theorboref03_grace.j0] at H); (by_cases c6 : x14_2 = true)
      · subst c6
        (rw [if_pos rfl] at H); (obtain ⟨ji7, hji7⟩ : ∃ j_ : Int, (wrap64 (a1 - 1)) = j_ := ⟨_, rfl⟩); (replace H : (if 0 ≤ (ji7) then (if (ji7) ≤ a1 then (if a1 ≤ 4 then (some ((⟨#[44, 94, 35, 40]⟩ : ByteArray).extract ((ji7) : Int).toNat (a1 : Int).toNat)) else (none)) else (none)) else (none)) = some r := by first | (rw [hji7] at H; exact H) | (simp only [hji7] at H ⊢; exact H)); (have hji7w : (IntKind.i64.wrap (a1 - 1)) = ji7 := (i64_w _).trans hji7); (by_cases c8 : 0 ≤ (ji7))
        · rw [if_pos c8] at H
          (have c8b0 := eq_true c8); (have c8b1 : decide (0 ≤ (ji7)) = true := decide_eq_true c8); clear c8; (by_cases c9 : (ji7) ≤ a1)
          · rw [if_pos c9] at H
            (have c9b0 := eq_true c9); (have c9b1 : decide ((ji7) ≤ a1) = true := decide_eq_true c9); clear c9; (by_cases c10 : a1 ≤ 4)
            · rw [if_pos c10] at H
              (have c10b0 := eq_true c10); (have c10b1 : decide (a1 ≤ 4) = true := decide_eq_true c10); clear c10; (obtain rfl := Option.some.inj H); (go_wp2); (go_ret); (exact ⟨by first | rfl | (simp; done) | (simp only [← hji7] <;> (first | rfl | simp)) | (simp [*]; done), dr_⟩)
            · rw [if_neg c10] at H
              exact absurd H (by simp)
          · rw [if_neg c9] at H
            exact absurd H (by simp)
        · rw [if_neg c8] at H
          exact absurd H (by simp)
      · replace c6 := Bool.eq_false_iff.mpr c6
        subst c6; (rw [if_neg Bool.false_ne_true] at H); (have HC11 := Aside0.mk H); clear H; (go_upto_region 3 with (fail)); (go_cut [24] (fun v24 wc => ∃ (kq : Nat) (x24_10 : Bool), v24 = .bool x24_10 ∧ Aside0 (theorboref03_grace.j1 kq a0 a1 x24_10 = some r) ∧ Aside0 (kq ≤ kj2) ∧ Drawn0 w wc))
        case first =>
          (have H := HC11.out); clear HC11; (by_cases c12 : a0 = 2)
          · rw [if_pos c12] at H
            (obtain ⟨c12b0, c12b1⟩ := eqT_ c12); clear c12; ((first | rw [c12b0] | rw [c12b1] | (simp only [i64_w, i32_w]; rw [c12b0]) | skip)); (have H' := Aside0.mk H); clear H; (go_wp2); (go_meet)
            case rel => exact ⟨_, ((a1 == 1)), (rs_), H', ⟨by have := HJ2.out; first | omega | exact Nat.le_refl _⟩, dr_⟩
          · rw [if_neg c12] at H
            (obtain ⟨c12b0, c12b1⟩ := eqF_ c12); ((first | rw [c12b0] | rw [c12b1] | (simp only [i64_w, i32_w]; rw [c12b0]) | skip)); (have H' := Aside0.mk H); clear H; (go_wp2); (go_meet)
            case rel => exact ⟨_, (false), (rs_), H', ⟨by have := HJ2.out; first | omega | exact Nat.le_refl _⟩, dr_⟩
        case rest =>
          clear HC11; (try clear c6); (obtain ⟨kq, x24_10, rfl, HA, HJ10, ⟨mc10, rfl⟩⟩ := hcut)
          cases kq with
          | zero => exact absurd HA.out (by simp [theorboref03_grace.j1])
          | succ kj10 =>
            (have H := HA.out); clear HA; (simp only [theorboref03_grace.j1] at H); (by_cases c13 : x24_10 = true)
            · subst c13
              (rw [if_pos rfl] at H); (obtain rfl := Option.some.inj H); (go_wp2); (go_ret); (exact ⟨rs_, dr_⟩)
            · replace c13 := Bool.eq_false_iff.mpr c13
              subst c13; (rw [if_neg Bool.false_ne_true] at H); (by_cases c14 : a0 = 2)
              · rw [if_pos c14] at H
                (obtain ⟨c14b0, c14b1⟩ := eqT_ c14); clear c14; (by_cases c15 : a1 = 3)
                · rw [if_pos c15] at H
                  (obtain ⟨c15b0, c15b1⟩ := eqT_ c15); clear c15; (obtain rfl := Option.some.inj H); (go_wp2); (go_ret); (exact ⟨rs_, dr_⟩)
                · rw [if_neg c15] at H
                  (obtain ⟨c15b0, c15b1⟩ := eqF_ c15); (obtain rfl := Option.some.inj H); (go_wp2); (go_ret); (exact ⟨rs_, dr_⟩)
              · rw [if_neg c14] at H
                (obtain ⟨c14b0, c14b1⟩ := eqF_ c14); (by_cases c16 : a0 = 4)
                · rw [if_pos c16] at H
                  (obtain ⟨c16b0, c16b1⟩ := eqT_ c16); clear c16; (by_cases c17 : a1 = 3)
                  · rw [if_pos c17] at H
                    (obtain ⟨c17b0, c17b1⟩ := eqT_ c17); clear c17; (obtain rfl := Option.some.inj H); (go_wp2); (go_ret); (exact ⟨rs_, dr_⟩)
                  · rw [if_neg c17] at H
                    (obtain ⟨c17b0, c17b1⟩ := eqF_ c17); (obtain rfl := Option.some.inj H); (go_wp2); (go_ret); (exact ⟨rs_, dr_⟩)
                · rw [if_neg c16] at H
                  (obtain ⟨c16b0, c16b1⟩ := eqF_ c16); (obtain rfl := Option.some.inj H); (go_wp2); (go_ret); (exact ⟨rs_, dr_⟩)

/-! ### theorboref01_Decimal: function 70 -/
def theorboref01_Decimal.f : Nat → Int → Option (ByteArray)
  | 0, _ => none
  | k + 1, a0 => if a0 = (-9223372036854775808) then (some (⟨#[45, 57, 50, 50, 51, 51, 55, 50, 48, 51, 54, 56, 53, 52, 55, 55, 53, 56, 48, 56]⟩ : ByteArray)) else (if a0 < 0 then ((theorboref01_Decimal.f k (wrap64 (-a0))).bind fun t679 => (if 1 + t679.size ≤ 9223372036854775807 then (some ((⟨#[45]⟩ : ByteArray) ++ t679)) else (none))) else (if 0 ≤ (Int.tmod a0 10) then (if (Int.tmod a0 10) ≤ (wrap64 ((Int.tmod a0 10) + 1)) then (if (wrap64 ((Int.tmod a0 10) + 1)) ≤ 10 then (if a0 < 10 then (some ((⟨#[48, 49, 50, 51, 52, 53, 54, 55, 56, 57]⟩ : ByteArray).extract ((Int.tmod a0 10) : Int).toNat ((wrap64 ((Int.tmod a0 10) + 1)) : Int).toNat)) else ((theorboref01_Decimal.f k (wrap64 (Int.tdiv a0 10))).bind fun t680 => (if t680.size + ((⟨#[48, 49, 50, 51, 52, 53, 54, 55, 56, 57]⟩ : ByteArray).extract ((Int.tmod a0 10) : Int).toNat ((wrap64 ((Int.tmod a0 10) + 1)) : Int).toNat).size ≤ 9223372036854775807 then (some (t680 ++ ((⟨#[48, 49, 50, 51, 52, 53, 54, 55, 56, 57]⟩ : ByteArray).extract ((Int.tmod a0 10) : Int).toNat ((wrap64 ((Int.tmod a0 10) + 1)) : Int).toNat))) else (none)))) else (none)) else (none)) else (none)))
theorem theorboref01_Decimal.mono_l : ∀ k, (∀ y0, LeO (theorboref01_Decimal.f k y0) (theorboref01_Decimal.f (k + 1) y0))
  | 0 => fun _ r h => by simp [theorboref01_Decimal.f] at h
  | k + 1 => by
    (have ih0 := theorboref01_Decimal.mono_l k); (focus intro y0; (unfold theorboref01_Decimal.f); (repeat' first | (with_reducible first | apply ih0 | exact LeO.refl _ | exact LeO.none _ | refine LeO.ite ?_ ?_ | refine LeO.bind ?_ fun _ => ?_) | exact LeO.none _ | refine LeO.ite ?_ ?_ | refine LeO.bind ?_ fun _ => ?_ | apply ih0))
theorem theorboref01_Decimal.mono : ∀ a0 k, LeO (theorboref01_Decimal.f k a0) (theorboref01_Decimal.f (k + 1) a0) := by
  intro a0 k
  have ih0 := theorboref01_Decimal.mono_l k
  exact ih0 a0
set_option maxHeartbeats 8000000 in
set_option maxRecDepth 100000 in
theorem theorboref01_Decimal.calls (k : Nat) : ∀ (a0 : Int) (r : ByteArray) (w : World) (h : theorboref01_Decimal.f k a0 = some r),
    Calls Tryz.prog 70 #[.int .i64 a0] w fun e w' => e = .returned (.string r) ∧ Drawn0 w w' := by
  induction k using Nat.strongRecOn with
  | _ k ih =>
  intro a0 r w h
  cases k with
  | zero => exact absurd h (by simp [theorboref01_Decimal.f])
  | succ k =>
  simp only [theorboref01_Decimal.f] at h
  have H : (if a0 = (-9223372036854775808) then (some (⟨#[45, 57, 50, 50, 51, 51, 55, 50, 48, 51, 54, 56, 53, 52, 55, 55, 53, 56, 48, 56]⟩ : ByteArray)) else (if a0 < 0 then ((theorboref01_Decimal.f k (wrap64 (-a0))).bind fun t679 => (if 1 + t679.size ≤ 9223372036854775807 then (some ((⟨#[45]⟩ : ByteArray) ++ t679)) else (none))) else (if 0 ≤ (Int.tmod a0 10) then (if (Int.tmod a0 10) ≤ (wrap64 ((Int.tmod a0 10) + 1)) then (if (wrap64 ((Int.tmod a0 10) + 1)) ≤ 10 then (if a0 < 10 then (some ((⟨#[48, 49, 50, 51, 52, 53, 54, 55, 56, 57]⟩ : ByteArray).extract ((Int.tmod a0 10) : Int).toNat ((wrap64 ((Int.tmod a0 10) + 1)) : Int).toNat)) else ((theorboref01_Decimal.f k (wrap64 (Int.tdiv a0 10))).bind fun t680 => (if t680.size + ((⟨#[48, 49, 50, 51, 52, 53, 54, 55, 56, 57]⟩ : ByteArray).extract ((Int.tmod a0 10) : Int).toNat ((wrap64 ((Int.tmod a0 10) + 1)) : Int).toNat).size ≤ 9223372036854775807 then (some (t680 ++ ((⟨#[48, 49, 50, 51, 52, 53, 54, 55, 56, 57]⟩ : ByteArray).extract ((Int.tmod a0 10) : Int).toNat ((wrap64 ((Int.tmod a0 10) + 1)) : Int).toNat))) else (none)))) else (none)) else (none)) else (none)))) = some r := h
  clear h
  by_cases c2 : a0 = (-9223372036854775808)
  · rw [if_pos c2] at H
    (obtain ⟨c2b0, c2b1⟩ := eqT_ c2); clear c2; (obtain rfl := Option.some.inj H); (go_enter Tryz.func70, Tryz.ntmps70); (go_wp2); (go_ret); (exact ⟨rs_, dr_⟩)
  · rw [if_neg c2] at H
    (obtain ⟨c2b0, c2b1⟩ := eqF_ c2); (by_cases c3 : a0 < 0)
    · rw [if_pos c3] at H
      (have c3b0 := decide_eq_true c3); clear c3; (replace H := Option.bind_eq_some_iff.mp H); (obtain ⟨t679, A40, H⟩ := H); (try dsimp only at H); (have A4 := Aside0.mk A40); clear A40; (by_cases c5 : 1 + t679.size ≤ 9223372036854775807)
      · rw [if_pos c5] at H
        (have c5b0 := eq_true c5); (have c5b1 : decide (1 + t679.size ≤ 9223372036854775807) = true := decide_eq_true c5); (try have c5b2 : (9223372036854775807 < 1 + t679.size) = False := eq_false (Nat.not_lt.2 c5)); (obtain rfl := Option.some.inj H); (go_enter Tryz.func70, Tryz.ntmps70); (go_wp2_with (first | ((with_reducible refine gate_callee (f := 70) rfl ?_); refine cl_ 70 (some 10) Tryz.func70 (ih k (by omega) (wrap64 (-a0)) t679 _ A4.out) ?_; rintro e w' ⟨rfl, ⟨nd, rfl⟩⟩; refine ⟨_, rfl, ?_⟩))); (go_ret); (exact ⟨rs_, dr_⟩)
      · rw [if_neg c5] at H
        exact absurd H (by simp)
    · rw [if_neg c3] at H
      (have c3b0 := decide_eq_false c3); clear c3; (obtain ⟨ji6, hji6⟩ : ∃ j_ : Int, (Int.tmod a0 10) = j_ := ⟨_, rfl⟩); (replace H : (if 0 ≤ (ji6) then (if (ji6) ≤ (wrap64 ((ji6) + 1)) then (if (wrap64 ((ji6) + 1)) ≤ 10 then (if a0 < 10 then (some ((⟨#[48, 49, 50, 51, 52, 53, 54, 55, 56, 57]⟩ : ByteArray).extract ((ji6) : Int).toNat ((wrap64 ((ji6) + 1)) : Int).toNat)) else ((theorboref01_Decimal.f k (wrap64 (Int.tdiv a0 10))).bind fun t680 => (if t680.size + ((⟨#[48, 49, 50, 51, 52, 53, 54, 55, 56, 57]⟩ : ByteArray).extract ((ji6) : Int).toNat ((wrap64 ((ji6) + 1)) : Int).toNat).size ≤ 9223372036854775807 then (some (t680 ++ ((⟨#[48, 49, 50, 51, 52, 53, 54, 55, 56, 57]⟩ : ByteArray).extract ((ji6) : Int).toNat ((wrap64 ((ji6) + 1)) : Int).toNat))) else (none)))) else (none)) else (none)) else (none)) = some r := by first | (rw [hji6] at H; exact H) | (simp only [hji6] at H ⊢; exact H)); (by_cases c7 : 0 ≤ (ji6))
      · rw [if_pos c7] at H
        (have c7b0 := eq_true c7); (have c7b1 : decide (0 ≤ (ji6)) = true := decide_eq_true c7); clear c7; (by_cases c8 : (ji6) ≤ (wrap64 ((ji6) + 1)))
        · rw [if_pos c8] at H
          (have c8b0 := eq_true c8); (have c8b1 : decide ((ji6) ≤ (wrap64 ((ji6) + 1))) = true := decide_eq_true c8); (by_cases c9 : (wrap64 ((ji6) + 1)) ≤ 10)
          · rw [if_pos c9] at H
            (have c9b0 := eq_true c9); (have c9b1 : decide ((wrap64 ((ji6) + 1)) ≤ 10) = true := decide_eq_true c9); (by_cases c10 : a0 < 10)
            · rw [if_pos c10] at H
              (have c10b0 := decide_eq_true c10); clear c10; (obtain rfl := Option.some.inj H); (go_enter Tryz.func70, Tryz.ntmps70); (go_wp2); (go_ret); (exact ⟨by first | rfl | (simp; done) | (simp only [← hji6] <;> (first | rfl | simp)) | (simp [*]; done), dr_⟩)
            · rw [if_neg c10] at H
              (have c10b0 := decide_eq_false c10); clear c10; (replace H := Option.bind_eq_some_iff.mp H); (obtain ⟨t680, A110, H⟩ := H); (try dsimp only at H); (have A11 := Aside0.mk A110); clear A110; (by_cases c12 : t680.size + ((⟨#[48, 49, 50, 51, 52, 53, 54, 55, 56, 57]⟩ : ByteArray).extract ((ji6) : Int).toNat ((wrap64 ((ji6) + 1)) : Int).toNat).size ≤ 9223372036854775807)
              · rw [if_pos c12] at H
                (have c12b0 := eq_true c12); (have c12b1 : decide (t680.size + ((⟨#[48, 49, 50, 51, 52, 53, 54, 55, 56, 57]⟩ : ByteArray).extract ((ji6) : Int).toNat ((wrap64 ((ji6) + 1)) : Int).toNat).size ≤ 9223372036854775807) = true := decide_eq_true c12); (try have c12b2 : (9223372036854775807 < t680.size + ((⟨#[48, 49, 50, 51, 52, 53, 54, 55, 56, 57]⟩ : ByteArray).extract ((ji6) : Int).toNat ((wrap64 ((ji6) + 1)) : Int).toNat).size) = False := eq_false (Nat.not_lt.2 c12)); (try have c12b3 : (9223372036854775807 < t680.size + (((wrap64 ((ji6) + 1)) : Int).toNat - ((ji6) : Int).toNat)) = False := eq_false (by have h_ := c12; simp only [ByteArray.size_extract] at h_; have e0_ : ((⟨#[48, 49, 50, 51, 52, 53, 54, 55, 56, 57]⟩ : ByteArray)).size = 10 := rfl; (try simp only [decide_eq_true_eq, decide_eq_true_iff] at *); omega)); (obtain rfl := Option.some.inj H); (go_enter Tryz.func70, Tryz.ntmps70); (go_wp2_with (first | ((with_reducible refine gate_callee (f := 70) rfl ?_); refine cl_ 70 (some 23) Tryz.func70 (ih k (by omega) (wrap64 (Int.tdiv a0 10)) t680 _ A11.out) ?_; rintro e w' ⟨rfl, ⟨nd, rfl⟩⟩; refine ⟨_, rfl, ?_⟩))); (go_ret); (exact ⟨by first | rfl | (simp; done) | (simp only [← hji6] <;> (first | rfl | simp)) | (simp [*]; done), dr_⟩)
              · rw [if_neg c12] at H
                exact absurd H (by simp)
          · rw [if_neg c9] at H
            exact absurd H (by simp)
        · rw [if_neg c8] at H
          exact absurd H (by simp)
      · rw [if_neg c7] at H
        exact absurd H (by simp)

/-! ### theorboref03_hold: function 59 -/
def theorboref03_hold.f (k : Nat) (a0 : Int) (a1 : Int) (a2 : Int) : Option (ByteArray) := if a0 = 1 then ((theorboref01_Decimal.f k a1).bind fun t683 => (if 1 + t683.size ≤ 9223372036854775807 then (some ((⟨#[95]⟩ : ByteArray) ++ t683)) else (none))) else (if a0 = 2 then (if a1 = a2 then (some (⟨#[42]⟩ : ByteArray)) else (some (⟨#[]⟩ : ByteArray))) else (if a0 = 4 then (if a1 = a2 then (some (⟨#[42]⟩ : ByteArray)) else (some (⟨#[]⟩ : ByteArray))) else (some (⟨#[]⟩ : ByteArray))))
theorem theorboref03_hold.mono : ∀ a0 a1 a2 k, LeO (theorboref03_hold.f k a0 a1 a2) (theorboref03_hold.f (k + 1) a0 a1 a2) := by
  intro a0 a1 a2 k
  unfold theorboref03_hold.f
  repeat' first | (with_reducible first | apply theorboref01_Decimal.mono | exact LeO.refl _ | exact LeO.none _ | refine LeO.ite ?_ ?_ | refine LeO.bind ?_ fun _ => ?_) | exact LeO.none _ | refine LeO.ite ?_ ?_ | refine LeO.bind ?_ fun _ => ?_ | apply theorboref01_Decimal.mono
set_option maxHeartbeats 8000000 in
set_option maxRecDepth 100000 in
theorem theorboref03_hold.calls (k : Nat) (a0 : Int) (a1 : Int) (a2 : Int) (r : ByteArray) (w : World) (h : theorboref03_hold.f k a0 a1 a2 = some r) :
    Calls Tryz.prog 59 #[.int .u8 a0, .int .i64 a1, .int .i64 a2] w fun e w' => e = .returned (.string r) ∧ Drawn0 w w' := by
  have H : (if a0 = 1 then ((theorboref01_Decimal.f k a1).bind fun t683 => (if 1 + t683.size ≤ 9223372036854775807 then (some ((⟨#[95]⟩ : ByteArray) ++ t683)) else (none))) else (if a0 = 2 then (if a1 = a2 then (some (⟨#[42]⟩ : ByteArray)) else (some (⟨#[]⟩ : ByteArray))) else (if a0 = 4 then (if a1 = a2 then (some (⟨#[42]⟩ : ByteArray)) else (some (⟨#[]⟩ : ByteArray))) else (some (⟨#[]⟩ : ByteArray))))) = some r := h
  clear h
  by_cases c4 : a0 = 1
  · rw [if_pos c4] at H
    (obtain ⟨c4b0, c4b1⟩ := eqT_ c4); clear c4; (replace H := Option.bind_eq_some_iff.mp H); (obtain ⟨t683, A50, H⟩ := H); (try dsimp only at H); (have A5 := Aside0.mk A50); clear A50; (by_cases c6 : 1 + t683.size ≤ 9223372036854775807)
    · rw [if_pos c6] at H
      (have c6b0 := eq_true c6); (have c6b1 : decide (1 + t683.size ≤ 9223372036854775807) = true := decide_eq_true c6); (try have c6b2 : (9223372036854775807 < 1 + t683.size) = False := eq_false (Nat.not_lt.2 c6)); (obtain rfl := Option.some.inj H); (go_enter Tryz.func59, Tryz.ntmps59); (go_wp2_with (first | ((with_reducible refine gate_callee (f := 70) rfl ?_); refine cl_ 70 (some 10) Tryz.func70 (theorboref01_Decimal.calls k a1 t683 _ A5.out) ?_; rintro e w' ⟨rfl, ⟨nd, rfl⟩⟩; refine ⟨_, rfl, ?_⟩))); (go_ret); (exact ⟨rs_, dr_⟩)
    · rw [if_neg c6] at H
      exact absurd H (by simp)
  · rw [if_neg c4] at H
    (obtain ⟨c4b0, c4b1⟩ := eqF_ c4); (by_cases c7 : a0 = 2)
    · rw [if_pos c7] at H
      (obtain ⟨c7b0, c7b1⟩ := eqT_ c7); clear c7; (by_cases c8 : a1 = a2)
      · rw [if_pos c8] at H
        (obtain ⟨c8b0, c8b1⟩ := eqT_ c8); clear c8; (obtain rfl := Option.some.inj H); (go_enter Tryz.func59, Tryz.ntmps59); (go_wp2); (go_ret); (exact ⟨rs_, dr_⟩)
      · rw [if_neg c8] at H
        (obtain ⟨c8b0, c8b1⟩ := eqF_ c8); (obtain rfl := Option.some.inj H); (go_enter Tryz.func59, Tryz.ntmps59); (go_wp2); (go_ret); (exact ⟨rs_, dr_⟩)
    · rw [if_neg c7] at H
      (obtain ⟨c7b0, c7b1⟩ := eqF_ c7); (by_cases c9 : a0 = 4)
      · rw [if_pos c9] at H
        (obtain ⟨c9b0, c9b1⟩ := eqT_ c9); clear c9; (by_cases c10 : a1 = a2)
        · rw [if_pos c10] at H
          (obtain ⟨c10b0, c10b1⟩ := eqT_ c10); clear c10; (obtain rfl := Option.some.inj H); (go_enter Tryz.func59, Tryz.ntmps59); (go_wp2); (go_ret); (exact ⟨rs_, dr_⟩)
        · rw [if_neg c10] at H
          (obtain ⟨c10b0, c10b1⟩ := eqF_ c10); (obtain rfl := Option.some.inj H); (go_enter Tryz.func59, Tryz.ntmps59); (go_wp2); (go_ret); (exact ⟨rs_, dr_⟩)
      · rw [if_neg c9] at H
        (obtain ⟨c9b0, c9b1⟩ := eqF_ c9); (obtain rfl := Option.some.inj H); (go_enter Tryz.func59, Tryz.ntmps59); (go_wp2); (go_ret); (exact ⟨rs_, dr_⟩)

/-! ### theorboref03_Wants: function 43 -/
mutual
def theorboref03_Wants.j0 : Nat → Int → Int → List Int → Bool → Int → Int → Int → Int → Int → Option (List Int)
  | 0, _, _, _, _, _, _, _, _, _ => none
  | k + 1, x0, x2, x7, x25, x707000, x707001, x707002, x707003, x707004 => if x25 = true then (if x7.length < 17592186044416 then (theorboref03_Wants.j1 k x0 x2 (x7 ++ [2]) x707000 x707001 x707002 x707003 x707004) else (none)) else (theorboref03_Wants.j1 k x0 x2 x7 x707000 x707001 x707002 x707003 x707004)
def theorboref03_Wants.j1 : Nat → Int → Int → List Int → Int → Int → Int → Int → Int → Option (List Int)
  | 0, _, _, _, _, _, _, _, _ => none
  | k + 1, x0, x2, x7, x707000, x707001, x707002, x707003, x707004 => if x707003 > 0 then ((theorboref03_grace.f k x0 x707003).bind fun t715 => (theorboref03_Wants.j2 k x0 x2 x7 (t715.toList == ([] : List UInt8)) x707000 x707001 x707002 x707003 x707004)) else (theorboref03_Wants.j2 k x0 x2 x7 false x707000 x707001 x707002 x707003 x707004)
def theorboref03_Wants.j2 : Nat → Int → Int → List Int → Bool → Int → Int → Int → Int → Int → Option (List Int)
  | 0, _, _, _, _, _, _, _, _, _ => none
  | k + 1, x0, x2, x7, x38, x707000, x707001, x707002, x707003, x707004 => if x38 = true then (if x7.length < 17592186044416 then ((some (x7 ++ [3] : List Int)).bind fun y716 => (if x707004 > 0 then ((theorboref03_hold.f k x0 x707004 x2).bind fun t719 => (if t719.toList = ([] : List UInt8) then (if y716.length < 17592186044416 then (some (y716 ++ [4])) else (none)) else (some y716))) else (some y716))) else (none)) else (if x707004 > 0 then ((theorboref03_hold.f k x0 x707004 x2).bind fun t723 => (if t723.toList = ([] : List UInt8) then (if x7.length < 17592186044416 then (some (x7 ++ [4])) else (none)) else (some x7))) else (some x7))
end
def theorboref03_Wants.f (k : Nat) (a0 : Int) (a1_0 : Int) (a1_1 : Int) (a1_2 : Int) (a1_3 : Int) (a1_4 : Int) (a2 : Int) : Option (List Int) := (theorboref03_symbol.f k a0 a1_0 a1_1).bind fun t707 => (if t707.toList = ([] : List UInt8) then (some (([1] : List Int))) else (if a1_2 > 0 then ((theorboref03_right.f k a0 a1_2).bind fun t711 => (theorboref03_Wants.j0 k a0 a2 ([] : List Int) (t711.toList == ([] : List UInt8)) a1_0 a1_1 a1_2 a1_3 a1_4)) else (theorboref03_Wants.j0 k a0 a2 ([] : List Int) false a1_0 a1_1 a1_2 a1_3 a1_4)))
theorem theorboref03_Wants.mono_l : ∀ k, (∀ y0 y1 y2 y3 y4 y5 y6 y7 y8, LeO (theorboref03_Wants.j0 k y0 y1 y2 y3 y4 y5 y6 y7 y8) (theorboref03_Wants.j0 (k + 1) y0 y1 y2 y3 y4 y5 y6 y7 y8)) ∧ (∀ y0 y1 y2 y3 y4 y5 y6 y7, LeO (theorboref03_Wants.j1 k y0 y1 y2 y3 y4 y5 y6 y7) (theorboref03_Wants.j1 (k + 1) y0 y1 y2 y3 y4 y5 y6 y7)) ∧ (∀ y0 y1 y2 y3 y4 y5 y6 y7 y8, LeO (theorboref03_Wants.j2 k y0 y1 y2 y3 y4 y5 y6 y7 y8) (theorboref03_Wants.j2 (k + 1) y0 y1 y2 y3 y4 y5 y6 y7 y8))
  | 0 => ⟨fun _ _ _ _ _ _ _ _ _ r h => by simp [theorboref03_Wants.j0] at h, fun _ _ _ _ _ _ _ _ r h => by simp [theorboref03_Wants.j1] at h, fun _ _ _ _ _ _ _ _ _ r h => by simp [theorboref03_Wants.j2] at h⟩
  | k + 1 => by
    ((obtain ⟨ih0, ih1, ih2⟩ := theorboref03_Wants.mono_l k); (refine ⟨?_, ?_, ?_⟩)); (focus intro y0 y1 y2 y3 y4 y5 y6 y7 y8; (unfold theorboref03_Wants.j0); (repeat' first | (with_reducible first | apply ih0 | apply ih1 | apply ih2 | apply theorboref03_grace.mono | apply theorboref03_hold.mono | apply theorboref03_right.mono | apply theorboref03_symbol.mono | exact LeO.refl _ | exact LeO.none _ | refine LeO.ite ?_ ?_ | refine LeO.bind ?_ fun _ => ?_) | exact LeO.none _ | refine LeO.ite ?_ ?_ | refine LeO.bind ?_ fun _ => ?_ | apply ih0 | apply ih1 | apply ih2 | apply theorboref03_grace.mono | apply theorboref03_hold.mono | apply theorboref03_right.mono | apply theorboref03_symbol.mono)); (focus intro y0 y1 y2 y3 y4 y5 y6 y7; (unfold theorboref03_Wants.j1); (repeat' first | (with_reducible first | apply ih0 | apply ih1 | apply ih2 | apply theorboref03_grace.mono | apply theorboref03_hold.mono | apply theorboref03_right.mono | apply theorboref03_symbol.mono | exact LeO.refl _ | exact LeO.none _ | refine LeO.ite ?_ ?_ | refine LeO.bind ?_ fun _ => ?_) | exact LeO.none _ | refine LeO.ite ?_ ?_ | refine LeO.bind ?_ fun _ => ?_ | apply ih0 | apply ih1 | apply ih2 | apply theorboref03_grace.mono | apply theorboref03_hold.mono | apply theorboref03_right.mono | apply theorboref03_symbol.mono)); (focus intro y0 y1 y2 y3 y4 y5 y6 y7 y8; (unfold theorboref03_Wants.j2); (repeat' first | (with_reducible first | apply ih0 | apply ih1 | apply ih2 | apply theorboref03_grace.mono | apply theorboref03_hold.mono | apply theorboref03_right.mono | apply theorboref03_symbol.mono | exact LeO.refl _ | exact LeO.none _ | refine LeO.ite ?_ ?_ | refine LeO.bind ?_ fun _ => ?_) | exact LeO.none _ | refine LeO.ite ?_ ?_ | refine LeO.bind ?_ fun _ => ?_ | apply ih0 | apply ih1 | apply ih2 | apply theorboref03_grace.mono | apply theorboref03_hold.mono | apply theorboref03_right.mono | apply theorboref03_symbol.mono))
theorem theorboref03_Wants.mono : ∀ a0 a1 a2 a3 a4 a5 a6 k, LeO (theorboref03_Wants.f k a0 a1 a2 a3 a4 a5 a6) (theorboref03_Wants.f (k + 1) a0 a1 a2 a3 a4 a5 a6) := by
  intro a0 a1 a2 a3 a4 a5 a6 k
  obtain ⟨ih0, ih1, ih2⟩ := theorboref03_Wants.mono_l k
  unfold theorboref03_Wants.f
  repeat' first | (with_reducible first | apply ih0 | apply ih1 | apply ih2 | apply theorboref03_grace.mono | apply theorboref03_hold.mono | apply theorboref03_right.mono | apply theorboref03_symbol.mono | exact LeO.refl _ | exact LeO.none _ | refine LeO.ite ?_ ?_ | refine LeO.bind ?_ fun _ => ?_) | exact LeO.none _ | refine LeO.ite ?_ ?_ | refine LeO.bind ?_ fun _ => ?_ | apply ih0 | apply ih1 | apply ih2 | apply theorboref03_grace.mono | apply theorboref03_hold.mono | apply theorboref03_right.mono | apply theorboref03_symbol.mono
set_option maxHeartbeats 8000000 in
set_option maxRecDepth 100000 in
theorem theorboref03_Wants.calls (k : Nat) (a0 : Int) (a1_0 : Int) (a1_1 : Int) (a1_2 : Int) (a1_3 : Int) (a1_4 : Int) (a2 : Int) (r : List Int) (w : World) (h : theorboref03_Wants.f k a0 a1_0 a1_1 a1_2 a1_3 a1_4 a2 = some r) :
    Calls Tryz.prog 43 #[.int .u8 a0, .agg #[.int .i64 a1_0, .int .i64 a1_1, .int .i64 a1_2, .int .i64 a1_3, .int .i64 a1_4], .int .i64 a2] w fun e w' => ∃ v0_ : Value, e = .returned (v0_) ∧ Kd.R (Kd.int .i64) 3 w' w.heap.size (fun _ => True) v0_ r ∧ Below w.heap.size w w' := by
  have hu54 := Tryz.underlying54
  have HB := Aside0.mk (Below.refl w.heap.size w)
  have H : ((theorboref03_symbol.f k a0 a1_0 a1_1).bind fun t707 => (if t707.toList = ([] : List UInt8) then (some (([1] : List Int))) else (if a1_2 > 0 then ((theorboref03_right.f k a0 a1_2).bind fun t711 => (theorboref03_Wants.j0 k a0 a2 ([] : List Int) (t711.toList == ([] : List UInt8)) a1_0 a1_1 a1_2 a1_3 a1_4)) else (theorboref03_Wants.j0 k a0 a2 ([] : List Int) false a1_0 a1_1 a1_2 a1_3 a1_4)))) = some r := h
  clear h
  replace H := Option.bind_eq_some_iff.mp H
  obtain ⟨t707, A40, H⟩ := H
  try dsimp only at H
  have A4 := Aside0.mk A40
  clear A40
  have HC5 := Aside0.mk H
  clear H
  go_enter Tryz.func43, Tryz.ntmps43
  go_upto_if 14 with (first | ((with_reducible refine gate_dst (N := 4) rfl ?_); refine bx_ 4 #[.int .i64 a1_0, .int .i64 a1_1, .int .i64 a1_2, .int .i64 a1_3, .int .i64 a1_4] 54 HB ?_; clear HB; intro gb706 w6 hg hb BK706 HB GW706; have GE706 := GW706; clear hg hb; have hcz7 := blk_cell BK706.out; have hfz7 := blk_frozen BK706.out) | ((with_reducible refine gate_callee (f := 56) rfl ?_); refine cl_ 56 (some 13) Tryz.func56 (theorboref03_symbol.calls k a0 a1_0 a1_1 t707 _ A4.out) ?_; rintro e w8 ⟨rfl, hb⟩; refine ⟨_, rfl, ?_⟩; replace BK706 := bb_ BK706 hb; replace HB := bs_ HB hb; (try clear hb); (try clear hb2); (try clear hk); (try clear hi)))
  (try simp only [Act.put, List.setIfInBounds_toArray, List.set_cons_zero, List.set_cons_succ])
  have H := HC5.out
  clear HC5
  by_cases c9 : t707.toList = ([] : List UInt8)
  · rw [if_pos c9] at H
    (have c9b0 : (t707.toList == ([] : List UInt8)) = true := beq_iff_eq.mpr c9); (have c9b1 : (t707.toList != ([] : List UInt8)) = false := bne_eq_false_iff_eq.mpr c9); clear c9; ((first | rw [c9b0] | rw [c9b1] | (simp only [i64_w, i32_w]; first | rw [c9b0] | rw [c9b1]) | rw [List.isEmpty_iff.mpr (beq_iff_eq.mp c9b0)] | skip)); (obtain ⟨y708, hy708⟩ : ∃ y_ : List Int, y_ = (([1] : List Int)) := ⟨_, rfl⟩); (replace H : (some y708) = some r := by first | (rw [hy708]; with_reducible exact H) | (have H2_ := (Option.bind_some _ _).symm.trans H; rw [hy708]; with_reducible exact H2_) | (have H2_ := (Option.bind_some _ _).symm.trans H; with_reducible exact H2_) | with_reducible exact H | (rw [hy708]; exact H) | exact H); (have Ny708 := Aside0.mk hy708); clear hy708; (obtain rfl := Option.some.inj H); (go_wp2_with (first | ((with_reducible refine gate_dst (N := 15) rfl ?_); refine Kd.R_lit (Kd.int .i64) _ 3 ?hg (N := 15) ?hd (xs := ([1] : List Int)) (inner := [.int .i64 1]) (ok := fun _ => True) (okp := fun _ => True) ?hr ?hp (fun _ hk => hk) trivial (Below.refl _ _) (Nat.le_refl _) (by simp) ?_; (case hd => rfl); (case hg => rfl); (case hr => first | (go_simp; done) | (go_simp; rfl)); (case hp => exact (Reps.one (show Kd.M (Kd.int .i64) _ _ _ 1 [.int .i64 1] from rfl) (Reps.none _ _))); intro v709 w10 ho11 hb hg_ hnew_; clear hg_ hnew_; (first | rw [← Ny708.out] at ho11 | (simp only [Int.reduceToNat] at ho11; rw [← Ny708.out] at ho11)); have HO710 := rl_ ho11 HB; replace BK706 := bb_ BK706 hb; replace HB := bs_ HB hb; clear hb ho11))); (go_ret); (exact ⟨_, rv_, kr_ HO710, bl_ HB⟩)
  · rw [if_neg c9] at H
    (have c9b0 : (t707.toList == ([] : List UInt8)) = false := beq_eq_false_iff_ne.mpr c9); (have c9b1 : (t707.toList != ([] : List UInt8)) = true := bne_iff_ne.mpr c9); ((first | rw [c9b0] | rw [c9b1] | (simp only [i64_w, i32_w]; first | rw [c9b0] | rw [c9b1]) | rw [List.isEmpty_eq_false_iff.mpr (beq_eq_false_iff_ne.mp c9b0)] | skip)); (have HC12 := Aside0.mk H); clear H; (go_upto_region 4 with (fail)); (go_cut [25] (fun v25 wc => ∃ (kq : Nat) (x25_11 : Bool), v25 = .bool x25_11 ∧ Aside0 (theorboref03_Wants.j0 kq a0 a2 ([] : List Int) x25_11 a1_0 a1_1 a1_2 a1_3 a1_4 = some r) ∧ Aside0 (kq ≤ k) ∧ Aside0 (Kd.R (Kd.int .i64) 3 wc w.heap.size (fun _ => True) (.slice none 0 0) ([] : List Int)) ∧ Aside0 (wc.heap[gb706]? = some (.cells #[.int .i64 a1_0, .int .i64 a1_1, .int .i64 a1_2, .int .i64 a1_3, .int .i64 a1_4] 54 (0, 0))) ∧ Aside0 (Below w.heap.size w wc)))
    case first =>
      (have H := HC12.out); clear HC12; (by_cases c13 : a1_2 > 0)
      · rw [if_pos c13] at H
        (have c13b0 : decide (0 < a1_2) = true := decide_eq_true c13); clear c13; ((first | rw [c13b0] | (simp only [i64_w, i32_w]; rw [c13b0]) | skip)); (replace H := Option.bind_eq_some_iff.mp H); (obtain ⟨t711, A140, H⟩ := H); (try dsimp only at H); (have A14 := Aside0.mk A140); clear A140; (have H' := Aside0.mk H); clear H; (have hcz15 := blk_cell BK706.out); (have hfz15 := blk_frozen BK706.out); (go_wp2_with (first | (go_at_call 57; (with_reducible refine (theorboref03_right.calls k a0 a1_2 t711 _ A14.out).mono ?_); rintro e w' ⟨rfl, ⟨nd, rfl⟩⟩))); (go_meet)
        case rel => exact ⟨_, ((t711.toList == ([] : List UInt8))), (rs_), H', ⟨om_⟩, ⟨by first | exact Kd.R_nil _ _ _ _ _ | exact Kd.N_nil _ _ _ _ _ | exact Kd.V_nil _ _ _ _ _ | exact Kd.Q_nil _ _ _ _ _ | exact Kd.S_nil _ _ _ _ _⟩, ⟨bk_ BK706⟩, ⟨bl_ HB⟩⟩
      · rw [if_neg c13] at H
        (have c13b0 : decide (0 < a1_2) = false := decide_eq_false c13); clear c13; ((first | rw [c13b0] | (simp only [i64_w, i32_w]; rw [c13b0]) | skip)); (have H' := Aside0.mk H); clear H; (have hcz16 := blk_cell BK706.out); (have hfz16 := blk_frozen BK706.out); (go_wp2); (go_meet)
        case rel => exact ⟨_, (false), (rs_), H', ⟨om_⟩, ⟨by first | exact Kd.R_nil _ _ _ _ _ | exact Kd.N_nil _ _ _ _ _ | exact Kd.V_nil _ _ _ _ _ | exact Kd.Q_nil _ _ _ _ _ | exact Kd.S_nil _ _ _ _ _⟩, ⟨bk_ BK706⟩, ⟨bl_ HB⟩⟩
    case rest =>
      clear HC12; (try clear c9b0 c9b1 hcz7 hfz7); (obtain ⟨kq, x25_11, rfl, HA, HJ11, HO_7, BK706, HB⟩ := hcut)
      cases kq with
      | zero => exact absurd HA.out (by simp [theorboref03_Wants.j0])
      | succ kj11 =>
        (have H := HA.out); clear HA; (simp only [theorboref03_Wants.j0] at H); (have HC17 := Aside0.mk H); clear H; (go_upto_if 25 with (fail)); (go_cut [7] (fun v7 wc => ∃ (kq : Nat) (x7_16 : List Int), Aside0 (theorboref03_Wants.j1 kq a0 a2 x7_16 a1_0 a1_1 a1_2 a1_3 a1_4 = some r) ∧ Aside0 (kq ≤ kj11) ∧ Aside0 (Kd.R (Kd.int .i64) 3 wc w.heap.size (fun _ => True) v7 x7_16) ∧ Aside0 (wc.heap[gb706]? = some (.cells #[.int .i64 a1_0, .int .i64 a1_1, .int .i64 a1_2, .int .i64 a1_3, .int .i64 a1_4] 54 (0, 0))) ∧ Aside0 (Below w.heap.size w wc)))
        case first =>
          (have H := HC17.out); clear HC17; (by_cases c18 : x25_11 = true)
          · subst c18
            (rw [if_pos rfl] at H); (by_cases c19 : ([] : List Int).length < 17592186044416)
            · rw [if_pos c19] at H
              (have LMc19 := Aside0.mk c19); clear c19; (obtain ⟨y712, hy712⟩ : ∃ y_ : List Int, y_ = (([] : List Int) ++ [2]) := ⟨_, rfl⟩); (replace H : (theorboref03_Wants.j1 kj11 a0 a2 y712 a1_0 a1_1 a1_2 a1_3 a1_4) = some r := by first | (rw [hy712]; with_reducible exact H) | (have H2_ := (Option.bind_some _ _).symm.trans H; rw [hy712]; with_reducible exact H2_) | (have H2_ := (Option.bind_some _ _).symm.trans H; with_reducible exact H2_) | with_reducible exact H | (rw [hy712]; exact H) | exact H); (have Ny712 := Aside0.mk hy712); clear hy712; (have H' := Aside0.mk H); clear H; (go_wp2_with (first | ((with_reducible refine gate_builtin (b := .append) (xs := #[.tmp 26, .tmp 27]) rfl ?_); at_builtin; refine Kd.R_append (Kd.int .i64) (w0 := w) w.heap.size rfl (.tmp 26) (.tmp 27) 24 3 (.int .i64 0) 8 rfl Tryz.underlying24 info3 rfl (by decide) (by omega) (.slice none 0 0) ([] : List Int) 2 [.int .i64 2] (fun _ => True) (fun _ => False) rfl rfl ?aP (fun _ hk => hk.elim) ?aF ?aO ?aB ?aS ?aL ?_; (case aP => exact rfl); (case aB => exact (bl_ HB)); (case aF => exact (fun _ _ => trivial)); (case aO => exact (kr_ HO_7)); (case aS => exact (below_size (bl_ HB))); (case aL => have := LMc19.out; omega); intro v713 w20 ho hb hg hat; rw [← Ny712.out] at ho; replace BK706 := bg_ BK706 hg (Kd.R_ne HO_7.out BK706.out (by decide)); replace HB := Aside0.mk (hb); have HO714 := Aside0.mk (ho); clear HO_7; clear ho hb hg hat))); (go_meet)
              case rel => exact ⟨_, (y712), H', ⟨by have := HJ11.out; first | omega | exact Nat.le_refl _⟩, ⟨kr_ HO714⟩, ⟨bk_ BK706⟩, ⟨bl_ HB⟩⟩
            · rw [if_neg c19] at H
              exact absurd H (by simp)
          · replace c18 := Bool.eq_false_iff.mpr c18
            subst c18; (rw [if_neg Bool.false_ne_true] at H); (have H' := Aside0.mk H); clear H; (go_wp2); (go_meet)
            case rel => exact ⟨_, (([] : List Int)), H', ⟨by have := HJ11.out; first | omega | exact Nat.le_refl _⟩, ⟨kr_ HO_7⟩, ⟨bk_ BK706⟩, ⟨bl_ HB⟩⟩
        case rest =>
          clear HC17; (obtain ⟨kq, x7_16, HA, HJ16, HO_7, BK706, HB⟩ := hcut)
          cases kq with
          | zero => exact absurd HA.out (by simp [theorboref03_Wants.j1])
          | succ kj16 =>
            (have H := HA.out); clear HA; (simp only [theorboref03_Wants.j1] at H); (have HC21 := Aside0.mk H); clear H; (go_upto_region 6 with (fail)); (go_cut [38] (fun v38 wc => ∃ (kq : Nat) (x38_20 : Bool), v38 = .bool x38_20 ∧ Aside0 (theorboref03_Wants.j2 kq a0 a2 x7_16 x38_20 a1_0 a1_1 a1_2 a1_3 a1_4 = some r) ∧ Aside0 (kq ≤ kj16) ∧ Aside0 (Kd.R (Kd.int .i64) 3 wc w.heap.size (fun _ => True) u7 x7_16) ∧ Aside0 (wc.heap[gb706]? = some (.cells #[.int .i64 a1_0, .int .i64 a1_1, .int .i64 a1_2, .int .i64 a1_3, .int .i64 a1_4] 54 (0, 0))) ∧ Aside0 (Below w.heap.size w wc)))
            case first =>
              (have H := HC21.out); clear HC21; (by_cases c22 : a1_3 > 0)
              · rw [if_pos c22] at H
                (have c22b0 : decide (0 < a1_3) = true := decide_eq_true c22); clear c22; ((first | rw [c22b0] | (simp only [i64_w, i32_w]; rw [c22b0]) | skip)); (replace H := Option.bind_eq_some_iff.mp H); (obtain ⟨t715, A230, H⟩ := H); (try dsimp only at H); (have A23 := Aside0.mk A230); clear A230; (have H' := Aside0.mk H); clear H; (have hcz24 := blk_cell BK706.out); (have hfz24 := blk_frozen BK706.out); (go_wp2_with (first | (go_at_call 58; (with_reducible refine (theorboref03_grace.calls kj16 a0 a1_3 t715 _ A23.out).mono ?_); rintro e w' ⟨rfl, ⟨nd, rfl⟩⟩))); (go_meet)
                case rel => exact ⟨_, ((t715.toList == ([] : List UInt8))), (rs_), H', ⟨by have := HJ11.out; have := HJ16.out; first | omega | exact Nat.le_refl _⟩, ⟨kr_ HO_7⟩, ⟨bk_ BK706⟩, ⟨bl_ HB⟩⟩
              · rw [if_neg c22] at H
                (have c22b0 : decide (0 < a1_3) = false := decide_eq_false c22); clear c22; ((first | rw [c22b0] | (simp only [i64_w, i32_w]; rw [c22b0]) | skip)); (have H' := Aside0.mk H); clear H; (have hcz25 := blk_cell BK706.out); (have hfz25 := blk_frozen BK706.out); (go_wp2); (go_meet)
                case rel => exact ⟨_, (false), (rs_), H', ⟨by have := HJ11.out; have := HJ16.out; first | omega | exact Nat.le_refl _⟩, ⟨kr_ HO_7⟩, ⟨bk_ BK706⟩, ⟨bl_ HB⟩⟩
            case rest =>
              clear HC21; (obtain ⟨kq, x38_20, rfl, HA, HJ20, HO_7, BK706, HB⟩ := hcut)
              cases kq with
              | zero => exact absurd HA.out (by simp [theorboref03_Wants.j2])
              | succ kj20 =>
                (have H := HA.out); clear HA; (simp only [theorboref03_Wants.j2] at H); (by_cases c26 : x38_20 = true)
                · subst c26
                  (rw [if_pos rfl] at H); (by_cases c27 : x7_16.length < 17592186044416)
                  · rw [if_pos c27] at H
                    (have LMc27 := Aside0.mk c27); clear c27; (obtain ⟨y716, hy716⟩ : ∃ y_ : List Int, y_ = (x7_16 ++ [3]) := ⟨_, rfl⟩); (replace H : (if a1_4 > 0 then ((theorboref03_hold.f kj20 a0 a1_4 a2).bind fun t719 => (if t719.toList = ([] : List UInt8) then (if y716.length < 17592186044416 then (some (y716 ++ [4])) else (none)) else (some y716))) else (some y716)) = some r := by first | (rw [hy716]; with_reducible exact H) | (have H2_ := (Option.bind_some _ _).symm.trans H; rw [hy716]; with_reducible exact H2_) | (have H2_ := (Option.bind_some _ _).symm.trans H; with_reducible exact H2_) | with_reducible exact H | (rw [hy716]; exact H) | exact H); (have Ny716 := Aside0.mk hy716); clear hy716; (by_cases c28 : a1_4 > 0)
                    · rw [if_pos c28] at H
                      (have c28b0 : decide (0 < a1_4) = true := decide_eq_true c28); clear c28; (replace H := Option.bind_eq_some_iff.mp H); (obtain ⟨t719, A290, H⟩ := H); (try dsimp only at H); (have A29 := Aside0.mk A290); clear A290; (have HC30 := Aside0.mk H); clear H; (go_upto_if 52 with (first | ((with_reducible refine gate_builtin (b := .append) (xs := #[.tmp 39, .tmp 40]) rfl ?_); at_builtin; refine Kd.R_append (Kd.int .i64) (w0 := w) w.heap.size rfl (.tmp 39) (.tmp 40) 24 3 (.int .i64 0) 8 rfl Tryz.underlying24 info3 rfl (by decide) (by omega) u7 x7_16 3 [.int .i64 3] (fun _ => True) (fun _ => False) rfl rfl ?aP (fun _ hk => hk.elim) ?aF ?aO ?aB ?aS ?aL ?_; (case aP => exact rfl); (case aB => exact (bl_ HB)); (case aF => exact (fun _ _ => trivial)); (case aO => exact (kr_ HO_7)); (case aS => exact (below_size (bl_ HB))); (case aL => have := LMc27.out; omega); intro v717 w31 ho hb hg hat; rw [← Ny716.out] at ho; replace BK706 := bg_ BK706 hg (Kd.R_ne HO_7.out BK706.out (by decide)); replace HB := Aside0.mk (hb); have HO718 := Aside0.mk (ho); clear HO_7; clear ho hb hg hat; have hcz32 := blk_cell BK706.out; have hfz32 := blk_frozen BK706.out) | (go_at_call 59; (with_reducible refine (theorboref03_hold.calls kj20 a0 a1_4 a2 t719 _ A29.out).mono ?_); rintro e w' ⟨rfl, ⟨nd, rfl⟩⟩))); ((try simp only [Act.put, List.setIfInBounds_toArray, List.set_cons_zero, List.set_cons_succ])); (have H := HC30.out); clear HC30; (by_cases c33 : t719.toList = ([] : List UInt8))
                      · rw [if_pos c33] at H
                        (have c33b0 : (t719.toList == ([] : List UInt8)) = true := beq_iff_eq.mpr c33); (have c33b1 : (t719.toList != ([] : List UInt8)) = false := bne_eq_false_iff_eq.mpr c33); clear c33; ((first | rw [c33b0] | rw [c33b1] | (simp only [i64_w, i32_w]; first | rw [c33b0] | rw [c33b1]) | rw [List.isEmpty_iff.mpr (beq_iff_eq.mp c33b0)] | skip)); (by_cases c34 : y716.length < 17592186044416)
                        · rw [if_pos c34] at H
                          (have LMc34 := Aside0.mk c34); clear c34; (obtain ⟨y720, hy720⟩ : ∃ y_ : List Int, y_ = (y716 ++ [4]) := ⟨_, rfl⟩); (replace H : (some y720) = some r := by first | (rw [hy720]; with_reducible exact H) | (have H2_ := (Option.bind_some _ _).symm.trans H; rw [hy720]; with_reducible exact H2_) | (have H2_ := (Option.bind_some _ _).symm.trans H; with_reducible exact H2_) | with_reducible exact H | (rw [hy720]; exact H) | exact H); (have Ny720 := Aside0.mk hy720); clear hy720; (obtain rfl := Option.some.inj H); (go_wp2_with (first | ((with_reducible refine gate_builtin (b := .append) (xs := #[.tmp 53, .tmp 54]) rfl ?_); at_builtin; refine Kd.R_append (Kd.int .i64) (w0 := w) w.heap.size rfl (.tmp 53) (.tmp 54) 24 3 (.int .i64 0) 8 rfl Tryz.underlying24 info3 rfl (by decide) (by omega) v717 y716 4 [.int .i64 4] (fun _ => True) (fun _ => False) rfl rfl ?aP (fun _ hk => hk.elim) ?aF ?aO ?aB ?aS ?aL ?_; (case aP => exact rfl); (case aB => exact (bl_ HB)); (case aF => exact (fun _ _ => trivial)); (case aO => exact (kr_ HO718)); (case aS => exact (below_size (bl_ HB))); (case aL => have := LMc34.out; omega); intro v721 w35 ho hb hg hat; rw [← Ny720.out] at ho; replace BK706 := bg_ BK706 hg (Kd.R_ne HO718.out BK706.out (by decide)); replace HB := Aside0.mk (hb); have HO722 := Aside0.mk (ho); clear HO718; clear ho hb hg hat))); (go_ret); (exact ⟨_, rv_, kr_ HO722, bl_ HB⟩)
                        · rw [if_neg c34] at H
                          exact absurd H (by simp)
                      · rw [if_neg c33] at H
                        (have c33b0 : (t719.toList == ([] : List UInt8)) = false := beq_eq_false_iff_ne.mpr c33); (have c33b1 : (t719.toList != ([] : List UInt8)) = true := bne_iff_ne.mpr c33); ((first | rw [c33b0] | rw [c33b1] | (simp only [i64_w, i32_w]; first | rw [c33b0] | rw [c33b1]) | rw [List.isEmpty_eq_false_iff.mpr (beq_eq_false_iff_ne.mp c33b0)] | skip)); (obtain rfl := Option.some.inj H); (go_wp2); (go_ret); (exact ⟨_, rv_, kr_ HO718, bl_ HB⟩)
                    · rw [if_neg c28] at H
                      (have c28b0 : decide (0 < a1_4) = false := decide_eq_false c28); clear c28; (obtain rfl := Option.some.inj H); (go_wp2_with (first | ((with_reducible refine gate_builtin (b := .append) (xs := #[.tmp 39, .tmp 40]) rfl ?_); at_builtin; refine Kd.R_append (Kd.int .i64) (w0 := w) w.heap.size rfl (.tmp 39) (.tmp 40) 24 3 (.int .i64 0) 8 rfl Tryz.underlying24 info3 rfl (by decide) (by omega) u7 x7_16 3 [.int .i64 3] (fun _ => True) (fun _ => False) rfl rfl ?aP (fun _ hk => hk.elim) ?aF ?aO ?aB ?aS ?aL ?_; (case aP => exact rfl); (case aB => exact (bl_ HB)); (case aF => exact (fun _ _ => trivial)); (case aO => exact (kr_ HO_7)); (case aS => exact (below_size (bl_ HB))); (case aL => have := LMc27.out; omega); intro v717 w36 ho hb hg hat; rw [← Ny716.out] at ho; replace BK706 := bg_ BK706 hg (Kd.R_ne HO_7.out BK706.out (by decide)); replace HB := Aside0.mk (hb); have HO718 := Aside0.mk (ho); clear HO_7; clear ho hb hg hat; have hcz37 := blk_cell BK706.out; have hfz37 := blk_frozen BK706.out))); (go_ret); (exact ⟨_, rv_, kr_ HO718, bl_ HB⟩)
                  · rw [if_neg c27] at H
                    exact absurd H (by simp)
                · replace c26 := Bool.eq_false_iff.mpr c26
                  subst c26; (rw [if_neg Bool.false_ne_true] at H); (by_cases c38 : a1_4 > 0)
                  · rw [if_pos c38] at H
                    (have c38b0 : decide (0 < a1_4) = true := decide_eq_true c38); clear c38; (replace H := Option.bind_eq_some_iff.mp H); (obtain ⟨t723, A390, H⟩ := H); (try dsimp only at H); (have A39 := Aside0.mk A390); clear A390; (have HC40 := Aside0.mk H); clear H; (have hcz41 := blk_cell BK706.out); (have hfz41 := blk_frozen BK706.out); (go_upto_if 52 with (first | (go_at_call 59; (with_reducible refine (theorboref03_hold.calls kj20 a0 a1_4 a2 t723 _ A39.out).mono ?_); rintro e w' ⟨rfl, ⟨nd, rfl⟩⟩))); ((try simp only [Act.put, List.setIfInBounds_toArray, List.set_cons_zero, List.set_cons_succ])); (have H := HC40.out); clear HC40; (by_cases c42 : t723.toList = ([] : List UInt8))
                    · rw [if_pos c42] at H
                      (have c42b0 : (t723.toList == ([] : List UInt8)) = true := beq_iff_eq.mpr c42); (have c42b1 : (t723.toList != ([] : List UInt8)) = false := bne_eq_false_iff_eq.mpr c42); clear c42; ((first | rw [c42b0] | rw [c42b1] | (simp only [i64_w, i32_w]; first | rw [c42b0] | rw [c42b1]) | rw [List.isEmpty_iff.mpr (beq_iff_eq.mp c42b0)] | skip)); (by_cases c43 : x7_16.length < 17592186044416)
                      · rw [if_pos c43] at H
                        (have LMc43 := Aside0.mk c43); clear c43; (obtain ⟨y724, hy724⟩ : ∃ y_ : List Int, y_ = (x7_16 ++ [4]) := ⟨_, rfl⟩); (replace H : (some y724) = some r := by first | (rw [hy724]; with_reducible exact H) | (have H2_ := (Option.bind_some _ _).symm.trans H; rw [hy724]; with_reducible exact H2_) | (have H2_ := (Option.bind_some _ _).symm.trans H; with_reducible exact H2_) | with_reducible exact H | (rw [hy724]; exact H) | exact H); (have Ny724 := Aside0.mk hy724); clear hy724; (obtain rfl := Option.some.inj H); (go_wp2_with (first | ((with_reducible refine gate_builtin (b := .append) (xs := #[.tmp 53, .tmp 54]) rfl ?_); at_builtin; refine Kd.R_append (Kd.int .i64) (w0 := w) w.heap.size rfl (.tmp 53) (.tmp 54) 24 3 (.int .i64 0) 8 rfl Tryz.underlying24 info3 rfl (by decide) (by omega) u7 x7_16 4 [.int .i64 4] (fun _ => True) (fun _ => False) rfl rfl ?aP (fun _ hk => hk.elim) ?aF ?aO ?aB ?aS ?aL ?_; (case aP => exact rfl); (case aB => exact (bl_ HB)); (case aF => exact (fun _ _ => trivial)); (case aO => exact (kr_ HO_7)); (case aS => exact (below_size (bl_ HB))); (case aL => have := LMc43.out; omega); intro v725 w44 ho hb hg hat; rw [← Ny724.out] at ho; replace BK706 := bg_ BK706 hg (Kd.R_ne HO_7.out BK706.out (by decide)); replace HB := Aside0.mk (hb); have HO726 := Aside0.mk (ho); clear HO_7; clear ho hb hg hat))); (go_ret); (exact ⟨_, rv_, kr_ HO726, bl_ HB⟩)
                      · rw [if_neg c43] at H
                        exact absurd H (by simp)
                    · rw [if_neg c42] at H
                      (have c42b0 : (t723.toList == ([] : List UInt8)) = false := beq_eq_false_iff_ne.mpr c42); (have c42b1 : (t723.toList != ([] : List UInt8)) = true := bne_iff_ne.mpr c42); ((first | rw [c42b0] | rw [c42b1] | (simp only [i64_w, i32_w]; first | rw [c42b0] | rw [c42b1]) | rw [List.isEmpty_eq_false_iff.mpr (beq_eq_false_iff_ne.mp c42b0)] | skip)); (obtain rfl := Option.some.inj H); (go_wp2); (go_ret); (exact ⟨_, rv_, kr_ HO_7, bl_ HB⟩)
                  · rw [if_neg c38] at H
                    (have c38b0 : decide (0 < a1_4) = false := decide_eq_false c38); clear c38; (obtain rfl := Option.some.inj H); (have hcz45 := blk_cell BK706.out); (have hfz45 := blk_frozen BK706.out); (go_wp2); (go_ret); (exact ⟨_, rv_, kr_ HO_7, bl_ HB⟩)

end Go.Proofs.YtocpcofihlcnoaaGreat.PNC
