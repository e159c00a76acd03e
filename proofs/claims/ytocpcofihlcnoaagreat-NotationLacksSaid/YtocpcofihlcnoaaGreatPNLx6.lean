-- made by xprint.py (ours) out of the translation
import Derived.Test.YtocpcofihlcnoaaGreatPNLx0
namespace Go.Proofs.YtocpcofihlcnoaaGreat.PNL
open Go.RowKit Go.Proofs.YtocpcofihlcnoaaGreatW.PrintWords Go.Proofs.YtocpcofihlcnoaaGreatW.PrintLast Go.Proofs.YtocpcofihlcnoaaGreatW.PrintMore
attribute [local go_sem] max2_int min2_int max_two min_two max_three min_three max_four min_four   -- for this text's walks alone
set_option linter.unusedVariables false
set_option linter.unusedSimpArgs false

/-! ### theorbolaw02_Big: function 5 -/
mutual
def theorbolaw02_Big.j0 : Nat → Bool → List (S99) → List Int → List (S46) → Option (Bool)
  | 0, _, _, _, _ => none
  | k + 1, x21, x104000, x104001, x104002 => if x21 = true then (some true) else (theorbolaw02_Big.l0 k 0 x104000 x104001 x104002)
def theorbolaw02_Big.l0 : Nat → Int → List (S99) → List Int → List (S46) → Option (Bool)
  | 0, _, _, _, _ => none
  | k + 1, x3, x104000, x104001, x104002 => if x3 < (x104002.length : Int) then (if 0 ≤ x3 then (if (((rd_T46 x104002 x3).f3).length : Int) > 20 then (some true) else (theorbolaw02_Big.l0 k (wrap64 (x3 + 1)) x104000 x104001 x104002)) else (none)) else (some false)
end
def theorbolaw02_Big.f (k : Nat) (l0_0 : List (S99)) (l0_1 : List Int) (l0_2 : List (S46)) : Option (Bool) := if (l0_0.length : Int) > 64 then (theorbolaw02_Big.j0 k true l0_0 l0_1 l0_2) else (if (l0_1.length : Int) > 64 then (theorbolaw02_Big.j0 k true l0_0 l0_1 l0_2) else (theorbolaw02_Big.j0 k (decide ((l0_2.length : Int) > 420)) l0_0 l0_1 l0_2))
theorem theorbolaw02_Big.mono_l : ∀ k, (∀ y0 y1 y2 y3, LeO (theorbolaw02_Big.j0 k y0 y1 y2 y3) (theorbolaw02_Big.j0 (k + 1) y0 y1 y2 y3)) ∧ (∀ y0 y1 y2 y3, LeO (theorbolaw02_Big.l0 k y0 y1 y2 y3) (theorbolaw02_Big.l0 (k + 1) y0 y1 y2 y3))
  | 0 => ⟨fun _ _ _ _ r h => by simp [theorbolaw02_Big.j0] at h, fun _ _ _ _ r h => by simp [theorbolaw02_Big.l0] at h⟩
  | k + 1 => by
    ((obtain ⟨ih0, ih1⟩ := theorbolaw02_Big.mono_l k); (refine ⟨?_, ?_⟩)); (focus intro y0 y1 y2 y3; (unfold theorbolaw02_Big.j0); (repeat' first | (with_reducible first | apply ih0 | apply ih1 | exact LeO.refl _ | exact LeO.none _ | refine LeO.ite ?_ ?_ | refine LeO.bind ?_ fun _ => ?_) | exact LeO.none _ | refine LeO.ite ?_ ?_ | refine LeO.bind ?_ fun _ => ?_ | apply ih0 | apply ih1)); (focus intro y0 y1 y2 y3; (unfold theorbolaw02_Big.l0); (repeat' first | (with_reducible first | apply ih0 | apply ih1 | exact LeO.refl _ | exact LeO.none _ | refine LeO.ite ?_ ?_ | refine LeO.bind ?_ fun _ => ?_) | exact LeO.none _ | refine LeO.ite ?_ ?_ | refine LeO.bind ?_ fun _ => ?_ | apply ih0 | apply ih1))
theorem theorbolaw02_Big.mono : ∀ a0 a1 a2 k, LeO (theorbolaw02_Big.f k a0 a1 a2) (theorbolaw02_Big.f (k + 1) a0 a1 a2) := by
  intro a0 a1 a2 k
  obtain ⟨ih0, ih1⟩ := theorbolaw02_Big.mono_l k
  unfold theorbolaw02_Big.f
  repeat' first | (with_reducible first | apply ih0 | apply ih1 | exact LeO.refl _ | exact LeO.none _ | refine LeO.ite ?_ ?_ | refine LeO.bind ?_ fun _ => ?_) | exact LeO.none _ | refine LeO.ite ?_ ?_ | refine LeO.bind ?_ fun _ => ?_ | apply ih0 | apply ih1
set_option maxHeartbeats 8000000 in
set_option maxRecDepth 100000 in
theorem theorbolaw02_Big.calls (k : Nat) (A0_0 : Option Addr) (c0_0 : Nat) (l0_0 : List (S99)) (A0_1 : Option Addr) (c0_1 : Nat) (l0_1 : List Int) (A0_2 : Option Addr) (c0_2 : Nat) (l0_2 : List (S46)) (r : Bool) (w : World) (hr0_0 : Kd.C k99 w A0_0 l0_0.length l0_0) (hc0_0 : l0_0.length ≤ c0_0) (hr0_1 : Kd.C (Kd.int .i64) w A0_1 l0_1.length l0_1) (hc0_1 : l0_1.length ≤ c0_1) (hr0_2 : Kd.C k46 w A0_2 l0_2.length l0_2) (hc0_2 : l0_2.length ≤ c0_2) (h : theorbolaw02_Big.f k l0_0 l0_1 l0_2 = some r) :
    Calls Tryz.prog 5 #[.agg #[.slice A0_0 l0_0.length c0_0, .slice A0_1 l0_1.length c0_1, .slice A0_2 l0_2.length c0_2]] w fun e w' => e = .returned (.bool r) ∧ Below w.heap.size w w' := by
  have hu29 := Tryz.underlying29
  have HR0_0 := Aside0.mk hr0_0
  have HC0_0 := Aside0.mk hc0_0
  clear hr0_0 hc0_0
  have HR0_1 := Aside0.mk hr0_1
  have HC0_1 := Aside0.mk hc0_1
  clear hr0_1 hc0_1
  have HR0_2 := Aside0.mk hr0_2
  have HC0_2 := Aside0.mk hc0_2
  clear hr0_2 hc0_2
  have HB := Aside0.mk (Below.refl w.heap.size w)
  have H : (if (l0_0.length : Int) > 64 then (theorbolaw02_Big.j0 k true l0_0 l0_1 l0_2) else (if (l0_1.length : Int) > 64 then (theorbolaw02_Big.j0 k true l0_0 l0_1 l0_2) else (theorbolaw02_Big.j0 k (decide ((l0_2.length : Int) > 420)) l0_0 l0_1 l0_2))) = some r := h
  clear h
  have HC2 := Aside0.mk H
  clear H
  go_enter Tryz.func5, Tryz.ntmps5
  go_upto_region 1 with (first | ((with_reducible refine gate_dst (N := 1) rfl ?_); (try (refine gate_guard (by rfl) ?_; dsimp only)); refine bx_ 1 #[.slice A0_0 l0_0.length c0_0, .slice A0_1 l0_1.length c0_1, .slice A0_2 l0_2.length c0_2] 29 HB ?_; clear HB; intro gb103 w3 hg hb BK103 HB GW103; have GE103 := GW103; clear hg hb))
  (try simp only [Act.put, List.setIfInBounds_toArray, List.set_cons_zero, List.set_cons_succ])
  go_cut [21] (fun v21 wc => ∃ (kq : Nat) (x21_1 : Bool), v21 = .bool x21_1 ∧ Aside0 (theorbolaw02_Big.j0 kq x21_1 l0_0 l0_1 l0_2 = some r) ∧ Aside0 (kq ≤ k) ∧ Aside0 (wc.heap[gb103]? = some (.cells #[(.slice A0_0 l0_0.length c0_0), (.slice A0_1 l0_1.length c0_1), (.slice A0_2 l0_2.length c0_2)] 29 (0, 0))) ∧ Aside0 (Below w.heap.size w wc))
  case first =>
    (have H := HC2.out); clear HC2; (by_cases c4 : (l0_0.length : Int) > 64)
    · rw [if_pos c4] at H
      (have c4b0 : decide (64 < (l0_0.length : Int)) = true := decide_eq_true c4); (have c4b1 : decide (64 < l0_0.length) = true := decide_eq_true (by omega)); clear c4; ((first | rw [c4b0] | rw [c4b1] | (simp only [i64_w, i32_w]; rw [c4b0]) | skip)); (have H' := Aside0.mk H); clear H; (have hcz5 := blk_cell BK103.out); (have hfz5 := blk_frozen BK103.out); (go_wp2); (go_meet)
      case rel => exact ⟨_, (true), (rs_), H', ⟨om_⟩, ⟨bk_ BK103⟩, ⟨bl_ HB⟩⟩
    · rw [if_neg c4] at H
      (have c4b0 : decide (64 < (l0_0.length : Int)) = false := decide_eq_false c4); (have c4b1 : decide (64 < l0_0.length) = false := decide_eq_false (by omega)); clear c4; ((first | rw [c4b0] | rw [c4b1] | (simp only [i64_w, i32_w]; rw [c4b0]) | skip)); (by_cases c6 : (l0_1.length : Int) > 64)
      · rw [if_pos c6] at H
        (have c6b0 : decide (64 < (l0_1.length : Int)) = true := decide_eq_true c6); (have c6b1 : decide (64 < l0_1.length) = true := decide_eq_true (by omega)); clear c6; (have H' := Aside0.mk H); clear H; (have hcz7 := blk_cell BK103.out); (have hfz7 := blk_frozen BK103.out); (go_wp2); (go_meet)
        case rel => exact ⟨_, (true), (rs_), H', ⟨om_⟩, ⟨bk_ BK103⟩, ⟨bl_ HB⟩⟩
      · rw [if_neg c6] at H
        (have c6b0 : decide (64 < (l0_1.length : Int)) = false := decide_eq_false c6); (have c6b1 : decide (64 < l0_1.length) = false := decide_eq_false (by omega)); clear c6; (have H' := Aside0.mk H); clear H; (have hcz8 := blk_cell BK103.out); (have hfz8 := blk_frozen BK103.out); (go_wp2); (go_meet)
        case rel => exact ⟨_, (decide ((l0_2.length : Int) > 420)), (rs_), H', ⟨om_⟩, ⟨bk_ BK103⟩, ⟨bl_ HB⟩⟩
  case rest =>
    clear HC2; (obtain ⟨kq, x21_1, rfl, HA, HJ1, BK103, HB⟩ := hcut)
    cases kq with
    | zero => exact absurd HA.out (by simp [theorbolaw02_Big.j0])
    | succ kj1 =>
      (have H := HA.out); clear HA; (simp only [theorbolaw02_Big.j0] at H); (by_cases c9 : x21_1 = true)
      · subst c9
        (rw [if_pos rfl] at H); (obtain rfl := Option.some.inj H); (go_wp2); (go_ret); (exact ⟨rv_, bl_ HB⟩)
      · replace c9 := Bool.eq_false_iff.mpr c9
        subst c9; (rw [if_neg Bool.false_ne_true] at H); (have H' := Aside0.mk H); clear H; (go_wp2); (go_loopg [3] kj1 (fun kq v3 w' => ∃ (x3_2 : Int), v3 = .int .i64 x3_2 ∧ Aside0 (theorbolaw02_Big.l0 kq x3_2 l0_0 l0_1 l0_2 = some r) ∧ Aside0 (kq ≤ kj1) ∧ Aside0 (w'.heap[gb103]? = some (.cells #[(.slice A0_0 l0_0.length c0_0), (.slice A0_1 l0_1.length c0_1), (.slice A0_2 l0_2.length c0_2)] 29 (0, 0))) ∧ Aside0 (Below w.heap.size w w')))
        case atStart => exact ⟨(0), (rs_), H', ⟨Nat.le_refl _⟩, ⟨bk_ BK103⟩, ⟨bl_ HB⟩⟩
        case round =>
          clear H'; (try clear c9); (obtain ⟨x3_2, rfl, HA, HK2, BK103, HB⟩ := hrel)
          cases gk with
          | zero => exact absurd HA.out (by simp [theorbolaw02_Big.l0])
          | succ k2 =>
            (have H := HA.out); clear HA; (simp only [theorbolaw02_Big.l0] at H); (have HC10 := Aside0.mk H); clear H; (have hcz11 := blk_cell BK103.out); (have hfz11 := blk_frozen BK103.out); (go_upto_if 26 with (fail)); (have H := HC10.out); clear HC10; (by_cases c12 : x3_2 < (l0_2.length : Int))
            · rw [if_pos c12] at H
              (have c12b0 := decide_eq_true c12); clear c12; ((first | rw [c12b0] | (simp only [i64_w, i32_w]; rw [c12b0]) | skip)); (by_cases c13 : 0 ≤ x3_2)
              · rw [if_pos c13] at H
                (have c13b0 := decide_eq_true c13); clear c13; (have HC14 := Aside0.mk H); clear H; (have hcz15 := blk_cell BK103.out); (have hfz15 := blk_frozen BK103.out); (have p104 : 0 ≤ (x3_2 : Int) := of_decide_eq_true (by first | (with_reducible assumption) | assumption)); (have q104 : x3_2 < (l0_2.length : Int) := of_decide_eq_true (by first | (with_reducible assumption) | assumption)); (obtain ⟨ad104, A104_5, c104_5, e104, hx104_0, hx104_1, hx104_2, hx104_3, hx104_4, hx104_5, hl104_5, hi104_5⟩ := at_T46 HR0_2.out x3_2 p104 q104)
                cases e104
                (replace hx104_0 := pw_cell_below HB.out hx104_0); (replace hx104_1 := pw_cell_below HB.out hx104_1); (replace hx104_2 := pw_cell_below HB.out hx104_2); (replace hx104_3 := pw_cell_below HB.out hx104_3); (replace hx104_4 := pw_cell_below HB.out hx104_4); (replace hx104_5 := pw_cell_below HB.out hx104_5); (have HR104_5 := Aside0.mk hi104_5); (have HC104_5 := Aside0.mk hl104_5); clear hi104_5 hl104_5; (replace p104 := eq_true p104); (replace q104 := eq_true q104); (go_upto_if 36 with (fail)); (have H := HC14.out); clear HC14; (by_cases c16 : (((rd_T46 l0_2 x3_2).f3).length : Int) > 20)
                · rw [if_pos c16] at H
                  (have c16b0 : decide (20 < (((rd_T46 l0_2 x3_2).f3).length : Int)) = true := decide_eq_true c16); (have c16b1 : decide (20 < ((rd_T46 l0_2 x3_2).f3).length) = true := decide_eq_true (by omega)); clear c16; ((first | rw [c16b0] | rw [c16b1] | (simp only [i64_w, i32_w]; rw [c16b0]) | skip)); (obtain rfl := Option.some.inj H); (go_wp2); (go_ret); (exact ⟨rv_, bl_ HB⟩)
                · rw [if_neg c16] at H
                  (have c16b0 : decide (20 < (((rd_T46 l0_2 x3_2).f3).length : Int)) = false := decide_eq_false c16); (have c16b1 : decide (20 < ((rd_T46 l0_2 x3_2).f3).length) = false := decide_eq_false (by omega)); clear c16; ((first | rw [c16b0] | rw [c16b1] | (simp only [i64_w, i32_w]; rw [c16b0]) | skip)); (have H' := Aside0.mk H); clear H; (go_wp2); (go_roundg k2)
                  case measure => have := HJ1.out; have := HK2.out; omega
                  case rel => exact ⟨(wrap64 (x3_2 + 1)), (rs_), H', ⟨by have := HJ1.out; have := HK2.out; omega⟩, ⟨bk_ BK103⟩, ⟨bl_ HB⟩⟩
              · rw [if_neg c13] at H
                exact absurd H (by simp)
            · rw [if_neg c12] at H
              (have c12b0 := decide_eq_false c12); clear c12; ((first | rw [c12b0] | (simp only [i64_w, i32_w]; rw [c12b0]) | skip)); (obtain rfl := Option.some.inj H); (go_wp2); (go_ret); (exact ⟨rv_, bl_ HB⟩)

/-! ### notation_of: function 21, told by hand -/
/-- The system of a number, if there is one. -/
def notation_of.f (a0 : Int) : Option (Int × Bool) := if a0 = 1 then some (1, true) else if a0 = 2 then some (2, true) else if a0 = 3 then some (3, true) else if a0 = 4 then some (4, true) else some (0, false)
set_option maxHeartbeats 800000 in
theorem notation_of.calls (a0 : Int) (r1 : Int) (r2 : Bool) (w : World) (h : notation_of.f a0 = some (r1, r2)) :
    Calls Tryz.prog 21 #[.int .u8 a0] w fun e w' => e = .returned (.tuple #[sysW r1, .bool r2]) ∧ Drawn0 w w' := by
  unfold notation_of.f at h
  by_cases h1 : a0 = 1
  · subst h1
    obtain ⟨rfl, rfl⟩ := Prod.mk.inj (Option.some.inj h)
    go_enter Tryz.func21, Tryz.ntmps21
    go_wp2
    go_ret2
    exact ⟨rfl, ⟨0, rfl⟩⟩
  have b1 : (a0 == 1) = false := beq_eq_false_iff_ne.2 h1
  rw [if_neg h1] at h
  by_cases h2 : a0 = 2
  · subst h2
    obtain ⟨rfl, rfl⟩ := Prod.mk.inj (Option.some.inj h)
    go_enter Tryz.func21, Tryz.ntmps21
    go_wp2
    go_ret2
    exact ⟨rfl, ⟨0, rfl⟩⟩
  have b2 : (a0 == 2) = false := beq_eq_false_iff_ne.2 h2
  rw [if_neg h2] at h
  by_cases h3 : a0 = 3
  · subst h3
    obtain ⟨rfl, rfl⟩ := Prod.mk.inj (Option.some.inj h)
    go_enter Tryz.func21, Tryz.ntmps21
    go_wp2
    go_ret2
    exact ⟨rfl, ⟨0, rfl⟩⟩
  have b3 : (a0 == 3) = false := beq_eq_false_iff_ne.2 h3
  rw [if_neg h3] at h
  by_cases h4 : a0 = 4
  · subst h4
    obtain ⟨rfl, rfl⟩ := Prod.mk.inj (Option.some.inj h)
    go_enter Tryz.func21, Tryz.ntmps21
    go_wp2
    go_ret2
    exact ⟨rfl, ⟨0, rfl⟩⟩
  have b4 : (a0 == 4) = false := beq_eq_false_iff_ne.2 h4
  rw [if_neg h4] at h
  obtain ⟨rfl, rfl⟩ := Prod.mk.inj (Option.some.inj h)
  clear h1 h2 h3 h4
  go_enter Tryz.func21, Tryz.ntmps21
  go_wp2
  go_ret2
  exact ⟨rfl, ⟨0, rfl⟩⟩

/-! ### notation_placed: function 31 -/
def notation_placed.j0 : Nat → Int → Int → Bool → Option (Int × Int)
  | 0, _, _, _ => none
  | k + 1, x2, x8, x18 => if x18 = true then (some (0, 12)) else (if x2 < 0 then (some (0, 13)) else (if x2 > 18 then (some (0, 13)) else (some (x8, 0))))
def notation_placed.f (k : Nat) (a0 : Int) (a1 : Int) (a2 : Int) : Option (Int × Int) := (notation_of.f a0).bind fun bt107 => (if bt107.2 = true then (if a1 < 1 then (notation_placed.j0 k a2 bt107.1 true) else (notation_placed.j0 k a2 bt107.1 (decide (a1 > 14)))) else (some (0, 30)))
theorem notation_placed.mono_l : ∀ k, (∀ y0 y1 y2, LeO (notation_placed.j0 k y0 y1 y2) (notation_placed.j0 (k + 1) y0 y1 y2))
  | 0 => fun _ _ _ r h => by simp [notation_placed.j0] at h
  | k + 1 => by
    (have ih0 := notation_placed.mono_l k); (focus intro y0 y1 y2; (unfold notation_placed.j0); (repeat' first | (with_reducible first | apply ih0 | exact LeO.refl _ | exact LeO.none _ | refine LeO.ite ?_ ?_ | refine LeO.bind ?_ fun _ => ?_) | exact LeO.none _ | refine LeO.ite ?_ ?_ | refine LeO.bind ?_ fun _ => ?_ | apply ih0))
theorem notation_placed.mono : ∀ a0 a1 a2 k, LeO (notation_placed.f k a0 a1 a2) (notation_placed.f (k + 1) a0 a1 a2) := by
  intro a0 a1 a2 k
  have ih0 := notation_placed.mono_l k
  unfold notation_placed.f
  repeat' first | (with_reducible first | apply ih0 | exact LeO.refl _ | exact LeO.none _ | refine LeO.ite ?_ ?_ | refine LeO.bind ?_ fun _ => ?_) | exact LeO.none _ | refine LeO.ite ?_ ?_ | refine LeO.bind ?_ fun _ => ?_ | apply ih0
set_option maxHeartbeats 8000000 in
set_option maxRecDepth 100000 in
theorem notation_placed.calls (k : Nat) (a0 : Int) (a1 : Int) (a2 : Int) (r1 : Int) (r2 : Int) (w : World) (h : notation_placed.f k a0 a1 a2 = some (r1, r2)) :
    Calls Tryz.prog 31 #[.int .u8 a0, .int .i64 a1, .int .i64 a2] w fun e w' => e = .returned (.tuple #[sysW r1, .int .i64 r2]) ∧ Drawn0 w w' := by
  have H : ((notation_of.f a0).bind fun bt107 => (if bt107.2 = true then (if a1 < 1 then (notation_placed.j0 k a2 bt107.1 true) else (notation_placed.j0 k a2 bt107.1 (decide (a1 > 14)))) else (some (0, 30)))) = some (r1, r2) := h
  clear h
  replace H := Option.bind_eq_some_iff.mp H
  obtain ⟨⟨t107, t108⟩, A40, H⟩ := H
  try dsimp only at H
  have A4 := Aside0.mk A40
  clear A40
  have HC5 := Aside0.mk H
  clear H
  go_enter Tryz.func31, Tryz.ntmps31
  go_upto_if 15 with (first | ((with_reducible refine gate_callee (f := 21) rfl ?_); refine cl_ 21 (some 12) Tryz.func21 (notation_of.calls a0 t107 t108 _ A4.out) ?_; rintro e w' ⟨rfl, ⟨nd, rfl⟩⟩; refine ⟨_, rfl, ?_⟩))
  (try simp only [Act.put, List.setIfInBounds_toArray, List.set_cons_zero, List.set_cons_succ])
  have H := HC5.out
  clear HC5
  by_cases c6 : t108 = true
  · subst c6
    (rw [if_pos rfl] at H); (have HC7 := Aside0.mk H); clear H; (go_upto_region 4 with (fail)); (go_cut [18] (fun v18 wc => ∃ (kq : Nat) (x18_6 : Bool), v18 = .bool x18_6 ∧ Aside0 (notation_placed.j0 kq a2 t107 x18_6 = some (r1, r2)) ∧ Aside0 (kq ≤ k) ∧ Drawn0 w wc))
    case first =>
      (have H := HC7.out); clear HC7; (by_cases c8 : a1 < 1)
      · rw [if_pos c8] at H
        (have c8b0 := decide_eq_true c8); clear c8; ((first | rw [c8b0] | (simp only [i64_w, i32_w]; rw [c8b0]) | skip)); (have H' := Aside0.mk H); clear H; (go_wp2); (go_meet)
        case rel => exact ⟨_, (true), (rs_), H', ⟨om_⟩, dr_⟩
      · rw [if_neg c8] at H
        (have c8b0 := decide_eq_false c8); clear c8; ((first | rw [c8b0] | (simp only [i64_w, i32_w]; rw [c8b0]) | skip)); (have H' := Aside0.mk H); clear H; (go_wp2); (go_meet)
        case rel => exact ⟨_, (decide (a1 > 14)), (rs_), H', ⟨om_⟩, dr_⟩
    case rest =>
      clear HC7; (try clear c6); (obtain ⟨kq, x18_6, rfl, HA, HJ6, ⟨mc6, rfl⟩⟩ := hcut)
      cases kq with
      | zero => exact absurd HA.out (by simp [notation_placed.j0])
      | succ kj6 =>
        (have H := HA.out); clear HA; (simp only [notation_placed.j0] at H); (by_cases c9 : x18_6 = true)
        · subst c9
          (rw [if_pos rfl] at H); (simp only [Option.some.injEq, Prod.mk.injEq] at H); (obtain ⟨rfl, rfl⟩ := H); (go_wp2); (go_ret2); (exact ⟨rs_, dr_⟩)
        · replace c9 := Bool.eq_false_iff.mpr c9
          subst c9; (rw [if_neg Bool.false_ne_true] at H); (by_cases c10 : a2 < 0)
          · rw [if_pos c10] at H
            (have c10b0 := decide_eq_true c10); clear c10; (simp only [Option.some.injEq, Prod.mk.injEq] at H); (obtain ⟨rfl, rfl⟩ := H); (go_wp2); (go_ret2); (exact ⟨rs_, dr_⟩)
          · rw [if_neg c10] at H
            (have c10b0 := decide_eq_false c10); clear c10; (by_cases c11 : a2 > 18)
            · rw [if_pos c11] at H
              (have c11b0 : decide (18 < a2) = true := decide_eq_true c11); clear c11; (simp only [Option.some.injEq, Prod.mk.injEq] at H); (obtain ⟨rfl, rfl⟩ := H); (go_wp2); (go_ret2); (exact ⟨rs_, dr_⟩)
            · rw [if_neg c11] at H
              (have c11b0 : decide (18 < a2) = false := decide_eq_false c11); clear c11; (simp only [Option.some.injEq, Prod.mk.injEq] at H); (obtain ⟨rfl, rfl⟩ := H); (go_wp2); (go_ret2); (exact ⟨rs_, dr_⟩)
  · replace c6 := Bool.eq_false_iff.mpr c6
    subst c6; (rw [if_neg Bool.false_ne_true] at H); (simp only [Option.some.injEq, Prod.mk.injEq] at H); (obtain ⟨rfl, rfl⟩ := H); (go_wp2); (go_ret2); (exact ⟨rs_, dr_⟩)

/-! ### strconv_Itoa: function 101, told by hand -/
/-- strconv.Itoa from 0 to 99 (the road without the table). -/
def strconv_Itoa.f (a0 : Int) : Option ByteArray := if 0 ≤ a0 then (if a0 < 100 then some ⟨(Lib.decDigits a0.toNat).toArray⟩ else none) else none
theorem strconv_Itoa.calls (a0 : Int) (r : ByteArray) (w : World) (h : strconv_Itoa.f a0 = some r) :
    Calls Tryz.prog 101 #[.int .i64 a0] w fun e w' => e = .returned (.string r) ∧ Drawn0 w w' := by
  unfold strconv_Itoa.f at h
  by_cases h0 : 0 ≤ a0
  · by_cases h1 : a0 < 100
    · rw [if_pos h0, if_pos h1] at h
      obtain rfl := Option.some.inj h
      obtain ⟨n, rfl⟩ := Int.eq_ofNat_of_zero_le h0
      exact (Go.Proofs.Tryz.strconv_Itoa_small n (by omega) w).mono fun e w' hh => ⟨hh.1, ⟨0, hh.2⟩⟩
    · rw [if_pos h0, if_neg h1] at h
      cases h
  · rw [if_neg h0] at h
    cases h

/-! ### strings_Repeat: function 102, told by hand -/
/-- strings.Repeat from 0 on. -/
def strings_Repeat.f (a0 : ByteArray) (a1 : Int) : Option ByteArray := if 0 ≤ a1 then (if a0.size * a1.toNat ≤ 140737488355328 then (if a1 ≤ 9223372036854775807 then some ⟨(Lib.repeatL a0.data.toList a1.toNat).toArray⟩ else none) else none) else none
theorem strings_Repeat.calls (a0 : ByteArray) (a1 : Int) (r : ByteArray) (w : World) (h : strings_Repeat.f a0 a1 = some r) :
    Calls Tryz.prog 102 #[.string a0, .int .i64 a1] w fun e w' => e = .returned (.string r) ∧ Below w.heap.size w w' := by
  unfold strings_Repeat.f at h
  by_cases h0 : 0 ≤ a1
  · by_cases h1 : a0.size * a1.toNat ≤ 140737488355328
    · by_cases h2 : a1 ≤ 9223372036854775807
      · rw [if_pos h0, if_pos h1, if_pos h2] at h
        obtain rfl := Option.some.inj h
        obtain ⟨n, rfl⟩ := Int.eq_ofNat_of_zero_le h0
        exact Go.Proofs.Tryz.strings_Repeat a0 n w (by omega) h1
      · rw [if_pos h0, if_pos h1, if_neg h2] at h
        cases h
    · rw [if_pos h0, if_neg h1] at h
      cases h
  · rw [if_neg h0] at h
    cases h

/-! ### notation_french_symbol: function 99 -/
def notation_french_symbol.f  (a1_0 : Int) (a1_1 : Int) : Option (ByteArray × Bool) := if a1_0 ≥ 11 then ((strconv_Itoa.f (wrap64 (a1_0 - 7))).bind fun t115 => (some (t115, (a1_1 == 0)))) else ((strings_Repeat.f (⟨#[47]⟩ : ByteArray) (mx (wrap64 (a1_0 - 7)) 0)).bind fun t116 => (if 0 ≤ a1_1 then (if a1_1 ≤ (wrap64 (a1_1 + 1)) then (if (wrap64 (a1_1 + 1)) ≤ 19 then (if t116.size + ((⟨#[97, 98, 99, 100, 101, 102, 103, 104, 105, 107, 108, 109, 110, 111, 112, 113, 114, 115, 116]⟩ : ByteArray).extract (a1_1 : Int).toNat ((wrap64 (a1_1 + 1)) : Int).toNat).size ≤ 9223372036854775807 then (some (t116 ++ ((⟨#[97, 98, 99, 100, 101, 102, 103, 104, 105, 107, 108, 109, 110, 111, 112, 113, 114, 115, 116]⟩ : ByteArray).extract (a1_1 : Int).toNat ((wrap64 (a1_1 + 1)) : Int).toNat), true)) else (none)) else (none)) else (none)) else (none)))
def notation_french_symbol.T2 : Bool × List (List Nat × List Nat) := (true, [([], []), ([0], [0]), ([1], [1]), ([2], [2]), ([], []), ([4], [4]), ([5], [5]), ([3, 3, 0, 1, 2, 3], [3]), ([6, 7, 0, 1, 2, 3, 4, 5, 6, 7], [6])])
def notation_french_symbol.B2 : List Nat := [0, 1, 3, 7, 0, 16, 48, 15, 255]
theorem notation_french_symbol.tab2 : rtab .any (opsOf Tryz.f99 2) = notation_french_symbol.T2 := by kernel_rfl
theorem notation_french_symbol.bits2 : waitsOk notation_french_symbol.T2.2 notation_french_symbol.B2 = true := by kernel_rfl
def notation_french_symbol.T3 : Bool × List (List Nat × List Nat) := (true, [([], []), ([0], [0]), ([1], [1]), ([2], [2]), ([3], [3]), ([], []), ([5], [5]), ([], []), ([7], [7]), ([8], [8]), ([6, 9], [6, 9]), ([4, 10], [4, 10]), ([11, 4, 0, 1, 2, 3, 4, 5, 6, 7, 8, 9, 10, 11], [11]), ([12, 0, 1, 2, 3, 4, 5, 6, 7, 8, 9, 10, 11, 12], [])])
def notation_french_symbol.B3 : List Nat := [0, 1, 3, 7, 15, 0, 32, 0, 128, 384, 992, 2047, 4095, 8191]
theorem notation_french_symbol.tab3 : rtab .any (opsOf Tryz.f99 3) = notation_french_symbol.T3 := by kernel_rfl
theorem notation_french_symbol.bits3 : waitsOk notation_french_symbol.T3.2 notation_french_symbol.B3 = true := by kernel_rfl
set_option maxHeartbeats 8000000 in
set_option maxRecDepth 100000 in
theorem notation_french_symbol.calls  (a1_0 : Int) (a1_1 : Int) (r1 : ByteArray) (r2 : Bool) (w : World) (h : notation_french_symbol.f a1_0 a1_1 = some (r1, r2)) :
    Calls Tryz.prog 99 #[.agg #[], .agg #[.int .i64 a1_0, .int .i64 a1_1]] w fun e w' => e = .returned (.tuple #[.string r1, .bool r2]) ∧ Below w.heap.size w w' := by
  have hu78 := Tryz.underlying78
  have hu49 := Tryz.underlying49
  have HB := Aside0.mk (Below.refl w.heap.size w)
  have H : (if a1_0 ≥ 11 then ((strconv_Itoa.f (wrap64 (a1_0 - 7))).bind fun t115 => (some (t115, (a1_1 == 0)))) else ((strings_Repeat.f (⟨#[47]⟩ : ByteArray) (mx (wrap64 (a1_0 - 7)) 0)).bind fun t116 => (if 0 ≤ a1_1 then (if a1_1 ≤ (wrap64 (a1_1 + 1)) then (if (wrap64 (a1_1 + 1)) ≤ 19 then (if t116.size + ((⟨#[97, 98, 99, 100, 101, 102, 103, 104, 105, 107, 108, 109, 110, 111, 112, 113, 114, 115, 116]⟩ : ByteArray).extract (a1_1 : Int).toNat ((wrap64 (a1_1 + 1)) : Int).toNat).size ≤ 9223372036854775807 then (some (t116 ++ ((⟨#[97, 98, 99, 100, 101, 102, 103, 104, 105, 107, 108, 109, 110, 111, 112, 113, 114, 115, 116]⟩ : ByteArray).extract (a1_1 : Int).toNat ((wrap64 (a1_1 + 1)) : Int).toNat), true)) else (none)) else (none)) else (none)) else (none)))) = some (r1, r2) := h
  clear h
  have HC3 := Aside0.mk H
  clear H
  go_enter Tryz.func99, Tryz.ntmps99
  go_upto_if 8 with (first | (refine bx_ 2 #[] 78 HB ?_; clear HB; intro gb113 w4 hg hb BK113 HB GW113; have GE113 := GW113; clear hg hb) | (refine bx_ 3 #[.int .i64 a1_0, .int .i64 a1_1] 49 HB ?_; clear HB; intro gb114 w5 hg hb BK114 HB GW114; have GE114 := GW114; have NB113_114 := nl_ BK113 hg; have NB114_113 := ng_ BK113 hg; replace BK113 := bb_ BK113 hb; clear hg hb; have hnb6 := NB114_113.out; have hnc6 := NB113_114.out; have hcz7 := blk_cell BK114.out; have hfz7 := blk_frozen BK114.out))
  (try simp only [Act.put, List.setIfInBounds_toArray, List.set_cons_zero, List.set_cons_succ])
  have H := HC3.out
  clear HC3
  by_cases c8 : a1_0 ≥ 11
  · rw [if_pos c8] at H
    (have c8b0 : decide (11 ≤ a1_0) = true := decide_eq_true c8); clear c8; ((first | rw [c8b0] | (simp only [i64_w, i32_w]; rw [c8b0]) | skip)); (replace H := Option.bind_eq_some_iff.mp H); (obtain ⟨t115, A90, H⟩ := H); (try dsimp only at H); (have A9 := Aside0.mk A90); clear A90; (simp only [Option.some.injEq, Prod.mk.injEq] at H); (obtain ⟨rfl, rfl⟩ := H); (try go_wp2); (replace BK113 := Aside0.mk (blk_drew BK113.out)); (replace BK114 := Aside0.mk (blk_drew BK114.out)); (replace HB := Aside0.mk (below_drew1 HB.out)); (refine start_ (n := 9) (S := fun w' => w'.cell? ⟨gb114, 0, none⟩ = some (.int .i64 a1_0) ∧ w'.cell? ⟨gb114, 1, none⟩ = some (.int .i64 a1_1)) (ds := []) _ (by kernel_rfl) rfl rfl ⟨(blk_cell BK114.out 0).trans rfl, (blk_cell BK114.out 1).trans rfl⟩ (fun hHeld => ?_); refine with_tabW notation_french_symbol.tab2 notation_french_symbol.bits2 (fun HT_ HW_ => ?_)); (generalize w5.drew = w10 at BK113 BK114 HB hHeld ⊢); (refine pS_ 0 (some 9) HT_ ?_); (refine pS_ 4 (some 13) HT_ ?_); (refine tS_ 1 (some 10) HT_ HW_ hHeld ?_); (refine pS_ 2 (some 11) HT_ ?_); (refine tS_ 5 (some 14) HT_ HW_ hHeld ?_); (refine pS_ 6 (some 15) HT_ ?_); (refine oS_ 3 (some 12) HT_ (fun K hK => ?_)); (refine goes_ Tryz.func101 (by kernel_rfl) rfl #[.int .i64 (wrap64 (a1_0 - 7))] (by rfl) rfl rfl (by (try simp only [mA_, mB_, mC_]); first | done | rfl | (simp only [List.length_drop, List.length_take]; rfl)) ?_); (with_reducible refine (strconv_Itoa.calls (wrap64 (a1_0 - 7)) t115 _ A9.out).mono ?_); (rintro e w' ⟨rfl, ⟨nd, rfl⟩⟩); (refine ⟨_, rfl, ?_⟩); (refine hK.out _ _ ⟨(blk_cell BK114.out 0).trans rfl, (blk_cell BK114.out 1).trans rfl⟩ (fun hHeld => ?_)); clear hK K; (refine nS_ (some 12) ?_); (refine pS_ 7 (some 4) HT_ ?_); (refine pS_ 8 (some 5) HT_ ?_); (refine done_ (done_of HT_.out (by kernel_rfl)) ?_); (try go_wp2); (go_ret2); (exact ⟨rv_, bl_ HB⟩)
  · rw [if_neg c8] at H
    (have c8b0 : decide (11 ≤ a1_0) = false := decide_eq_false c8); clear c8; ((first | rw [c8b0] | (simp only [i64_w, i32_w]; rw [c8b0]) | skip)); (obtain ⟨ji11, hji11⟩ : ∃ j_ : Int, (mx (wrap64 (a1_0 - 7)) 0) = j_ := ⟨_, rfl⟩); (replace H : ((strings_Repeat.f (⟨#[47]⟩ : ByteArray) (ji11)).bind fun t116 => (if 0 ≤ a1_1 then (if a1_1 ≤ (wrap64 (a1_1 + 1)) then (if (wrap64 (a1_1 + 1)) ≤ 19 then (if t116.size + ((⟨#[97, 98, 99, 100, 101, 102, 103, 104, 105, 107, 108, 109, 110, 111, 112, 113, 114, 115, 116]⟩ : ByteArray).extract (a1_1 : Int).toNat ((wrap64 (a1_1 + 1)) : Int).toNat).size ≤ 9223372036854775807 then (some (t116 ++ ((⟨#[97, 98, 99, 100, 101, 102, 103, 104, 105, 107, 108, 109, 110, 111, 112, 113, 114, 115, 116]⟩ : ByteArray).extract (a1_1 : Int).toNat ((wrap64 (a1_1 + 1)) : Int).toNat), true)) else (none)) else (none)) else (none)) else (none))) = some (r1, r2) := by first | (rw [hji11] at H; exact H) | (simp only [hji11] at H ⊢; exact H)); ((try (have hji11l : 0 ≤ ji11 := by (rw [← hji11]; unfold mx; (repeat' split) <;> omega)))); ((try (have hji11m : 0 ≤ ji11 := by omega))); (have hji11_ : (if (wrap64 (a1_0 - 7)) < 0 then 0 else (wrap64 (a1_0 - 7))) = ji11 := hji11); (replace H := Option.bind_eq_some_iff.mp H); (obtain ⟨t116, A120, H⟩ := H); (try dsimp only at H); (have A12 := Aside0.mk A120); clear A120; (by_cases c13 : 0 ≤ a1_1)
    · rw [if_pos c13] at H
      (have c13b0 := eq_true c13); (have c13b1 : decide (0 ≤ a1_1) = true := decide_eq_true c13); clear c13; (by_cases c14 : a1_1 ≤ (wrap64 (a1_1 + 1)))
      · rw [if_pos c14] at H
        (have c14b0 := eq_true c14); (have c14b1 : decide (a1_1 ≤ (wrap64 (a1_1 + 1))) = true := decide_eq_true c14); (by_cases c15 : (wrap64 (a1_1 + 1)) ≤ 19)
        · rw [if_pos c15] at H
          (have c15b0 := eq_true c15); (have c15b1 : decide ((wrap64 (a1_1 + 1)) ≤ 19) = true := decide_eq_true c15); (by_cases c16 : t116.size + ((⟨#[97, 98, 99, 100, 101, 102, 103, 104, 105, 107, 108, 109, 110, 111, 112, 113, 114, 115, 116]⟩ : ByteArray).extract (a1_1 : Int).toNat ((wrap64 (a1_1 + 1)) : Int).toNat).size ≤ 9223372036854775807)
          · rw [if_pos c16] at H
            (have c16b0 := eq_true c16); (have c16b1 : decide (t116.size + ((⟨#[97, 98, 99, 100, 101, 102, 103, 104, 105, 107, 108, 109, 110, 111, 112, 113, 114, 115, 116]⟩ : ByteArray).extract (a1_1 : Int).toNat ((wrap64 (a1_1 + 1)) : Int).toNat).size ≤ 9223372036854775807) = true := decide_eq_true c16); (try have c16b2 : (9223372036854775807 < t116.size + ((⟨#[97, 98, 99, 100, 101, 102, 103, 104, 105, 107, 108, 109, 110, 111, 112, 113, 114, 115, 116]⟩ : ByteArray).extract (a1_1 : Int).toNat ((wrap64 (a1_1 + 1)) : Int).toNat).size) = False := eq_false (Nat.not_lt.2 c16)); (try have c16b3 : (9223372036854775807 < t116.size + (((wrap64 (a1_1 + 1)) : Int).toNat - (a1_1 : Int).toNat)) = False := eq_false (by have h_ := c16; simp only [ByteArray.size_extract] at h_; have e0_ : ((⟨#[97, 98, 99, 100, 101, 102, 103, 104, 105, 107, 108, 109, 110, 111, 112, 113, 114, 115, 116]⟩ : ByteArray)).size = 19 := rfl; (try simp only [decide_eq_true_eq, decide_eq_true_iff] at *); omega)); (simp only [Option.some.injEq, Prod.mk.injEq] at H); (obtain ⟨rfl, rfl⟩ := H); (try go_wp2); (replace BK113 := Aside0.mk (blk_drew BK113.out)); (replace BK114 := Aside0.mk (blk_drew BK114.out)); (replace HB := Aside0.mk (below_drew1 HB.out)); (refine start_ (n := 14) (S := fun w' => w'.cell? ⟨gb114, 0, none⟩ = some (.int .i64 a1_0) ∧ w'.cell? ⟨gb114, 1, none⟩ = some (.int .i64 a1_1)) (ds := []) _ (by kernel_rfl) rfl rfl ⟨(blk_cell BK114.out 0).trans rfl, (blk_cell BK114.out 1).trans rfl⟩ (fun hHeld => ?_); refine with_tabW notation_french_symbol.tab3 notation_french_symbol.bits3 (fun HT_ HW_ => ?_)); (generalize w5.drew = w17 at BK113 BK114 HB hHeld ⊢); (refine pS_ 0 (some 16) HT_ ?_); (refine pS_ 5 (some 21) HT_ ?_); (refine pS_ 7 (some 23) HT_ ?_); (refine tS_ 1 (some 17) HT_ HW_ hHeld ?_); (refine pS_ 2 (some 18) HT_ ?_); (refine pS_ 3 (some 19) HT_ ?_); (refine tS_ 6 (some 22) HT_ HW_ hHeld ?_); (refine tS_ 8 (some 24) HT_ HW_ hHeld ?_); (refine pS_ 9 (some 25) HT_ ?_); (refine pS_ 10 (some 26) HT_ ?_); (refine oS_ 4 (some 20) HT_ (fun K hK => ?_)); (refine goes_ Tryz.func102 (by kernel_rfl) rfl #[.string (⟨#[47]⟩ : ByteArray), .int .i64 ji11] (by rfl) rfl rfl (by (try simp only [mA_, mB_, mC_]); first | done | (simp only [hji11]; rfl) | rfl | (simp only [List.length_drop, List.length_take]; rfl)) ?_); (with_reducible refine (strings_Repeat.calls (⟨#[47]⟩ : ByteArray) ji11 t116 _ A12.out).mono ?_); (rintro e w18 ⟨rfl, hb⟩); (refine ⟨_, rfl, ?_⟩); (replace BK113 := bb_ BK113 hb); (replace BK114 := bb_ BK114 hb); (replace HB := bs_ HB hb); ((try clear hb)); ((try clear hb2)); ((try clear hk)); ((try clear hi)); (refine hK.out _ _ ⟨(blk_cell BK114.out 0).trans rfl, (blk_cell BK114.out 1).trans rfl⟩ (fun hHeld => ?_)); clear hK K; (refine nS_ (some 20) ?_); (refine pS_ 11 (some 27) HT_ ?_); (refine pS_ 12 (some 4) HT_ ?_); (refine pS_ 13 (some 5) HT_ ?_); (refine done_ (done_of HT_.out (by kernel_rfl)) ?_); (try go_wp2); (go_ret2); (exact ⟨by first | rfl | (simp [errW_none, errW_some] <;> rfl) | (simp only [← hji11]; first | rfl | (simp [errW_none, errW_some] <;> rfl)) | (simp [*, errW_none, errW_some] <;> rfl), bl_ HB⟩)
          · rw [if_neg c16] at H
            exact absurd H (by simp)
        · rw [if_neg c15] at H
          exact absurd H (by simp)
      · rw [if_neg c14] at H
        exact absurd H (by simp)
    · rw [if_neg c13] at H
      exact absurd H (by simp)

/-! ### notation_figures_figure: function 122 -/
def notation_figures_figure.j0 : Nat → Int → Bool → Option (ByteArray × Bool)
  | 0, _, _ => none
  | k + 1, x1, x6 => if x6 = true then ((strconv_Itoa.f x1).bind fun t118 => (some (t118, true))) else (if x1 = 10 then (some ((⟨#[120]⟩ : ByteArray), true)) else (some ((⟨#[]⟩ : ByteArray), false)))
def notation_figures_figure.f (k : Nat)  (a1 : Int) : Option (ByteArray × Bool) := if a1 ≥ 0 then (notation_figures_figure.j0 k a1 (decide (a1 ≤ 9))) else (notation_figures_figure.j0 k a1 false)
theorem notation_figures_figure.mono_l : ∀ k, (∀ y0 y1, LeO (notation_figures_figure.j0 k y0 y1) (notation_figures_figure.j0 (k + 1) y0 y1))
  | 0 => fun _ _ r h => by simp [notation_figures_figure.j0] at h
  | k + 1 => by
    (have ih0 := notation_figures_figure.mono_l k); (focus intro y0 y1; (unfold notation_figures_figure.j0); (repeat' first | (with_reducible first | apply ih0 | exact LeO.refl _ | exact LeO.none _ | refine LeO.ite ?_ ?_ | refine LeO.bind ?_ fun _ => ?_) | exact LeO.none _ | refine LeO.ite ?_ ?_ | refine LeO.bind ?_ fun _ => ?_ | apply ih0))
theorem notation_figures_figure.mono : ∀ a0 k, LeO (notation_figures_figure.f k a0) (notation_figures_figure.f (k + 1) a0) := by
  intro a0 k
  have ih0 := notation_figures_figure.mono_l k
  unfold notation_figures_figure.f
  repeat' first | (with_reducible first | apply ih0 | exact LeO.refl _ | exact LeO.none _ | refine LeO.ite ?_ ?_ | refine LeO.bind ?_ fun _ => ?_) | exact LeO.none _ | refine LeO.ite ?_ ?_ | refine LeO.bind ?_ fun _ => ?_ | apply ih0
set_option maxHeartbeats 8000000 in
set_option maxRecDepth 100000 in
theorem notation_figures_figure.calls (k : Nat)  (a1 : Int) (r1 : ByteArray) (r2 : Bool) (w : World) (h : notation_figures_figure.f k a1 = some (r1, r2)) :
    Calls Tryz.prog 122 #[.agg #[], .int .i64 a1] w fun e w' => e = .returned (.tuple #[.string r1, .bool r2]) ∧ Below w.heap.size w w' := by
  have hu79 := Tryz.underlying79
  have HB := Aside0.mk (Below.refl w.heap.size w)
  have H : (if a1 ≥ 0 then (notation_figures_figure.j0 k a1 (decide (a1 ≤ 9))) else (notation_figures_figure.j0 k a1 false)) = some (r1, r2) := h
  clear h
  have HC3 := Aside0.mk H
  clear H
  go_enter Tryz.func122, Tryz.ntmps122
  go_upto_region 1 with (first | (refine bx_ 2 #[] 79 HB ?_; clear HB; intro gb117 w4 hg hb BK117 HB GW117; have GE117 := GW117; clear hg hb))
  (try simp only [Act.put, List.setIfInBounds_toArray, List.set_cons_zero, List.set_cons_succ])
  go_cut [6] (fun v6 wc => ∃ (kq : Nat) (x6_2 : Bool), v6 = .bool x6_2 ∧ Aside0 (notation_figures_figure.j0 kq a1 x6_2 = some (r1, r2)) ∧ Aside0 (kq ≤ k) ∧ Aside0 (wc.heap[gb117]? = some (.cells #[] 79 (0, 0))) ∧ Aside0 (Below w.heap.size w wc))
  case first =>
    (have H := HC3.out); clear HC3; (by_cases c5 : a1 ≥ 0)
    · rw [if_pos c5] at H
      (have c5b0 : decide (0 ≤ a1) = true := decide_eq_true c5); clear c5; ((first | rw [c5b0] | (simp only [i64_w, i32_w]; rw [c5b0]) | skip)); (have H' := Aside0.mk H); clear H; (go_wp2); (go_meet)
      case rel => exact ⟨_, (decide (a1 ≤ 9)), (rs_), H', ⟨om_⟩, ⟨bk_ BK117⟩, ⟨bl_ HB⟩⟩
    · rw [if_neg c5] at H
      (have c5b0 : decide (0 ≤ a1) = false := decide_eq_false c5); clear c5; ((first | rw [c5b0] | (simp only [i64_w, i32_w]; rw [c5b0]) | skip)); (have H' := Aside0.mk H); clear H; (go_wp2); (go_meet)
      case rel => exact ⟨_, (false), (rs_), H', ⟨om_⟩, ⟨bk_ BK117⟩, ⟨bl_ HB⟩⟩
  case rest =>
    clear HC3; (obtain ⟨kq, x6_2, rfl, HA, HJ2, BK117, HB⟩ := hcut)
    cases kq with
    | zero => exact absurd HA.out (by simp [notation_figures_figure.j0])
    | succ kj2 =>
      (have H := HA.out); clear HA; (simp only [notation_figures_figure.j0] at H); (by_cases c6 : x6_2 = true)
      · subst c6
        (rw [if_pos rfl] at H); (replace H := Option.bind_eq_some_iff.mp H); (obtain ⟨t118, A70, H⟩ := H); (try dsimp only at H); (have A7 := Aside0.mk A70); clear A70; (simp only [Option.some.injEq, Prod.mk.injEq] at H); (obtain ⟨rfl, rfl⟩ := H); (go_wp2_with (first | ((with_reducible refine gate_callee (f := 101) rfl ?_); refine cl_ 101 (some 14) Tryz.func101 (strconv_Itoa.calls a1 t118 _ A7.out) ?_; rintro e w' ⟨rfl, ⟨nd, rfl⟩⟩; refine ⟨_, rfl, ?_⟩))); (go_ret2); (exact ⟨rv_, bl_ HB⟩)
      · replace c6 := Bool.eq_false_iff.mpr c6
        subst c6; (rw [if_neg Bool.false_ne_true] at H); (by_cases c8 : a1 = 10)
        · rw [if_pos c8] at H
          (obtain ⟨c8b0, c8b1⟩ := eqT_ c8); clear c8; (simp only [Option.some.injEq, Prod.mk.injEq] at H); (obtain ⟨rfl, rfl⟩ := H); (go_wp2); (go_ret2); (exact ⟨rv_, bl_ HB⟩)
        · rw [if_neg c8] at H
          (obtain ⟨c8b0, c8b1⟩ := eqF_ c8); (simp only [Option.some.injEq, Prod.mk.injEq] at H); (obtain ⟨rfl, rfl⟩ := H); (go_wp2); (go_ret2); (exact ⟨rv_, bl_ HB⟩)

/-! ### notation_italian_symbol: function 130 -/
def notation_italian_symbol.f (k : Nat)  (a1_0 : Int) (a1_1 : Int) : Option (ByteArray × Bool) := if a1_0 ≤ 6 then ((notation_figures_figure.f k a1_1).bind fun bt128 => (some (bt128.1, bt128.2))) else (if a1_0 = 10 then (some ((⟨#[120]⟩ : ByteArray), (a1_1 == 0))) else ((strconv_Itoa.f a1_0).bind fun t130 => (some (t130, (a1_1 == 0)))))
theorem notation_italian_symbol.mono : ∀ a0 a1 k, LeO (notation_italian_symbol.f k a0 a1) (notation_italian_symbol.f (k + 1) a0 a1) := by
  intro a0 a1 k
  unfold notation_italian_symbol.f
  repeat' first | (with_reducible first | apply notation_figures_figure.mono | exact LeO.refl _ | exact LeO.none _ | refine LeO.ite ?_ ?_ | refine LeO.bind ?_ fun _ => ?_) | exact LeO.none _ | refine LeO.ite ?_ ?_ | refine LeO.bind ?_ fun _ => ?_ | apply notation_figures_figure.mono
set_option maxHeartbeats 8000000 in
set_option maxRecDepth 100000 in
theorem notation_italian_symbol.calls (k : Nat)  (a1_0 : Int) (a1_1 : Int) (r1 : ByteArray) (r2 : Bool) (w : World) (h : notation_italian_symbol.f k a1_0 a1_1 = some (r1, r2)) :
    Calls Tryz.prog 130 #[.agg #[], .agg #[.int .i64 a1_0, .int .i64 a1_1]] w fun e w' => e = .returned (.tuple #[.string r1, .bool r2]) ∧ Below w.heap.size w w' := by
  have hu82 := Tryz.underlying82
  have hu49 := Tryz.underlying49
  have hu79 := Tryz.underlying79
  have HB := Aside0.mk (Below.refl w.heap.size w)
  have H : (if a1_0 ≤ 6 then ((notation_figures_figure.f k a1_1).bind fun bt128 => (some (bt128.1, bt128.2))) else (if a1_0 = 10 then (some ((⟨#[120]⟩ : ByteArray), (a1_1 == 0))) else ((strconv_Itoa.f a1_0).bind fun t130 => (some (t130, (a1_1 == 0)))))) = some (r1, r2) := h
  clear h
  have HC3 := Aside0.mk H
  clear H
  go_enter Tryz.func130, Tryz.ntmps130
  go_upto_if 8 with (first | (refine bx_ 2 #[] 82 HB ?_; clear HB; intro gb126 w4 hg hb BK126 HB GW126; have GE126 := GW126; clear hg hb) | (refine bx_ 3 #[.int .i64 a1_0, .int .i64 a1_1] 49 HB ?_; clear HB; intro gb127 w5 hg hb BK127 HB GW127; have GE127 := GW127; have NB126_127 := nl_ BK126 hg; have NB127_126 := ng_ BK126 hg; replace BK126 := bb_ BK126 hb; clear hg hb; have hnb6 := NB127_126.out; have hnc6 := NB126_127.out; have hcz7 := blk_cell BK127.out; have hfz7 := blk_frozen BK127.out))
  repeat (go_quiet (first | (refine bx_ 2 #[] 82 HB ?_; clear HB; intro gb126 w4 hg hb BK126 HB GW126; have GE126 := GW126; clear hg hb) | (refine bx_ 3 #[.int .i64 a1_0, .int .i64 a1_1] 49 HB ?_; clear HB; intro gb127 w5 hg hb BK127 HB GW127; have GE127 := GW127; have NB126_127 := nl_ BK126 hg; have NB127_126 := ng_ BK126 hg; replace BK126 := bb_ BK126 hb; clear hg hb; have hnb6 := NB127_126.out; have hnc6 := NB126_127.out; have hcz7 := blk_cell BK127.out; have hfz7 := blk_frozen BK127.out)); go_upto_if 8 with (first | (refine bx_ 2 #[] 82 HB ?_; clear HB; intro gb126 w4 hg hb BK126 HB GW126; have GE126 := GW126; clear hg hb) | (refine bx_ 3 #[.int .i64 a1_0, .int .i64 a1_1] 49 HB ?_; clear HB; intro gb127 w5 hg hb BK127 HB GW127; have GE127 := GW127; have NB126_127 := nl_ BK126 hg; have NB127_126 := ng_ BK126 hg; replace BK126 := bb_ BK126 hb; clear hg hb; have hnb6 := NB127_126.out; have hnc6 := NB126_127.out; have hcz7 := blk_cell BK127.out; have hfz7 := blk_frozen BK127.out)))
  (try simp only [Act.put, List.setIfInBounds_toArray, List.set_cons_zero, List.set_cons_succ])
  have H := HC3.out
  clear HC3
  by_cases c8 : a1_0 ≤ 6
  · rw [if_pos c8] at H
    (have c8b0 := decide_eq_true c8); clear c8; ((first | rw [c8b0] | (simp only [i64_w, i32_w]; rw [c8b0]) | skip)); (replace H := Option.bind_eq_some_iff.mp H); (obtain ⟨⟨t128, t129⟩, A90, H⟩ := H); (try dsimp only at H); (have A9 := Aside0.mk A90); clear A90; (simp only [Option.some.injEq, Prod.mk.injEq] at H); (obtain ⟨rfl, rfl⟩ := H); (have hnb10 := NB126_127.out); (have hnc10 := NB127_126.out); (have hpz11 := partAt_zero_ (P := Tryz.prog) (w := w5) BK126.out (by kernel_rfl)); (have hcz12 := blk_cell BK127.out); (have hfz12 := blk_frozen BK127.out); (go_wp2_with (first | (go_at_call 122; (with_reducible refine (notation_figures_figure.calls k  a1_1 t128 t129 _ A9.out).mono ?_); rintro e w13 ⟨rfl, hb⟩; replace BK126 := bb_ BK126 hb; replace BK127 := bb_ BK127 hb; replace HB := bs_ HB hb; (try clear hb); (try clear hb2); (try clear hk); (try clear hi)))); (repeat (go_quiet (first | (go_at_call 122; (with_reducible refine (notation_figures_figure.calls k  a1_1 t128 t129 _ A9.out).mono ?_); rintro e w13 ⟨rfl, hb⟩; replace BK126 := bb_ BK126 hb; replace BK127 := bb_ BK127 hb; replace HB := bs_ HB hb; (try clear hb); (try clear hb2); (try clear hk); (try clear hi))); try go_wp2_with (first | (go_at_call 122; (with_reducible refine (notation_figures_figure.calls k  a1_1 t128 t129 _ A9.out).mono ?_); rintro e w13 ⟨rfl, hb⟩; replace BK126 := bb_ BK126 hb; replace BK127 := bb_ BK127 hb; replace HB := bs_ HB hb; (try clear hb); (try clear hb2); (try clear hk); (try clear hi))))); (go_ret2); (exact ⟨rv_, bl_ HB⟩)
  · rw [if_neg c8] at H
    (have c8b0 := decide_eq_false c8); clear c8; ((first | rw [c8b0] | (simp only [i64_w, i32_w]; rw [c8b0]) | skip)); (have HC14 := Aside0.mk H); clear H; (have hnb15 := NB127_126.out); (have hnc15 := NB126_127.out); (have hcz16 := blk_cell BK127.out); (have hfz16 := blk_frozen BK127.out); (go_upto_if 18 with (fail)); (repeat (go_quiet (fail); go_upto_if 18 with (fail))); (have H := HC14.out); clear HC14; (by_cases c17 : a1_0 = 10)
    · rw [if_pos c17] at H
      (obtain ⟨c17b0, c17b1⟩ := eqT_ c17); clear c17; ((first | rw [c17b0] | rw [c17b1] | (simp only [i64_w, i32_w]; rw [c17b0]) | skip)); (simp only [Option.some.injEq, Prod.mk.injEq] at H); (obtain ⟨rfl, rfl⟩ := H); (have hnb18 := NB127_126.out); (have hnc18 := NB126_127.out); (have hcz19 := blk_cell BK127.out); (have hfz19 := blk_frozen BK127.out); (go_wp2); (repeat (go_quiet (fail); try go_wp2)); (go_ret2); (exact ⟨rv_, bl_ HB⟩)
    · rw [if_neg c17] at H
      (obtain ⟨c17b0, c17b1⟩ := eqF_ c17); ((first | rw [c17b0] | rw [c17b1] | (simp only [i64_w, i32_w]; rw [c17b0]) | skip)); (replace H := Option.bind_eq_some_iff.mp H); (obtain ⟨t130, A200, H⟩ := H); (try dsimp only at H); (have A20 := Aside0.mk A200); clear A200; (simp only [Option.some.injEq, Prod.mk.injEq] at H); (obtain ⟨rfl, rfl⟩ := H); (have hnb21 := NB127_126.out); (have hnc21 := NB126_127.out); (have hcz22 := blk_cell BK127.out); (have hfz22 := blk_frozen BK127.out); (go_wp2_with (first | (go_at_call 101; (with_reducible refine (strconv_Itoa.calls a1_0 t130 _ A20.out).mono ?_); rintro e w' ⟨rfl, ⟨nd, rfl⟩⟩; (try first | exact ⟨rfl, _, World.drewN_drewN _ _ _⟩ | exact ⟨rfl, _, Eq.trans (World.drewN_drewN _ _ _) (congrArg (World.drewN _) (Nat.add_assoc _ _ _))⟩)))); (repeat (go_quiet (first | (go_at_call 101; (with_reducible refine (strconv_Itoa.calls a1_0 t130 _ A20.out).mono ?_); rintro e w' ⟨rfl, ⟨nd, rfl⟩⟩; (try first | exact ⟨rfl, _, World.drewN_drewN _ _ _⟩ | exact ⟨rfl, _, Eq.trans (World.drewN_drewN _ _ _) (congrArg (World.drewN _) (Nat.add_assoc _ _ _))⟩))); try go_wp2_with (first | (go_at_call 101; (with_reducible refine (strconv_Itoa.calls a1_0 t130 _ A20.out).mono ?_); rintro e w' ⟨rfl, ⟨nd, rfl⟩⟩; (try first | exact ⟨rfl, _, World.drewN_drewN _ _ _⟩ | exact ⟨rfl, _, Eq.trans (World.drewN_drewN _ _ _) (congrArg (World.drewN _) (Nat.add_assoc _ _ _))⟩))))); (go_ret2); (exact ⟨rv_, bl_ HB⟩)

/-! ### notation_spanish_symbol: function 138 -/
def notation_spanish_symbol.f (k : Nat)  (a1_0 : Int) (a1_1 : Int) : Option (ByteArray × Bool) := if a1_0 > 6 then (some ((⟨#[]⟩ : ByteArray), false)) else ((notation_figures_figure.f k a1_1).bind fun bt137 => (some (bt137.1, bt137.2)))
theorem notation_spanish_symbol.mono : ∀ a0 a1 k, LeO (notation_spanish_symbol.f k a0 a1) (notation_spanish_symbol.f (k + 1) a0 a1) := by
  intro a0 a1 k
  unfold notation_spanish_symbol.f
  repeat' first | (with_reducible first | apply notation_figures_figure.mono | exact LeO.refl _ | exact LeO.none _ | refine LeO.ite ?_ ?_ | refine LeO.bind ?_ fun _ => ?_) | exact LeO.none _ | refine LeO.ite ?_ ?_ | refine LeO.bind ?_ fun _ => ?_ | apply notation_figures_figure.mono
set_option maxHeartbeats 8000000 in
set_option maxRecDepth 100000 in
theorem notation_spanish_symbol.calls (k : Nat)  (a1_0 : Int) (a1_1 : Int) (r1 : ByteArray) (r2 : Bool) (w : World) (h : notation_spanish_symbol.f k a1_0 a1_1 = some (r1, r2)) :
    Calls Tryz.prog 138 #[.agg #[], .agg #[.int .i64 a1_0, .int .i64 a1_1]] w fun e w' => e = .returned (.tuple #[.string r1, .bool r2]) ∧ Below w.heap.size w w' := by
  have hu84 := Tryz.underlying84
  have hu49 := Tryz.underlying49
  have hu79 := Tryz.underlying79
  have HB := Aside0.mk (Below.refl w.heap.size w)
  have H : (if a1_0 > 6 then (some ((⟨#[]⟩ : ByteArray), false)) else ((notation_figures_figure.f k a1_1).bind fun bt137 => (some (bt137.1, bt137.2)))) = some (r1, r2) := h
  clear h
  have HC3 := Aside0.mk H
  clear H
  go_enter Tryz.func138, Tryz.ntmps138
  go_upto_if 8 with (first | (refine bx_ 2 #[] 84 HB ?_; clear HB; intro gb135 w4 hg hb BK135 HB GW135; have GE135 := GW135; clear hg hb) | (refine bx_ 3 #[.int .i64 a1_0, .int .i64 a1_1] 49 HB ?_; clear HB; intro gb136 w5 hg hb BK136 HB GW136; have GE136 := GW136; have NB135_136 := nl_ BK135 hg; have NB136_135 := ng_ BK135 hg; replace BK135 := bb_ BK135 hb; clear hg hb; have hnb6 := NB136_135.out; have hnc6 := NB135_136.out; have hcz7 := blk_cell BK136.out; have hfz7 := blk_frozen BK136.out))
  (try simp only [Act.put, List.setIfInBounds_toArray, List.set_cons_zero, List.set_cons_succ])
  have H := HC3.out
  clear HC3
  by_cases c8 : a1_0 > 6
  · rw [if_pos c8] at H
    (have c8b0 : decide (6 < a1_0) = true := decide_eq_true c8); clear c8; ((first | rw [c8b0] | (simp only [i64_w, i32_w]; rw [c8b0]) | skip)); (simp only [Option.some.injEq, Prod.mk.injEq] at H); (obtain ⟨rfl, rfl⟩ := H); (go_wp2); (go_ret2); (exact ⟨rv_, bl_ HB⟩)
  · rw [if_neg c8] at H
    (have c8b0 : decide (6 < a1_0) = false := decide_eq_false c8); clear c8; ((first | rw [c8b0] | (simp only [i64_w, i32_w]; rw [c8b0]) | skip)); (replace H := Option.bind_eq_some_iff.mp H); (obtain ⟨⟨t137, t138⟩, A90, H⟩ := H); (try dsimp only at H); (have A9 := Aside0.mk A90); clear A90; (simp only [Option.some.injEq, Prod.mk.injEq] at H); (obtain ⟨rfl, rfl⟩ := H); (have hnb10 := NB135_136.out); (have hnc10 := NB136_135.out); (have hpz11 := partAt_zero_ (P := Tryz.prog) (w := w5) BK135.out (by kernel_rfl)); (have hcz12 := blk_cell BK136.out); (have hfz12 := blk_frozen BK136.out); (go_wp2_with (first | ((with_reducible refine gate_callee (f := 122) rfl ?_); refine cl_ 122 (some 13) Tryz.func122 (notation_figures_figure.calls k  a1_1 t137 t138 _ A9.out) ?_; rintro e w13 ⟨rfl, hb⟩; refine ⟨_, rfl, ?_⟩; replace BK135 := bb_ BK135 hb; replace BK136 := bb_ BK136 hb; replace HB := bs_ HB hb; (try clear hb); (try clear hb2); (try clear hk); (try clear hi)))); (go_ret2); (exact ⟨rv_, bl_ HB⟩)

/-! ### notation_german_symbol: function 145 -/
mutual
def notation_german_symbol.j0 : Nat → Bool → Int → Int → Option (ByteArray × Bool)
  | 0, _, _, _ => none
  | k + 1, x7, x141000, x141001 => if x7 = true then (some ((⟨#[]⟩ : ByteArray), false)) else (if x141000 = 6 then (notation_german_symbol.j1 k (x141001 == 0) x141000 x141001) else (notation_german_symbol.j1 k false x141000 x141001))
def notation_german_symbol.j1 : Nat → Bool → Int → Int → Option (ByteArray × Bool)
  | 0, _, _, _ => none
  | k + 1, x16, x141000, x141001 => if x16 = true then (some ((⟨#[43]⟩ : ByteArray), true)) else (if x141000 = 6 then (if 0 ≤ (wrap64 (x141001 - 1)) then (if (wrap64 (x141001 - 1)) ≤ x141001 then (if x141001 ≤ 10 then (some ((⟨#[65, 66, 67, 68, 69, 70, 71, 72, 73, 75]⟩ : ByteArray).extract ((wrap64 (x141001 - 1)) : Int).toNat (x141001 : Int).toNat, true)) else (none)) else (none)) else (none)) else (if x141001 = 0 then ((strconv_Itoa.f (wrap64 (6 - x141000))).bind fun t141 => (some (t141, true))) else (if 0 ≤ (wrap64 ((wrap64 ((wrap64 ((Int.tmod (wrap64 (x141001 - 1)) 5) * 5)) + 5)) - x141000)) then (if (wrap64 ((wrap64 ((wrap64 ((Int.tmod (wrap64 (x141001 - 1)) 5) * 5)) + 5)) - x141000)) ≤ (wrap64 ((wrap64 ((wrap64 ((wrap64 ((Int.tmod (wrap64 (x141001 - 1)) 5) * 5)) + 5)) - x141000)) + 1)) then (if (wrap64 ((wrap64 ((wrap64 ((wrap64 ((Int.tmod (wrap64 (x141001 - 1)) 5) * 5)) + 5)) - x141000)) + 1)) ≤ 25 then ((strings_Repeat.f ((⟨#[97, 98, 99, 100, 101, 102, 103, 104, 105, 107, 108, 109, 110, 111, 112, 113, 114, 115, 116, 118, 120, 121, 122, 38, 57]⟩ : ByteArray).extract ((wrap64 ((wrap64 ((wrap64 ((Int.tmod (wrap64 (x141001 - 1)) 5) * 5)) + 5)) - x141000)) : Int).toNat ((wrap64 ((wrap64 ((wrap64 ((wrap64 ((Int.tmod (wrap64 (x141001 - 1)) 5) * 5)) + 5)) - x141000)) + 1)) : Int).toNat) (wrap64 (Int.tdiv (wrap64 (x141001 + 4)) 5))).bind fun t142 => (some (t142, true))) else (none)) else (none)) else (none))))
end
def notation_german_symbol.f (k : Nat)  (a1_0 : Int) (a1_1 : Int) : Option (ByteArray × Bool) := if a1_0 > 6 then (notation_german_symbol.j0 k true a1_0 a1_1) else (notation_german_symbol.j0 k (decide (a1_1 > 10)) a1_0 a1_1)
theorem notation_german_symbol.mono_l : ∀ k, (∀ y0 y1 y2, LeO (notation_german_symbol.j0 k y0 y1 y2) (notation_german_symbol.j0 (k + 1) y0 y1 y2)) ∧ (∀ y0 y1 y2, LeO (notation_german_symbol.j1 k y0 y1 y2) (notation_german_symbol.j1 (k + 1) y0 y1 y2))
  | 0 => ⟨fun _ _ _ r h => by simp [notation_german_symbol.j0] at h, fun _ _ _ r h => by simp [notation_german_symbol.j1] at h⟩
  | k + 1 => by
    ((obtain ⟨ih0, ih1⟩ := notation_german_symbol.mono_l k); (refine ⟨?_, ?_⟩)); (focus intro y0 y1 y2; (unfold notation_german_symbol.j0); (repeat' first | (with_reducible first | apply ih0 | apply ih1 | exact LeO.refl _ | exact LeO.none _ | refine LeO.ite ?_ ?_ | refine LeO.bind ?_ fun _ => ?_) | exact LeO.none _ | refine LeO.ite ?_ ?_ | refine LeO.bind ?_ fun _ => ?_ | apply ih0 | apply ih1)); (focus intro y0 y1 y2; (unfold notation_german_symbol.j1); (repeat' first | (with_reducible first | apply ih0 | apply ih1 | exact LeO.refl _ | exact LeO.none _ | refine LeO.ite ?_ ?_ | refine LeO.bind ?_ fun _ => ?_) | exact LeO.none _ | refine LeO.ite ?_ ?_ | refine LeO.bind ?_ fun _ => ?_ | apply ih0 | apply ih1))
theorem notation_german_symbol.mono : ∀ a0 a1 k, LeO (notation_german_symbol.f k a0 a1) (notation_german_symbol.f (k + 1) a0 a1) := by
  intro a0 a1 k
  obtain ⟨ih0, ih1⟩ := notation_german_symbol.mono_l k
  unfold notation_german_symbol.f
  repeat' first | (with_reducible first | apply ih0 | apply ih1 | exact LeO.refl _ | exact LeO.none _ | refine LeO.ite ?_ ?_ | refine LeO.bind ?_ fun _ => ?_) | exact LeO.none _ | refine LeO.ite ?_ ?_ | refine LeO.bind ?_ fun _ => ?_ | apply ih0 | apply ih1
def notation_german_symbol.T10 : Bool × List (List Nat × List Nat) := (true, [([], []), ([], []), ([1], [1]), ([0, 2], [0, 2]), ([], []), ([4], [4]), ([5], [5]), ([6], [6]), ([3, 7], [3, 7]), ([8, 8, 0, 1, 2, 3, 4, 5, 6, 7, 8], [8]), ([9, 0, 1, 2, 3, 4, 5, 6, 7, 8, 9], [])])
def notation_german_symbol.B10 : List Nat := [0, 0, 2, 7, 0, 16, 48, 112, 255, 511, 1023]
theorem notation_german_symbol.tab10 : rtab .any (opsOf Tryz.f145 10) = notation_german_symbol.T10 := by kernel_rfl
theorem notation_german_symbol.bits10 : waitsOk notation_german_symbol.T10.2 notation_german_symbol.B10 = true := by kernel_rfl
set_option maxHeartbeats 8000000 in
set_option maxRecDepth 100000 in
theorem notation_german_symbol.calls (k : Nat)  (a1_0 : Int) (a1_1 : Int) (r1 : ByteArray) (r2 : Bool) (w : World) (h : notation_german_symbol.f k a1_0 a1_1 = some (r1, r2)) :
    Calls Tryz.prog 145 #[.agg #[], .agg #[.int .i64 a1_0, .int .i64 a1_1]] w fun e w' => e = .returned (.tuple #[.string r1, .bool r2]) ∧ Below w.heap.size w w' := by
  have hu86 := Tryz.underlying86
  have hu49 := Tryz.underlying49
  have HB := Aside0.mk (Below.refl w.heap.size w)
  have H : (if a1_0 > 6 then (notation_german_symbol.j0 k true a1_0 a1_1) else (notation_german_symbol.j0 k (decide (a1_1 > 10)) a1_0 a1_1)) = some (r1, r2) := h
  clear h
  have HC3 := Aside0.mk H
  clear H
  go_enter Tryz.func145, Tryz.ntmps145
  go_upto_region 1 with (first | (refine bx_ 2 #[] 86 HB ?_; clear HB; intro gb139 w4 hg hb BK139 HB GW139; have GE139 := GW139; clear hg hb) | (refine bx_ 3 #[.int .i64 a1_0, .int .i64 a1_1] 49 HB ?_; clear HB; intro gb140 w5 hg hb BK140 HB GW140; have GE140 := GW140; have NB139_140 := nl_ BK139 hg; have NB140_139 := ng_ BK139 hg; replace BK139 := bb_ BK139 hb; clear hg hb))
  (try simp only [Act.put, List.setIfInBounds_toArray, List.set_cons_zero, List.set_cons_succ])
  go_cut [7] (fun v7 wc => ∃ (kq : Nat) (x7_2 : Bool), v7 = .bool x7_2 ∧ Aside0 (notation_german_symbol.j0 kq x7_2 a1_0 a1_1 = some (r1, r2)) ∧ Aside0 (kq ≤ k) ∧ Aside0 (wc.heap[gb139]? = some (.cells #[] 86 (0, 0))) ∧ Aside0 (wc.heap[gb140]? = some (.cells #[.int .i64 a1_0, .int .i64 a1_1] 49 (0, 0))) ∧ Aside0 (Below w.heap.size w wc))
  case first =>
    (have H := HC3.out); clear HC3; (by_cases c6 : a1_0 > 6)
    · rw [if_pos c6] at H
      (have c6b0 : decide (6 < a1_0) = true := decide_eq_true c6); clear c6; ((first | rw [c6b0] | (simp only [i64_w, i32_w]; rw [c6b0]) | skip)); (have H' := Aside0.mk H); clear H; (have hnb7 := NB140_139.out); (have hnc7 := NB139_140.out); (have hcz8 := blk_cell BK140.out); (have hfz8 := blk_frozen BK140.out); (go_wp2); (go_meet)
      case rel => exact ⟨_, (true), (rs_), H', ⟨om_⟩, ⟨bk_ BK139⟩, ⟨bk_ BK140⟩, ⟨bl_ HB⟩⟩
    · rw [if_neg c6] at H
      (have c6b0 : decide (6 < a1_0) = false := decide_eq_false c6); clear c6; ((first | rw [c6b0] | (simp only [i64_w, i32_w]; rw [c6b0]) | skip)); (have H' := Aside0.mk H); clear H; (have hnb9 := NB140_139.out); (have hnc9 := NB139_140.out); (have hcz10 := blk_cell BK140.out); (have hfz10 := blk_frozen BK140.out); (go_wp2); (go_meet)
      case rel => exact ⟨_, (decide (a1_1 > 10)), (rs_), H', ⟨om_⟩, ⟨bk_ BK139⟩, ⟨bk_ BK140⟩, ⟨bl_ HB⟩⟩
  case rest =>
    clear HC3; (obtain ⟨kq, x7_2, rfl, HA, HJ2, BK139, BK140, HB⟩ := hcut)
    cases kq with
    | zero => exact absurd HA.out (by simp [notation_german_symbol.j0])
    | succ kj2 =>
      (have H := HA.out); clear HA; (simp only [notation_german_symbol.j0] at H); (by_cases c11 : x7_2 = true)
      · subst c11
        (rw [if_pos rfl] at H); (simp only [Option.some.injEq, Prod.mk.injEq] at H); (obtain ⟨rfl, rfl⟩ := H); (go_wp2); (go_ret2); (exact ⟨rv_, bl_ HB⟩)
      · replace c11 := Bool.eq_false_iff.mpr c11
        subst c11; (rw [if_neg Bool.false_ne_true] at H); (have HC12 := Aside0.mk H); clear H; (go_upto_region 3 with (fail)); (go_cut [16] (fun v16 wc => ∃ (kq : Nat) (x16_11 : Bool), v16 = .bool x16_11 ∧ Aside0 (notation_german_symbol.j1 kq x16_11 a1_0 a1_1 = some (r1, r2)) ∧ Aside0 (kq ≤ kj2) ∧ Aside0 (wc.heap[gb139]? = some (.cells #[] 86 (0, 0))) ∧ Aside0 (wc.heap[gb140]? = some (.cells #[.int .i64 a1_0, .int .i64 a1_1] 49 (0, 0))) ∧ Aside0 (Below w.heap.size w wc)))
        case first =>
          (have H := HC12.out); clear HC12; (by_cases c13 : a1_0 = 6)
          · rw [if_pos c13] at H
            (obtain ⟨c13b0, c13b1⟩ := eqT_ c13); clear c13; ((first | rw [c13b0] | rw [c13b1] | (simp only [i64_w, i32_w]; rw [c13b0]) | skip)); (have H' := Aside0.mk H); clear H; (have hnb14 := NB140_139.out); (have hnc14 := NB139_140.out); (have hcz15 := blk_cell BK140.out); (have hfz15 := blk_frozen BK140.out); (go_wp2); (go_meet)
            case rel => exact ⟨_, ((a1_1 == 0)), (rs_), H', ⟨by have := HJ2.out; first | omega | exact Nat.le_refl _⟩, ⟨bk_ BK139⟩, ⟨bk_ BK140⟩, ⟨bl_ HB⟩⟩
          · rw [if_neg c13] at H
            (obtain ⟨c13b0, c13b1⟩ := eqF_ c13); ((first | rw [c13b0] | rw [c13b1] | (simp only [i64_w, i32_w]; rw [c13b0]) | skip)); (have H' := Aside0.mk H); clear H; (have hnb16 := NB140_139.out); (have hnc16 := NB139_140.out); (have hcz17 := blk_cell BK140.out); (have hfz17 := blk_frozen BK140.out); (go_wp2); (go_meet)
            case rel => exact ⟨_, (false), (rs_), H', ⟨by have := HJ2.out; first | omega | exact Nat.le_refl _⟩, ⟨bk_ BK139⟩, ⟨bk_ BK140⟩, ⟨bl_ HB⟩⟩
        case rest =>
          clear HC12; (try clear c11); (obtain ⟨kq, x16_11, rfl, HA, HJ11, BK139, BK140, HB⟩ := hcut)
          cases kq with
          | zero => exact absurd HA.out (by simp [notation_german_symbol.j1])
          | succ kj11 =>
            (have H := HA.out); clear HA; (simp only [notation_german_symbol.j1] at H); (by_cases c18 : x16_11 = true)
            · subst c18
              (rw [if_pos rfl] at H); (simp only [Option.some.injEq, Prod.mk.injEq] at H); (obtain ⟨rfl, rfl⟩ := H); (go_wp2); (go_ret2); (exact ⟨rv_, bl_ HB⟩)
            · replace c18 := Bool.eq_false_iff.mpr c18
              subst c18; (rw [if_neg Bool.false_ne_true] at H); (by_cases c19 : a1_0 = 6)
              · rw [if_pos c19] at H
                (obtain ⟨c19b0, c19b1⟩ := eqT_ c19); clear c19; (obtain ⟨ji20, hji20⟩ : ∃ j_ : Int, (wrap64 (a1_1 - 1)) = j_ := ⟨_, rfl⟩); (replace H : (if 0 ≤ (ji20) then (if (ji20) ≤ a1_1 then (if a1_1 ≤ 10 then (some ((⟨#[65, 66, 67, 68, 69, 70, 71, 72, 73, 75]⟩ : ByteArray).extract ((ji20) : Int).toNat (a1_1 : Int).toNat, true)) else (none)) else (none)) else (none)) = some (r1, r2) := by first | (rw [hji20] at H; exact H) | (simp only [hji20] at H ⊢; exact H)); (have hji20w : (IntKind.i64.wrap (a1_1 - 1)) = ji20 := (i64_w _).trans hji20); (by_cases c21 : 0 ≤ (ji20))
                · rw [if_pos c21] at H
                  (have c21b0 := eq_true c21); (have c21b1 : decide (0 ≤ (ji20)) = true := decide_eq_true c21); clear c21; (by_cases c22 : (ji20) ≤ a1_1)
                  · rw [if_pos c22] at H
                    (have c22b0 := eq_true c22); (have c22b1 : decide ((ji20) ≤ a1_1) = true := decide_eq_true c22); clear c22; (by_cases c23 : a1_1 ≤ 10)
                    · rw [if_pos c23] at H
                      (have c23b0 := eq_true c23); (have c23b1 : decide (a1_1 ≤ 10) = true := decide_eq_true c23); clear c23; (simp only [Option.some.injEq, Prod.mk.injEq] at H); (obtain ⟨rfl, rfl⟩ := H); (have hnb24 := NB140_139.out); (have hnc24 := NB139_140.out); (have hcz25 := blk_cell BK140.out); (have hfz25 := blk_frozen BK140.out); (go_wp2); (go_ret2); (exact ⟨by first | rfl | (simp [errW_none, errW_some] <;> rfl) | (simp only [← hji20]; first | rfl | (simp [errW_none, errW_some] <;> rfl)) | (simp [*, errW_none, errW_some] <;> rfl), bl_ HB⟩)
                    · rw [if_neg c23] at H
                      exact absurd H (by simp)
                  · rw [if_neg c22] at H
                    exact absurd H (by simp)
                · rw [if_neg c21] at H
                  exact absurd H (by simp)
              · rw [if_neg c19] at H
                (obtain ⟨c19b0, c19b1⟩ := eqF_ c19); (by_cases c26 : a1_1 = 0)
                · rw [if_pos c26] at H
                  (obtain ⟨c26b0, c26b1⟩ := eqT_ c26); clear c26; (replace H := Option.bind_eq_some_iff.mp H); (obtain ⟨t141, A270, H⟩ := H); (try dsimp only at H); (have A27 := Aside0.mk A270); clear A270; (simp only [Option.some.injEq, Prod.mk.injEq] at H); (obtain ⟨rfl, rfl⟩ := H); (have hnb28 := NB140_139.out); (have hnc28 := NB139_140.out); (have hcz29 := blk_cell BK140.out); (have hfz29 := blk_frozen BK140.out); (go_wp2_with (first | ((with_reducible refine gate_callee (f := 101) rfl ?_); refine cl_ 101 (some 42) Tryz.func101 (strconv_Itoa.calls (wrap64 (6 - a1_0)) t141 _ A27.out) ?_; rintro e w' ⟨rfl, ⟨nd, rfl⟩⟩; refine ⟨_, rfl, ?_⟩))); (go_ret2); (exact ⟨rv_, bl_ HB⟩)
                · rw [if_neg c26] at H
                  (obtain ⟨c26b0, c26b1⟩ := eqF_ c26); (obtain ⟨ji30, hji30⟩ : ∃ j_ : Int, (wrap64 ((wrap64 ((wrap64 ((Int.tmod (wrap64 (a1_1 - 1)) 5) * 5)) + 5)) - a1_0)) = j_ := ⟨_, rfl⟩); (replace H : (if 0 ≤ (ji30) then (if (ji30) ≤ (wrap64 ((ji30) + 1)) then (if (wrap64 ((ji30) + 1)) ≤ 25 then ((strings_Repeat.f ((⟨#[97, 98, 99, 100, 101, 102, 103, 104, 105, 107, 108, 109, 110, 111, 112, 113, 114, 115, 116, 118, 120, 121, 122, 38, 57]⟩ : ByteArray).extract ((ji30) : Int).toNat ((wrap64 ((ji30) + 1)) : Int).toNat) (wrap64 (Int.tdiv (wrap64 (a1_1 + 4)) 5))).bind fun t142 => (some (t142, true))) else (none)) else (none)) else (none)) = some (r1, r2) := by first | (rw [hji30] at H; exact H) | (simp only [hji30] at H ⊢; exact H)); (have hji30w : (IntKind.i64.wrap ((wrap64 ((wrap64 ((Int.tmod (wrap64 (a1_1 - 1)) 5) * 5)) + 5)) - a1_0)) = ji30 := (i64_w _).trans hji30); (by_cases c31 : 0 ≤ (ji30))
                  · rw [if_pos c31] at H
                    (have c31b0 := eq_true c31); (have c31b1 : decide (0 ≤ (ji30)) = true := decide_eq_true c31); clear c31; (by_cases c32 : (ji30) ≤ (wrap64 ((ji30) + 1)))
                    · rw [if_pos c32] at H
                      (have c32b0 := eq_true c32); (have c32b1 : decide ((ji30) ≤ (wrap64 ((ji30) + 1))) = true := decide_eq_true c32); (by_cases c33 : (wrap64 ((ji30) + 1)) ≤ 25)
                      · rw [if_pos c33] at H
                        (have c33b0 := eq_true c33); (have c33b1 : decide ((wrap64 ((ji30) + 1)) ≤ 25) = true := decide_eq_true c33); (replace H := Option.bind_eq_some_iff.mp H); (obtain ⟨t142, A340, H⟩ := H); (try dsimp only at H); (have A34 := Aside0.mk A340); clear A340; (simp only [Option.some.injEq, Prod.mk.injEq] at H); (obtain ⟨rfl, rfl⟩ := H); (have hnb35 := NB140_139.out); (have hnc35 := NB139_140.out); (have hcz36 := blk_cell BK140.out); (have hfz36 := blk_frozen BK140.out); (try go_wp2); (replace BK139 := Aside0.mk (blk_drew BK139.out)); (replace BK140 := Aside0.mk (blk_drew BK140.out)); (replace HB := Aside0.mk (below_drew1 HB.out)); (refine start_ (n := 11) (S := fun w' => w'.cell? ⟨gb140, 0, none⟩ = some (.int .i64 a1_0) ∧ w'.cell? ⟨gb140, 1, none⟩ = some (.int .i64 a1_1)) (ds := []) _ (by kernel_rfl) rfl rfl ⟨(blk_cell BK140.out 0).trans rfl, (blk_cell BK140.out 1).trans rfl⟩ (fun hHeld => ?_); refine with_tabW notation_german_symbol.tab10 notation_german_symbol.bits10 (fun HT_ HW_ => ?_)); (generalize wc.drew = w37 at BK139 BK140 HB hHeld ⊢); (refine pS_ 0 (some 52) HT_ ?_); (refine pS_ 1 (some 53) HT_ ?_); (refine pS_ 2 (some 54) HT_ ?_); (refine pS_ 3 (some 55) HT_ ?_); (refine pS_ 4 (some 56) HT_ ?_); (refine tS_ 5 (some 57) HT_ HW_ hHeld ?_); (refine pS_ 6 (some 58) HT_ ?_); (refine pS_ 7 (some 59) HT_ ?_); (refine oS_ 8 (some 60) HT_ (fun K hK => ?_)); (refine goes_ Tryz.func102 (by kernel_rfl) rfl #[.string ((⟨#[97, 98, 99, 100, 101, 102, 103, 104, 105, 107, 108, 109, 110, 111, 112, 113, 114, 115, 116, 118, 120, 121, 122, 38, 57]⟩ : ByteArray).extract ((ji30) : Int).toNat ((wrap64 ((ji30) + 1)) : Int).toNat), .int .i64 (wrap64 (Int.tdiv (wrap64 (a1_1 + 4)) 5))] (by rfl) rfl rfl (by (try simp only [mA_, mB_, mC_]); first | done | (simp only [hji30]; rfl) | rfl | (simp only [List.length_drop, List.length_take]; rfl)) ?_); (with_reducible refine (strings_Repeat.calls ((⟨#[97, 98, 99, 100, 101, 102, 103, 104, 105, 107, 108, 109, 110, 111, 112, 113, 114, 115, 116, 118, 120, 121, 122, 38, 57]⟩ : ByteArray).extract ((ji30) : Int).toNat ((wrap64 ((ji30) + 1)) : Int).toNat) (wrap64 (Int.tdiv (wrap64 (a1_1 + 4)) 5)) t142 _ A34.out).mono ?_); (rintro e w38 ⟨rfl, hb⟩); (refine ⟨_, rfl, ?_⟩); (replace BK139 := bb_ BK139 hb); (replace BK140 := bb_ BK140 hb); (replace HB := bs_ HB hb); ((try clear hb)); ((try clear hb2)); ((try clear hk)); ((try clear hi)); (refine hK.out _ _ ⟨(blk_cell BK140.out 0).trans rfl, (blk_cell BK140.out 1).trans rfl⟩ (fun hHeld => ?_)); clear hK K; (refine nS_ (some 60) ?_); (refine pS_ 9 (some 4) HT_ ?_); (refine pS_ 10 (some 5) HT_ ?_); (refine done_ (done_of HT_.out (by kernel_rfl)) ?_); (try go_wp2); (go_ret2); (exact ⟨by first | rfl | (simp [errW_none, errW_some] <;> rfl) | (simp only [← hji30]; first | rfl | (simp [errW_none, errW_some] <;> rfl)) | (simp [*, errW_none, errW_some] <;> rfl), bl_ HB⟩)
                      · rw [if_neg c33] at H
                        exact absurd H (by simp)
                    · rw [if_neg c32] at H
                      exact absurd H (by simp)
                  · rw [if_neg c31] at H
                    exact absurd H (by simp)

/-! ### dyn_notation_symbol: a method of an interface's value, by its tag -/
def dyn_notation_symbol.f (k : Nat) (a0 : Int) (a1_0 : Int) (a1_1 : Int) : Option (ByteArray × Bool) := if a0 = 1 then notation_french_symbol.f a1_0 a1_1 else if a0 = 2 then notation_italian_symbol.f k a1_0 a1_1 else if a0 = 3 then notation_spanish_symbol.f k a1_0 a1_1 else if a0 = 4 then notation_german_symbol.f k a1_0 a1_1 else  none
theorem dyn_notation_symbol.mono : ∀ a0 a1_0 a1_1 k, LeO (dyn_notation_symbol.f k a0 a1_0 a1_1) (dyn_notation_symbol.f (k + 1) a0 a1_0 a1_1) := by
  intro a0 a1_0 a1_1 k
  unfold dyn_notation_symbol.f
  repeat' first
    | (with_reducible exact notation_italian_symbol.mono _ _ _)
    | (with_reducible exact notation_spanish_symbol.mono _ _ _)
    | (with_reducible exact notation_german_symbol.mono _ _ _)
     | (with_reducible exact LeO.refl _)
    | (with_reducible exact LeO.none _)
    | (with_reducible refine LeO.ite ?_ ?_)
set_option maxRecDepth 100000 in
theorem dyn_notation_symbol.calls (k : Nat) (a0 : Int) (a1_0 : Int) (a1_1 : Int) (r1 : ByteArray) (r2 : Bool) (w : World) (h : dyn_notation_symbol.f k a0 a1_0 a1_1 = some (r1, r2)) :
    Invokes Tryz.prog (sysW a0) "theorbo/notation.symbol" #[.agg #[.int .i64 a1_0, .int .i64 a1_1]] w fun e w' => e = .returned (.tuple #[.string r1, .bool r2]) ∧ Below w.heap.size w w' := by
  unfold dyn_notation_symbol.f at h
  by_cases c1 : a0 = 1
  · subst c1
    rw [if_pos rfl] at h
    exact ⟨99, _, (fun w => by kernel_rfl : ∀ w : World, (callMethod (sysW 1) "theorbo/notation.symbol" #[.agg #[.int .i64 a1_0, .int .i64 a1_1]]).run Tryz.prog w = .ok (.enter 99 #[.agg #[], .agg #[.int .i64 a1_0, .int .i64 a1_1]]) w) w, (notation_french_symbol.calls a1_0 a1_1 r1 r2 w h)⟩
  rw [if_neg c1] at h
  by_cases c2 : a0 = 2
  · subst c2
    rw [if_pos rfl] at h
    exact ⟨130, _, (fun w => by kernel_rfl : ∀ w : World, (callMethod (sysW 2) "theorbo/notation.symbol" #[.agg #[.int .i64 a1_0, .int .i64 a1_1]]).run Tryz.prog w = .ok (.enter 130 #[.agg #[], .agg #[.int .i64 a1_0, .int .i64 a1_1]]) w) w, (notation_italian_symbol.calls k a1_0 a1_1 r1 r2 w h)⟩
  rw [if_neg c2] at h
  by_cases c3 : a0 = 3
  · subst c3
    rw [if_pos rfl] at h
    exact ⟨138, _, (fun w => by kernel_rfl : ∀ w : World, (callMethod (sysW 3) "theorbo/notation.symbol" #[.agg #[.int .i64 a1_0, .int .i64 a1_1]]).run Tryz.prog w = .ok (.enter 138 #[.agg #[], .agg #[.int .i64 a1_0, .int .i64 a1_1]]) w) w, (notation_spanish_symbol.calls k a1_0 a1_1 r1 r2 w h)⟩
  rw [if_neg c3] at h
  by_cases c4 : a0 = 4
  · subst c4
    rw [if_pos rfl] at h
    exact ⟨145, _, (fun w => by kernel_rfl : ∀ w : World, (callMethod (sysW 4) "theorbo/notation.symbol" #[.agg #[.int .i64 a1_0, .int .i64 a1_1]]).run Tryz.prog w = .ok (.enter 145 #[.agg #[], .agg #[.int .i64 a1_0, .int .i64 a1_1]]) w) w, (notation_german_symbol.calls k a1_0 a1_1 r1 r2 w h)⟩
  rw [if_neg c4] at h
  exact absurd h (by simp)

/-! ### notation_Symbol: function 17 -/
def notation_Symbol.f (k : Nat) (a0 : Int) (a1_0 : Int) (a1_1 : Int) : Option (ByteArray × Int) := (notation_placed.f k a0 a1_0 a1_1).bind fun bt153 => (if bt153.2 = 0 then ((dyn_notation_symbol.f k bt153.1 a1_0 a1_1).bind fun bt155 => (if bt155.2 = true then (some (bt155.1, 0)) else (some ((⟨#[]⟩ : ByteArray), 31)))) else (some ((⟨#[]⟩ : ByteArray), bt153.2)))
theorem notation_Symbol.mono : ∀ a0 a1 a2 k, LeO (notation_Symbol.f k a0 a1 a2) (notation_Symbol.f (k + 1) a0 a1 a2) := by
  intro a0 a1 a2 k
  unfold notation_Symbol.f
  repeat' first | (with_reducible first | apply dyn_notation_symbol.mono | apply notation_placed.mono | exact LeO.refl _ | exact LeO.none _ | refine LeO.ite ?_ ?_ | refine LeO.bind ?_ fun _ => ?_) | exact LeO.none _ | refine LeO.ite ?_ ?_ | refine LeO.bind ?_ fun _ => ?_ | apply dyn_notation_symbol.mono | apply notation_placed.mono
set_option maxHeartbeats 8000000 in
set_option maxRecDepth 100000 in
theorem notation_Symbol.calls (k : Nat) (a0 : Int) (a1_0 : Int) (a1_1 : Int) (r1 : ByteArray) (r2 : Int) (w : World) (h : notation_Symbol.f k a0 a1_0 a1_1 = some (r1, r2)) :
    Calls Tryz.prog 17 #[.int .u8 a0, .agg #[.int .i64 a1_0, .int .i64 a1_1]] w fun e w' => e = .returned (.tuple #[.string r1, .int .i64 r2]) ∧ Below w.heap.size w w' := by
  have hu49 := Tryz.underlying49
  have HB := Aside0.mk (Below.refl w.heap.size w)
  have H : ((notation_placed.f k a0 a1_0 a1_1).bind fun bt153 => (if bt153.2 = 0 then ((dyn_notation_symbol.f k bt153.1 a1_0 a1_1).bind fun bt155 => (if bt155.2 = true then (some (bt155.1, 0)) else (some ((⟨#[]⟩ : ByteArray), 31)))) else (some ((⟨#[]⟩ : ByteArray), bt153.2)))) = some (r1, r2) := h
  clear h
  replace H := Option.bind_eq_some_iff.mp H
  obtain ⟨⟨t153, t154⟩, A30, H⟩ := H
  try dsimp only at H
  have A3 := Aside0.mk A30
  clear A30
  have HC4 := Aside0.mk H
  clear H
  go_enter Tryz.func17, Tryz.ntmps17
  go_upto_if 20 with (first | (refine bx_ 3 #[.int .i64 a1_0, .int .i64 a1_1] 49 HB ?_; clear HB; intro gb152 w5 hg hb BK152 HB GW152; have GE152 := GW152; clear hg hb; have hcz6 := blk_cell BK152.out; have hfz6 := blk_frozen BK152.out) | ((with_reducible refine gate_callee (f := 31) rfl ?_); refine cl_ 31 (some 16) Tryz.func31 (notation_placed.calls k a0 a1_0 a1_1 t153 t154 _ A3.out) ?_; rintro e w' ⟨rfl, ⟨nd, rfl⟩⟩; refine ⟨_, rfl, ?_⟩))
  (try simp only [Act.put, List.setIfInBounds_toArray, List.set_cons_zero, List.set_cons_succ])
  have H := HC4.out
  clear HC4
  by_cases c7 : t154 = 0
  · rw [if_pos c7] at H
    (obtain ⟨c7b0, c7b1⟩ := eqT_ c7); clear c7; ((first | rw [c7b0] | rw [c7b1] | (simp only [i64_w, i32_w]; rw [c7b0]) | skip)); (replace H := Option.bind_eq_some_iff.mp H); (obtain ⟨⟨t155, t156⟩, A80, H⟩ := H); (try dsimp only at H); (have A8 := Aside0.mk A80); clear A80; (have HC9 := Aside0.mk H); clear H; (have hcz10 := blk_cell BK152.out); (have hfz10 := blk_frozen BK152.out); (go_upto_if 29 with (first | ((with_reducible refine gate_invoke_ (m := "theorbo/notation.symbol") rfl ?_); refine goesI_ (some 25) rfl rfl (sysW t153) #[.agg #[.int .i64 a1_0, .int .i64 a1_1]] rfl (by rfl) (by (try simp only [mA_, mB_, mC_]); first | done | rfl | (simp only [List.length_drop, List.length_take]; rfl)) ?_; (with_reducible refine (dyn_notation_symbol.calls k t153 a1_0 a1_1 t155 t156 _ A8.out).mono ?_); rintro e w11 ⟨rfl, hb⟩; refine ⟨_, rfl, ?_⟩; replace BK152 := bb_ BK152 hb; replace HB := bs_ HB hb; (try clear hb); (try clear hb2); (try clear hk); (try clear hi)))); ((try simp only [Act.put, List.setIfInBounds_toArray, List.set_cons_zero, List.set_cons_succ])); (have H := HC9.out); clear HC9; (by_cases c12 : t156 = true)
    · subst c12
      (rw [if_pos rfl] at H); (simp only [Option.some.injEq, Prod.mk.injEq] at H); (obtain ⟨rfl, rfl⟩ := H); (go_wp2); (go_ret2); (exact ⟨rv_, bl_ HB⟩)
    · replace c12 := Bool.eq_false_iff.mpr c12
      subst c12; (rw [if_neg Bool.false_ne_true] at H); (simp only [Option.some.injEq, Prod.mk.injEq] at H); (obtain ⟨rfl, rfl⟩ := H); (go_wp2); (go_ret2); (exact ⟨rv_, bl_ HB⟩)
  · rw [if_neg c7] at H
    (obtain ⟨c7b0, c7b1⟩ := eqF_ c7); ((first | rw [c7b0] | rw [c7b1] | (simp only [i64_w, i32_w]; rw [c7b0]) | skip)); (simp only [Option.some.injEq, Prod.mk.injEq] at H); (obtain ⟨rfl, rfl⟩ := H); (go_wp2); (go_ret2); (exact ⟨rv_, bl_ HB⟩)

/-! ### notation_standing: function 32 -/
def notation_standing.f (a0 : Int) (a1 : Int) : Option (Int × Int) := (notation_of.f a0).bind fun bt159 => (if bt159.2 = true then (if a1 < 0 then (some (0, 12)) else (if a1 > 6 then (some (0, 12)) else (if a0 = 4 then (if a1 = 0 then (some (bt159.1, 0)) else (some (0, 12))) else (some (bt159.1, 0))))) else (some (0, 30)))
set_option maxHeartbeats 8000000 in
set_option maxRecDepth 100000 in
theorem notation_standing.calls (a0 : Int) (a1 : Int) (r1 : Int) (r2 : Int) (w : World) (h : notation_standing.f a0 a1 = some (r1, r2)) :
    Calls Tryz.prog 32 #[.int .u8 a0, .int .i64 a1] w fun e w' => e = .returned (.tuple #[sysW r1, .int .i64 r2]) ∧ Drawn0 w w' := by
  have H : ((notation_of.f a0).bind fun bt159 => (if bt159.2 = true then (if a1 < 0 then (some (0, 12)) else (if a1 > 6 then (some (0, 12)) else (if a0 = 4 then (if a1 = 0 then (some (bt159.1, 0)) else (some (0, 12))) else (some (bt159.1, 0))))) else (some (0, 30)))) = some (r1, r2) := h
  clear h
  replace H := Option.bind_eq_some_iff.mp H
  obtain ⟨⟨t159, t160⟩, A30, H⟩ := H
  try dsimp only at H
  have A3 := Aside0.mk A30
  clear A30
  have HC4 := Aside0.mk H
  clear H
  go_enter Tryz.func32, Tryz.ntmps32
  go_upto_if 14 with (first | ((with_reducible refine gate_callee (f := 21) rfl ?_); refine cl_ 21 (some 10) Tryz.func21 (notation_of.calls a0 t159 t160 _ A3.out) ?_; rintro e w' ⟨rfl, ⟨nd, rfl⟩⟩; refine ⟨_, rfl, ?_⟩))
  (try simp only [Act.put, List.setIfInBounds_toArray, List.set_cons_zero, List.set_cons_succ])
  have H := HC4.out
  clear HC4
  by_cases c5 : t160 = true
  · subst c5
    (rw [if_pos rfl] at H); (by_cases c6 : a1 < 0)
    · rw [if_pos c6] at H
      (have c6b0 := decide_eq_true c6); clear c6; ((first | rw [c6b0] | (simp only [i64_w, i32_w]; rw [c6b0]) | skip)); (simp only [Option.some.injEq, Prod.mk.injEq] at H); (obtain ⟨rfl, rfl⟩ := H); (go_wp2); (go_ret2); (exact ⟨rs_, dr_⟩)
    · rw [if_neg c6] at H
      (have c6b0 := decide_eq_false c6); clear c6; ((first | rw [c6b0] | (simp only [i64_w, i32_w]; rw [c6b0]) | skip)); (by_cases c7 : a1 > 6)
      · rw [if_pos c7] at H
        (have c7b0 : decide (6 < a1) = true := decide_eq_true c7); clear c7; (simp only [Option.some.injEq, Prod.mk.injEq] at H); (obtain ⟨rfl, rfl⟩ := H); (go_wp2); (go_ret2); (exact ⟨rs_, dr_⟩)
      · rw [if_neg c7] at H
        (have c7b0 : decide (6 < a1) = false := decide_eq_false c7); clear c7; (by_cases c8 : a0 = 4)
        · rw [if_pos c8] at H
          (obtain ⟨c8b0, c8b1⟩ := eqT_ c8); clear c8; (by_cases c9 : a1 = 0)
          · rw [if_pos c9] at H
            (obtain ⟨c9b0, c9b1⟩ := eqT_ c9); clear c9; (simp only [Option.some.injEq, Prod.mk.injEq] at H); (obtain ⟨rfl, rfl⟩ := H); (go_wp2); (go_ret2); (exact ⟨rs_, dr_⟩)
          · rw [if_neg c9] at H
            (obtain ⟨c9b0, c9b1⟩ := eqF_ c9); (simp only [Option.some.injEq, Prod.mk.injEq] at H); (obtain ⟨rfl, rfl⟩ := H); (go_wp2); (go_ret2); (exact ⟨rs_, dr_⟩)
        · rw [if_neg c8] at H
          (obtain ⟨c8b0, c8b1⟩ := eqF_ c8); (simp only [Option.some.injEq, Prod.mk.injEq] at H); (obtain ⟨rfl, rfl⟩ := H); (go_wp2); (go_ret2); (exact ⟨rs_, dr_⟩)
  · replace c5 := Bool.eq_false_iff.mpr c5
    subst c5; (rw [if_neg Bool.false_ne_true] at H); (simp only [Option.some.injEq, Prod.mk.injEq] at H); (obtain ⟨rfl, rfl⟩ := H); (go_wp2); (go_ret2); (exact ⟨rs_, dr_⟩)

/-! ### notation_stands: function 33 -/
def notation_stands.f (a0 : Int) (a1 : Int) (a2 : Int) : Option (Bool) := if a2 > 0 then (some (a1 == a2)) else (if a0 = 4 then (some true) else (some (decide (a1 > 6))))
set_option maxHeartbeats 8000000 in
set_option maxRecDepth 100000 in
theorem notation_stands.calls (a0 : Int) (a1 : Int) (a2 : Int) (r : Bool) (w : World) (h : notation_stands.f a0 a1 a2 = some r) :
    Calls Tryz.prog 33 #[.int .u8 a0, .int .i64 a1, .int .i64 a2] w fun e w' => e = .returned (.bool r) ∧ Drawn0 w w' := by
  have H : (if a2 > 0 then (some (a1 == a2)) else (if a0 = 4 then (some true) else (some (decide (a1 > 6))))) = some r := h
  clear h
  by_cases c4 : a2 > 0
  · rw [if_pos c4] at H
    (have c4b0 : decide (0 < a2) = true := decide_eq_true c4); clear c4; (obtain rfl := Option.some.inj H); (go_enter Tryz.func33, Tryz.ntmps33); (go_wp2); (go_ret); (exact ⟨rs_, dr_⟩)
  · rw [if_neg c4] at H
    (have c4b0 : decide (0 < a2) = false := decide_eq_false c4); clear c4; (by_cases c5 : a0 = 4)
    · rw [if_pos c5] at H
      (obtain ⟨c5b0, c5b1⟩ := eqT_ c5); clear c5; (obtain rfl := Option.some.inj H); (go_enter Tryz.func33, Tryz.ntmps33); (go_wp2); (go_ret); (exact ⟨rs_, dr_⟩)
    · rw [if_neg c5] at H
      (obtain ⟨c5b0, c5b1⟩ := eqF_ c5); (obtain rfl := Option.some.inj H); (go_enter Tryz.func33, Tryz.ntmps33); (go_wp2); (go_ret); (exact ⟨rs_, dr_⟩)

/-! ### notation_Place: function 18 -/
mutual
def notation_Place.l0 : Nat → Int → Int → ByteArray → Int → Int → Option (Int × Int × Int)
  | 0, _, _, _, _, _ => none
  | k + 1, x0, x1, x2, x8, x10 => if x10 ≤ 14 then (notation_Place.l1 k x0 x1 x2 x8 x10 0) else (some (0, 0, 4))
def notation_Place.l1 : Nat → Int → Int → ByteArray → Int → Int → Int → Option (Int × Int × Int)
  | 0, _, _, _, _, _, _ => none
  | k + 1, x0, x1, x2, x8, x10, x11 => if x11 ≤ 18 then ((notation_stands.f x0 x10 x1).bind fun t171 => (notation_Place.j2 k x0 x1 x2 x8 x10 x11 t171)) else (notation_Place.j2 k x0 x1 x2 x8 x10 x11 false)
def notation_Place.j2 : Nat → Int → Int → ByteArray → Int → Int → Int → Bool → Option (Int × Int × Int)
  | 0, _, _, _, _, _, _, _ => none
  | k + 1, x0, x1, x2, x8, x10, x11, x36 => if x36 = true then ((dyn_notation_symbol.f k x8 x10 x11).bind fun bt173 => (if bt173.2 = true then (if bt173.1.toList = x2.toList then (some (x10, x11, 0)) else (notation_Place.l1 k x0 x1 x2 x8 x10 (wrap64 (x11 + 1)))) else (notation_Place.l1 k x0 x1 x2 x8 x10 (wrap64 (x11 + 1))))) else (notation_Place.l0 k x0 x1 x2 x8 (wrap64 (x10 + 1)))
end
def notation_Place.f (k : Nat) (a0 : Int) (a1 : Int) (a2 : ByteArray) : Option (Int × Int × Int) := (notation_standing.f a0 a1).bind fun bt169 => (if bt169.2 = 0 then (notation_Place.l0 k a0 a1 a2 bt169.1 1) else (some (0, 0, bt169.2)))
theorem notation_Place.mono_l : ∀ k, (∀ y0 y1 y2 y3 y4, LeO (notation_Place.l0 k y0 y1 y2 y3 y4) (notation_Place.l0 (k + 1) y0 y1 y2 y3 y4)) ∧ (∀ y0 y1 y2 y3 y4 y5, LeO (notation_Place.l1 k y0 y1 y2 y3 y4 y5) (notation_Place.l1 (k + 1) y0 y1 y2 y3 y4 y5)) ∧ (∀ y0 y1 y2 y3 y4 y5 y6, LeO (notation_Place.j2 k y0 y1 y2 y3 y4 y5 y6) (notation_Place.j2 (k + 1) y0 y1 y2 y3 y4 y5 y6))
  | 0 => ⟨fun _ _ _ _ _ r h => by simp [notation_Place.l0] at h, fun _ _ _ _ _ _ r h => by simp [notation_Place.l1] at h, fun _ _ _ _ _ _ _ r h => by simp [notation_Place.j2] at h⟩
  | k + 1 => by
    ((obtain ⟨ih0, ih1, ih2⟩ := notation_Place.mono_l k); (refine ⟨?_, ?_, ?_⟩)); (focus intro y0 y1 y2 y3 y4; (unfold notation_Place.l0); (repeat' first | (with_reducible first | apply ih0 | apply ih1 | apply ih2 | apply dyn_notation_symbol.mono | exact LeO.refl _ | exact LeO.none _ | refine LeO.ite ?_ ?_ | refine LeO.bind ?_ fun _ => ?_) | exact LeO.none _ | refine LeO.ite ?_ ?_ | refine LeO.bind ?_ fun _ => ?_ | apply ih0 | apply ih1 | apply ih2 | apply dyn_notation_symbol.mono)); (focus intro y0 y1 y2 y3 y4 y5; (unfold notation_Place.l1); (repeat' first | (with_reducible first | apply ih0 | apply ih1 | apply ih2 | apply dyn_notation_symbol.mono | exact LeO.refl _ | exact LeO.none _ | refine LeO.ite ?_ ?_ | refine LeO.bind ?_ fun _ => ?_) | exact LeO.none _ | refine LeO.ite ?_ ?_ | refine LeO.bind ?_ fun _ => ?_ | apply ih0 | apply ih1 | apply ih2 | apply dyn_notation_symbol.mono)); (focus intro y0 y1 y2 y3 y4 y5 y6; (unfold notation_Place.j2); (repeat' first | (with_reducible first | apply ih0 | apply ih1 | apply ih2 | apply dyn_notation_symbol.mono | exact LeO.refl _ | exact LeO.none _ | refine LeO.ite ?_ ?_ | refine LeO.bind ?_ fun _ => ?_) | exact LeO.none _ | refine LeO.ite ?_ ?_ | refine LeO.bind ?_ fun _ => ?_ | apply ih0 | apply ih1 | apply ih2 | apply dyn_notation_symbol.mono))
theorem notation_Place.mono : ∀ a0 a1 a2 k, LeO (notation_Place.f k a0 a1 a2) (notation_Place.f (k + 1) a0 a1 a2) := by
  intro a0 a1 a2 k
  obtain ⟨ih0, ih1, ih2⟩ := notation_Place.mono_l k
  unfold notation_Place.f
  repeat' first | (with_reducible first | apply ih0 | apply ih1 | apply ih2 | apply dyn_notation_symbol.mono | exact LeO.refl _ | exact LeO.none _ | refine LeO.ite ?_ ?_ | refine LeO.bind ?_ fun _ => ?_) | exact LeO.none _ | refine LeO.ite ?_ ?_ | refine LeO.bind ?_ fun _ => ?_ | apply ih0 | apply ih1 | apply ih2 | apply dyn_notation_symbol.mono
set_option maxHeartbeats 8000000 in
set_option maxRecDepth 100000 in
theorem notation_Place.calls (k : Nat) (a0 : Int) (a1 : Int) (a2 : ByteArray) (r1 : Int) (r2 : Int) (r3 : Int) (w : World) (h : notation_Place.f k a0 a1 a2 = some (r1, r2, r3)) :
    Calls Tryz.prog 18 #[.int .u8 a0, .int .i64 a1, .string a2] w fun e w' => e = .returned (.tuple #[.agg #[.int .i64 r1, .int .i64 r2], .int .i64 r3]) ∧ Below w.heap.size w w' := by
  have hu49 := Tryz.underlying49
  have HB := Aside0.mk (Below.refl w.heap.size w)
  have H : ((notation_standing.f a0 a1).bind fun bt169 => (if bt169.2 = 0 then (notation_Place.l0 k a0 a1 a2 bt169.1 1) else (some (0, 0, bt169.2)))) = some (r1, r2, r3) := h
  clear h
  replace H := Option.bind_eq_some_iff.mp H
  obtain ⟨⟨t169, t170⟩, A40, H⟩ := H
  try dsimp only at H
  have A4 := Aside0.mk A40
  clear A40
  have HC5 := Aside0.mk H
  clear H
  go_enter Tryz.func18, Tryz.ntmps18
  go_upto_if 22 with (first | (refine bx_ 6 #[.int .i64 0, .int .i64 0] 49 HB ?_; clear HB; intro gb168 w6 hg hb BK168 HB GW168; have GE168 := GW168; clear hg hb) | ((with_reducible refine gate_callee (f := 32) rfl ?_); refine cl_ 32 (some 18) Tryz.func32 (notation_standing.calls a0 a1 t169 t170 _ A4.out) ?_; rintro e w' ⟨rfl, ⟨nd, rfl⟩⟩; refine ⟨_, rfl, ?_⟩))
  (try simp only [Act.put, List.setIfInBounds_toArray, List.set_cons_zero, List.set_cons_succ])
  have H := HC5.out
  clear HC5
  by_cases c7 : t170 = 0
  · rw [if_pos c7] at H
    (obtain ⟨c7b0, c7b1⟩ := eqT_ c7); clear c7; ((first | rw [c7b0] | rw [c7b1] | (simp only [i64_w, i32_w]; rw [c7b0]) | skip)); (have H' := Aside0.mk H); clear H; (go_wp2); (go_loopg [10] k (fun kq v10 w' => ∃ (x10_1 : Int) (x169000_1 : Int) (x169001_1 : Int), v10 = .int .i64 x10_1 ∧ Aside0 (notation_Place.l0 kq a0 a1 a2 t169 x10_1 = some (r1, r2, r3)) ∧ Aside0 (kq ≤ k) ∧ Aside0 (w'.heap[gb168]? = some (.cells #[.int .i64 x169000_1, .int .i64 x169001_1] 49 (0, 0))) ∧ Aside0 (Below w.heap.size w w')))
    case atStart => exact ⟨(1), (0), (0), (rs_), H', ⟨Nat.le_refl _⟩, ⟨bk_ BK168⟩, ⟨bl_ HB⟩⟩
    case round =>
      clear H'; (try clear c7b0 c7b1); (obtain ⟨x10_1, x169000_1, x169001_1, rfl, HA, HK1, BK168, HB⟩ := hrel)
      cases gk with
      | zero => exact absurd HA.out (by simp [notation_Place.l0])
      | succ k1 =>
        (have H := HA.out); clear HA; (simp only [notation_Place.l0] at H); (by_cases c8 : x10_1 ≤ 14)
        · rw [if_pos c8] at H
          (have c8b0 := decide_eq_true c8); clear c8; (have H' := Aside0.mk H); clear H; (go_wp2); (go_loopg [11] k1 (fun kq v11 w' => ∃ (x11_2 : Int) (x169000_2 : Int) (x169001_2 : Int), v11 = .int .i64 x11_2 ∧ Aside0 (notation_Place.l1 kq a0 a1 a2 t169 x10_1 x11_2 = some (r1, r2, r3)) ∧ Aside0 (kq ≤ k1) ∧ Aside0 (w'.heap[gb168]? = some (.cells #[.int .i64 x169000_2, .int .i64 x169001_2] 49 (0, 0))) ∧ Aside0 (Below w.heap.size w w')))
          case atStart => exact ⟨(0), (x169000_1), (x169001_1), (rs_), H', ⟨Nat.le_refl _⟩, ⟨bk_ BK168⟩, ⟨bl_ HB⟩⟩
          case round =>
            clear H'; (try clear c8b0); (obtain ⟨x11_2, x169000_2, x169001_2, rfl, HA, HK2, BK168, HB⟩ := hrel)
            cases gk with
            | zero => exact absurd HA.out (by simp [notation_Place.l1])
            | succ k2 =>
              (have H := HA.out); clear HA; (simp only [notation_Place.l1] at H); (have HC9 := Aside0.mk H); clear H; (go_upto_region 8 with (fail)); (go_cut [36] (fun v36 wc => ∃ (kq : Nat) (x36_8 : Bool), v36 = .bool x36_8 ∧ Aside0 (notation_Place.j2 kq a0 a1 a2 t169 x10_1 x11_2 x36_8 = some (r1, r2, r3)) ∧ Aside0 (kq ≤ k2) ∧ Aside0 (wc.heap[gb168]? = some (.cells #[.int .i64 x169000_2, .int .i64 x169001_2] 49 (0, 0))) ∧ Aside0 (Below w.heap.size w wc)))
              case first =>
                (have H := HC9.out); clear HC9; (by_cases c10 : x11_2 ≤ 18)
                · rw [if_pos c10] at H
                  (have c10b0 := decide_eq_true c10); clear c10; ((first | rw [c10b0] | (simp only [i64_w, i32_w]; rw [c10b0]) | skip)); (replace H := Option.bind_eq_some_iff.mp H); (obtain ⟨t171, A110, H⟩ := H); (try dsimp only at H); (have A11 := Aside0.mk A110); clear A110; (have H' := Aside0.mk H); clear H; (go_wp2_with (first | (go_at_call 33; (with_reducible refine (notation_stands.calls a0 x10_1 a1 t171 _ A11.out).mono ?_); rintro e w' ⟨rfl, ⟨nd, rfl⟩⟩))); (go_meet)
                  case rel => exact ⟨_, (t171), (rs_), H', ⟨by have := HK1.out; have := HK2.out; first | omega | exact Nat.le_refl _⟩, ⟨bk_ BK168⟩, ⟨bl_ HB⟩⟩
                · rw [if_neg c10] at H
                  (have c10b0 := decide_eq_false c10); clear c10; ((first | rw [c10b0] | (simp only [i64_w, i32_w]; rw [c10b0]) | skip)); (have H' := Aside0.mk H); clear H; (go_wp2); (go_meet)
                  case rel => exact ⟨_, (false), (rs_), H', ⟨by have := HK1.out; have := HK2.out; first | omega | exact Nat.le_refl _⟩, ⟨bk_ BK168⟩, ⟨bl_ HB⟩⟩
              case rest =>
                clear HC9; (obtain ⟨kq, x36_8, rfl, HA, HJ8, BK168, HB⟩ := hcut)
                cases kq with
                | zero => exact absurd HA.out (by simp [notation_Place.j2])
                | succ kj8 =>
                  (have H := HA.out); clear HA; (simp only [notation_Place.j2] at H); (by_cases c12 : x36_8 = true)
                  · subst c12
                    (rw [if_pos rfl] at H); (replace H := Option.bind_eq_some_iff.mp H); (obtain ⟨⟨t173, t174⟩, A130, H⟩ := H); (try dsimp only at H); (have A13 := Aside0.mk A130); clear A130; (by_cases c14 : t174 = true)
                    · subst c14
                      (rw [if_pos rfl] at H); (have HC15 := Aside0.mk H); clear H; (go_upto_if 53 with (first | (refine bx_ 12 #[.int .i64 0, .int .i64 0] 49 HB ?_; clear HB; intro gb172 w16 hg hb BK172 HB GW172; have GE172 := GW172; have NB168_172 := nl_ BK168 hg; have NB172_168 := ng_ BK168 hg; replace BK168 := bb_ BK168 hb; clear hg hb; have hnb17 := NB172_168.out; have hnc17 := NB168_172.out; have hcz18 := blk_cell BK172.out; have hfz18 := blk_frozen BK172.out) | ((with_reducible refine gate_invoke_ (m := "theorbo/notation.symbol") rfl ?_); refine goesI_ (some 45) rfl rfl (sysW t169) #[.agg #[.int .i64 x10_1, .int .i64 x11_2]] rfl (by rfl) (by (try simp only [mA_, mB_, mC_]); first | done | rfl | (simp only [List.length_drop, List.length_take]; rfl)) ?_; (with_reducible refine (dyn_notation_symbol.calls kj8 t169 x10_1 x11_2 t173 true _ A13.out).mono ?_); rintro e w19 ⟨rfl, hb⟩; refine ⟨_, rfl, ?_⟩; replace BK168 := bb_ BK168 hb; replace BK172 := Aside0.mk (blk_below (g := gb172) (o := .cells #[.int .i64 x10_1, .int .i64 x11_2] 49 (0, 0)) (bk_ BK172) hb); replace HB := bs_ HB hb; (try clear hb); (try clear hb2); (try clear hk); (try clear hi)))); ((try simp only [Act.put, List.setIfInBounds_toArray, List.set_cons_zero, List.set_cons_succ])); (have H := HC15.out); clear HC15; (by_cases c20 : t173.toList = a2.toList)
                      · rw [if_pos c20] at H
                        (have c20b0 : (t173.toList == a2.toList) = true := beq_iff_eq.mpr c20); (have c20b1 : (t173.toList != a2.toList) = false := bne_eq_false_iff_eq.mpr c20); clear c20; ((first | rw [c20b0] | rw [c20b1] | (simp only [i64_w, i32_w]; rw [c20b0]) | skip)); (simp only [Option.some.injEq, Prod.mk.injEq] at H); (obtain ⟨rfl, rfl, rfl⟩ := H); (have hnb21 := NB172_168.out); (have hnc21 := NB168_172.out); (have hcz22 := blk_cell BK172.out); (have hfz22 := blk_frozen BK172.out); (have hcz23 := blk_cell BK168.out); (have hfz23 := blk_frozen BK168.out); (go_wp2); (refine bodyPost_ret (results_ct rfl _ _ gb168 49 #[.int .i64 x10_1, .int .i64 x11_2] (0, 0) _ rfl (bk_ BK168) Tryz.underlying49 rfl (by kernel_rfl)) rfl ?_); (exact ⟨rv_, bl_ HB⟩)
                      · rw [if_neg c20] at H
                        (have c20b0 : (t173.toList == a2.toList) = false := beq_eq_false_iff_ne.mpr c20); (have c20b1 : (t173.toList != a2.toList) = true := bne_iff_ne.mpr c20); ((first | rw [c20b0] | rw [c20b1] | (simp only [i64_w, i32_w]; rw [c20b0]) | skip)); (have H' := Aside0.mk H); clear H; (go_wp2); (go_roundg kj8)
                        case measure => have := HK1.out; have := HK2.out; have := HJ8.out; omega
                        case rel => exact ⟨(wrap64 (x11_2 + 1)), (x169000_2), (x169001_2), (rs_), H', ⟨by have := HK1.out; have := HK2.out; have := HJ8.out; omega⟩, ⟨bk_ BK168⟩, ⟨bl_ HB⟩⟩
                    · replace c14 := Bool.eq_false_iff.mpr c14
                      subst c14; (rw [if_neg Bool.false_ne_true] at H); (have H' := Aside0.mk H); clear H; (go_wp2_with (first | (refine bx_ 12 #[.int .i64 0, .int .i64 0] 49 HB ?_; clear HB; intro gb172 w24 hg hb BK172 HB GW172; have GE172 := GW172; have NB168_172 := nl_ BK168 hg; have NB172_168 := ng_ BK168 hg; replace BK168 := bb_ BK168 hb; clear hg hb; have hnb25 := NB172_168.out; have hnc25 := NB168_172.out; have hcz26 := blk_cell BK172.out; have hfz26 := blk_frozen BK172.out) | ((with_reducible refine gate_invoke_ (m := "theorbo/notation.symbol") rfl ?_); refine goesI_ (some 45) rfl rfl (sysW t169) #[.agg #[.int .i64 x10_1, .int .i64 x11_2]] rfl (by rfl) (by (try simp only [mA_, mB_, mC_]); first | done | rfl | (simp only [List.length_drop, List.length_take]; rfl)) ?_; (with_reducible refine (dyn_notation_symbol.calls kj8 t169 x10_1 x11_2 t173 false _ A13.out).mono ?_); rintro e w27 ⟨rfl, hb⟩; refine ⟨_, rfl, ?_⟩; replace BK168 := bb_ BK168 hb; replace BK172 := Aside0.mk (blk_below (g := gb172) (o := .cells #[.int .i64 x10_1, .int .i64 x11_2] 49 (0, 0)) (bk_ BK172) hb); replace HB := bs_ HB hb; (try clear hb); (try clear hb2); (try clear hk); (try clear hi)))); (go_roundg kj8)
                      case measure => have := HK1.out; have := HK2.out; have := HJ8.out; omega
                      case rel => exact ⟨(wrap64 (x11_2 + 1)), (x169000_2), (x169001_2), (rs_), H', ⟨by have := HK1.out; have := HK2.out; have := HJ8.out; omega⟩, ⟨bk_ BK168⟩, ⟨bl_ HB⟩⟩
                  · replace c12 := Bool.eq_false_iff.mpr c12
                    subst c12; (rw [if_neg Bool.false_ne_true] at H); (have H' := Aside0.mk H); clear H; (go_wp2); (go_roundg kj8)
                    case measure => have := HK1.out; have := HK2.out; have := HJ8.out; omega
                    case rel => exact ⟨(wrap64 (x10_1 + 1)), (x169000_2), (x169001_2), (rs_), H', ⟨by have := HK1.out; have := HK2.out; have := HJ8.out; omega⟩, ⟨bk_ BK168⟩, ⟨bl_ HB⟩⟩
        · rw [if_neg c8] at H
          (have c8b0 := decide_eq_false c8); clear c8; (simp only [Option.some.injEq, Prod.mk.injEq] at H); (obtain ⟨rfl, rfl, rfl⟩ := H); (have hcz28 := blk_cell BK168.out); (have hfz28 := blk_frozen BK168.out); (go_wp2); (refine bodyPost_ret (results_ct rfl _ _ gb168 49 #[.int .i64 0, .int .i64 0] (0, 0) _ rfl (bk_ BK168) Tryz.underlying49 rfl (by kernel_rfl)) rfl ?_); (exact ⟨rv_, bl_ HB⟩)
  · rw [if_neg c7] at H
    (obtain ⟨c7b0, c7b1⟩ := eqF_ c7); ((first | rw [c7b0] | rw [c7b1] | (simp only [i64_w, i32_w]; rw [c7b0]) | skip)); (simp only [Option.some.injEq, Prod.mk.injEq] at H); (obtain ⟨rfl, rfl, rfl⟩ := H); (have hcz29 := blk_cell BK168.out); (have hfz29 := blk_frozen BK168.out); (go_wp2); (refine bodyPost_ret (results_ct rfl _ _ gb168 49 #[.int .i64 0, .int .i64 0] (0, 0) _ rfl (bk_ BK168) Tryz.underlying49 rfl (by kernel_rfl)) rfl ?_); (exact ⟨rv_, bl_ HB⟩)

end Go.Proofs.YtocpcofihlcnoaaGreat.PNL
