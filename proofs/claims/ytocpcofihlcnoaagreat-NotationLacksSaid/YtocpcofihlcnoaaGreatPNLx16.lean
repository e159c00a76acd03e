-- made by xprint.py (ours) out of the translation
import Derived.Test.YtocpcofihlcnoaaGreatPNLx0
import Derived.Test.YtocpcofihlcnoaaGreatPNLx1
import Derived.Test.YtocpcofihlcnoaaGreatPNLx3
import Derived.Test.YtocpcofihlcnoaaGreatPNLx5
import Derived.Test.YtocpcofihlcnoaaGreatPNLx10
import Derived.Test.YtocpcofihlcnoaaGreatPNLx15
namespace Go.Proofs.YtocpcofihlcnoaaGreat.PNL
open Go.RowKit Go.Proofs.YtocpcofihlcnoaaGreatW.PrintWords Go.Proofs.YtocpcofihlcnoaaGreatW.PrintLast Go.Proofs.YtocpcofihlcnoaaGreatW.PrintMore
attribute [local go_sem] max2_int min2_int max_two min_two max_three min_three max_four min_four   -- for this text's walks alone
set_option linter.unusedVariables false
set_option linter.unusedSimpArgs false

attribute [local go_sem high] eqA43 eqA54 eqA99
/-! ### notation_Can: function 11 -/
def notation_Can.f (k : Nat) (a0 : Int) (l1_0 : List (S99)) (l1_1 : List Int) (l1_2 : List (S46)) : Option (Bool) := (notation_Lacks.f k a0 l1_0 l1_1 l1_2).bind fun bt668 => (if bt668.2 = 0 then (some ((bt668.1.length : Int) == 0)) else (some false))
theorem notation_Can.mono : ∀ a0 a1 a2 a3 k, LeO (notation_Can.f k a0 a1 a2 a3) (notation_Can.f (k + 1) a0 a1 a2 a3) := by
  intro a0 a1 a2 a3 k
  unfold notation_Can.f
  repeat' first | (with_reducible first | apply notation_Lacks.mono | exact LeO.refl _ | exact LeO.none _ | refine LeO.ite ?_ ?_ | refine LeO.bind ?_ fun _ => ?_) | exact LeO.none _ | refine LeO.ite ?_ ?_ | refine LeO.bind ?_ fun _ => ?_ | apply notation_Lacks.mono
set_option maxHeartbeats 8000000 in
set_option maxRecDepth 100000 in
theorem notation_Can.calls (k : Nat) (a0 : Int) (A1_0 : Option Addr) (c1_0 : Nat) (l1_0 : List (S99)) (A1_1 : Option Addr) (c1_1 : Nat) (l1_1 : List Int) (A1_2 : Option Addr) (c1_2 : Nat) (l1_2 : List (S46)) (r : Bool) (w : World) (hr1_0 : Kd.C k99 w A1_0 l1_0.length l1_0) (hc1_0 : l1_0.length ≤ c1_0) (hr1_1 : Kd.C (Kd.int .i64) w A1_1 l1_1.length l1_1) (hc1_1 : l1_1.length ≤ c1_1) (hr1_2 : Kd.C k46 w A1_2 l1_2.length l1_2) (hc1_2 : l1_2.length ≤ c1_2) (h : notation_Can.f k a0 l1_0 l1_1 l1_2 = some r) :
    Calls Tryz.prog 11 #[.int .u8 a0, .agg #[.slice A1_0 l1_0.length c1_0, .slice A1_1 l1_1.length c1_1, .slice A1_2 l1_2.length c1_2]] w fun e w' => e = .returned (.bool r) ∧ Below w.heap.size w w' := by
  have hu29 := Tryz.underlying29
  have HR1_0 := Aside0.mk hr1_0
  have HC1_0 := Aside0.mk hc1_0
  clear hr1_0 hc1_0
  have HR1_1 := Aside0.mk hr1_1
  have HC1_1 := Aside0.mk hc1_1
  clear hr1_1 hc1_1
  have HR1_2 := Aside0.mk hr1_2
  have HC1_2 := Aside0.mk hc1_2
  clear hr1_2 hc1_2
  have HB := Aside0.mk (Below.refl w.heap.size w)
  have H : ((notation_Lacks.f k a0 l1_0 l1_1 l1_2).bind fun bt668 => (if bt668.2 = 0 then (some ((bt668.1.length : Int) == 0)) else (some false))) = some r := h
  clear h
  replace H := Option.bind_eq_some_iff.mp H
  obtain ⟨⟨t668, t671⟩, A30, H⟩ := H
  try dsimp only at H
  have A3 := Aside0.mk A30
  clear A30
  by_cases c4 : t671 = 0
  · rw [if_pos c4] at H
    (obtain ⟨c4b0, c4b1⟩ := eqT_ c4); clear c4; (obtain rfl := Option.some.inj H); (go_enter Tryz.func11, Tryz.ntmps11); (go_wp2_with (first | ((with_reducible refine gate_dst (N := 3) rfl ?_); (try (refine gate_guard (by rfl) ?_; dsimp only)); refine bx_ 3 #[.slice A1_0 l1_0.length c1_0, .slice A1_1 l1_1.length c1_1, .slice A1_2 l1_2.length c1_2] 29 HB ?_; clear HB; intro gb667 w5 hg hb BK667 HB GW667; have GE667 := GW667; clear hg hb; have hcz6 := blk_cell BK667.out; have hfz6 := blk_frozen BK667.out) | ((with_reducible refine gate_callee (f := 8) rfl ?_); refine cl_ 8 (some 10) Tryz.func8 (notation_Lacks.calls k a0 _ _ l1_0 _ _ l1_1 _ _ l1_2 t668 t671 _ (kc_ HR1_0 HB) HC1_0.out (kc_ HR1_1 HB) HC1_1.out (kc_ HR1_2 HB) HC1_2.out A3.out) ?_; rintro e w7 ⟨v669, rfl, ho0, hb⟩; refine ⟨_, rfl, ?_⟩; have HO670 := rl_ ho0 HB; replace BK667 := bb_ BK667 hb; replace HB := bs_ HB hb; (try clear hb); (try clear hb2); (try clear hk); (try clear hi); (try clear ho0); obtain ⟨Ao8, co8, eo8⟩ := Kd.R_slice HO670.out; subst eo8))); (go_ret); (exact ⟨rv_, bl_ HB⟩)
  · rw [if_neg c4] at H
    (obtain ⟨c4b0, c4b1⟩ := eqF_ c4); (obtain rfl := Option.some.inj H); (go_enter Tryz.func11, Tryz.ntmps11); (go_wp2_with (first | ((with_reducible refine gate_dst (N := 3) rfl ?_); (try (refine gate_guard (by rfl) ?_; dsimp only)); refine bx_ 3 #[.slice A1_0 l1_0.length c1_0, .slice A1_1 l1_1.length c1_1, .slice A1_2 l1_2.length c1_2] 29 HB ?_; clear HB; intro gb667 w9 hg hb BK667 HB GW667; have GE667 := GW667; clear hg hb; have hcz10 := blk_cell BK667.out; have hfz10 := blk_frozen BK667.out) | ((with_reducible refine gate_callee (f := 8) rfl ?_); refine cl_ 8 (some 10) Tryz.func8 (notation_Lacks.calls k a0 _ _ l1_0 _ _ l1_1 _ _ l1_2 t668 t671 _ (kc_ HR1_0 HB) HC1_0.out (kc_ HR1_1 HB) HC1_1.out (kc_ HR1_2 HB) HC1_2.out A3.out) ?_; rintro e w11 ⟨v669, rfl, ho0, hb⟩; refine ⟨_, rfl, ?_⟩; have HO670 := rl_ ho0 HB; replace BK667 := bb_ BK667 hb; replace HB := bs_ HB hb; (try clear hb); (try clear hb2); (try clear hk); (try clear hi); (try clear ho0)))); (go_ret); (exact ⟨rv_, bl_ HB⟩)

/-! ### theorboref03_Can: function 12 -/
def theorboref03_Can.f (k : Nat) (a0 : Int) (l1_0 : List (S99)) (l1_1 : List Int) (l1_2 : List (S46)) : Option (Bool) := (theorboref03_Lacks.f k a0 l1_0 l1_1 l1_2).bind fun bt678 => (if bt678.2 = 0 then (some ((bt678.1.length : Int) == 0)) else (some false))
theorem theorboref03_Can.mono : ∀ a0 a1 a2 a3 k, LeO (theorboref03_Can.f k a0 a1 a2 a3) (theorboref03_Can.f (k + 1) a0 a1 a2 a3) := by
  intro a0 a1 a2 a3 k
  unfold theorboref03_Can.f
  repeat' first | (with_reducible first | apply theorboref03_Lacks.mono | exact LeO.refl _ | exact LeO.none _ | refine LeO.ite ?_ ?_ | refine LeO.bind ?_ fun _ => ?_) | exact LeO.none _ | refine LeO.ite ?_ ?_ | refine LeO.bind ?_ fun _ => ?_ | apply theorboref03_Lacks.mono
set_option maxHeartbeats 8000000 in
set_option maxRecDepth 100000 in
theorem theorboref03_Can.calls (k : Nat) (a0 : Int) (A1_0 : Option Addr) (c1_0 : Nat) (l1_0 : List (S99)) (A1_1 : Option Addr) (c1_1 : Nat) (l1_1 : List Int) (A1_2 : Option Addr) (c1_2 : Nat) (l1_2 : List (S46)) (r : Bool) (w : World) (hr1_0 : Kd.C k99 w A1_0 l1_0.length l1_0) (hc1_0 : l1_0.length ≤ c1_0) (hr1_1 : Kd.C (Kd.int .i64) w A1_1 l1_1.length l1_1) (hc1_1 : l1_1.length ≤ c1_1) (hr1_2 : Kd.C k46 w A1_2 l1_2.length l1_2) (hc1_2 : l1_2.length ≤ c1_2) (h : theorboref03_Can.f k a0 l1_0 l1_1 l1_2 = some r) :
    Calls Tryz.prog 12 #[.int .u8 a0, .agg #[.slice A1_0 l1_0.length c1_0, .slice A1_1 l1_1.length c1_1, .slice A1_2 l1_2.length c1_2]] w fun e w' => e = .returned (.bool r) ∧ Below w.heap.size w w' := by
  have hu29 := Tryz.underlying29
  have HR1_0 := Aside0.mk hr1_0
  have HC1_0 := Aside0.mk hc1_0
  clear hr1_0 hc1_0
  have HR1_1 := Aside0.mk hr1_1
  have HC1_1 := Aside0.mk hc1_1
  clear hr1_1 hc1_1
  have HR1_2 := Aside0.mk hr1_2
  have HC1_2 := Aside0.mk hc1_2
  clear hr1_2 hc1_2
  have HB := Aside0.mk (Below.refl w.heap.size w)
  have H : ((theorboref03_Lacks.f k a0 l1_0 l1_1 l1_2).bind fun bt678 => (if bt678.2 = 0 then (some ((bt678.1.length : Int) == 0)) else (some false))) = some r := h
  clear h
  replace H := Option.bind_eq_some_iff.mp H
  obtain ⟨⟨t678, t681⟩, A30, H⟩ := H
  try dsimp only at H
  have A3 := Aside0.mk A30
  clear A30
  by_cases c4 : t681 = 0
  · rw [if_pos c4] at H
    (obtain ⟨c4b0, c4b1⟩ := eqT_ c4); clear c4; (obtain rfl := Option.some.inj H); (go_enter Tryz.func12, Tryz.ntmps12); (go_wp2_with (first | ((with_reducible refine gate_dst (N := 3) rfl ?_); (try (refine gate_guard (by rfl) ?_; dsimp only)); refine bx_ 3 #[.slice A1_0 l1_0.length c1_0, .slice A1_1 l1_1.length c1_1, .slice A1_2 l1_2.length c1_2] 29 HB ?_; clear HB; intro gb677 w5 hg hb BK677 HB GW677; have GE677 := GW677; clear hg hb; have hcz6 := blk_cell BK677.out; have hfz6 := blk_frozen BK677.out) | ((with_reducible refine gate_callee (f := 9) rfl ?_); refine cl_ 9 (some 10) Tryz.func9 (theorboref03_Lacks.calls k a0 _ _ l1_0 _ _ l1_1 _ _ l1_2 t678 t681 _ (kc_ HR1_0 HB) HC1_0.out (kc_ HR1_1 HB) HC1_1.out (kc_ HR1_2 HB) HC1_2.out A3.out) ?_; rintro e w7 ⟨v679, rfl, ho0, hb⟩; refine ⟨_, rfl, ?_⟩; have HO680 := rl_ ho0 HB; replace BK677 := bb_ BK677 hb; replace HB := bs_ HB hb; (try clear hb); (try clear hb2); (try clear hk); (try clear hi); (try clear ho0); obtain ⟨Ao8, co8, eo8⟩ := Kd.R_slice HO680.out; subst eo8))); (go_ret); (exact ⟨rv_, bl_ HB⟩)
  · rw [if_neg c4] at H
    (obtain ⟨c4b0, c4b1⟩ := eqF_ c4); (obtain rfl := Option.some.inj H); (go_enter Tryz.func12, Tryz.ntmps12); (go_wp2_with (first | ((with_reducible refine gate_dst (N := 3) rfl ?_); (try (refine gate_guard (by rfl) ?_; dsimp only)); refine bx_ 3 #[.slice A1_0 l1_0.length c1_0, .slice A1_1 l1_1.length c1_1, .slice A1_2 l1_2.length c1_2] 29 HB ?_; clear HB; intro gb677 w9 hg hb BK677 HB GW677; have GE677 := GW677; clear hg hb; have hcz10 := blk_cell BK677.out; have hfz10 := blk_frozen BK677.out) | ((with_reducible refine gate_callee (f := 9) rfl ?_); refine cl_ 9 (some 10) Tryz.func9 (theorboref03_Lacks.calls k a0 _ _ l1_0 _ _ l1_1 _ _ l1_2 t678 t681 _ (kc_ HR1_0 HB) HC1_0.out (kc_ HR1_1 HB) HC1_1.out (kc_ HR1_2 HB) HC1_2.out A3.out) ?_; rintro e w11 ⟨v679, rfl, ho0, hb⟩; refine ⟨_, rfl, ?_⟩; have HO680 := rl_ ho0 HB; replace BK677 := bb_ BK677 hb; replace HB := bs_ HB hb; (try clear hb); (try clear hb2); (try clear hk); (try clear hi); (try clear ho0)))); (go_ret); (exact ⟨rv_, bl_ HB⟩)

/-! ### theorboref01_Same: function 27 -/
mutual
def theorboref01_Same.j0 : Nat → Bool → List (S99) → List Int → List (S99) → List Int → Option (Bool)
  | 0, _, _, _, _, _ => none
  | k + 1, x22, x694000, x694001, x695000, x695001 => if x22 = true then (some false) else (theorboref01_Same.l0 k 0 x694000 x694001 x695000 x695001)
def theorboref01_Same.l0 : Nat → Int → List (S99) → List Int → List (S99) → List Int → Option (Bool)
  | 0, _, _, _, _, _ => none
  | k + 1, x5, x694000, x694001, x695000, x695001 => if x5 < (x694000.length : Int) then (if 0 ≤ x5 then (if x5 < (x695000.length : Int) then (if (!(((rd_T99 x694000 x5).f0) == ((rd_T99 x695000 x5).f0)) || (!(((rd_T99 x694000 x5).f1) == ((rd_T99 x695000 x5).f1)) || (!(((rd_T99 x694000 x5).f2) == ((rd_T99 x695000 x5).f2))))) = true then (some false) else (theorboref01_Same.l0 k (wrap64 (x5 + 1)) x694000 x694001 x695000 x695001)) else (none)) else (none)) else (theorboref01_Same.l1 k 0 x694000 x694001 x695000 x695001)
def theorboref01_Same.l1 : Nat → Int → List (S99) → List Int → List (S99) → List Int → Option (Bool)
  | 0, _, _, _, _, _ => none
  | k + 1, x6, x694000, x694001, x695000, x695001 => if x6 < (x694001.length : Int) then (if 0 ≤ x6 then (if x6 < (x695001.length : Int) then (if (rd x694001 x6) = (rd x695001 x6) then (theorboref01_Same.l1 k (wrap64 (x6 + 1)) x694000 x694001 x695000 x695001) else (some false)) else (none)) else (none)) else (some true)
end
def theorboref01_Same.f (k : Nat) (l0_0 : List (S99)) (l0_1 : List Int) (l1_0 : List (S99)) (l1_1 : List Int) : Option (Bool) := if (l0_0.length : Int) = (l1_0.length : Int) then (theorboref01_Same.j0 k ((l0_1.length : Int) != (l1_1.length : Int)) l0_0 l0_1 l1_0 l1_1) else (theorboref01_Same.j0 k true l0_0 l0_1 l1_0 l1_1)
theorem theorboref01_Same.mono_l : ∀ k, (∀ y0 y1 y2 y3 y4, LeO (theorboref01_Same.j0 k y0 y1 y2 y3 y4) (theorboref01_Same.j0 (k + 1) y0 y1 y2 y3 y4)) ∧ (∀ y0 y1 y2 y3 y4, LeO (theorboref01_Same.l0 k y0 y1 y2 y3 y4) (theorboref01_Same.l0 (k + 1) y0 y1 y2 y3 y4)) ∧ (∀ y0 y1 y2 y3 y4, LeO (theorboref01_Same.l1 k y0 y1 y2 y3 y4) (theorboref01_Same.l1 (k + 1) y0 y1 y2 y3 y4))
  | 0 => ⟨fun _ _ _ _ _ r h => by simp [theorboref01_Same.j0] at h, fun _ _ _ _ _ r h => by simp [theorboref01_Same.l0] at h, fun _ _ _ _ _ r h => by simp [theorboref01_Same.l1] at h⟩
  | k + 1 => by
    ((obtain ⟨ih0, ih1, ih2⟩ := theorboref01_Same.mono_l k); (refine ⟨?_, ?_, ?_⟩)); (focus intro y0 y1 y2 y3 y4; (unfold theorboref01_Same.j0); (repeat' first | (with_reducible first | apply ih0 | apply ih1 | apply ih2 | exact LeO.refl _ | exact LeO.none _ | refine LeO.ite ?_ ?_ | refine LeO.bind ?_ fun _ => ?_) | exact LeO.none _ | refine LeO.ite ?_ ?_ | refine LeO.bind ?_ fun _ => ?_ | apply ih0 | apply ih1 | apply ih2)); (focus intro y0 y1 y2 y3 y4; (unfold theorboref01_Same.l0); (repeat' first | (with_reducible first | apply ih0 | apply ih1 | apply ih2 | exact LeO.refl _ | exact LeO.none _ | refine LeO.ite ?_ ?_ | refine LeO.bind ?_ fun _ => ?_) | exact LeO.none _ | refine LeO.ite ?_ ?_ | refine LeO.bind ?_ fun _ => ?_ | apply ih0 | apply ih1 | apply ih2)); (focus intro y0 y1 y2 y3 y4; (unfold theorboref01_Same.l1); (repeat' first | (with_reducible first | apply ih0 | apply ih1 | apply ih2 | exact LeO.refl _ | exact LeO.none _ | refine LeO.ite ?_ ?_ | refine LeO.bind ?_ fun _ => ?_) | exact LeO.none _ | refine LeO.ite ?_ ?_ | refine LeO.bind ?_ fun _ => ?_ | apply ih0 | apply ih1 | apply ih2))
theorem theorboref01_Same.mono : ∀ a0 a1 a2 a3 k, LeO (theorboref01_Same.f k a0 a1 a2 a3) (theorboref01_Same.f (k + 1) a0 a1 a2 a3) := by
  intro a0 a1 a2 a3 k
  obtain ⟨ih0, ih1, ih2⟩ := theorboref01_Same.mono_l k
  unfold theorboref01_Same.f
  repeat' first | (with_reducible first | apply ih0 | apply ih1 | apply ih2 | exact LeO.refl _ | exact LeO.none _ | refine LeO.ite ?_ ?_ | refine LeO.bind ?_ fun _ => ?_) | exact LeO.none _ | refine LeO.ite ?_ ?_ | refine LeO.bind ?_ fun _ => ?_ | apply ih0 | apply ih1 | apply ih2
set_option maxHeartbeats 8000000 in
set_option maxRecDepth 100000 in
theorem theorboref01_Same.calls (k : Nat) (A0_0 : Option Addr) (c0_0 : Nat) (l0_0 : List (S99)) (A0_1 : Option Addr) (c0_1 : Nat) (l0_1 : List Int) (A1_0 : Option Addr) (c1_0 : Nat) (l1_0 : List (S99)) (A1_1 : Option Addr) (c1_1 : Nat) (l1_1 : List Int) (r : Bool) (w : World) (hr0_0 : Kd.C k99 w A0_0 l0_0.length l0_0) (hc0_0 : l0_0.length ≤ c0_0) (hr0_1 : Kd.C (Kd.int .i64) w A0_1 l0_1.length l0_1) (hc0_1 : l0_1.length ≤ c0_1) (hr1_0 : Kd.C k99 w A1_0 l1_0.length l1_0) (hc1_0 : l1_0.length ≤ c1_0) (hr1_1 : Kd.C (Kd.int .i64) w A1_1 l1_1.length l1_1) (hc1_1 : l1_1.length ≤ c1_1) (h : theorboref01_Same.f k l0_0 l0_1 l1_0 l1_1 = some r) :
    Calls Tryz.prog 27 #[.agg #[.slice A0_0 l0_0.length c0_0, .slice A0_1 l0_1.length c0_1], .agg #[.slice A1_0 l1_0.length c1_0, .slice A1_1 l1_1.length c1_1]] w fun e w' => e = .returned (.bool r) ∧ Below w.heap.size w w' := by
  have hu26 := Tryz.underlying26
  have hu99 := Tryz.underlying99
  have HR0_0 := Aside0.mk hr0_0
  have HC0_0 := Aside0.mk hc0_0
  clear hr0_0 hc0_0
  have HR0_1 := Aside0.mk hr0_1
  have HC0_1 := Aside0.mk hc0_1
  clear hr0_1 hc0_1
  have HR1_0 := Aside0.mk hr1_0
  have HC1_0 := Aside0.mk hc1_0
  clear hr1_0 hc1_0
  have HR1_1 := Aside0.mk hr1_1
  have HC1_1 := Aside0.mk hc1_1
  clear hr1_1 hc1_1
  have HB := Aside0.mk (Below.refl w.heap.size w)
  have H : (if (l0_0.length : Int) = (l1_0.length : Int) then (theorboref01_Same.j0 k ((l0_1.length : Int) != (l1_1.length : Int)) l0_0 l0_1 l1_0 l1_1) else (theorboref01_Same.j0 k true l0_0 l0_1 l1_0 l1_1)) = some r := h
  clear h
  have HC3 := Aside0.mk H
  clear H
  go_enter Tryz.func27, Tryz.ntmps27
  go_upto_region 1 with (first | ((with_reducible refine gate_dst (N := 2) rfl ?_); (try (refine gate_guard (by rfl) ?_; dsimp only)); refine bx_ 2 #[.slice A0_0 l0_0.length c0_0, .slice A0_1 l0_1.length c0_1] 26 HB ?_; clear HB; intro gb693 w4 hg hb BK693 HB GW693; have GE693 := GW693; clear hg hb) | ((with_reducible refine gate_dst (N := 3) rfl ?_); (try (refine gate_guard (by rfl) ?_; dsimp only)); refine bx_ 3 #[.slice A1_0 l1_0.length c1_0, .slice A1_1 l1_1.length c1_1] 26 HB ?_; clear HB; intro gb694 w5 hg hb BK694 HB GW694; have GE694 := GW694; have NB693_694 := nl_ BK693 hg; have NB694_693 := ng_ BK693 hg; replace BK693 := bb_ BK693 hb; clear hg hb))
  repeat (go_quiet (first | ((with_reducible refine gate_dst (N := 2) rfl ?_); (try (refine gate_guard (by rfl) ?_; dsimp only)); refine bx_ 2 #[.slice A0_0 l0_0.length c0_0, .slice A0_1 l0_1.length c0_1] 26 HB ?_; clear HB; intro gb693 w4 hg hb BK693 HB GW693; have GE693 := GW693; clear hg hb) | ((with_reducible refine gate_dst (N := 3) rfl ?_); (try (refine gate_guard (by rfl) ?_; dsimp only)); refine bx_ 3 #[.slice A1_0 l1_0.length c1_0, .slice A1_1 l1_1.length c1_1] 26 HB ?_; clear HB; intro gb694 w5 hg hb BK694 HB GW694; have GE694 := GW694; have NB693_694 := nl_ BK693 hg; have NB694_693 := ng_ BK693 hg; replace BK693 := bb_ BK693 hb; clear hg hb)); go_upto_region 1 with (first | ((with_reducible refine gate_dst (N := 2) rfl ?_); (try (refine gate_guard (by rfl) ?_; dsimp only)); refine bx_ 2 #[.slice A0_0 l0_0.length c0_0, .slice A0_1 l0_1.length c0_1] 26 HB ?_; clear HB; intro gb693 w4 hg hb BK693 HB GW693; have GE693 := GW693; clear hg hb) | ((with_reducible refine gate_dst (N := 3) rfl ?_); (try (refine gate_guard (by rfl) ?_; dsimp only)); refine bx_ 3 #[.slice A1_0 l1_0.length c1_0, .slice A1_1 l1_1.length c1_1] 26 HB ?_; clear HB; intro gb694 w5 hg hb BK694 HB GW694; have GE694 := GW694; have NB693_694 := nl_ BK693 hg; have NB694_693 := ng_ BK693 hg; replace BK693 := bb_ BK693 hb; clear hg hb)))
  (try simp only [Act.put, List.setIfInBounds_toArray, List.set_cons_zero, List.set_cons_succ])
  go_cut [22] (fun v22 wc => ∃ (kq : Nat) (x22_2 : Bool), v22 = .bool x22_2 ∧ Aside0 (theorboref01_Same.j0 kq x22_2 l0_0 l0_1 l1_0 l1_1 = some r) ∧ Aside0 (kq ≤ k) ∧ Aside0 (wc.heap[gb693]? = some (.cells #[(.slice A0_0 l0_0.length c0_0), (.slice A0_1 l0_1.length c0_1)] 26 (0, 0))) ∧ Aside0 (wc.heap[gb694]? = some (.cells #[(.slice A1_0 l1_0.length c1_0), (.slice A1_1 l1_1.length c1_1)] 26 (0, 0))) ∧ Aside0 (Below w.heap.size w wc))
  case first =>
    (have H := HC3.out); clear HC3; (by_cases c6 : (l0_0.length : Int) = (l1_0.length : Int))
    · rw [if_pos c6] at H
      (obtain ⟨c6b0, c6b1⟩ := eqT_ c6); (have c6b2 : (l0_0.length == l1_0.length) = true := by first | simpa using c6 | (simp at c6 ⊢; omega)); clear c6; ((first | rw [c6b0] | rw [c6b1] | (simp only [i64_w, i32_w]; rw [c6b0]) | skip)); (have H' := Aside0.mk H); clear H; (have hnb7 := NB693_694.out); (have hnc7 := NB694_693.out); (have hcz8 := blk_cell BK693.out); (have hfz8 := blk_frozen BK693.out); (have hcz9 := blk_cell BK694.out); (have hfz9 := blk_frozen BK694.out); (go_wp2); (repeat (go_quiet (fail); try go_wp2)); (go_meet)
      case rel => exact ⟨_, (((l0_1.length : Int) != (l1_1.length : Int))), (rs_), H', ⟨om_⟩, ⟨bk_ BK693⟩, ⟨bk_ BK694⟩, ⟨bl_ HB⟩⟩
    · rw [if_neg c6] at H
      (obtain ⟨c6b0, c6b1⟩ := eqF_ c6); (have c6b2 : (l0_0.length == l1_0.length) = false := by first | simpa using c6 | (simp at c6 ⊢; omega)); ((first | rw [c6b0] | rw [c6b1] | (simp only [i64_w, i32_w]; rw [c6b0]) | skip)); (have H' := Aside0.mk H); clear H; (have hnb10 := NB693_694.out); (have hnc10 := NB694_693.out); (have hcz11 := blk_cell BK693.out); (have hfz11 := blk_frozen BK693.out); (have hcz12 := blk_cell BK694.out); (have hfz12 := blk_frozen BK694.out); (go_wp2); (repeat (go_quiet (fail); try go_wp2)); (go_meet)
      case rel => exact ⟨_, (true), (rs_), H', ⟨om_⟩, ⟨bk_ BK693⟩, ⟨bk_ BK694⟩, ⟨bl_ HB⟩⟩
  case rest =>
    clear HC3; (obtain ⟨kq, x22_2, rfl, HA, HJ2, BK693, BK694, HB⟩ := hcut)
    cases kq with
    | zero => exact absurd HA.out (by simp [theorboref01_Same.j0])
    | succ kj2 =>
      (have H := HA.out); clear HA; (simp only [theorboref01_Same.j0] at H); (by_cases c13 : x22_2 = true)
      · subst c13
        (rw [if_pos rfl] at H); (obtain rfl := Option.some.inj H); (go_wp2); (repeat (go_quiet (fail); try go_wp2)); (go_ret); (exact ⟨rv_, bl_ HB⟩)
      · replace c13 := Bool.eq_false_iff.mpr c13
        subst c13; (rw [if_neg Bool.false_ne_true] at H); (have H' := Aside0.mk H); clear H; (go_wp2); (repeat (go_quiet (fail); try go_wp2)); (go_loopg [5] kj2 (fun kq v5 w' => ∃ (x5_2 : Int), v5 = .int .i64 x5_2 ∧ Aside0 (theorboref01_Same.l0 kq x5_2 l0_0 l0_1 l1_0 l1_1 = some r) ∧ Aside0 (kq ≤ kj2) ∧ Aside0 (w'.heap[gb693]? = some (.cells #[(.slice A0_0 l0_0.length c0_0), (.slice A0_1 l0_1.length c0_1)] 26 (0, 0))) ∧ Aside0 (w'.heap[gb694]? = some (.cells #[(.slice A1_0 l1_0.length c1_0), (.slice A1_1 l1_1.length c1_1)] 26 (0, 0))) ∧ Aside0 (Below w.heap.size w w')))
        case atStart => exact ⟨(0), (rs_), H', ⟨Nat.le_refl _⟩, ⟨bk_ BK693⟩, ⟨bk_ BK694⟩, ⟨bl_ HB⟩⟩
        case round =>
          clear H'; (try clear c13); (obtain ⟨x5_2, rfl, HA, HK2, BK693, BK694, HB⟩ := hrel)
          cases gk with
          | zero => exact absurd HA.out (by simp [theorboref01_Same.l0])
          | succ k2 =>
            (have H := HA.out); clear HA; (simp only [theorboref01_Same.l0] at H); (have HC14 := Aside0.mk H); clear H; (have hnb15 := NB693_694.out); (have hnc15 := NB694_693.out); (have hcz16 := blk_cell BK693.out); (have hfz16 := blk_frozen BK693.out); (go_upto_if 27 with (fail)); (repeat (go_quiet (fail); go_upto_if 27 with (fail))); (have H := HC14.out); clear HC14; (by_cases c17 : x5_2 < (l0_0.length : Int))
            · rw [if_pos c17] at H
              (have c17b0 := decide_eq_true c17); clear c17; ((first | rw [c17b0] | (simp only [i64_w, i32_w]; rw [c17b0]) | skip)); (by_cases c18 : 0 ≤ x5_2)
              · rw [if_pos c18] at H
                (have c18b0 := decide_eq_true c18); clear c18; (by_cases c19 : x5_2 < (l1_0.length : Int))
                · rw [if_pos c19] at H
                  (have c19b0 := decide_eq_true c19); clear c19; (have HC20 := Aside0.mk H); clear H; (have hnb21 := NB693_694.out); (have hnc21 := NB694_693.out); (have hcz22 := blk_cell BK693.out); (have hfz22 := blk_frozen BK693.out); (have p695 : 0 ≤ (x5_2 : Int) := of_decide_eq_true (by first | (with_reducible assumption) | assumption)); (have q695 : x5_2 < (l0_0.length : Int) := of_decide_eq_true (by first | (with_reducible assumption) | assumption)); (obtain ⟨ad695, e695, hx695_0, hx695_1, hx695_2⟩ := at_T99 HR0_0.out x5_2 p695 q695)
                  cases e695
                  (replace hx695_0 := pw_cell_below HB.out hx695_0); (replace hx695_1 := pw_cell_below HB.out hx695_1); (replace hx695_2 := pw_cell_below HB.out hx695_2); (replace p695 := eq_true p695); (replace q695 := eq_true q695); (have hcz23 := blk_cell BK694.out); (have hfz23 := blk_frozen BK694.out); (have p696 : 0 ≤ (x5_2 : Int) := of_decide_eq_true (by first | (with_reducible assumption) | assumption)); (have q696 : x5_2 < (l1_0.length : Int) := of_decide_eq_true (by first | (with_reducible assumption) | assumption)); (obtain ⟨ad696, e696, hx696_0, hx696_1, hx696_2⟩ := at_T99 HR1_0.out x5_2 p696 q696)
                  cases e696
                  (replace hx696_0 := pw_cell_below HB.out hx696_0); (replace hx696_1 := pw_cell_below HB.out hx696_1); (replace hx696_2 := pw_cell_below HB.out hx696_2); (replace p696 := eq_true p696); (replace q696 := eq_true q696); (go_upto_if 40 with (fail)); (repeat (go_quiet (fail); go_upto_if 40 with (fail))); (have H := HC20.out); clear HC20; (by_cases c24 : (!(((rd_T99 l0_0 x5_2).f0) == ((rd_T99 l1_0 x5_2).f0)) || (!(((rd_T99 l0_0 x5_2).f1) == ((rd_T99 l1_0 x5_2).f1)) || (!(((rd_T99 l0_0 x5_2).f2) == ((rd_T99 l1_0 x5_2).f2))))) = true)
                  · rw [if_pos c24] at H
                    (have c24b0 : (!(((rd_T99 l0_0 x5_2).f0) == ((rd_T99 l1_0 x5_2).f0)) || (!(((rd_T99 l0_0 x5_2).f1) == ((rd_T99 l1_0 x5_2).f1)) || (!(((rd_T99 l0_0 x5_2).f2) == ((rd_T99 l1_0 x5_2).f2))))) = true := c24); clear c24; ((first | rw [c24b0] | (simp only [i64_w, i32_w]; rw [c24b0]) | skip)); (obtain rfl := Option.some.inj H); (go_wp2); (repeat (go_quiet (fail); try go_wp2)); (go_ret); (exact ⟨rv_, bl_ HB⟩)
                  · rw [if_neg c24] at H
                    (have c24b0 : (!(((rd_T99 l0_0 x5_2).f0) == ((rd_T99 l1_0 x5_2).f0)) || (!(((rd_T99 l0_0 x5_2).f1) == ((rd_T99 l1_0 x5_2).f1)) || (!(((rd_T99 l0_0 x5_2).f2) == ((rd_T99 l1_0 x5_2).f2))))) = false := by simpa using c24); clear c24; ((first | rw [c24b0] | (simp only [i64_w, i32_w]; rw [c24b0]) | skip)); (have H' := Aside0.mk H); clear H; (go_wp2); (repeat (go_quiet (fail); try go_wp2)); (go_roundg k2)
                    case measure => have := HJ2.out; have := HK2.out; omega
                    case rel => exact ⟨(wrap64 (x5_2 + 1)), (rs_), H', ⟨by have := HJ2.out; have := HK2.out; omega⟩, ⟨bk_ BK693⟩, ⟨bk_ BK694⟩, ⟨bl_ HB⟩⟩
                · rw [if_neg c19] at H
                  exact absurd H (by simp)
              · rw [if_neg c18] at H
                exact absurd H (by simp)
            · rw [if_neg c17] at H
              (have c17b0 := decide_eq_false c17); clear c17; ((first | rw [c17b0] | (simp only [i64_w, i32_w]; rw [c17b0]) | skip)); (have H' := Aside0.mk H); clear H; (go_wp2); (repeat (go_quiet (fail); try go_wp2)); (go_loopg [6] k2 (fun kq v6 w' => ∃ (x6_3 : Int), v6 = .int .i64 x6_3 ∧ Aside0 (theorboref01_Same.l1 kq x6_3 l0_0 l0_1 l1_0 l1_1 = some r) ∧ Aside0 (kq ≤ k2) ∧ Aside0 (w'.heap[gb693]? = some (.cells #[(.slice A0_0 l0_0.length c0_0), (.slice A0_1 l0_1.length c0_1)] 26 (0, 0))) ∧ Aside0 (w'.heap[gb694]? = some (.cells #[(.slice A1_0 l1_0.length c1_0), (.slice A1_1 l1_1.length c1_1)] 26 (0, 0))) ∧ Aside0 (Below w.heap.size w w')))
              case atStart => exact ⟨(0), (rs_), H', ⟨Nat.le_refl _⟩, ⟨bk_ BK693⟩, ⟨bk_ BK694⟩, ⟨bl_ HB⟩⟩
              case round =>
                clear H'; (try clear c17b0 hcz16 hfz16); (obtain ⟨x6_3, rfl, HA, HK3, BK693, BK694, HB⟩ := hrel)
                cases gk with
                | zero => exact absurd HA.out (by simp [theorboref01_Same.l1])
                | succ k3 =>
                  (have H := HA.out); clear HA; (simp only [theorboref01_Same.l1] at H); (have HC25 := Aside0.mk H); clear H; (have hnb26 := NB693_694.out); (have hnc26 := NB694_693.out); (have hcz27 := blk_cell BK693.out); (have hfz27 := blk_frozen BK693.out); (go_upto_if 45 with (fail)); (repeat (go_quiet (fail); go_upto_if 45 with (fail))); (have H := HC25.out); clear HC25; (by_cases c28 : x6_3 < (l0_1.length : Int))
                  · rw [if_pos c28] at H
                    (have c28b0 := decide_eq_true c28); clear c28; ((first | rw [c28b0] | (simp only [i64_w, i32_w]; rw [c28b0]) | skip)); (by_cases c29 : 0 ≤ x6_3)
                    · rw [if_pos c29] at H
                      (have c29b0 := decide_eq_true c29); clear c29; (by_cases c30 : x6_3 < (l1_1.length : Int))
                      · rw [if_pos c30] at H
                        (have c30b0 := decide_eq_true c30); clear c30; (have HC31 := Aside0.mk H); clear H; (have hnb32 := NB693_694.out); (have hnc32 := NB694_693.out); (have hcz33 := blk_cell BK693.out); (have hfz33 := blk_frozen BK693.out); (have p697 : 0 ≤ (x6_3 : Int) := of_decide_eq_true (by first | (with_reducible assumption) | assumption)); (have q697 : x6_3 < (l0_1.length : Int) := of_decide_eq_true (by first | (with_reducible assumption) | assumption)); (obtain ⟨ad697, e697, hx697_0⟩ := Kd.at_int HR0_1.out x6_3 p697 q697)
                        cases e697
                        (replace hx697_0 := pw_cell_below HB.out hx697_0); (replace p697 := eq_true p697); (replace q697 := eq_true q697); (have hcz34 := blk_cell BK694.out); (have hfz34 := blk_frozen BK694.out); (have p698 : 0 ≤ (x6_3 : Int) := of_decide_eq_true (by first | (with_reducible assumption) | assumption)); (have q698 : x6_3 < (l1_1.length : Int) := of_decide_eq_true (by first | (with_reducible assumption) | assumption)); (obtain ⟨ad698, e698, hx698_0⟩ := Kd.at_int HR1_1.out x6_3 p698 q698)
                        cases e698
                        (replace hx698_0 := pw_cell_below HB.out hx698_0); (replace p698 := eq_true p698); (replace q698 := eq_true q698); (go_upto_if 58 with (fail)); (repeat (go_quiet (fail); go_upto_if 58 with (fail))); (have H := HC31.out); clear HC31; (by_cases c35 : (rd l0_1 x6_3) = (rd l1_1 x6_3))
                        · rw [if_pos c35] at H
                          (obtain ⟨c35b0, c35b1⟩ := eqT_ c35); clear c35; ((first | rw [c35b0] | rw [c35b1] | (simp only [i64_w, i32_w]; rw [c35b0]) | skip)); (have H' := Aside0.mk H); clear H; (go_wp2); (repeat (go_quiet (fail); try go_wp2)); (go_roundg k3)
                          case measure => have := HJ2.out; have := HK2.out; have := HK3.out; omega
                          case rel => exact ⟨(wrap64 (x6_3 + 1)), (rs_), H', ⟨by have := HJ2.out; have := HK2.out; have := HK3.out; omega⟩, ⟨bk_ BK693⟩, ⟨bk_ BK694⟩, ⟨bl_ HB⟩⟩
                        · rw [if_neg c35] at H
                          (obtain ⟨c35b0, c35b1⟩ := eqF_ c35); ((first | rw [c35b0] | rw [c35b1] | (simp only [i64_w, i32_w]; rw [c35b0]) | skip)); (obtain rfl := Option.some.inj H); (go_wp2); (repeat (go_quiet (fail); try go_wp2)); (go_ret); (exact ⟨rv_, bl_ HB⟩)
                      · rw [if_neg c30] at H
                        exact absurd H (by simp)
                    · rw [if_neg c29] at H
                      exact absurd H (by simp)
                  · rw [if_neg c28] at H
                    (have c28b0 := decide_eq_false c28); clear c28; ((first | rw [c28b0] | (simp only [i64_w, i32_w]; rw [c28b0]) | skip)); (obtain rfl := Option.some.inj H); (go_wp2); (repeat (go_quiet (fail); try go_wp2)); (go_ret); (exact ⟨rv_, bl_ HB⟩)

/-! ### theorboref02_SameEvent: function 28 -/
mutual
def theorboref02_SameEvent.j0 : Nat → Bool → Bool → Int → Bool → Bool → Bool → List (S54) → Bool → Int → Bool → Bool → Bool → List (S54) → Option (Bool)
  | 0, _, _, _, _, _, _, _, _, _, _, _, _, _ => none
  | k + 1, x33, x704000, x704001, x704002, x704003, x704004, x704005, x705000, x705001, x705002, x705003, x705004, x705005 => if x33 = true then (some false) else (theorboref02_SameEvent.l0 k 0 x704000 x704001 x704002 x704003 x704004 x704005 x705000 x705001 x705002 x705003 x705004 x705005)
def theorboref02_SameEvent.l0 : Nat → Int → Bool → Int → Bool → Bool → Bool → List (S54) → Bool → Int → Bool → Bool → Bool → List (S54) → Option (Bool)
  | 0, _, _, _, _, _, _, _, _, _, _, _, _, _ => none
  | k + 1, x5, x704000, x704001, x704002, x704003, x704004, x704005, x705000, x705001, x705002, x705003, x705004, x705005 => if x5 < (x704005.length : Int) then (if 0 ≤ x5 then (if x5 < (x705005.length : Int) then (if (!(((rd_T54 x704005 x5).f0) == ((rd_T54 x705005 x5).f0)) || (!(((rd_T54 x704005 x5).f1) == ((rd_T54 x705005 x5).f1)) || (!(((rd_T54 x704005 x5).f2) == ((rd_T54 x705005 x5).f2)) || (!(((rd_T54 x704005 x5).f3) == ((rd_T54 x705005 x5).f3)) || (!(((rd_T54 x704005 x5).f4) == ((rd_T54 x705005 x5).f4))))))) = true then (some false) else (theorboref02_SameEvent.l0 k (wrap64 (x5 + 1)) x704000 x704001 x704002 x704003 x704004 x704005 x705000 x705001 x705002 x705003 x705004 x705005)) else (none)) else (none)) else (some true)
end
def theorboref02_SameEvent.f (k : Nat) (a0_0 : Bool) (a0_1 : Int) (a0_2 : Bool) (a0_3 : Bool) (a0_4 : Bool) (l0_5 : List (S54)) (a1_0 : Bool) (a1_1 : Int) (a1_2 : Bool) (a1_3 : Bool) (a1_4 : Bool) (l1_5 : List (S54)) : Option (Bool) := if (a0_0 != a1_0) = true then (theorboref02_SameEvent.j0 k true a0_0 a0_1 a0_2 a0_3 a0_4 l0_5 a1_0 a1_1 a1_2 a1_3 a1_4 l1_5) else (if (!(a0_1 == a1_1) || (!(a0_2 == a1_2) || (!(a0_3 == a1_3)))) = true then (theorboref02_SameEvent.j0 k true a0_0 a0_1 a0_2 a0_3 a0_4 l0_5 a1_0 a1_1 a1_2 a1_3 a1_4 l1_5) else (if (a0_4 != a1_4) = true then (theorboref02_SameEvent.j0 k true a0_0 a0_1 a0_2 a0_3 a0_4 l0_5 a1_0 a1_1 a1_2 a1_3 a1_4 l1_5) else (theorboref02_SameEvent.j0 k ((l0_5.length : Int) != (l1_5.length : Int)) a0_0 a0_1 a0_2 a0_3 a0_4 l0_5 a1_0 a1_1 a1_2 a1_3 a1_4 l1_5)))
theorem theorboref02_SameEvent.mono_l : ∀ k, (∀ y0 y1 y2 y3 y4 y5 y6 y7 y8 y9 y10 y11 y12, LeO (theorboref02_SameEvent.j0 k y0 y1 y2 y3 y4 y5 y6 y7 y8 y9 y10 y11 y12) (theorboref02_SameEvent.j0 (k + 1) y0 y1 y2 y3 y4 y5 y6 y7 y8 y9 y10 y11 y12)) ∧ (∀ y0 y1 y2 y3 y4 y5 y6 y7 y8 y9 y10 y11 y12, LeO (theorboref02_SameEvent.l0 k y0 y1 y2 y3 y4 y5 y6 y7 y8 y9 y10 y11 y12) (theorboref02_SameEvent.l0 (k + 1) y0 y1 y2 y3 y4 y5 y6 y7 y8 y9 y10 y11 y12))
  | 0 => ⟨fun _ _ _ _ _ _ _ _ _ _ _ _ _ r h => by simp [theorboref02_SameEvent.j0] at h, fun _ _ _ _ _ _ _ _ _ _ _ _ _ r h => by simp [theorboref02_SameEvent.l0] at h⟩
  | k + 1 => by
    ((obtain ⟨ih0, ih1⟩ := theorboref02_SameEvent.mono_l k); (refine ⟨?_, ?_⟩)); (focus intro y0 y1 y2 y3 y4 y5 y6 y7 y8 y9 y10 y11 y12; (unfold theorboref02_SameEvent.j0); (repeat' first | (with_reducible first | apply ih0 | apply ih1 | exact LeO.refl _ | exact LeO.none _ | refine LeO.ite ?_ ?_ | refine LeO.bind ?_ fun _ => ?_) | exact LeO.none _ | refine LeO.ite ?_ ?_ | refine LeO.bind ?_ fun _ => ?_ | apply ih0 | apply ih1)); (focus intro y0 y1 y2 y3 y4 y5 y6 y7 y8 y9 y10 y11 y12; (unfold theorboref02_SameEvent.l0); (repeat' first | (with_reducible first | apply ih0 | apply ih1 | exact LeO.refl _ | exact LeO.none _ | refine LeO.ite ?_ ?_ | refine LeO.bind ?_ fun _ => ?_) | exact LeO.none _ | refine LeO.ite ?_ ?_ | refine LeO.bind ?_ fun _ => ?_ | apply ih0 | apply ih1))
theorem theorboref02_SameEvent.mono : ∀ a0 a1 a2 a3 a4 a5 a6 a7 a8 a9 a10 a11 k, LeO (theorboref02_SameEvent.f k a0 a1 a2 a3 a4 a5 a6 a7 a8 a9 a10 a11) (theorboref02_SameEvent.f (k + 1) a0 a1 a2 a3 a4 a5 a6 a7 a8 a9 a10 a11) := by
  intro a0 a1 a2 a3 a4 a5 a6 a7 a8 a9 a10 a11 k
  obtain ⟨ih0, ih1⟩ := theorboref02_SameEvent.mono_l k
  unfold theorboref02_SameEvent.f
  repeat' first | (with_reducible first | apply ih0 | apply ih1 | exact LeO.refl _ | exact LeO.none _ | refine LeO.ite ?_ ?_ | refine LeO.bind ?_ fun _ => ?_) | exact LeO.none _ | refine LeO.ite ?_ ?_ | refine LeO.bind ?_ fun _ => ?_ | apply ih0 | apply ih1
set_option maxHeartbeats 8000000 in
set_option maxRecDepth 100000 in
theorem theorboref02_SameEvent.calls (k : Nat) (a0_0 : Bool) (a0_1 : Int) (a0_2 : Bool) (a0_3 : Bool) (a0_4 : Bool) (A0_5 : Option Addr) (c0_5 : Nat) (l0_5 : List (S54)) (a1_0 : Bool) (a1_1 : Int) (a1_2 : Bool) (a1_3 : Bool) (a1_4 : Bool) (A1_5 : Option Addr) (c1_5 : Nat) (l1_5 : List (S54)) (r : Bool) (w : World) (hr0_5 : Kd.C k54 w A0_5 l0_5.length l0_5) (hc0_5 : l0_5.length ≤ c0_5) (hr1_5 : Kd.C k54 w A1_5 l1_5.length l1_5) (hc1_5 : l1_5.length ≤ c1_5) (h : theorboref02_SameEvent.f k a0_0 a0_1 a0_2 a0_3 a0_4 l0_5 a1_0 a1_1 a1_2 a1_3 a1_4 l1_5 = some r) :
    Calls Tryz.prog 28 #[.agg #[.bool a0_0, .int .i64 a0_1, .bool a0_2, .bool a0_3, .bool a0_4, .slice A0_5 l0_5.length c0_5], .agg #[.bool a1_0, .int .i64 a1_1, .bool a1_2, .bool a1_3, .bool a1_4, .slice A1_5 l1_5.length c1_5]] w fun e w' => e = .returned (.bool r) ∧ Below w.heap.size w w' := by
  have hu46 := Tryz.underlying46
  have hu43 := Tryz.underlying43
  have hu54 := Tryz.underlying54
  have HR0_5 := Aside0.mk hr0_5
  have HC0_5 := Aside0.mk hc0_5
  clear hr0_5 hc0_5
  have HR1_5 := Aside0.mk hr1_5
  have HC1_5 := Aside0.mk hc1_5
  clear hr1_5 hc1_5
  have HB := Aside0.mk (Below.refl w.heap.size w)
  have H : (if (a0_0 != a1_0) = true then (theorboref02_SameEvent.j0 k true a0_0 a0_1 a0_2 a0_3 a0_4 l0_5 a1_0 a1_1 a1_2 a1_3 a1_4 l1_5) else (if (!(a0_1 == a1_1) || (!(a0_2 == a1_2) || (!(a0_3 == a1_3)))) = true then (theorboref02_SameEvent.j0 k true a0_0 a0_1 a0_2 a0_3 a0_4 l0_5 a1_0 a1_1 a1_2 a1_3 a1_4 l1_5) else (if (a0_4 != a1_4) = true then (theorboref02_SameEvent.j0 k true a0_0 a0_1 a0_2 a0_3 a0_4 l0_5 a1_0 a1_1 a1_2 a1_3 a1_4 l1_5) else (theorboref02_SameEvent.j0 k ((l0_5.length : Int) != (l1_5.length : Int)) a0_0 a0_1 a0_2 a0_3 a0_4 l0_5 a1_0 a1_1 a1_2 a1_3 a1_4 l1_5)))) = some r := h
  clear h
  have HC3 := Aside0.mk H
  clear H
  go_enter Tryz.func28, Tryz.ntmps28
  go_upto_region 1 with (first | ((with_reducible refine gate_dst (N := 2) rfl ?_); (try (refine gate_guard (by rfl) ?_; dsimp only)); refine bx_ 2 #[.bool a0_0, .int .i64 a0_1, .bool a0_2, .bool a0_3, .bool a0_4, .slice A0_5 l0_5.length c0_5] 46 HB ?_; clear HB; intro gb703 w4 hg hb BK703 HB GW703; have GE703 := GW703; clear hg hb) | ((with_reducible refine gate_dst (N := 3) rfl ?_); (try (refine gate_guard (by rfl) ?_; dsimp only)); refine bx_ 3 #[.bool a1_0, .int .i64 a1_1, .bool a1_2, .bool a1_3, .bool a1_4, .slice A1_5 l1_5.length c1_5] 46 HB ?_; clear HB; intro gb704 w5 hg hb BK704 HB GW704; have GE704 := GW704; have NB703_704 := nl_ BK703 hg; have NB704_703 := ng_ BK703 hg; replace BK703 := bb_ BK703 hb; clear hg hb))
  repeat (go_quiet (first | ((with_reducible refine gate_dst (N := 2) rfl ?_); (try (refine gate_guard (by rfl) ?_; dsimp only)); refine bx_ 2 #[.bool a0_0, .int .i64 a0_1, .bool a0_2, .bool a0_3, .bool a0_4, .slice A0_5 l0_5.length c0_5] 46 HB ?_; clear HB; intro gb703 w4 hg hb BK703 HB GW703; have GE703 := GW703; clear hg hb) | ((with_reducible refine gate_dst (N := 3) rfl ?_); (try (refine gate_guard (by rfl) ?_; dsimp only)); refine bx_ 3 #[.bool a1_0, .int .i64 a1_1, .bool a1_2, .bool a1_3, .bool a1_4, .slice A1_5 l1_5.length c1_5] 46 HB ?_; clear HB; intro gb704 w5 hg hb BK704 HB GW704; have GE704 := GW704; have NB703_704 := nl_ BK703 hg; have NB704_703 := ng_ BK703 hg; replace BK703 := bb_ BK703 hb; clear hg hb)); go_upto_region 1 with (first | ((with_reducible refine gate_dst (N := 2) rfl ?_); (try (refine gate_guard (by rfl) ?_; dsimp only)); refine bx_ 2 #[.bool a0_0, .int .i64 a0_1, .bool a0_2, .bool a0_3, .bool a0_4, .slice A0_5 l0_5.length c0_5] 46 HB ?_; clear HB; intro gb703 w4 hg hb BK703 HB GW703; have GE703 := GW703; clear hg hb) | ((with_reducible refine gate_dst (N := 3) rfl ?_); (try (refine gate_guard (by rfl) ?_; dsimp only)); refine bx_ 3 #[.bool a1_0, .int .i64 a1_1, .bool a1_2, .bool a1_3, .bool a1_4, .slice A1_5 l1_5.length c1_5] 46 HB ?_; clear HB; intro gb704 w5 hg hb BK704 HB GW704; have GE704 := GW704; have NB703_704 := nl_ BK703 hg; have NB704_703 := ng_ BK703 hg; replace BK703 := bb_ BK703 hb; clear hg hb)))
  (try simp only [Act.put, List.setIfInBounds_toArray, List.set_cons_zero, List.set_cons_succ])
  go_cut [33] (fun v33 wc => ∃ (kq : Nat) (x33_2 : Bool), v33 = .bool x33_2 ∧ Aside0 (theorboref02_SameEvent.j0 kq x33_2 a0_0 a0_1 a0_2 a0_3 a0_4 l0_5 a1_0 a1_1 a1_2 a1_3 a1_4 l1_5 = some r) ∧ Aside0 (kq ≤ k) ∧ Aside0 (wc.heap[gb703]? = some (.cells #[.bool a0_0, .int .i64 a0_1, .bool a0_2, .bool a0_3, .bool a0_4, (.slice A0_5 l0_5.length c0_5)] 46 (0, 0))) ∧ Aside0 (wc.heap[gb704]? = some (.cells #[.bool a1_0, .int .i64 a1_1, .bool a1_2, .bool a1_3, .bool a1_4, (.slice A1_5 l1_5.length c1_5)] 46 (0, 0))) ∧ Aside0 (Below w.heap.size w wc))
  case first =>
    (have H := HC3.out); clear HC3; (by_cases c6 : (a0_0 != a1_0) = true)
    · rw [if_pos c6] at H
      (have c6b0 : (a0_0 != a1_0) = true := c6); ((try (have c6b1 : decide (a0_0 = a1_0) = false := by simpa using c6))); ((try (have c6b2 : (a0_0 == a1_0) = false := by simpa using c6))); ((try (have c6b3 : ¬ (a0_0 = a1_0) := by simpa using c6))); clear c6; ((first | rw [c6b0] | rw [c6b1] | (simp only [i64_w, i32_w]; rw [c6b0]) | skip)); (have H' := Aside0.mk H); clear H; (have hnb7 := NB703_704.out); (have hnc7 := NB704_703.out); (have hcz8 := blk_cell BK703.out); (have hfz8 := blk_frozen BK703.out); (have hcz9 := blk_cell BK704.out); (have hfz9 := blk_frozen BK704.out); (go_wp2); (repeat (go_quiet (fail); try go_wp2)); (go_meet)
      case rel => exact ⟨_, (true), (rs_), H', ⟨om_⟩, ⟨bk_ BK703⟩, ⟨bk_ BK704⟩, ⟨bl_ HB⟩⟩
    · rw [if_neg c6] at H
      (have c6b0 : (a0_0 != a1_0) = false := by simpa using c6); ((try (have c6b1 : decide (a0_0 = a1_0) = true := by simpa using c6))); ((try (have c6b2 : (a0_0 == a1_0) = true := by simpa using c6))); clear c6; ((first | rw [c6b0] | rw [c6b1] | (simp only [i64_w, i32_w]; rw [c6b0]) | skip)); (by_cases c10 : (!(a0_1 == a1_1) || (!(a0_2 == a1_2) || (!(a0_3 == a1_3)))) = true)
      · rw [if_pos c10] at H
        (have c10b0 : (!(a0_1 == a1_1) || (!(a0_2 == a1_2) || (!(a0_3 == a1_3)))) = true := c10); clear c10; (have H' := Aside0.mk H); clear H; (have hnb11 := NB703_704.out); (have hnc11 := NB704_703.out); (have hcz12 := blk_cell BK703.out); (have hfz12 := blk_frozen BK703.out); (have hcz13 := blk_cell BK704.out); (have hfz13 := blk_frozen BK704.out); (go_wp2); (repeat (go_quiet (fail); try go_wp2)); (go_meet)
        case rel => exact ⟨_, (true), (rs_), H', ⟨om_⟩, ⟨bk_ BK703⟩, ⟨bk_ BK704⟩, ⟨bl_ HB⟩⟩
      · rw [if_neg c10] at H
        (have c10b0 : (!(a0_1 == a1_1) || (!(a0_2 == a1_2) || (!(a0_3 == a1_3)))) = false := by simpa using c10); clear c10; (by_cases c14 : (a0_4 != a1_4) = true)
        · rw [if_pos c14] at H
          (have c14b0 : (a0_4 != a1_4) = true := c14); ((try (have c14b1 : decide (a0_4 = a1_4) = false := by simpa using c14))); ((try (have c14b2 : (a0_4 == a1_4) = false := by simpa using c14))); ((try (have c14b3 : ¬ (a0_4 = a1_4) := by simpa using c14))); clear c14; (have H' := Aside0.mk H); clear H; (have hnb15 := NB703_704.out); (have hnc15 := NB704_703.out); (have hcz16 := blk_cell BK703.out); (have hfz16 := blk_frozen BK703.out); (have hcz17 := blk_cell BK704.out); (have hfz17 := blk_frozen BK704.out); (go_wp2); (repeat (go_quiet (fail); try go_wp2)); (go_meet)
          case rel => exact ⟨_, (true), (rs_), H', ⟨om_⟩, ⟨bk_ BK703⟩, ⟨bk_ BK704⟩, ⟨bl_ HB⟩⟩
        · rw [if_neg c14] at H
          (have c14b0 : (a0_4 != a1_4) = false := by simpa using c14); ((try (have c14b1 : decide (a0_4 = a1_4) = true := by simpa using c14))); ((try (have c14b2 : (a0_4 == a1_4) = true := by simpa using c14))); clear c14; (have H' := Aside0.mk H); clear H; (have hnb18 := NB703_704.out); (have hnc18 := NB704_703.out); (have hcz19 := blk_cell BK703.out); (have hfz19 := blk_frozen BK703.out); (have hcz20 := blk_cell BK704.out); (have hfz20 := blk_frozen BK704.out); (go_wp2); (repeat (go_quiet (fail); try go_wp2)); (go_meet)
          case rel => exact ⟨_, (((l0_5.length : Int) != (l1_5.length : Int))), (rs_), H', ⟨om_⟩, ⟨bk_ BK703⟩, ⟨bk_ BK704⟩, ⟨bl_ HB⟩⟩
  case rest =>
    clear HC3; (obtain ⟨kq, x33_2, rfl, HA, HJ2, BK703, BK704, HB⟩ := hcut)
    cases kq with
    | zero => exact absurd HA.out (by simp [theorboref02_SameEvent.j0])
    | succ kj2 =>
      (have H := HA.out); clear HA; (simp only [theorboref02_SameEvent.j0] at H); (by_cases c21 : x33_2 = true)
      · subst c21
        (rw [if_pos rfl] at H); (obtain rfl := Option.some.inj H); (go_wp2); (repeat (go_quiet (fail); try go_wp2)); (go_ret); (exact ⟨rv_, bl_ HB⟩)
      · replace c21 := Bool.eq_false_iff.mpr c21
        subst c21; (rw [if_neg Bool.false_ne_true] at H); (have H' := Aside0.mk H); clear H; (go_wp2); (repeat (go_quiet (fail); try go_wp2)); (go_loopg [5] kj2 (fun kq v5 w' => ∃ (x5_2 : Int), v5 = .int .i64 x5_2 ∧ Aside0 (theorboref02_SameEvent.l0 kq x5_2 a0_0 a0_1 a0_2 a0_3 a0_4 l0_5 a1_0 a1_1 a1_2 a1_3 a1_4 l1_5 = some r) ∧ Aside0 (kq ≤ kj2) ∧ Aside0 (w'.heap[gb703]? = some (.cells #[.bool a0_0, .int .i64 a0_1, .bool a0_2, .bool a0_3, .bool a0_4, (.slice A0_5 l0_5.length c0_5)] 46 (0, 0))) ∧ Aside0 (w'.heap[gb704]? = some (.cells #[.bool a1_0, .int .i64 a1_1, .bool a1_2, .bool a1_3, .bool a1_4, (.slice A1_5 l1_5.length c1_5)] 46 (0, 0))) ∧ Aside0 (Below w.heap.size w w')))
        case atStart => exact ⟨(0), (rs_), H', ⟨Nat.le_refl _⟩, ⟨bk_ BK703⟩, ⟨bk_ BK704⟩, ⟨bl_ HB⟩⟩
        case round =>
          clear H'; (try clear c21); (obtain ⟨x5_2, rfl, HA, HK2, BK703, BK704, HB⟩ := hrel)
          cases gk with
          | zero => exact absurd HA.out (by simp [theorboref02_SameEvent.l0])
          | succ k2 =>
            (have H := HA.out); clear HA; (simp only [theorboref02_SameEvent.l0] at H); (have HC22 := Aside0.mk H); clear H; (have hnb23 := NB703_704.out); (have hnc23 := NB704_703.out); (have hcz24 := blk_cell BK703.out); (have hfz24 := blk_frozen BK703.out); (go_upto_if 38 with (fail)); (repeat (go_quiet (fail); go_upto_if 38 with (fail))); (have H := HC22.out); clear HC22; (by_cases c25 : x5_2 < (l0_5.length : Int))
            · rw [if_pos c25] at H
              (have c25b0 := decide_eq_true c25); clear c25; ((first | rw [c25b0] | (simp only [i64_w, i32_w]; rw [c25b0]) | skip)); (by_cases c26 : 0 ≤ x5_2)
              · rw [if_pos c26] at H
                (have c26b0 := decide_eq_true c26); clear c26; (by_cases c27 : x5_2 < (l1_5.length : Int))
                · rw [if_pos c27] at H
                  (have c27b0 := decide_eq_true c27); clear c27; (have HC28 := Aside0.mk H); clear H; (have hnb29 := NB703_704.out); (have hnc29 := NB704_703.out); (have hcz30 := blk_cell BK703.out); (have hfz30 := blk_frozen BK703.out); (have p705 : 0 ≤ (x5_2 : Int) := of_decide_eq_true (by first | (with_reducible assumption) | assumption)); (have q705 : x5_2 < (l0_5.length : Int) := of_decide_eq_true (by first | (with_reducible assumption) | assumption)); (obtain ⟨ad705, e705, hx705_0, hx705_1, hx705_2, hx705_3, hx705_4⟩ := at_T54 HR0_5.out x5_2 p705 q705)
                  cases e705
                  (replace hx705_0 := pw_cell_below HB.out hx705_0); (replace hx705_1 := pw_cell_below HB.out hx705_1); (replace hx705_2 := pw_cell_below HB.out hx705_2); (replace hx705_3 := pw_cell_below HB.out hx705_3); (replace hx705_4 := pw_cell_below HB.out hx705_4); (replace p705 := eq_true p705); (replace q705 := eq_true q705); (have hcz31 := blk_cell BK704.out); (have hfz31 := blk_frozen BK704.out); (have p706 : 0 ≤ (x5_2 : Int) := of_decide_eq_true (by first | (with_reducible assumption) | assumption)); (have q706 : x5_2 < (l1_5.length : Int) := of_decide_eq_true (by first | (with_reducible assumption) | assumption)); (obtain ⟨ad706, e706, hx706_0, hx706_1, hx706_2, hx706_3, hx706_4⟩ := at_T54 HR1_5.out x5_2 p706 q706)
                  cases e706
                  (replace hx706_0 := pw_cell_below HB.out hx706_0); (replace hx706_1 := pw_cell_below HB.out hx706_1); (replace hx706_2 := pw_cell_below HB.out hx706_2); (replace hx706_3 := pw_cell_below HB.out hx706_3); (replace hx706_4 := pw_cell_below HB.out hx706_4); (replace p706 := eq_true p706); (replace q706 := eq_true q706); (go_upto_if 51 with (fail)); (repeat (go_quiet (fail); go_upto_if 51 with (fail))); (have H := HC28.out); clear HC28; (by_cases c32 : (!(((rd_T54 l0_5 x5_2).f0) == ((rd_T54 l1_5 x5_2).f0)) || (!(((rd_T54 l0_5 x5_2).f1) == ((rd_T54 l1_5 x5_2).f1)) || (!(((rd_T54 l0_5 x5_2).f2) == ((rd_T54 l1_5 x5_2).f2)) || (!(((rd_T54 l0_5 x5_2).f3) == ((rd_T54 l1_5 x5_2).f3)) || (!(((rd_T54 l0_5 x5_2).f4) == ((rd_T54 l1_5 x5_2).f4))))))) = true)
                  · rw [if_pos c32] at H
                    (have c32b0 : (!(((rd_T54 l0_5 x5_2).f0) == ((rd_T54 l1_5 x5_2).f0)) || (!(((rd_T54 l0_5 x5_2).f1) == ((rd_T54 l1_5 x5_2).f1)) || (!(((rd_T54 l0_5 x5_2).f2) == ((rd_T54 l1_5 x5_2).f2)) || (!(((rd_T54 l0_5 x5_2).f3) == ((rd_T54 l1_5 x5_2).f3)) || (!(((rd_T54 l0_5 x5_2).f4) == ((rd_T54 l1_5 x5_2).f4))))))) = true := c32); clear c32; ((first | rw [c32b0] | (simp only [i64_w, i32_w]; rw [c32b0]) | skip)); (obtain rfl := Option.some.inj H); (go_wp2); (repeat (go_quiet (fail); try go_wp2)); (go_ret); (exact ⟨rv_, bl_ HB⟩)
                  · rw [if_neg c32] at H
                    (have c32b0 : (!(((rd_T54 l0_5 x5_2).f0) == ((rd_T54 l1_5 x5_2).f0)) || (!(((rd_T54 l0_5 x5_2).f1) == ((rd_T54 l1_5 x5_2).f1)) || (!(((rd_T54 l0_5 x5_2).f2) == ((rd_T54 l1_5 x5_2).f2)) || (!(((rd_T54 l0_5 x5_2).f3) == ((rd_T54 l1_5 x5_2).f3)) || (!(((rd_T54 l0_5 x5_2).f4) == ((rd_T54 l1_5 x5_2).f4))))))) = false := by simpa using c32); clear c32; ((first | rw [c32b0] | (simp only [i64_w, i32_w]; rw [c32b0]) | skip)); (have H' := Aside0.mk H); clear H; (go_wp2); (repeat (go_quiet (fail); try go_wp2)); (go_roundg k2)
                    case measure => have := HJ2.out; have := HK2.out; omega
                    case rel => exact ⟨(wrap64 (x5_2 + 1)), (rs_), H', ⟨by have := HJ2.out; have := HK2.out; omega⟩, ⟨bk_ BK703⟩, ⟨bk_ BK704⟩, ⟨bl_ HB⟩⟩
                · rw [if_neg c27] at H
                  exact absurd H (by simp)
              · rw [if_neg c26] at H
                exact absurd H (by simp)
            · rw [if_neg c25] at H
              (have c25b0 := decide_eq_false c25); clear c25; ((first | rw [c25b0] | (simp only [i64_w, i32_w]; rw [c25b0]) | skip)); (obtain rfl := Option.some.inj H); (go_wp2); (repeat (go_quiet (fail); try go_wp2)); (go_ret); (exact ⟨rv_, bl_ HB⟩)

/-! ### theorboref02_Same: function 13 -/
mutual
def theorboref02_Same.j0 : Nat → Bool → List (S99) → List Int → List (S46) → List (S99) → List Int → List (S46) → Option (Bool)
  | 0, _, _, _, _, _, _, _ => none
  | k + 1, x20, x714000, x714001, x714002, x715000, x715001, x715002 => if x20 = true then (some false) else (theorboref02_Same.l0 k 0 x714000 x714001 x714002 x715000 x715001 x715002)
def theorboref02_Same.l0 : Nat → Int → List (S99) → List Int → List (S46) → List (S99) → List Int → List (S46) → Option (Bool)
  | 0, _, _, _, _, _, _, _ => none
  | k + 1, x5, x714000, x714001, x714002, x715000, x715001, x715002 => if x5 < (x714002.length : Int) then (if 0 ≤ x5 then (if x5 < (x715002.length : Int) then ((theorboref02_SameEvent.f k ((rd_T46 x714002 x5).f0) ((rd_T46 x714002 x5).f1.f0) ((rd_T46 x714002 x5).f1.f1) ((rd_T46 x714002 x5).f1.f2) ((rd_T46 x714002 x5).f2) ((rd_T46 x714002 x5).f3) ((rd_T46 x715002 x5).f0) ((rd_T46 x715002 x5).f1.f0) ((rd_T46 x715002 x5).f1.f1) ((rd_T46 x715002 x5).f1.f2) ((rd_T46 x715002 x5).f2) ((rd_T46 x715002 x5).f3)).bind fun t718 => (if t718 = true then (theorboref02_Same.l0 k (wrap64 (x5 + 1)) x714000 x714001 x714002 x715000 x715001 x715002) else (some false))) else (none)) else (none)) else (some true)
end
def theorboref02_Same.f (k : Nat) (l0_0 : List (S99)) (l0_1 : List Int) (l0_2 : List (S46)) (l1_0 : List (S99)) (l1_1 : List Int) (l1_2 : List (S46)) : Option (Bool) := (theorboref01_Same.f k l0_0 l0_1 l1_0 l1_1).bind fun t715 => (if t715 = true then (theorboref02_Same.j0 k ((l0_2.length : Int) != (l1_2.length : Int)) l0_0 l0_1 l0_2 l1_0 l1_1 l1_2) else (theorboref02_Same.j0 k true l0_0 l0_1 l0_2 l1_0 l1_1 l1_2))
theorem theorboref02_Same.mono_l : ∀ k, (∀ y0 y1 y2 y3 y4 y5 y6, LeO (theorboref02_Same.j0 k y0 y1 y2 y3 y4 y5 y6) (theorboref02_Same.j0 (k + 1) y0 y1 y2 y3 y4 y5 y6)) ∧ (∀ y0 y1 y2 y3 y4 y5 y6, LeO (theorboref02_Same.l0 k y0 y1 y2 y3 y4 y5 y6) (theorboref02_Same.l0 (k + 1) y0 y1 y2 y3 y4 y5 y6))
  | 0 => ⟨fun _ _ _ _ _ _ _ r h => by simp [theorboref02_Same.j0] at h, fun _ _ _ _ _ _ _ r h => by simp [theorboref02_Same.l0] at h⟩
  | k + 1 => by
    ((obtain ⟨ih0, ih1⟩ := theorboref02_Same.mono_l k); (refine ⟨?_, ?_⟩)); (focus intro y0 y1 y2 y3 y4 y5 y6; (unfold theorboref02_Same.j0); (repeat' first | (with_reducible first | apply ih0 | apply ih1 | apply theorboref01_Same.mono | apply theorboref02_SameEvent.mono | exact LeO.refl _ | exact LeO.none _ | refine LeO.ite ?_ ?_ | refine LeO.bind ?_ fun _ => ?_) | exact LeO.none _ | refine LeO.ite ?_ ?_ | refine LeO.bind ?_ fun _ => ?_ | apply ih0 | apply ih1 | apply theorboref01_Same.mono | apply theorboref02_SameEvent.mono)); (focus intro y0 y1 y2 y3 y4 y5 y6; (unfold theorboref02_Same.l0); (repeat' first | (with_reducible first | apply ih0 | apply ih1 | apply theorboref01_Same.mono | apply theorboref02_SameEvent.mono | exact LeO.refl _ | exact LeO.none _ | refine LeO.ite ?_ ?_ | refine LeO.bind ?_ fun _ => ?_) | exact LeO.none _ | refine LeO.ite ?_ ?_ | refine LeO.bind ?_ fun _ => ?_ | apply ih0 | apply ih1 | apply theorboref01_Same.mono | apply theorboref02_SameEvent.mono))
theorem theorboref02_Same.mono : ∀ a0 a1 a2 a3 a4 a5 k, LeO (theorboref02_Same.f k a0 a1 a2 a3 a4 a5) (theorboref02_Same.f (k + 1) a0 a1 a2 a3 a4 a5) := by
  intro a0 a1 a2 a3 a4 a5 k
  obtain ⟨ih0, ih1⟩ := theorboref02_Same.mono_l k
  unfold theorboref02_Same.f
  repeat' first | (with_reducible first | apply ih0 | apply ih1 | apply theorboref01_Same.mono | apply theorboref02_SameEvent.mono | exact LeO.refl _ | exact LeO.none _ | refine LeO.ite ?_ ?_ | refine LeO.bind ?_ fun _ => ?_) | exact LeO.none _ | refine LeO.ite ?_ ?_ | refine LeO.bind ?_ fun _ => ?_ | apply ih0 | apply ih1 | apply theorboref01_Same.mono | apply theorboref02_SameEvent.mono
def theorboref02_Same.T6 : Bool × List (List Nat × List Nat) := (true, [([], []), ([0], [0]), ([], []), ([1, 2], [1, 2]), ([3], [3]), ([], []), ([5], [5]), ([], []), ([6, 7], [6, 7]), ([8], [8]), ([4, 9], [4, 9]), ([10], [10])])
def theorboref02_Same.B6 : List Nat := [0, 1, 0, 7, 15, 0, 32, 0, 224, 480, 1023, 2047]
theorem theorboref02_Same.tab6 : rtab .any (opsOf Tryz.f13 6) = theorboref02_Same.T6 := by kernel_rfl
theorem theorboref02_Same.bits6 : waitsOk theorboref02_Same.T6.2 theorboref02_Same.B6 = true := by kernel_rfl
set_option maxHeartbeats 8000000 in
set_option maxRecDepth 100000 in
theorem theorboref02_Same.calls (k : Nat) (A0_0 : Option Addr) (c0_0 : Nat) (l0_0 : List (S99)) (A0_1 : Option Addr) (c0_1 : Nat) (l0_1 : List Int) (A0_2 : Option Addr) (c0_2 : Nat) (l0_2 : List (S46)) (A1_0 : Option Addr) (c1_0 : Nat) (l1_0 : List (S99)) (A1_1 : Option Addr) (c1_1 : Nat) (l1_1 : List Int) (A1_2 : Option Addr) (c1_2 : Nat) (l1_2 : List (S46)) (r : Bool) (w : World) (hr0_0 : Kd.C k99 w A0_0 l0_0.length l0_0) (hc0_0 : l0_0.length ≤ c0_0) (hr0_1 : Kd.C (Kd.int .i64) w A0_1 l0_1.length l0_1) (hc0_1 : l0_1.length ≤ c0_1) (hr0_2 : Kd.C k46 w A0_2 l0_2.length l0_2) (hc0_2 : l0_2.length ≤ c0_2) (hr1_0 : Kd.C k99 w A1_0 l1_0.length l1_0) (hc1_0 : l1_0.length ≤ c1_0) (hr1_1 : Kd.C (Kd.int .i64) w A1_1 l1_1.length l1_1) (hc1_1 : l1_1.length ≤ c1_1) (hr1_2 : Kd.C k46 w A1_2 l1_2.length l1_2) (hc1_2 : l1_2.length ≤ c1_2) (h : theorboref02_Same.f k l0_0 l0_1 l0_2 l1_0 l1_1 l1_2 = some r) :
    Calls Tryz.prog 13 #[.agg #[.slice A0_0 l0_0.length c0_0, .slice A0_1 l0_1.length c0_1, .slice A0_2 l0_2.length c0_2], .agg #[.slice A1_0 l1_0.length c1_0, .slice A1_1 l1_1.length c1_1, .slice A1_2 l1_2.length c1_2]] w fun e w' => e = .returned (.bool r) ∧ Below w.heap.size w w' := by
  have hu29 := Tryz.underlying29
  have hu26 := Tryz.underlying26
  have hu46 := Tryz.underlying46
  have HR0_0 := Aside0.mk hr0_0
  have HC0_0 := Aside0.mk hc0_0
  clear hr0_0 hc0_0
  have HR0_1 := Aside0.mk hr0_1
  have HC0_1 := Aside0.mk hc0_1
  clear hr0_1 hc0_1
  have HR0_2 := Aside0.mk hr0_2
  have HC0_2 := Aside0.mk hc0_2
  clear hr0_2 hc0_2
  have HR1_0 := Aside0.mk hr1_0
  have HC1_0 := Aside0.mk hc1_0
  clear hr1_0 hc1_0
  have HR1_1 := Aside0.mk hr1_1
  have HC1_1 := Aside0.mk hc1_1
  clear hr1_1 hc1_1
  have HR1_2 := Aside0.mk hr1_2
  have HC1_2 := Aside0.mk hc1_2
  clear hr1_2 hc1_2
  have HB := Aside0.mk (Below.refl w.heap.size w)
  have H : ((theorboref01_Same.f k l0_0 l0_1 l1_0 l1_1).bind fun t715 => (if t715 = true then (theorboref02_Same.j0 k ((l0_2.length : Int) != (l1_2.length : Int)) l0_0 l0_1 l0_2 l1_0 l1_1 l1_2) else (theorboref02_Same.j0 k true l0_0 l0_1 l0_2 l1_0 l1_1 l1_2))) = some r := h
  clear h
  have HC3 := Aside0.mk H
  clear H
  go_enter Tryz.func13, Tryz.ntmps13
  go_upto_region 1 with (first | ((with_reducible refine gate_dst (N := 2) rfl ?_); (try (refine gate_guard (by rfl) ?_; dsimp only)); refine bx_ 2 #[.slice A0_0 l0_0.length c0_0, .slice A0_1 l0_1.length c0_1, .slice A0_2 l0_2.length c0_2] 29 HB ?_; clear HB; intro gb713 w4 hg hb BK713 HB GW713; have GE713 := GW713; clear hg hb) | ((with_reducible refine gate_dst (N := 3) rfl ?_); (try (refine gate_guard (by rfl) ?_; dsimp only)); refine bx_ 3 #[.slice A1_0 l1_0.length c1_0, .slice A1_1 l1_1.length c1_1, .slice A1_2 l1_2.length c1_2] 29 HB ?_; clear HB; intro gb714 w5 hg hb BK714 HB GW714; have GE714 := GW714; have NB713_714 := nl_ BK713 hg; have NB714_713 := ng_ BK713 hg; replace BK713 := bb_ BK713 hb; clear hg hb))
  (try simp only [Act.put, List.setIfInBounds_toArray, List.set_cons_zero, List.set_cons_succ])
  go_cut [20] (fun v20 wc => ∃ (kq : Nat) (x20_2 : Bool), v20 = .bool x20_2 ∧ Aside0 (theorboref02_Same.j0 kq x20_2 l0_0 l0_1 l0_2 l1_0 l1_1 l1_2 = some r) ∧ Aside0 (kq ≤ k) ∧ Aside0 (wc.heap[gb713]? = some (.cells #[(.slice A0_0 l0_0.length c0_0), (.slice A0_1 l0_1.length c0_1), (.slice A0_2 l0_2.length c0_2)] 29 (0, 0))) ∧ Aside0 (wc.heap[gb714]? = some (.cells #[(.slice A1_0 l1_0.length c1_0), (.slice A1_1 l1_1.length c1_1), (.slice A1_2 l1_2.length c1_2)] 29 (0, 0))) ∧ Aside0 (Below w.heap.size w wc))
  case first =>
    (have H := HC3.out); clear HC3; (replace H := Option.bind_eq_some_iff.mp H); (obtain ⟨t715, A60, H⟩ := H); (try dsimp only at H); (have A6 := Aside0.mk A60); clear A60; (by_cases c7 : t715 = true)
    · subst c7
      (rw [if_pos rfl] at H); (have H' := Aside0.mk H); clear H; (have hnb8 := NB713_714.out); (have hnc8 := NB714_713.out); (have hcz9 := blk_cell BK713.out); (have hfz9 := blk_frozen BK713.out); (have hcz10 := blk_cell BK714.out); (have hfz10 := blk_frozen BK714.out); (go_wp2_with (first | ((with_reducible refine gate_callee (f := 27) rfl ?_); refine cl_ 27 (some 10) Tryz.func27 (theorboref01_Same.calls k _ _ l0_0 _ _ l0_1 _ _ l1_0 _ _ l1_1 true _ (kc_ HR0_0 HB) HC0_0.out (kc_ HR0_1 HB) HC0_1.out (kc_ HR1_0 HB) HC1_0.out (kc_ HR1_1 HB) HC1_1.out A6.out) ?_; rintro e w11 ⟨rfl, hb⟩; refine ⟨_, rfl, ?_⟩; replace BK713 := bb_ BK713 hb; replace BK714 := bb_ BK714 hb; replace HB := bs_ HB hb; (try clear hb); (try clear hb2); (try clear hk); (try clear hi); have hcz12 := blk_cell BK713.out; have hfz12 := blk_frozen BK713.out; have hcz13 := blk_cell BK714.out; have hfz13 := blk_frozen BK714.out))); (go_meet)
      case rel => exact ⟨_, (((l0_2.length : Int) != (l1_2.length : Int))), (rs_), H', ⟨om_⟩, ⟨bk_ BK713⟩, ⟨bk_ BK714⟩, ⟨bl_ HB⟩⟩
    · replace c7 := Bool.eq_false_iff.mpr c7
      subst c7; (rw [if_neg Bool.false_ne_true] at H); (have H' := Aside0.mk H); clear H; (have hnb14 := NB713_714.out); (have hnc14 := NB714_713.out); (have hcz15 := blk_cell BK713.out); (have hfz15 := blk_frozen BK713.out); (have hcz16 := blk_cell BK714.out); (have hfz16 := blk_frozen BK714.out); (go_wp2_with (first | ((with_reducible refine gate_callee (f := 27) rfl ?_); refine cl_ 27 (some 10) Tryz.func27 (theorboref01_Same.calls k _ _ l0_0 _ _ l0_1 _ _ l1_0 _ _ l1_1 false _ (kc_ HR0_0 HB) HC0_0.out (kc_ HR0_1 HB) HC0_1.out (kc_ HR1_0 HB) HC1_0.out (kc_ HR1_1 HB) HC1_1.out A6.out) ?_; rintro e w17 ⟨rfl, hb⟩; refine ⟨_, rfl, ?_⟩; replace BK713 := bb_ BK713 hb; replace BK714 := bb_ BK714 hb; replace HB := bs_ HB hb; (try clear hb); (try clear hb2); (try clear hk); (try clear hi)))); (go_meet)
      case rel => exact ⟨_, (true), (rs_), H', ⟨om_⟩, ⟨bk_ BK713⟩, ⟨bk_ BK714⟩, ⟨bl_ HB⟩⟩
  case rest =>
    clear HC3; (obtain ⟨kq, x20_2, rfl, HA, HJ2, BK713, BK714, HB⟩ := hcut)
    cases kq with
    | zero => exact absurd HA.out (by simp [theorboref02_Same.j0])
    | succ kj2 =>
      (have H := HA.out); clear HA; (simp only [theorboref02_Same.j0] at H); (by_cases c18 : x20_2 = true)
      · subst c18
        (rw [if_pos rfl] at H); (obtain rfl := Option.some.inj H); (go_wp2); (go_ret); (exact ⟨rv_, bl_ HB⟩)
      · replace c18 := Bool.eq_false_iff.mpr c18
        subst c18; (rw [if_neg Bool.false_ne_true] at H); (have H' := Aside0.mk H); clear H; (go_wp2); (go_loopg [5] kj2 (fun kq v5 w' => ∃ (x5_2 : Int), v5 = .int .i64 x5_2 ∧ Aside0 (theorboref02_Same.l0 kq x5_2 l0_0 l0_1 l0_2 l1_0 l1_1 l1_2 = some r) ∧ Aside0 (kq ≤ kj2) ∧ Aside0 (w'.heap[gb713]? = some (.cells #[(.slice A0_0 l0_0.length c0_0), (.slice A0_1 l0_1.length c0_1), (.slice A0_2 l0_2.length c0_2)] 29 (0, 0))) ∧ Aside0 (w'.heap[gb714]? = some (.cells #[(.slice A1_0 l1_0.length c1_0), (.slice A1_1 l1_1.length c1_1), (.slice A1_2 l1_2.length c1_2)] 29 (0, 0))) ∧ Aside0 (Below w.heap.size w w')))
        case atStart => exact ⟨(0), (rs_), H', ⟨Nat.le_refl _⟩, ⟨bk_ BK713⟩, ⟨bk_ BK714⟩, ⟨bl_ HB⟩⟩
        case round =>
          clear H'; (try clear c18); (obtain ⟨x5_2, rfl, HA, HK2, BK713, BK714, HB⟩ := hrel)
          cases gk with
          | zero => exact absurd HA.out (by simp [theorboref02_Same.l0])
          | succ k2 =>
            (have H := HA.out); clear HA; (simp only [theorboref02_Same.l0] at H); (have HC19 := Aside0.mk H); clear H; (have hnb20 := NB713_714.out); (have hnc20 := NB714_713.out); (have hcz21 := blk_cell BK713.out); (have hfz21 := blk_frozen BK713.out); (go_upto_if 25 with (fail)); (have H := HC19.out); clear HC19; (by_cases c22 : x5_2 < (l0_2.length : Int))
            · rw [if_pos c22] at H
              (have c22b0 := decide_eq_true c22); clear c22; ((first | rw [c22b0] | (simp only [i64_w, i32_w]; rw [c22b0]) | skip)); (by_cases c23 : 0 ≤ x5_2)
              · rw [if_pos c23] at H
                (have c23b0 := decide_eq_true c23); clear c23; (by_cases c24 : x5_2 < (l1_2.length : Int))
                · rw [if_pos c24] at H
                  (have c24b0 := decide_eq_true c24); clear c24; (replace H := Option.bind_eq_some_iff.mp H); (obtain ⟨t718, A250, H⟩ := H); (try dsimp only at H); (have A25 := Aside0.mk A250); clear A250; (have HC26 := Aside0.mk H); clear H; (try go_wp2); (replace BK713 := Aside0.mk (blk_drew BK713.out)); (replace BK714 := Aside0.mk (blk_drew BK714.out)); (replace HB := Aside0.mk (below_drew1 HB.out)); (have p716 : 0 ≤ (x5_2 : Int) := of_decide_eq_true (by first | (with_reducible assumption) | assumption)); (have q716 : x5_2 < (l0_2.length : Int) := of_decide_eq_true (by first | (with_reducible assumption) | assumption)); (obtain ⟨ad716, A716_5, c716_5, e716, hx716_0, hx716_1, hx716_2, hx716_3, hx716_4, hx716_5, hl716_5, hi716_5⟩ := at_T46 HR0_2.out x5_2 p716 q716); (have hw716_5 := hx716_5); (have hw716_4 := hx716_4); (have hw716_3 := hx716_3); (have hw716_2 := hx716_2); (have hw716_1 := hx716_1); (have hw716_0 := hx716_0)
                  cases e716
                  (replace hx716_0 := pw_cell_below HB.out hx716_0); (replace hx716_1 := pw_cell_below HB.out hx716_1); (replace hx716_2 := pw_cell_below HB.out hx716_2); (replace hx716_3 := pw_cell_below HB.out hx716_3); (replace hx716_4 := pw_cell_below HB.out hx716_4); (replace hx716_5 := pw_cell_below HB.out hx716_5); (have HR716_5 := Aside0.mk hi716_5); (have HC716_5 := Aside0.mk hl716_5); clear hi716_5 hl716_5; (replace p716 := eq_true p716); (replace q716 := eq_true q716); (have p717 : 0 ≤ (x5_2 : Int) := of_decide_eq_true (by first | (with_reducible assumption) | assumption)); (have q717 : x5_2 < (l1_2.length : Int) := of_decide_eq_true (by first | (with_reducible assumption) | assumption)); (obtain ⟨ad717, A717_5, c717_5, e717, hx717_0, hx717_1, hx717_2, hx717_3, hx717_4, hx717_5, hl717_5, hi717_5⟩ := at_T46 HR1_2.out x5_2 p717 q717); (have hw717_5 := hx717_5); (have hw717_4 := hx717_4); (have hw717_3 := hx717_3); (have hw717_2 := hx717_2); (have hw717_1 := hx717_1); (have hw717_0 := hx717_0)
                  cases e717
                  (replace hx717_0 := pw_cell_below HB.out hx717_0); (replace hx717_1 := pw_cell_below HB.out hx717_1); (replace hx717_2 := pw_cell_below HB.out hx717_2); (replace hx717_3 := pw_cell_below HB.out hx717_3); (replace hx717_4 := pw_cell_below HB.out hx717_4); (replace hx717_5 := pw_cell_below HB.out hx717_5); (have HR717_5 := Aside0.mk hi717_5); (have HC717_5 := Aside0.mk hl717_5); clear hi717_5 hl717_5; (replace p717 := eq_true p717); (replace q717 := eq_true q717); (refine start_ (n := 12) (S := fun w' => w'.cell? ⟨gb713, 0, none⟩ = some (.slice A0_0 l0_0.length c0_0) ∧ w'.cell? ⟨gb713, 1, none⟩ = some (.slice A0_1 l0_1.length c0_1) ∧ w'.cell? ⟨gb713, 2, none⟩ = some (.slice (some ad716) l0_2.length c0_2) ∧ w'.cell? ⟨gb714, 0, none⟩ = some (.slice A1_0 l1_0.length c1_0) ∧ w'.cell? ⟨gb714, 1, none⟩ = some (.slice A1_1 l1_1.length c1_1) ∧ w'.cell? ⟨gb714, 2, none⟩ = some (.slice (some ad717) l1_2.length c1_2) ∧ w'.cell? (ad716.add ((x5_2).toNat * 6)) = some (.bool ((rd_T46 l0_2 x5_2).f0)) ∧ w'.cell? ⟨(ad716.add ((x5_2).toNat * 6)).block, (ad716.add ((x5_2).toNat * 6)).off + 1, none⟩ = some (.int .i64 ((rd_T46 l0_2 x5_2).f1.f0)) ∧ w'.cell? ⟨(ad716.add ((x5_2).toNat * 6)).block, (ad716.add ((x5_2).toNat * 6)).off + 2, none⟩ = some (.bool ((rd_T46 l0_2 x5_2).f1.f1)) ∧ w'.cell? ⟨(ad716.add ((x5_2).toNat * 6)).block, (ad716.add ((x5_2).toNat * 6)).off + 3, none⟩ = some (.bool ((rd_T46 l0_2 x5_2).f1.f2)) ∧ w'.cell? ⟨(ad716.add ((x5_2).toNat * 6)).block, (ad716.add ((x5_2).toNat * 6)).off + 4, none⟩ = some (.bool ((rd_T46 l0_2 x5_2).f2)) ∧ w'.cell? ⟨(ad716.add ((x5_2).toNat * 6)).block, (ad716.add ((x5_2).toNat * 6)).off + 5, none⟩ = some (.slice A716_5 ((rd_T46 l0_2 x5_2).f3).length c716_5) ∧ w'.cell? (ad717.add ((x5_2).toNat * 6)) = some (.bool ((rd_T46 l1_2 x5_2).f0)) ∧ w'.cell? ⟨(ad717.add ((x5_2).toNat * 6)).block, (ad717.add ((x5_2).toNat * 6)).off + 1, none⟩ = some (.int .i64 ((rd_T46 l1_2 x5_2).f1.f0)) ∧ w'.cell? ⟨(ad717.add ((x5_2).toNat * 6)).block, (ad717.add ((x5_2).toNat * 6)).off + 2, none⟩ = some (.bool ((rd_T46 l1_2 x5_2).f1.f1)) ∧ w'.cell? ⟨(ad717.add ((x5_2).toNat * 6)).block, (ad717.add ((x5_2).toNat * 6)).off + 3, none⟩ = some (.bool ((rd_T46 l1_2 x5_2).f1.f2)) ∧ w'.cell? ⟨(ad717.add ((x5_2).toNat * 6)).block, (ad717.add ((x5_2).toNat * 6)).off + 4, none⟩ = some (.bool ((rd_T46 l1_2 x5_2).f2)) ∧ w'.cell? ⟨(ad717.add ((x5_2).toNat * 6)).block, (ad717.add ((x5_2).toNat * 6)).off + 5, none⟩ = some (.slice A717_5 ((rd_T46 l1_2 x5_2).f3).length c717_5)) (ds := []) _ (by kernel_rfl) rfl rfl ⟨(blk_cell BK713.out 0).trans rfl, (blk_cell BK713.out 1).trans rfl, (blk_cell BK713.out 2).trans rfl, (blk_cell BK714.out 0).trans rfl, (blk_cell BK714.out 1).trans rfl, (blk_cell BK714.out 2).trans rfl, (pw_cell_below HB.out hw716_0), (pw_cell_below HB.out hw716_1), (pw_cell_below HB.out hw716_2), (pw_cell_below HB.out hw716_3), (pw_cell_below HB.out hw716_4), (pw_cell_below HB.out hw716_5), (pw_cell_below HB.out hw717_0), (pw_cell_below HB.out hw717_1), (pw_cell_below HB.out hw717_2), (pw_cell_below HB.out hw717_3), (pw_cell_below HB.out hw717_4), (pw_cell_below HB.out hw717_5)⟩ (fun hHeld => ?_); refine with_tabW theorboref02_Same.tab6 theorboref02_Same.bits6 (fun HT_ HW_ => ?_)); (generalize wr.drew = w27 at BK713 BK714 HB HR716_5 HR717_5 hx716_0 hx716_1 hx716_2 hx716_3 hx716_4 hx716_5 hx717_0 hx717_1 hx717_2 hx717_3 hx717_4 hx717_5 hHeld ⊢); (refine pS_ 0 (some 28) HT_ ?_); (refine pS_ 2 (some 30) HT_ ?_); (refine pS_ 5 (some 33) HT_ ?_); (refine pS_ 7 (some 35) HT_ ?_); (refine tS_ 1 (some 29) HT_ HW_ hHeld ?_); (refine pS_ 3 (some 31) HT_ ?_); (refine tS_ 4 (some 32) HT_ HW_ hHeld ?_); (refine tS_ 6 (some 34) HT_ HW_ hHeld ?_); (refine pS_ 8 (some 36) HT_ ?_); (refine tS_ 9 (some 37) HT_ HW_ hHeld ?_); (refine oS_ 10 (some 38) HT_ (fun K hK => ?_)); (refine goes_ Tryz.func28 (by kernel_rfl) rfl #[.agg #[.bool ((rd_T46 l0_2 x5_2).f0), .int .i64 ((rd_T46 l0_2 x5_2).f1.f0), .bool ((rd_T46 l0_2 x5_2).f1.f1), .bool ((rd_T46 l0_2 x5_2).f1.f2), .bool ((rd_T46 l0_2 x5_2).f2), .slice A716_5 ((rd_T46 l0_2 x5_2).f3).length c716_5], .agg #[.bool ((rd_T46 l1_2 x5_2).f0), .int .i64 ((rd_T46 l1_2 x5_2).f1.f0), .bool ((rd_T46 l1_2 x5_2).f1.f1), .bool ((rd_T46 l1_2 x5_2).f1.f2), .bool ((rd_T46 l1_2 x5_2).f2), .slice A717_5 ((rd_T46 l1_2 x5_2).f3).length c717_5]] (by rfl) rfl rfl (by (try simp only [mA_, mB_, mC_]); first | done | rfl | (simp only [List.length_drop, List.length_take]; rfl)) ?_); (with_reducible refine (theorboref02_SameEvent.calls k2 ((rd_T46 l0_2 x5_2).f0) ((rd_T46 l0_2 x5_2).f1.f0) ((rd_T46 l0_2 x5_2).f1.f1) ((rd_T46 l0_2 x5_2).f1.f2) ((rd_T46 l0_2 x5_2).f2) _ _ ((rd_T46 l0_2 x5_2).f3) ((rd_T46 l1_2 x5_2).f0) ((rd_T46 l1_2 x5_2).f1.f0) ((rd_T46 l1_2 x5_2).f1.f1) ((rd_T46 l1_2 x5_2).f1.f2) ((rd_T46 l1_2 x5_2).f2) _ _ ((rd_T46 l1_2 x5_2).f3) t718 _ ?side1 ?side2 ?side3 ?side4 A25.out).mono ?_); ((case side1 => exact kc_ HR716_5 HB)); ((case side2 => exact HC716_5.out)); ((case side3 => exact kc_ HR717_5 HB)); ((case side4 => exact HC717_5.out)); (rintro e w28 ⟨rfl, hb⟩); (refine ⟨_, rfl, ?_⟩); (replace BK713 := bb_ BK713 hb); (replace BK714 := bb_ BK714 hb); (replace HB := bs_ HB hb); ((try clear hb)); ((try clear hb2)); ((try clear hk)); ((try clear hi)); (refine hK.out _ _ ⟨(blk_cell BK713.out 0).trans rfl, (blk_cell BK713.out 1).trans rfl, (blk_cell BK713.out 2).trans rfl, (blk_cell BK714.out 0).trans rfl, (blk_cell BK714.out 1).trans rfl, (blk_cell BK714.out 2).trans rfl, (pw_cell_below HB.out hw716_0), (pw_cell_below HB.out hw716_1), (pw_cell_below HB.out hw716_2), (pw_cell_below HB.out hw716_3), (pw_cell_below HB.out hw716_4), (pw_cell_below HB.out hw716_5), (pw_cell_below HB.out hw717_0), (pw_cell_below HB.out hw717_1), (pw_cell_below HB.out hw717_2), (pw_cell_below HB.out hw717_3), (pw_cell_below HB.out hw717_4), (pw_cell_below HB.out hw717_5)⟩ (fun hHeld => ?_)); clear hK K; (refine nS_ (some 38) ?_); (refine pS_ 11 (some 39) HT_ ?_); (refine done_ (done_of HT_.out (by kernel_rfl)) ?_); (go_upto_if 39 with (fail)); (have H := HC26.out); clear HC26; (by_cases c29 : t718 = true)
                  · subst c29
                    (rw [if_pos rfl] at H); (have H' := Aside0.mk H); clear H; (go_wp2); (go_roundg k2)
                    case measure => have := HJ2.out; have := HK2.out; omega
                    case rel => exact ⟨(wrap64 (x5_2 + 1)), (rs_), H', ⟨by have := HJ2.out; have := HK2.out; omega⟩, ⟨bk_ BK713⟩, ⟨bk_ BK714⟩, ⟨bl_ HB⟩⟩
                  · replace c29 := Bool.eq_false_iff.mpr c29
                    subst c29; (rw [if_neg Bool.false_ne_true] at H); (obtain rfl := Option.some.inj H); (go_wp2); (go_ret); (exact ⟨rv_, bl_ HB⟩)
                · rw [if_neg c24] at H
                  exact absurd H (by simp)
              · rw [if_neg c23] at H
                exact absurd H (by simp)
            · rw [if_neg c22] at H
              (have c22b0 := decide_eq_false c22); clear c22; ((first | rw [c22b0] | (simp only [i64_w, i32_w]; rw [c22b0]) | skip)); (obtain rfl := Option.some.inj H); (go_wp2); (go_ret); (exact ⟨rv_, bl_ HB⟩)

end Go.Proofs.YtocpcofihlcnoaaGreat.PNL
