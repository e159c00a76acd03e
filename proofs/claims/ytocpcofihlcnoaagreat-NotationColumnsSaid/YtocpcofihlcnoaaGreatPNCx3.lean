-- made by xprint.py (ours) out of the translation
import Derived.Test.YtocpcofihlcnoaaGreatPNCx0
namespace Go.Proofs.YtocpcofihlcnoaaGreat.PNC
open Go.RowKit Go.Proofs.YtocpcofihlcnoaaGreatW.PrintWords Go.Proofs.YtocpcofihlcnoaaGreatW.PrintLast Go.Proofs.YtocpcofihlcnoaaGreatW.PrintMore
attribute [local go_sem] max2_int min2_int max_two min_two max_three min_three max_four min_four   -- for this text's walks alone
set_option linter.unusedVariables false
set_option linter.unusedSimpArgs false

/-! ### notation_of: function 21, told by hand -/
/-- The system of a number, if there is one. -/
def notation_of.f (a0 : Int) : Option (Int × Bool) := if a0 = 1 then some (1, true) else if a0 = 2 then some (2, true) else if a0 = 3 then some (3, true) else if a0 = 4 then some (4, true) else some (0, false)
set_option maxHeartbeats 800000 in
theorem notation_of.calls (a0 : Int) (r1 : Int) (r2 : Bool) (w : World) (h : notation_of.f a0 = some (r1, r2)) :
    Calls Tryz.prog 21 #[.int .u8 a0] w fun e w' => e = .returned (.tuple #[sysW r1, .bool r2]) ∧ Drawn0 w w' := by
  unfold notation_of.f at h
  by_cases h1 : a0 = 1
  · subst h1
    obtain ⟨rfl, rfl⟩ := Prod.mk.inj (Option.some.inj h)
    go_enter Tryz.func21, Tryz.ntmps21
    go_wp2
    go_ret2
    exact ⟨rfl, ⟨0, rfl⟩⟩
  have b1 : (a0 == 1) = false := beq_eq_false_iff_ne.2 h1
  rw [if_neg h1] at h
  by_cases h2 : a0 = 2
  · subst h2
    obtain ⟨rfl, rfl⟩ := Prod.mk.inj (Option.some.inj h)
    go_enter Tryz.func21, Tryz.ntmps21
    go_wp2
    go_ret2
    exact ⟨rfl, ⟨0, rfl⟩⟩
  have b2 : (a0 == 2) = false := beq_eq_false_iff_ne.2 h2
  rw [if_neg h2] at h
  by_cases h3 : a0 = 3
  · subst h3
    obtain ⟨rfl, rfl⟩ := Prod.mk.inj (Option.some.inj h)
    go_enter Tryz.func21, Tryz.ntmps21
    go_wp2
    go_ret2
    exact ⟨rfl, ⟨0, rfl⟩⟩
  have b3 : (a0 == 3) = false := beq_eq_false_iff_ne.2 h3
  rw [if_neg h3] at h
  by_cases h4 : a0 = 4
  · subst h4
    obtain ⟨rfl, rfl⟩ := Prod.mk.inj (Option.some.inj h)
    go_enter Tryz.func21, Tryz.ntmps21
    go_wp2
    go_ret2
    exact ⟨rfl, ⟨0, rfl⟩⟩
  have b4 : (a0 == 4) = false := beq_eq_false_iff_ne.2 h4
  rw [if_neg h4] at h
  obtain ⟨rfl, rfl⟩ := Prod.mk.inj (Option.some.inj h)
  clear h1 h2 h3 h4
  go_enter Tryz.func21, Tryz.ntmps21
  go_wp2
  go_ret2
  exact ⟨rfl, ⟨0, rfl⟩⟩

/-! ### notation_placed: function 31 -/
def notation_placed.j0 : Nat → Int → Int → Bool → Option (Int × Int)
  | 0, _, _, _ => none
  | k + 1, x2, x8, x18 => if x18 = true then (some (0, 12)) else (if x2 < 0 then (some (0, 13)) else (if x2 > 18 then (some (0, 13)) else (some (x8, 0))))
def notation_placed.f (k : Nat) (a0 : Int) (a1 : Int) (a2 : Int) : Option (Int × Int) := (notation_of.f a0).bind fun bt103 => (if bt103.2 = true then (if a1 < 1 then (notation_placed.j0 k a2 bt103.1 true) else (notation_placed.j0 k a2 bt103.1 (decide (a1 > 14)))) else (some (0, 30)))
theorem notation_placed.mono_l : ∀ k, (∀ y0 y1 y2, LeO (notation_placed.j0 k y0 y1 y2) (notation_placed.j0 (k + 1) y0 y1 y2))
  | 0 => fun _ _ _ r h => by simp [notation_placed.j0] at h
  | k + 1 => by
    (have ih0 := notation_placed.mono_l k); (focus intro y0 y1 y2; (unfold notation_placed.j0); (repeat' first | (with_reducible first | apply ih0 | exact LeO.refl _ | exact LeO.none _ | refine LeO.ite ?_ ?_ | refine LeO.bind ?_ fun _ => ?_) | exact LeO.none _ | refine LeO.ite ?_ ?_ | refine LeO.bind ?_ fun _ => ?_ | apply ih0))
theorem notation_placed.mono : ∀ a0 a1 a2 k, LeO (notation_placed.f k a0 a1 a2) (notation_placed.f (k + 1) a0 a1 a2) := by
  intro a0 a1 a2 k
  have ih0 := notation_placed.mono_l k
  unfold notation_placed.f
  repeat' first | (with_reducible first | apply ih0 | exact LeO.refl _ | exact LeO.none _ | refine LeO.ite ?_ ?_ | refine LeO.bind ?_ fun _ => ?_) | exact LeO.none _ | refine LeO.ite ?_ ?_ | refine LeO.bind ?_ fun _ => ?_ | apply ih0
set_option maxHeartbeats 8000000 in
set_option maxRecDepth 100000 in
theorem notation_placed.calls (k : Nat) (a0 : Int) (a1 : Int) (a2 : Int) (r1 : Int) (r2 : Int) (w : World) (h : notation_placed.f k a0 a1 a2 = some (r1, r2)) :
    Calls Tryz.prog 31 #[.int .u8 a0, .int .i64 a1, .int .i64 a2] w fun e w' => e = .returned (.tuple #[sysW r1, .int .i64 r2]) ∧ Drawn0 w w' := by
  have H : ((notation_of.f a0).bind fun bt103 => (if bt103.2 = true then (if a1 < 1 then (notation_placed.j0 k a2 bt103.1 true) else (notation_placed.j0 k a2 bt103.1 (decide (a1 > 14)))) else (some (0, 30)))) = some (r1, r2) := h
  clear h
  replace H := Option.bind_eq_some_iff.mp H
  obtain ⟨⟨t103, t104⟩, A40, H⟩ := H
  try dsimp only at H
  have A4 := Aside0.mk A40
  clear A40
  have HC5 := Aside0.mk H
  clear H
  go_enter Tryz.func31, Tryz.ntmps31
  go_upto_if 15 with (first | ((with_reducible refine gate_callee (f := 21) rfl ?_); refine cl_ 21 (some 12) Tryz.func21 (notation_of.calls a0 t103 t104 _ A4.out) ?_; rintro e w' ⟨rfl, ⟨nd, rfl⟩⟩; refine ⟨_, rfl, ?_⟩))
  (try simp only [Act.put, List.setIfInBounds_toArray, List.set_cons_zero, List.set_cons_succ])
  have H := HC5.out
  clear HC5
  by_cases c6 : t104 = true
  · subst c6
    (rw [if_pos rfl] at H); (have HC7 := Aside0.mk H); clear H; (go_upto_region 4 with (fail)); (go_cut [18] (fun v18 wc => ∃ (kq : Nat) (x18_6 : Bool), v18 = .bool x18_6 ∧ Aside0 (notation_placed.j0 kq a2 t103 x18_6 = some (r1, r2)) ∧ Aside0 (kq ≤ k) ∧ Drawn0 w wc))
    case first =>
      (have H := HC7.out); clear HC7; (by_cases c8 : a1 < 1)
      · rw [if_pos c8] at H
        (have c8b0 := decide_eq_true c8); clear c8; ((first | rw [c8b0] | (simp only [i64_w, i32_w]; rw [c8b0]) | skip)); (have H' := Aside0.mk H); clear H; (go_wp2); (go_meet)
        case rel => exact ⟨_, (true), (rs_), H', ⟨om_⟩, dr_⟩
      · rw [if_neg c8] at H
        (have c8b0 := decide_eq_false c8); clear c8; ((first | rw [c8b0] | (simp only [i64_w, i32_w]; rw [c8b0]) | skip)); (have H' := Aside0.mk H); clear H; (go_wp2); (go_meet)
        case rel => exact ⟨_, (decide (a1 > 14)), (rs_), H', ⟨om_⟩, dr_⟩
    case rest =>
      clear HC7; (try clear c6); (obtain ⟨kq, x18_6, rfl, HA, HJ6, ⟨mc6, rfl⟩⟩ := hcut)
      cases kq with
      | zero => exact absurd HA.out (by simp [notation_placed.j0])
      | succ kj6 =>
        (have H := HA.out); clear HA; (simp only [notation_placed.j0] at H); (by_cases c9 : x18_6 = true)
        · subst c9
          (rw [if_pos rfl] at H); (simp only [Option.some.injEq, Prod.mk.injEq] at H); (obtain ⟨rfl, rfl⟩ := H); (go_wp2); (go_ret2); (exact ⟨rs_, dr_⟩)
        · replace c9 := Bool.eq_false_iff.mpr c9
          subst c9; (rw [if_neg Bool.false_ne_true] at H); (by_cases c10 : a2 < 0)
          · rw [if_pos c10] at H
            (have c10b0 := decide_eq_true c10); clear c10; (simp only [Option.some.injEq, Prod.mk.injEq] at H); (obtain ⟨rfl, rfl⟩ := H); (go_wp2); (go_ret2); (exact ⟨rs_, dr_⟩)
          · rw [if_neg c10] at H
            (have c10b0 := decide_eq_false c10); clear c10; (by_cases c11 : a2 > 18)
            · rw [if_pos c11] at H
              (have c11b0 : decide (18 < a2) = true := decide_eq_true c11); clear c11; (simp only [Option.some.injEq, Prod.mk.injEq] at H); (obtain ⟨rfl, rfl⟩ := H); (go_wp2); (go_ret2); (exact ⟨rs_, dr_⟩)
            · rw [if_neg c11] at H
              (have c11b0 : decide (18 < a2) = false := decide_eq_false c11); clear c11; (simp only [Option.some.injEq, Prod.mk.injEq] at H); (obtain ⟨rfl, rfl⟩ := H); (go_wp2); (go_ret2); (exact ⟨rs_, dr_⟩)
  · replace c6 := Bool.eq_false_iff.mpr c6
    subst c6; (rw [if_neg Bool.false_ne_true] at H); (simp only [Option.some.injEq, Prod.mk.injEq] at H); (obtain ⟨rfl, rfl⟩ := H); (go_wp2); (go_ret2); (exact ⟨rs_, dr_⟩)

/-! ### strconv_Itoa: function 101, told by hand -/
/-- strconv.Itoa from 0 to 99 (the road without the table). -/
def strconv_Itoa.f (a0 : Int) : Option ByteArray := if 0 ≤ a0 then (if a0 < 100 then some ⟨(Lib.decDigits a0.toNat).toArray⟩ else none) else none
theorem strconv_Itoa.calls (a0 : Int) (r : ByteArray) (w : World) (h : strconv_Itoa.f a0 = some r) :
    Calls Tryz.prog 101 #[.int .i64 a0] w fun e w' => e = .returned (.string r) ∧ Drawn0 w w' := by
  unfold strconv_Itoa.f at h
  by_cases h0 : 0 ≤ a0
  · by_cases h1 : a0 < 100
    · rw [if_pos h0, if_pos h1] at h
      obtain rfl := Option.some.inj h
      obtain ⟨n, rfl⟩ := Int.eq_ofNat_of_zero_le h0
      exact (Go.Proofs.Tryz.strconv_Itoa_small n (by omega) w).mono fun e w' hh => ⟨hh.1, ⟨0, hh.2⟩⟩
    · rw [if_pos h0, if_neg h1] at h
      cases h
  · rw [if_neg h0] at h
    cases h

/-! ### strings_Repeat: function 102, told by hand -/
/-- strings.Repeat from 0 on. -/
def strings_Repeat.f (a0 : ByteArray) (a1 : Int) : Option ByteArray := if 0 ≤ a1 then (if a0.size * a1.toNat ≤ 140737488355328 then (if a1 ≤ 9223372036854775807 then some ⟨(Lib.repeatL a0.data.toList a1.toNat).toArray⟩ else none) else none) else none
theorem strings_Repeat.calls (a0 : ByteArray) (a1 : Int) (r : ByteArray) (w : World) (h : strings_Repeat.f a0 a1 = some r) :
    Calls Tryz.prog 102 #[.string a0, .int .i64 a1] w fun e w' => e = .returned (.string r) ∧ Below w.heap.size w w' := by
  unfold strings_Repeat.f at h
  by_cases h0 : 0 ≤ a1
  · by_cases h1 : a0.size * a1.toNat ≤ 140737488355328
    · by_cases h2 : a1 ≤ 9223372036854775807
      · rw [if_pos h0, if_pos h1, if_pos h2] at h
        obtain rfl := Option.some.inj h
        obtain ⟨n, rfl⟩ := Int.eq_ofNat_of_zero_le h0
        exact Go.Proofs.Tryz.strings_Repeat a0 n w (by omega) h1
      · rw [if_pos h0, if_pos h1, if_neg h2] at h
        cases h
    · rw [if_pos h0, if_neg h1] at h
      cases h
  · rw [if_neg h0] at h
    cases h

/-! ### notation_french_symbol: function 99 -/
def notation_french_symbol.f  (a1_0 : Int) (a1_1 : Int) : Option (ByteArray × Bool) := if a1_0 ≥ 11 then ((strconv_Itoa.f (wrap64 (a1_0 - 7))).bind fun t111 => (some (t111, (a1_1 == 0)))) else ((strings_Repeat.f (⟨#[47]⟩ : ByteArray) (mx (wrap64 (a1_0 - 7)) 0)).bind fun t112 => (if 0 ≤ a1_1 then (if a1_1 ≤ (wrap64 (a1_1 + 1)) then (if (wrap64 (a1_1 + 1)) ≤ 19 then (if t112.size + ((⟨#[97, 98, 99, 100, 101, 102, 103, 104, 105, 107, 108, 109, 110, 111, 112, 113, 114, 115, 116]⟩ : ByteArray).extract (a1_1 : Int).toNat ((wrap64 (a1_1 + 1)) : Int).toNat).size ≤ 9223372036854775807 then (some (t112 ++ ((⟨#[97, 98, 99, 100, 101, 102, 103, 104, 105, 107, 108, 109, 110, 111, 112, 113, 114, 115, 116]⟩ : ByteArray).extract (a1_1 : Int).toNat ((wrap64 (a1_1 + 1)) : Int).toNat), true)) else (none)) else (none)) else (none)) else (none)))
def notation_french_symbol.T2 : Bool × List (List Nat × List Nat) := (true, [([], []), ([0], [0]), ([1], [1]), ([2], [2]), ([], []), ([4], [4]), ([5], [5]), ([3, 3, 0, 1, 2, 3], [3]), ([6, 7, 0, 1, 2, 3, 4, 5, 6, 7], [6])])
def notation_french_symbol.B2 : List Nat := [0, 1, 3, 7, 0, 16, 48, 15, 255]
theorem notation_french_symbol.tab2 : rtab .any (opsOf Tryz.f99 2) = notation_french_symbol.T2 := by kernel_rfl
theorem notation_french_symbol.bits2 : waitsOk notation_french_symbol.T2.2 notation_french_symbol.B2 = true := by kernel_rfl
def notation_french_symbol.T3 : Bool × List (List Nat × List Nat) := (true, [([], []), ([0], [0]), ([1], [1]), ([2], [2]), ([3], [3]), ([], []), ([5], [5]), ([], []), ([7], [7]), ([8], [8]), ([6, 9], [6, 9]), ([4, 10], [4, 10]), ([11, 4, 0, 1, 2, 3, 4, 5, 6, 7, 8, 9, 10, 11], [11]), ([12, 0, 1, 2, 3, 4, 5, 6, 7, 8, 9, 10, 11, 12], [])])
def notation_french_symbol.B3 : List Nat := [0, 1, 3, 7, 15, 0, 32, 0, 128, 384, 992, 2047, 4095, 8191]
theorem notation_french_symbol.tab3 : rtab .any (opsOf Tryz.f99 3) = notation_french_symbol.T3 := by kernel_rfl
theorem notation_french_symbol.bits3 : waitsOk notation_french_symbol.T3.2 notation_french_symbol.B3 = true := by kernel_rfl
set_option maxHeartbeats 8000000 in
set_option maxRecDepth 100000 in
theorem notation_french_symbol.calls  (a1_0 : Int) (a1_1 : Int) (r1 : ByteArray) (r2 : Bool) (w : World) (h : notation_french_symbol.f a1_0 a1_1 = some (r1, r2)) :
    Calls Tryz.prog 99 #[.agg #[], .agg #[.int .i64 a1_0, .int .i64 a1_1]] w fun e w' => e = .returned (.tuple #[.string r1, .bool r2]) ∧ Below w.heap.size w w' := by
  have hu78 := Tryz.underlying78
  have hu49 := Tryz.underlying49
  have HB := Aside0.mk (Below.refl w.heap.size w)
  have H : (if a1_0 ≥ 11 then ((strconv_Itoa.f (wrap64 (a1_0 - 7))).bind fun t111 => (some (t111, (a1_1 == 0)))) else ((strings_Repeat.f (⟨#[47]⟩ : ByteArray) (mx (wrap64 (a1_0 - 7)) 0)).bind fun t112 => (if 0 ≤ a1_1 then (if a1_1 ≤ (wrap64 (a1_1 + 1)) then (if (wrap64 (a1_1 + 1)) ≤ 19 then (if t112.size + ((⟨#[97, 98, 99, 100, 101, 102, 103, 104, 105, 107, 108, 109, 110, 111, 112, 113, 114, 115, 116]⟩ : ByteArray).extract (a1_1 : Int).toNat ((wrap64 (a1_1 + 1)) : Int).toNat).size ≤ 9223372036854775807 then (some (t112 ++ ((⟨#[97, 98, 99, 100, 101, 102, 103, 104, 105, 107, 108, 109, 110, 111, 112, 113, 114, 115, 116]⟩ : ByteArray).extract (a1_1 : Int).toNat ((wrap64 (a1_1 + 1)) : Int).toNat), true)) else (none)) else (none)) else (none)) else (none)))) = some (r1, r2) := h
  clear h
  have HC3 := Aside0.mk H
  clear H
  go_enter Tryz.func99, Tryz.ntmps99
  go_upto_if 8 with (first | ((with_reducible refine gate_dst (N := 2) rfl ?_); refine bx_ 2 #[] 78 HB ?_; clear HB; intro gb109 w4 hg hb BK109 HB GW109; have GE109 := GW109; clear hg hb) | ((with_reducible refine gate_dst (N := 3) rfl ?_); refine bx_ 3 #[.int .i64 a1_0, .int .i64 a1_1] 49 HB ?_; clear HB; intro gb110 w5 hg hb BK110 HB GW110; have GE110 := GW110; have NB109_110 := nl_ BK109 hg; have NB110_109 := ng_ BK109 hg; replace BK109 := bb_ BK109 hb; clear hg hb; have hnb6 := NB110_109.out; have hnc6 := NB109_110.out; have hcz7 := blk_cell BK110.out; have hfz7 := blk_frozen BK110.out))
  (try simp only [Act.put, List.setIfInBounds_toArray, List.set_cons_zero, List.set_cons_succ])
  have H := HC3.out
  clear HC3
  by_cases c8 : a1_0 ≥ 11
  · rw [if_pos c8] at H
    (have c8b0 : decide (11 ≤ a1_0) = true := decide_eq_true c8); clear c8; ((first | rw [c8b0] | (simp only [i64_w, i32_w]; rw [c8b0]) | skip)); (replace H := Option.bind_eq_some_iff.mp H); (obtain ⟨t111, A90, H⟩ := H); (try dsimp only at H); (have A9 := Aside0.mk A90); clear A90; (simp only [Option.some.injEq, Prod.mk.injEq] at H); (obtain ⟨rfl, rfl⟩ := H); (try go_wp2); (replace BK109 := Aside0.mk (blk_drew BK109.out)); (replace BK110 := Aside0.mk (blk_drew BK110.out)); (replace HB := Aside0.mk (below_drew1 HB.out)); (refine start_ (n := 9) (S := fun w' => w'.cell? ⟨gb110, 0, none⟩ = some (.int .i64 a1_0) ∧ w'.cell? ⟨gb110, 1, none⟩ = some (.int .i64 a1_1)) (ds := []) _ (by kernel_rfl) rfl rfl ⟨(blk_cell BK110.out 0).trans rfl, (blk_cell BK110.out 1).trans rfl⟩ (fun hHeld => ?_); refine with_tabW notation_french_symbol.tab2 notation_french_symbol.bits2 (fun HT_ HW_ => ?_)); (generalize w5.drew = w10 at BK109 BK110 HB hHeld ⊢); (refine pS_ 0 (some 9) HT_ ?_); (refine pS_ 4 (some 13) HT_ ?_); (refine tS_ 1 (some 10) HT_ HW_ hHeld ?_); (refine pS_ 2 (some 11) HT_ ?_); (refine tS_ 5 (some 14) HT_ HW_ hHeld ?_); (refine pS_ 6 (some 15) HT_ ?_); (refine oS_ 3 (some 12) HT_ (fun K hK => ?_)); (refine goes_ Tryz.func101 (by kernel_rfl) rfl #[.int .i64 (wrap64 (a1_0 - 7))] (by rfl) rfl rfl (by (try simp only [mA_, mB_, mC_]); first | done | rfl | (simp only [List.length_drop, List.length_take]; rfl)) ?_); (with_reducible refine (strconv_Itoa.calls (wrap64 (a1_0 - 7)) t111 _ A9.out).mono ?_); (rintro e w' ⟨rfl, ⟨nd, rfl⟩⟩); (refine ⟨_, rfl, ?_⟩); (refine hK.out _ _ ⟨(blk_cell BK110.out 0).trans rfl, (blk_cell BK110.out 1).trans rfl⟩ (fun hHeld => ?_)); clear hK K; (refine nS_ (some 12) ?_); (refine pS_ 7 (some 4) HT_ ?_); (refine pS_ 8 (some 5) HT_ ?_); (refine done_ (done_of HT_.out (by kernel_rfl)) ?_); (try go_wp2); (go_ret2); (exact ⟨rv_, bl_ HB⟩)
  · rw [if_neg c8] at H
    (have c8b0 : decide (11 ≤ a1_0) = false := decide_eq_false c8); clear c8; ((first | rw [c8b0] | (simp only [i64_w, i32_w]; rw [c8b0]) | skip)); (obtain ⟨ji11, hji11⟩ : ∃ j_ : Int, (mx (wrap64 (a1_0 - 7)) 0) = j_ := ⟨_, rfl⟩); (replace H : ((strings_Repeat.f (⟨#[47]⟩ : ByteArray) (ji11)).bind fun t112 => (if 0 ≤ a1_1 then (if a1_1 ≤ (wrap64 (a1_1 + 1)) then (if (wrap64 (a1_1 + 1)) ≤ 19 then (if t112.size + ((⟨#[97, 98, 99, 100, 101, 102, 103, 104, 105, 107, 108, 109, 110, 111, 112, 113, 114, 115, 116]⟩ : ByteArray).extract (a1_1 : Int).toNat ((wrap64 (a1_1 + 1)) : Int).toNat).size ≤ 9223372036854775807 then (some (t112 ++ ((⟨#[97, 98, 99, 100, 101, 102, 103, 104, 105, 107, 108, 109, 110, 111, 112, 113, 114, 115, 116]⟩ : ByteArray).extract (a1_1 : Int).toNat ((wrap64 (a1_1 + 1)) : Int).toNat), true)) else (none)) else (none)) else (none)) else (none))) = some (r1, r2) := by first | (rw [hji11] at H; exact H) | (simp only [hji11] at H ⊢; exact H)); ((try (have hji11l : 0 ≤ ji11 := by (rw [← hji11]; unfold mx; (repeat' split) <;> omega)))); ((try (have hji11m : 0 ≤ ji11 := by omega))); (have hji11_ : (if (wrap64 (a1_0 - 7)) < 0 then 0 else (wrap64 (a1_0 - 7))) = ji11 := hji11); (replace H := Option.bind_eq_some_iff.mp H); (obtain ⟨t112, A120, H⟩ := H); (try dsimp only at H); (have A12 := Aside0.mk A120); clear A120; (by_cases c13 : 0 ≤ a1_1)
    · rw [if_pos c13] at H
      (have c13b0 := eq_true c13); (have c13b1 : decide (0 ≤ a1_1) = true := decide_eq_true c13); clear c13; (by_cases c14 : a1_1 ≤ (wrap64 (a1_1 + 1)))
      · rw [if_pos c14] at H
        (have c14b0 := eq_true c14); (have c14b1 : decide (a1_1 ≤ (wrap64 (a1_1 + 1))) = true := decide_eq_true c14); (by_cases c15 : (wrap64 (a1_1 + 1)) ≤ 19)
        · rw [if_pos c15] at H
          (have c15b0 := eq_true c15); (have c15b1 : decide ((wrap64 (a1_1 + 1)) ≤ 19) = true := decide_eq_true c15); (by_cases c16 : t112.size + ((⟨#[97, 98, 99, 100, 101, 102, 103, 104, 105, 107, 108, 109, 110, 111, 112, 113, 114, 115, 116]⟩ : ByteArray).extract (a1_1 : Int).toNat ((wrap64 (a1_1 + 1)) : Int).toNat).size ≤ 9223372036854775807)
          · rw [if_pos c16] at H
            (have c16b0 := eq_true c16); (have c16b1 : decide (t112.size + ((⟨#[97, 98, 99, 100, 101, 102, 103, 104, 105, 107, 108, 109, 110, 111, 112, 113, 114, 115, 116]⟩ : ByteArray).extract (a1_1 : Int).toNat ((wrap64 (a1_1 + 1)) : Int).toNat).size ≤ 9223372036854775807) = true := decide_eq_true c16); (try have c16b2 : (9223372036854775807 < t112.size + ((⟨#[97, 98, 99, 100, 101, 102, 103, 104, 105, 107, 108, 109, 110, 111, 112, 113, 114, 115, 116]⟩ : ByteArray).extract (a1_1 : Int).toNat ((wrap64 (a1_1 + 1)) : Int).toNat).size) = False := eq_false (Nat.not_lt.2 c16)); (try have c16b3 : (9223372036854775807 < t112.size + (((wrap64 (a1_1 + 1)) : Int).toNat - (a1_1 : Int).toNat)) = False := eq_false (by have h_ := c16; simp only [ByteArray.size_extract] at h_; have e0_ : ((⟨#[97, 98, 99, 100, 101, 102, 103, 104, 105, 107, 108, 109, 110, 111, 112, 113, 114, 115, 116]⟩ : ByteArray)).size = 19 := rfl; (try simp only [decide_eq_true_eq, decide_eq_true_iff] at *); omega)); (simp only [Option.some.injEq, Prod.mk.injEq] at H); (obtain ⟨rfl, rfl⟩ := H); (try go_wp2); (replace BK109 := Aside0.mk (blk_drew BK109.out)); (replace BK110 := Aside0.mk (blk_drew BK110.out)); (replace HB := Aside0.mk (below_drew1 HB.out)); (refine start_ (n := 14) (S := fun w' => w'.cell? ⟨gb110, 0, none⟩ = some (.int .i64 a1_0) ∧ w'.cell? ⟨gb110, 1, none⟩ = some (.int .i64 a1_1)) (ds := []) _ (by kernel_rfl) rfl rfl ⟨(blk_cell BK110.out 0).trans rfl, (blk_cell BK110.out 1).trans rfl⟩ (fun hHeld => ?_); refine with_tabW notation_french_symbol.tab3 notation_french_symbol.bits3 (fun HT_ HW_ => ?_)); (generalize w5.drew = w17 at BK109 BK110 HB hHeld ⊢); (refine pS_ 0 (some 16) HT_ ?_); (refine pS_ 5 (some 21) HT_ ?_); (refine pS_ 7 (some 23) HT_ ?_); (refine tS_ 1 (some 17) HT_ HW_ hHeld ?_); (refine pS_ 2 (some 18) HT_ ?_); (refine pS_ 3 (some 19) HT_ ?_); (refine tS_ 6 (some 22) HT_ HW_ hHeld ?_); (refine tS_ 8 (some 24) HT_ HW_ hHeld ?_); (refine pS_ 9 (some 25) HT_ ?_); (refine pS_ 10 (some 26) HT_ ?_); (refine oS_ 4 (some 20) HT_ (fun K hK => ?_)); (refine goes_ Tryz.func102 (by kernel_rfl) rfl #[.string (⟨#[47]⟩ : ByteArray), .int .i64 ji11] (by rfl) rfl rfl (by (try simp only [mA_, mB_, mC_]); first | done | (simp only [hji11]; rfl) | rfl | (simp only [List.length_drop, List.length_take]; rfl)) ?_); (with_reducible refine (strings_Repeat.calls (⟨#[47]⟩ : ByteArray) ji11 t112 _ A12.out).mono ?_); (rintro e w18 ⟨rfl, hb⟩); (refine ⟨_, rfl, ?_⟩); (replace BK109 := bb_ BK109 hb); (replace BK110 := bb_ BK110 hb); (replace HB := bs_ HB hb); ((try clear hb)); ((try clear hb2)); ((try clear hk)); ((try clear hi)); (refine hK.out _ _ ⟨(blk_cell BK110.out 0).trans rfl, (blk_cell BK110.out 1).trans rfl⟩ (fun hHeld => ?_)); clear hK K; (refine nS_ (some 20) ?_); (refine pS_ 11 (some 27) HT_ ?_); (refine pS_ 12 (some 4) HT_ ?_); (refine pS_ 13 (some 5) HT_ ?_); (refine done_ (done_of HT_.out (by kernel_rfl)) ?_); (try go_wp2); (go_ret2); (exact ⟨by first | rfl | (simp [errW_none, errW_some] <;> rfl) | (simp only [← hji11]; first | rfl | (simp [errW_none, errW_some] <;> rfl)) | (simp [*, errW_none, errW_some] <;> rfl), bl_ HB⟩)
          · rw [if_neg c16] at H
            exact absurd H (by simp)
        · rw [if_neg c15] at H
          exact absurd H (by simp)
      · rw [if_neg c14] at H
        exact absurd H (by simp)
    · rw [if_neg c13] at H
      exact absurd H (by simp)

/-! ### notation_figures_figure: function 122 -/
def notation_figures_figure.j0 : Nat → Int → Bool → Option (ByteArray × Bool)
  | 0, _, _ => none
  | k + 1, x1, x6 => if x6 = true then ((strconv_Itoa.f x1).bind fun t114 => (some (t114, true))) else (if x1 = 10 then (some ((⟨#[120]⟩ : ByteArray), true)) else (some ((⟨#[]⟩ : ByteArray), false)))
def notation_figures_figure.f (k : Nat)  (a1 : Int) : Option (ByteArray × Bool) := if a1 ≥ 0 then (notation_figures_figure.j0 k a1 (decide (a1 ≤ 9))) else (notation_figures_figure.j0 k a1 false)
theorem notation_figures_figure.mono_l : ∀ k, (∀ y0 y1, LeO (notation_figures_figure.j0 k y0 y1) (notation_figures_figure.j0 (k + 1) y0 y1))
  | 0 => fun _ _ r h => by simp [notation_figures_figure.j0] at h
  | k + 1 => by
    (have ih0 := notation_figures_figure.mono_l k); (focus intro y0 y1; (unfold notation_figures_figure.j0); (repeat' first | (with_reducible first | apply ih0 | exact LeO.refl _ | exact LeO.none _ | refine LeO.ite ?_ ?_ | refine LeO.bind ?_ fun _ => ?_) | exact LeO.none _ | refine LeO.ite ?_ ?_ | refine LeO.bind ?_ fun _ => ?_ | apply ih0))
theorem notation_figures_figure.mono : ∀ a0 k, LeO (notation_figures_figure.f k a0) (notation_figures_figure.f (k + 1) a0) := by
  intro a0 k
  have ih0 := notation_figures_figure.mono_l k
  unfold notation_figures_figure.f
  repeat' first | (with_reducible first | apply ih0 | exact LeO.refl _ | exact LeO.none _ | refine LeO.ite ?_ ?_ | refine LeO.bind ?_ fun _ => ?_) | exact LeO.none _ | refine LeO.ite ?_ ?_ | refine LeO.bind ?_ fun _ => ?_ | apply ih0
set_option maxHeartbeats 8000000 in
set_option maxRecDepth 100000 in
theorem notation_figures_figure.calls (k : Nat)  (a1 : Int) (r1 : ByteArray) (r2 : Bool) (w : World) (h : notation_figures_figure.f k a1 = some (r1, r2)) :
    Calls Tryz.prog 122 #[.agg #[], .int .i64 a1] w fun e w' => e = .returned (.tuple #[.string r1, .bool r2]) ∧ Below w.heap.size w w' := by
  have hu79 := Tryz.underlying79
  have HB := Aside0.mk (Below.refl w.heap.size w)
  have H : (if a1 ≥ 0 then (notation_figures_figure.j0 k a1 (decide (a1 ≤ 9))) else (notation_figures_figure.j0 k a1 false)) = some (r1, r2) := h
  clear h
  have HC3 := Aside0.mk H
  clear H
  go_enter Tryz.func122, Tryz.ntmps122
  go_upto_region 1 with (first | ((with_reducible refine gate_dst (N := 2) rfl ?_); refine bx_ 2 #[] 79 HB ?_; clear HB; intro gb113 w4 hg hb BK113 HB GW113; have GE113 := GW113; clear hg hb))
  (try simp only [Act.put, List.setIfInBounds_toArray, List.set_cons_zero, List.set_cons_succ])
  go_cut [6] (fun v6 wc => ∃ (kq : Nat) (x6_2 : Bool), v6 = .bool x6_2 ∧ Aside0 (notation_figures_figure.j0 kq a1 x6_2 = some (r1, r2)) ∧ Aside0 (kq ≤ k) ∧ Aside0 (wc.heap[gb113]? = some (.cells #[] 79 (0, 0))) ∧ Aside0 (Below w.heap.size w wc))
  case first =>
    (have H := HC3.out); clear HC3; (by_cases c5 : a1 ≥ 0)
    · rw [if_pos c5] at H
      (have c5b0 : decide (0 ≤ a1) = true := decide_eq_true c5); clear c5; ((first | rw [c5b0] | (simp only [i64_w, i32_w]; rw [c5b0]) | skip)); (have H' := Aside0.mk H); clear H; (go_wp2); (go_meet)
      case rel => exact ⟨_, (decide (a1 ≤ 9)), (rs_), H', ⟨om_⟩, ⟨bk_ BK113⟩, ⟨bl_ HB⟩⟩
    · rw [if_neg c5] at H
      (have c5b0 : decide (0 ≤ a1) = false := decide_eq_false c5); clear c5; ((first | rw [c5b0] | (simp only [i64_w, i32_w]; rw [c5b0]) | skip)); (have H' := Aside0.mk H); clear H; (go_wp2); (go_meet)
      case rel => exact ⟨_, (false), (rs_), H', ⟨om_⟩, ⟨bk_ BK113⟩, ⟨bl_ HB⟩⟩
  case rest =>
    clear HC3; (obtain ⟨kq, x6_2, rfl, HA, HJ2, BK113, HB⟩ := hcut)
    cases kq with
    | zero => exact absurd HA.out (by simp [notation_figures_figure.j0])
    | succ kj2 =>
      (have H := HA.out); clear HA; (simp only [notation_figures_figure.j0] at H); (by_cases c6 : x6_2 = true)
      · subst c6
        (rw [if_pos rfl] at H); (replace H := Option.bind_eq_some_iff.mp H); (obtain ⟨t114, A70, H⟩ := H); (try dsimp only at H); (have A7 := Aside0.mk A70); clear A70; (simp only [Option.some.injEq, Prod.mk.injEq] at H); (obtain ⟨rfl, rfl⟩ := H); (go_wp2_with (first | ((with_reducible refine gate_callee (f := 101) rfl ?_); refine cl_ 101 (some 14) Tryz.func101 (strconv_Itoa.calls a1 t114 _ A7.out) ?_; rintro e w' ⟨rfl, ⟨nd, rfl⟩⟩; refine ⟨_, rfl, ?_⟩))); (go_ret2); (exact ⟨rv_, bl_ HB⟩)
      · replace c6 := Bool.eq_false_iff.mpr c6
        subst c6; (rw [if_neg Bool.false_ne_true] at H); (by_cases c8 : a1 = 10)
        · rw [if_pos c8] at H
          (obtain ⟨c8b0, c8b1⟩ := eqT_ c8); clear c8; (simp only [Option.some.injEq, Prod.mk.injEq] at H); (obtain ⟨rfl, rfl⟩ := H); (go_wp2); (go_ret2); (exact ⟨rv_, bl_ HB⟩)
        · rw [if_neg c8] at H
          (obtain ⟨c8b0, c8b1⟩ := eqF_ c8); (simp only [Option.some.injEq, Prod.mk.injEq] at H); (obtain ⟨rfl, rfl⟩ := H); (go_wp2); (go_ret2); (exact ⟨rv_, bl_ HB⟩)

/-! ### notation_italian_symbol: function 130 -/
def notation_italian_symbol.f (k : Nat)  (a1_0 : Int) (a1_1 : Int) : Option (ByteArray × Bool) := if a1_0 ≤ 6 then ((notation_figures_figure.f k a1_1).bind fun bt124 => (some (bt124.1, bt124.2))) else (if a1_0 = 10 then (some ((⟨#[120]⟩ : ByteArray), (a1_1 == 0))) else ((strconv_Itoa.f a1_0).bind fun t126 => (some (t126, (a1_1 == 0)))))
theorem notation_italian_symbol.mono : ∀ a0 a1 k, LeO (notation_italian_symbol.f k a0 a1) (notation_italian_symbol.f (k + 1) a0 a1) := by
  intro a0 a1 k
  unfold notation_italian_symbol.f
  repeat' first | (with_reducible first | apply notation_figures_figure.mono | exact LeO.refl _ | exact LeO.none _ | refine LeO.ite ?_ ?_ | refine LeO.bind ?_ fun _ => ?_) | exact LeO.none _ | refine LeO.ite ?_ ?_ | refine LeO.bind ?_ fun _ => ?_ | apply notation_figures_figure.mono
set_option maxHeartbeats 8000000 in
set_option maxRecDepth 100000 in
theorem notation_italian_symbol.calls (k : Nat)  (a1_0 : Int) (a1_1 : Int) (r1 : ByteArray) (r2 : Bool) (w : World) (h : notation_italian_symbol.f k a1_0 a1_1 = some (r1, r2)) :
    Calls Tryz.prog 130 #[.agg #[], .agg #[.int .i64 a1_0, .int .i64 a1_1]] w fun e w' => e = .returned (.tuple #[.string r1, .bool r2]) ∧ Below w.heap.size w w' := by
  have hu82 := Tryz.underlying82
  have hu49 := Tryz.underlying49
  have hu79 := Tryz.underlying79
  have HB := Aside0.mk (Below.refl w.heap.size w)
  have H : (if a1_0 ≤ 6 then ((notation_figures_figure.f k a1_1).bind fun bt124 => (some (bt124.1, bt124.2))) else (if a1_0 = 10 then (some ((⟨#[120]⟩ : ByteArray), (a1_1 == 0))) else ((strconv_Itoa.f a1_0).bind fun t126 => (some (t126, (a1_1 == 0)))))) = some (r1, r2) := h
  clear h
  have HC3 := Aside0.mk H
  clear H
  go_enter Tryz.func130, Tryz.ntmps130
  go_upto_if 8 with (first | ((with_reducible refine gate_dst (N := 2) rfl ?_); refine bx_ 2 #[] 82 HB ?_; clear HB; intro gb122 w4 hg hb BK122 HB GW122; have GE122 := GW122; clear hg hb) | ((with_reducible refine gate_dst (N := 3) rfl ?_); refine bx_ 3 #[.int .i64 a1_0, .int .i64 a1_1] 49 HB ?_; clear HB; intro gb123 w5 hg hb BK123 HB GW123; have GE123 := GW123; have NB122_123 := nl_ BK122 hg; have NB123_122 := ng_ BK122 hg; replace BK122 := bb_ BK122 hb; clear hg hb; have hnb6 := NB123_122.out; have hnc6 := NB122_123.out; have hcz7 := blk_cell BK123.out; have hfz7 := blk_frozen BK123.out))
  repeat (go_quiet (first | ((with_reducible refine gate_dst (N := 2) rfl ?_); refine bx_ 2 #[] 82 HB ?_; clear HB; intro gb122 w4 hg hb BK122 HB GW122; have GE122 := GW122; clear hg hb) | ((with_reducible refine gate_dst (N := 3) rfl ?_); refine bx_ 3 #[.int .i64 a1_0, .int .i64 a1_1] 49 HB ?_; clear HB; intro gb123 w5 hg hb BK123 HB GW123; have GE123 := GW123; have NB122_123 := nl_ BK122 hg; have NB123_122 := ng_ BK122 hg; replace BK122 := bb_ BK122 hb; clear hg hb; have hnb6 := NB123_122.out; have hnc6 := NB122_123.out; have hcz7 := blk_cell BK123.out; have hfz7 := blk_frozen BK123.out)); go_upto_if 8 with (first | ((with_reducible refine gate_dst (N := 2) rfl ?_); refine bx_ 2 #[] 82 HB ?_; clear HB; intro gb122 w4 hg hb BK122 HB GW122; have GE122 := GW122; clear hg hb) | ((with_reducible refine gate_dst (N := 3) rfl ?_); refine bx_ 3 #[.int .i64 a1_0, .int .i64 a1_1] 49 HB ?_; clear HB; intro gb123 w5 hg hb BK123 HB GW123; have GE123 := GW123; have NB122_123 := nl_ BK122 hg; have NB123_122 := ng_ BK122 hg; replace BK122 := bb_ BK122 hb; clear hg hb; have hnb6 := NB123_122.out; have hnc6 := NB122_123.out; have hcz7 := blk_cell BK123.out; have hfz7 := blk_frozen BK123.out)))
  (try simp only [Act.put, List.setIfInBounds_toArray, List.set_cons_zero, List.set_cons_succ])
  have H := HC3.out
  clear HC3
  by_cases c8 : a1_0 ≤ 6
  · rw [if_pos c8] at H
    (have c8b0 := decide_eq_true c8); clear c8; ((first | rw [c8b0] | (simp only [i64_w, i32_w]; rw [c8b0]) | skip)); (replace H := Option.bind_eq_some_iff.mp H); (obtain ⟨⟨t124, t125⟩, A90, H⟩ := H); (try dsimp only at H); (have A9 := Aside0.mk A90); clear A90; (simp only [Option.some.injEq, Prod.mk.injEq] at H); (obtain ⟨rfl, rfl⟩ := H); (have hnb10 := NB122_123.out); (have hnc10 := NB123_122.out); (have hpz11 := partAt_zero_ (P := Tryz.prog) (w := w5) BK122.out (by kernel_rfl)); (have hcz12 := blk_cell BK123.out); (have hfz12 := blk_frozen BK123.out); (go_wp2_with (first | (go_at_call 122; (with_reducible refine (notation_figures_figure.calls k  a1_1 t124 t125 _ A9.out).mono ?_); rintro e w13 ⟨rfl, hb⟩; replace BK122 := bb_ BK122 hb; replace BK123 := bb_ BK123 hb; replace HB := bs_ HB hb; (try clear hb); (try clear hb2); (try clear hk); (try clear hi)))); (repeat (go_quiet (first | (go_at_call 122; (with_reducible refine (notation_figures_figure.calls k  a1_1 t124 t125 _ A9.out).mono ?_); rintro e w13 ⟨rfl, hb⟩; replace BK122 := bb_ BK122 hb; replace BK123 := bb_ BK123 hb; replace HB := bs_ HB hb; (try clear hb); (try clear hb2); (try clear hk); (try clear hi))); try go_wp2_with (first | (go_at_call 122; (with_reducible refine (notation_figures_figure.calls k  a1_1 t124 t125 _ A9.out).mono ?_); rintro e w13 ⟨rfl, hb⟩; replace BK122 := bb_ BK122 hb; replace BK123 := bb_ BK123 hb; replace HB := bs_ HB hb; (try clear hb); (try clear hb2); (try clear hk); (try clear hi))))); (go_ret2); (exact ⟨rv_, bl_ HB⟩)
  · rw [if_neg c8] at H
    (have c8b0 := decide_eq_false c8); clear c8; ((first | rw [c8b0] | (simp only [i64_w, i32_w]; rw [c8b0]) | skip)); (have HC14 := Aside0.mk H); clear H; (have hnb15 := NB123_122.out); (have hnc15 := NB122_123.out); (have hcz16 := blk_cell BK123.out); (have hfz16 := blk_frozen BK123.out); (go_upto_if 18 with (fail)); (repeat (go_quiet (fail); go_upto_if 18 with (fail))); (have H := HC14.out); clear HC14; (by_cases c17 : a1_0 = 10)
    · rw [if_pos c17] at H
      (obtain ⟨c17b0, c17b1⟩ := eqT_ c17); clear c17; ((first | rw [c17b0] | rw [c17b1] | (simp only [i64_w, i32_w]; rw [c17b0]) | skip)); (simp only [Option.some.injEq, Prod.mk.injEq] at H); (obtain ⟨rfl, rfl⟩ := H); (have hnb18 := NB123_122.out); (have hnc18 := NB122_123.out); (have hcz19 := blk_cell BK123.out); (have hfz19 := blk_frozen BK123.out); (go_wp2); (repeat (go_quiet (fail); try go_wp2)); (go_ret2); (exact ⟨rv_, bl_ HB⟩)
    · rw [if_neg c17] at H
      (obtain ⟨c17b0, c17b1⟩ := eqF_ c17); ((first | rw [c17b0] | rw [c17b1] | (simp only [i64_w, i32_w]; rw [c17b0]) | skip)); (replace H := Option.bind_eq_some_iff.mp H); (obtain ⟨t126, A200, H⟩ := H); (try dsimp only at H); (have A20 := Aside0.mk A200); clear A200; (simp only [Option.some.injEq, Prod.mk.injEq] at H); (obtain ⟨rfl, rfl⟩ := H); (have hnb21 := NB123_122.out); (have hnc21 := NB122_123.out); (have hcz22 := blk_cell BK123.out); (have hfz22 := blk_frozen BK123.out); (go_wp2_with (first | (go_at_call 101; (with_reducible refine (strconv_Itoa.calls a1_0 t126 _ A20.out).mono ?_); rintro e w' ⟨rfl, ⟨nd, rfl⟩⟩; (try first | exact ⟨rfl, _, World.drewN_drewN _ _ _⟩ | exact ⟨rfl, _, Eq.trans (World.drewN_drewN _ _ _) (congrArg (World.drewN _) (Nat.add_assoc _ _ _))⟩)))); (repeat (go_quiet (first | (go_at_call 101; (with_reducible refine (strconv_Itoa.calls a1_0 t126 _ A20.out).mono ?_); rintro e w' ⟨rfl, ⟨nd, rfl⟩⟩; (try first | exact ⟨rfl, _, World.drewN_drewN _ _ _⟩ | exact ⟨rfl, _, Eq.trans (World.drewN_drewN _ _ _) (congrArg (World.drewN _) (Nat.add_assoc _ _ _))⟩))); try go_wp2_with (first | (go_at_call 101; (with_reducible refine (strconv_Itoa.calls a1_0 t126 _ A20.out).mono ?_); rintro e w' ⟨rfl, ⟨nd, rfl⟩⟩; (try first | exact ⟨rfl, _, World.drewN_drewN _ _ _⟩ | exact ⟨rfl, _, Eq.trans (World.drewN_drewN _ _ _) (congrArg (World.drewN _) (Nat.add_assoc _ _ _))⟩))))); (go_ret2); (exact ⟨rv_, bl_ HB⟩)

/-! ### notation_spanish_symbol: function 138 -/
def notation_spanish_symbol.f (k : Nat)  (a1_0 : Int) (a1_1 : Int) : Option (ByteArray × Bool) := if a1_0 > 6 then (some ((⟨#[]⟩ : ByteArray), false)) else ((notation_figures_figure.f k a1_1).bind fun bt133 => (some (bt133.1, bt133.2)))
theorem notation_spanish_symbol.mono : ∀ a0 a1 k, LeO (notation_spanish_symbol.f k a0 a1) (notation_spanish_symbol.f (k + 1) a0 a1) := by
  intro a0 a1 k
  unfold notation_spanish_symbol.f
  repeat' first | (with_reducible first | apply notation_figures_figure.mono | exact LeO.refl _ | exact LeO.none _ | refine LeO.ite ?_ ?_ | refine LeO.bind ?_ fun _ => ?_) | exact LeO.none _ | refine LeO.ite ?_ ?_ | refine LeO.bind ?_ fun _ => ?_ | apply notation_figures_figure.mono
set_option maxHeartbeats 8000000 in
set_option maxRecDepth 100000 in
theorem notation_spanish_symbol.calls (k : Nat)  (a1_0 : Int) (a1_1 : Int) (r1 : ByteArray) (r2 : Bool) (w : World) (h : notation_spanish_symbol.f k a1_0 a1_1 = some (r1, r2)) :
    Calls Tryz.prog 138 #[.agg #[], .agg #[.int .i64 a1_0, .int .i64 a1_1]] w fun e w' => e = .returned (.tuple #[.string r1, .bool r2]) ∧ Below w.heap.size w w' := by
  have hu84 := Tryz.underlying84
  have hu49 := Tryz.underlying49
  have hu79 := Tryz.underlying79
  have HB := Aside0.mk (Below.refl w.heap.size w)
  have H : (if a1_0 > 6 then (some ((⟨#[]⟩ : ByteArray), false)) else ((notation_figures_figure.f k a1_1).bind fun bt133 => (some (bt133.1, bt133.2)))) = some (r1, r2) := h
  clear h
  have HC3 := Aside0.mk H
  clear H
  go_enter Tryz.func138, Tryz.ntmps138
  go_upto_if 8 with (first | ((with_reducible refine gate_dst (N := 2) rfl ?_); refine bx_ 2 #[] 84 HB ?_; clear HB; intro gb131 w4 hg hb BK131 HB GW131; have GE131 := GW131; clear hg hb) | ((with_reducible refine gate_dst (N := 3) rfl ?_); refine bx_ 3 #[.int .i64 a1_0, .int .i64 a1_1] 49 HB ?_; clear HB; intro gb132 w5 hg hb BK132 HB GW132; have GE132 := GW132; have NB131_132 := nl_ BK131 hg; have NB132_131 := ng_ BK131 hg; replace BK131 := bb_ BK131 hb; clear hg hb; have hnb6 := NB132_131.out; have hnc6 := NB131_132.out; have hcz7 := blk_cell BK132.out; have hfz7 := blk_frozen BK132.out))
  (try simp only [Act.put, List.setIfInBounds_toArray, List.set_cons_zero, List.set_cons_succ])
  have H := HC3.out
  clear HC3
  by_cases c8 : a1_0 > 6
  · rw [if_pos c8] at H
    (have c8b0 : decide (6 < a1_0) = true := decide_eq_true c8); clear c8; ((first | rw [c8b0] | (simp only [i64_w, i32_w]; rw [c8b0]) | skip)); (simp only [Option.some.injEq, Prod.mk.injEq] at H); (obtain ⟨rfl, rfl⟩ := H); (go_wp2); (go_ret2); (exact ⟨rv_, bl_ HB⟩)
  · rw [if_neg c8] at H
    (have c8b0 : decide (6 < a1_0) = false := decide_eq_false c8); clear c8; ((first | rw [c8b0] | (simp only [i64_w, i32_w]; rw [c8b0]) | skip)); (replace H := Option.bind_eq_some_iff.mp H); (obtain ⟨⟨t133, t134⟩, A90, H⟩ := H); (try dsimp only at H); (have A9 := Aside0.mk A90); clear A90; (simp only [Option.some.injEq, Prod.mk.injEq] at H); (obtain ⟨rfl, rfl⟩ := H); (have hnb10 := NB131_132.out); (have hnc10 := NB132_131.out); (have hpz11 := partAt_zero_ (P := Tryz.prog) (w := w5) BK131.out (by kernel_rfl)); (have hcz12 := blk_cell BK132.out); (have hfz12 := blk_frozen BK132.out); (go_wp2_with (first | ((with_reducible refine gate_callee (f := 122) rfl ?_); refine cl_ 122 (some 13) Tryz.func122 (notation_figures_figure.calls k  a1_1 t133 t134 _ A9.out) ?_; rintro e w13 ⟨rfl, hb⟩; refine ⟨_, rfl, ?_⟩; replace BK131 := bb_ BK131 hb; replace BK132 := bb_ BK132 hb; replace HB := bs_ HB hb; (try clear hb); (try clear hb2); (try clear hk); (try clear hi)))); (go_ret2); (exact ⟨rv_, bl_ HB⟩)

/-! ### notation_german_symbol: function 145 -/
mutual
def notation_german_symbol.j0 : Nat → Bool → Int → Int → Option (ByteArray × Bool)
  | 0, _, _, _ => none
  | k + 1, x7, x137000, x137001 => if x7 = true then (some ((⟨#[]⟩ : ByteArray), false)) else (if x137000 = 6 then (notation_german_symbol.j1 k (x137001 == 0) x137000 x137001) else (notation_german_symbol.j1 k false x137000 x137001))
def notation_german_symbol.j1 : Nat → Bool → Int → Int → Option (ByteArray × Bool)
  | 0, _, _, _ => none
  | k + 1, x16, x137000, x137001 => if x16 = true then (some ((⟨#[43]⟩ : ByteArray), true)) else (if x137000 = 6 then (if 0 ≤ (wrap64 (x137001 - 1)) then (if (wrap64 (x137001 - 1)) ≤ x137001 then (if x137001 ≤ 10 then (some ((⟨#[65, 66, 67, 68, 69, 70, 71, 72, 73, 75]⟩ : ByteArray).extract ((wrap64 (x137001 - 1)) : Int).toNat (x137001 : Int).toNat, true)) else (none)) else (none)) else (none)) else (if x137001 = 0 then ((strconv_Itoa.f (wrap64 (6 - x137000))).bind fun t137 => (some (t137, true))) else (if 0 ≤ (wrap64 ((wrap64 ((wrap64 ((Int.tmod (wrap64 (x137001 - 1)) 5) * 5)) + 5)) - x137000)) then (if (wrap64 ((wrap64 ((wrap64 ((Int.tmod (wrap64 (x137001 - 1)) 5) * 5)) + 5)) - x137000)) ≤ (wrap64 ((wrap64 ((wrap64 ((wrap64 ((Int.tmod (wrap64 (x137001 - 1)) 5) * 5)) + 5)) - x137000)) + 1)) then (if (wrap64 ((wrap64 ((wrap64 ((wrap64 ((Int.tmod (wrap64 (x137001 - 1)) 5) * 5)) + 5)) - x137000)) + 1)) ≤ 25 then ((strings_Repeat.f ((⟨#[97, 98, 99, 100, 101, 102, 103, 104, 105, 107, 108, 109, 110, 111, 112, 113, 114, 115, 116, 118, 120, 121, 122, 38, 57]⟩ : ByteArray).extract ((wrap64 ((wrap64 ((wrap64 ((Int.tmod (wrap64 (x137001 - 1)) 5) * 5)) + 5)) - x137000)) : Int).toNat ((wrap64 ((wrap64 ((wrap64 ((wrap64 ((Int.tmod (wrap64 (x137001 - 1)) 5) * 5)) + 5)) - x137000)) + 1)) : Int).toNat) (wrap64 (Int.tdiv (wrap64 (x137001 + 4)) 5))).bind fun t138 => (some (t138, true))) else (none)) else (none)) else (none))))
end
def notation_german_symbol.f (k : Nat)  (a1_0 : Int) (a1_1 : Int) : Option (ByteArray × Bool) := if a1_0 > 6 then (notation_german_symbol.j0 k true a1_0 a1_1) else (notation_german_symbol.j0 k (decide (a1_1 > 10)) a1_0 a1_1)
theorem notation_german_symbol.mono_l : ∀ k, (∀ y0 y1 y2, LeO (notation_german_symbol.j0 k y0 y1 y2) (notation_german_symbol.j0 (k + 1) y0 y1 y2)) ∧ (∀ y0 y1 y2, LeO (notation_german_symbol.j1 k y0 y1 y2) (notation_german_symbol.j1 (k + 1) y0 y1 y2))
  | 0 => ⟨fun _ _ _ r h => by simp [notation_german_symbol.j0] at h, fun _ _ _ r h => by simp [notation_german_symbol.j1] at h⟩
  | k + 1 => by
    ((obtain ⟨ih0, ih1⟩ := notation_german_symbol.mono_l k); (refine ⟨?_, ?_⟩)); (focus intro y0 y1 y2; (unfold notation_german_symbol.j0); (repeat' first | (with_reducible first | apply ih0 | apply ih1 | exact LeO.refl _ | exact LeO.none _ | refine LeO.ite ?_ ?_ | refine LeO.bind ?_ fun _ => ?_) | exact LeO.none _ | refine LeO.ite ?_ ?_ | refine LeO.bind ?_ fun _ => ?_ | apply ih0 | apply ih1)); (focus intro y0 y1 y2; (unfold notation_german_symbol.j1); (repeat' first | (with_reducible first | apply ih0 | apply ih1 | exact LeO.refl _ | exact LeO.none _ | refine LeO.ite ?_ ?_ | refine LeO.bind ?_ fun _ => ?_) | exact LeO.none _ | refine LeO.ite ?_ ?_ | refine LeO.bind ?_ fun _ => ?_ | apply ih0 | apply ih1))
theorem notation_german_symbol.mono : ∀ a0 a1 k, LeO (notation_german_symbol.f k a0 a1) (notation_german_symbol.f (k + 1) a0 a1) := by
  intro a0 a1 k
  obtain ⟨ih0, ih1⟩ := notation_german_symbol.mono_l k
  unfold notation_german_symbol.f
  repeat' first | (with_reducible first | apply ih0 | apply ih1 | exact LeO.refl _ | exact LeO.none _ | refine LeO.ite ?_ ?_ | refine LeO.bind ?_ fun _ => ?_) | exact LeO.none _ | refine LeO.ite ?_ ?_ | refine LeO.bind ?_ fun _ => ?_ | apply ih0 | apply ih1
def notation_german_symbol.T10 : Bool × List (List Nat × List Nat) := (true, [([], []), ([], []), ([1], [1]), ([0, 2], [0, 2]), ([], []), ([4], [4]), ([5], [5]), ([6], [6]), ([3, 7], [3, 7]), ([8, 8, 0, 1, 2, 3, 4, 5, 6, 7, 8], [8]), ([9, 0, 1, 2, 3, 4, 5, 6, 7, 8, 9], [])])
def notation_german_symbol.B10 : List Nat := [0, 0, 2, 7, 0, 16, 48, 112, 255, 511, 1023]
theorem notation_german_symbol.tab10 : rtab .any (opsOf Tryz.f145 10) = notation_german_symbol.T10 := by kernel_rfl
theorem notation_german_symbol.bits10 : waitsOk notation_german_symbol.T10.2 notation_german_symbol.B10 = true := by kernel_rfl
set_option maxHeartbeats 8000000 in
set_option maxRecDepth 100000 in
theorem notation_german_symbol.calls (k : Nat)  (a1_0 : Int) (a1_1 : Int) (r1 : ByteArray) (r2 : Bool) (w : World) (h : notation_german_symbol.f k a1_0 a1_1 = some (r1, r2)) :
    Calls Tryz.prog 145 #[.agg #[], .agg #[.int .i64 a1_0, .int .i64 a1_1]] w fun e w' => e = .returned (.tuple #[.string r1, .bool r2]) ∧ Below w.heap.size w w' := by
  have hu86 := Tryz.underlying86
  have hu49 := Tryz.underlying49
  have HB := Aside0.mk (Below.refl w.heap.size w)
  have H : (if a1_0 > 6 then (notation_german_symbol.j0 k true a1_0 a1_1) else (notation_german_symbol.j0 k (decide (a1_1 > 10)) a1_0 a1_1)) = some (r1, r2) := h
  clear h
  have HC3 := Aside0.mk H
  clear H
  go_enter Tryz.func145, Tryz.ntmps145
  go_upto_region 1 with (first | ((with_reducible refine gate_dst (N := 2) rfl ?_); refine bx_ 2 #[] 86 HB ?_; clear HB; intro gb135 w4 hg hb BK135 HB GW135; have GE135 := GW135; clear hg hb) | ((with_reducible refine gate_dst (N := 3) rfl ?_); refine bx_ 3 #[.int .i64 a1_0, .int .i64 a1_1] 49 HB ?_; clear HB; intro gb136 w5 hg hb BK136 HB GW136; have GE136 := GW136; have NB135_136 := nl_ BK135 hg; have NB136_135 := ng_ BK135 hg; replace BK135 := bb_ BK135 hb; clear hg hb))
  (try simp only [Act.put, List.setIfInBounds_toArray, List.set_cons_zero, List.set_cons_succ])
  go_cut [7] (fun v7 wc => ∃ (kq : Nat) (x7_2 : Bool), v7 = .bool x7_2 ∧ Aside0 (notation_german_symbol.j0 kq x7_2 a1_0 a1_1 = some (r1, r2)) ∧ Aside0 (kq ≤ k) ∧ Aside0 (wc.heap[gb135]? = some (.cells #[] 86 (0, 0))) ∧ Aside0 (wc.heap[gb136]? = some (.cells #[.int .i64 a1_0, .int .i64 a1_1] 49 (0, 0))) ∧ Aside0 (Below w.heap.size w wc))
  case first =>
    (have H := HC3.out); clear HC3; (by_cases c6 : a1_0 > 6)
    · rw [if_pos c6] at H
      (have c6b0 : decide (6 < a1_0) = true := decide_eq_true c6); clear c6; ((first | rw [c6b0] | (simp only [i64_w, i32_w]; rw [c6b0]) | skip)); (have H' := Aside0.mk H); clear H; (have hnb7 := NB136_135.out); (have hnc7 := NB135_136.out); (have hcz8 := blk_cell BK136.out); (have hfz8 := blk_frozen BK136.out); (go_wp2); (go_meet)
      case rel => exact ⟨_, (true), (rs_), H', ⟨om_⟩, ⟨bk_ BK135⟩, ⟨bk_ BK136⟩, ⟨bl_ HB⟩⟩
    · rw [if_neg c6] at H
      (have c6b0 : decide (6 < a1_0) = false := decide_eq_false c6); clear c6; ((first | rw [c6b0] | (simp only [i64_w, i32_w]; rw [c6b0]) | skip)); (have H' := Aside0.mk H); clear H; (have hnb9 := NB136_135.out); (have hnc9 := NB135_136.out); (have hcz10 := blk_cell BK136.out); (have hfz10 := blk_frozen BK136.out); (go_wp2); (go_meet)
      case rel => exact ⟨_, (decide (a1_1 > 10)), (rs_), H', ⟨om_⟩, ⟨bk_ BK135⟩, ⟨bk_ BK136⟩, ⟨bl_ HB⟩⟩
  case rest =>
    clear HC3; (obtain ⟨kq, x7_2, rfl, HA, HJ2, BK135, BK136, HB⟩ := hcut)
    cases kq with
    | zero => exact absurd HA.out (by simp [notation_german_symbol.j0])
    | succ kj2 =>
      (have H := HA.out); clear HA; (simp only [notation_german_symbol.j0] at H); (by_cases c11 : x7_2 = true)
      · subst c11
        (rw [if_pos rfl] at H); (simp only [Option.some.injEq, Prod.mk.injEq] at H); (obtain ⟨rfl, rfl⟩ := H); (go_wp2); (go_ret2); (exact ⟨rv_, bl_ HB⟩)
      · replace c11 := Bool.eq_false_iff.mpr c11
        subst c11; (rw [if_neg Bool.false_ne_true] at H); (have HC12 := Aside0.mk H); clear H; (go_upto_region 3 with (fail)); (go_cut [16] (fun v16 wc => ∃ (kq : Nat) (x16_11 : Bool), v16 = .bool x16_11 ∧ Aside0 (notation_german_symbol.j1 kq x16_11 a1_0 a1_1 = some (r1, r2)) ∧ Aside0 (kq ≤ kj2) ∧ Aside0 (wc.heap[gb135]? = some (.cells #[] 86 (0, 0))) ∧ Aside0 (wc.heap[gb136]? = some (.cells #[.int .i64 a1_0, .int .i64 a1_1] 49 (0, 0))) ∧ Aside0 (Below w.heap.size w wc)))
        case first =>
          (have H := HC12.out); clear HC12; (by_cases c13 : a1_0 = 6)
          · rw [if_pos c13] at H
            (obtain ⟨c13b0, c13b1⟩ := eqT_ c13); clear c13; ((first | rw [c13b0] | rw [c13b1] | (simp only [i64_w, i32_w]; rw [c13b0]) | skip)); (have H' := Aside0.mk H); clear H; (have hnb14 := NB136_135.out); (have hnc14 := NB135_136.out); (have hcz15 := blk_cell BK136.out); (have hfz15 := blk_frozen BK136.out); (go_wp2); (go_meet)
            case rel => exact ⟨_, ((a1_1 == 0)), (rs_), H', ⟨by have := HJ2.out; first | omega | exact Nat.le_refl _⟩, ⟨bk_ BK135⟩, ⟨bk_ BK136⟩, ⟨bl_ HB⟩⟩
          · rw [if_neg c13] at H
            (obtain ⟨c13b0, c13b1⟩ := eqF_ c13); ((first | rw [c13b0] | rw [c13b1] | (simp only [i64_w, i32_w]; rw [c13b0]) | skip)); (have H' := Aside0.mk H); clear H; (have hnb16 := NB136_135.out); (have hnc16 := NB135_136.out); (have hcz17 := blk_cell BK136.out); (have hfz17 := blk_frozen BK136.out); (go_wp2); (go_meet)
            case rel => exact ⟨_, (false), (rs_), H', ⟨by have := HJ2.out; first | omega | exact Nat.le_refl _⟩, ⟨bk_ BK135⟩, ⟨bk_ BK136⟩, ⟨bl_ HB⟩⟩
        case rest =>
          clear HC12; (try clear c11); (obtain ⟨kq, x16_11, rfl, HA, HJ11, BK135, BK136, HB⟩ := hcut)
          cases kq with
          | zero => exact absurd HA.out (by simp [notation_german_symbol.j1])
          | succ kj11 =>
            (have H := HA.out); clear HA; (simp only [notation_german_symbol.j1] at H); (by_cases c18 : x16_11 = true)
            · subst c18
              (rw [if_pos rfl] at H); (simp only [Option.some.injEq, Prod.mk.injEq] at H); (obtain ⟨rfl, rfl⟩ := H); (go_wp2); (go_ret2); (exact ⟨rv_, bl_ HB⟩)
            · replace c18 := Bool.eq_false_iff.mpr c18
              subst c18; (rw [if_neg Bool.false_ne_true] at H); (by_cases c19 : a1_0 = 6)
              · rw [if_pos c19] at H
                (obtain ⟨c19b0, c19b1⟩ := eqT_ c19); clear c19; (obtain ⟨ji20, hji20⟩ : ∃ j_ : Int, (wrap64 (a1_1 - 1)) = j_ := ⟨_, rfl⟩); (replace H : (if 0 ≤ (ji20) then (if (ji20) ≤ a1_1 then (if a1_1 ≤ 10 then (some ((⟨#[65, 66, 67, 68, 69, 70, 71, 72, 73, 75]⟩ : ByteArray).extract ((ji20) : Int).toNat (a1_1 : Int).toNat, true)) else (none)) else (none)) else (none)) = some (r1, r2) := by first | (rw [hji20] at H; exact H) | (simp only [hji20] at H ⊢; exact H)); (have hji20w : (IntKind.i64.wrap (a1_1 - 1)) = ji20 := (i64_w _).trans hji20); (by_cases c21 : 0 ≤ (ji20))
                · rw [if_pos c21] at H
                  (have c21b0 := eq_true c21); (have c21b1 : decide (0 ≤ (ji20)) = true := decide_eq_true c21); clear c21; (by_cases c22 : (ji20) ≤ a1_1)
                  · rw [if_pos c22] at H
                    (have c22b0 := eq_true c22); (have c22b1 : decide ((ji20) ≤ a1_1) = true := decide_eq_true c22); clear c22; (by_cases c23 : a1_1 ≤ 10)
                    · rw [if_pos c23] at H
                      (have c23b0 := eq_true c23); (have c23b1 : decide (a1_1 ≤ 10) = true := decide_eq_true c23); clear c23; (simp only [Option.some.injEq, Prod.mk.injEq] at H); (obtain ⟨rfl, rfl⟩ := H); (have hnb24 := NB136_135.out); (have hnc24 := NB135_136.out); (have hcz25 := blk_cell BK136.out); (have hfz25 := blk_frozen BK136.out); (go_wp2); (go_ret2); (exact ⟨by first | rfl | (simp [errW_none, errW_some] <;> rfl) | (simp only [← hji20]; first | rfl | (simp [errW_none, errW_some] <;> rfl)) | (simp [*, errW_none, errW_some] <;> rfl), bl_ HB⟩)
                    · rw [if_neg c23] at H
                      exact absurd H (by simp)
                  · rw [if_neg c22] at H
                    exact absurd H (by simp)
                · rw [if_neg c21] at H
                  exact absurd H (by simp)
              · rw [if_neg c19] at H
                (obtain ⟨c19b0, c19b1⟩ := eqF_ c19); (by_cases c26 : a1_1 = 0)
                · rw [if_pos c26] at H
                  (obtain ⟨c26b0, c26b1⟩ := eqT_ c26); clear c26; (replace H := Option.bind_eq_some_iff.mp H); (obtain ⟨t137, A270, H⟩ := H); (try dsimp only at H); (have A27 := Aside0.mk A270); clear A270; (simp only [Option.some.injEq, Prod.mk.injEq] at H); (obtain ⟨rfl, rfl⟩ := H); (have hnb28 := NB136_135.out); (have hnc28 := NB135_136.out); (have hcz29 := blk_cell BK136.out); (have hfz29 := blk_frozen BK136.out); (go_wp2_with (first | ((with_reducible refine gate_callee (f := 101) rfl ?_); refine cl_ 101 (some 42) Tryz.func101 (strconv_Itoa.calls (wrap64 (6 - a1_0)) t137 _ A27.out) ?_; rintro e w' ⟨rfl, ⟨nd, rfl⟩⟩; refine ⟨_, rfl, ?_⟩))); (go_ret2); (exact ⟨rv_, bl_ HB⟩)
                · rw [if_neg c26] at H
                  (obtain ⟨c26b0, c26b1⟩ := eqF_ c26); (obtain ⟨ji30, hji30⟩ : ∃ j_ : Int, (wrap64 ((wrap64 ((wrap64 ((Int.tmod (wrap64 (a1_1 - 1)) 5) * 5)) + 5)) - a1_0)) = j_ := ⟨_, rfl⟩); (replace H : (if 0 ≤ (ji30) then (if (ji30) ≤ (wrap64 ((ji30) + 1)) then (if (wrap64 ((ji30) + 1)) ≤ 25 then ((strings_Repeat.f ((⟨#[97, 98, 99, 100, 101, 102, 103, 104, 105, 107, 108, 109, 110, 111, 112, 113, 114, 115, 116, 118, 120, 121, 122, 38, 57]⟩ : ByteArray).extract ((ji30) : Int).toNat ((wrap64 ((ji30) + 1)) : Int).toNat) (wrap64 (Int.tdiv (wrap64 (a1_1 + 4)) 5))).bind fun t138 => (some (t138, true))) else (none)) else (none)) else (none)) = some (r1, r2) := by first | (rw [hji30] at H; exact H) | (simp only [hji30] at H ⊢; exact H)); (have hji30w : (IntKind.i64.wrap ((wrap64 ((wrap64 ((Int.tmod (wrap64 (a1_1 - 1)) 5) * 5)) + 5)) - a1_0)) = ji30 := (i64_w _).trans hji30); (by_cases c31 : 0 ≤ (ji30))
                  · rw [if_pos c31] at H
                    (have c31b0 := eq_true c31); (have c31b1 : decide (0 ≤ (ji30)) = true := decide_eq_true c31); clear c31; (by_cases c32 : (ji30) ≤ (wrap64 ((ji30) + 1)))
                    · rw [if_pos c32] at H
                      (have c32b0 := eq_true c32); (have c32b1 : decide ((ji30) ≤ (wrap64 ((ji30) + 1))) = true := decide_eq_true c32); (by_cases c33 : (wrap64 ((ji30) + 1)) ≤ 25)
                      · rw [if_pos c33] at H
                        (have c33b0 := eq_true c33); (have c33b1 : decide ((wrap64 ((ji30) + 1)) ≤ 25) = true := decide_eq_true c33); (replace H := Option.bind_eq_some_iff.mp H); (obtain ⟨t138, A340, H⟩ := H); (try dsimp only at H); (have A34 := Aside0.mk A340); clear A340; (simp only [Option.some.injEq, Prod.mk.injEq] at H); (obtain ⟨rfl, rfl⟩ := H); (have hnb35 := NB136_135.out); (have hnc35 := NB135_136.out); (have hcz36 := blk_cell BK136.out); (have hfz36 := blk_frozen BK136.out); (try go_wp2); (replace BK135 := Aside0.mk (blk_drew BK135.out)); (replace BK136 := Aside0.mk (blk_drew BK136.out)); (replace HB := Aside0.mk (below_drew1 HB.out)); (refine start_ (n := 11) (S := fun w' => w'.cell? ⟨gb136, 0, none⟩ = some (.int .i64 a1_0) ∧ w'.cell? ⟨gb136, 1, none⟩ = some (.int .i64 a1_1)) (ds := []) _ (by kernel_rfl) rfl rfl ⟨(blk_cell BK136.out 0).trans rfl, (blk_cell BK136.out 1).trans rfl⟩ (fun hHeld => ?_); refine with_tabW notation_german_symbol.tab10 notation_german_symbol.bits10 (fun HT_ HW_ => ?_)); (generalize wc.drew = w37 at BK135 BK136 HB hHeld ⊢); (refine pS_ 0 (some 52) HT_ ?_); (refine pS_ 1 (some 53) HT_ ?_); (refine pS_ 2 (some 54) HT_ ?_); (refine pS_ 3 (some 55) HT_ ?_); (refine pS_ 4 (some 56) HT_ ?_); (refine tS_ 5 (some 57) HT_ HW_ hHeld ?_); (refine pS_ 6 (some 58) HT_ ?_); (refine pS_ 7 (some 59) HT_ ?_); (refine oS_ 8 (some 60) HT_ (fun K hK => ?_)); (refine goes_ Tryz.func102 (by kernel_rfl) rfl #[.string ((⟨#[97, 98, 99, 100, 101, 102, 103, 104, 105, 107, 108, 109, 110, 111, 112, 113, 114, 115, 116, 118, 120, 121, 122, 38, 57]⟩ : ByteArray).extract ((ji30) : Int).toNat ((wrap64 ((ji30) + 1)) : Int).toNat), .int .i64 (wrap64 (Int.tdiv (wrap64 (a1_1 + 4)) 5))] (by rfl) rfl rfl (by (try simp only [mA_, mB_, mC_]); first | done | (simp only [hji30]; rfl) | rfl | (simp only [List.length_drop, List.length_take]; rfl)) ?_); (with_reducible refine (strings_Repeat.calls ((⟨#[97, 98, 99, 100, 101, 102, 103, 104, 105, 107, 108, 109, 110, 111, 112, 113, 114, 115, 116, 118, 120, 121, 122, 38, 57]⟩ : ByteArray).extract ((ji30) : Int).toNat ((wrap64 ((ji30) + 1)) : Int).toNat) (wrap64 (Int.tdiv (wrap64 (a1_1 + 4)) 5)) t138 _ A34.out).mono ?_); (rintro e w38 ⟨rfl, hb⟩); (refine ⟨_, rfl, ?_⟩); (replace BK135 := bb_ BK135 hb); (replace BK136 := bb_ BK136 hb); (replace HB := bs_ HB hb); ((try clear hb)); ((try clear hb2)); ((try clear hk)); ((try clear hi)); (refine hK.out _ _ ⟨(blk_cell BK136.out 0).trans rfl, (blk_cell BK136.out 1).trans rfl⟩ (fun hHeld => ?_)); clear hK K; (refine nS_ (some 60) ?_); (refine pS_ 9 (some 4) HT_ ?_); (refine pS_ 10 (some 5) HT_ ?_); (refine done_ (done_of HT_.out (by kernel_rfl)) ?_); (try go_wp2); (go_ret2); (exact ⟨by first | rfl | (simp [errW_none, errW_some] <;> rfl) | (simp only [← hji30]; first | rfl | (simp [errW_none, errW_some] <;> rfl)) | (simp [*, errW_none, errW_some] <;> rfl), bl_ HB⟩)
                      · rw [if_neg c33] at H
                        exact absurd H (by simp)
                    · rw [if_neg c32] at H
                      exact absurd H (by simp)
                  · rw [if_neg c31] at H
                    exact absurd H (by simp)

/-! ### dyn_notation_symbol: a method of an interface's value, by its tag -/
def dyn_notation_symbol.f (k : Nat) (a0 : Int) (a1_0 : Int) (a1_1 : Int) : Option (ByteArray × Bool) := if a0 = 1 then notation_french_symbol.f a1_0 a1_1 else if a0 = 2 then notation_italian_symbol.f k a1_0 a1_1 else if a0 = 3 then notation_spanish_symbol.f k a1_0 a1_1 else if a0 = 4 then notation_german_symbol.f k a1_0 a1_1 else  none
theorem dyn_notation_symbol.mono : ∀ a0 a1_0 a1_1 k, LeO (dyn_notation_symbol.f k a0 a1_0 a1_1) (dyn_notation_symbol.f (k + 1) a0 a1_0 a1_1) := by
  intro a0 a1_0 a1_1 k
  unfold dyn_notation_symbol.f
  repeat' first
    | (with_reducible exact notation_italian_symbol.mono _ _ _)
    | (with_reducible exact notation_spanish_symbol.mono _ _ _)
    | (with_reducible exact notation_german_symbol.mono _ _ _)
     | (with_reducible exact LeO.refl _)
    | (with_reducible exact LeO.none _)
    | (with_reducible refine LeO.ite ?_ ?_)
set_option maxRecDepth 100000 in
theorem dyn_notation_symbol.calls (k : Nat) (a0 : Int) (a1_0 : Int) (a1_1 : Int) (r1 : ByteArray) (r2 : Bool) (w : World) (h : dyn_notation_symbol.f k a0 a1_0 a1_1 = some (r1, r2)) :
    Invokes Tryz.prog (sysW a0) "theorbo/notation.symbol" #[.agg #[.int .i64 a1_0, .int .i64 a1_1]] w fun e w' => e = .returned (.tuple #[.string r1, .bool r2]) ∧ Below w.heap.size w w' := by
  unfold dyn_notation_symbol.f at h
  by_cases c1 : a0 = 1
  · subst c1
    rw [if_pos rfl] at h
    exact ⟨99, _, (fun w => by kernel_rfl : ∀ w : World, (callMethod (sysW 1) "theorbo/notation.symbol" #[.agg #[.int .i64 a1_0, .int .i64 a1_1]]).run Tryz.prog w = .ok (.enter 99 #[.agg #[], .agg #[.int .i64 a1_0, .int .i64 a1_1]]) w) w, (notation_french_symbol.calls a1_0 a1_1 r1 r2 w h)⟩
  rw [if_neg c1] at h
  by_cases c2 : a0 = 2
  · subst c2
    rw [if_pos rfl] at h
    exact ⟨130, _, (fun w => by kernel_rfl : ∀ w : World, (callMethod (sysW 2) "theorbo/notation.symbol" #[.agg #[.int .i64 a1_0, .int .i64 a1_1]]).run Tryz.prog w = .ok (.enter 130 #[.agg #[], .agg #[.int .i64 a1_0, .int .i64 a1_1]]) w) w, (notation_italian_symbol.calls k a1_0 a1_1 r1 r2 w h)⟩
  rw [if_neg c2] at h
  by_cases c3 : a0 = 3
  · subst c3
    rw [if_pos rfl] at h
    exact ⟨138, _, (fun w => by kernel_rfl : ∀ w : World, (callMethod (sysW 3) "theorbo/notation.symbol" #[.agg #[.int .i64 a1_0, .int .i64 a1_1]]).run Tryz.prog w = .ok (.enter 138 #[.agg #[], .agg #[.int .i64 a1_0, .int .i64 a1_1]]) w) w, (notation_spanish_symbol.calls k a1_0 a1_1 r1 r2 w h)⟩
  rw [if_neg c3] at h
  by_cases c4 : a0 = 4
  · subst c4
    rw [if_pos rfl] at h
    exact ⟨145, _, (fun w => by kernel_rfl : ∀ w : World, (callMethod (sysW 4) "theorbo/notation.symbol" #[.agg #[.int .i64 a1_0, .int .i64 a1_1]]).run Tryz.prog w = .ok (.enter 145 #[.agg #[], .agg #[.int .i64 a1_0, .int .i64 a1_1]]) w) w, (notation_german_symbol.calls k a1_0 a1_1 r1 r2 w h)⟩
  rw [if_neg c4] at h
  exact absurd h (by simp)

/-! ### notation_Symbol: function 17 -/
def notation_Symbol.f (k : Nat) (a0 : Int) (a1_0 : Int) (a1_1 : Int) : Option (ByteArray × Int) := (notation_placed.f k a0 a1_0 a1_1).bind fun bt149 => (if bt149.2 = 0 then ((dyn_notation_symbol.f k bt149.1 a1_0 a1_1).bind fun bt151 => (if bt151.2 = true then (some (bt151.1, 0)) else (some ((⟨#[]⟩ : ByteArray), 31)))) else (some ((⟨#[]⟩ : ByteArray), bt149.2)))
theorem notation_Symbol.mono : ∀ a0 a1 a2 k, LeO (notation_Symbol.f k a0 a1 a2) (notation_Symbol.f (k + 1) a0 a1 a2) := by
  intro a0 a1 a2 k
  unfold notation_Symbol.f
  repeat' first | (with_reducible first | apply dyn_notation_symbol.mono | apply notation_placed.mono | exact LeO.refl _ | exact LeO.none _ | refine LeO.ite ?_ ?_ | refine LeO.bind ?_ fun _ => ?_) | exact LeO.none _ | refine LeO.ite ?_ ?_ | refine LeO.bind ?_ fun _ => ?_ | apply dyn_notation_symbol.mono | apply notation_placed.mono
set_option maxHeartbeats 8000000 in
set_option maxRecDepth 100000 in
theorem notation_Symbol.calls (k : Nat) (a0 : Int) (a1_0 : Int) (a1_1 : Int) (r1 : ByteArray) (r2 : Int) (w : World) (h : notation_Symbol.f k a0 a1_0 a1_1 = some (r1, r2)) :
    Calls Tryz.prog 17 #[.int .u8 a0, .agg #[.int .i64 a1_0, .int .i64 a1_1]] w fun e w' => e = .returned (.tuple #[.string r1, .int .i64 r2]) ∧ Below w.heap.size w w' := by
  have hu49 := Tryz.underlying49
  have HB := Aside0.mk (Below.refl w.heap.size w)
  have H : ((notation_placed.f k a0 a1_0 a1_1).bind fun bt149 => (if bt149.2 = 0 then ((dyn_notation_symbol.f k bt149.1 a1_0 a1_1).bind fun bt151 => (if bt151.2 = true then (some (bt151.1, 0)) else (some ((⟨#[]⟩ : ByteArray), 31)))) else (some ((⟨#[]⟩ : ByteArray), bt149.2)))) = some (r1, r2) := h
  clear h
  replace H := Option.bind_eq_some_iff.mp H
  obtain ⟨⟨t149, t150⟩, A30, H⟩ := H
  try dsimp only at H
  have A3 := Aside0.mk A30
  clear A30
  have HC4 := Aside0.mk H
  clear H
  go_enter Tryz.func17, Tryz.ntmps17
  go_upto_if 20 with (first | ((with_reducible refine gate_dst (N := 3) rfl ?_); refine bx_ 3 #[.int .i64 a1_0, .int .i64 a1_1] 49 HB ?_; clear HB; intro gb148 w5 hg hb BK148 HB GW148; have GE148 := GW148; clear hg hb; have hcz6 := blk_cell BK148.out; have hfz6 := blk_frozen BK148.out) | ((with_reducible refine gate_callee (f := 31) rfl ?_); refine cl_ 31 (some 16) Tryz.func31 (notation_placed.calls k a0 a1_0 a1_1 t149 t150 _ A3.out) ?_; rintro e w' ⟨rfl, ⟨nd, rfl⟩⟩; refine ⟨_, rfl, ?_⟩))
  (try simp only [Act.put, List.setIfInBounds_toArray, List.set_cons_zero, List.set_cons_succ])
  have H := HC4.out
  clear HC4
  by_cases c7 : t150 = 0
  · rw [if_pos c7] at H
    (obtain ⟨c7b0, c7b1⟩ := eqT_ c7); clear c7; ((first | rw [c7b0] | rw [c7b1] | (simp only [i64_w, i32_w]; rw [c7b0]) | skip)); (replace H := Option.bind_eq_some_iff.mp H); (obtain ⟨⟨t151, t152⟩, A80, H⟩ := H); (try dsimp only at H); (have A8 := Aside0.mk A80); clear A80; (have HC9 := Aside0.mk H); clear H; (have hcz10 := blk_cell BK148.out); (have hfz10 := blk_frozen BK148.out); (go_upto_if 29 with (first | ((with_reducible refine gate_invoke_ (m := "theorbo/notation.symbol") rfl ?_); refine goesI_ (some 25) rfl rfl (sysW t149) #[.agg #[.int .i64 a1_0, .int .i64 a1_1]] rfl (by rfl) (by (try simp only [mA_, mB_, mC_]); first | done | rfl | (simp only [List.length_drop, List.length_take]; rfl)) ?_; (with_reducible refine (dyn_notation_symbol.calls k t149 a1_0 a1_1 t151 t152 _ A8.out).mono ?_); rintro e w11 ⟨rfl, hb⟩; refine ⟨_, rfl, ?_⟩; replace BK148 := bb_ BK148 hb; replace HB := bs_ HB hb; (try clear hb); (try clear hb2); (try clear hk); (try clear hi)))); ((try simp only [Act.put, List.setIfInBounds_toArray, List.set_cons_zero, List.set_cons_succ])); (have H := HC9.out); clear HC9; (by_cases c12 : t152 = true)
    · subst c12
      (rw [if_pos rfl] at H); (simp only [Option.some.injEq, Prod.mk.injEq] at H); (obtain ⟨rfl, rfl⟩ := H); (go_wp2); (go_ret2); (exact ⟨rv_, bl_ HB⟩)
    · replace c12 := Bool.eq_false_iff.mpr c12
      subst c12; (rw [if_neg Bool.false_ne_true] at H); (simp only [Option.some.injEq, Prod.mk.injEq] at H); (obtain ⟨rfl, rfl⟩ := H); (go_wp2); (go_ret2); (exact ⟨rv_, bl_ HB⟩)
  · rw [if_neg c7] at H
    (obtain ⟨c7b0, c7b1⟩ := eqF_ c7); ((first | rw [c7b0] | rw [c7b1] | (simp only [i64_w, i32_w]; rw [c7b0]) | skip)); (simp only [Option.some.injEq, Prod.mk.injEq] at H); (obtain ⟨rfl, rfl⟩ := H); (go_wp2); (go_ret2); (exact ⟨rv_, bl_ HB⟩)

/-! ### notation_standing: function 32 -/
def notation_standing.f (a0 : Int) (a1 : Int) : Option (Int × Int) := (notation_of.f a0).bind fun bt155 => (if bt155.2 = true then (if a1 < 0 then (some (0, 12)) else (if a1 > 6 then (some (0, 12)) else (if a0 = 4 then (if a1 = 0 then (some (bt155.1, 0)) else (some (0, 12))) else (some (bt155.1, 0))))) else (some (0, 30)))
set_option maxHeartbeats 8000000 in
set_option maxRecDepth 100000 in
theorem notation_standing.calls (a0 : Int) (a1 : Int) (r1 : Int) (r2 : Int) (w : World) (h : notation_standing.f a0 a1 = some (r1, r2)) :
    Calls Tryz.prog 32 #[.int .u8 a0, .int .i64 a1] w fun e w' => e = .returned (.tuple #[sysW r1, .int .i64 r2]) ∧ Drawn0 w w' := by
  have H : ((notation_of.f a0).bind fun bt155 => (if bt155.2 = true then (if a1 < 0 then (some (0, 12)) else (if a1 > 6 then (some (0, 12)) else (if a0 = 4 then (if a1 = 0 then (some (bt155.1, 0)) else (some (0, 12))) else (some (bt155.1, 0))))) else (some (0, 30)))) = some (r1, r2) := h
  clear h
  replace H := Option.bind_eq_some_iff.mp H
  obtain ⟨⟨t155, t156⟩, A30, H⟩ := H
  try dsimp only at H
  have A3 := Aside0.mk A30
  clear A30
  have HC4 := Aside0.mk H
  clear H
  go_enter Tryz.func32, Tryz.ntmps32
  go_upto_if 14 with (first | ((with_reducible refine gate_callee (f := 21) rfl ?_); refine cl_ 21 (some 10) Tryz.func21 (notation_of.calls a0 t155 t156 _ A3.out) ?_; rintro e w' ⟨rfl, ⟨nd, rfl⟩⟩; refine ⟨_, rfl, ?_⟩))
  (try simp only [Act.put, List.setIfInBounds_toArray, List.set_cons_zero, List.set_cons_succ])
  have H := HC4.out
  clear HC4
  by_cases c5 : t156 = true
  · subst c5
    (rw [if_pos rfl] at H); (by_cases c6 : a1 < 0)
    · rw [if_pos c6] at H
      (have c6b0 := decide_eq_true c6); clear c6; ((first | rw [c6b0] | (simp only [i64_w, i32_w]; rw [c6b0]) | skip)); (simp only [Option.some.injEq, Prod.mk.injEq] at H); (obtain ⟨rfl, rfl⟩ := H); (go_wp2); (go_ret2); (exact ⟨rs_, dr_⟩)
    · rw [if_neg c6] at H
      (have c6b0 := decide_eq_false c6); clear c6; ((first | rw [c6b0] | (simp only [i64_w, i32_w]; rw [c6b0]) | skip)); (by_cases c7 : a1 > 6)
      · rw [if_pos c7] at H
        (have c7b0 : decide (6 < a1) = true := decide_eq_true c7); clear c7; (simp only [Option.some.injEq, Prod.mk.injEq] at H); (obtain ⟨rfl, rfl⟩ := H); (go_wp2); (go_ret2); (exact ⟨rs_, dr_⟩)
      · rw [if_neg c7] at H
        (have c7b0 : decide (6 < a1) = false := decide_eq_false c7); clear c7; (by_cases c8 : a0 = 4)
        · rw [if_pos c8] at H
          (obtain ⟨c8b0, c8b1⟩ := eqT_ c8); clear c8; (by_cases c9 : a1 = 0)
          · rw [if_pos c9] at H
            (obtain ⟨c9b0, c9b1⟩ := eqT_ c9); clear c9; (simp only [Option.some.injEq, Prod.mk.injEq] at H); (obtain ⟨rfl, rfl⟩ := H); (go_wp2); (go_ret2); (exact ⟨rs_, dr_⟩)
          · rw [if_neg c9] at H
            (obtain ⟨c9b0, c9b1⟩ := eqF_ c9); (simp only [Option.some.injEq, Prod.mk.injEq] at H); (obtain ⟨rfl, rfl⟩ := H); (go_wp2); (go_ret2); (exact ⟨rs_, dr_⟩)
        · rw [if_neg c8] at H
          (obtain ⟨c8b0, c8b1⟩ := eqF_ c8); (simp only [Option.some.injEq, Prod.mk.injEq] at H); (obtain ⟨rfl, rfl⟩ := H); (go_wp2); (go_ret2); (exact ⟨rs_, dr_⟩)
  · replace c5 := Bool.eq_false_iff.mpr c5
    subst c5; (rw [if_neg Bool.false_ne_true] at H); (simp only [Option.some.injEq, Prod.mk.injEq] at H); (obtain ⟨rfl, rfl⟩ := H); (go_wp2); (go_ret2); (exact ⟨rs_, dr_⟩)

/-! ### notation_stands: function 33 -/
def notation_stands.f (a0 : Int) (a1 : Int) (a2 : Int) : Option (Bool) := if a2 > 0 then (some (a1 == a2)) else (if a0 = 4 then (some true) else (some (decide (a1 > 6))))
set_option maxHeartbeats 8000000 in
set_option maxRecDepth 100000 in
theorem notation_stands.calls (a0 : Int) (a1 : Int) (a2 : Int) (r : Bool) (w : World) (h : notation_stands.f a0 a1 a2 = some r) :
    Calls Tryz.prog 33 #[.int .u8 a0, .int .i64 a1, .int .i64 a2] w fun e w' => e = .returned (.bool r) ∧ Drawn0 w w' := by
  have H : (if a2 > 0 then (some (a1 == a2)) else (if a0 = 4 then (some true) else (some (decide (a1 > 6))))) = some r := h
  clear h
  by_cases c4 : a2 > 0
  · rw [if_pos c4] at H
    (have c4b0 : decide (0 < a2) = true := decide_eq_true c4); clear c4; (obtain rfl := Option.some.inj H); (go_enter Tryz.func33, Tryz.ntmps33); (go_wp2); (go_ret); (exact ⟨rs_, dr_⟩)
  · rw [if_neg c4] at H
    (have c4b0 : decide (0 < a2) = false := decide_eq_false c4); clear c4; (by_cases c5 : a0 = 4)
    · rw [if_pos c5] at H
      (obtain ⟨c5b0, c5b1⟩ := eqT_ c5); clear c5; (obtain rfl := Option.some.inj H); (go_enter Tryz.func33, Tryz.ntmps33); (go_wp2); (go_ret); (exact ⟨rs_, dr_⟩)
    · rw [if_neg c5] at H
      (obtain ⟨c5b0, c5b1⟩ := eqF_ c5); (obtain rfl := Option.some.inj H); (go_enter Tryz.func33, Tryz.ntmps33); (go_wp2); (go_ret); (exact ⟨rs_, dr_⟩)

/-! ### notation_Place: function 18 -/
mutual
def notation_Place.l0 : Nat → Int → Int → ByteArray → Int → Int → Option (Int × Int × Int)
  | 0, _, _, _, _, _ => none
  | k + 1, x0, x1, x2, x8, x10 => if x10 ≤ 14 then (notation_Place.l1 k x0 x1 x2 x8 x10 0) else (some (0, 0, 4))
def notation_Place.l1 : Nat → Int → Int → ByteArray → Int → Int → Int → Option (Int × Int × Int)
  | 0, _, _, _, _, _, _ => none
  | k + 1, x0, x1, x2, x8, x10, x11 => if x11 ≤ 18 then ((notation_stands.f x0 x10 x1).bind fun t167 => (notation_Place.j2 k x0 x1 x2 x8 x10 x11 t167)) else (notation_Place.j2 k x0 x1 x2 x8 x10 x11 false)
def notation_Place.j2 : Nat → Int → Int → ByteArray → Int → Int → Int → Bool → Option (Int × Int × Int)
  | 0, _, _, _, _, _, _, _ => none
  | k + 1, x0, x1, x2, x8, x10, x11, x36 => if x36 = true then ((dyn_notation_symbol.f k x8 x10 x11).bind fun bt169 => (if bt169.2 = true then (if bt169.1.toList = x2.toList then (some (x10, x11, 0)) else (notation_Place.l1 k x0 x1 x2 x8 x10 (wrap64 (x11 + 1)))) else (notation_Place.l1 k x0 x1 x2 x8 x10 (wrap64 (x11 + 1))))) else (notation_Place.l0 k x0 x1 x2 x8 (wrap64 (x10 + 1)))
end
def notation_Place.f (k : Nat) (a0 : Int) (a1 : Int) (a2 : ByteArray) : Option (Int × Int × Int) := (notation_standing.f a0 a1).bind fun bt165 => (if bt165.2 = 0 then (notation_Place.l0 k a0 a1 a2 bt165.1 1) else (some (0, 0, bt165.2)))
theorem notation_Place.mono_l : ∀ k, (∀ y0 y1 y2 y3 y4, LeO (notation_Place.l0 k y0 y1 y2 y3 y4) (notation_Place.l0 (k + 1) y0 y1 y2 y3 y4)) ∧ (∀ y0 y1 y2 y3 y4 y5, LeO (notation_Place.l1 k y0 y1 y2 y3 y4 y5) (notation_Place.l1 (k + 1) y0 y1 y2 y3 y4 y5)) ∧ (∀ y0 y1 y2 y3 y4 y5 y6, LeO (notation_Place.j2 k y0 y1 y2 y3 y4 y5 y6) (notation_Place.j2 (k + 1) y0 y1 y2 y3 y4 y5 y6))
  | 0 => ⟨fun _ _ _ _ _ r h => by simp [notation_Place.l0] at h, fun _ _ _ _ _ _ r h => by simp [notation_Place.l1] at h, fun _ _ _ _ _ _ _ r h => by simp [notation_Place.j2] at h⟩
  | k + 1 => by
    ((obtain ⟨ih0, ih1, ih2⟩ := notation_Place.mono_l k); (refine ⟨?_, ?_, ?_⟩)); (focus intro y0 y1 y2 y3 y4; (unfold notation_Place.l0); (repeat' first | (with_reducible first | apply ih0 | apply ih1 | apply ih2 | apply dyn_notation_symbol.mono | exact LeO.refl _ | exact LeO.none _ | refine LeO.ite ?_ ?_ | refine LeO.bind ?_ fun _ => ?_) | exact LeO.none _ | refine LeO.ite ?_ ?_ | refine LeO.bind ?_ fun _ => ?_ | apply ih0 | apply ih1 | apply ih2 | apply dyn_notation_symbol.mono)); (focus intro y0 y1 y2 y3 y4 y5; (unfold notation_Place.l1); (repeat' first | (with_reducible first | apply ih0 | apply ih1 | apply ih2 | apply dyn_notation_symbol.mono | exact LeO.refl _ | exact LeO.none _ | refine LeO.ite ?_ ?_ | refine LeO.bind ?_ fun _ => ?_) | exact LeO.none _ | refine LeO.ite ?_ ?_ | refine LeO.bind ?_ fun _ => ?_ | apply ih0 | apply ih1 | apply ih2 | apply dyn_notation_symbol.mono)); (focus intro y0 y1 y2 y3 y4 y5 y6; (unfold notation_Place.j2); (repeat' first | (with_reducible first | apply ih0 | apply ih1 | apply ih2 | apply dyn_notation_symbol.mono | exact LeO.refl _ | exact LeO.none _ | refine LeO.ite ?_ ?_ | refine LeO.bind ?_ fun _ => ?_) | exact LeO.none _ | refine LeO.ite ?_ ?_ | refine LeO.bind ?_ fun _ => ?_ | apply ih0 | apply ih1 | apply ih2 | apply dyn_notation_symbol.mono))
theorem notation_Place.mono : ∀ a0 a1 a2 k, LeO (notation_Place.f k a0 a1 a2) (notation_Place.f (k + 1) a0 a1 a2) := by
  intro a0 a1 a2 k
  obtain ⟨ih0, ih1, ih2⟩ := notation_Place.mono_l k
  unfold notation_Place.f
  repeat' first | (with_reducible first | apply ih0 | apply ih1 | apply ih2 | apply dyn_notation_symbol.mono | exact LeO.refl _ | exact LeO.none _ | refine LeO.ite ?_ ?_ | refine LeO.bind ?_ fun _ => ?_) | exact LeO.none _ | refine LeO.ite ?_ ?_ | refine LeO.bind ?_ fun _ => ?_ | apply ih0 | apply ih1 | apply ih2 | apply dyn_notation_symbol.mono
set_option maxHeartbeats 8000000 in
set_option maxRecDepth 100000 in
theorem notation_Place.calls (k : Nat) (a0 : Int) (a1 : Int) (a2 : ByteArray) (r1 : Int) (r2 : Int) (r3 : Int) (w : World) (h : notation_Place.f k a0 a1 a2 = some (r1, r2, r3)) :
    Calls Tryz.prog 18 #[.int .u8 a0, .int .i64 a1, .string a2] w fun e w' => e = .returned (.tuple #[.agg #[.int .i64 r1, .int .i64 r2], .int .i64 r3]) ∧ Below w.heap.size w w' := by
  have hu49 := Tryz.underlying49
  have HB := Aside0.mk (Below.refl w.heap.size w)
  have H : ((notation_standing.f a0 a1).bind fun bt165 => (if bt165.2 = 0 then (notation_Place.l0 k a0 a1 a2 bt165.1 1) else (some (0, 0, bt165.2)))) = some (r1, r2, r3) := h
  clear h
  replace H := Option.bind_eq_some_iff.mp H
  obtain ⟨⟨t165, t166⟩, A40, H⟩ := H
  try dsimp only at H
  have A4 := Aside0.mk A40
  clear A40
  have HC5 := Aside0.mk H
  clear H
  go_enter Tryz.func18, Tryz.ntmps18
  go_upto_if 22 with (first | ((with_reducible refine gate_dst (N := 6) rfl ?_); refine bx_ 6 #[.int .i64 0, .int .i64 0] 49 HB ?_; clear HB; intro gb164 w6 hg hb BK164 HB GW164; have GE164 := GW164; clear hg hb) | ((with_reducible refine gate_callee (f := 32) rfl ?_); refine cl_ 32 (some 18) Tryz.func32 (notation_standing.calls a0 a1 t165 t166 _ A4.out) ?_; rintro e w' ⟨rfl, ⟨nd, rfl⟩⟩; refine ⟨_, rfl, ?_⟩))
  (try simp only [Act.put, List.setIfInBounds_toArray, List.set_cons_zero, List.set_cons_succ])
  have H := HC5.out
  clear HC5
  by_cases c7 : t166 = 0
  · rw [if_pos c7] at H
    (obtain ⟨c7b0, c7b1⟩ := eqT_ c7); clear c7; ((first | rw [c7b0] | rw [c7b1] | (simp only [i64_w, i32_w]; rw [c7b0]) | skip)); (have H' := Aside0.mk H); clear H; (go_wp2); (go_loopg [10] k (fun kq v10 w' => ∃ (x10_1 : Int) (x165000_1 : Int) (x165001_1 : Int), v10 = .int .i64 x10_1 ∧ Aside0 (notation_Place.l0 kq a0 a1 a2 t165 x10_1 = some (r1, r2, r3)) ∧ Aside0 (kq ≤ k) ∧ Aside0 (w'.heap[gb164]? = some (.cells #[.int .i64 x165000_1, .int .i64 x165001_1] 49 (0, 0))) ∧ Aside0 (Below w.heap.size w w')))
    case atStart => exact ⟨(1), (0), (0), (rs_), H', ⟨Nat.le_refl _⟩, ⟨bk_ BK164⟩, ⟨bl_ HB⟩⟩
    case round =>
      clear H'; (try clear c7b0 c7b1); (obtain ⟨x10_1, x165000_1, x165001_1, rfl, HA, HK1, BK164, HB⟩ := hrel)
      cases gk with
      | zero => exact absurd HA.out (by simp [notation_Place.l0])
      | succ k1 =>
        (have H := HA.out); clear HA; (simp only [notation_Place.l0] at H); (by_cases c8 : x10_1 ≤ 14)
        · rw [if_pos c8] at H
          (have c8b0 := decide_eq_true c8); clear c8; (have H' := Aside0.mk H); clear H; (go_wp2); (go_loopg [11] k1 (fun kq v11 w' => ∃ (x11_2 : Int) (x165000_2 : Int) (x165001_2 : Int), v11 = .int .i64 x11_2 ∧ Aside0 (notation_Place.l1 kq a0 a1 a2 t165 x10_1 x11_2 = some (r1, r2, r3)) ∧ Aside0 (kq ≤ k1) ∧ Aside0 (w'.heap[gb164]? = some (.cells #[.int .i64 x165000_2, .int .i64 x165001_2] 49 (0, 0))) ∧ Aside0 (Below w.heap.size w w')))
          case atStart => exact ⟨(0), (x165000_1), (x165001_1), (rs_), H', ⟨Nat.le_refl _⟩, ⟨bk_ BK164⟩, ⟨bl_ HB⟩⟩
          case round =>
            clear H'; (try clear c8b0); (obtain ⟨x11_2, x165000_2, x165001_2, rfl, HA, HK2, BK164, HB⟩ := hrel)
            cases gk with
            | zero => exact absurd HA.out (by simp [notation_Place.l1])
            | succ k2 =>
              (have H := HA.out); clear HA; (simp only [notation_Place.l1] at H); (have HC9 := Aside0.mk H); clear H; (go_upto_region 8 with (fail)); (go_cut [36] (fun v36 wc => ∃ (kq : Nat) (x36_8 : Bool), v36 = .bool x36_8 ∧ Aside0 (notation_Place.j2 kq a0 a1 a2 t165 x10_1 x11_2 x36_8 = some (r1, r2, r3)) ∧ Aside0 (kq ≤ k2) ∧ Aside0 (wc.heap[gb164]? = some (.cells #[.int .i64 x165000_2, .int .i64 x165001_2] 49 (0, 0))) ∧ Aside0 (Below w.heap.size w wc)))
              case first =>
                (have H := HC9.out); clear HC9; (by_cases c10 : x11_2 ≤ 18)
                · rw [if_pos c10] at H
                  (have c10b0 := decide_eq_true c10); clear c10; ((first | rw [c10b0] | (simp only [i64_w, i32_w]; rw [c10b0]) | skip)); (replace H := Option.bind_eq_some_iff.mp H); (obtain ⟨t167, A110, H⟩ := H); (try dsimp only at H); (have A11 := Aside0.mk A110); clear A110; (have H' := Aside0.mk H); clear H; (go_wp2_with (first | (go_at_call 33; (with_reducible refine (notation_stands.calls a0 x10_1 a1 t167 _ A11.out).mono ?_); rintro e w' ⟨rfl, ⟨nd, rfl⟩⟩))); (go_meet)
                  case rel => exact ⟨_, (t167), (rs_), H', ⟨by have := HK1.out; have := HK2.out; first | omega | exact Nat.le_refl _⟩, ⟨bk_ BK164⟩, ⟨bl_ HB⟩⟩
                · rw [if_neg c10] at H
                  (have c10b0 := decide_eq_false c10); clear c10; ((first | rw [c10b0] | (simp only [i64_w, i32_w]; rw [c10b0]) | skip)); (have H' := Aside0.mk H); clear H; (go_wp2); (go_meet)
                  case rel => exact ⟨_, (false), (rs_), H', ⟨by have := HK1.out; have := HK2.out; first | omega | exact Nat.le_refl _⟩, ⟨bk_ BK164⟩, ⟨bl_ HB⟩⟩
              case rest =>
                clear HC9; (obtain ⟨kq, x36_8, rfl, HA, HJ8, BK164, HB⟩ := hcut)
                cases kq with
                | zero => exact absurd HA.out (by simp [notation_Place.j2])
                | succ kj8 =>
                  (have H := HA.out); clear HA; (simp only [notation_Place.j2] at H); (by_cases c12 : x36_8 = true)
                  · subst c12
                    (rw [if_pos rfl] at H); (replace H := Option.bind_eq_some_iff.mp H); (obtain ⟨⟨t169, t170⟩, A130, H⟩ := H); (try dsimp only at H); (have A13 := Aside0.mk A130); clear A130; (by_cases c14 : t170 = true)
                    · subst c14
                      (rw [if_pos rfl] at H); (have HC15 := Aside0.mk H); clear H; (go_upto_if 53 with (first | ((with_reducible refine gate_dst (N := 12) rfl ?_); refine bx_ 12 #[.int .i64 0, .int .i64 0] 49 HB ?_; clear HB; intro gb168 w16 hg hb BK168 HB GW168; have GE168 := GW168; have NB164_168 := nl_ BK164 hg; have NB168_164 := ng_ BK164 hg; replace BK164 := bb_ BK164 hb; clear hg hb; have hnb17 := NB168_164.out; have hnc17 := NB164_168.out; have hcz18 := blk_cell BK168.out; have hfz18 := blk_frozen BK168.out) | ((with_reducible refine gate_invoke_ (m := "theorbo/notation.symbol") rfl ?_); refine goesI_ (some 45) rfl rfl (sysW t165) #[.agg #[.int .i64 x10_1, .int .i64 x11_2]] rfl (by rfl) (by (try simp only [mA_, mB_, mC_]); first | done | rfl | (simp only [List.length_drop, List.length_take]; rfl)) ?_; (with_reducible refine (dyn_notation_symbol.calls kj8 t165 x10_1 x11_2 t169 true _ A13.out).mono ?_); rintro e w19 ⟨rfl, hb⟩; refine ⟨_, rfl, ?_⟩; replace BK164 := bb_ BK164 hb; replace BK168 := Aside0.mk (blk_below (g := gb168) (o := .cells #[.int .i64 x10_1, .int .i64 x11_2] 49 (0, 0)) (bk_ BK168) hb); replace HB := bs_ HB hb; (try clear hb); (try clear hb2); (try clear hk); (try clear hi)))); ((try simp only [Act.put, List.setIfInBounds_toArray, List.set_cons_zero, List.set_cons_succ])); (have H := HC15.out); clear HC15; (by_cases c20 : t169.toList = a2.toList)
                      · rw [if_pos c20] at H
                        (have c20b0 : (t169.toList == a2.toList) = true := beq_iff_eq.mpr c20); (have c20b1 : (t169.toList != a2.toList) = false := bne_eq_false_iff_eq.mpr c20); clear c20; ((first | rw [c20b0] | rw [c20b1] | (simp only [i64_w, i32_w]; rw [c20b0]) | skip)); (simp only [Option.some.injEq, Prod.mk.injEq] at H); (obtain ⟨rfl, rfl, rfl⟩ := H); (have hnb21 := NB168_164.out); (have hnc21 := NB164_168.out); (have hcz22 := blk_cell BK168.out); (have hfz22 := blk_frozen BK168.out); (have hcz23 := blk_cell BK164.out); (have hfz23 := blk_frozen BK164.out); (go_wp2); (refine bodyPost_ret (results_ct rfl _ _ gb164 49 #[.int .i64 x10_1, .int .i64 x11_2] (0, 0) _ rfl (bk_ BK164) Tryz.underlying49 rfl (by kernel_rfl)) rfl ?_); (exact ⟨rv_, bl_ HB⟩)
                      · rw [if_neg c20] at H
                        (have c20b0 : (t169.toList == a2.toList) = false := beq_eq_false_iff_ne.mpr c20); (have c20b1 : (t169.toList != a2.toList) = true := bne_iff_ne.mpr c20); ((first | rw [c20b0] | rw [c20b1] | (simp only [i64_w, i32_w]; rw [c20b0]) | skip)); (have H' := Aside0.mk H); clear H; (go_wp2); (go_roundg kj8)
                        case measure => have := HK1.out; have := HK2.out; have := HJ8.out; omega
                        case rel => exact ⟨(wrap64 (x11_2 + 1)), (x165000_2), (x165001_2), (rs_), H', ⟨by have := HK1.out; have := HK2.out; have := HJ8.out; omega⟩, ⟨bk_ BK164⟩, ⟨bl_ HB⟩⟩
                    · replace c14 := Bool.eq_false_iff.mpr c14
                      subst c14; (rw [if_neg Bool.false_ne_true] at H); (have H' := Aside0.mk H); clear H; (go_wp2_with (first | ((with_reducible refine gate_dst (N := 12) rfl ?_); refine bx_ 12 #[.int .i64 0, .int .i64 0] 49 HB ?_; clear HB; intro gb168 w24 hg hb BK168 HB GW168; have GE168 := GW168; have NB164_168 := nl_ BK164 hg; have NB168_164 := ng_ BK164 hg; replace BK164 := bb_ BK164 hb; clear hg hb; have hnb25 := NB168_164.out; have hnc25 := NB164_168.out; have hcz26 := blk_cell BK168.out; have hfz26 := blk_frozen BK168.out) | ((with_reducible refine gate_invoke_ (m := "theorbo/notation.symbol") rfl ?_); refine goesI_ (some 45) rfl rfl (sysW t165) #[.agg #[.int .i64 x10_1, .int .i64 x11_2]] rfl (by rfl) (by (try simp only [mA_, mB_, mC_]); first | done | rfl | (simp only [List.length_drop, List.length_take]; rfl)) ?_; (with_reducible refine (dyn_notation_symbol.calls kj8 t165 x10_1 x11_2 t169 false _ A13.out).mono ?_); rintro e w27 ⟨rfl, hb⟩; refine ⟨_, rfl, ?_⟩; replace BK164 := bb_ BK164 hb; replace BK168 := Aside0.mk (blk_below (g := gb168) (o := .cells #[.int .i64 x10_1, .int .i64 x11_2] 49 (0, 0)) (bk_ BK168) hb); replace HB := bs_ HB hb; (try clear hb); (try clear hb2); (try clear hk); (try clear hi)))); (go_roundg kj8)
                      case measure => have := HK1.out; have := HK2.out; have := HJ8.out; omega
                      case rel => exact ⟨(wrap64 (x11_2 + 1)), (x165000_2), (x165001_2), (rs_), H', ⟨by have := HK1.out; have := HK2.out; have := HJ8.out; omega⟩, ⟨bk_ BK164⟩, ⟨bl_ HB⟩⟩
                  · replace c12 := Bool.eq_false_iff.mpr c12
                    subst c12; (rw [if_neg Bool.false_ne_true] at H); (have H' := Aside0.mk H); clear H; (go_wp2); (go_roundg kj8)
                    case measure => have := HK1.out; have := HK2.out; have := HJ8.out; omega
                    case rel => exact ⟨(wrap64 (x10_1 + 1)), (x165000_2), (x165001_2), (rs_), H', ⟨by have := HK1.out; have := HK2.out; have := HJ8.out; omega⟩, ⟨bk_ BK164⟩, ⟨bl_ HB⟩⟩
        · rw [if_neg c8] at H
          (have c8b0 := decide_eq_false c8); clear c8; (simp only [Option.some.injEq, Prod.mk.injEq] at H); (obtain ⟨rfl, rfl, rfl⟩ := H); (have hcz28 := blk_cell BK164.out); (have hfz28 := blk_frozen BK164.out); (go_wp2); (refine bodyPost_ret (results_ct rfl _ _ gb164 49 #[.int .i64 0, .int .i64 0] (0, 0) _ rfl (bk_ BK164) Tryz.underlying49 rfl (by kernel_rfl)) rfl ?_); (exact ⟨rv_, bl_ HB⟩)
  · rw [if_neg c7] at H
    (obtain ⟨c7b0, c7b1⟩ := eqF_ c7); ((first | rw [c7b0] | rw [c7b1] | (simp only [i64_w, i32_w]; rw [c7b0]) | skip)); (simp only [Option.some.injEq, Prod.mk.injEq] at H); (obtain ⟨rfl, rfl, rfl⟩ := H); (have hcz29 := blk_cell BK164.out); (have hfz29 := blk_frozen BK164.out); (go_wp2); (refine bodyPost_ret (results_ct rfl _ _ gb164 49 #[.int .i64 0, .int .i64 0] (0, 0) _ rfl (bk_ BK164) Tryz.underlying49 rfl (by kernel_rfl)) rfl ?_); (exact ⟨rv_, bl_ HB⟩)

/-! ### notation_marked: function 100 -/
def notation_marked.f (l0 : List ByteArray) (a1 : Int) : Option (ByteArray × Bool) := if a1 < 0 then (some ((⟨#[]⟩ : ByteArray), false)) else (if a1 ≥ (l0.length : Int) then (some ((⟨#[]⟩ : ByteArray), false)) else (if a1 > 0 then (if 0 ≤ a1 then (if a1 < (l0.length : Int) then (if (rdOf ByteArray.empty l0 a1).toList = ([] : List UInt8) then (some ((⟨#[]⟩ : ByteArray), false)) else (some (rdOf ByteArray.empty l0 a1, true))) else (none)) else (none)) else (if 0 ≤ a1 then (if a1 < (l0.length : Int) then (some (rdOf ByteArray.empty l0 a1, true)) else (none)) else (none))))
set_option maxHeartbeats 8000000 in
set_option maxRecDepth 100000 in
theorem notation_marked.calls (A0 : Option Addr) (c0 : Nat) (l0 : List ByteArray) (a1 : Int) (r1 : ByteArray) (r2 : Bool) (w : World) (hr0 : Kd.C Kd.string w A0 l0.length l0) (hc0 : l0.length ≤ c0) (h : notation_marked.f l0 a1 = some (r1, r2)) :
    Calls Tryz.prog 100 #[.slice A0 l0.length c0, .int .i64 a1] w fun e w' => e = .returned (.tuple #[.string r1, .bool r2]) ∧ Drawn0 w w' := by
  have HR0 := Aside0.mk hr0
  have HC0 := Aside0.mk hc0
  clear hr0 hc0
  have H : (if a1 < 0 then (some ((⟨#[]⟩ : ByteArray), false)) else (if a1 ≥ (l0.length : Int) then (some ((⟨#[]⟩ : ByteArray), false)) else (if a1 > 0 then (if 0 ≤ a1 then (if a1 < (l0.length : Int) then (if (rdOf ByteArray.empty l0 a1).toList = ([] : List UInt8) then (some ((⟨#[]⟩ : ByteArray), false)) else (some (rdOf ByteArray.empty l0 a1, true))) else (none)) else (none)) else (if 0 ≤ a1 then (if a1 < (l0.length : Int) then (some (rdOf ByteArray.empty l0 a1, true)) else (none)) else (none))))) = some (r1, r2) := h
  clear h
  by_cases c3 : a1 < 0
  · rw [if_pos c3] at H
    (have c3b0 := decide_eq_true c3); clear c3; (simp only [Option.some.injEq, Prod.mk.injEq] at H); (obtain ⟨rfl, rfl⟩ := H); (go_enter Tryz.func100, Tryz.ntmps100); (go_wp2); (go_ret2); (exact ⟨rs_, dr_⟩)
  · rw [if_neg c3] at H
    (have c3b0 := decide_eq_false c3); clear c3; (by_cases c4 : a1 ≥ (l0.length : Int))
    · rw [if_pos c4] at H
      (have c4b0 : decide ((l0.length : Int) ≤ a1) = true := decide_eq_true c4); clear c4; (simp only [Option.some.injEq, Prod.mk.injEq] at H); (obtain ⟨rfl, rfl⟩ := H); (go_enter Tryz.func100, Tryz.ntmps100); (go_wp2); (go_ret2); (exact ⟨rs_, dr_⟩)
    · rw [if_neg c4] at H
      (have c4b0 : decide ((l0.length : Int) ≤ a1) = false := decide_eq_false c4); clear c4; (by_cases c5 : a1 > 0)
      · rw [if_pos c5] at H
        (have c5b0 : decide (0 < a1) = true := decide_eq_true c5); clear c5; (by_cases c6 : 0 ≤ a1)
        · rw [if_pos c6] at H
          (have c6b0 := decide_eq_true c6); clear c6; (by_cases c7 : a1 < (l0.length : Int))
          · rw [if_pos c7] at H
            (have c7b0 := decide_eq_true c7); clear c7; (have HC8 := Aside0.mk H); clear H; (have p174 : 0 ≤ (a1 : Int) := of_decide_eq_true (by first | (with_reducible assumption) | assumption)); (have q174 : a1 < (l0.length : Int) := of_decide_eq_true (by first | (with_reducible assumption) | assumption)); (obtain ⟨ad174, e174, hx174_0⟩ := Kd.at_string HR0.out a1 p174 q174)
            cases e174
            (replace p174 := eq_true p174); (replace q174 := eq_true q174); (go_enter Tryz.func100, Tryz.ntmps100); (go_upto_if 24 with (fail)); (have H := HC8.out); clear HC8; (by_cases c9 : (rdOf ByteArray.empty l0 a1).toList = ([] : List UInt8))
            · rw [if_pos c9] at H
              (have c9b0 : ((rdOf ByteArray.empty l0 a1).toList == ([] : List UInt8)) = true := beq_iff_eq.mpr c9); (have c9b1 : ((rdOf ByteArray.empty l0 a1).toList != ([] : List UInt8)) = false := bne_eq_false_iff_eq.mpr c9); clear c9; ((first | rw [c9b0] | rw [c9b1] | (simp only [i64_w, i32_w]; first | rw [c9b0] | rw [c9b1]) | rw [List.isEmpty_iff.mpr (beq_iff_eq.mp c9b0)] | skip)); (simp only [Option.some.injEq, Prod.mk.injEq] at H); (obtain ⟨rfl, rfl⟩ := H); (go_wp2); (go_ret2); (exact ⟨rs_, dr_⟩)
            · rw [if_neg c9] at H
              (have c9b0 : ((rdOf ByteArray.empty l0 a1).toList == ([] : List UInt8)) = false := beq_eq_false_iff_ne.mpr c9); (have c9b1 : ((rdOf ByteArray.empty l0 a1).toList != ([] : List UInt8)) = true := bne_iff_ne.mpr c9); ((first | rw [c9b0] | rw [c9b1] | (simp only [i64_w, i32_w]; first | rw [c9b0] | rw [c9b1]) | rw [List.isEmpty_eq_false_iff.mpr (beq_eq_false_iff_ne.mp c9b0)] | skip)); (simp only [Option.some.injEq, Prod.mk.injEq] at H); (obtain ⟨rfl, rfl⟩ := H); (have p175 : 0 ≤ (a1 : Int) := of_decide_eq_true (by first | (with_reducible assumption) | assumption)); (have q175 : a1 < (l0.length : Int) := of_decide_eq_true (by first | (with_reducible assumption) | assumption)); (obtain ⟨ad175, e175, hx175_0⟩ := Kd.at_string HR0.out a1 p175 q175); (obtain rfl : ad174 = ad175 := (by injection e175)); (replace p175 := eq_true p175); (replace q175 := eq_true q175); (go_wp2); (go_ret2); (exact ⟨rs_, dr_⟩)
          · rw [if_neg c7] at H
            exact absurd H (by simp)
        · rw [if_neg c6] at H
          exact absurd H (by simp)
      · rw [if_neg c5] at H
        (have c5b0 : decide (0 < a1) = false := decide_eq_false c5); clear c5; (by_cases c10 : 0 ≤ a1)
        · rw [if_pos c10] at H
          (have c10b0 := decide_eq_true c10); clear c10; (by_cases c11 : a1 < (l0.length : Int))
          · rw [if_pos c11] at H
            (have c11b0 := decide_eq_true c11); clear c11; (simp only [Option.some.injEq, Prod.mk.injEq] at H); (obtain ⟨rfl, rfl⟩ := H); (have p176 : 0 ≤ (a1 : Int) := of_decide_eq_true (by first | (with_reducible assumption) | assumption)); (have q176 : a1 < (l0.length : Int) := of_decide_eq_true (by first | (with_reducible assumption) | assumption)); (obtain ⟨ad176, e176, hx176_0⟩ := Kd.at_string HR0.out a1 p176 q176)
            cases e176
            (replace p176 := eq_true p176); (replace q176 := eq_true q176); (go_enter Tryz.func100, Tryz.ntmps100); (go_wp2); (go_ret2); (exact ⟨rs_, dr_⟩)
          · rw [if_neg c11] at H
            exact absurd H (by simp)
        · rw [if_neg c10] at H
          exact absurd H (by simp)

/-! ### notation_french_grace: function 92 -/
def notation_french_grace.f  (a1 : Int) : Option (ByteArray × Bool) := (notation_marked.f (([(⟨#[]⟩ : ByteArray), (⟨#[44]⟩ : ByteArray), (⟨#[94]⟩ : ByteArray), (⟨#[35]⟩ : ByteArray), (⟨#[40]⟩ : ByteArray)] : List ByteArray)) a1).bind fun bt181 => (some (bt181.1, bt181.2))
set_option maxHeartbeats 8000000 in
set_option maxRecDepth 100000 in
theorem notation_french_grace.calls  (a1 : Int) (r1 : ByteArray) (r2 : Bool) (w : World) (h : notation_french_grace.f a1 = some (r1, r2)) :
    Calls Tryz.prog 92 #[.agg #[], .int .i64 a1] w fun e w' => e = .returned (.tuple #[.string r1, .bool r2]) ∧ Below w.heap.size w w' := by
  have hu78 := Tryz.underlying78
  have HB := Aside0.mk (Below.refl w.heap.size w)
  have H : ((notation_marked.f (([(⟨#[]⟩ : ByteArray), (⟨#[44]⟩ : ByteArray), (⟨#[94]⟩ : ByteArray), (⟨#[35]⟩ : ByteArray), (⟨#[40]⟩ : ByteArray)] : List ByteArray)) a1).bind fun bt181 => (some (bt181.1, bt181.2))) = some (r1, r2) := h
  clear h
  obtain ⟨y178, hy178⟩ : ∃ y_ : List ByteArray, y_ = (([(⟨#[]⟩ : ByteArray), (⟨#[44]⟩ : ByteArray), (⟨#[94]⟩ : ByteArray), (⟨#[35]⟩ : ByteArray), (⟨#[40]⟩ : ByteArray)] : List ByteArray)) := ⟨_, rfl⟩
  replace H : ((notation_marked.f y178 a1).bind fun bt181 => (some (bt181.1, bt181.2))) = some (r1, r2) := by first | (rw [hy178]; with_reducible exact H) | (have H2_ := (Option.bind_some _ _).symm.trans H; rw [hy178]; with_reducible exact H2_) | (have H2_ := (Option.bind_some _ _).symm.trans H; with_reducible exact H2_) | with_reducible exact H | (rw [hy178]; exact H) | exact H
  have Ny178 := Aside0.mk hy178
  clear hy178
  replace H := Option.bind_eq_some_iff.mp H
  obtain ⟨⟨t181, t182⟩, A30, H⟩ := H
  try dsimp only at H
  have A3 := Aside0.mk A30
  clear A30
  simp only [Option.some.injEq, Prod.mk.injEq] at H
  obtain ⟨rfl, rfl⟩ := H
  go_enter Tryz.func92, Tryz.ntmps92
  go_wp2_with (first | ((with_reducible refine gate_dst (N := 2) rfl ?_); refine bx_ 2 #[] 78 HB ?_; clear HB; intro gb177 w4 hg hb BK177 HB GW177; have GE177 := GW177; clear hg hb) | ((with_reducible refine gate_dst (N := 6) rfl ?_); refine Kd.R_lit Kd.string _ 9 ?hg (N := 6) ?hd (xs := ([(⟨#[]⟩ : ByteArray), (⟨#[44]⟩ : ByteArray), (⟨#[94]⟩ : ByteArray), (⟨#[35]⟩ : ByteArray), (⟨#[40]⟩ : ByteArray)] : List ByteArray)) (inner := [.string (⟨#[]⟩ : ByteArray), .string (⟨#[44]⟩ : ByteArray), .string (⟨#[94]⟩ : ByteArray), .string (⟨#[35]⟩ : ByteArray), .string (⟨#[40]⟩ : ByteArray)]) (ok := fun _ => True) (okp := fun _ => True) ?hr ?hp (fun _ hk => hk) trivial (Below.refl _ _) (Nat.le_refl _) (by simp) ?_; (case hd => rfl); (case hg => rfl); (case hr => first | (go_simp; done) | (go_simp; rfl)); (case hp => exact (Reps.one (show Kd.M Kd.string _ _ _ (⟨#[]⟩ : ByteArray) [.string (⟨#[]⟩ : ByteArray)] from rfl) (Reps.one (show Kd.M Kd.string _ _ _ (⟨#[44]⟩ : ByteArray) [.string (⟨#[44]⟩ : ByteArray)] from rfl) (Reps.one (show Kd.M Kd.string _ _ _ (⟨#[94]⟩ : ByteArray) [.string (⟨#[94]⟩ : ByteArray)] from rfl) (Reps.one (show Kd.M Kd.string _ _ _ (⟨#[35]⟩ : ByteArray) [.string (⟨#[35]⟩ : ByteArray)] from rfl) (Reps.one (show Kd.M Kd.string _ _ _ (⟨#[40]⟩ : ByteArray) [.string (⟨#[40]⟩ : ByteArray)] from rfl) (Reps.none _ _))))))); intro v179 w5 ho6 hb hg_ hnew_; clear hg_ hnew_; (first | rw [← Ny178.out] at ho6 | (simp only [Int.reduceToNat] at ho6; rw [← Ny178.out] at ho6)); have HO180 := rl_ ho6 HB; replace BK177 := bb_ BK177 hb; replace HB := bs_ HB hb; clear hb ho6; obtain ⟨Ao7, co7, eo7⟩ := Kd.R_slice HO180.out; subst eo7) | ((with_reducible refine gate_callee (f := 100) rfl ?_); refine cl_ 100 (some 8) Tryz.func100 (notation_marked.calls _ _ y178 a1 t181 t182 _ (kq_ HO180) ((Kd.R_reads' HO180.out).2.1) A3.out) ?_; rintro e w' ⟨rfl, ⟨nd, rfl⟩⟩; refine ⟨_, rfl, ?_⟩))
  go_ret2
  exact ⟨rv_, bl_ HB⟩

/-! ### notation_italian_grace: function 124 -/
def notation_italian_grace.f  (a1 : Int) : Option (ByteArray × Bool) := (notation_marked.f (([(⟨#[]⟩ : ByteArray), (⟨#[116]⟩ : ByteArray), (⟨#[]⟩ : ByteArray), (⟨#[35]⟩ : ByteArray)] : List ByteArray)) a1).bind fun bt193 => (some (bt193.1, bt193.2))
set_option maxHeartbeats 8000000 in
set_option maxRecDepth 100000 in
theorem notation_italian_grace.calls  (a1 : Int) (r1 : ByteArray) (r2 : Bool) (w : World) (h : notation_italian_grace.f a1 = some (r1, r2)) :
    Calls Tryz.prog 124 #[.agg #[], .int .i64 a1] w fun e w' => e = .returned (.tuple #[.string r1, .bool r2]) ∧ Below w.heap.size w w' := by
  have hu82 := Tryz.underlying82
  have HB := Aside0.mk (Below.refl w.heap.size w)
  have H : ((notation_marked.f (([(⟨#[]⟩ : ByteArray), (⟨#[116]⟩ : ByteArray), (⟨#[]⟩ : ByteArray), (⟨#[35]⟩ : ByteArray)] : List ByteArray)) a1).bind fun bt193 => (some (bt193.1, bt193.2))) = some (r1, r2) := h
  clear h
  obtain ⟨y190, hy190⟩ : ∃ y_ : List ByteArray, y_ = (([(⟨#[]⟩ : ByteArray), (⟨#[116]⟩ : ByteArray), (⟨#[]⟩ : ByteArray), (⟨#[35]⟩ : ByteArray)] : List ByteArray)) := ⟨_, rfl⟩
  replace H : ((notation_marked.f y190 a1).bind fun bt193 => (some (bt193.1, bt193.2))) = some (r1, r2) := by first | (rw [hy190]; with_reducible exact H) | (have H2_ := (Option.bind_some _ _).symm.trans H; rw [hy190]; with_reducible exact H2_) | (have H2_ := (Option.bind_some _ _).symm.trans H; with_reducible exact H2_) | with_reducible exact H | (rw [hy190]; exact H) | exact H
  have Ny190 := Aside0.mk hy190
  clear hy190
  replace H := Option.bind_eq_some_iff.mp H
  obtain ⟨⟨t193, t194⟩, A30, H⟩ := H
  try dsimp only at H
  have A3 := Aside0.mk A30
  clear A30
  simp only [Option.some.injEq, Prod.mk.injEq] at H
  obtain ⟨rfl, rfl⟩ := H
  go_enter Tryz.func124, Tryz.ntmps124
  go_wp2_with (first | ((with_reducible refine gate_dst (N := 2) rfl ?_); refine bx_ 2 #[] 82 HB ?_; clear HB; intro gb189 w4 hg hb BK189 HB GW189; have GE189 := GW189; clear hg hb) | ((with_reducible refine gate_dst (N := 6) rfl ?_); refine Kd.R_lit Kd.string _ 9 ?hg (N := 6) ?hd (xs := ([(⟨#[]⟩ : ByteArray), (⟨#[116]⟩ : ByteArray), (⟨#[]⟩ : ByteArray), (⟨#[35]⟩ : ByteArray)] : List ByteArray)) (inner := [.string (⟨#[]⟩ : ByteArray), .string (⟨#[116]⟩ : ByteArray), .string (⟨#[]⟩ : ByteArray), .string (⟨#[35]⟩ : ByteArray)]) (ok := fun _ => True) (okp := fun _ => True) ?hr ?hp (fun _ hk => hk) trivial (Below.refl _ _) (Nat.le_refl _) (by simp) ?_; (case hd => rfl); (case hg => rfl); (case hr => first | (go_simp; done) | (go_simp; rfl)); (case hp => exact (Reps.one (show Kd.M Kd.string _ _ _ (⟨#[]⟩ : ByteArray) [.string (⟨#[]⟩ : ByteArray)] from rfl) (Reps.one (show Kd.M Kd.string _ _ _ (⟨#[116]⟩ : ByteArray) [.string (⟨#[116]⟩ : ByteArray)] from rfl) (Reps.one (show Kd.M Kd.string _ _ _ (⟨#[]⟩ : ByteArray) [.string (⟨#[]⟩ : ByteArray)] from rfl) (Reps.one (show Kd.M Kd.string _ _ _ (⟨#[35]⟩ : ByteArray) [.string (⟨#[35]⟩ : ByteArray)] from rfl) (Reps.none _ _)))))); intro v191 w5 ho6 hb hg_ hnew_; clear hg_ hnew_; (first | rw [← Ny190.out] at ho6 | (simp only [Int.reduceToNat] at ho6; rw [← Ny190.out] at ho6)); have HO192 := rl_ ho6 HB; replace BK189 := bb_ BK189 hb; replace HB := bs_ HB hb; clear hb ho6; obtain ⟨Ao7, co7, eo7⟩ := Kd.R_slice HO192.out; subst eo7) | ((with_reducible refine gate_callee (f := 100) rfl ?_); refine cl_ 100 (some 8) Tryz.func100 (notation_marked.calls _ _ y190 a1 t193 t194 _ (kq_ HO192) ((Kd.R_reads' HO192.out).2.1) A3.out) ?_; rintro e w' ⟨rfl, ⟨nd, rfl⟩⟩; refine ⟨_, rfl, ?_⟩))
  go_ret2
  exact ⟨rv_, bl_ HB⟩

/-! ### notation_spanish_grace: function 131 -/
def notation_spanish_grace.f  (a1 : Int) : Option (ByteArray × Bool) := some ((⟨#[]⟩ : ByteArray), (a1 == 0))
set_option maxHeartbeats 8000000 in
set_option maxRecDepth 100000 in
theorem notation_spanish_grace.calls  (a1 : Int) (r1 : ByteArray) (r2 : Bool) (w : World) (h : notation_spanish_grace.f a1 = some (r1, r2)) :
    Calls Tryz.prog 131 #[.agg #[], .int .i64 a1] w fun e w' => e = .returned (.tuple #[.string r1, .bool r2]) ∧ Below w.heap.size w w' := by
  have hu84 := Tryz.underlying84
  have HB := Aside0.mk (Below.refl w.heap.size w)
  have H : (some ((⟨#[]⟩ : ByteArray), (a1 == 0))) = some (r1, r2) := h
  clear h
  simp only [Option.some.injEq, Prod.mk.injEq] at H
  obtain ⟨rfl, rfl⟩ := H
  go_enter Tryz.func131, Tryz.ntmps131
  go_wp2_with (first | ((with_reducible refine gate_dst (N := 2) rfl ?_); refine bx_ 2 #[] 84 HB ?_; clear HB; intro gb201 w3 hg hb BK201 HB GW201; have GE201 := GW201; clear hg hb))
  go_ret2
  exact ⟨rv_, bl_ HB⟩

/-! ### notation_german_grace: function 139 -/
def notation_german_grace.f  (a1 : Int) : Option (ByteArray × Bool) := (notation_marked.f (([(⟨#[]⟩ : ByteArray), (⟨#[]⟩ : ByteArray), (⟨#[]⟩ : ByteArray), (⟨#[35]⟩ : ByteArray)] : List ByteArray)) a1).bind fun bt207 => (some (bt207.1, bt207.2))
set_option maxHeartbeats 8000000 in
set_option maxRecDepth 100000 in
theorem notation_german_grace.calls  (a1 : Int) (r1 : ByteArray) (r2 : Bool) (w : World) (h : notation_german_grace.f a1 = some (r1, r2)) :
    Calls Tryz.prog 139 #[.agg #[], .int .i64 a1] w fun e w' => e = .returned (.tuple #[.string r1, .bool r2]) ∧ Below w.heap.size w w' := by
  have hu86 := Tryz.underlying86
  have HB := Aside0.mk (Below.refl w.heap.size w)
  have H : ((notation_marked.f (([(⟨#[]⟩ : ByteArray), (⟨#[]⟩ : ByteArray), (⟨#[]⟩ : ByteArray), (⟨#[35]⟩ : ByteArray)] : List ByteArray)) a1).bind fun bt207 => (some (bt207.1, bt207.2))) = some (r1, r2) := h
  clear h
  obtain ⟨y204, hy204⟩ : ∃ y_ : List ByteArray, y_ = (([(⟨#[]⟩ : ByteArray), (⟨#[]⟩ : ByteArray), (⟨#[]⟩ : ByteArray), (⟨#[35]⟩ : ByteArray)] : List ByteArray)) := ⟨_, rfl⟩
  replace H : ((notation_marked.f y204 a1).bind fun bt207 => (some (bt207.1, bt207.2))) = some (r1, r2) := by first | (rw [hy204]; with_reducible exact H) | (have H2_ := (Option.bind_some _ _).symm.trans H; rw [hy204]; with_reducible exact H2_) | (have H2_ := (Option.bind_some _ _).symm.trans H; with_reducible exact H2_) | with_reducible exact H | (rw [hy204]; exact H) | exact H
  have Ny204 := Aside0.mk hy204
  clear hy204
  replace H := Option.bind_eq_some_iff.mp H
  obtain ⟨⟨t207, t208⟩, A30, H⟩ := H
  try dsimp only at H
  have A3 := Aside0.mk A30
  clear A30
  simp only [Option.some.injEq, Prod.mk.injEq] at H
  obtain ⟨rfl, rfl⟩ := H
  go_enter Tryz.func139, Tryz.ntmps139
  go_wp2_with (first | ((with_reducible refine gate_dst (N := 2) rfl ?_); refine bx_ 2 #[] 86 HB ?_; clear HB; intro gb203 w4 hg hb BK203 HB GW203; have GE203 := GW203; clear hg hb) | ((with_reducible refine gate_dst (N := 6) rfl ?_); refine Kd.R_lit Kd.string _ 9 ?hg (N := 6) ?hd (xs := ([(⟨#[]⟩ : ByteArray), (⟨#[]⟩ : ByteArray), (⟨#[]⟩ : ByteArray), (⟨#[35]⟩ : ByteArray)] : List ByteArray)) (inner := [.string (⟨#[]⟩ : ByteArray), .string (⟨#[]⟩ : ByteArray), .string (⟨#[]⟩ : ByteArray), .string (⟨#[35]⟩ : ByteArray)]) (ok := fun _ => True) (okp := fun _ => True) ?hr ?hp (fun _ hk => hk) trivial (Below.refl _ _) (Nat.le_refl _) (by simp) ?_; (case hd => rfl); (case hg => rfl); (case hr => first | (go_simp; done) | (go_simp; rfl)); (case hp => exact (Reps.one (show Kd.M Kd.string _ _ _ (⟨#[]⟩ : ByteArray) [.string (⟨#[]⟩ : ByteArray)] from rfl) (Reps.one (show Kd.M Kd.string _ _ _ (⟨#[]⟩ : ByteArray) [.string (⟨#[]⟩ : ByteArray)] from rfl) (Reps.one (show Kd.M Kd.string _ _ _ (⟨#[]⟩ : ByteArray) [.string (⟨#[]⟩ : ByteArray)] from rfl) (Reps.one (show Kd.M Kd.string _ _ _ (⟨#[35]⟩ : ByteArray) [.string (⟨#[35]⟩ : ByteArray)] from rfl) (Reps.none _ _)))))); intro v205 w5 ho6 hb hg_ hnew_; clear hg_ hnew_; (first | rw [← Ny204.out] at ho6 | (simp only [Int.reduceToNat] at ho6; rw [← Ny204.out] at ho6)); have HO206 := rl_ ho6 HB; replace BK203 := bb_ BK203 hb; replace HB := bs_ HB hb; clear hb ho6; obtain ⟨Ao7, co7, eo7⟩ := Kd.R_slice HO206.out; subst eo7) | ((with_reducible refine gate_callee (f := 100) rfl ?_); refine cl_ 100 (some 8) Tryz.func100 (notation_marked.calls _ _ y204 a1 t207 t208 _ (kq_ HO206) ((Kd.R_reads' HO206.out).2.1) A3.out) ?_; rintro e w' ⟨rfl, ⟨nd, rfl⟩⟩; refine ⟨_, rfl, ?_⟩))
  go_ret2
  exact ⟨rv_, bl_ HB⟩

/-! ### dyn_notation_grace: a method of an interface's value, by its tag -/
def dyn_notation_grace.f (a0 : Int) (a1 : Int) : Option (ByteArray × Bool) := if a0 = 1 then notation_french_grace.f a1 else if a0 = 2 then notation_italian_grace.f a1 else if a0 = 3 then notation_spanish_grace.f a1 else if a0 = 4 then notation_german_grace.f a1 else  none
set_option maxRecDepth 100000 in
theorem dyn_notation_grace.calls (a0 : Int) (a1 : Int) (r1 : ByteArray) (r2 : Bool) (w : World) (h : dyn_notation_grace.f a0 a1 = some (r1, r2)) :
    Invokes Tryz.prog (sysW a0) "theorbo/notation.grace" #[.int .i64 a1] w fun e w' => e = .returned (.tuple #[.string r1, .bool r2]) ∧ Below w.heap.size w w' := by
  unfold dyn_notation_grace.f at h
  by_cases c1 : a0 = 1
  · subst c1
    rw [if_pos rfl] at h
    exact ⟨92, _, (fun w => by kernel_rfl : ∀ w : World, (callMethod (sysW 1) "theorbo/notation.grace" #[.int .i64 a1]).run Tryz.prog w = .ok (.enter 92 #[.agg #[], .int .i64 a1]) w) w, (notation_french_grace.calls a1 r1 r2 w h)⟩
  rw [if_neg c1] at h
  by_cases c2 : a0 = 2
  · subst c2
    rw [if_pos rfl] at h
    exact ⟨124, _, (fun w => by kernel_rfl : ∀ w : World, (callMethod (sysW 2) "theorbo/notation.grace" #[.int .i64 a1]).run Tryz.prog w = .ok (.enter 124 #[.agg #[], .int .i64 a1]) w) w, (notation_italian_grace.calls a1 r1 r2 w h)⟩
  rw [if_neg c2] at h
  by_cases c3 : a0 = 3
  · subst c3
    rw [if_pos rfl] at h
    exact ⟨131, _, (fun w => by kernel_rfl : ∀ w : World, (callMethod (sysW 3) "theorbo/notation.grace" #[.int .i64 a1]).run Tryz.prog w = .ok (.enter 131 #[.agg #[], .int .i64 a1]) w) w, (notation_spanish_grace.calls a1 r1 r2 w h)⟩
  rw [if_neg c3] at h
  by_cases c4 : a0 = 4
  · subst c4
    rw [if_pos rfl] at h
    exact ⟨139, _, (fun w => by kernel_rfl : ∀ w : World, (callMethod (sysW 4) "theorbo/notation.grace" #[.int .i64 a1]).run Tryz.prog w = .ok (.enter 139 #[.agg #[], .int .i64 a1]) w) w, (notation_german_grace.calls a1 r1 r2 w h)⟩
  rw [if_neg c4] at h
  exact absurd h (by simp)

/-! ### notation_french_hold: function 94 -/
def notation_french_hold.f  (a1 : Int) (a2 : Int) : Option (ByteArray × Bool) := if a1 = 0 then (some ((⟨#[]⟩ : ByteArray), true)) else ((strconv_Itoa.f a1).bind fun t216 => (if 1 + t216.size ≤ 9223372036854775807 then (some ((⟨#[95]⟩ : ByteArray) ++ t216, true)) else (none)))
set_option maxHeartbeats 8000000 in
set_option maxRecDepth 100000 in
theorem notation_french_hold.calls  (a1 : Int) (a2 : Int) (r1 : ByteArray) (r2 : Bool) (w : World) (h : notation_french_hold.f a1 a2 = some (r1, r2)) :
    Calls Tryz.prog 94 #[.agg #[], .int .i64 a1, .int .i64 a2] w fun e w' => e = .returned (.tuple #[.string r1, .bool r2]) ∧ Below w.heap.size w w' := by
  have hu78 := Tryz.underlying78
  have HB := Aside0.mk (Below.refl w.heap.size w)
  have H : (if a1 = 0 then (some ((⟨#[]⟩ : ByteArray), true)) else ((strconv_Itoa.f a1).bind fun t216 => (if 1 + t216.size ≤ 9223372036854775807 then (some ((⟨#[95]⟩ : ByteArray) ++ t216, true)) else (none)))) = some (r1, r2) := h
  clear h
  by_cases c4 : a1 = 0
  · rw [if_pos c4] at H
    (obtain ⟨c4b0, c4b1⟩ := eqT_ c4); clear c4; (simp only [Option.some.injEq, Prod.mk.injEq] at H); (obtain ⟨rfl, rfl⟩ := H); (go_enter Tryz.func94, Tryz.ntmps94); (go_wp2_with (first | ((with_reducible refine gate_dst (N := 3) rfl ?_); refine bx_ 3 #[] 78 HB ?_; clear HB; intro gb215 w5 hg hb BK215 HB GW215; have GE215 := GW215; clear hg hb))); (go_ret2); (exact ⟨rv_, bl_ HB⟩)
  · rw [if_neg c4] at H
    (obtain ⟨c4b0, c4b1⟩ := eqF_ c4); (replace H := Option.bind_eq_some_iff.mp H); (obtain ⟨t216, A60, H⟩ := H); (try dsimp only at H); (have A6 := Aside0.mk A60); clear A60; (by_cases c7 : 1 + t216.size ≤ 9223372036854775807)
    · rw [if_pos c7] at H
      (have c7b0 := eq_true c7); (have c7b1 : decide (1 + t216.size ≤ 9223372036854775807) = true := decide_eq_true c7); (try have c7b2 : (9223372036854775807 < 1 + t216.size) = False := eq_false (Nat.not_lt.2 c7)); (simp only [Option.some.injEq, Prod.mk.injEq] at H); (obtain ⟨rfl, rfl⟩ := H); (go_enter Tryz.func94, Tryz.ntmps94); (go_wp2_with (first | ((with_reducible refine gate_dst (N := 3) rfl ?_); refine bx_ 3 #[] 78 HB ?_; clear HB; intro gb215 w8 hg hb BK215 HB GW215; have GE215 := GW215; clear hg hb) | ((with_reducible refine gate_callee (f := 101) rfl ?_); refine cl_ 101 (some 11) Tryz.func101 (strconv_Itoa.calls a1 t216 _ A6.out) ?_; rintro e w' ⟨rfl, ⟨nd, rfl⟩⟩; refine ⟨_, rfl, ?_⟩))); (go_ret2); (exact ⟨rv_, bl_ HB⟩)
    · rw [if_neg c7] at H
      exact absurd H (by simp)

/-! ### notation_starred_hold: function 123 -/
def notation_starred_hold.f  (a1 : Int) (a2 : Int) : Option (ByteArray × Bool) := if a1 = 0 then (some ((⟨#[]⟩ : ByteArray), true)) else (if a1 = a2 then (some ((⟨#[42]⟩ : ByteArray), true)) else (some ((⟨#[]⟩ : ByteArray), false)))
set_option maxHeartbeats 8000000 in
set_option maxRecDepth 100000 in
theorem notation_starred_hold.calls  (a1 : Int) (a2 : Int) (r1 : ByteArray) (r2 : Bool) (w : World) (h : notation_starred_hold.f a1 a2 = some (r1, r2)) :
    Calls Tryz.prog 123 #[.agg #[], .int .i64 a1, .int .i64 a2] w fun e w' => e = .returned (.tuple #[.string r1, .bool r2]) ∧ Below w.heap.size w w' := by
  have hu80 := Tryz.underlying80
  have HB := Aside0.mk (Below.refl w.heap.size w)
  have H : (if a1 = 0 then (some ((⟨#[]⟩ : ByteArray), true)) else (if a1 = a2 then (some ((⟨#[42]⟩ : ByteArray), true)) else (some ((⟨#[]⟩ : ByteArray), false)))) = some (r1, r2) := h
  clear h
  have HC4 := Aside0.mk H
  clear H
  go_enter Tryz.func123, Tryz.ntmps123
  go_upto_if 9 with (first | ((with_reducible refine gate_dst (N := 3) rfl ?_); refine bx_ 3 #[] 80 HB ?_; clear HB; intro gb220 w5 hg hb BK220 HB GW220; have GE220 := GW220; clear hg hb))
  (try simp only [Act.put, List.setIfInBounds_toArray, List.set_cons_zero, List.set_cons_succ])
  have H := HC4.out
  clear HC4
  by_cases c6 : a1 = 0
  · rw [if_pos c6] at H
    (obtain ⟨c6b0, c6b1⟩ := eqT_ c6); clear c6; ((first | rw [c6b0] | rw [c6b1] | (simp only [i64_w, i32_w]; rw [c6b0]) | skip)); (simp only [Option.some.injEq, Prod.mk.injEq] at H); (obtain ⟨rfl, rfl⟩ := H); (go_wp2); (go_ret2); (exact ⟨rv_, bl_ HB⟩)
  · rw [if_neg c6] at H
    (obtain ⟨c6b0, c6b1⟩ := eqF_ c6); ((first | rw [c6b0] | rw [c6b1] | (simp only [i64_w, i32_w]; rw [c6b0]) | skip)); (by_cases c7 : a1 = a2)
    · rw [if_pos c7] at H
      (obtain ⟨c7b0, c7b1⟩ := eqT_ c7); clear c7; (simp only [Option.some.injEq, Prod.mk.injEq] at H); (obtain ⟨rfl, rfl⟩ := H); (go_wp2); (go_ret2); (exact ⟨rv_, bl_ HB⟩)
    · rw [if_neg c7] at H
      (obtain ⟨c7b0, c7b1⟩ := eqF_ c7); (simp only [Option.some.injEq, Prod.mk.injEq] at H); (obtain ⟨rfl, rfl⟩ := H); (go_wp2); (go_ret2); (exact ⟨rv_, bl_ HB⟩)

/-! ### notation_spanish_hold: function 133 -/
def notation_spanish_hold.f  (a1 : Int) (a2 : Int) : Option (ByteArray × Bool) := some ((⟨#[]⟩ : ByteArray), (a1 == 0))
set_option maxHeartbeats 8000000 in
set_option maxRecDepth 100000 in
theorem notation_spanish_hold.calls  (a1 : Int) (a2 : Int) (r1 : ByteArray) (r2 : Bool) (w : World) (h : notation_spanish_hold.f a1 a2 = some (r1, r2)) :
    Calls Tryz.prog 133 #[.agg #[], .int .i64 a1, .int .i64 a2] w fun e w' => e = .returned (.tuple #[.string r1, .bool r2]) ∧ Below w.heap.size w w' := by
  have hu84 := Tryz.underlying84
  have HB := Aside0.mk (Below.refl w.heap.size w)
  have H : (some ((⟨#[]⟩ : ByteArray), (a1 == 0))) = some (r1, r2) := h
  clear h
  simp only [Option.some.injEq, Prod.mk.injEq] at H
  obtain ⟨rfl, rfl⟩ := H
  go_enter Tryz.func133, Tryz.ntmps133
  go_wp2_with (first | ((with_reducible refine gate_dst (N := 3) rfl ?_); refine bx_ 3 #[] 84 HB ?_; clear HB; intro gb221 w4 hg hb BK221 HB GW221; have GE221 := GW221; clear hg hb))
  go_ret2
  exact ⟨rv_, bl_ HB⟩

/-! ### dyn_notation_hold: a method of an interface's value, by its tag -/
def dyn_notation_hold.f (a0 : Int) (a1 : Int) (a2 : Int) : Option (ByteArray × Bool) := if a0 = 1 then notation_french_hold.f a1 a2 else if a0 = 2 then notation_starred_hold.f a1 a2 else if a0 = 3 then notation_spanish_hold.f a1 a2 else if a0 = 4 then notation_starred_hold.f a1 a2 else  none
set_option maxRecDepth 100000 in
theorem dyn_notation_hold.calls (a0 : Int) (a1 : Int) (a2 : Int) (r1 : ByteArray) (r2 : Bool) (w : World) (h : dyn_notation_hold.f a0 a1 a2 = some (r1, r2)) :
    Invokes Tryz.prog (sysW a0) "theorbo/notation.hold" #[.int .i64 a1, .int .i64 a2] w fun e w' => e = .returned (.tuple #[.string r1, .bool r2]) ∧ Below w.heap.size w w' := by
  unfold dyn_notation_hold.f at h
  by_cases c1 : a0 = 1
  · subst c1
    rw [if_pos rfl] at h
    exact ⟨94, _, (fun w => by kernel_rfl : ∀ w : World, (callMethod (sysW 1) "theorbo/notation.hold" #[.int .i64 a1, .int .i64 a2]).run Tryz.prog w = .ok (.enter 94 #[.agg #[], .int .i64 a1, .int .i64 a2]) w) w, (notation_french_hold.calls a1 a2 r1 r2 w h)⟩
  rw [if_neg c1] at h
  by_cases c2 : a0 = 2
  · subst c2
    rw [if_pos rfl] at h
    exact ⟨123, _, (fun w => by kernel_rfl : ∀ w : World, (callMethod (sysW 2) "theorbo/notation.hold" #[.int .i64 a1, .int .i64 a2]).run Tryz.prog w = .ok (.enter 123 #[.agg #[], .int .i64 a1, .int .i64 a2]) w) w, (notation_starred_hold.calls a1 a2 r1 r2 w h)⟩
  rw [if_neg c2] at h
  by_cases c3 : a0 = 3
  · subst c3
    rw [if_pos rfl] at h
    exact ⟨133, _, (fun w => by kernel_rfl : ∀ w : World, (callMethod (sysW 3) "theorbo/notation.hold" #[.int .i64 a1, .int .i64 a2]).run Tryz.prog w = .ok (.enter 133 #[.agg #[], .int .i64 a1, .int .i64 a2]) w) w, (notation_spanish_hold.calls a1 a2 r1 r2 w h)⟩
  rw [if_neg c3] at h
  by_cases c4 : a0 = 4
  · subst c4
    rw [if_pos rfl] at h
    exact ⟨123, _, (fun w => by kernel_rfl : ∀ w : World, (callMethod (sysW 4) "theorbo/notation.hold" #[.int .i64 a1, .int .i64 a2]).run Tryz.prog w = .ok (.enter 123 #[.agg #[], .int .i64 a1, .int .i64 a2]) w) w, (notation_starred_hold.calls a1 a2 r1 r2 w h)⟩
  rw [if_neg c4] at h
  exact absurd h (by simp)

end Go.Proofs.YtocpcofihlcnoaaGreat.PNC
