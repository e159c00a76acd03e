-- made by xprint.py (ours) out of the translation
import Derived.Test.YtocpcofihlcnoaaPNCellsx0
import Derived.Test.YtocpcofihlcnoaaPNCellsx3
import Derived.Test.YtocpcofihlcnoaaPNCellsx5
namespace Go.Proofs.Ytocpcofihlcnoaa.PNCells
open Go.RowKit Go.Proofs.YtocpcofihlcnoaaW.PrintWords Go.Proofs.YtocpcofihlcnoaaW.PrintLast Go.Proofs.YtocpcofihlcnoaaW.PrintMore
attribute [local go_sem] max2_int min2_int max_two min_two max_three min_three max_four min_four   -- for this text's walks alone
set_option linter.unusedVariables false
set_option linter.unusedSimpArgs false

/-! ### notation_standing: function 18 -/
def notation_standing.f (a0 : Int) (a1 : Int) : Option (Int × Int) := (notation_of.f a0).bind fun bt225 => (if bt225.2 = true then (if a1 < 0 then (some (0, 12)) else (if a1 > 6 then (some (0, 12)) else (if a0 = 4 then (if a1 = 0 then (some (bt225.1, 0)) else (some (0, 12))) else (some (bt225.1, 0))))) else (some (0, 30)))
set_option maxHeartbeats 8000000 in
set_option maxRecDepth 100000 in
theorem notation_standing.calls (a0 : Int) (a1 : Int) (r1 : Int) (r2 : Int) (w : World) (h : notation_standing.f a0 a1 = some (r1, r2)) :
    Calls Try.prog 18 #[.int .u8 a0, .int .i64 a1] w fun e w' => e = .returned (.tuple #[sysW r1, .int .i64 r2]) ∧ Drawn0 w w' := by
  have H : ((notation_of.f a0).bind fun bt225 => (if bt225.2 = true then (if a1 < 0 then (some (0, 12)) else (if a1 > 6 then (some (0, 12)) else (if a0 = 4 then (if a1 = 0 then (some (bt225.1, 0)) else (some (0, 12))) else (some (bt225.1, 0))))) else (some (0, 30)))) = some (r1, r2) := h
  clear h
  replace H := Option.bind_eq_some_iff.mp H
  obtain ⟨⟨t225, t226⟩, A30, H⟩ := H
  replace H : (if t226 = true then (if a1 < 0 then (some (0, 12)) else (if a1 > 6 then (some (0, 12)) else (if a0 = 4 then (if a1 = 0 then (some (t225, 0)) else (some (0, 12))) else (some (t225, 0))))) else (some (0, 30))) = some (r1, r2) := H
  have A3 := Aside0.mk A30
  clear A30
  by_cases c4 : t226 = true
  · subst c4
    have H1 : (if a1 < 0 then (some (0, 12)) else (if a1 > 6 then (some (0, 12)) else (if a0 = 4 then (if a1 = 0 then (some (t225, 0)) else (some (0, 12))) else (some (t225, 0))))) = some (r1, r2) := by rw [if_pos rfl] at H; exact H
    clear H
    have H := H1
    clear H1
    by_cases c5 : a1 < 0
    · rw [if_pos c5] at H
      have c5b0 : decide (a1 < 0) = true := decide_eq_true c5
      clear c5
      simp only [Option.some.injEq, Prod.mk.injEq] at H
      obtain ⟨rfl, rfl⟩ := H
      go_enter Try.func18, Try.ntmps18
      go_wp2_with (first | ((with_reducible refine gate_callee (f := 26) rfl ?_); refine goesL_ (some 10) rfl rfl Try.func26 (by kernel_rfl) rfl #[.int .u8 a0] rfl (by (try simp only [List.map_toArray, List.map_cons, List.map_nil]); first | done | rfl | (simp only [List.length_drop, List.length_take]; rfl)) ?_; (with_reducible refine (notation_of.calls a0 t225 true _ A3.out).mono ?_); rintro e w' ⟨rfl, ⟨nd, rfl⟩⟩; refine ⟨_, rfl, ?_⟩))
      go_ret2
      exact ⟨by first | rfl | (simp; done) | (simp [*]; done), by repeat (first | exact Drawn0.refl _ | apply Drawn0.step)⟩
    · rw [if_neg c5] at H
      have c5b0 : decide (a1 < 0) = false := decide_eq_false c5
      clear c5
      by_cases c6 : a1 > 6
      · rw [if_pos c6] at H
        have c6b0 : decide (6 < a1) = true := decide_eq_true c6
        clear c6
        simp only [Option.some.injEq, Prod.mk.injEq] at H
        obtain ⟨rfl, rfl⟩ := H
        go_enter Try.func18, Try.ntmps18
        go_wp2_with (first | ((with_reducible refine gate_callee (f := 26) rfl ?_); refine goesL_ (some 10) rfl rfl Try.func26 (by kernel_rfl) rfl #[.int .u8 a0] rfl (by (try simp only [List.map_toArray, List.map_cons, List.map_nil]); first | done | rfl | (simp only [List.length_drop, List.length_take]; rfl)) ?_; (with_reducible refine (notation_of.calls a0 t225 true _ A3.out).mono ?_); rintro e w' ⟨rfl, ⟨nd, rfl⟩⟩; refine ⟨_, rfl, ?_⟩))
        go_ret2
        exact ⟨by first | rfl | (simp; done) | (simp [*]; done), by repeat (first | exact Drawn0.refl _ | apply Drawn0.step)⟩
      · rw [if_neg c6] at H
        have c6b0 : decide (6 < a1) = false := decide_eq_false c6
        clear c6
        by_cases c7 : a0 = 4
        · rw [if_pos c7] at H
          have c7b0 : (a0 == 4) = true := beq_iff_eq.mpr c7
          have c7b1 : (a0 != 4) = false := bne_eq_false_iff_eq.mpr c7
          clear c7
          by_cases c8 : a1 = 0
          · rw [if_pos c8] at H
            have c8b0 : (a1 == 0) = true := beq_iff_eq.mpr c8
            have c8b1 : (a1 != 0) = false := bne_eq_false_iff_eq.mpr c8
            clear c8
            simp only [Option.some.injEq, Prod.mk.injEq] at H
            obtain ⟨rfl, rfl⟩ := H
            go_enter Try.func18, Try.ntmps18
            go_wp2_with (first | ((with_reducible refine gate_callee (f := 26) rfl ?_); refine goesL_ (some 10) rfl rfl Try.func26 (by kernel_rfl) rfl #[.int .u8 a0] rfl (by (try simp only [List.map_toArray, List.map_cons, List.map_nil]); first | done | rfl | (simp only [List.length_drop, List.length_take]; rfl)) ?_; (with_reducible refine (notation_of.calls a0 t225 true _ A3.out).mono ?_); rintro e w' ⟨rfl, ⟨nd, rfl⟩⟩; refine ⟨_, rfl, ?_⟩))
            go_ret2
            exact ⟨by first | rfl | (simp; done) | (simp [*]; done), by repeat (first | exact Drawn0.refl _ | apply Drawn0.step)⟩
          · rw [if_neg c8] at H
            have c8b0 : (a1 == 0) = false := beq_eq_false_iff_ne.mpr c8
            have c8b1 : (a1 != 0) = true := bne_iff_ne.mpr c8
            simp only [Option.some.injEq, Prod.mk.injEq] at H
            obtain ⟨rfl, rfl⟩ := H
            go_enter Try.func18, Try.ntmps18
            go_wp2_with (first | ((with_reducible refine gate_callee (f := 26) rfl ?_); refine goesL_ (some 10) rfl rfl Try.func26 (by kernel_rfl) rfl #[.int .u8 a0] rfl (by (try simp only [List.map_toArray, List.map_cons, List.map_nil]); first | done | rfl | (simp only [List.length_drop, List.length_take]; rfl)) ?_; (with_reducible refine (notation_of.calls a0 t225 true _ A3.out).mono ?_); rintro e w' ⟨rfl, ⟨nd, rfl⟩⟩; refine ⟨_, rfl, ?_⟩))
            go_ret2
            exact ⟨by first | rfl | (simp; done) | (simp [*]; done), by repeat (first | exact Drawn0.refl _ | apply Drawn0.step)⟩
        · rw [if_neg c7] at H
          have c7b0 : (a0 == 4) = false := beq_eq_false_iff_ne.mpr c7
          have c7b1 : (a0 != 4) = true := bne_iff_ne.mpr c7
          simp only [Option.some.injEq, Prod.mk.injEq] at H
          obtain ⟨rfl, rfl⟩ := H
          go_enter Try.func18, Try.ntmps18
          go_wp2_with (first | ((with_reducible refine gate_callee (f := 26) rfl ?_); refine goesL_ (some 10) rfl rfl Try.func26 (by kernel_rfl) rfl #[.int .u8 a0] rfl (by (try simp only [List.map_toArray, List.map_cons, List.map_nil]); first | done | rfl | (simp only [List.length_drop, List.length_take]; rfl)) ?_; (with_reducible refine (notation_of.calls a0 t225 true _ A3.out).mono ?_); rintro e w' ⟨rfl, ⟨nd, rfl⟩⟩; refine ⟨_, rfl, ?_⟩))
          go_ret2
          exact ⟨by first | rfl | (simp; done) | (simp [*]; done), by repeat (first | exact Drawn0.refl _ | apply Drawn0.step)⟩
  · replace c4 := Bool.eq_false_iff.mpr c4
    subst c4
    have H1 : (some (0, 30)) = some (r1, r2) := by rw [if_neg (show ¬ (false = true) by decide)] at H; exact H
    clear H
    have H := H1
    clear H1
    simp only [Option.some.injEq, Prod.mk.injEq] at H
    obtain ⟨rfl, rfl⟩ := H
    go_enter Try.func18, Try.ntmps18
    go_wp2_with (first | ((with_reducible refine gate_callee (f := 26) rfl ?_); refine goesL_ (some 10) rfl rfl Try.func26 (by kernel_rfl) rfl #[.int .u8 a0] rfl (by (try simp only [List.map_toArray, List.map_cons, List.map_nil]); first | done | rfl | (simp only [List.length_drop, List.length_take]; rfl)) ?_; (with_reducible refine (notation_of.calls a0 t225 false _ A3.out).mono ?_); rintro e w' ⟨rfl, ⟨nd, rfl⟩⟩; refine ⟨_, rfl, ?_⟩))
    go_ret2
    exact ⟨by first | rfl | (simp; done) | (simp [*]; done), by repeat (first | exact Drawn0.refl _ | apply Drawn0.step)⟩

/-! ### notation_stands: function 19 -/
def notation_stands.f (a0 : Int) (a1 : Int) (a2 : Int) : Option (Bool) := if a2 > 0 then (some (a1 == a2)) else (if a0 = 4 then (some true) else (some (decide (a1 > 6))))
set_option maxHeartbeats 8000000 in
set_option maxRecDepth 100000 in
theorem notation_stands.calls (a0 : Int) (a1 : Int) (a2 : Int) (r : Bool) (w : World) (h : notation_stands.f a0 a1 a2 = some r) :
    Calls Try.prog 19 #[.int .u8 a0, .int .i64 a1, .int .i64 a2] w fun e w' => e = .returned (.bool r) ∧ Drawn0 w w' := by
  have H : (if a2 > 0 then (some (a1 == a2)) else (if a0 = 4 then (some true) else (some (decide (a1 > 6))))) = some r := h
  clear h
  by_cases c4 : a2 > 0
  · rw [if_pos c4] at H
    have c4b0 : decide (0 < a2) = true := decide_eq_true c4
    clear c4
    obtain rfl := Option.some.inj H
    go_enter Try.func19, Try.ntmps19
    go_wp2
    go_ret
    exact ⟨by first | rfl | (simp; done) | (simp [*]; done), by repeat (first | exact Drawn0.refl _ | apply Drawn0.step)⟩
  · rw [if_neg c4] at H
    have c4b0 : decide (0 < a2) = false := decide_eq_false c4
    clear c4
    by_cases c5 : a0 = 4
    · rw [if_pos c5] at H
      have c5b0 : (a0 == 4) = true := beq_iff_eq.mpr c5
      have c5b1 : (a0 != 4) = false := bne_eq_false_iff_eq.mpr c5
      clear c5
      obtain rfl := Option.some.inj H
      go_enter Try.func19, Try.ntmps19
      go_wp2
      go_ret
      exact ⟨by first | rfl | (simp; done) | (simp [*]; done), by repeat (first | exact Drawn0.refl _ | apply Drawn0.step)⟩
    · rw [if_neg c5] at H
      have c5b0 : (a0 == 4) = false := beq_eq_false_iff_ne.mpr c5
      have c5b1 : (a0 != 4) = true := bne_iff_ne.mpr c5
      obtain rfl := Option.some.inj H
      go_enter Try.func19, Try.ntmps19
      go_wp2
      go_ret
      exact ⟨by first | rfl | (simp; done) | (simp [*]; done), by repeat (first | exact Drawn0.refl _ | apply Drawn0.step)⟩

/-! ### stringslite_HasPrefix: function 30 -/
def stringslite_HasPrefix.f (a0 : ByteArray) (a1 : ByteArray) : Option (Bool) := if (a0.size : Int) ≥ (a1.size : Int) then (if 0 ≤ (a1.size : Int) then (if (a1.size : Int) ≤ (a0.size : Int) then (some ((a0.extract 0 ((a1.size : Int) : Int).toNat).toList == a1.toList)) else (none)) else (none)) else (some false)
set_option maxHeartbeats 8000000 in
set_option maxRecDepth 100000 in
theorem stringslite_HasPrefix.calls (a0 : ByteArray) (a1 : ByteArray) (r : Bool) (w : World) (h : stringslite_HasPrefix.f a0 a1 = some r) :
    Calls Try.prog 30 #[.string a0, .string a1] w fun e w' => e = .returned (.bool r) ∧ Drawn0 w w' := by
  have H : (if (a0.size : Int) ≥ (a1.size : Int) then (if 0 ≤ (a1.size : Int) then (if (a1.size : Int) ≤ (a0.size : Int) then (some ((a0.extract 0 ((a1.size : Int) : Int).toNat).toList == a1.toList)) else (none)) else (none)) else (some false)) = some r := h
  clear h
  by_cases c3 : (a0.size : Int) ≥ (a1.size : Int)
  · rw [if_pos c3] at H
    have c3b0 : decide ((a1.size : Int) ≤ (a0.size : Int)) = true := decide_eq_true c3
    have c3b1 : decide (a1.size ≤ a0.size) = true := decide_eq_true (Int.ofNat_le.mp c3)
    clear c3
    by_cases c4 : 0 ≤ (a1.size : Int)
    · rw [if_pos c4] at H
      have c4b0 := eq_true c4
      have c4b1 : decide (0 ≤ (a1.size : Int)) = true := decide_eq_true c4
      clear c4
      by_cases c5 : (a1.size : Int) ≤ (a0.size : Int)
      · rw [if_pos c5] at H
        have c5b0 := eq_true c5
        have c5b1 : decide ((a1.size : Int) ≤ (a0.size : Int)) = true := decide_eq_true c5
        clear c5
        obtain rfl := Option.some.inj H
        go_enter Try.func30, Try.ntmps30
        go_wp2
        go_ret
        exact ⟨by first | rfl | (simp; done) | (simp [*]; done), by repeat (first | exact Drawn0.refl _ | apply Drawn0.step)⟩
      · rw [if_neg c5] at H
        exact absurd H (by simp)
    · rw [if_neg c4] at H
      exact absurd H (by simp)
  · rw [if_neg c3] at H
    have c3b0 : decide ((a1.size : Int) ≤ (a0.size : Int)) = false := decide_eq_false c3
    have c3b1 : decide (a1.size ≤ a0.size) = false := decide_eq_false (fun h => c3 (Int.ofNat_le.mpr h))
    clear c3
    obtain rfl := Option.some.inj H
    go_enter Try.func30, Try.ntmps30
    go_wp2
    go_ret
    exact ⟨by first | rfl | (simp; done) | (simp [*]; done), by repeat (first | exact Drawn0.refl _ | apply Drawn0.step)⟩

/-! ### strings_HasPrefix: function 20 -/
def strings_HasPrefix.f (a0 : ByteArray) (a1 : ByteArray) : Option (Bool) := (stringslite_HasPrefix.f a0 a1).bind fun t227 => (some t227)
set_option maxHeartbeats 8000000 in
set_option maxRecDepth 100000 in
theorem strings_HasPrefix.calls (a0 : ByteArray) (a1 : ByteArray) (r : Bool) (w : World) (h : strings_HasPrefix.f a0 a1 = some r) :
    Calls Try.prog 20 #[.string a0, .string a1] w fun e w' => e = .returned (.bool r) ∧ Drawn0 w w' := by
  have H : ((stringslite_HasPrefix.f a0 a1).bind fun t227 => (some t227)) = some r := h
  clear h
  replace H := Option.bind_eq_some_iff.mp H
  obtain ⟨t227, A30, H⟩ := H
  replace H : (some t227) = some r := H
  have A3 := Aside0.mk A30
  clear A30
  obtain rfl := Option.some.inj H
  go_enter Try.func20, Try.ntmps20
  go_wp2_with (first | ((with_reducible refine gate_callee (f := 30) rfl ?_); refine goesL_ (some 7) rfl rfl Try.func30 (by kernel_rfl) rfl #[.string a0, .string a1] rfl (by (try simp only [List.map_toArray, List.map_cons, List.map_nil]); first | done | rfl | (simp only [List.length_drop, List.length_take]; rfl)) ?_; (with_reducible refine (stringslite_HasPrefix.calls a0 a1 t227 _ A3.out).mono ?_); rintro e w' ⟨rfl, ⟨nd, rfl⟩⟩; refine ⟨_, rfl, ?_⟩))
  go_ret
  exact ⟨by first | rfl | (simp; done) | (simp [*]; done), by repeat (first | exact Drawn0.refl _ | apply Drawn0.step)⟩

/-! ### notation_markedAs: function 21 -/
mutual
def notation_markedAs.l0 : Nat → Int → ByteArray → Int → Int → Int → Int → Int → Int → Option (Int × Int × Int × Int × Int × Bool)
  | 0, _, _, _, _, _, _, _, _ => none
  | k + 1, x0, x2, x3, x229000, x229001, x229002, x229003, x229004 => if x229002 ≤ 3 then (notation_markedAs.l1 k x0 x2 x3 x229000 x229001 x229002 0 x229004) else (some (0, 0, 0, 0, 0, false))
def notation_markedAs.l1 : Nat → Int → ByteArray → Int → Int → Int → Int → Int → Int → Option (Int × Int × Int × Int × Int × Bool)
  | 0, _, _, _, _, _, _, _, _ => none
  | k + 1, x0, x2, x3, x229000, x229001, x229002, x229003, x229004 => if x229003 ≤ 4 then (notation_markedAs.l2 k x0 x2 x3 x229000 x229001 x229002 x229003 0) else (notation_markedAs.l0 k x0 x2 x3 x229000 x229001 (wrap64 (x229002 + 1)) x229003 x229004)
def notation_markedAs.l2 : Nat → Int → ByteArray → Int → Int → Int → Int → Int → Int → Option (Int × Int × Int × Int × Int × Bool)
  | 0, _, _, _, _, _, _, _, _ => none
  | k + 1, x0, x2, x3, x229000, x229001, x229002, x229003, x229004 => if x229004 ≤ x3 then (if x229004 > 0 then (notation_markedAs.j3 k x0 x2 x3 (x229001 == 0) x229000 x229001 x229002 x229003 x229004) else (notation_markedAs.j3 k x0 x2 x3 false x229000 x229001 x229002 x229003 x229004)) else (notation_markedAs.l1 k x0 x2 x3 x229000 x229001 x229002 (wrap64 (x229003 + 1)) x229004)
def notation_markedAs.j3 : Nat → Int → ByteArray → Int → Bool → Int → Int → Int → Int → Int → Option (Int × Int × Int × Int × Int × Bool)
  | 0, _, _, _, _, _, _, _, _, _ => none
  | k + 1, x0, x2, x3, x44, x229000, x229001, x229002, x229003, x229004 => if x44 = true then (notation_markedAs.l1 k x0 x2 x3 x229000 x229001 x229002 (wrap64 (x229003 + 1)) x229004) else ((notation_cell.f k x0 x229000 x229001 x229002 x229003 x229004 x3).bind fun bt230 => (if bt230.2 = true then (if bt230.1.toList = x2.toList then (some (x229000, x229001, x229002, x229003, x229004, true)) else (notation_markedAs.l2 k x0 x2 x3 x229000 x229001 x229002 x229003 (wrap64 (x229004 + 1)))) else (notation_markedAs.l2 k x0 x2 x3 x229000 x229001 x229002 x229003 (wrap64 (x229004 + 1)))))
end
def notation_markedAs.f (k : Nat) (a0 : Int) (a1_0 : Int) (a1_1 : Int) (a1_2 : Int) (a1_3 : Int) (a1_4 : Int) (a2 : ByteArray) (a3 : Int) : Option (Int × Int × Int × Int × Int × Bool) := notation_markedAs.l0 k a0 a2 a3 a1_0 a1_1 0 a1_3 a1_4
theorem notation_markedAs.mono_l : ∀ k, (∀ y0 y1 y2 y3 y4 y5 y6 y7, LeO (notation_markedAs.l0 k y0 y1 y2 y3 y4 y5 y6 y7) (notation_markedAs.l0 (k + 1) y0 y1 y2 y3 y4 y5 y6 y7)) ∧ (∀ y0 y1 y2 y3 y4 y5 y6 y7, LeO (notation_markedAs.l1 k y0 y1 y2 y3 y4 y5 y6 y7) (notation_markedAs.l1 (k + 1) y0 y1 y2 y3 y4 y5 y6 y7)) ∧ (∀ y0 y1 y2 y3 y4 y5 y6 y7, LeO (notation_markedAs.l2 k y0 y1 y2 y3 y4 y5 y6 y7) (notation_markedAs.l2 (k + 1) y0 y1 y2 y3 y4 y5 y6 y7)) ∧ (∀ y0 y1 y2 y3 y4 y5 y6 y7 y8, LeO (notation_markedAs.j3 k y0 y1 y2 y3 y4 y5 y6 y7 y8) (notation_markedAs.j3 (k + 1) y0 y1 y2 y3 y4 y5 y6 y7 y8))
  | 0 => ⟨fun _ _ _ _ _ _ _ _ r h => by simp [notation_markedAs.l0] at h, fun _ _ _ _ _ _ _ _ r h => by simp [notation_markedAs.l1] at h, fun _ _ _ _ _ _ _ _ r h => by simp [notation_markedAs.l2] at h, fun _ _ _ _ _ _ _ _ _ r h => by simp [notation_markedAs.j3] at h⟩
  | k + 1 => by
    obtain ⟨ih0, ih1, ih2, ih3⟩ := notation_markedAs.mono_l k
    refine ⟨?_, ?_, ?_, ?_⟩
    · intro y0 y1 y2 y3 y4 y5 y6 y7
      unfold notation_markedAs.l0
      repeat' first
      | (with_reducible exact ih0 _ _ _ _ _ _ _ _)
      | (with_reducible exact ih1 _ _ _ _ _ _ _ _)
      | (with_reducible exact ih2 _ _ _ _ _ _ _ _)
      | (with_reducible exact ih3 _ _ _ _ _ _ _ _ _)
      | (with_reducible exact notation_cell.mono _ _ _ _ _ _ _ _)
      | (with_reducible exact LeO.refl _)
      | (with_reducible exact LeO.none _)
      | (with_reducible refine LeO.ite ?_ ?_)
      | (with_reducible refine LeO.bind ?_ (fun _ => ?_))
      | exact ih0 _ _ _ _ _ _ _ _
      | exact ih1 _ _ _ _ _ _ _ _
      | exact ih2 _ _ _ _ _ _ _ _
      | exact ih3 _ _ _ _ _ _ _ _ _
      | exact notation_cell.mono _ _ _ _ _ _ _ _
      | exact LeO.none _
      | refine LeO.ite ?_ ?_
      | refine LeO.bind ?_ (fun _ => ?_)
    · intro y0 y1 y2 y3 y4 y5 y6 y7
      unfold notation_markedAs.l1
      repeat' first
      | (with_reducible exact ih0 _ _ _ _ _ _ _ _)
      | (with_reducible exact ih1 _ _ _ _ _ _ _ _)
      | (with_reducible exact ih2 _ _ _ _ _ _ _ _)
      | (with_reducible exact ih3 _ _ _ _ _ _ _ _ _)
      | (with_reducible exact notation_cell.mono _ _ _ _ _ _ _ _)
      | (with_reducible exact LeO.refl _)
      | (with_reducible exact LeO.none _)
      | (with_reducible refine LeO.ite ?_ ?_)
      | (with_reducible refine LeO.bind ?_ (fun _ => ?_))
      | exact ih0 _ _ _ _ _ _ _ _
      | exact ih1 _ _ _ _ _ _ _ _
      | exact ih2 _ _ _ _ _ _ _ _
      | exact ih3 _ _ _ _ _ _ _ _ _
      | exact notation_cell.mono _ _ _ _ _ _ _ _
      | exact LeO.none _
      | refine LeO.ite ?_ ?_
      | refine LeO.bind ?_ (fun _ => ?_)
    · intro y0 y1 y2 y3 y4 y5 y6 y7
      unfold notation_markedAs.l2
      repeat' first
      | (with_reducible exact ih0 _ _ _ _ _ _ _ _)
      | (with_reducible exact ih1 _ _ _ _ _ _ _ _)
      | (with_reducible exact ih2 _ _ _ _ _ _ _ _)
      | (with_reducible exact ih3 _ _ _ _ _ _ _ _ _)
      | (with_reducible exact notation_cell.mono _ _ _ _ _ _ _ _)
      | (with_reducible exact LeO.refl _)
      | (with_reducible exact LeO.none _)
      | (with_reducible refine LeO.ite ?_ ?_)
      | (with_reducible refine LeO.bind ?_ (fun _ => ?_))
      | exact ih0 _ _ _ _ _ _ _ _
      | exact ih1 _ _ _ _ _ _ _ _
      | exact ih2 _ _ _ _ _ _ _ _
      | exact ih3 _ _ _ _ _ _ _ _ _
      | exact notation_cell.mono _ _ _ _ _ _ _ _
      | exact LeO.none _
      | refine LeO.ite ?_ ?_
      | refine LeO.bind ?_ (fun _ => ?_)
    · intro y0 y1 y2 y3 y4 y5 y6 y7 y8
      unfold notation_markedAs.j3
      repeat' first
      | (with_reducible exact ih0 _ _ _ _ _ _ _ _)
      | (with_reducible exact ih1 _ _ _ _ _ _ _ _)
      | (with_reducible exact ih2 _ _ _ _ _ _ _ _)
      | (with_reducible exact ih3 _ _ _ _ _ _ _ _ _)
      | (with_reducible exact notation_cell.mono _ _ _ _ _ _ _ _)
      | (with_reducible exact LeO.refl _)
      | (with_reducible exact LeO.none _)
      | (with_reducible refine LeO.ite ?_ ?_)
      | (with_reducible refine LeO.bind ?_ (fun _ => ?_))
      | exact ih0 _ _ _ _ _ _ _ _
      | exact ih1 _ _ _ _ _ _ _ _
      | exact ih2 _ _ _ _ _ _ _ _
      | exact ih3 _ _ _ _ _ _ _ _ _
      | exact notation_cell.mono _ _ _ _ _ _ _ _
      | exact LeO.none _
      | refine LeO.ite ?_ ?_
      | refine LeO.bind ?_ (fun _ => ?_)
theorem notation_markedAs.mono : ∀ a0 a1 a2 a3 a4 a5 a6 a7 k, LeO (notation_markedAs.f k a0 a1 a2 a3 a4 a5 a6 a7) (notation_markedAs.f (k + 1) a0 a1 a2 a3 a4 a5 a6 a7) := by
  intro a0 a1 a2 a3 a4 a5 a6 a7 k
  obtain ⟨ih0, ih1, ih2, ih3⟩ := notation_markedAs.mono_l k
  unfold notation_markedAs.f
  repeat' first
      | (with_reducible exact ih0 _ _ _ _ _ _ _ _)
      | (with_reducible exact ih1 _ _ _ _ _ _ _ _)
      | (with_reducible exact ih2 _ _ _ _ _ _ _ _)
      | (with_reducible exact ih3 _ _ _ _ _ _ _ _ _)
      | (with_reducible exact notation_cell.mono _ _ _ _ _ _ _ _)
      | (with_reducible exact LeO.refl _)
      | (with_reducible exact LeO.none _)
      | (with_reducible refine LeO.ite ?_ ?_)
      | (with_reducible refine LeO.bind ?_ (fun _ => ?_))
      | exact ih0 _ _ _ _ _ _ _ _
      | exact ih1 _ _ _ _ _ _ _ _
      | exact ih2 _ _ _ _ _ _ _ _
      | exact ih3 _ _ _ _ _ _ _ _ _
      | exact notation_cell.mono _ _ _ _ _ _ _ _
      | exact LeO.none _
      | refine LeO.ite ?_ ?_
      | refine LeO.bind ?_ (fun _ => ?_)
set_option maxHeartbeats 8000000 in
set_option maxRecDepth 100000 in
theorem notation_markedAs.calls (k : Nat) (a0 : Int) (a1_0 : Int) (a1_1 : Int) (a1_2 : Int) (a1_3 : Int) (a1_4 : Int) (a2 : ByteArray) (a3 : Int) (r1 : Int) (r2 : Int) (r3 : Int) (r4 : Int) (r5 : Int) (r6 : Bool) (w : World) (h : notation_markedAs.f k a0 a1_0 a1_1 a1_2 a1_3 a1_4 a2 a3 = some (r1, r2, r3, r4, r5, r6)) :
    Calls Try.prog 21 #[sysW a0, .agg #[.int .i64 a1_0, .int .i64 a1_1, .int .i64 a1_2, .int .i64 a1_3, .int .i64 a1_4], .string a2, .int .i64 a3] w fun e w' => e = .returned (.tuple #[.agg #[.int .i64 r1, .int .i64 r2, .int .i64 r3, .int .i64 r4, .int .i64 r5], .bool r6]) ∧ Below w.heap.size w w' := by
  have hu24 := Try.underlying24
  have HB := Aside0.mk (Below.refl w.heap.size w)
  have H : (notation_markedAs.l0 k a0 a2 a3 a1_0 a1_1 0 a1_3 a1_4) = some (r1, r2, r3, r4, r5, r6) := h
  clear h
  have H' := Aside0.mk H
  clear H
  go_enter Try.func21, Try.ntmps21
  go_wp2_with (first | ((with_reducible refine gate_dst (N := 5) rfl ?_); refine box_event ?hg (N := 5) ?hd (cs := #[.int .i64 a1_0, .int .i64 a1_1, .int .i64 a1_2, .int .i64 a1_3, .int .i64 a1_4]) (t := 24) ?hr ?_; (case hd => rfl); (case hg => rfl); (case hr => first | (go_simp; done) | (go_simp; rfl)); intro gb228 hg w5 hbox hb; have n0_ := Aside0.mk (below_step (by repeat (first | (with_reducible first | exact HB.out | apply below_alloc | apply pw_below_drewN | apply below_drew1) | exact HB.out)) hb); have n1_ := Aside0.mk (hbox); have n2_ := Aside0.mk ((by rw [hg]; exact (below_size (by repeat (first | (with_reducible first | exact HB.out | apply below_alloc | apply pw_below_drewN | apply below_drew1) | exact HB.out))) : w.heap.size ≤ gb228)); have n3_ := Aside0.mk ((by rw [hg]; exact (below_size (by repeat (first | (with_reducible first | exact HB.out | apply below_alloc | apply pw_below_drewN | apply below_drew1) | exact HB.out))) : w.heap.size ≤ gb228)); clear HB; have HB := n0_; have BK228 := n1_; have GW228 := n2_; have GE228 := n3_; clear n0_ n1_ n2_ n3_; clear hb hbox hg) | ((with_reducible refine gate_dst (N := 8) rfl ?_); refine box_event ?hg (N := 8) ?hd (cs := #[.int .i64 0, .int .i64 0, .int .i64 0, .int .i64 0, .int .i64 0]) (t := 24) ?hr ?_; (case hd => rfl); (case hg => rfl); (case hr => first | (go_simp; done) | (go_simp; rfl)); intro gb229 hg w6 hbox hb; have n0_ := Aside0.mk (blk_below (g := gb228) (o := .cells #[.int .i64 a1_0, .int .i64 a1_1, .int .i64 a1_2, .int .i64 a1_3, .int .i64 a1_4] 24 (0, 0)) (by (with_reducible repeat (first | refine blk_drewN ?_ _ | refine blk_drew ?_ | refine blk_alloc ?_ _)); exact BK228.out) hb); have n1_ := Aside0.mk (below_step (by repeat (first | (with_reducible first | exact HB.out | apply below_alloc | apply pw_below_drewN | apply below_drew1 | refine below_set ?_ GE228.out) | exact HB.out)) hb); have n2_ := Aside0.mk (hbox); have n3_ := Aside0.mk ((by rw [hg]; exact (below_size (by repeat (first | (with_reducible first | exact HB.out | apply below_alloc | apply pw_below_drewN | apply below_drew1 | refine below_set ?_ GE228.out) | exact HB.out))) : w.heap.size ≤ gb229)); have n4_ := Aside0.mk ((by rw [hg]; exact (below_size (by repeat (first | (with_reducible first | exact HB.out | apply below_alloc | apply pw_below_drewN | apply below_drew1 | refine below_set ?_ GE228.out) | exact HB.out))) : w.heap.size ≤ gb229)); have n5_ := Aside0.mk ((by rw [hg]; exact Nat.ne_of_lt (blk_lt (g := gb228) (o := .cells #[.int .i64 a1_0, .int .i64 a1_1, .int .i64 a1_2, .int .i64 a1_3, .int .i64 a1_4] 24 (0, 0)) (by (with_reducible repeat (first | refine blk_drewN ?_ _ | refine blk_drew ?_ | refine blk_alloc ?_ _)); exact BK228.out)) : gb228 ≠ gb229)); have n6_ := Aside0.mk ((by rw [hg]; exact Nat.ne_of_gt (blk_lt (g := gb228) (o := .cells #[.int .i64 a1_0, .int .i64 a1_1, .int .i64 a1_2, .int .i64 a1_3, .int .i64 a1_4] 24 (0, 0)) (by (with_reducible repeat (first | refine blk_drewN ?_ _ | refine blk_drew ?_ | refine blk_alloc ?_ _)); exact BK228.out)) : gb229 ≠ gb228)); clear BK228; clear HB; have BK228 := n0_; have HB := n1_; have BK229 := n2_; have GW229 := n3_; have GE229 := n4_; have NB228_229 := n5_; have NB229_228 := n6_; clear n0_ n1_ n2_ n3_ n4_ n5_ n6_; clear hb hbox hg; have hnb7 := NB228_229.out; have hnc7 := NB229_228.out; have hcz8_0 : w6.cell? ⟨gb228, 0, none⟩ = some (.int .i64 a1_0) := (blk_cell BK228.out 0).trans rfl; have hcz8_1 : w6.cell? ⟨gb228, 1, none⟩ = some (.int .i64 a1_1) := (blk_cell BK228.out 1).trans rfl; have hcz8_2 : w6.cell? ⟨gb228, 2, none⟩ = some (.int .i64 a1_2) := (blk_cell BK228.out 2).trans rfl; have hcz8_3 : w6.cell? ⟨gb228, 3, none⟩ = some (.int .i64 a1_3) := (blk_cell BK228.out 3).trans rfl; have hcz8_4 : w6.cell? ⟨gb228, 4, none⟩ = some (.int .i64 a1_4) := (blk_cell BK228.out 4).trans rfl; have hfz8_0 := blk_frozen BK228.out 0; have hfz8_1 := blk_frozen BK228.out 1; have hfz8_2 := blk_frozen BK228.out 2; have hfz8_3 := blk_frozen BK228.out 3; have hfz8_4 := blk_frozen BK228.out 4))
  go_loopg [] k (fun kq w' => ∃ (x229002_1 : Int) (x229003_1 : Int) (x229004_1 : Int) (x230000_1 : Int) (x230001_1 : Int) (x230002_1 : Int) (x230003_1 : Int) (x230004_1 : Int), Aside0 (notation_markedAs.l0 kq a0 a2 a3 a1_0 a1_1 x229002_1 x229003_1 x229004_1 = some (r1, r2, r3, r4, r5, r6)) ∧ Aside0 (kq ≤ k) ∧ Aside0 (w'.heap[gb228]? = some (.cells #[.int .i64 a1_0, .int .i64 a1_1, .int .i64 x229002_1, .int .i64 x229003_1, .int .i64 x229004_1] 24 (0, 0))) ∧ Aside0 (w'.heap[gb229]? = some (.cells #[.int .i64 x230000_1, .int .i64 x230001_1, .int .i64 x230002_1, .int .i64 x230003_1, .int .i64 x230004_1] 24 (0, 0))) ∧ Aside0 (Below w.heap.size w w'))
  case atStart => exact ⟨(0), (a1_3), (a1_4), (0), (0), (0), (0), (0), H', ⟨Nat.le_refl _⟩, ⟨by (with_reducible repeat (first | refine blk_drewN ?_ _ | refine blk_drew ?_ | refine blk_alloc ?_ _)); refine blk_put (cs := #[.int .i64 a1_0, .int .i64 a1_1, .int .i64 a1_2, .int .i64 a1_3, .int .i64 a1_4]) ?_ 2 _ rfl; (with_reducible repeat (first | refine blk_drewN ?_ _ | refine blk_drew ?_ | refine blk_alloc ?_ _)); exact BK228.out⟩, ⟨by (with_reducible repeat (first | refine blk_drewN ?_ _ | refine blk_drew ?_ | refine blk_alloc ?_ _)); refine blk_far ?_ NB229_228.out _; (with_reducible repeat (first | refine blk_drewN ?_ _ | refine blk_drew ?_ | refine blk_alloc ?_ _)); exact BK229.out⟩, ⟨by repeat (first | (with_reducible first | exact HB.out | apply below_alloc | apply pw_below_drewN | apply below_drew1 | refine below_set ?_ GE228.out | refine below_set ?_ GE229.out) | exact HB.out)⟩⟩
  case round =>
    clear H'
    try clear c2
    try clear p2
    try clear c7
    try clear hcz8_0
    try clear hcz8_1
    try clear hcz8_2
    try clear hcz8_3
    try clear hcz8_4
    try clear hfz8_0
    try clear hfz8_1
    try clear hfz8_2
    try clear hfz8_3
    try clear hfz8_4
    obtain ⟨x229002_1, x229003_1, x229004_1, x230000_1, x230001_1, x230002_1, x230003_1, x230004_1, HA, HK1, BK228, BK229, HB⟩ := hrel
    cases gk with
    | zero => exact absurd HA.out (by simp [notation_markedAs.l0])
    | succ k1 =>
      have H := HA.out
      clear HA
      simp only [notation_markedAs.l0] at H
      by_cases c9 : x229002_1 ≤ 3
      · rw [if_pos c9] at H
        have c9b0 : decide (x229002_1 ≤ 3) = true := decide_eq_true c9
        clear c9
        have H' := Aside0.mk H
        clear H
        have hnb10 := NB228_229.out
        have hnc10 := NB229_228.out
        have hcz11_0 : wr.cell? ⟨gb228, 0, none⟩ = some (.int .i64 a1_0) := (blk_cell BK228.out 0).trans rfl
        have hcz11_1 : wr.cell? ⟨gb228, 1, none⟩ = some (.int .i64 a1_1) := (blk_cell BK228.out 1).trans rfl
        have hcz11_2 : wr.cell? ⟨gb228, 2, none⟩ = some (.int .i64 x229002_1) := (blk_cell BK228.out 2).trans rfl
        have hcz11_3 : wr.cell? ⟨gb228, 3, none⟩ = some (.int .i64 x229003_1) := (blk_cell BK228.out 3).trans rfl
        have hcz11_4 : wr.cell? ⟨gb228, 4, none⟩ = some (.int .i64 x229004_1) := (blk_cell BK228.out 4).trans rfl
        have hfz11_0 := blk_frozen BK228.out 0
        have hfz11_1 := blk_frozen BK228.out 1
        have hfz11_2 := blk_frozen BK228.out 2
        have hfz11_3 := blk_frozen BK228.out 3
        have hfz11_4 := blk_frozen BK228.out 4
        go_wp2
        go_loopg [] k1 (fun kq w' => ∃ (x229003_2 : Int) (x229004_2 : Int) (x230000_2 : Int) (x230001_2 : Int) (x230002_2 : Int) (x230003_2 : Int) (x230004_2 : Int), Aside0 (notation_markedAs.l1 kq a0 a2 a3 a1_0 a1_1 x229002_1 x229003_2 x229004_2 = some (r1, r2, r3, r4, r5, r6)) ∧ Aside0 (kq ≤ k1) ∧ Aside0 (w'.heap[gb228]? = some (.cells #[.int .i64 a1_0, .int .i64 a1_1, .int .i64 x229002_1, .int .i64 x229003_2, .int .i64 x229004_2] 24 (0, 0))) ∧ Aside0 (w'.heap[gb229]? = some (.cells #[.int .i64 x230000_2, .int .i64 x230001_2, .int .i64 x230002_2, .int .i64 x230003_2, .int .i64 x230004_2] 24 (0, 0))) ∧ Aside0 (Below w.heap.size w w'))
        case atStart => exact ⟨(0), (x229004_1), (x230000_1), (x230001_1), (x230002_1), (x230003_1), (x230004_1), H', ⟨Nat.le_refl _⟩, ⟨by (with_reducible repeat (first | refine blk_drewN ?_ _ | refine blk_drew ?_ | refine blk_alloc ?_ _)); refine blk_put (cs := #[.int .i64 a1_0, .int .i64 a1_1, .int .i64 x229002_1, .int .i64 x229003_1, .int .i64 x229004_1]) ?_ 3 _ rfl; (with_reducible repeat (first | refine blk_drewN ?_ _ | refine blk_drew ?_ | refine blk_alloc ?_ _)); exact BK228.out⟩, ⟨by (with_reducible repeat (first | refine blk_drewN ?_ _ | refine blk_drew ?_ | refine blk_alloc ?_ _)); refine blk_far ?_ NB229_228.out _; (with_reducible repeat (first | refine blk_drewN ?_ _ | refine blk_drew ?_ | refine blk_alloc ?_ _)); exact BK229.out⟩, ⟨by repeat (first | (with_reducible first | exact HB.out | apply below_alloc | apply pw_below_drewN | apply below_drew1 | refine below_set ?_ GE228.out | refine below_set ?_ GE229.out) | exact HB.out)⟩⟩
        case round =>
          clear H'
          try clear c1
          try clear c2
          try clear p2
          try clear c7
          try clear c9
          try clear c9b0
          try clear c10
          try clear hcz11_0
          try clear hcz11_1
          try clear hcz11_2
          try clear hcz11_3
          try clear hcz11_4
          try clear hcz8_0
          try clear hcz8_1
          try clear hcz8_2
          try clear hcz8_3
          try clear hcz8_4
          try clear hfz11_0
          try clear hfz11_1
          try clear hfz11_2
          try clear hfz11_3
          try clear hfz11_4
          try clear hfz8_0
          try clear hfz8_1
          try clear hfz8_2
          try clear hfz8_3
          try clear hfz8_4
          try clear p2
          obtain ⟨x229003_2, x229004_2, x230000_2, x230001_2, x230002_2, x230003_2, x230004_2, HA, HK2, BK228, BK229, HB⟩ := hrel
          cases gk with
          | zero => exact absurd HA.out (by simp [notation_markedAs.l1])
          | succ k2 =>
            have H := HA.out
            clear HA
            simp only [notation_markedAs.l1] at H
            by_cases c12 : x229003_2 ≤ 4
            · rw [if_pos c12] at H
              have c12b0 : decide (x229003_2 ≤ 4) = true := decide_eq_true c12
              clear c12
              have H' := Aside0.mk H
              clear H
              have hnb13 := NB228_229.out
              have hnc13 := NB229_228.out
              have hcz14_0 : wr.cell? ⟨gb228, 0, none⟩ = some (.int .i64 a1_0) := (blk_cell BK228.out 0).trans rfl
              have hcz14_1 : wr.cell? ⟨gb228, 1, none⟩ = some (.int .i64 a1_1) := (blk_cell BK228.out 1).trans rfl
              have hcz14_2 : wr.cell? ⟨gb228, 2, none⟩ = some (.int .i64 x229002_1) := (blk_cell BK228.out 2).trans rfl
              have hcz14_3 : wr.cell? ⟨gb228, 3, none⟩ = some (.int .i64 x229003_2) := (blk_cell BK228.out 3).trans rfl
              have hcz14_4 : wr.cell? ⟨gb228, 4, none⟩ = some (.int .i64 x229004_2) := (blk_cell BK228.out 4).trans rfl
              have hfz14_0 := blk_frozen BK228.out 0
              have hfz14_1 := blk_frozen BK228.out 1
              have hfz14_2 := blk_frozen BK228.out 2
              have hfz14_3 := blk_frozen BK228.out 3
              have hfz14_4 := blk_frozen BK228.out 4
              go_wp2
              go_loopg [] k2 (fun kq w' => ∃ (x229004_3 : Int) (x230000_3 : Int) (x230001_3 : Int) (x230002_3 : Int) (x230003_3 : Int) (x230004_3 : Int), Aside0 (notation_markedAs.l2 kq a0 a2 a3 a1_0 a1_1 x229002_1 x229003_2 x229004_3 = some (r1, r2, r3, r4, r5, r6)) ∧ Aside0 (kq ≤ k2) ∧ Aside0 (w'.heap[gb228]? = some (.cells #[.int .i64 a1_0, .int .i64 a1_1, .int .i64 x229002_1, .int .i64 x229003_2, .int .i64 x229004_3] 24 (0, 0))) ∧ Aside0 (w'.heap[gb229]? = some (.cells #[.int .i64 x230000_3, .int .i64 x230001_3, .int .i64 x230002_3, .int .i64 x230003_3, .int .i64 x230004_3] 24 (0, 0))) ∧ Aside0 (Below w.heap.size w w'))
              case atStart => exact ⟨(0), (x230000_2), (x230001_2), (x230002_2), (x230003_2), (x230004_2), H', ⟨Nat.le_refl _⟩, ⟨by (with_reducible repeat (first | refine blk_drewN ?_ _ | refine blk_drew ?_ | refine blk_alloc ?_ _)); refine blk_put (cs := #[.int .i64 a1_0, .int .i64 a1_1, .int .i64 x229002_1, .int .i64 x229003_2, .int .i64 x229004_2]) ?_ 4 _ rfl; (with_reducible repeat (first | refine blk_drewN ?_ _ | refine blk_drew ?_ | refine blk_alloc ?_ _)); exact BK228.out⟩, ⟨by (with_reducible repeat (first | refine blk_drewN ?_ _ | refine blk_drew ?_ | refine blk_alloc ?_ _)); refine blk_far ?_ NB229_228.out _; (with_reducible repeat (first | refine blk_drewN ?_ _ | refine blk_drew ?_ | refine blk_alloc ?_ _)); exact BK229.out⟩, ⟨by repeat (first | (with_reducible first | exact HB.out | apply below_alloc | apply pw_below_drewN | apply below_drew1 | refine below_set ?_ GE228.out | refine below_set ?_ GE229.out) | exact HB.out)⟩⟩
              case round =>
                clear H'
                try clear c1
                try clear c2
                try clear p2
                try clear c7
                try clear c9
                try clear c9b0
                try clear c10
                try clear c12
                try clear c12b0
                try clear c13
                try clear hcz11_0
                try clear hcz11_1
                try clear hcz11_2
                try clear hcz11_3
                try clear hcz11_4
                try clear hcz14_0
                try clear hcz14_1
                try clear hcz14_2
                try clear hcz14_3
                try clear hcz14_4
                try clear hcz8_0
                try clear hcz8_1
                try clear hcz8_2
                try clear hcz8_3
                try clear hcz8_4
                try clear hfz11_0
                try clear hfz11_1
                try clear hfz11_2
                try clear hfz11_3
                try clear hfz11_4
                try clear hfz14_0
                try clear hfz14_1
                try clear hfz14_2
                try clear hfz14_3
                try clear hfz14_4
                try clear hfz8_0
                try clear hfz8_1
                try clear hfz8_2
                try clear hfz8_3
                try clear hfz8_4
                try clear p2
                obtain ⟨x229004_3, x230000_3, x230001_3, x230002_3, x230003_3, x230004_3, HA, HK3, BK228, BK229, HB⟩ := hrel
                cases gk with
                | zero => exact absurd HA.out (by simp [notation_markedAs.l2])
                | succ k3 =>
                  have H := HA.out
                  clear HA
                  simp only [notation_markedAs.l2] at H
                  by_cases c15 : x229004_3 ≤ a3
                  · rw [if_pos c15] at H
                    have c15b0 : decide (x229004_3 ≤ a3) = true := decide_eq_true c15
                    clear c15
                    have HC16 := Aside0.mk H
                    clear H
                    have hnb17 := NB228_229.out
                    have hnc17 := NB229_228.out
                    have hcz18_0 : wr.cell? ⟨gb228, 0, none⟩ = some (.int .i64 a1_0) := (blk_cell BK228.out 0).trans rfl
                    have hcz18_1 : wr.cell? ⟨gb228, 1, none⟩ = some (.int .i64 a1_1) := (blk_cell BK228.out 1).trans rfl
                    have hcz18_2 : wr.cell? ⟨gb228, 2, none⟩ = some (.int .i64 x229002_1) := (blk_cell BK228.out 2).trans rfl
                    have hcz18_3 : wr.cell? ⟨gb228, 3, none⟩ = some (.int .i64 x229003_2) := (blk_cell BK228.out 3).trans rfl
                    have hcz18_4 : wr.cell? ⟨gb228, 4, none⟩ = some (.int .i64 x229004_3) := (blk_cell BK228.out 4).trans rfl
                    have hfz18_0 := blk_frozen BK228.out 0
                    have hfz18_1 := blk_frozen BK228.out 1
                    have hfz18_2 := blk_frozen BK228.out 2
                    have hfz18_3 := blk_frozen BK228.out 3
                    have hfz18_4 := blk_frozen BK228.out 4
                    go_upto_region 10 with (fail)
                    go_cut [44] (fun v44 wc => ∃ (kq : Nat) (x44_15 : Bool), v44 = .bool x44_15 ∧ Aside0 (notation_markedAs.j3 kq a0 a2 a3 x44_15 a1_0 a1_1 x229002_1 x229003_2 x229004_3 = some (r1, r2, r3, r4, r5, r6)) ∧ Aside0 (kq ≤ k3) ∧ Aside0 (wc.heap[gb228]? = some (.cells #[.int .i64 a1_0, .int .i64 a1_1, .int .i64 x229002_1, .int .i64 x229003_2, .int .i64 x229004_3] 24 (0, 0))) ∧ Aside0 (wc.heap[gb229]? = some (.cells #[.int .i64 x230000_3, .int .i64 x230001_3, .int .i64 x230002_3, .int .i64 x230003_3, .int .i64 x230004_3] 24 (0, 0))) ∧ Aside0 (Below w.heap.size w wc))
                    case first =>
                      have H := HC16.out
                      clear HC16
                      by_cases c19 : x229004_3 > 0
                      · rw [if_pos c19] at H
                        have c19b0 : decide (0 < x229004_3) = true := decide_eq_true c19
                        clear c19
                        (first | rw [c19b0] | (simp only [i64_w, i32_w]; rw [c19b0]) | skip)
                        have H' := Aside0.mk H
                        clear H
                        have hnb20 := NB228_229.out
                        have hnc20 := NB229_228.out
                        have hcz21_0 : wr.cell? ⟨gb228, 0, none⟩ = some (.int .i64 a1_0) := (blk_cell BK228.out 0).trans rfl
                        have hcz21_1 : wr.cell? ⟨gb228, 1, none⟩ = some (.int .i64 a1_1) := (blk_cell BK228.out 1).trans rfl
                        have hcz21_2 : wr.cell? ⟨gb228, 2, none⟩ = some (.int .i64 x229002_1) := (blk_cell BK228.out 2).trans rfl
                        have hcz21_3 : wr.cell? ⟨gb228, 3, none⟩ = some (.int .i64 x229003_2) := (blk_cell BK228.out 3).trans rfl
                        have hcz21_4 : wr.cell? ⟨gb228, 4, none⟩ = some (.int .i64 x229004_3) := (blk_cell BK228.out 4).trans rfl
                        have hfz21_0 := blk_frozen BK228.out 0
                        have hfz21_1 := blk_frozen BK228.out 1
                        have hfz21_2 := blk_frozen BK228.out 2
                        have hfz21_3 := blk_frozen BK228.out 3
                        have hfz21_4 := blk_frozen BK228.out 4
                        go_wp2
                        go_meet
                        case rel => exact ⟨_, ((a1_1 == 0)), (by first | rfl | (simp; done) | (simp [*]; done)), H', ⟨by have := HK1.out; have := HK2.out; have := HK3.out; first | omega | exact Nat.le_refl _⟩, ⟨by (with_reducible repeat (first | refine blk_drewN ?_ _ | refine blk_drew ?_ | refine blk_alloc ?_ _)); exact BK228.out⟩, ⟨by (with_reducible repeat (first | refine blk_drewN ?_ _ | refine blk_drew ?_ | refine blk_alloc ?_ _)); exact BK229.out⟩, ⟨by repeat (first | (with_reducible first | exact HB.out | apply below_alloc | apply pw_below_drewN | apply below_drew1 | refine below_set ?_ GE228.out | refine below_set ?_ GE229.out) | exact HB.out)⟩⟩
                      · rw [if_neg c19] at H
                        have c19b0 : decide (0 < x229004_3) = false := decide_eq_false c19
                        clear c19
                        (first | rw [c19b0] | (simp only [i64_w, i32_w]; rw [c19b0]) | skip)
                        have H' := Aside0.mk H
                        clear H
                        have hnb22 := NB228_229.out
                        have hnc22 := NB229_228.out
                        have hcz23_0 : wr.cell? ⟨gb228, 0, none⟩ = some (.int .i64 a1_0) := (blk_cell BK228.out 0).trans rfl
                        have hcz23_1 : wr.cell? ⟨gb228, 1, none⟩ = some (.int .i64 a1_1) := (blk_cell BK228.out 1).trans rfl
                        have hcz23_2 : wr.cell? ⟨gb228, 2, none⟩ = some (.int .i64 x229002_1) := (blk_cell BK228.out 2).trans rfl
                        have hcz23_3 : wr.cell? ⟨gb228, 3, none⟩ = some (.int .i64 x229003_2) := (blk_cell BK228.out 3).trans rfl
                        have hcz23_4 : wr.cell? ⟨gb228, 4, none⟩ = some (.int .i64 x229004_3) := (blk_cell BK228.out 4).trans rfl
                        have hfz23_0 := blk_frozen BK228.out 0
                        have hfz23_1 := blk_frozen BK228.out 1
                        have hfz23_2 := blk_frozen BK228.out 2
                        have hfz23_3 := blk_frozen BK228.out 3
                        have hfz23_4 := blk_frozen BK228.out 4
                        go_wp2
                        go_meet
                        case rel => exact ⟨_, (false), (by first | rfl | (simp; done) | (simp [*]; done)), H', ⟨by have := HK1.out; have := HK2.out; have := HK3.out; first | omega | exact Nat.le_refl _⟩, ⟨by (with_reducible repeat (first | refine blk_drewN ?_ _ | refine blk_drew ?_ | refine blk_alloc ?_ _)); exact BK228.out⟩, ⟨by (with_reducible repeat (first | refine blk_drewN ?_ _ | refine blk_drew ?_ | refine blk_alloc ?_ _)); exact BK229.out⟩, ⟨by repeat (first | (with_reducible first | exact HB.out | apply below_alloc | apply pw_below_drewN | apply below_drew1 | refine below_set ?_ GE228.out | refine below_set ?_ GE229.out) | exact HB.out)⟩⟩
                    case rest =>
                      clear HC16
                      try clear c1
                      try clear c2
                      try clear p2
                      try clear c7
                      try clear c9
                      try clear c9b0
                      try clear c10
                      try clear c12
                      try clear c12b0
                      try clear c13
                      try clear c15
                      try clear c15b0
                      try clear c17
                      try clear c19
                      try clear c19b0
                      try clear c20
                      try clear c21
                      try clear c22
                      try clear hcz11_0
                      try clear hcz11_1
                      try clear hcz11_2
                      try clear hcz11_3
                      try clear hcz11_4
                      try clear hcz14_0
                      try clear hcz14_1
                      try clear hcz14_2
                      try clear hcz14_3
                      try clear hcz14_4
                      try clear hcz18_0
                      try clear hcz18_1
                      try clear hcz18_2
                      try clear hcz18_3
                      try clear hcz18_4
                      try clear hcz21_0
                      try clear hcz21_1
                      try clear hcz21_2
                      try clear hcz21_3
                      try clear hcz21_4
                      try clear hcz23_0
                      try clear hcz23_1
                      try clear hcz23_2
                      try clear hcz23_3
                      try clear hcz23_4
                      try clear hcz8_0
                      try clear hcz8_1
                      try clear hcz8_2
                      try clear hcz8_3
                      try clear hcz8_4
                      try clear hfz11_0
                      try clear hfz11_1
                      try clear hfz11_2
                      try clear hfz11_3
                      try clear hfz11_4
                      try clear hfz14_0
                      try clear hfz14_1
                      try clear hfz14_2
                      try clear hfz14_3
                      try clear hfz14_4
                      try clear hfz18_0
                      try clear hfz18_1
                      try clear hfz18_2
                      try clear hfz18_3
                      try clear hfz18_4
                      try clear hfz21_0
                      try clear hfz21_1
                      try clear hfz21_2
                      try clear hfz21_3
                      try clear hfz21_4
                      try clear hfz23_0
                      try clear hfz23_1
                      try clear hfz23_2
                      try clear hfz23_3
                      try clear hfz23_4
                      try clear hfz8_0
                      try clear hfz8_1
                      try clear hfz8_2
                      try clear hfz8_3
                      try clear hfz8_4
                      try clear p2
                      obtain ⟨kq, x44_15, rfl, HA, HJ15, BK228, BK229, HB⟩ := hcut
                      cases kq with
                      | zero => exact absurd HA.out (by simp [notation_markedAs.j3])
                      | succ kj15 =>
                        have H := HA.out
                        clear HA
                        simp only [notation_markedAs.j3] at H
                        by_cases c24 : x44_15 = true
                        · subst c24
                          have H1 : (notation_markedAs.l1 kj15 a0 a2 a3 a1_0 a1_1 x229002_1 (wrap64 (x229003_2 + 1)) x229004_3) = some (r1, r2, r3, r4, r5, r6) := by rw [if_pos rfl] at H; exact H
                          clear H
                          have H := H1
                          clear H1
                          have H' := Aside0.mk H
                          clear H
                          have hnb25 := NB228_229.out
                          have hnc25 := NB229_228.out
                          have hcz26_0 : wc.cell? ⟨gb228, 0, none⟩ = some (.int .i64 a1_0) := (blk_cell BK228.out 0).trans rfl
                          have hcz26_1 : wc.cell? ⟨gb228, 1, none⟩ = some (.int .i64 a1_1) := (blk_cell BK228.out 1).trans rfl
                          have hcz26_2 : wc.cell? ⟨gb228, 2, none⟩ = some (.int .i64 x229002_1) := (blk_cell BK228.out 2).trans rfl
                          have hcz26_3 : wc.cell? ⟨gb228, 3, none⟩ = some (.int .i64 x229003_2) := (blk_cell BK228.out 3).trans rfl
                          have hcz26_4 : wc.cell? ⟨gb228, 4, none⟩ = some (.int .i64 x229004_3) := (blk_cell BK228.out 4).trans rfl
                          have hfz26_0 := blk_frozen BK228.out 0
                          have hfz26_1 := blk_frozen BK228.out 1
                          have hfz26_2 := blk_frozen BK228.out 2
                          have hfz26_3 := blk_frozen BK228.out 3
                          have hfz26_4 := blk_frozen BK228.out 4
                          go_wp2
                          go_roundg kj15
                          case measure => have := HK1.out; have := HK2.out; have := HK3.out; have := HJ15.out; omega
                          case rel => exact ⟨(wrap64 (x229003_2 + 1)), (x229004_3), (x230000_3), (x230001_3), (x230002_3), (x230003_3), (x230004_3), H', ⟨by have := HK1.out; have := HK2.out; have := HK3.out; have := HJ15.out; omega⟩, ⟨by (with_reducible repeat (first | refine blk_drewN ?_ _ | refine blk_drew ?_ | refine blk_alloc ?_ _)); refine blk_put (cs := #[.int .i64 a1_0, .int .i64 a1_1, .int .i64 x229002_1, .int .i64 x229003_2, .int .i64 x229004_3]) ?_ 3 _ rfl; (with_reducible repeat (first | refine blk_drewN ?_ _ | refine blk_drew ?_ | refine blk_alloc ?_ _)); exact BK228.out⟩, ⟨by (with_reducible repeat (first | refine blk_drewN ?_ _ | refine blk_drew ?_ | refine blk_alloc ?_ _)); refine blk_far ?_ NB229_228.out _; (with_reducible repeat (first | refine blk_drewN ?_ _ | refine blk_drew ?_ | refine blk_alloc ?_ _)); exact BK229.out⟩, ⟨by repeat (first | (with_reducible first | exact HB.out | apply below_alloc | apply pw_below_drewN | apply below_drew1 | refine below_set ?_ GE228.out | refine below_set ?_ GE229.out) | exact HB.out)⟩⟩
                        · replace c24 := Bool.eq_false_iff.mpr c24
                          subst c24
                          have H1 : ((notation_cell.f kj15 a0 a1_0 a1_1 x229002_1 x229003_2 x229004_3 a3).bind fun bt230 => (if bt230.2 = true then (if bt230.1.toList = a2.toList then (some (a1_0, a1_1, x229002_1, x229003_2, x229004_3, true)) else (notation_markedAs.l2 kj15 a0 a2 a3 a1_0 a1_1 x229002_1 x229003_2 (wrap64 (x229004_3 + 1)))) else (notation_markedAs.l2 kj15 a0 a2 a3 a1_0 a1_1 x229002_1 x229003_2 (wrap64 (x229004_3 + 1))))) = some (r1, r2, r3, r4, r5, r6) := by rw [if_neg (show ¬ (false = true) by decide)] at H; exact H
                          clear H
                          have H := H1
                          clear H1
                          replace H := Option.bind_eq_some_iff.mp H
                          obtain ⟨⟨t230, t231⟩, A270, H⟩ := H
                          replace H : (if t231 = true then (if t230.toList = a2.toList then (some (a1_0, a1_1, x229002_1, x229003_2, x229004_3, true)) else (notation_markedAs.l2 kj15 a0 a2 a3 a1_0 a1_1 x229002_1 x229003_2 (wrap64 (x229004_3 + 1)))) else (notation_markedAs.l2 kj15 a0 a2 a3 a1_0 a1_1 x229002_1 x229003_2 (wrap64 (x229004_3 + 1)))) = some (r1, r2, r3, r4, r5, r6) := H
                          have A27 := Aside0.mk A270
                          clear A270
                          by_cases c28 : t231 = true
                          · subst c28
                            have H1 : (if t230.toList = a2.toList then (some (a1_0, a1_1, x229002_1, x229003_2, x229004_3, true)) else (notation_markedAs.l2 kj15 a0 a2 a3 a1_0 a1_1 x229002_1 x229003_2 (wrap64 (x229004_3 + 1)))) = some (r1, r2, r3, r4, r5, r6) := by rw [if_pos rfl] at H; exact H
                            clear H
                            have H := H1
                            clear H1
                            by_cases c29 : t230.toList = a2.toList
                            · rw [if_pos c29] at H
                              have c29b0 : (t230.toList == a2.toList) = true := beq_iff_eq.mpr c29
                              have c29b1 : (t230.toList != a2.toList) = false := bne_eq_false_iff_eq.mpr c29
                              clear c29
                              simp only [Option.some.injEq, Prod.mk.injEq] at H
                              obtain ⟨rfl, rfl, rfl, rfl, rfl, rfl⟩ := H
                              have hnb30 := NB228_229.out
                              have hnc30 := NB229_228.out
                              have hcz31_0 : wc.cell? ⟨gb228, 0, none⟩ = some (.int .i64 a1_0) := (blk_cell BK228.out 0).trans rfl
                              have hcz31_1 : wc.cell? ⟨gb228, 1, none⟩ = some (.int .i64 a1_1) := (blk_cell BK228.out 1).trans rfl
                              have hcz31_2 : wc.cell? ⟨gb228, 2, none⟩ = some (.int .i64 x229002_1) := (blk_cell BK228.out 2).trans rfl
                              have hcz31_3 : wc.cell? ⟨gb228, 3, none⟩ = some (.int .i64 x229003_2) := (blk_cell BK228.out 3).trans rfl
                              have hcz31_4 : wc.cell? ⟨gb228, 4, none⟩ = some (.int .i64 x229004_3) := (blk_cell BK228.out 4).trans rfl
                              have hfz31_0 := blk_frozen BK228.out 0
                              have hfz31_1 := blk_frozen BK228.out 1
                              have hfz31_2 := blk_frozen BK228.out 2
                              have hfz31_3 := blk_frozen BK228.out 3
                              have hfz31_4 := blk_frozen BK228.out 4
                              go_wp2_with (first | ((with_reducible refine gate_callee (f := 12) rfl ?_); refine goesL_ (some 49) rfl rfl Try.func12 (by kernel_rfl) rfl #[sysW a0, .agg #[.int .i64 a1_0, .int .i64 a1_1, .int .i64 x229002_1, .int .i64 x229003_2, .int .i64 x229004_3], .int .i64 a3] rfl (by (try simp only [List.map_toArray, List.map_cons, List.map_nil]); first | done | rfl | (simp only [List.length_drop, List.length_take]; rfl)) ?_; (with_reducible refine (notation_cell.calls kj15 a0 a1_0 a1_1 x229002_1 x229003_2 x229004_3 a3 t230 true _ A27.out).mono ?_); rintro e w32 ⟨rfl, hb⟩; refine ⟨_, rfl, ?_⟩; have n0_ := Aside0.mk (blk_below (g := gb228) (o := .cells #[.int .i64 a1_0, .int .i64 a1_1, .int .i64 x229002_1, .int .i64 x229003_2, .int .i64 x229004_3] 24 (0, 0)) (by (with_reducible repeat (first | refine blk_drewN ?_ _ | refine blk_drew ?_ | refine blk_alloc ?_ _)); exact BK228.out) hb); have n1_ := Aside0.mk (blk_below (g := gb229) (o := .cells #[.int .i64 x230000_3, .int .i64 x230001_3, .int .i64 x230002_3, .int .i64 x230003_3, .int .i64 x230004_3] 24 (0, 0)) (by (with_reducible repeat (first | refine blk_drewN ?_ _ | refine blk_drew ?_ | refine blk_alloc ?_ _)); exact BK229.out) hb); have n2_ := Aside0.mk (below_step (by repeat (first | (with_reducible first | exact HB.out | apply below_alloc | apply pw_below_drewN | apply below_drew1 | refine below_set ?_ GE228.out | refine below_set ?_ GE229.out) | exact HB.out)) hb); clear BK228; clear BK229; clear HB; have BK228 := n0_; have BK229 := n1_; have HB := n2_; clear n0_ n1_ n2_; (try clear hb); (try clear hb2); (try clear hk); (try clear hi); have hcz33_0 : w32.cell? ⟨gb228, 0, none⟩ = some (.int .i64 a1_0) := (blk_cell BK228.out 0).trans rfl; have hcz33_1 : w32.cell? ⟨gb228, 1, none⟩ = some (.int .i64 a1_1) := (blk_cell BK228.out 1).trans rfl; have hcz33_2 : w32.cell? ⟨gb228, 2, none⟩ = some (.int .i64 x229002_1) := (blk_cell BK228.out 2).trans rfl; have hcz33_3 : w32.cell? ⟨gb228, 3, none⟩ = some (.int .i64 x229003_2) := (blk_cell BK228.out 3).trans rfl; have hcz33_4 : w32.cell? ⟨gb228, 4, none⟩ = some (.int .i64 x229004_3) := (blk_cell BK228.out 4).trans rfl; have hfz33_0 := blk_frozen BK228.out 0; have hfz33_1 := blk_frozen BK228.out 1; have hfz33_2 := blk_frozen BK228.out 2; have hfz33_3 := blk_frozen BK228.out 3; have hfz33_4 := blk_frozen BK228.out 4; have hcz34_0 : w32.cell? ⟨gb229, 0, none⟩ = some (.int .i64 x230000_3) := (blk_cell BK229.out 0).trans rfl; have hcz34_1 : w32.cell? ⟨gb229, 1, none⟩ = some (.int .i64 x230001_3) := (blk_cell BK229.out 1).trans rfl; have hcz34_2 : w32.cell? ⟨gb229, 2, none⟩ = some (.int .i64 x230002_3) := (blk_cell BK229.out 2).trans rfl; have hcz34_3 : w32.cell? ⟨gb229, 3, none⟩ = some (.int .i64 x230003_3) := (blk_cell BK229.out 3).trans rfl; have hcz34_4 : w32.cell? ⟨gb229, 4, none⟩ = some (.int .i64 x230004_3) := (blk_cell BK229.out 4).trans rfl; have hfz34_0 := blk_frozen BK229.out 0; have hfz34_1 := blk_frozen BK229.out 1; have hfz34_2 := blk_frozen BK229.out 2; have hfz34_3 := blk_frozen BK229.out 3; have hfz34_4 := blk_frozen BK229.out 4))
                              refine bodyPost_ret (results_ct rfl _ _ gb229 24 #[.int .i64 a1_0, .int .i64 a1_1, .int .i64 x229002_1, .int .i64 x229003_2, .int .i64 x229004_3] (0, 0) _ rfl (by (with_reducible repeat (first | refine blk_drewN ?_ _ | refine blk_drew ?_ | refine blk_alloc ?_ _)); refine blk_put (cs := #[.int .i64 a1_0, .int .i64 a1_1, .int .i64 x229002_1, .int .i64 x229003_2, .int .i64 x230004_3]) ?_ 4 _ rfl; (with_reducible repeat (first | refine blk_drewN ?_ _ | refine blk_drew ?_ | refine blk_alloc ?_ _)); refine blk_put (cs := #[.int .i64 a1_0, .int .i64 a1_1, .int .i64 x229002_1, .int .i64 x230003_3, .int .i64 x230004_3]) ?_ 3 _ rfl; (with_reducible repeat (first | refine blk_drewN ?_ _ | refine blk_drew ?_ | refine blk_alloc ?_ _)); refine blk_put (cs := #[.int .i64 a1_0, .int .i64 a1_1, .int .i64 x230002_3, .int .i64 x230003_3, .int .i64 x230004_3]) ?_ 2 _ rfl; (with_reducible repeat (first | refine blk_drewN ?_ _ | refine blk_drew ?_ | refine blk_alloc ?_ _)); refine blk_put (cs := #[.int .i64 a1_0, .int .i64 x230001_3, .int .i64 x230002_3, .int .i64 x230003_3, .int .i64 x230004_3]) ?_ 1 _ rfl; (with_reducible repeat (first | refine blk_drewN ?_ _ | refine blk_drew ?_ | refine blk_alloc ?_ _)); refine blk_put (cs := #[.int .i64 x230000_3, .int .i64 x230001_3, .int .i64 x230002_3, .int .i64 x230003_3, .int .i64 x230004_3]) ?_ 0 _ rfl; (with_reducible repeat (first | refine blk_drewN ?_ _ | refine blk_drew ?_ | refine blk_alloc ?_ _)); exact BK229.out) Try.underlying24 rfl (by kernel_rfl)) rfl ?_
                              exact ⟨by first | rfl | (simp [errW_none, errW_some] <;> rfl) | (simp [*, errW_none, errW_some] <;> rfl), by repeat (first | (with_reducible first | exact HB.out | apply below_alloc | apply pw_below_drewN | apply below_drew1 | refine below_set ?_ GE228.out | refine below_set ?_ GE229.out) | exact HB.out)⟩
                            · rw [if_neg c29] at H
                              have c29b0 : (t230.toList == a2.toList) = false := beq_eq_false_iff_ne.mpr c29
                              have c29b1 : (t230.toList != a2.toList) = true := bne_iff_ne.mpr c29
                              have H' := Aside0.mk H
                              clear H
                              have hnb35 := NB228_229.out
                              have hnc35 := NB229_228.out
                              have hcz36_0 : wc.cell? ⟨gb228, 0, none⟩ = some (.int .i64 a1_0) := (blk_cell BK228.out 0).trans rfl
                              have hcz36_1 : wc.cell? ⟨gb228, 1, none⟩ = some (.int .i64 a1_1) := (blk_cell BK228.out 1).trans rfl
                              have hcz36_2 : wc.cell? ⟨gb228, 2, none⟩ = some (.int .i64 x229002_1) := (blk_cell BK228.out 2).trans rfl
                              have hcz36_3 : wc.cell? ⟨gb228, 3, none⟩ = some (.int .i64 x229003_2) := (blk_cell BK228.out 3).trans rfl
                              have hcz36_4 : wc.cell? ⟨gb228, 4, none⟩ = some (.int .i64 x229004_3) := (blk_cell BK228.out 4).trans rfl
                              have hfz36_0 := blk_frozen BK228.out 0
                              have hfz36_1 := blk_frozen BK228.out 1
                              have hfz36_2 := blk_frozen BK228.out 2
                              have hfz36_3 := blk_frozen BK228.out 3
                              have hfz36_4 := blk_frozen BK228.out 4
                              go_wp2_with (first | ((with_reducible refine gate_callee (f := 12) rfl ?_); refine goesL_ (some 49) rfl rfl Try.func12 (by kernel_rfl) rfl #[sysW a0, .agg #[.int .i64 a1_0, .int .i64 a1_1, .int .i64 x229002_1, .int .i64 x229003_2, .int .i64 x229004_3], .int .i64 a3] rfl (by (try simp only [List.map_toArray, List.map_cons, List.map_nil]); first | done | rfl | (simp only [List.length_drop, List.length_take]; rfl)) ?_; (with_reducible refine (notation_cell.calls kj15 a0 a1_0 a1_1 x229002_1 x229003_2 x229004_3 a3 t230 true _ A27.out).mono ?_); rintro e w37 ⟨rfl, hb⟩; refine ⟨_, rfl, ?_⟩; have n0_ := Aside0.mk (blk_below (g := gb228) (o := .cells #[.int .i64 a1_0, .int .i64 a1_1, .int .i64 x229002_1, .int .i64 x229003_2, .int .i64 x229004_3] 24 (0, 0)) (by (with_reducible repeat (first | refine blk_drewN ?_ _ | refine blk_drew ?_ | refine blk_alloc ?_ _)); exact BK228.out) hb); have n1_ := Aside0.mk (blk_below (g := gb229) (o := .cells #[.int .i64 x230000_3, .int .i64 x230001_3, .int .i64 x230002_3, .int .i64 x230003_3, .int .i64 x230004_3] 24 (0, 0)) (by (with_reducible repeat (first | refine blk_drewN ?_ _ | refine blk_drew ?_ | refine blk_alloc ?_ _)); exact BK229.out) hb); have n2_ := Aside0.mk (below_step (by repeat (first | (with_reducible first | exact HB.out | apply below_alloc | apply pw_below_drewN | apply below_drew1 | refine below_set ?_ GE228.out | refine below_set ?_ GE229.out) | exact HB.out)) hb); clear BK228; clear BK229; clear HB; have BK228 := n0_; have BK229 := n1_; have HB := n2_; clear n0_ n1_ n2_; (try clear hb); (try clear hb2); (try clear hk); (try clear hi); have hcz38_0 : w37.cell? ⟨gb228, 0, none⟩ = some (.int .i64 a1_0) := (blk_cell BK228.out 0).trans rfl; have hcz38_1 : w37.cell? ⟨gb228, 1, none⟩ = some (.int .i64 a1_1) := (blk_cell BK228.out 1).trans rfl; have hcz38_2 : w37.cell? ⟨gb228, 2, none⟩ = some (.int .i64 x229002_1) := (blk_cell BK228.out 2).trans rfl; have hcz38_3 : w37.cell? ⟨gb228, 3, none⟩ = some (.int .i64 x229003_2) := (blk_cell BK228.out 3).trans rfl; have hcz38_4 : w37.cell? ⟨gb228, 4, none⟩ = some (.int .i64 x229004_3) := (blk_cell BK228.out 4).trans rfl; have hfz38_0 := blk_frozen BK228.out 0; have hfz38_1 := blk_frozen BK228.out 1; have hfz38_2 := blk_frozen BK228.out 2; have hfz38_3 := blk_frozen BK228.out 3; have hfz38_4 := blk_frozen BK228.out 4))
                              go_roundg kj15
                              case measure => have := HK1.out; have := HK2.out; have := HK3.out; have := HJ15.out; omega
                              case rel => exact ⟨(wrap64 (x229004_3 + 1)), (x230000_3), (x230001_3), (x230002_3), (x230003_3), (x230004_3), H', ⟨by have := HK1.out; have := HK2.out; have := HK3.out; have := HJ15.out; omega⟩, ⟨by (with_reducible repeat (first | refine blk_drewN ?_ _ | refine blk_drew ?_ | refine blk_alloc ?_ _)); refine blk_put (cs := #[.int .i64 a1_0, .int .i64 a1_1, .int .i64 x229002_1, .int .i64 x229003_2, .int .i64 x229004_3]) ?_ 4 _ rfl; (with_reducible repeat (first | refine blk_drewN ?_ _ | refine blk_drew ?_ | refine blk_alloc ?_ _)); exact BK228.out⟩, ⟨by (with_reducible repeat (first | refine blk_drewN ?_ _ | refine blk_drew ?_ | refine blk_alloc ?_ _)); refine blk_far ?_ NB229_228.out _; (with_reducible repeat (first | refine blk_drewN ?_ _ | refine blk_drew ?_ | refine blk_alloc ?_ _)); exact BK229.out⟩, ⟨by repeat (first | (with_reducible first | exact HB.out | apply below_alloc | apply pw_below_drewN | apply below_drew1 | refine below_set ?_ GE228.out | refine below_set ?_ GE229.out) | exact HB.out)⟩⟩
                          · replace c28 := Bool.eq_false_iff.mpr c28
                            subst c28
                            have H1 : (notation_markedAs.l2 kj15 a0 a2 a3 a1_0 a1_1 x229002_1 x229003_2 (wrap64 (x229004_3 + 1))) = some (r1, r2, r3, r4, r5, r6) := by rw [if_neg (show ¬ (false = true) by decide)] at H; exact H
                            clear H
                            have H := H1
                            clear H1
                            have H' := Aside0.mk H
                            clear H
                            have hnb39 := NB228_229.out
                            have hnc39 := NB229_228.out
                            have hcz40_0 : wc.cell? ⟨gb228, 0, none⟩ = some (.int .i64 a1_0) := (blk_cell BK228.out 0).trans rfl
                            have hcz40_1 : wc.cell? ⟨gb228, 1, none⟩ = some (.int .i64 a1_1) := (blk_cell BK228.out 1).trans rfl
                            have hcz40_2 : wc.cell? ⟨gb228, 2, none⟩ = some (.int .i64 x229002_1) := (blk_cell BK228.out 2).trans rfl
                            have hcz40_3 : wc.cell? ⟨gb228, 3, none⟩ = some (.int .i64 x229003_2) := (blk_cell BK228.out 3).trans rfl
                            have hcz40_4 : wc.cell? ⟨gb228, 4, none⟩ = some (.int .i64 x229004_3) := (blk_cell BK228.out 4).trans rfl
                            have hfz40_0 := blk_frozen BK228.out 0
                            have hfz40_1 := blk_frozen BK228.out 1
                            have hfz40_2 := blk_frozen BK228.out 2
                            have hfz40_3 := blk_frozen BK228.out 3
                            have hfz40_4 := blk_frozen BK228.out 4
                            go_wp2_with (first | ((with_reducible refine gate_callee (f := 12) rfl ?_); refine goesL_ (some 49) rfl rfl Try.func12 (by kernel_rfl) rfl #[sysW a0, .agg #[.int .i64 a1_0, .int .i64 a1_1, .int .i64 x229002_1, .int .i64 x229003_2, .int .i64 x229004_3], .int .i64 a3] rfl (by (try simp only [List.map_toArray, List.map_cons, List.map_nil]); first | done | rfl | (simp only [List.length_drop, List.length_take]; rfl)) ?_; (with_reducible refine (notation_cell.calls kj15 a0 a1_0 a1_1 x229002_1 x229003_2 x229004_3 a3 t230 false _ A27.out).mono ?_); rintro e w41 ⟨rfl, hb⟩; refine ⟨_, rfl, ?_⟩; have n0_ := Aside0.mk (blk_below (g := gb228) (o := .cells #[.int .i64 a1_0, .int .i64 a1_1, .int .i64 x229002_1, .int .i64 x229003_2, .int .i64 x229004_3] 24 (0, 0)) (by (with_reducible repeat (first | refine blk_drewN ?_ _ | refine blk_drew ?_ | refine blk_alloc ?_ _)); exact BK228.out) hb); have n1_ := Aside0.mk (blk_below (g := gb229) (o := .cells #[.int .i64 x230000_3, .int .i64 x230001_3, .int .i64 x230002_3, .int .i64 x230003_3, .int .i64 x230004_3] 24 (0, 0)) (by (with_reducible repeat (first | refine blk_drewN ?_ _ | refine blk_drew ?_ | refine blk_alloc ?_ _)); exact BK229.out) hb); have n2_ := Aside0.mk (below_step (by repeat (first | (with_reducible first | exact HB.out | apply below_alloc | apply pw_below_drewN | apply below_drew1 | refine below_set ?_ GE228.out | refine below_set ?_ GE229.out) | exact HB.out)) hb); clear BK228; clear BK229; clear HB; have BK228 := n0_; have BK229 := n1_; have HB := n2_; clear n0_ n1_ n2_; (try clear hb); (try clear hb2); (try clear hk); (try clear hi); have hcz42_0 : w41.cell? ⟨gb228, 0, none⟩ = some (.int .i64 a1_0) := (blk_cell BK228.out 0).trans rfl; have hcz42_1 : w41.cell? ⟨gb228, 1, none⟩ = some (.int .i64 a1_1) := (blk_cell BK228.out 1).trans rfl; have hcz42_2 : w41.cell? ⟨gb228, 2, none⟩ = some (.int .i64 x229002_1) := (blk_cell BK228.out 2).trans rfl; have hcz42_3 : w41.cell? ⟨gb228, 3, none⟩ = some (.int .i64 x229003_2) := (blk_cell BK228.out 3).trans rfl; have hcz42_4 : w41.cell? ⟨gb228, 4, none⟩ = some (.int .i64 x229004_3) := (blk_cell BK228.out 4).trans rfl; have hfz42_0 := blk_frozen BK228.out 0; have hfz42_1 := blk_frozen BK228.out 1; have hfz42_2 := blk_frozen BK228.out 2; have hfz42_3 := blk_frozen BK228.out 3; have hfz42_4 := blk_frozen BK228.out 4))
                            go_roundg kj15
                            case measure => have := HK1.out; have := HK2.out; have := HK3.out; have := HJ15.out; omega
                            case rel => exact ⟨(wrap64 (x229004_3 + 1)), (x230000_3), (x230001_3), (x230002_3), (x230003_3), (x230004_3), H', ⟨by have := HK1.out; have := HK2.out; have := HK3.out; have := HJ15.out; omega⟩, ⟨by (with_reducible repeat (first | refine blk_drewN ?_ _ | refine blk_drew ?_ | refine blk_alloc ?_ _)); refine blk_put (cs := #[.int .i64 a1_0, .int .i64 a1_1, .int .i64 x229002_1, .int .i64 x229003_2, .int .i64 x229004_3]) ?_ 4 _ rfl; (with_reducible repeat (first | refine blk_drewN ?_ _ | refine blk_drew ?_ | refine blk_alloc ?_ _)); exact BK228.out⟩, ⟨by (with_reducible repeat (first | refine blk_drewN ?_ _ | refine blk_drew ?_ | refine blk_alloc ?_ _)); refine blk_far ?_ NB229_228.out _; (with_reducible repeat (first | refine blk_drewN ?_ _ | refine blk_drew ?_ | refine blk_alloc ?_ _)); exact BK229.out⟩, ⟨by repeat (first | (with_reducible first | exact HB.out | apply below_alloc | apply pw_below_drewN | apply below_drew1 | refine below_set ?_ GE228.out | refine below_set ?_ GE229.out) | exact HB.out)⟩⟩
                  · rw [if_neg c15] at H
                    have c15b0 : decide (x229004_3 ≤ a3) = false := decide_eq_false c15
                    clear c15
                    have H' := Aside0.mk H
                    clear H
                    have hnb43 := NB228_229.out
                    have hnc43 := NB229_228.out
                    have hcz44_0 : wr.cell? ⟨gb228, 0, none⟩ = some (.int .i64 a1_0) := (blk_cell BK228.out 0).trans rfl
                    have hcz44_1 : wr.cell? ⟨gb228, 1, none⟩ = some (.int .i64 a1_1) := (blk_cell BK228.out 1).trans rfl
                    have hcz44_2 : wr.cell? ⟨gb228, 2, none⟩ = some (.int .i64 x229002_1) := (blk_cell BK228.out 2).trans rfl
                    have hcz44_3 : wr.cell? ⟨gb228, 3, none⟩ = some (.int .i64 x229003_2) := (blk_cell BK228.out 3).trans rfl
                    have hcz44_4 : wr.cell? ⟨gb228, 4, none⟩ = some (.int .i64 x229004_3) := (blk_cell BK228.out 4).trans rfl
                    have hfz44_0 := blk_frozen BK228.out 0
                    have hfz44_1 := blk_frozen BK228.out 1
                    have hfz44_2 := blk_frozen BK228.out 2
                    have hfz44_3 := blk_frozen BK228.out 3
                    have hfz44_4 := blk_frozen BK228.out 4
                    go_wp2
                    go_roundg k3
                    case measure => have := HK1.out; have := HK2.out; have := HK3.out; omega
                    case rel => exact ⟨(wrap64 (x229003_2 + 1)), (x229004_3), (x230000_3), (x230001_3), (x230002_3), (x230003_3), (x230004_3), H', ⟨by have := HK1.out; have := HK2.out; have := HK3.out; omega⟩, ⟨by (with_reducible repeat (first | refine blk_drewN ?_ _ | refine blk_drew ?_ | refine blk_alloc ?_ _)); refine blk_put (cs := #[.int .i64 a1_0, .int .i64 a1_1, .int .i64 x229002_1, .int .i64 x229003_2, .int .i64 x229004_3]) ?_ 3 _ rfl; (with_reducible repeat (first | refine blk_drewN ?_ _ | refine blk_drew ?_ | refine blk_alloc ?_ _)); exact BK228.out⟩, ⟨by (with_reducible repeat (first | refine blk_drewN ?_ _ | refine blk_drew ?_ | refine blk_alloc ?_ _)); refine blk_far ?_ NB229_228.out _; (with_reducible repeat (first | refine blk_drewN ?_ _ | refine blk_drew ?_ | refine blk_alloc ?_ _)); exact BK229.out⟩, ⟨by repeat (first | (with_reducible first | exact HB.out | apply below_alloc | apply pw_below_drewN | apply below_drew1 | refine below_set ?_ GE228.out | refine below_set ?_ GE229.out) | exact HB.out)⟩⟩
            · rw [if_neg c12] at H
              have c12b0 : decide (x229003_2 ≤ 4) = false := decide_eq_false c12
              clear c12
              have H' := Aside0.mk H
              clear H
              have hnb45 := NB228_229.out
              have hnc45 := NB229_228.out
              have hcz46_0 : wr.cell? ⟨gb228, 0, none⟩ = some (.int .i64 a1_0) := (blk_cell BK228.out 0).trans rfl
              have hcz46_1 : wr.cell? ⟨gb228, 1, none⟩ = some (.int .i64 a1_1) := (blk_cell BK228.out 1).trans rfl
              have hcz46_2 : wr.cell? ⟨gb228, 2, none⟩ = some (.int .i64 x229002_1) := (blk_cell BK228.out 2).trans rfl
              have hcz46_3 : wr.cell? ⟨gb228, 3, none⟩ = some (.int .i64 x229003_2) := (blk_cell BK228.out 3).trans rfl
              have hcz46_4 : wr.cell? ⟨gb228, 4, none⟩ = some (.int .i64 x229004_2) := (blk_cell BK228.out 4).trans rfl
              have hfz46_0 := blk_frozen BK228.out 0
              have hfz46_1 := blk_frozen BK228.out 1
              have hfz46_2 := blk_frozen BK228.out 2
              have hfz46_3 := blk_frozen BK228.out 3
              have hfz46_4 := blk_frozen BK228.out 4
              go_wp2
              go_roundg k2
              case measure => have := HK1.out; have := HK2.out; omega
              case rel => exact ⟨(wrap64 (x229002_1 + 1)), (x229003_2), (x229004_2), (x230000_2), (x230001_2), (x230002_2), (x230003_2), (x230004_2), H', ⟨by have := HK1.out; have := HK2.out; omega⟩, ⟨by (with_reducible repeat (first | refine blk_drewN ?_ _ | refine blk_drew ?_ | refine blk_alloc ?_ _)); refine blk_put (cs := #[.int .i64 a1_0, .int .i64 a1_1, .int .i64 x229002_1, .int .i64 x229003_2, .int .i64 x229004_2]) ?_ 2 _ rfl; (with_reducible repeat (first | refine blk_drewN ?_ _ | refine blk_drew ?_ | refine blk_alloc ?_ _)); exact BK228.out⟩, ⟨by (with_reducible repeat (first | refine blk_drewN ?_ _ | refine blk_drew ?_ | refine blk_alloc ?_ _)); refine blk_far ?_ NB229_228.out _; (with_reducible repeat (first | refine blk_drewN ?_ _ | refine blk_drew ?_ | refine blk_alloc ?_ _)); exact BK229.out⟩, ⟨by repeat (first | (with_reducible first | exact HB.out | apply below_alloc | apply pw_below_drewN | apply below_drew1 | refine below_set ?_ GE228.out | refine below_set ?_ GE229.out) | exact HB.out)⟩⟩
      · rw [if_neg c9] at H
        have c9b0 : decide (x229002_1 ≤ 3) = false := decide_eq_false c9
        clear c9
        simp only [Option.some.injEq, Prod.mk.injEq] at H
        obtain ⟨rfl, rfl, rfl, rfl, rfl, rfl⟩ := H
        have hnb47 := NB228_229.out
        have hnc47 := NB229_228.out
        have hcz48_0 : wr.cell? ⟨gb228, 0, none⟩ = some (.int .i64 a1_0) := (blk_cell BK228.out 0).trans rfl
        have hcz48_1 : wr.cell? ⟨gb228, 1, none⟩ = some (.int .i64 a1_1) := (blk_cell BK228.out 1).trans rfl
        have hcz48_2 : wr.cell? ⟨gb228, 2, none⟩ = some (.int .i64 x229002_1) := (blk_cell BK228.out 2).trans rfl
        have hcz48_3 : wr.cell? ⟨gb228, 3, none⟩ = some (.int .i64 x229003_1) := (blk_cell BK228.out 3).trans rfl
        have hcz48_4 : wr.cell? ⟨gb228, 4, none⟩ = some (.int .i64 x229004_1) := (blk_cell BK228.out 4).trans rfl
        have hfz48_0 := blk_frozen BK228.out 0
        have hfz48_1 := blk_frozen BK228.out 1
        have hfz48_2 := blk_frozen BK228.out 2
        have hfz48_3 := blk_frozen BK228.out 3
        have hfz48_4 := blk_frozen BK228.out 4
        have hcz49_0 : wr.cell? ⟨gb229, 0, none⟩ = some (.int .i64 x230000_1) := (blk_cell BK229.out 0).trans rfl
        have hcz49_1 : wr.cell? ⟨gb229, 1, none⟩ = some (.int .i64 x230001_1) := (blk_cell BK229.out 1).trans rfl
        have hcz49_2 : wr.cell? ⟨gb229, 2, none⟩ = some (.int .i64 x230002_1) := (blk_cell BK229.out 2).trans rfl
        have hcz49_3 : wr.cell? ⟨gb229, 3, none⟩ = some (.int .i64 x230003_1) := (blk_cell BK229.out 3).trans rfl
        have hcz49_4 : wr.cell? ⟨gb229, 4, none⟩ = some (.int .i64 x230004_1) := (blk_cell BK229.out 4).trans rfl
        have hfz49_0 := blk_frozen BK229.out 0
        have hfz49_1 := blk_frozen BK229.out 1
        have hfz49_2 := blk_frozen BK229.out 2
        have hfz49_3 := blk_frozen BK229.out 3
        have hfz49_4 := blk_frozen BK229.out 4
        go_wp2
        refine bodyPost_ret (results_ct rfl _ _ gb229 24 #[.int .i64 0, .int .i64 0, .int .i64 0, .int .i64 0, .int .i64 0] (0, 0) _ rfl (by (with_reducible repeat (first | refine blk_drewN ?_ _ | refine blk_drew ?_ | refine blk_alloc ?_ _)); refine blk_put (cs := #[.int .i64 0, .int .i64 0, .int .i64 0, .int .i64 0, .int .i64 x230004_1]) ?_ 4 _ rfl; (with_reducible repeat (first | refine blk_drewN ?_ _ | refine blk_drew ?_ | refine blk_alloc ?_ _)); refine blk_put (cs := #[.int .i64 0, .int .i64 0, .int .i64 0, .int .i64 x230003_1, .int .i64 x230004_1]) ?_ 3 _ rfl; (with_reducible repeat (first | refine blk_drewN ?_ _ | refine blk_drew ?_ | refine blk_alloc ?_ _)); refine blk_put (cs := #[.int .i64 0, .int .i64 0, .int .i64 x230002_1, .int .i64 x230003_1, .int .i64 x230004_1]) ?_ 2 _ rfl; (with_reducible repeat (first | refine blk_drewN ?_ _ | refine blk_drew ?_ | refine blk_alloc ?_ _)); refine blk_put (cs := #[.int .i64 0, .int .i64 x230001_1, .int .i64 x230002_1, .int .i64 x230003_1, .int .i64 x230004_1]) ?_ 1 _ rfl; (with_reducible repeat (first | refine blk_drewN ?_ _ | refine blk_drew ?_ | refine blk_alloc ?_ _)); refine blk_put (cs := #[.int .i64 x230000_1, .int .i64 x230001_1, .int .i64 x230002_1, .int .i64 x230003_1, .int .i64 x230004_1]) ?_ 0 _ rfl; (with_reducible repeat (first | refine blk_drewN ?_ _ | refine blk_drew ?_ | refine blk_alloc ?_ _)); exact BK229.out) Try.underlying24 rfl (by kernel_rfl)) rfl ?_
        exact ⟨by first | rfl | (simp [errW_none, errW_some] <;> rfl) | (simp [*, errW_none, errW_some] <;> rfl), by repeat (first | (with_reducible first | exact HB.out | apply below_alloc | apply pw_below_drewN | apply below_drew1 | refine below_set ?_ GE228.out | refine below_set ?_ GE229.out) | exact HB.out)⟩

end Go.Proofs.Ytocpcofihlcnoaa.PNCells
