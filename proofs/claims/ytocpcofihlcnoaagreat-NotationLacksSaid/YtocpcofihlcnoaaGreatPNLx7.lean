-- made by xprint.py (ours) out of the translation
import Derived.Test.YtocpcofihlcnoaaGreatPNLx0
import Derived.Test.YtocpcofihlcnoaaGreatPNLx2
import Derived.Test.YtocpcofihlcnoaaGreatPNLx6
namespace Go.Proofs.YtocpcofihlcnoaaGreat.PNL
open Go.RowKit Go.Proofs.YtocpcofihlcnoaaGreatW.PrintWords Go.Proofs.YtocpcofihlcnoaaGreatW.PrintLast Go.Proofs.YtocpcofihlcnoaaGreatW.PrintMore
attribute [local go_sem] max2_int min2_int max_two min_two max_three min_three max_four min_four   -- for this text's walks alone
set_option linter.unusedVariables false
set_option linter.unusedSimpArgs false

attribute [local go_sem high] eqA49
/-! ### notation_marked: function 100 -/
def notation_marked.f (l0 : List ByteArray) (a1 : Int) : Option (ByteArray × Bool) := if a1 < 0 then (some ((⟨#[]⟩ : ByteArray), false)) else (if a1 ≥ (l0.length : Int) then (some ((⟨#[]⟩ : ByteArray), false)) else (if a1 > 0 then (if 0 ≤ a1 then (if a1 < (l0.length : Int) then (if (rdOf ByteArray.empty l0 a1).toList = ([] : List UInt8) then (some ((⟨#[]⟩ : ByteArray), false)) else (some (rdOf ByteArray.empty l0 a1, true))) else (none)) else (none)) else (if 0 ≤ a1 then (if a1 < (l0.length : Int) then (some (rdOf ByteArray.empty l0 a1, true)) else (none)) else (none))))
set_option maxHeartbeats 8000000 in
set_option maxRecDepth 100000 in
theorem notation_marked.calls (A0 : Option Addr) (c0 : Nat) (l0 : List ByteArray) (a1 : Int) (r1 : ByteArray) (r2 : Bool) (w : World) (hr0 : Kd.C Kd.string w A0 l0.length l0) (hc0 : l0.length ≤ c0) (h : notation_marked.f l0 a1 = some (r1, r2)) :
    Calls Tryz.prog 100 #[.slice A0 l0.length c0, .int .i64 a1] w fun e w' => e = .returned (.tuple #[.string r1, .bool r2]) ∧ Drawn0 w w' := by
  have HR0 := Aside0.mk hr0
  have HC0 := Aside0.mk hc0
  clear hr0 hc0
  have H : (if a1 < 0 then (some ((⟨#[]⟩ : ByteArray), false)) else (if a1 ≥ (l0.length : Int) then (some ((⟨#[]⟩ : ByteArray), false)) else (if a1 > 0 then (if 0 ≤ a1 then (if a1 < (l0.length : Int) then (if (rdOf ByteArray.empty l0 a1).toList = ([] : List UInt8) then (some ((⟨#[]⟩ : ByteArray), false)) else (some (rdOf ByteArray.empty l0 a1, true))) else (none)) else (none)) else (if 0 ≤ a1 then (if a1 < (l0.length : Int) then (some (rdOf ByteArray.empty l0 a1, true)) else (none)) else (none))))) = some (r1, r2) := h
  clear h
  by_cases c3 : a1 < 0
  · rw [if_pos c3] at H
    (have c3b0 := decide_eq_true c3); clear c3; (simp only [Option.some.injEq, Prod.mk.injEq] at H); (obtain ⟨rfl, rfl⟩ := H); (go_enter Tryz.func100, Tryz.ntmps100); (go_wp2); (go_ret2); (exact ⟨rs_, dr_⟩)
  · rw [if_neg c3] at H
    (have c3b0 := decide_eq_false c3); clear c3; (by_cases c4 : a1 ≥ (l0.length : Int))
    · rw [if_pos c4] at H
      (have c4b0 : decide ((l0.length : Int) ≤ a1) = true := decide_eq_true c4); clear c4; (simp only [Option.some.injEq, Prod.mk.injEq] at H); (obtain ⟨rfl, rfl⟩ := H); (go_enter Tryz.func100, Tryz.ntmps100); (go_wp2); (go_ret2); (exact ⟨rs_, dr_⟩)
    · rw [if_neg c4] at H
      (have c4b0 : decide ((l0.length : Int) ≤ a1) = false := decide_eq_false c4); clear c4; (by_cases c5 : a1 > 0)
      · rw [if_pos c5] at H
        (have c5b0 : decide (0 < a1) = true := decide_eq_true c5); clear c5; (by_cases c6 : 0 ≤ a1)
        · rw [if_pos c6] at H
          (have c6b0 := decide_eq_true c6); clear c6; (by_cases c7 : a1 < (l0.length : Int))
          · rw [if_pos c7] at H
            (have c7b0 := decide_eq_true c7); clear c7; (have HC8 := Aside0.mk H); clear H; (have p178 : 0 ≤ (a1 : Int) := of_decide_eq_true (by first | (with_reducible assumption) | assumption)); (have q178 : a1 < (l0.length : Int) := of_decide_eq_true (by first | (with_reducible assumption) | assumption)); (obtain ⟨ad178, e178, hx178_0⟩ := Kd.at_string HR0.out a1 p178 q178)
            cases e178
            (replace p178 := eq_true p178); (replace q178 := eq_true q178); (go_enter Tryz.func100, Tryz.ntmps100); (go_upto_if 24 with (fail)); (have H := HC8.out); clear HC8; (by_cases c9 : (rdOf ByteArray.empty l0 a1).toList = ([] : List UInt8))
            · rw [if_pos c9] at H
              (have c9b0 : ((rdOf ByteArray.empty l0 a1).toList == ([] : List UInt8)) = true := beq_iff_eq.mpr c9); (have c9b1 : ((rdOf ByteArray.empty l0 a1).toList != ([] : List UInt8)) = false := bne_eq_false_iff_eq.mpr c9); clear c9; ((first | rw [c9b0] | rw [c9b1] | (simp only [i64_w, i32_w]; first | rw [c9b0] | rw [c9b1]) | rw [List.isEmpty_iff.mpr (beq_iff_eq.mp c9b0)] | skip)); (simp only [Option.some.injEq, Prod.mk.injEq] at H); (obtain ⟨rfl, rfl⟩ := H); (go_wp2); (go_ret2); (exact ⟨rs_, dr_⟩)
            · rw [if_neg c9] at H
              (have c9b0 : ((rdOf ByteArray.empty l0 a1).toList == ([] : List UInt8)) = false := beq_eq_false_iff_ne.mpr c9); (have c9b1 : ((rdOf ByteArray.empty l0 a1).toList != ([] : List UInt8)) = true := bne_iff_ne.mpr c9); ((first | rw [c9b0] | rw [c9b1] | (simp only [i64_w, i32_w]; first | rw [c9b0] | rw [c9b1]) | rw [List.isEmpty_eq_false_iff.mpr (beq_eq_false_iff_ne.mp c9b0)] | skip)); (simp only [Option.some.injEq, Prod.mk.injEq] at H); (obtain ⟨rfl, rfl⟩ := H); (have p179 : 0 ≤ (a1 : Int) := of_decide_eq_true (by first | (with_reducible assumption) | assumption)); (have q179 : a1 < (l0.length : Int) := of_decide_eq_true (by first | (with_reducible assumption) | assumption)); (obtain ⟨ad179, e179, hx179_0⟩ := Kd.at_string HR0.out a1 p179 q179); (obtain rfl : ad178 = ad179 := (by injection e179)); (replace p179 := eq_true p179); (replace q179 := eq_true q179); (go_wp2); (go_ret2); (exact ⟨rs_, dr_⟩)
          · rw [if_neg c7] at H
            exact absurd H (by simp)
        · rw [if_neg c6] at H
          exact absurd H (by simp)
      · rw [if_neg c5] at H
        (have c5b0 : decide (0 < a1) = false := decide_eq_false c5); clear c5; (by_cases c10 : 0 ≤ a1)
        · rw [if_pos c10] at H
          (have c10b0 := decide_eq_true c10); clear c10; (by_cases c11 : a1 < (l0.length : Int))
          · rw [if_pos c11] at H
            (have c11b0 := decide_eq_true c11); clear c11; (simp only [Option.some.injEq, Prod.mk.injEq] at H); (obtain ⟨rfl, rfl⟩ := H); (have p180 : 0 ≤ (a1 : Int) := of_decide_eq_true (by first | (with_reducible assumption) | assumption)); (have q180 : a1 < (l0.length : Int) := of_decide_eq_true (by first | (with_reducible assumption) | assumption)); (obtain ⟨ad180, e180, hx180_0⟩ := Kd.at_string HR0.out a1 p180 q180)
            cases e180
            (replace p180 := eq_true p180); (replace q180 := eq_true q180); (go_enter Tryz.func100, Tryz.ntmps100); (go_wp2); (go_ret2); (exact ⟨rs_, dr_⟩)
          · rw [if_neg c11] at H
            exact absurd H (by simp)
        · rw [if_neg c10] at H
          exact absurd H (by simp)

/-! ### notation_french_grace: function 92 -/
def notation_french_grace.f  (a1 : Int) : Option (ByteArray × Bool) := (notation_marked.f (([(⟨#[]⟩ : ByteArray), (⟨#[44]⟩ : ByteArray), (⟨#[94]⟩ : ByteArray), (⟨#[35]⟩ : ByteArray), (⟨#[40]⟩ : ByteArray)] : List ByteArray)) a1).bind fun bt185 => (some (bt185.1, bt185.2))
set_option maxHeartbeats 8000000 in
set_option maxRecDepth 100000 in
theorem notation_french_grace.calls  (a1 : Int) (r1 : ByteArray) (r2 : Bool) (w : World) (h : notation_french_grace.f a1 = some (r1, r2)) :
    Calls Tryz.prog 92 #[.agg #[], .int .i64 a1] w fun e w' => e = .returned (.tuple #[.string r1, .bool r2]) ∧ Below w.heap.size w w' := by
  have hu78 := Tryz.underlying78
  have HB := Aside0.mk (Below.refl w.heap.size w)
  have H : ((notation_marked.f (([(⟨#[]⟩ : ByteArray), (⟨#[44]⟩ : ByteArray), (⟨#[94]⟩ : ByteArray), (⟨#[35]⟩ : ByteArray), (⟨#[40]⟩ : ByteArray)] : List ByteArray)) a1).bind fun bt185 => (some (bt185.1, bt185.2))) = some (r1, r2) := h
  clear h
  obtain ⟨y182, hy182⟩ : ∃ y_ : List ByteArray, y_ = (([(⟨#[]⟩ : ByteArray), (⟨#[44]⟩ : ByteArray), (⟨#[94]⟩ : ByteArray), (⟨#[35]⟩ : ByteArray), (⟨#[40]⟩ : ByteArray)] : List ByteArray)) := ⟨_, rfl⟩
  replace H : ((notation_marked.f y182 a1).bind fun bt185 => (some (bt185.1, bt185.2))) = some (r1, r2) := by first | (rw [hy182]; with_reducible exact H) | (have H2_ := (Option.bind_some _ _).symm.trans H; rw [hy182]; with_reducible exact H2_) | (have H2_ := (Option.bind_some _ _).symm.trans H; with_reducible exact H2_) | with_reducible exact H | (rw [hy182]; exact H) | exact H
  have Ny182 := Aside0.mk hy182
  clear hy182
  replace H := Option.bind_eq_some_iff.mp H
  obtain ⟨⟨t185, t186⟩, A30, H⟩ := H
  try dsimp only at H
  have A3 := Aside0.mk A30
  clear A30
  simp only [Option.some.injEq, Prod.mk.injEq] at H
  obtain ⟨rfl, rfl⟩ := H
  go_enter Tryz.func92, Tryz.ntmps92
  go_wp2_with (first | (refine bx_ 2 #[] 78 HB ?_; clear HB; intro gb181 w4 hg hb BK181 HB GW181; have GE181 := GW181; clear hg hb) | ((with_reducible refine gate_dst (N := 6) rfl ?_); refine Kd.R_lit Kd.string _ 9 ?hg (N := 6) ?hd (xs := ([(⟨#[]⟩ : ByteArray), (⟨#[44]⟩ : ByteArray), (⟨#[94]⟩ : ByteArray), (⟨#[35]⟩ : ByteArray), (⟨#[40]⟩ : ByteArray)] : List ByteArray)) (inner := [.string (⟨#[]⟩ : ByteArray), .string (⟨#[44]⟩ : ByteArray), .string (⟨#[94]⟩ : ByteArray), .string (⟨#[35]⟩ : ByteArray), .string (⟨#[40]⟩ : ByteArray)]) (ok := fun _ => True) (okp := fun _ => True) ?hr ?hp (fun _ hk => hk) trivial (Below.refl _ _) (Nat.le_refl _) (by simp) ?_; (case hd => rfl); (case hg => rfl); (case hr => first | (go_simp; done) | (go_simp; rfl)); (case hp => exact (Reps.one (show Kd.M Kd.string _ _ _ (⟨#[]⟩ : ByteArray) [.string (⟨#[]⟩ : ByteArray)] from rfl) (Reps.one (show Kd.M Kd.string _ _ _ (⟨#[44]⟩ : ByteArray) [.string (⟨#[44]⟩ : ByteArray)] from rfl) (Reps.one (show Kd.M Kd.string _ _ _ (⟨#[94]⟩ : ByteArray) [.string (⟨#[94]⟩ : ByteArray)] from rfl) (Reps.one (show Kd.M Kd.string _ _ _ (⟨#[35]⟩ : ByteArray) [.string (⟨#[35]⟩ : ByteArray)] from rfl) (Reps.one (show Kd.M Kd.string _ _ _ (⟨#[40]⟩ : ByteArray) [.string (⟨#[40]⟩ : ByteArray)] from rfl) (Reps.none _ _))))))); intro v183 w5 ho6 hb hg_ hnew_; clear hg_ hnew_; (first | rw [← Ny182.out] at ho6 | (simp only [Int.reduceToNat] at ho6; rw [← Ny182.out] at ho6)); have HO184 := rl_ ho6 HB; replace BK181 := bb_ BK181 hb; replace HB := bs_ HB hb; clear hb ho6; obtain ⟨Ao7, co7, eo7⟩ := Kd.R_slice HO184.out; subst eo7) | ((with_reducible refine gate_callee (f := 100) rfl ?_); refine cl_ 100 (some 8) Tryz.func100 (notation_marked.calls _ _ y182 a1 t185 t186 _ (kq_ HO184) ((Kd.R_reads' HO184.out).2.1) A3.out) ?_; rintro e w' ⟨rfl, ⟨nd, rfl⟩⟩; refine ⟨_, rfl, ?_⟩))
  go_ret2
  exact ⟨rv_, bl_ HB⟩

/-! ### notation_italian_grace: function 124 -/
def notation_italian_grace.f  (a1 : Int) : Option (ByteArray × Bool) := (notation_marked.f (([(⟨#[]⟩ : ByteArray), (⟨#[116]⟩ : ByteArray), (⟨#[]⟩ : ByteArray), (⟨#[35]⟩ : ByteArray)] : List ByteArray)) a1).bind fun bt197 => (some (bt197.1, bt197.2))
set_option maxHeartbeats 8000000 in
set_option maxRecDepth 100000 in
theorem notation_italian_grace.calls  (a1 : Int) (r1 : ByteArray) (r2 : Bool) (w : World) (h : notation_italian_grace.f a1 = some (r1, r2)) :
    Calls Tryz.prog 124 #[.agg #[], .int .i64 a1] w fun e w' => e = .returned (.tuple #[.string r1, .bool r2]) ∧ Below w.heap.size w w' := by
  have hu82 := Tryz.underlying82
  have HB := Aside0.mk (Below.refl w.heap.size w)
  have H : ((notation_marked.f (([(⟨#[]⟩ : ByteArray), (⟨#[116]⟩ : ByteArray), (⟨#[]⟩ : ByteArray), (⟨#[35]⟩ : ByteArray)] : List ByteArray)) a1).bind fun bt197 => (some (bt197.1, bt197.2))) = some (r1, r2) := h
  clear h
  obtain ⟨y194, hy194⟩ : ∃ y_ : List ByteArray, y_ = (([(⟨#[]⟩ : ByteArray), (⟨#[116]⟩ : ByteArray), (⟨#[]⟩ : ByteArray), (⟨#[35]⟩ : ByteArray)] : List ByteArray)) := ⟨_, rfl⟩
  replace H : ((notation_marked.f y194 a1).bind fun bt197 => (some (bt197.1, bt197.2))) = some (r1, r2) := by first | (rw [hy194]; with_reducible exact H) | (have H2_ := (Option.bind_some _ _).symm.trans H; rw [hy194]; with_reducible exact H2_) | (have H2_ := (Option.bind_some _ _).symm.trans H; with_reducible exact H2_) | with_reducible exact H | (rw [hy194]; exact H) | exact H
  have Ny194 := Aside0.mk hy194
  clear hy194
  replace H := Option.bind_eq_some_iff.mp H
  obtain ⟨⟨t197, t198⟩, A30, H⟩ := H
  try dsimp only at H
  have A3 := Aside0.mk A30
  clear A30
  simp only [Option.some.injEq, Prod.mk.injEq] at H
  obtain ⟨rfl, rfl⟩ := H
  go_enter Tryz.func124, Tryz.ntmps124
  go_wp2_with (first | (refine bx_ 2 #[] 82 HB ?_; clear HB; intro gb193 w4 hg hb BK193 HB GW193; have GE193 := GW193; clear hg hb) | ((with_reducible refine gate_dst (N := 6) rfl ?_); refine Kd.R_lit Kd.string _ 9 ?hg (N := 6) ?hd (xs := ([(⟨#[]⟩ : ByteArray), (⟨#[116]⟩ : ByteArray), (⟨#[]⟩ : ByteArray), (⟨#[35]⟩ : ByteArray)] : List ByteArray)) (inner := [.string (⟨#[]⟩ : ByteArray), .string (⟨#[116]⟩ : ByteArray), .string (⟨#[]⟩ : ByteArray), .string (⟨#[35]⟩ : ByteArray)]) (ok := fun _ => True) (okp := fun _ => True) ?hr ?hp (fun _ hk => hk) trivial (Below.refl _ _) (Nat.le_refl _) (by simp) ?_; (case hd => rfl); (case hg => rfl); (case hr => first | (go_simp; done) | (go_simp; rfl)); (case hp => exact (Reps.one (show Kd.M Kd.string _ _ _ (⟨#[]⟩ : ByteArray) [.string (⟨#[]⟩ : ByteArray)] from rfl) (Reps.one (show Kd.M Kd.string _ _ _ (⟨#[116]⟩ : ByteArray) [.string (⟨#[116]⟩ : ByteArray)] from rfl) (Reps.one (show Kd.M Kd.string _ _ _ (⟨#[]⟩ : ByteArray) [.string (⟨#[]⟩ : ByteArray)] from rfl) (Reps.one (show Kd.M Kd.string _ _ _ (⟨#[35]⟩ : ByteArray) [.string (⟨#[35]⟩ : ByteArray)] from rfl) (Reps.none _ _)))))); intro v195 w5 ho6 hb hg_ hnew_; clear hg_ hnew_; (first | rw [← Ny194.out] at ho6 | (simp only [Int.reduceToNat] at ho6; rw [← Ny194.out] at ho6)); have HO196 := rl_ ho6 HB; replace BK193 := bb_ BK193 hb; replace HB := bs_ HB hb; clear hb ho6; obtain ⟨Ao7, co7, eo7⟩ := Kd.R_slice HO196.out; subst eo7) | ((with_reducible refine gate_callee (f := 100) rfl ?_); refine cl_ 100 (some 8) Tryz.func100 (notation_marked.calls _ _ y194 a1 t197 t198 _ (kq_ HO196) ((Kd.R_reads' HO196.out).2.1) A3.out) ?_; rintro e w' ⟨rfl, ⟨nd, rfl⟩⟩; refine ⟨_, rfl, ?_⟩))
  go_ret2
  exact ⟨rv_, bl_ HB⟩

/-! ### notation_spanish_grace: function 131 -/
def notation_spanish_grace.f  (a1 : Int) : Option (ByteArray × Bool) := some ((⟨#[]⟩ : ByteArray), (a1 == 0))
set_option maxHeartbeats 8000000 in
set_option maxRecDepth 100000 in
theorem notation_spanish_grace.calls  (a1 : Int) (r1 : ByteArray) (r2 : Bool) (w : World) (h : notation_spanish_grace.f a1 = some (r1, r2)) :
    Calls Tryz.prog 131 #[.agg #[], .int .i64 a1] w fun e w' => e = .returned (.tuple #[.string r1, .bool r2]) ∧ Below w.heap.size w w' := by
  have hu84 := Tryz.underlying84
  have HB := Aside0.mk (Below.refl w.heap.size w)
  have H : (some ((⟨#[]⟩ : ByteArray), (a1 == 0))) = some (r1, r2) := h
  clear h
  simp only [Option.some.injEq, Prod.mk.injEq] at H
  obtain ⟨rfl, rfl⟩ := H
  go_enter Tryz.func131, Tryz.ntmps131
  go_wp2_with (first | (refine bx_ 2 #[] 84 HB ?_; clear HB; intro gb205 w3 hg hb BK205 HB GW205; have GE205 := GW205; clear hg hb))
  go_ret2
  exact ⟨rv_, bl_ HB⟩

/-! ### notation_german_grace: function 139 -/
def notation_german_grace.f  (a1 : Int) : Option (ByteArray × Bool) := (notation_marked.f (([(⟨#[]⟩ : ByteArray), (⟨#[]⟩ : ByteArray), (⟨#[]⟩ : ByteArray), (⟨#[35]⟩ : ByteArray)] : List ByteArray)) a1).bind fun bt211 => (some (bt211.1, bt211.2))
set_option maxHeartbeats 8000000 in
set_option maxRecDepth 100000 in
theorem notation_german_grace.calls  (a1 : Int) (r1 : ByteArray) (r2 : Bool) (w : World) (h : notation_german_grace.f a1 = some (r1, r2)) :
    Calls Tryz.prog 139 #[.agg #[], .int .i64 a1] w fun e w' => e = .returned (.tuple #[.string r1, .bool r2]) ∧ Below w.heap.size w w' := by
  have hu86 := Tryz.underlying86
  have HB := Aside0.mk (Below.refl w.heap.size w)
  have H : ((notation_marked.f (([(⟨#[]⟩ : ByteArray), (⟨#[]⟩ : ByteArray), (⟨#[]⟩ : ByteArray), (⟨#[35]⟩ : ByteArray)] : List ByteArray)) a1).bind fun bt211 => (some (bt211.1, bt211.2))) = some (r1, r2) := h
  clear h
  obtain ⟨y208, hy208⟩ : ∃ y_ : List ByteArray, y_ = (([(⟨#[]⟩ : ByteArray), (⟨#[]⟩ : ByteArray), (⟨#[]⟩ : ByteArray), (⟨#[35]⟩ : ByteArray)] : List ByteArray)) := ⟨_, rfl⟩
  replace H : ((notation_marked.f y208 a1).bind fun bt211 => (some (bt211.1, bt211.2))) = some (r1, r2) := by first | (rw [hy208]; with_reducible exact H) | (have H2_ := (Option.bind_some _ _).symm.trans H; rw [hy208]; with_reducible exact H2_) | (have H2_ := (Option.bind_some _ _).symm.trans H; with_reducible exact H2_) | with_reducible exact H | (rw [hy208]; exact H) | exact H
  have Ny208 := Aside0.mk hy208
  clear hy208
  replace H := Option.bind_eq_some_iff.mp H
  obtain ⟨⟨t211, t212⟩, A30, H⟩ := H
  try dsimp only at H
  have A3 := Aside0.mk A30
  clear A30
  simp only [Option.some.injEq, Prod.mk.injEq] at H
  obtain ⟨rfl, rfl⟩ := H
  go_enter Tryz.func139, Tryz.ntmps139
  go_wp2_with (first | (refine bx_ 2 #[] 86 HB ?_; clear HB; intro gb207 w4 hg hb BK207 HB GW207; have GE207 := GW207; clear hg hb) | ((with_reducible refine gate_dst (N := 6) rfl ?_); refine Kd.R_lit Kd.string _ 9 ?hg (N := 6) ?hd (xs := ([(⟨#[]⟩ : ByteArray), (⟨#[]⟩ : ByteArray), (⟨#[]⟩ : ByteArray), (⟨#[35]⟩ : ByteArray)] : List ByteArray)) (inner := [.string (⟨#[]⟩ : ByteArray), .string (⟨#[]⟩ : ByteArray), .string (⟨#[]⟩ : ByteArray), .string (⟨#[35]⟩ : ByteArray)]) (ok := fun _ => True) (okp := fun _ => True) ?hr ?hp (fun _ hk => hk) trivial (Below.refl _ _) (Nat.le_refl _) (by simp) ?_; (case hd => rfl); (case hg => rfl); (case hr => first | (go_simp; done) | (go_simp; rfl)); (case hp => exact (Reps.one (show Kd.M Kd.string _ _ _ (⟨#[]⟩ : ByteArray) [.string (⟨#[]⟩ : ByteArray)] from rfl) (Reps.one (show Kd.M Kd.string _ _ _ (⟨#[]⟩ : ByteArray) [.string (⟨#[]⟩ : ByteArray)] from rfl) (Reps.one (show Kd.M Kd.string _ _ _ (⟨#[]⟩ : ByteArray) [.string (⟨#[]⟩ : ByteArray)] from rfl) (Reps.one (show Kd.M Kd.string _ _ _ (⟨#[35]⟩ : ByteArray) [.string (⟨#[35]⟩ : ByteArray)] from rfl) (Reps.none _ _)))))); intro v209 w5 ho6 hb hg_ hnew_; clear hg_ hnew_; (first | rw [← Ny208.out] at ho6 | (simp only [Int.reduceToNat] at ho6; rw [← Ny208.out] at ho6)); have HO210 := rl_ ho6 HB; replace BK207 := bb_ BK207 hb; replace HB := bs_ HB hb; clear hb ho6; obtain ⟨Ao7, co7, eo7⟩ := Kd.R_slice HO210.out; subst eo7) | ((with_reducible refine gate_callee (f := 100) rfl ?_); refine cl_ 100 (some 8) Tryz.func100 (notation_marked.calls _ _ y208 a1 t211 t212 _ (kq_ HO210) ((Kd.R_reads' HO210.out).2.1) A3.out) ?_; rintro e w' ⟨rfl, ⟨nd, rfl⟩⟩; refine ⟨_, rfl, ?_⟩))
  go_ret2
  exact ⟨rv_, bl_ HB⟩

/-! ### dyn_notation_grace: a method of an interface's value, by its tag -/
def dyn_notation_grace.f (a0 : Int) (a1 : Int) : Option (ByteArray × Bool) := if a0 = 1 then notation_french_grace.f a1 else if a0 = 2 then notation_italian_grace.f a1 else if a0 = 3 then notation_spanish_grace.f a1 else if a0 = 4 then notation_german_grace.f a1 else  none
set_option maxRecDepth 100000 in
theorem dyn_notation_grace.calls (a0 : Int) (a1 : Int) (r1 : ByteArray) (r2 : Bool) (w : World) (h : dyn_notation_grace.f a0 a1 = some (r1, r2)) :
    Invokes Tryz.prog (sysW a0) "theorbo/notation.grace" #[.int .i64 a1] w fun e w' => e = .returned (.tuple #[.string r1, .bool r2]) ∧ Below w.heap.size w w' := by
  unfold dyn_notation_grace.f at h
  by_cases c1 : a0 = 1
  · subst c1
    rw [if_pos rfl] at h
    exact ⟨92, _, (fun w => by kernel_rfl : ∀ w : World, (callMethod (sysW 1) "theorbo/notation.grace" #[.int .i64 a1]).run Tryz.prog w = .ok (.enter 92 #[.agg #[], .int .i64 a1]) w) w, (notation_french_grace.calls a1 r1 r2 w h)⟩
  rw [if_neg c1] at h
  by_cases c2 : a0 = 2
  · subst c2
    rw [if_pos rfl] at h
    exact ⟨124, _, (fun w => by kernel_rfl : ∀ w : World, (callMethod (sysW 2) "theorbo/notation.grace" #[.int .i64 a1]).run Tryz.prog w = .ok (.enter 124 #[.agg #[], .int .i64 a1]) w) w, (notation_italian_grace.calls a1 r1 r2 w h)⟩
  rw [if_neg c2] at h
  by_cases c3 : a0 = 3
  · subst c3
    rw [if_pos rfl] at h
    exact ⟨131, _, (fun w => by kernel_rfl : ∀ w : World, (callMethod (sysW 3) "theorbo/notation.grace" #[.int .i64 a1]).run Tryz.prog w = .ok (.enter 131 #[.agg #[], .int .i64 a1]) w) w, (notation_spanish_grace.calls a1 r1 r2 w h)⟩
  rw [if_neg c3] at h
  by_cases c4 : a0 = 4
  · subst c4
    rw [if_pos rfl] at h
    exact ⟨139, _, (fun w => by kernel_rfl : ∀ w : World, (callMethod (sysW 4) "theorbo/notation.grace" #[.int .i64 a1]).run Tryz.prog w = .ok (.enter 139 #[.agg #[], .int .i64 a1]) w) w, (notation_german_grace.calls a1 r1 r2 w h)⟩
  rw [if_neg c4] at h
  exact absurd h (by simp)

/-! ### notation_french_hold: function 94 -/
def notation_french_hold.f  (a1 : Int) (a2 : Int) : Option (ByteArray × Bool) := if a1 = 0 then (some ((⟨#[]⟩ : ByteArray), true)) else ((strconv_Itoa.f a1).bind fun t220 => (if 1 + t220.size ≤ 9223372036854775807 then (some ((⟨#[95]⟩ : ByteArray) ++ t220, true)) else (none)))
set_option maxHeartbeats 8000000 in
set_option maxRecDepth 100000 in
theorem notation_french_hold.calls  (a1 : Int) (a2 : Int) (r1 : ByteArray) (r2 : Bool) (w : World) (h : notation_french_hold.f a1 a2 = some (r1, r2)) :
    Calls Tryz.prog 94 #[.agg #[], .int .i64 a1, .int .i64 a2] w fun e w' => e = .returned (.tuple #[.string r1, .bool r2]) ∧ Below w.heap.size w w' := by
  have hu78 := Tryz.underlying78
  have HB := Aside0.mk (Below.refl w.heap.size w)
  have H : (if a1 = 0 then (some ((⟨#[]⟩ : ByteArray), true)) else ((strconv_Itoa.f a1).bind fun t220 => (if 1 + t220.size ≤ 9223372036854775807 then (some ((⟨#[95]⟩ : ByteArray) ++ t220, true)) else (none)))) = some (r1, r2) := h
  clear h
  by_cases c4 : a1 = 0
  · rw [if_pos c4] at H
    (obtain ⟨c4b0, c4b1⟩ := eqT_ c4); clear c4; (simp only [Option.some.injEq, Prod.mk.injEq] at H); (obtain ⟨rfl, rfl⟩ := H); (go_enter Tryz.func94, Tryz.ntmps94); (go_wp2_with (first | (refine bx_ 3 #[] 78 HB ?_; clear HB; intro gb219 w5 hg hb BK219 HB GW219; have GE219 := GW219; clear hg hb))); (go_ret2); (exact ⟨rv_, bl_ HB⟩)
  · rw [if_neg c4] at H
    (obtain ⟨c4b0, c4b1⟩ := eqF_ c4); (replace H := Option.bind_eq_some_iff.mp H); (obtain ⟨t220, A60, H⟩ := H); (try dsimp only at H); (have A6 := Aside0.mk A60); clear A60; (by_cases c7 : 1 + t220.size ≤ 9223372036854775807)
    · rw [if_pos c7] at H
      (have c7b0 := eq_true c7); (have c7b1 : decide (1 + t220.size ≤ 9223372036854775807) = true := decide_eq_true c7); (try have c7b2 : (9223372036854775807 < 1 + t220.size) = False := eq_false (Nat.not_lt.2 c7)); (simp only [Option.some.injEq, Prod.mk.injEq] at H); (obtain ⟨rfl, rfl⟩ := H); (go_enter Tryz.func94, Tryz.ntmps94); (go_wp2_with (first | (refine bx_ 3 #[] 78 HB ?_; clear HB; intro gb219 w8 hg hb BK219 HB GW219; have GE219 := GW219; clear hg hb) | ((with_reducible refine gate_callee (f := 101) rfl ?_); refine cl_ 101 (some 11) Tryz.func101 (strconv_Itoa.calls a1 t220 _ A6.out) ?_; rintro e w' ⟨rfl, ⟨nd, rfl⟩⟩; refine ⟨_, rfl, ?_⟩))); (go_ret2); (exact ⟨rv_, bl_ HB⟩)
    · rw [if_neg c7] at H
      exact absurd H (by simp)

/-! ### notation_starred_hold: function 123 -/
def notation_starred_hold.f  (a1 : Int) (a2 : Int) : Option (ByteArray × Bool) := if a1 = 0 then (some ((⟨#[]⟩ : ByteArray), true)) else (if a1 = a2 then (some ((⟨#[42]⟩ : ByteArray), true)) else (some ((⟨#[]⟩ : ByteArray), false)))
set_option maxHeartbeats 8000000 in
set_option maxRecDepth 100000 in
theorem notation_starred_hold.calls  (a1 : Int) (a2 : Int) (r1 : ByteArray) (r2 : Bool) (w : World) (h : notation_starred_hold.f a1 a2 = some (r1, r2)) :
    Calls Tryz.prog 123 #[.agg #[], .int .i64 a1, .int .i64 a2] w fun e w' => e = .returned (.tuple #[.string r1, .bool r2]) ∧ Below w.heap.size w w' := by
  have hu80 := Tryz.underlying80
  have HB := Aside0.mk (Below.refl w.heap.size w)
  have H : (if a1 = 0 then (some ((⟨#[]⟩ : ByteArray), true)) else (if a1 = a2 then (some ((⟨#[42]⟩ : ByteArray), true)) else (some ((⟨#[]⟩ : ByteArray), false)))) = some (r1, r2) := h
  clear h
  by_cases c4 : a1 = 0
  · rw [if_pos c4] at H
    (obtain ⟨c4b0, c4b1⟩ := eqT_ c4); clear c4; (simp only [Option.some.injEq, Prod.mk.injEq] at H); (obtain ⟨rfl, rfl⟩ := H); (go_enter Tryz.func123, Tryz.ntmps123); (go_wp2_with (first | (refine bx_ 3 #[] 80 HB ?_; clear HB; intro gb223 w5 hg hb BK223 HB GW223; have GE223 := GW223; clear hg hb))); (go_ret2); (exact ⟨rv_, bl_ HB⟩)
  · rw [if_neg c4] at H
    (obtain ⟨c4b0, c4b1⟩ := eqF_ c4); (by_cases c6 : a1 = a2)
    · rw [if_pos c6] at H
      (obtain ⟨c6b0, c6b1⟩ := eqT_ c6); clear c6; (simp only [Option.some.injEq, Prod.mk.injEq] at H); (obtain ⟨rfl, rfl⟩ := H); (go_enter Tryz.func123, Tryz.ntmps123); (go_wp2_with (first | (refine bx_ 3 #[] 80 HB ?_; clear HB; intro gb223 w7 hg hb BK223 HB GW223; have GE223 := GW223; clear hg hb))); (go_ret2); (exact ⟨rv_, bl_ HB⟩)
    · rw [if_neg c6] at H
      (obtain ⟨c6b0, c6b1⟩ := eqF_ c6); (simp only [Option.some.injEq, Prod.mk.injEq] at H); (obtain ⟨rfl, rfl⟩ := H); (go_enter Tryz.func123, Tryz.ntmps123); (go_wp2_with (first | (refine bx_ 3 #[] 80 HB ?_; clear HB; intro gb223 w8 hg hb BK223 HB GW223; have GE223 := GW223; clear hg hb))); (go_ret2); (exact ⟨rv_, bl_ HB⟩)

/-! ### notation_spanish_hold: function 133 -/
def notation_spanish_hold.f  (a1 : Int) (a2 : Int) : Option (ByteArray × Bool) := some ((⟨#[]⟩ : ByteArray), (a1 == 0))
set_option maxHeartbeats 8000000 in
set_option maxRecDepth 100000 in
theorem notation_spanish_hold.calls  (a1 : Int) (a2 : Int) (r1 : ByteArray) (r2 : Bool) (w : World) (h : notation_spanish_hold.f a1 a2 = some (r1, r2)) :
    Calls Tryz.prog 133 #[.agg #[], .int .i64 a1, .int .i64 a2] w fun e w' => e = .returned (.tuple #[.string r1, .bool r2]) ∧ Below w.heap.size w w' := by
  have hu84 := Tryz.underlying84
  have HB := Aside0.mk (Below.refl w.heap.size w)
  have H : (some ((⟨#[]⟩ : ByteArray), (a1 == 0))) = some (r1, r2) := h
  clear h
  simp only [Option.some.injEq, Prod.mk.injEq] at H
  obtain ⟨rfl, rfl⟩ := H
  go_enter Tryz.func133, Tryz.ntmps133
  go_wp2_with (first | (refine bx_ 3 #[] 84 HB ?_; clear HB; intro gb225 w4 hg hb BK225 HB GW225; have GE225 := GW225; clear hg hb))
  go_ret2
  exact ⟨rv_, bl_ HB⟩

/-! ### dyn_notation_hold: a method of an interface's value, by its tag -/
def dyn_notation_hold.f (a0 : Int) (a1 : Int) (a2 : Int) : Option (ByteArray × Bool) := if a0 = 1 then notation_french_hold.f a1 a2 else if a0 = 2 then notation_starred_hold.f a1 a2 else if a0 = 3 then notation_spanish_hold.f a1 a2 else if a0 = 4 then notation_starred_hold.f a1 a2 else  none
set_option maxRecDepth 100000 in
theorem dyn_notation_hold.calls (a0 : Int) (a1 : Int) (a2 : Int) (r1 : ByteArray) (r2 : Bool) (w : World) (h : dyn_notation_hold.f a0 a1 a2 = some (r1, r2)) :
    Invokes Tryz.prog (sysW a0) "theorbo/notation.hold" #[.int .i64 a1, .int .i64 a2] w fun e w' => e = .returned (.tuple #[.string r1, .bool r2]) ∧ Below w.heap.size w w' := by
  unfold dyn_notation_hold.f at h
  by_cases c1 : a0 = 1
  · subst c1
    rw [if_pos rfl] at h
    exact ⟨94, _, (fun w => by kernel_rfl : ∀ w : World, (callMethod (sysW 1) "theorbo/notation.hold" #[.int .i64 a1, .int .i64 a2]).run Tryz.prog w = .ok (.enter 94 #[.agg #[], .int .i64 a1, .int .i64 a2]) w) w, (notation_french_hold.calls a1 a2 r1 r2 w h)⟩
  rw [if_neg c1] at h
  by_cases c2 : a0 = 2
  · subst c2
    rw [if_pos rfl] at h
    exact ⟨123, _, (fun w => by kernel_rfl : ∀ w : World, (callMethod (sysW 2) "theorbo/notation.hold" #[.int .i64 a1, .int .i64 a2]).run Tryz.prog w = .ok (.enter 123 #[.agg #[], .int .i64 a1, .int .i64 a2]) w) w, (notation_starred_hold.calls a1 a2 r1 r2 w h)⟩
  rw [if_neg c2] at h
  by_cases c3 : a0 = 3
  · subst c3
    rw [if_pos rfl] at h
    exact ⟨133, _, (fun w => by kernel_rfl : ∀ w : World, (callMethod (sysW 3) "theorbo/notation.hold" #[.int .i64 a1, .int .i64 a2]).run Tryz.prog w = .ok (.enter 133 #[.agg #[], .int .i64 a1, .int .i64 a2]) w) w, (notation_spanish_hold.calls a1 a2 r1 r2 w h)⟩
  rw [if_neg c3] at h
  by_cases c4 : a0 = 4
  · subst c4
    rw [if_pos rfl] at h
    exact ⟨123, _, (fun w => by kernel_rfl : ∀ w : World, (callMethod (sysW 4) "theorbo/notation.hold" #[.int .i64 a1, .int .i64 a2]).run Tryz.prog w = .ok (.enter 123 #[.agg #[], .int .i64 a1, .int .i64 a2]) w) w, (notation_starred_hold.calls a1 a2 r1 r2 w h)⟩
  rw [if_neg c4] at h
  exact absurd h (by simp)

/-! ### notation_french_right: function 98 -/
def notation_french_right.f  (a1 : Int) : Option (ByteArray × Bool) := (notation_marked.f (([(⟨#[]⟩ : ByteArray), (⟨#[46]⟩ : ByteArray), (⟨#[58]⟩ : ByteArray), (⟨#[39]⟩ : ByteArray)] : List ByteArray)) a1).bind fun bt231 => (some (bt231.1, bt231.2))
set_option maxHeartbeats 8000000 in
set_option maxRecDepth 100000 in
theorem notation_french_right.calls  (a1 : Int) (r1 : ByteArray) (r2 : Bool) (w : World) (h : notation_french_right.f a1 = some (r1, r2)) :
    Calls Tryz.prog 98 #[.agg #[], .int .i64 a1] w fun e w' => e = .returned (.tuple #[.string r1, .bool r2]) ∧ Below w.heap.size w w' := by
  have hu78 := Tryz.underlying78
  have HB := Aside0.mk (Below.refl w.heap.size w)
  have H : ((notation_marked.f (([(⟨#[]⟩ : ByteArray), (⟨#[46]⟩ : ByteArray), (⟨#[58]⟩ : ByteArray), (⟨#[39]⟩ : ByteArray)] : List ByteArray)) a1).bind fun bt231 => (some (bt231.1, bt231.2))) = some (r1, r2) := h
  clear h
  obtain ⟨y228, hy228⟩ : ∃ y_ : List ByteArray, y_ = (([(⟨#[]⟩ : ByteArray), (⟨#[46]⟩ : ByteArray), (⟨#[58]⟩ : ByteArray), (⟨#[39]⟩ : ByteArray)] : List ByteArray)) := ⟨_, rfl⟩
  replace H : ((notation_marked.f y228 a1).bind fun bt231 => (some (bt231.1, bt231.2))) = some (r1, r2) := by first | (rw [hy228]; with_reducible exact H) | (have H2_ := (Option.bind_some _ _).symm.trans H; rw [hy228]; with_reducible exact H2_) | (have H2_ := (Option.bind_some _ _).symm.trans H; with_reducible exact H2_) | with_reducible exact H | (rw [hy228]; exact H) | exact H
  have Ny228 := Aside0.mk hy228
  clear hy228
  replace H := Option.bind_eq_some_iff.mp H
  obtain ⟨⟨t231, t232⟩, A30, H⟩ := H
  try dsimp only at H
  have A3 := Aside0.mk A30
  clear A30
  simp only [Option.some.injEq, Prod.mk.injEq] at H
  obtain ⟨rfl, rfl⟩ := H
  go_enter Tryz.func98, Tryz.ntmps98
  go_wp2_with (first | (refine bx_ 2 #[] 78 HB ?_; clear HB; intro gb227 w4 hg hb BK227 HB GW227; have GE227 := GW227; clear hg hb) | ((with_reducible refine gate_dst (N := 6) rfl ?_); refine Kd.R_lit Kd.string _ 9 ?hg (N := 6) ?hd (xs := ([(⟨#[]⟩ : ByteArray), (⟨#[46]⟩ : ByteArray), (⟨#[58]⟩ : ByteArray), (⟨#[39]⟩ : ByteArray)] : List ByteArray)) (inner := [.string (⟨#[]⟩ : ByteArray), .string (⟨#[46]⟩ : ByteArray), .string (⟨#[58]⟩ : ByteArray), .string (⟨#[39]⟩ : ByteArray)]) (ok := fun _ => True) (okp := fun _ => True) ?hr ?hp (fun _ hk => hk) trivial (Below.refl _ _) (Nat.le_refl _) (by simp) ?_; (case hd => rfl); (case hg => rfl); (case hr => first | (go_simp; done) | (go_simp; rfl)); (case hp => exact (Reps.one (show Kd.M Kd.string _ _ _ (⟨#[]⟩ : ByteArray) [.string (⟨#[]⟩ : ByteArray)] from rfl) (Reps.one (show Kd.M Kd.string _ _ _ (⟨#[46]⟩ : ByteArray) [.string (⟨#[46]⟩ : ByteArray)] from rfl) (Reps.one (show Kd.M Kd.string _ _ _ (⟨#[58]⟩ : ByteArray) [.string (⟨#[58]⟩ : ByteArray)] from rfl) (Reps.one (show Kd.M Kd.string _ _ _ (⟨#[39]⟩ : ByteArray) [.string (⟨#[39]⟩ : ByteArray)] from rfl) (Reps.none _ _)))))); intro v229 w5 ho6 hb hg_ hnew_; clear hg_ hnew_; (first | rw [← Ny228.out] at ho6 | (simp only [Int.reduceToNat] at ho6; rw [← Ny228.out] at ho6)); have HO230 := rl_ ho6 HB; replace BK227 := bb_ BK227 hb; replace HB := bs_ HB hb; clear hb ho6; obtain ⟨Ao7, co7, eo7⟩ := Kd.R_slice HO230.out; subst eo7) | ((with_reducible refine gate_callee (f := 100) rfl ?_); refine cl_ 100 (some 8) Tryz.func100 (notation_marked.calls _ _ y228 a1 t231 t232 _ (kq_ HO230) ((Kd.R_reads' HO230.out).2.1) A3.out) ?_; rintro e w' ⟨rfl, ⟨nd, rfl⟩⟩; refine ⟨_, rfl, ?_⟩))
  go_ret2
  exact ⟨rv_, bl_ HB⟩

/-! ### notation_italian_right: function 129 -/
def notation_italian_right.f  (a1 : Int) : Option (ByteArray × Bool) := (notation_marked.f (([(⟨#[]⟩ : ByteArray), (⟨#[46]⟩ : ByteArray)] : List ByteArray)) a1).bind fun bt243 => (some (bt243.1, bt243.2))
set_option maxHeartbeats 8000000 in
set_option maxRecDepth 100000 in
theorem notation_italian_right.calls  (a1 : Int) (r1 : ByteArray) (r2 : Bool) (w : World) (h : notation_italian_right.f a1 = some (r1, r2)) :
    Calls Tryz.prog 129 #[.agg #[], .int .i64 a1] w fun e w' => e = .returned (.tuple #[.string r1, .bool r2]) ∧ Below w.heap.size w w' := by
  have hu82 := Tryz.underlying82
  have HB := Aside0.mk (Below.refl w.heap.size w)
  have H : ((notation_marked.f (([(⟨#[]⟩ : ByteArray), (⟨#[46]⟩ : ByteArray)] : List ByteArray)) a1).bind fun bt243 => (some (bt243.1, bt243.2))) = some (r1, r2) := h
  clear h
  obtain ⟨y240, hy240⟩ : ∃ y_ : List ByteArray, y_ = (([(⟨#[]⟩ : ByteArray), (⟨#[46]⟩ : ByteArray)] : List ByteArray)) := ⟨_, rfl⟩
  replace H : ((notation_marked.f y240 a1).bind fun bt243 => (some (bt243.1, bt243.2))) = some (r1, r2) := by first | (rw [hy240]; with_reducible exact H) | (have H2_ := (Option.bind_some _ _).symm.trans H; rw [hy240]; with_reducible exact H2_) | (have H2_ := (Option.bind_some _ _).symm.trans H; with_reducible exact H2_) | with_reducible exact H | (rw [hy240]; exact H) | exact H
  have Ny240 := Aside0.mk hy240
  clear hy240
  replace H := Option.bind_eq_some_iff.mp H
  obtain ⟨⟨t243, t244⟩, A30, H⟩ := H
  try dsimp only at H
  have A3 := Aside0.mk A30
  clear A30
  simp only [Option.some.injEq, Prod.mk.injEq] at H
  obtain ⟨rfl, rfl⟩ := H
  go_enter Tryz.func129, Tryz.ntmps129
  go_wp2_with (first | (refine bx_ 2 #[] 82 HB ?_; clear HB; intro gb239 w4 hg hb BK239 HB GW239; have GE239 := GW239; clear hg hb) | ((with_reducible refine gate_dst (N := 6) rfl ?_); refine Kd.R_lit Kd.string _ 9 ?hg (N := 6) ?hd (xs := ([(⟨#[]⟩ : ByteArray), (⟨#[46]⟩ : ByteArray)] : List ByteArray)) (inner := [.string (⟨#[]⟩ : ByteArray), .string (⟨#[46]⟩ : ByteArray)]) (ok := fun _ => True) (okp := fun _ => True) ?hr ?hp (fun _ hk => hk) trivial (Below.refl _ _) (Nat.le_refl _) (by simp) ?_; (case hd => rfl); (case hg => rfl); (case hr => first | (go_simp; done) | (go_simp; rfl)); (case hp => exact (Reps.one (show Kd.M Kd.string _ _ _ (⟨#[]⟩ : ByteArray) [.string (⟨#[]⟩ : ByteArray)] from rfl) (Reps.one (show Kd.M Kd.string _ _ _ (⟨#[46]⟩ : ByteArray) [.string (⟨#[46]⟩ : ByteArray)] from rfl) (Reps.none _ _)))); intro v241 w5 ho6 hb hg_ hnew_; clear hg_ hnew_; (first | rw [← Ny240.out] at ho6 | (simp only [Int.reduceToNat] at ho6; rw [← Ny240.out] at ho6)); have HO242 := rl_ ho6 HB; replace BK239 := bb_ BK239 hb; replace HB := bs_ HB hb; clear hb ho6; obtain ⟨Ao7, co7, eo7⟩ := Kd.R_slice HO242.out; subst eo7) | ((with_reducible refine gate_callee (f := 100) rfl ?_); refine cl_ 100 (some 8) Tryz.func100 (notation_marked.calls _ _ y240 a1 t243 t244 _ (kq_ HO242) ((Kd.R_reads' HO242.out).2.1) A3.out) ?_; rintro e w' ⟨rfl, ⟨nd, rfl⟩⟩; refine ⟨_, rfl, ?_⟩))
  go_ret2
  exact ⟨rv_, bl_ HB⟩

/-! ### notation_spanish_right: function 137 -/
def notation_spanish_right.f  (a1 : Int) : Option (ByteArray × Bool) := some ((⟨#[]⟩ : ByteArray), (a1 == 0))
set_option maxHeartbeats 8000000 in
set_option maxRecDepth 100000 in
theorem notation_spanish_right.calls  (a1 : Int) (r1 : ByteArray) (r2 : Bool) (w : World) (h : notation_spanish_right.f a1 = some (r1, r2)) :
    Calls Tryz.prog 137 #[.agg #[], .int .i64 a1] w fun e w' => e = .returned (.tuple #[.string r1, .bool r2]) ∧ Below w.heap.size w w' := by
  have hu84 := Tryz.underlying84
  have HB := Aside0.mk (Below.refl w.heap.size w)
  have H : (some ((⟨#[]⟩ : ByteArray), (a1 == 0))) = some (r1, r2) := h
  clear h
  simp only [Option.some.injEq, Prod.mk.injEq] at H
  obtain ⟨rfl, rfl⟩ := H
  go_enter Tryz.func137, Tryz.ntmps137
  go_wp2_with (first | (refine bx_ 2 #[] 84 HB ?_; clear HB; intro gb251 w3 hg hb BK251 HB GW251; have GE251 := GW251; clear hg hb))
  go_ret2
  exact ⟨rv_, bl_ HB⟩

/-! ### notation_german_right: function 144 -/
def notation_german_right.f  (a1 : Int) : Option (ByteArray × Bool) := (notation_marked.f (([(⟨#[]⟩ : ByteArray), (⟨#[46]⟩ : ByteArray)] : List ByteArray)) a1).bind fun bt257 => (some (bt257.1, bt257.2))
set_option maxHeartbeats 8000000 in
set_option maxRecDepth 100000 in
theorem notation_german_right.calls  (a1 : Int) (r1 : ByteArray) (r2 : Bool) (w : World) (h : notation_german_right.f a1 = some (r1, r2)) :
    Calls Tryz.prog 144 #[.agg #[], .int .i64 a1] w fun e w' => e = .returned (.tuple #[.string r1, .bool r2]) ∧ Below w.heap.size w w' := by
  have hu86 := Tryz.underlying86
  have HB := Aside0.mk (Below.refl w.heap.size w)
  have H : ((notation_marked.f (([(⟨#[]⟩ : ByteArray), (⟨#[46]⟩ : ByteArray)] : List ByteArray)) a1).bind fun bt257 => (some (bt257.1, bt257.2))) = some (r1, r2) := h
  clear h
  obtain ⟨y254, hy254⟩ : ∃ y_ : List ByteArray, y_ = (([(⟨#[]⟩ : ByteArray), (⟨#[46]⟩ : ByteArray)] : List ByteArray)) := ⟨_, rfl⟩
  replace H : ((notation_marked.f y254 a1).bind fun bt257 => (some (bt257.1, bt257.2))) = some (r1, r2) := by first | (rw [hy254]; with_reducible exact H) | (have H2_ := (Option.bind_some _ _).symm.trans H; rw [hy254]; with_reducible exact H2_) | (have H2_ := (Option.bind_some _ _).symm.trans H; with_reducible exact H2_) | with_reducible exact H | (rw [hy254]; exact H) | exact H
  have Ny254 := Aside0.mk hy254
  clear hy254
  replace H := Option.bind_eq_some_iff.mp H
  obtain ⟨⟨t257, t258⟩, A30, H⟩ := H
  try dsimp only at H
  have A3 := Aside0.mk A30
  clear A30
  simp only [Option.some.injEq, Prod.mk.injEq] at H
  obtain ⟨rfl, rfl⟩ := H
  go_enter Tryz.func144, Tryz.ntmps144
  go_wp2_with (first | (refine bx_ 2 #[] 86 HB ?_; clear HB; intro gb253 w4 hg hb BK253 HB GW253; have GE253 := GW253; clear hg hb) | ((with_reducible refine gate_dst (N := 6) rfl ?_); refine Kd.R_lit Kd.string _ 9 ?hg (N := 6) ?hd (xs := ([(⟨#[]⟩ : ByteArray), (⟨#[46]⟩ : ByteArray)] : List ByteArray)) (inner := [.string (⟨#[]⟩ : ByteArray), .string (⟨#[46]⟩ : ByteArray)]) (ok := fun _ => True) (okp := fun _ => True) ?hr ?hp (fun _ hk => hk) trivial (Below.refl _ _) (Nat.le_refl _) (by simp) ?_; (case hd => rfl); (case hg => rfl); (case hr => first | (go_simp; done) | (go_simp; rfl)); (case hp => exact (Reps.one (show Kd.M Kd.string _ _ _ (⟨#[]⟩ : ByteArray) [.string (⟨#[]⟩ : ByteArray)] from rfl) (Reps.one (show Kd.M Kd.string _ _ _ (⟨#[46]⟩ : ByteArray) [.string (⟨#[46]⟩ : ByteArray)] from rfl) (Reps.none _ _)))); intro v255 w5 ho6 hb hg_ hnew_; clear hg_ hnew_; (first | rw [← Ny254.out] at ho6 | (simp only [Int.reduceToNat] at ho6; rw [← Ny254.out] at ho6)); have HO256 := rl_ ho6 HB; replace BK253 := bb_ BK253 hb; replace HB := bs_ HB hb; clear hb ho6; obtain ⟨Ao7, co7, eo7⟩ := Kd.R_slice HO256.out; subst eo7) | ((with_reducible refine gate_callee (f := 100) rfl ?_); refine cl_ 100 (some 8) Tryz.func100 (notation_marked.calls _ _ y254 a1 t257 t258 _ (kq_ HO256) ((Kd.R_reads' HO256.out).2.1) A3.out) ?_; rintro e w' ⟨rfl, ⟨nd, rfl⟩⟩; refine ⟨_, rfl, ?_⟩))
  go_ret2
  exact ⟨rv_, bl_ HB⟩

/-! ### dyn_notation_right: a method of an interface's value, by its tag -/
def dyn_notation_right.f (a0 : Int) (a1 : Int) : Option (ByteArray × Bool) := if a0 = 1 then notation_french_right.f a1 else if a0 = 2 then notation_italian_right.f a1 else if a0 = 3 then notation_spanish_right.f a1 else if a0 = 4 then notation_german_right.f a1 else  none
set_option maxRecDepth 100000 in
theorem dyn_notation_right.calls (a0 : Int) (a1 : Int) (r1 : ByteArray) (r2 : Bool) (w : World) (h : dyn_notation_right.f a0 a1 = some (r1, r2)) :
    Invokes Tryz.prog (sysW a0) "theorbo/notation.right" #[.int .i64 a1] w fun e w' => e = .returned (.tuple #[.string r1, .bool r2]) ∧ Below w.heap.size w w' := by
  unfold dyn_notation_right.f at h
  by_cases c1 : a0 = 1
  · subst c1
    rw [if_pos rfl] at h
    exact ⟨98, _, (fun w => by kernel_rfl : ∀ w : World, (callMethod (sysW 1) "theorbo/notation.right" #[.int .i64 a1]).run Tryz.prog w = .ok (.enter 98 #[.agg #[], .int .i64 a1]) w) w, (notation_french_right.calls a1 r1 r2 w h)⟩
  rw [if_neg c1] at h
  by_cases c2 : a0 = 2
  · subst c2
    rw [if_pos rfl] at h
    exact ⟨129, _, (fun w => by kernel_rfl : ∀ w : World, (callMethod (sysW 2) "theorbo/notation.right" #[.int .i64 a1]).run Tryz.prog w = .ok (.enter 129 #[.agg #[], .int .i64 a1]) w) w, (notation_italian_right.calls a1 r1 r2 w h)⟩
  rw [if_neg c2] at h
  by_cases c3 : a0 = 3
  · subst c3
    rw [if_pos rfl] at h
    exact ⟨137, _, (fun w => by kernel_rfl : ∀ w : World, (callMethod (sysW 3) "theorbo/notation.right" #[.int .i64 a1]).run Tryz.prog w = .ok (.enter 137 #[.agg #[], .int .i64 a1]) w) w, (notation_spanish_right.calls a1 r1 r2 w h)⟩
  rw [if_neg c3] at h
  by_cases c4 : a0 = 4
  · subst c4
    rw [if_pos rfl] at h
    exact ⟨144, _, (fun w => by kernel_rfl : ∀ w : World, (callMethod (sysW 4) "theorbo/notation.right" #[.int .i64 a1]).run Tryz.prog w = .ok (.enter 144 #[.agg #[], .int .i64 a1]) w) w, (notation_german_right.calls a1 r1 r2 w h)⟩
  rw [if_neg c4] at h
  exact absurd h (by simp)

/-! ### notation_cell: function 34 -/
def notation_cell.f (k : Nat) (a0 : Int) (a1_0 : Int) (a1_1 : Int) (a1_2 : Int) (a1_3 : Int) (a1_4 : Int) (a2 : Int) : Option (ByteArray × Bool) := (dyn_notation_symbol.f k a0 a1_0 a1_1).bind fun bt266 => ((dyn_notation_right.f a0 a1_2).bind fun bt268 => ((dyn_notation_grace.f a0 a1_3).bind fun bt270 => ((dyn_notation_hold.f a0 a1_4 a2).bind fun bt272 => (if bt266.1.size + bt268.1.size ≤ 9223372036854775807 then (if (bt266.1 ++ bt268.1).size + bt270.1.size ≤ 9223372036854775807 then (if ((bt266.1 ++ bt268.1) ++ bt270.1).size + bt272.1.size ≤ 9223372036854775807 then (if bt266.2 = true then (if bt268.2 = true then (if bt270.2 = true then (some (((bt266.1 ++ bt268.1) ++ bt270.1) ++ bt272.1, bt272.2)) else (some (((bt266.1 ++ bt268.1) ++ bt270.1) ++ bt272.1, false))) else (some (((bt266.1 ++ bt268.1) ++ bt270.1) ++ bt272.1, false))) else (some (((bt266.1 ++ bt268.1) ++ bt270.1) ++ bt272.1, false))) else (none)) else (none)) else (none)))))
theorem notation_cell.mono : ∀ a0 a1 a2 a3 a4 a5 a6 k, LeO (notation_cell.f k a0 a1 a2 a3 a4 a5 a6) (notation_cell.f (k + 1) a0 a1 a2 a3 a4 a5 a6) := by
  intro a0 a1 a2 a3 a4 a5 a6 k
  unfold notation_cell.f
  repeat' first | (with_reducible first | apply dyn_notation_symbol.mono | exact LeO.refl _ | exact LeO.none _ | refine LeO.ite ?_ ?_ | refine LeO.bind ?_ fun _ => ?_) | exact LeO.none _ | refine LeO.ite ?_ ?_ | refine LeO.bind ?_ fun _ => ?_ | apply dyn_notation_symbol.mono
set_option maxHeartbeats 8000000 in
set_option maxRecDepth 100000 in
theorem notation_cell.calls (k : Nat) (a0 : Int) (a1_0 : Int) (a1_1 : Int) (a1_2 : Int) (a1_3 : Int) (a1_4 : Int) (a2 : Int) (r1 : ByteArray) (r2 : Bool) (w : World) (h : notation_cell.f k a0 a1_0 a1_1 a1_2 a1_3 a1_4 a2 = some (r1, r2)) :
    Calls Tryz.prog 34 #[sysW a0, .agg #[.int .i64 a1_0, .int .i64 a1_1, .int .i64 a1_2, .int .i64 a1_3, .int .i64 a1_4], .int .i64 a2] w fun e w' => e = .returned (.tuple #[.string r1, .bool r2]) ∧ Below w.heap.size w w' := by
  have hu54 := Tryz.underlying54
  have hu49 := Tryz.underlying49
  have HB := Aside0.mk (Below.refl w.heap.size w)
  have H : ((dyn_notation_symbol.f k a0 a1_0 a1_1).bind fun bt266 => ((dyn_notation_right.f a0 a1_2).bind fun bt268 => ((dyn_notation_grace.f a0 a1_3).bind fun bt270 => ((dyn_notation_hold.f a0 a1_4 a2).bind fun bt272 => (if bt266.1.size + bt268.1.size ≤ 9223372036854775807 then (if (bt266.1 ++ bt268.1).size + bt270.1.size ≤ 9223372036854775807 then (if ((bt266.1 ++ bt268.1) ++ bt270.1).size + bt272.1.size ≤ 9223372036854775807 then (if bt266.2 = true then (if bt268.2 = true then (if bt270.2 = true then (some (((bt266.1 ++ bt268.1) ++ bt270.1) ++ bt272.1, bt272.2)) else (some (((bt266.1 ++ bt268.1) ++ bt270.1) ++ bt272.1, false))) else (some (((bt266.1 ++ bt268.1) ++ bt270.1) ++ bt272.1, false))) else (some (((bt266.1 ++ bt268.1) ++ bt270.1) ++ bt272.1, false))) else (none)) else (none)) else (none)))))) = some (r1, r2) := h
  clear h
  replace H := Option.bind_eq_some_iff.mp H
  obtain ⟨⟨t266, t267⟩, A40, H⟩ := H
  try dsimp only at H
  have A4 := Aside0.mk A40
  clear A40
  replace H := Option.bind_eq_some_iff.mp H
  obtain ⟨⟨t268, t269⟩, A50, H⟩ := H
  try dsimp only at H
  have A5 := Aside0.mk A50
  clear A50
  replace H := Option.bind_eq_some_iff.mp H
  obtain ⟨⟨t270, t271⟩, A60, H⟩ := H
  try dsimp only at H
  have A6 := Aside0.mk A60
  clear A60
  replace H := Option.bind_eq_some_iff.mp H
  obtain ⟨⟨t272, t273⟩, A70, H⟩ := H
  try dsimp only at H
  have A7 := Aside0.mk A70
  clear A70
  by_cases c8 : t266.size + t268.size ≤ 9223372036854775807
  · rw [if_pos c8] at H
    (have c8b0 := eq_true c8); (have c8b1 : decide (t266.size + t268.size ≤ 9223372036854775807) = true := decide_eq_true c8); (try have c8b2 : (9223372036854775807 < t266.size + t268.size) = False := eq_false (Nat.not_lt.2 c8)); (by_cases c9 : (t266 ++ t268).size + t270.size ≤ 9223372036854775807)
    · rw [if_pos c9] at H
      (have c9b0 := eq_true c9); (have c9b1 : decide ((t266 ++ t268).size + t270.size ≤ 9223372036854775807) = true := decide_eq_true c9); (try have c9b2 : (9223372036854775807 < (t266 ++ t268).size + t270.size) = False := eq_false (Nat.not_lt.2 c9)); (by_cases c10 : ((t266 ++ t268) ++ t270).size + t272.size ≤ 9223372036854775807)
      · rw [if_pos c10] at H
        (have c10b0 := eq_true c10); (have c10b1 : decide (((t266 ++ t268) ++ t270).size + t272.size ≤ 9223372036854775807) = true := decide_eq_true c10); (try have c10b2 : (9223372036854775807 < ((t266 ++ t268) ++ t270).size + t272.size) = False := eq_false (Nat.not_lt.2 c10)); (by_cases c11 : t267 = true)
        · subst c11
          (rw [if_pos rfl] at H); (by_cases c12 : t269 = true)
          · subst c12
            (rw [if_pos rfl] at H); (by_cases c13 : t271 = true)
            · subst c13
              (rw [if_pos rfl] at H); (simp only [Option.some.injEq, Prod.mk.injEq] at H); (obtain ⟨rfl, rfl⟩ := H); (go_enter Tryz.func34, Tryz.ntmps34); (go_wp2_with (first | (refine bx_ 4 #[.int .i64 a1_0, .int .i64 a1_1, .int .i64 a1_2, .int .i64 a1_3, .int .i64 a1_4] 54 HB ?_; clear HB; intro gb265 w14 hg hb BK265 HB GW265; have GE265 := GW265; clear hg hb; have hcz15 := blk_cell BK265.out; have hfz15 := blk_frozen BK265.out) | ((with_reducible refine gate_invoke_ (m := "theorbo/notation.symbol") rfl ?_); refine goesI_ (some 23) rfl rfl (sysW a0) #[.agg #[.int .i64 a1_0, .int .i64 a1_1]] rfl (by rfl) (by (try simp only [mA_, mB_, mC_]); first | done | rfl | (simp only [List.length_drop, List.length_take]; rfl)) ?_; (with_reducible refine (dyn_notation_symbol.calls k a0 a1_0 a1_1 t266 true _ A4.out).mono ?_); rintro e w16 ⟨rfl, hb⟩; refine ⟨_, rfl, ?_⟩; replace BK265 := bb_ BK265 hb; replace HB := bs_ HB hb; (try clear hb); (try clear hb2); (try clear hk); (try clear hi); have hcz17 := blk_cell BK265.out; have hfz17 := blk_frozen BK265.out) | ((with_reducible refine gate_invoke_ (m := "theorbo/notation.right") rfl ?_); refine goesI_ (some 30) rfl rfl (sysW a0) #[.int .i64 a1_2] rfl (by rfl) (by (try simp only [mA_, mB_, mC_]); first | done | rfl | (simp only [List.length_drop, List.length_take]; rfl)) ?_; (with_reducible refine (dyn_notation_right.calls a0 a1_2 t268 true _ A5.out).mono ?_); rintro e w18 ⟨rfl, hb⟩; refine ⟨_, rfl, ?_⟩; replace BK265 := bb_ BK265 hb; replace HB := bs_ HB hb; (try clear hb); (try clear hb2); (try clear hk); (try clear hi); have hcz19 := blk_cell BK265.out; have hfz19 := blk_frozen BK265.out) | ((with_reducible refine gate_invoke_ (m := "theorbo/notation.grace") rfl ?_); refine goesI_ (some 37) rfl rfl (sysW a0) #[.int .i64 a1_3] rfl (by rfl) (by (try simp only [mA_, mB_, mC_]); first | done | rfl | (simp only [List.length_drop, List.length_take]; rfl)) ?_; (with_reducible refine (dyn_notation_grace.calls a0 a1_3 t270 true _ A6.out).mono ?_); rintro e w20 ⟨rfl, hb⟩; refine ⟨_, rfl, ?_⟩; replace BK265 := bb_ BK265 hb; replace HB := bs_ HB hb; (try clear hb); (try clear hb2); (try clear hk); (try clear hi); have hcz21 := blk_cell BK265.out; have hfz21 := blk_frozen BK265.out) | ((with_reducible refine gate_invoke_ (m := "theorbo/notation.hold") rfl ?_); refine goesI_ (some 45) rfl rfl (sysW a0) #[.int .i64 a1_4, .int .i64 a2] rfl (by rfl) (by (try simp only [mA_, mB_, mC_]); first | done | rfl | (simp only [List.length_drop, List.length_take]; rfl)) ?_; (with_reducible refine (dyn_notation_hold.calls a0 a1_4 a2 t272 t273 _ A7.out).mono ?_); rintro e w22 ⟨rfl, hb⟩; refine ⟨_, rfl, ?_⟩; replace BK265 := bb_ BK265 hb; replace HB := bs_ HB hb; (try clear hb); (try clear hb2); (try clear hk); (try clear hi)))); (go_ret2); (exact ⟨rv_, bl_ HB⟩)
            · replace c13 := Bool.eq_false_iff.mpr c13
              subst c13; (rw [if_neg Bool.false_ne_true] at H); (simp only [Option.some.injEq, Prod.mk.injEq] at H); (obtain ⟨rfl, rfl⟩ := H); (go_enter Tryz.func34, Tryz.ntmps34); (go_wp2_with (first | (refine bx_ 4 #[.int .i64 a1_0, .int .i64 a1_1, .int .i64 a1_2, .int .i64 a1_3, .int .i64 a1_4] 54 HB ?_; clear HB; intro gb265 w23 hg hb BK265 HB GW265; have GE265 := GW265; clear hg hb; have hcz24 := blk_cell BK265.out; have hfz24 := blk_frozen BK265.out) | ((with_reducible refine gate_invoke_ (m := "theorbo/notation.symbol") rfl ?_); refine goesI_ (some 23) rfl rfl (sysW a0) #[.agg #[.int .i64 a1_0, .int .i64 a1_1]] rfl (by rfl) (by (try simp only [mA_, mB_, mC_]); first | done | rfl | (simp only [List.length_drop, List.length_take]; rfl)) ?_; (with_reducible refine (dyn_notation_symbol.calls k a0 a1_0 a1_1 t266 true _ A4.out).mono ?_); rintro e w25 ⟨rfl, hb⟩; refine ⟨_, rfl, ?_⟩; replace BK265 := bb_ BK265 hb; replace HB := bs_ HB hb; (try clear hb); (try clear hb2); (try clear hk); (try clear hi); have hcz26 := blk_cell BK265.out; have hfz26 := blk_frozen BK265.out) | ((with_reducible refine gate_invoke_ (m := "theorbo/notation.right") rfl ?_); refine goesI_ (some 30) rfl rfl (sysW a0) #[.int .i64 a1_2] rfl (by rfl) (by (try simp only [mA_, mB_, mC_]); first | done | rfl | (simp only [List.length_drop, List.length_take]; rfl)) ?_; (with_reducible refine (dyn_notation_right.calls a0 a1_2 t268 true _ A5.out).mono ?_); rintro e w27 ⟨rfl, hb⟩; refine ⟨_, rfl, ?_⟩; replace BK265 := bb_ BK265 hb; replace HB := bs_ HB hb; (try clear hb); (try clear hb2); (try clear hk); (try clear hi); have hcz28 := blk_cell BK265.out; have hfz28 := blk_frozen BK265.out) | ((with_reducible refine gate_invoke_ (m := "theorbo/notation.grace") rfl ?_); refine goesI_ (some 37) rfl rfl (sysW a0) #[.int .i64 a1_3] rfl (by rfl) (by (try simp only [mA_, mB_, mC_]); first | done | rfl | (simp only [List.length_drop, List.length_take]; rfl)) ?_; (with_reducible refine (dyn_notation_grace.calls a0 a1_3 t270 false _ A6.out).mono ?_); rintro e w29 ⟨rfl, hb⟩; refine ⟨_, rfl, ?_⟩; replace BK265 := bb_ BK265 hb; replace HB := bs_ HB hb; (try clear hb); (try clear hb2); (try clear hk); (try clear hi); have hcz30 := blk_cell BK265.out; have hfz30 := blk_frozen BK265.out) | ((with_reducible refine gate_invoke_ (m := "theorbo/notation.hold") rfl ?_); refine goesI_ (some 45) rfl rfl (sysW a0) #[.int .i64 a1_4, .int .i64 a2] rfl (by rfl) (by (try simp only [mA_, mB_, mC_]); first | done | rfl | (simp only [List.length_drop, List.length_take]; rfl)) ?_; (with_reducible refine (dyn_notation_hold.calls a0 a1_4 a2 t272 t273 _ A7.out).mono ?_); rintro e w31 ⟨rfl, hb⟩; refine ⟨_, rfl, ?_⟩; replace BK265 := bb_ BK265 hb; replace HB := bs_ HB hb; (try clear hb); (try clear hb2); (try clear hk); (try clear hi)))); (go_ret2); (exact ⟨rv_, bl_ HB⟩)
          · replace c12 := Bool.eq_false_iff.mpr c12
            subst c12; (rw [if_neg Bool.false_ne_true] at H); (simp only [Option.some.injEq, Prod.mk.injEq] at H); (obtain ⟨rfl, rfl⟩ := H); (go_enter Tryz.func34, Tryz.ntmps34); (go_wp2_with (first | (refine bx_ 4 #[.int .i64 a1_0, .int .i64 a1_1, .int .i64 a1_2, .int .i64 a1_3, .int .i64 a1_4] 54 HB ?_; clear HB; intro gb265 w32 hg hb BK265 HB GW265; have GE265 := GW265; clear hg hb; have hcz33 := blk_cell BK265.out; have hfz33 := blk_frozen BK265.out) | ((with_reducible refine gate_invoke_ (m := "theorbo/notation.symbol") rfl ?_); refine goesI_ (some 23) rfl rfl (sysW a0) #[.agg #[.int .i64 a1_0, .int .i64 a1_1]] rfl (by rfl) (by (try simp only [mA_, mB_, mC_]); first | done | rfl | (simp only [List.length_drop, List.length_take]; rfl)) ?_; (with_reducible refine (dyn_notation_symbol.calls k a0 a1_0 a1_1 t266 true _ A4.out).mono ?_); rintro e w34 ⟨rfl, hb⟩; refine ⟨_, rfl, ?_⟩; replace BK265 := bb_ BK265 hb; replace HB := bs_ HB hb; (try clear hb); (try clear hb2); (try clear hk); (try clear hi); have hcz35 := blk_cell BK265.out; have hfz35 := blk_frozen BK265.out) | ((with_reducible refine gate_invoke_ (m := "theorbo/notation.right") rfl ?_); refine goesI_ (some 30) rfl rfl (sysW a0) #[.int .i64 a1_2] rfl (by rfl) (by (try simp only [mA_, mB_, mC_]); first | done | rfl | (simp only [List.length_drop, List.length_take]; rfl)) ?_; (with_reducible refine (dyn_notation_right.calls a0 a1_2 t268 false _ A5.out).mono ?_); rintro e w36 ⟨rfl, hb⟩; refine ⟨_, rfl, ?_⟩; replace BK265 := bb_ BK265 hb; replace HB := bs_ HB hb; (try clear hb); (try clear hb2); (try clear hk); (try clear hi); have hcz37 := blk_cell BK265.out; have hfz37 := blk_frozen BK265.out) | ((with_reducible refine gate_invoke_ (m := "theorbo/notation.grace") rfl ?_); refine goesI_ (some 37) rfl rfl (sysW a0) #[.int .i64 a1_3] rfl (by rfl) (by (try simp only [mA_, mB_, mC_]); first | done | rfl | (simp only [List.length_drop, List.length_take]; rfl)) ?_; (with_reducible refine (dyn_notation_grace.calls a0 a1_3 t270 t271 _ A6.out).mono ?_); rintro e w38 ⟨rfl, hb⟩; refine ⟨_, rfl, ?_⟩; replace BK265 := bb_ BK265 hb; replace HB := bs_ HB hb; (try clear hb); (try clear hb2); (try clear hk); (try clear hi); have hcz39 := blk_cell BK265.out; have hfz39 := blk_frozen BK265.out) | ((with_reducible refine gate_invoke_ (m := "theorbo/notation.hold") rfl ?_); refine goesI_ (some 45) rfl rfl (sysW a0) #[.int .i64 a1_4, .int .i64 a2] rfl (by rfl) (by (try simp only [mA_, mB_, mC_]); first | done | rfl | (simp only [List.length_drop, List.length_take]; rfl)) ?_; (with_reducible refine (dyn_notation_hold.calls a0 a1_4 a2 t272 t273 _ A7.out).mono ?_); rintro e w40 ⟨rfl, hb⟩; refine ⟨_, rfl, ?_⟩; replace BK265 := bb_ BK265 hb; replace HB := bs_ HB hb; (try clear hb); (try clear hb2); (try clear hk); (try clear hi)))); (go_ret2); (exact ⟨rv_, bl_ HB⟩)
        · replace c11 := Bool.eq_false_iff.mpr c11
          subst c11; (rw [if_neg Bool.false_ne_true] at H); (simp only [Option.some.injEq, Prod.mk.injEq] at H); (obtain ⟨rfl, rfl⟩ := H); (go_enter Tryz.func34, Tryz.ntmps34); (go_wp2_with (first | (refine bx_ 4 #[.int .i64 a1_0, .int .i64 a1_1, .int .i64 a1_2, .int .i64 a1_3, .int .i64 a1_4] 54 HB ?_; clear HB; intro gb265 w41 hg hb BK265 HB GW265; have GE265 := GW265; clear hg hb; have hcz42 := blk_cell BK265.out; have hfz42 := blk_frozen BK265.out) | ((with_reducible refine gate_invoke_ (m := "theorbo/notation.symbol") rfl ?_); refine goesI_ (some 23) rfl rfl (sysW a0) #[.agg #[.int .i64 a1_0, .int .i64 a1_1]] rfl (by rfl) (by (try simp only [mA_, mB_, mC_]); first | done | rfl | (simp only [List.length_drop, List.length_take]; rfl)) ?_; (with_reducible refine (dyn_notation_symbol.calls k a0 a1_0 a1_1 t266 false _ A4.out).mono ?_); rintro e w43 ⟨rfl, hb⟩; refine ⟨_, rfl, ?_⟩; replace BK265 := bb_ BK265 hb; replace HB := bs_ HB hb; (try clear hb); (try clear hb2); (try clear hk); (try clear hi); have hcz44 := blk_cell BK265.out; have hfz44 := blk_frozen BK265.out) | ((with_reducible refine gate_invoke_ (m := "theorbo/notation.right") rfl ?_); refine goesI_ (some 30) rfl rfl (sysW a0) #[.int .i64 a1_2] rfl (by rfl) (by (try simp only [mA_, mB_, mC_]); first | done | rfl | (simp only [List.length_drop, List.length_take]; rfl)) ?_; (with_reducible refine (dyn_notation_right.calls a0 a1_2 t268 t269 _ A5.out).mono ?_); rintro e w45 ⟨rfl, hb⟩; refine ⟨_, rfl, ?_⟩; replace BK265 := bb_ BK265 hb; replace HB := bs_ HB hb; (try clear hb); (try clear hb2); (try clear hk); (try clear hi); have hcz46 := blk_cell BK265.out; have hfz46 := blk_frozen BK265.out) | ((with_reducible refine gate_invoke_ (m := "theorbo/notation.grace") rfl ?_); refine goesI_ (some 37) rfl rfl (sysW a0) #[.int .i64 a1_3] rfl (by rfl) (by (try simp only [mA_, mB_, mC_]); first | done | rfl | (simp only [List.length_drop, List.length_take]; rfl)) ?_; (with_reducible refine (dyn_notation_grace.calls a0 a1_3 t270 t271 _ A6.out).mono ?_); rintro e w47 ⟨rfl, hb⟩; refine ⟨_, rfl, ?_⟩; replace BK265 := bb_ BK265 hb; replace HB := bs_ HB hb; (try clear hb); (try clear hb2); (try clear hk); (try clear hi); have hcz48 := blk_cell BK265.out; have hfz48 := blk_frozen BK265.out) | ((with_reducible refine gate_invoke_ (m := "theorbo/notation.hold") rfl ?_); refine goesI_ (some 45) rfl rfl (sysW a0) #[.int .i64 a1_4, .int .i64 a2] rfl (by rfl) (by (try simp only [mA_, mB_, mC_]); first | done | rfl | (simp only [List.length_drop, List.length_take]; rfl)) ?_; (with_reducible refine (dyn_notation_hold.calls a0 a1_4 a2 t272 t273 _ A7.out).mono ?_); rintro e w49 ⟨rfl, hb⟩; refine ⟨_, rfl, ?_⟩; replace BK265 := bb_ BK265 hb; replace HB := bs_ HB hb; (try clear hb); (try clear hb2); (try clear hk); (try clear hi)))); (go_ret2); (exact ⟨rv_, bl_ HB⟩)
      · rw [if_neg c10] at H
        exact absurd H (by simp)
    · rw [if_neg c9] at H
      exact absurd H (by simp)
  · rw [if_neg c8] at H
    exact absurd H (by simp)

/-! ### notation_Cell: function 19 -/
mutual
def notation_Cell.j0 : Nat → Int → Int → Bool → Int → Int → Int → Int → Int → Option (ByteArray × Int)
  | 0, _, _, _, _, _, _, _, _ => none
  | k + 1, x2, x8, x25, x289000, x289001, x289002, x289003, x289004 => if x25 = true then (some ((⟨#[]⟩ : ByteArray), 23)) else (if x2 < 0 then (notation_Cell.j1 k x2 x8 true x289000 x289001 x289002 x289003 x289004) else (if x2 > 15 then (notation_Cell.j1 k x2 x8 true x289000 x289001 x289002 x289003 x289004) else (if x289004 < 0 then (notation_Cell.j1 k x2 x8 true x289000 x289001 x289002 x289003 x289004) else (if x289004 > x2 then (notation_Cell.j1 k x2 x8 true x289000 x289001 x289002 x289003 x289004) else (if x289004 > 0 then (notation_Cell.j1 k x2 x8 (x289001 == 0) x289000 x289001 x289002 x289003 x289004) else (notation_Cell.j1 k x2 x8 false x289000 x289001 x289002 x289003 x289004))))))
def notation_Cell.j1 : Nat → Int → Int → Bool → Int → Int → Int → Int → Int → Option (ByteArray × Int)
  | 0, _, _, _, _, _, _, _, _ => none
  | k + 1, x2, x8, x44, x289000, x289001, x289002, x289003, x289004 => if x44 = true then (some ((⟨#[]⟩ : ByteArray), 24)) else ((notation_cell.f k x8 x289000 x289001 x289002 x289003 x289004 x2).bind fun bt291 => (if bt291.2 = true then (some (bt291.1, 0)) else (some ((⟨#[]⟩ : ByteArray), 31))))
end
def notation_Cell.f (k : Nat) (a0 : Int) (a1_0 : Int) (a1_1 : Int) (a1_2 : Int) (a1_3 : Int) (a1_4 : Int) (a2 : Int) : Option (ByteArray × Int) := (notation_placed.f k a0 a1_0 a1_1).bind fun bt289 => (if bt289.2 = 0 then (if a1_2 < 0 then (notation_Cell.j0 k a2 bt289.1 true a1_0 a1_1 a1_2 a1_3 a1_4) else (if a1_2 > 3 then (notation_Cell.j0 k a2 bt289.1 true a1_0 a1_1 a1_2 a1_3 a1_4) else (if a1_3 < 0 then (notation_Cell.j0 k a2 bt289.1 true a1_0 a1_1 a1_2 a1_3 a1_4) else (notation_Cell.j0 k a2 bt289.1 (decide (a1_3 > 4)) a1_0 a1_1 a1_2 a1_3 a1_4)))) else (some ((⟨#[]⟩ : ByteArray), bt289.2)))
theorem notation_Cell.mono_l : ∀ k, (∀ y0 y1 y2 y3 y4 y5 y6 y7, LeO (notation_Cell.j0 k y0 y1 y2 y3 y4 y5 y6 y7) (notation_Cell.j0 (k + 1) y0 y1 y2 y3 y4 y5 y6 y7)) ∧ (∀ y0 y1 y2 y3 y4 y5 y6 y7, LeO (notation_Cell.j1 k y0 y1 y2 y3 y4 y5 y6 y7) (notation_Cell.j1 (k + 1) y0 y1 y2 y3 y4 y5 y6 y7))
  | 0 => ⟨fun _ _ _ _ _ _ _ _ r h => by simp [notation_Cell.j0] at h, fun _ _ _ _ _ _ _ _ r h => by simp [notation_Cell.j1] at h⟩
  | k + 1 => by
    ((obtain ⟨ih0, ih1⟩ := notation_Cell.mono_l k); (refine ⟨?_, ?_⟩)); (focus intro y0 y1 y2 y3 y4 y5 y6 y7; (unfold notation_Cell.j0); (repeat' first | (with_reducible first | apply ih0 | apply ih1 | apply notation_cell.mono | apply notation_placed.mono | exact LeO.refl _ | exact LeO.none _ | refine LeO.ite ?_ ?_ | refine LeO.bind ?_ fun _ => ?_) | exact LeO.none _ | refine LeO.ite ?_ ?_ | refine LeO.bind ?_ fun _ => ?_ | apply ih0 | apply ih1 | apply notation_cell.mono | apply notation_placed.mono)); (focus intro y0 y1 y2 y3 y4 y5 y6 y7; (unfold notation_Cell.j1); (repeat' first | (with_reducible first | apply ih0 | apply ih1 | apply notation_cell.mono | apply notation_placed.mono | exact LeO.refl _ | exact LeO.none _ | refine LeO.ite ?_ ?_ | refine LeO.bind ?_ fun _ => ?_) | exact LeO.none _ | refine LeO.ite ?_ ?_ | refine LeO.bind ?_ fun _ => ?_ | apply ih0 | apply ih1 | apply notation_cell.mono | apply notation_placed.mono))
theorem notation_Cell.mono : ∀ a0 a1 a2 a3 a4 a5 a6 k, LeO (notation_Cell.f k a0 a1 a2 a3 a4 a5 a6) (notation_Cell.f (k + 1) a0 a1 a2 a3 a4 a5 a6) := by
  intro a0 a1 a2 a3 a4 a5 a6 k
  obtain ⟨ih0, ih1⟩ := notation_Cell.mono_l k
  unfold notation_Cell.f
  repeat' first | (with_reducible first | apply ih0 | apply ih1 | apply notation_cell.mono | apply notation_placed.mono | exact LeO.refl _ | exact LeO.none _ | refine LeO.ite ?_ ?_ | refine LeO.bind ?_ fun _ => ?_) | exact LeO.none _ | refine LeO.ite ?_ ?_ | refine LeO.bind ?_ fun _ => ?_ | apply ih0 | apply ih1 | apply notation_cell.mono | apply notation_placed.mono
set_option maxHeartbeats 8000000 in
set_option maxRecDepth 100000 in
theorem notation_Cell.calls (k : Nat) (a0 : Int) (a1_0 : Int) (a1_1 : Int) (a1_2 : Int) (a1_3 : Int) (a1_4 : Int) (a2 : Int) (r1 : ByteArray) (r2 : Int) (w : World) (h : notation_Cell.f k a0 a1_0 a1_1 a1_2 a1_3 a1_4 a2 = some (r1, r2)) :
    Calls Tryz.prog 19 #[.int .u8 a0, .agg #[.int .i64 a1_0, .int .i64 a1_1, .int .i64 a1_2, .int .i64 a1_3, .int .i64 a1_4], .int .i64 a2] w fun e w' => e = .returned (.tuple #[.string r1, .int .i64 r2]) ∧ Below w.heap.size w w' := by
  have hu54 := Tryz.underlying54
  have HB := Aside0.mk (Below.refl w.heap.size w)
  have H : ((notation_placed.f k a0 a1_0 a1_1).bind fun bt289 => (if bt289.2 = 0 then (if a1_2 < 0 then (notation_Cell.j0 k a2 bt289.1 true a1_0 a1_1 a1_2 a1_3 a1_4) else (if a1_2 > 3 then (notation_Cell.j0 k a2 bt289.1 true a1_0 a1_1 a1_2 a1_3 a1_4) else (if a1_3 < 0 then (notation_Cell.j0 k a2 bt289.1 true a1_0 a1_1 a1_2 a1_3 a1_4) else (notation_Cell.j0 k a2 bt289.1 (decide (a1_3 > 4)) a1_0 a1_1 a1_2 a1_3 a1_4)))) else (some ((⟨#[]⟩ : ByteArray), bt289.2)))) = some (r1, r2) := h
  clear h
  replace H := Option.bind_eq_some_iff.mp H
  obtain ⟨⟨t289, t290⟩, A40, H⟩ := H
  try dsimp only at H
  have A4 := Aside0.mk A40
  clear A40
  have HC5 := Aside0.mk H
  clear H
  go_enter Tryz.func19, Tryz.ntmps19
  go_upto_if 21 with (first | (refine bx_ 4 #[.int .i64 a1_0, .int .i64 a1_1, .int .i64 a1_2, .int .i64 a1_3, .int .i64 a1_4] 54 HB ?_; clear HB; intro gb288 w6 hg hb BK288 HB GW288; have GE288 := GW288; clear hg hb; have hcz7 := blk_cell BK288.out; have hfz7 := blk_frozen BK288.out) | ((with_reducible refine gate_callee (f := 31) rfl ?_); refine cl_ 31 (some 18) Tryz.func31 (notation_placed.calls k a0 a1_0 a1_1 t289 t290 _ A4.out) ?_; rintro e w' ⟨rfl, ⟨nd, rfl⟩⟩; refine ⟨_, rfl, ?_⟩))
  (try simp only [Act.put, List.setIfInBounds_toArray, List.set_cons_zero, List.set_cons_succ])
  have H := HC5.out
  clear HC5
  by_cases c8 : t290 = 0
  · rw [if_pos c8] at H
    (obtain ⟨c8b0, c8b1⟩ := eqT_ c8); clear c8; ((first | rw [c8b0] | rw [c8b1] | (simp only [i64_w, i32_w]; rw [c8b0]) | skip)); (have HC9 := Aside0.mk H); clear H; (go_upto_region 4 with (fail)); (go_cut [25] (fun v25 wc => ∃ (kq : Nat) (x25_8 : Bool), v25 = .bool x25_8 ∧ Aside0 (notation_Cell.j0 kq a2 t289 x25_8 a1_0 a1_1 a1_2 a1_3 a1_4 = some (r1, r2)) ∧ Aside0 (kq ≤ k) ∧ Aside0 (wc.heap[gb288]? = some (.cells #[.int .i64 a1_0, .int .i64 a1_1, .int .i64 a1_2, .int .i64 a1_3, .int .i64 a1_4] 54 (0, 0))) ∧ Aside0 (Below w.heap.size w wc)))
    case first =>
      (have H := HC9.out); clear HC9; (by_cases c10 : a1_2 < 0)
      · rw [if_pos c10] at H
        (have c10b0 := decide_eq_true c10); clear c10; ((first | rw [c10b0] | (simp only [i64_w, i32_w]; rw [c10b0]) | skip)); (have H' := Aside0.mk H); clear H; (have hcz11 := blk_cell BK288.out); (have hfz11 := blk_frozen BK288.out); (go_wp2); (go_meet)
        case rel => exact ⟨_, (true), (rs_), H', ⟨om_⟩, ⟨bk_ BK288⟩, ⟨bl_ HB⟩⟩
      · rw [if_neg c10] at H
        (have c10b0 := decide_eq_false c10); clear c10; ((first | rw [c10b0] | (simp only [i64_w, i32_w]; rw [c10b0]) | skip)); (by_cases c12 : a1_2 > 3)
        · rw [if_pos c12] at H
          (have c12b0 : decide (3 < a1_2) = true := decide_eq_true c12); clear c12; (have H' := Aside0.mk H); clear H; (have hcz13 := blk_cell BK288.out); (have hfz13 := blk_frozen BK288.out); (go_wp2); (go_meet)
          case rel => exact ⟨_, (true), (rs_), H', ⟨om_⟩, ⟨bk_ BK288⟩, ⟨bl_ HB⟩⟩
        · rw [if_neg c12] at H
          (have c12b0 : decide (3 < a1_2) = false := decide_eq_false c12); clear c12; (by_cases c14 : a1_3 < 0)
          · rw [if_pos c14] at H
            (have c14b0 := decide_eq_true c14); clear c14; (have H' := Aside0.mk H); clear H; (have hcz15 := blk_cell BK288.out); (have hfz15 := blk_frozen BK288.out); (go_wp2); (go_meet)
            case rel => exact ⟨_, (true), (rs_), H', ⟨om_⟩, ⟨bk_ BK288⟩, ⟨bl_ HB⟩⟩
          · rw [if_neg c14] at H
            (have c14b0 := decide_eq_false c14); clear c14; (have H' := Aside0.mk H); clear H; (have hcz16 := blk_cell BK288.out); (have hfz16 := blk_frozen BK288.out); (go_wp2); (go_meet)
            case rel => exact ⟨_, (decide (a1_3 > 4)), (rs_), H', ⟨om_⟩, ⟨bk_ BK288⟩, ⟨bl_ HB⟩⟩
    case rest =>
      clear HC9; (try clear c8b0 c8b1 hcz7 hfz7); (obtain ⟨kq, x25_8, rfl, HA, HJ8, BK288, HB⟩ := hcut)
      cases kq with
      | zero => exact absurd HA.out (by simp [notation_Cell.j0])
      | succ kj8 =>
        (have H := HA.out); clear HA; (simp only [notation_Cell.j0] at H); (by_cases c17 : x25_8 = true)
        · subst c17
          (rw [if_pos rfl] at H); (simp only [Option.some.injEq, Prod.mk.injEq] at H); (obtain ⟨rfl, rfl⟩ := H); (go_wp2); (go_ret2); (exact ⟨rv_, bl_ HB⟩)
        · replace c17 := Bool.eq_false_iff.mpr c17
          subst c17; (rw [if_neg Bool.false_ne_true] at H); (have HC18 := Aside0.mk H); clear H; (go_upto_region 6 with (fail)); (go_cut [44] (fun v44 wc => ∃ (kq : Nat) (x44_17 : Bool), v44 = .bool x44_17 ∧ Aside0 (notation_Cell.j1 kq a2 t289 x44_17 a1_0 a1_1 a1_2 a1_3 a1_4 = some (r1, r2)) ∧ Aside0 (kq ≤ kj8) ∧ Aside0 (wc.heap[gb288]? = some (.cells #[.int .i64 a1_0, .int .i64 a1_1, .int .i64 a1_2, .int .i64 a1_3, .int .i64 a1_4] 54 (0, 0))) ∧ Aside0 (Below w.heap.size w wc)))
          case first =>
            (have H := HC18.out); clear HC18; (by_cases c19 : a2 < 0)
            · rw [if_pos c19] at H
              (have c19b0 := decide_eq_true c19); clear c19; ((first | rw [c19b0] | (simp only [i64_w, i32_w]; rw [c19b0]) | skip)); (have H' := Aside0.mk H); clear H; (go_wp2); (go_meet)
              case rel => exact ⟨_, (true), (rs_), H', ⟨by have := HJ8.out; first | omega | exact Nat.le_refl _⟩, ⟨bk_ BK288⟩, ⟨bl_ HB⟩⟩
            · rw [if_neg c19] at H
              (have c19b0 := decide_eq_false c19); clear c19; ((first | rw [c19b0] | (simp only [i64_w, i32_w]; rw [c19b0]) | skip)); (by_cases c20 : a2 > 15)
              · rw [if_pos c20] at H
                (have c20b0 : decide (15 < a2) = true := decide_eq_true c20); clear c20; (have H' := Aside0.mk H); clear H; (go_wp2); (go_meet)
                case rel => exact ⟨_, (true), (rs_), H', ⟨by have := HJ8.out; first | omega | exact Nat.le_refl _⟩, ⟨bk_ BK288⟩, ⟨bl_ HB⟩⟩
              · rw [if_neg c20] at H
                (have c20b0 : decide (15 < a2) = false := decide_eq_false c20); clear c20; (by_cases c21 : a1_4 < 0)
                · rw [if_pos c21] at H
                  (have c21b0 := decide_eq_true c21); clear c21; (have H' := Aside0.mk H); clear H; (have hcz22 := blk_cell BK288.out); (have hfz22 := blk_frozen BK288.out); (go_wp2); (go_meet)
                  case rel => exact ⟨_, (true), (rs_), H', ⟨by have := HJ8.out; first | omega | exact Nat.le_refl _⟩, ⟨bk_ BK288⟩, ⟨bl_ HB⟩⟩
                · rw [if_neg c21] at H
                  (have c21b0 := decide_eq_false c21); clear c21; (by_cases c23 : a1_4 > a2)
                  · rw [if_pos c23] at H
                    (have c23b0 : decide (a2 < a1_4) = true := decide_eq_true c23); clear c23; (have H' := Aside0.mk H); clear H; (have hcz24 := blk_cell BK288.out); (have hfz24 := blk_frozen BK288.out); (go_wp2); (go_meet)
                    case rel => exact ⟨_, (true), (rs_), H', ⟨by have := HJ8.out; first | omega | exact Nat.le_refl _⟩, ⟨bk_ BK288⟩, ⟨bl_ HB⟩⟩
                  · rw [if_neg c23] at H
                    (have c23b0 : decide (a2 < a1_4) = false := decide_eq_false c23); clear c23; (by_cases c25 : a1_4 > 0)
                    · rw [if_pos c25] at H
                      (have c25b0 : decide (0 < a1_4) = true := decide_eq_true c25); clear c25; (have H' := Aside0.mk H); clear H; (have hcz26 := blk_cell BK288.out); (have hfz26 := blk_frozen BK288.out); (go_wp2); (go_meet)
                      case rel => exact ⟨_, ((a1_1 == 0)), (rs_), H', ⟨by have := HJ8.out; first | omega | exact Nat.le_refl _⟩, ⟨bk_ BK288⟩, ⟨bl_ HB⟩⟩
                    · rw [if_neg c25] at H
                      (have c25b0 : decide (0 < a1_4) = false := decide_eq_false c25); clear c25; (have H' := Aside0.mk H); clear H; (have hcz27 := blk_cell BK288.out); (have hfz27 := blk_frozen BK288.out); (go_wp2); (go_meet)
                      case rel => exact ⟨_, (false), (rs_), H', ⟨by have := HJ8.out; first | omega | exact Nat.le_refl _⟩, ⟨bk_ BK288⟩, ⟨bl_ HB⟩⟩
          case rest =>
            clear HC18; (try clear c17); (obtain ⟨kq, x44_17, rfl, HA, HJ17, BK288, HB⟩ := hcut)
            cases kq with
            | zero => exact absurd HA.out (by simp [notation_Cell.j1])
            | succ kj17 =>
              (have H := HA.out); clear HA; (simp only [notation_Cell.j1] at H); (by_cases c28 : x44_17 = true)
              · subst c28
                (rw [if_pos rfl] at H); (simp only [Option.some.injEq, Prod.mk.injEq] at H); (obtain ⟨rfl, rfl⟩ := H); (go_wp2); (go_ret2); (exact ⟨rv_, bl_ HB⟩)
              · replace c28 := Bool.eq_false_iff.mpr c28
                subst c28; (rw [if_neg Bool.false_ne_true] at H); (replace H := Option.bind_eq_some_iff.mp H); (obtain ⟨⟨t291, t292⟩, A290, H⟩ := H); (try dsimp only at H); (have A29 := Aside0.mk A290); clear A290; (have HC30 := Aside0.mk H); clear H; (have hcz31 := blk_cell BK288.out); (have hfz31 := blk_frozen BK288.out); (go_upto_if 80 with (first | ((with_reducible refine gate_callee (f := 34) rfl ?_); refine cl_ 34 (some 76) Tryz.func34 (notation_cell.calls kj17 t289 a1_0 a1_1 a1_2 a1_3 a1_4 a2 t291 t292 _ A29.out) ?_; rintro e w32 ⟨rfl, hb⟩; refine ⟨_, rfl, ?_⟩; replace BK288 := bb_ BK288 hb; replace HB := bs_ HB hb; (try clear hb); (try clear hb2); (try clear hk); (try clear hi)))); ((try simp only [Act.put, List.setIfInBounds_toArray, List.set_cons_zero, List.set_cons_succ])); (have H := HC30.out); clear HC30; (by_cases c33 : t292 = true)
                · subst c33
                  (rw [if_pos rfl] at H); (simp only [Option.some.injEq, Prod.mk.injEq] at H); (obtain ⟨rfl, rfl⟩ := H); (go_wp2); (go_ret2); (exact ⟨rv_, bl_ HB⟩)
                · replace c33 := Bool.eq_false_iff.mpr c33
                  subst c33; (rw [if_neg Bool.false_ne_true] at H); (simp only [Option.some.injEq, Prod.mk.injEq] at H); (obtain ⟨rfl, rfl⟩ := H); (go_wp2); (go_ret2); (exact ⟨rv_, bl_ HB⟩)
  · rw [if_neg c8] at H
    (obtain ⟨c8b0, c8b1⟩ := eqF_ c8); ((first | rw [c8b0] | rw [c8b1] | (simp only [i64_w, i32_w]; rw [c8b0]) | skip)); (simp only [Option.some.injEq, Prod.mk.injEq] at H); (obtain ⟨rfl, rfl⟩ := H); (go_wp2); (go_ret2); (exact ⟨rv_, bl_ HB⟩)

/-! ### theorbolaw03_works: function 6 -/
def theorbolaw03_works.f (k : Nat)  : Option (Bool) := (notation_Symbol.f k 4 6 4).bind fun bt293 => ((notation_Place.f k 4 0 (⟨#[38]⟩ : ByteArray)).bind fun bt295 => ((notation_Cell.f k 1 1 2 1 0 3 4).bind fun bt299 => (if bt293.1.toList = ([68] : List UInt8) then (if bt293.2 = 0 then (if (bt295.1 == 2 && (bt295.2.1 == 5)) = true then (if bt295.2.2 = 0 then (if bt299.1.toList = ([99, 46, 95, 51] : List UInt8) then (some (bt299.2 == 0)) else (some false)) else (some false)) else (some false)) else (some false)) else (some false))))
theorem theorbolaw03_works.mono : ∀ k, LeO (theorbolaw03_works.f k ) (theorbolaw03_works.f (k + 1) ) := by
  intro  k
  unfold theorbolaw03_works.f
  repeat' first | (with_reducible first | apply notation_Cell.mono | apply notation_Place.mono | apply notation_Symbol.mono | exact LeO.refl _ | exact LeO.none _ | refine LeO.ite ?_ ?_ | refine LeO.bind ?_ fun _ => ?_) | exact LeO.none _ | refine LeO.ite ?_ ?_ | refine LeO.bind ?_ fun _ => ?_ | apply notation_Cell.mono | apply notation_Place.mono | apply notation_Symbol.mono
set_option maxHeartbeats 8000000 in
set_option maxRecDepth 100000 in
theorem theorbolaw03_works.calls (k : Nat)  (r : Bool) (w : World) (h : theorbolaw03_works.f k  = some r) :
    Calls Tryz.prog 6 #[] w fun e w' => e = .returned (.bool r) ∧ Below w.heap.size w w' := by
  have hu49 := Tryz.underlying49
  have hu54 := Tryz.underlying54
  have HB := Aside0.mk (Below.refl w.heap.size w)
  have H : ((notation_Symbol.f k 4 6 4).bind fun bt293 => ((notation_Place.f k 4 0 (⟨#[38]⟩ : ByteArray)).bind fun bt295 => ((notation_Cell.f k 1 1 2 1 0 3 4).bind fun bt299 => (if bt293.1.toList = ([68] : List UInt8) then (if bt293.2 = 0 then (if (bt295.1 == 2 && (bt295.2.1 == 5)) = true then (if bt295.2.2 = 0 then (if bt299.1.toList = ([99, 46, 95, 51] : List UInt8) then (some (bt299.2 == 0)) else (some false)) else (some false)) else (some false)) else (some false)) else (some false))))) = some r := h
  clear h
  replace H := Option.bind_eq_some_iff.mp H
  obtain ⟨⟨t293, t294⟩, A10, H⟩ := H
  try dsimp only at H
  have A1 := Aside0.mk A10
  clear A10
  replace H := Option.bind_eq_some_iff.mp H
  obtain ⟨⟨t295, t296, t297⟩, A20, H⟩ := H
  try dsimp only at H
  have A2 := Aside0.mk A20
  clear A20
  replace H := Option.bind_eq_some_iff.mp H
  obtain ⟨⟨t299, t300⟩, A30, H⟩ := H
  try dsimp only at H
  have A3 := Aside0.mk A30
  clear A30
  by_cases c4 : t293.toList = ([68] : List UInt8)
  · rw [if_pos c4] at H
    (have c4b0 : (t293.toList == ([68] : List UInt8)) = true := beq_iff_eq.mpr c4); (have c4b1 : (t293.toList != ([68] : List UInt8)) = false := bne_eq_false_iff_eq.mpr c4); clear c4; (by_cases c5 : t294 = 0)
    · rw [if_pos c5] at H
      (obtain ⟨c5b0, c5b1⟩ := eqT_ c5); clear c5; (by_cases c6 : (t295 == 2 && (t296 == 5)) = true)
      · rw [if_pos c6] at H
        (have c6b0 : (t295 == 2 && (t296 == 5)) = true := c6); ((try (have c6b1 : decide (t295 = 2 && (t296 == 5)) = true := by simpa using c6))); ((try (have c6b2 : (t295 == 2 && (t296 == 5)) = true := by simpa using c6))); clear c6; (by_cases c7 : t297 = 0)
        · rw [if_pos c7] at H
          (obtain ⟨c7b0, c7b1⟩ := eqT_ c7); clear c7; (by_cases c8 : t299.toList = ([99, 46, 95, 51] : List UInt8))
          · rw [if_pos c8] at H
            (have c8b0 : (t299.toList == ([99, 46, 95, 51] : List UInt8)) = true := beq_iff_eq.mpr c8); (have c8b1 : (t299.toList != ([99, 46, 95, 51] : List UInt8)) = false := bne_eq_false_iff_eq.mpr c8); clear c8; (obtain rfl := Option.some.inj H); (go_enter Tryz.func6, Tryz.ntmps6); (go_wp2_with (first | ((with_reducible refine gate_callee (f := 17) rfl ?_); refine cl_ 17 (some 9) Tryz.func17 (notation_Symbol.calls k 4 6 4 t293 t294 _ A1.out) ?_; rintro e w9 ⟨rfl, hb⟩; refine ⟨_, rfl, ?_⟩; replace HB := bs_ HB hb; (try clear hb); (try clear hb2); (try clear hk); (try clear hi)) | ((with_reducible refine gate_callee (f := 18) rfl ?_); refine cl_ 18 (some 13) Tryz.func18 (notation_Place.calls k 4 0 (⟨#[38]⟩ : ByteArray) t295 t296 t297 _ A2.out) ?_; rintro e w10 ⟨rfl, hb⟩; refine ⟨_, rfl, ?_⟩; replace HB := bs_ HB hb; (try clear hb); (try clear hb2); (try clear hk); (try clear hi)) | (refine bx_ 3 #[.int .i64 0, .int .i64 0] 49 HB ?_; clear HB; intro gb298 w11 hg hb BK298 HB GW298; have GE298 := GW298; clear hg hb; have hcz12 := blk_cell BK298.out; have hfz12 := blk_frozen BK298.out) | ((with_reducible refine gate_callee (f := 19) rfl ?_); refine cl_ 19 (some 18) Tryz.func19 (notation_Cell.calls k 1 1 2 1 0 3 4 t299 t300 _ A3.out) ?_; rintro e w13 ⟨rfl, hb⟩; refine ⟨_, rfl, ?_⟩; replace BK298 := Aside0.mk (blk_below (g := gb298) (o := .cells #[.int .i64 t295, .int .i64 t296] 49 (0, 0)) (bk_ BK298) hb); replace HB := bs_ HB hb; (try clear hb); (try clear hb2); (try clear hk); (try clear hi); have hcz14 := blk_cell BK298.out; have hfz14 := blk_frozen BK298.out))); (go_ret); (exact ⟨rv_, bl_ HB⟩)
          · rw [if_neg c8] at H
            (have c8b0 : (t299.toList == ([99, 46, 95, 51] : List UInt8)) = false := beq_eq_false_iff_ne.mpr c8); (have c8b1 : (t299.toList != ([99, 46, 95, 51] : List UInt8)) = true := bne_iff_ne.mpr c8); (obtain rfl := Option.some.inj H); (go_enter Tryz.func6, Tryz.ntmps6); (go_wp2_with (first | ((with_reducible refine gate_callee (f := 17) rfl ?_); refine cl_ 17 (some 9) Tryz.func17 (notation_Symbol.calls k 4 6 4 t293 t294 _ A1.out) ?_; rintro e w15 ⟨rfl, hb⟩; refine ⟨_, rfl, ?_⟩; replace HB := bs_ HB hb; (try clear hb); (try clear hb2); (try clear hk); (try clear hi)) | ((with_reducible refine gate_callee (f := 18) rfl ?_); refine cl_ 18 (some 13) Tryz.func18 (notation_Place.calls k 4 0 (⟨#[38]⟩ : ByteArray) t295 t296 t297 _ A2.out) ?_; rintro e w16 ⟨rfl, hb⟩; refine ⟨_, rfl, ?_⟩; replace HB := bs_ HB hb; (try clear hb); (try clear hb2); (try clear hk); (try clear hi)) | (refine bx_ 3 #[.int .i64 0, .int .i64 0] 49 HB ?_; clear HB; intro gb298 w17 hg hb BK298 HB GW298; have GE298 := GW298; clear hg hb; have hcz18 := blk_cell BK298.out; have hfz18 := blk_frozen BK298.out) | ((with_reducible refine gate_callee (f := 19) rfl ?_); refine cl_ 19 (some 18) Tryz.func19 (notation_Cell.calls k 1 1 2 1 0 3 4 t299 t300 _ A3.out) ?_; rintro e w19 ⟨rfl, hb⟩; refine ⟨_, rfl, ?_⟩; replace BK298 := Aside0.mk (blk_below (g := gb298) (o := .cells #[.int .i64 t295, .int .i64 t296] 49 (0, 0)) (bk_ BK298) hb); replace HB := bs_ HB hb; (try clear hb); (try clear hb2); (try clear hk); (try clear hi); have hcz20 := blk_cell BK298.out; have hfz20 := blk_frozen BK298.out))); (go_ret); (exact ⟨rv_, bl_ HB⟩)
        · rw [if_neg c7] at H
          (obtain ⟨c7b0, c7b1⟩ := eqF_ c7); (obtain rfl := Option.some.inj H); (go_enter Tryz.func6, Tryz.ntmps6); (go_wp2_with (first | ((with_reducible refine gate_callee (f := 17) rfl ?_); refine cl_ 17 (some 9) Tryz.func17 (notation_Symbol.calls k 4 6 4 t293 t294 _ A1.out) ?_; rintro e w21 ⟨rfl, hb⟩; refine ⟨_, rfl, ?_⟩; replace HB := bs_ HB hb; (try clear hb); (try clear hb2); (try clear hk); (try clear hi)) | ((with_reducible refine gate_callee (f := 18) rfl ?_); refine cl_ 18 (some 13) Tryz.func18 (notation_Place.calls k 4 0 (⟨#[38]⟩ : ByteArray) t295 t296 t297 _ A2.out) ?_; rintro e w22 ⟨rfl, hb⟩; refine ⟨_, rfl, ?_⟩; replace HB := bs_ HB hb; (try clear hb); (try clear hb2); (try clear hk); (try clear hi)) | (refine bx_ 3 #[.int .i64 0, .int .i64 0] 49 HB ?_; clear HB; intro gb298 w23 hg hb BK298 HB GW298; have GE298 := GW298; clear hg hb; have hcz24 := blk_cell BK298.out; have hfz24 := blk_frozen BK298.out) | ((with_reducible refine gate_callee (f := 19) rfl ?_); refine cl_ 19 (some 18) Tryz.func19 (notation_Cell.calls k 1 1 2 1 0 3 4 t299 t300 _ A3.out) ?_; rintro e w25 ⟨rfl, hb⟩; refine ⟨_, rfl, ?_⟩; replace BK298 := Aside0.mk (blk_below (g := gb298) (o := .cells #[.int .i64 t295, .int .i64 t296] 49 (0, 0)) (bk_ BK298) hb); replace HB := bs_ HB hb; (try clear hb); (try clear hb2); (try clear hk); (try clear hi); have hcz26 := blk_cell BK298.out; have hfz26 := blk_frozen BK298.out))); (go_ret); (exact ⟨rv_, bl_ HB⟩)
      · rw [if_neg c6] at H
        (have c6b0 : (t295 == 2 && (t296 == 5)) = false := by simpa using c6); ((try (have c6b1 : decide (t295 = 2 && (t296 == 5)) = false := by simpa using c6))); ((try (have c6b2 : (t295 == 2 && (t296 == 5)) = false := by simpa using c6))); ((try (have c6b3 : ¬ (t295 = 2 && (t296 == 5)) := by simpa using c6))); clear c6; (obtain rfl := Option.some.inj H); (go_enter Tryz.func6, Tryz.ntmps6); (go_wp2_with (first | ((with_reducible refine gate_callee (f := 17) rfl ?_); refine cl_ 17 (some 9) Tryz.func17 (notation_Symbol.calls k 4 6 4 t293 t294 _ A1.out) ?_; rintro e w27 ⟨rfl, hb⟩; refine ⟨_, rfl, ?_⟩; replace HB := bs_ HB hb; (try clear hb); (try clear hb2); (try clear hk); (try clear hi)) | ((with_reducible refine gate_callee (f := 18) rfl ?_); refine cl_ 18 (some 13) Tryz.func18 (notation_Place.calls k 4 0 (⟨#[38]⟩ : ByteArray) t295 t296 t297 _ A2.out) ?_; rintro e w28 ⟨rfl, hb⟩; refine ⟨_, rfl, ?_⟩; replace HB := bs_ HB hb; (try clear hb); (try clear hb2); (try clear hk); (try clear hi)) | (refine bx_ 3 #[.int .i64 0, .int .i64 0] 49 HB ?_; clear HB; intro gb298 w29 hg hb BK298 HB GW298; have GE298 := GW298; clear hg hb; have hcz30 := blk_cell BK298.out; have hfz30 := blk_frozen BK298.out) | ((with_reducible refine gate_callee (f := 19) rfl ?_); refine cl_ 19 (some 18) Tryz.func19 (notation_Cell.calls k 1 1 2 1 0 3 4 t299 t300 _ A3.out) ?_; rintro e w31 ⟨rfl, hb⟩; refine ⟨_, rfl, ?_⟩; replace BK298 := Aside0.mk (blk_below (g := gb298) (o := .cells #[.int .i64 t295, .int .i64 t296] 49 (0, 0)) (bk_ BK298) hb); replace HB := bs_ HB hb; (try clear hb); (try clear hb2); (try clear hk); (try clear hi); have hcz32 := blk_cell BK298.out; have hfz32 := blk_frozen BK298.out))); (go_ret); (exact ⟨rv_, bl_ HB⟩)
    · rw [if_neg c5] at H
      (obtain ⟨c5b0, c5b1⟩ := eqF_ c5); (obtain rfl := Option.some.inj H); (go_enter Tryz.func6, Tryz.ntmps6); (go_wp2_with (first | ((with_reducible refine gate_callee (f := 17) rfl ?_); refine cl_ 17 (some 9) Tryz.func17 (notation_Symbol.calls k 4 6 4 t293 t294 _ A1.out) ?_; rintro e w33 ⟨rfl, hb⟩; refine ⟨_, rfl, ?_⟩; replace HB := bs_ HB hb; (try clear hb); (try clear hb2); (try clear hk); (try clear hi)) | ((with_reducible refine gate_callee (f := 18) rfl ?_); refine cl_ 18 (some 13) Tryz.func18 (notation_Place.calls k 4 0 (⟨#[38]⟩ : ByteArray) t295 t296 t297 _ A2.out) ?_; rintro e w34 ⟨rfl, hb⟩; refine ⟨_, rfl, ?_⟩; replace HB := bs_ HB hb; (try clear hb); (try clear hb2); (try clear hk); (try clear hi)) | (refine bx_ 3 #[.int .i64 0, .int .i64 0] 49 HB ?_; clear HB; intro gb298 w35 hg hb BK298 HB GW298; have GE298 := GW298; clear hg hb; have hcz36 := blk_cell BK298.out; have hfz36 := blk_frozen BK298.out) | ((with_reducible refine gate_callee (f := 19) rfl ?_); refine cl_ 19 (some 18) Tryz.func19 (notation_Cell.calls k 1 1 2 1 0 3 4 t299 t300 _ A3.out) ?_; rintro e w37 ⟨rfl, hb⟩; refine ⟨_, rfl, ?_⟩; replace BK298 := Aside0.mk (blk_below (g := gb298) (o := .cells #[.int .i64 t295, .int .i64 t296] 49 (0, 0)) (bk_ BK298) hb); replace HB := bs_ HB hb; (try clear hb); (try clear hb2); (try clear hk); (try clear hi)))); (go_ret); (exact ⟨rv_, bl_ HB⟩)
  · rw [if_neg c4] at H
    (have c4b0 : (t293.toList == ([68] : List UInt8)) = false := beq_eq_false_iff_ne.mpr c4); (have c4b1 : (t293.toList != ([68] : List UInt8)) = true := bne_iff_ne.mpr c4); (obtain rfl := Option.some.inj H); (go_enter Tryz.func6, Tryz.ntmps6); (go_wp2_with (first | ((with_reducible refine gate_callee (f := 17) rfl ?_); refine cl_ 17 (some 9) Tryz.func17 (notation_Symbol.calls k 4 6 4 t293 t294 _ A1.out) ?_; rintro e w38 ⟨rfl, hb⟩; refine ⟨_, rfl, ?_⟩; replace HB := bs_ HB hb; (try clear hb); (try clear hb2); (try clear hk); (try clear hi)) | ((with_reducible refine gate_callee (f := 18) rfl ?_); refine cl_ 18 (some 13) Tryz.func18 (notation_Place.calls k 4 0 (⟨#[38]⟩ : ByteArray) t295 t296 t297 _ A2.out) ?_; rintro e w39 ⟨rfl, hb⟩; refine ⟨_, rfl, ?_⟩; replace HB := bs_ HB hb; (try clear hb); (try clear hb2); (try clear hk); (try clear hi)) | (refine bx_ 3 #[.int .i64 0, .int .i64 0] 49 HB ?_; clear HB; intro gb298 w40 hg hb BK298 HB GW298; have GE298 := GW298; clear hg hb; have hcz41 := blk_cell BK298.out; have hfz41 := blk_frozen BK298.out) | ((with_reducible refine gate_callee (f := 19) rfl ?_); refine cl_ 19 (some 18) Tryz.func19 (notation_Cell.calls k 1 1 2 1 0 3 4 t299 t300 _ A3.out) ?_; rintro e w42 ⟨rfl, hb⟩; refine ⟨_, rfl, ?_⟩; replace BK298 := Aside0.mk (blk_below (g := gb298) (o := .cells #[.int .i64 t295, .int .i64 t296] 49 (0, 0)) (bk_ BK298) hb); replace HB := bs_ HB hb; (try clear hb); (try clear hb2); (try clear hk); (try clear hi)))); (go_ret); (exact ⟨rv_, bl_ HB⟩)

end Go.Proofs.YtocpcofihlcnoaaGreat.PNL
