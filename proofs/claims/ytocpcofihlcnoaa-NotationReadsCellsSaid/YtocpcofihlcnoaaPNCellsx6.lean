-- made by xprint.py (ours) out of the translation
import Derived.Test.YtocpcofihlcnoaaPNCellsx0
import Derived.Test.YtocpcofihlcnoaaPNCellsx3
import Derived.Test.YtocpcofihlcnoaaPNCellsx5
namespace Go.Proofs.Ytocpcofihlcnoaa.PNCells
open Go.RowKit Go.Proofs.YtocpcofihlcnoaaW.PrintWords Go.Proofs.YtocpcofihlcnoaaW.PrintLast Go.Proofs.YtocpcofihlcnoaaW.PrintMore
attribute [local go_sem] max2_int min2_int max_two min_two max_three min_three max_four min_four   -- for this text's walks alone
set_option linter.unusedVariables false
set_option linter.unusedSimpArgs false

/-! ### notation_Cell: function 5 -/
mutual
def notation_Cell.j0 : Nat → Int → Int → Bool → Int → Int → Int → Int → Int → Option (ByteArray × Int)
  | 0, _, _, _, _, _, _, _, _ => none
  | k + 1, x2, x8, x25, x177000, x177001, x177002, x177003, x177004 => if x25 = true then (some ((⟨#[]⟩ : ByteArray), 23)) else (if x2 < 0 then (notation_Cell.j1 k x2 x8 true x177000 x177001 x177002 x177003 x177004) else (if x2 > 15 then (notation_Cell.j1 k x2 x8 true x177000 x177001 x177002 x177003 x177004) else (if x177004 < 0 then (notation_Cell.j1 k x2 x8 true x177000 x177001 x177002 x177003 x177004) else (if x177004 > x2 then (notation_Cell.j1 k x2 x8 true x177000 x177001 x177002 x177003 x177004) else (if x177004 > 0 then (notation_Cell.j1 k x2 x8 (x177001 == 0) x177000 x177001 x177002 x177003 x177004) else (notation_Cell.j1 k x2 x8 false x177000 x177001 x177002 x177003 x177004))))))
def notation_Cell.j1 : Nat → Int → Int → Bool → Int → Int → Int → Int → Int → Option (ByteArray × Int)
  | 0, _, _, _, _, _, _, _, _ => none
  | k + 1, x2, x8, x44, x177000, x177001, x177002, x177003, x177004 => if x44 = true then (some ((⟨#[]⟩ : ByteArray), 24)) else ((notation_cell.f k x8 x177000 x177001 x177002 x177003 x177004 x2).bind fun bt179 => (if bt179.2 = true then (some (bt179.1, 0)) else (some ((⟨#[]⟩ : ByteArray), 31))))
end
def notation_Cell.f (k : Nat) (a0 : Int) (a1_0 : Int) (a1_1 : Int) (a1_2 : Int) (a1_3 : Int) (a1_4 : Int) (a2 : Int) : Option (ByteArray × Int) := (notation_placed.f k a0 a1_0 a1_1).bind fun bt177 => (if bt177.2 = 0 then (if a1_2 < 0 then (notation_Cell.j0 k a2 bt177.1 true a1_0 a1_1 a1_2 a1_3 a1_4) else (if a1_2 > 3 then (notation_Cell.j0 k a2 bt177.1 true a1_0 a1_1 a1_2 a1_3 a1_4) else (if a1_3 < 0 then (notation_Cell.j0 k a2 bt177.1 true a1_0 a1_1 a1_2 a1_3 a1_4) else (notation_Cell.j0 k a2 bt177.1 (decide (a1_3 > 4)) a1_0 a1_1 a1_2 a1_3 a1_4)))) else (some ((⟨#[]⟩ : ByteArray), bt177.2)))
theorem notation_Cell.mono_l : ∀ k, (∀ y0 y1 y2 y3 y4 y5 y6 y7, LeO (notation_Cell.j0 k y0 y1 y2 y3 y4 y5 y6 y7) (notation_Cell.j0 (k + 1) y0 y1 y2 y3 y4 y5 y6 y7)) ∧ (∀ y0 y1 y2 y3 y4 y5 y6 y7, LeO (notation_Cell.j1 k y0 y1 y2 y3 y4 y5 y6 y7) (notation_Cell.j1 (k + 1) y0 y1 y2 y3 y4 y5 y6 y7))
  | 0 => ⟨fun _ _ _ _ _ _ _ _ r h => by simp [notation_Cell.j0] at h, fun _ _ _ _ _ _ _ _ r h => by simp [notation_Cell.j1] at h⟩
  | k + 1 => by
    obtain ⟨ih0, ih1⟩ := notation_Cell.mono_l k
    refine ⟨?_, ?_⟩
    · intro y0 y1 y2 y3 y4 y5 y6 y7
      unfold notation_Cell.j0
      repeat' first
      | (with_reducible exact ih0 _ _ _ _ _ _ _ _)
      | (with_reducible exact ih1 _ _ _ _ _ _ _ _)
      | (with_reducible exact notation_cell.mono _ _ _ _ _ _ _ _)
      | (with_reducible exact notation_placed.mono _ _ _ _)
      | (with_reducible exact LeO.refl _)
      | (with_reducible exact LeO.none _)
      | (with_reducible refine LeO.ite ?_ ?_)
      | (with_reducible refine LeO.bind ?_ (fun _ => ?_))
      | exact ih0 _ _ _ _ _ _ _ _
      | exact ih1 _ _ _ _ _ _ _ _
      | exact notation_cell.mono _ _ _ _ _ _ _ _
      | exact notation_placed.mono _ _ _ _
      | exact LeO.none _
      | refine LeO.ite ?_ ?_
      | refine LeO.bind ?_ (fun _ => ?_)
    · intro y0 y1 y2 y3 y4 y5 y6 y7
      unfold notation_Cell.j1
      repeat' first
      | (with_reducible exact ih0 _ _ _ _ _ _ _ _)
      | (with_reducible exact ih1 _ _ _ _ _ _ _ _)
      | (with_reducible exact notation_cell.mono _ _ _ _ _ _ _ _)
      | (with_reducible exact notation_placed.mono _ _ _ _)
      | (with_reducible exact LeO.refl _)
      | (with_reducible exact LeO.none _)
      | (with_reducible refine LeO.ite ?_ ?_)
      | (with_reducible refine LeO.bind ?_ (fun _ => ?_))
      | exact ih0 _ _ _ _ _ _ _ _
      | exact ih1 _ _ _ _ _ _ _ _
      | exact notation_cell.mono _ _ _ _ _ _ _ _
      | exact notation_placed.mono _ _ _ _
      | exact LeO.none _
      | refine LeO.ite ?_ ?_
      | refine LeO.bind ?_ (fun _ => ?_)
theorem notation_Cell.mono : ∀ a0 a1 a2 a3 a4 a5 a6 k, LeO (notation_Cell.f k a0 a1 a2 a3 a4 a5 a6) (notation_Cell.f (k + 1) a0 a1 a2 a3 a4 a5 a6) := by
  intro a0 a1 a2 a3 a4 a5 a6 k
  obtain ⟨ih0, ih1⟩ := notation_Cell.mono_l k
  unfold notation_Cell.f
  repeat' first
      | (with_reducible exact ih0 _ _ _ _ _ _ _ _)
      | (with_reducible exact ih1 _ _ _ _ _ _ _ _)
      | (with_reducible exact notation_cell.mono _ _ _ _ _ _ _ _)
      | (with_reducible exact notation_placed.mono _ _ _ _)
      | (with_reducible exact LeO.refl _)
      | (with_reducible exact LeO.none _)
      | (with_reducible refine LeO.ite ?_ ?_)
      | (with_reducible refine LeO.bind ?_ (fun _ => ?_))
      | exact ih0 _ _ _ _ _ _ _ _
      | exact ih1 _ _ _ _ _ _ _ _
      | exact notation_cell.mono _ _ _ _ _ _ _ _
      | exact notation_placed.mono _ _ _ _
      | exact LeO.none _
      | refine LeO.ite ?_ ?_
      | refine LeO.bind ?_ (fun _ => ?_)
set_option maxHeartbeats 8000000 in
set_option maxRecDepth 100000 in
theorem notation_Cell.calls (k : Nat) (a0 : Int) (a1_0 : Int) (a1_1 : Int) (a1_2 : Int) (a1_3 : Int) (a1_4 : Int) (a2 : Int) (r1 : ByteArray) (r2 : Int) (w : World) (h : notation_Cell.f k a0 a1_0 a1_1 a1_2 a1_3 a1_4 a2 = some (r1, r2)) :
    Calls Try.prog 5 #[.int .u8 a0, .agg #[.int .i64 a1_0, .int .i64 a1_1, .int .i64 a1_2, .int .i64 a1_3, .int .i64 a1_4], .int .i64 a2] w fun e w' => e = .returned (.tuple #[.string r1, .int .i64 r2]) ∧ Below w.heap.size w w' := by
  have hu24 := Try.underlying24
  have HB := Aside0.mk (Below.refl w.heap.size w)
  have H : ((notation_placed.f k a0 a1_0 a1_1).bind fun bt177 => (if bt177.2 = 0 then (if a1_2 < 0 then (notation_Cell.j0 k a2 bt177.1 true a1_0 a1_1 a1_2 a1_3 a1_4) else (if a1_2 > 3 then (notation_Cell.j0 k a2 bt177.1 true a1_0 a1_1 a1_2 a1_3 a1_4) else (if a1_3 < 0 then (notation_Cell.j0 k a2 bt177.1 true a1_0 a1_1 a1_2 a1_3 a1_4) else (notation_Cell.j0 k a2 bt177.1 (decide (a1_3 > 4)) a1_0 a1_1 a1_2 a1_3 a1_4)))) else (some ((⟨#[]⟩ : ByteArray), bt177.2)))) = some (r1, r2) := h
  clear h
  replace H := Option.bind_eq_some_iff.mp H
  obtain ⟨⟨t177, t178⟩, A40, H⟩ := H
  replace H : (if t178 = 0 then (if a1_2 < 0 then (notation_Cell.j0 k a2 t177 true a1_0 a1_1 a1_2 a1_3 a1_4) else (if a1_2 > 3 then (notation_Cell.j0 k a2 t177 true a1_0 a1_1 a1_2 a1_3 a1_4) else (if a1_3 < 0 then (notation_Cell.j0 k a2 t177 true a1_0 a1_1 a1_2 a1_3 a1_4) else (notation_Cell.j0 k a2 t177 (decide (a1_3 > 4)) a1_0 a1_1 a1_2 a1_3 a1_4)))) else (some ((⟨#[]⟩ : ByteArray), t178))) = some (r1, r2) := H
  have A4 := Aside0.mk A40
  clear A40
  by_cases c5 : t178 = 0
  · rw [if_pos c5] at H
    have c5b0 : (t178 == 0) = true := beq_iff_eq.mpr c5
    have c5b1 : (t178 != 0) = false := bne_eq_false_iff_eq.mpr c5
    clear c5
    have HC6 := Aside0.mk H
    clear H
    go_enter Try.func5, Try.ntmps5
    go_upto_region 4 with (first | ((with_reducible refine gate_dst (N := 4) rfl ?_); refine box_event ?hg (N := 4) ?hd (cs := #[.int .i64 a1_0, .int .i64 a1_1, .int .i64 a1_2, .int .i64 a1_3, .int .i64 a1_4]) (t := 24) ?hr ?_; (case hd => rfl); (case hg => rfl); (case hr => first | (go_simp; done) | (go_simp; rfl)); intro gb176 hg w7 hbox hb; have n0_ := Aside0.mk (below_step (by repeat (first | (with_reducible first | exact HB.out | apply below_alloc | apply pw_below_drewN | apply below_drew1) | exact HB.out)) hb); have n1_ := Aside0.mk (hbox); have n2_ := Aside0.mk ((by rw [hg]; exact (below_size (by repeat (first | (with_reducible first | exact HB.out | apply below_alloc | apply pw_below_drewN | apply below_drew1) | exact HB.out))) : w.heap.size ≤ gb176)); have n3_ := Aside0.mk ((by rw [hg]; exact (below_size (by repeat (first | (with_reducible first | exact HB.out | apply below_alloc | apply pw_below_drewN | apply below_drew1) | exact HB.out))) : w.heap.size ≤ gb176)); clear HB; have HB := n0_; have BK176 := n1_; have GW176 := n2_; have GE176 := n3_; clear n0_ n1_ n2_ n3_; clear hb hbox hg; have hcz8_0 : w7.cell? ⟨gb176, 0, none⟩ = some (.int .i64 a1_0) := (blk_cell BK176.out 0).trans rfl; have hcz8_1 : w7.cell? ⟨gb176, 1, none⟩ = some (.int .i64 a1_1) := (blk_cell BK176.out 1).trans rfl; have hcz8_2 : w7.cell? ⟨gb176, 2, none⟩ = some (.int .i64 a1_2) := (blk_cell BK176.out 2).trans rfl; have hcz8_3 : w7.cell? ⟨gb176, 3, none⟩ = some (.int .i64 a1_3) := (blk_cell BK176.out 3).trans rfl; have hcz8_4 : w7.cell? ⟨gb176, 4, none⟩ = some (.int .i64 a1_4) := (blk_cell BK176.out 4).trans rfl; have hfz8_0 := blk_frozen BK176.out 0; have hfz8_1 := blk_frozen BK176.out 1; have hfz8_2 := blk_frozen BK176.out 2; have hfz8_3 := blk_frozen BK176.out 3; have hfz8_4 := blk_frozen BK176.out 4) | ((with_reducible refine gate_callee (f := 11) rfl ?_); refine goesL_ (some 18) rfl rfl Try.func11 (by kernel_rfl) rfl #[.int .u8 a0, .int .i64 a1_0, .int .i64 a1_1] rfl (by (try simp only [List.map_toArray, List.map_cons, List.map_nil]); first | done | rfl | (simp only [List.length_drop, List.length_take]; rfl)) ?_; (with_reducible refine (notation_placed.calls k a0 a1_0 a1_1 t177 t178 _ A4.out).mono ?_); rintro e w' ⟨rfl, ⟨nd, rfl⟩⟩; refine ⟨_, rfl, ?_⟩))
    (try simp only [Act.put, List.setIfInBounds_toArray, List.set_cons_zero, List.set_cons_succ])
    go_cut [25] (fun v25 wc => ∃ (kq : Nat) (x25_5 : Bool), v25 = .bool x25_5 ∧ Aside0 (notation_Cell.j0 kq a2 t177 x25_5 a1_0 a1_1 a1_2 a1_3 a1_4 = some (r1, r2)) ∧ Aside0 (kq ≤ k) ∧ Aside0 (wc.heap[gb176]? = some (.cells #[.int .i64 a1_0, .int .i64 a1_1, .int .i64 a1_2, .int .i64 a1_3, .int .i64 a1_4] 24 (0, 0))) ∧ Aside0 (Below w.heap.size w wc))
    case first =>
      have H := HC6.out
      clear HC6
      by_cases c9 : a1_2 < 0
      · rw [if_pos c9] at H
        have c9b0 : decide (a1_2 < 0) = true := decide_eq_true c9
        clear c9
        (first | rw [c9b0] | (simp only [i64_w, i32_w]; rw [c9b0]) | skip)
        have H' := Aside0.mk H
        clear H
        have hcz10_0 : w7.cell? ⟨gb176, 0, none⟩ = some (.int .i64 a1_0) := (blk_cell BK176.out 0).trans rfl
        have hcz10_1 : w7.cell? ⟨gb176, 1, none⟩ = some (.int .i64 a1_1) := (blk_cell BK176.out 1).trans rfl
        have hcz10_2 : w7.cell? ⟨gb176, 2, none⟩ = some (.int .i64 a1_2) := (blk_cell BK176.out 2).trans rfl
        have hcz10_3 : w7.cell? ⟨gb176, 3, none⟩ = some (.int .i64 a1_3) := (blk_cell BK176.out 3).trans rfl
        have hcz10_4 : w7.cell? ⟨gb176, 4, none⟩ = some (.int .i64 a1_4) := (blk_cell BK176.out 4).trans rfl
        have hfz10_0 := blk_frozen BK176.out 0
        have hfz10_1 := blk_frozen BK176.out 1
        have hfz10_2 := blk_frozen BK176.out 2
        have hfz10_3 := blk_frozen BK176.out 3
        have hfz10_4 := blk_frozen BK176.out 4
        go_wp2
        go_meet
        case rel => exact ⟨_, (true), (by first | rfl | (simp; done) | (simp [*]; done)), H', ⟨by first | omega | exact Nat.le_refl _⟩, ⟨by (with_reducible repeat (first | refine blk_drewN ?_ _ | refine blk_drew ?_ | refine blk_alloc ?_ _)); exact BK176.out⟩, ⟨by repeat (first | (with_reducible first | exact HB.out | apply below_alloc | apply pw_below_drewN | apply below_drew1 | refine below_set ?_ GE176.out) | exact HB.out)⟩⟩
      · rw [if_neg c9] at H
        have c9b0 : decide (a1_2 < 0) = false := decide_eq_false c9
        clear c9
        (first | rw [c9b0] | (simp only [i64_w, i32_w]; rw [c9b0]) | skip)
        by_cases c11 : a1_2 > 3
        · rw [if_pos c11] at H
          have c11b0 : decide (3 < a1_2) = true := decide_eq_true c11
          clear c11
          have H' := Aside0.mk H
          clear H
          have hcz12_0 : w7.cell? ⟨gb176, 0, none⟩ = some (.int .i64 a1_0) := (blk_cell BK176.out 0).trans rfl
          have hcz12_1 : w7.cell? ⟨gb176, 1, none⟩ = some (.int .i64 a1_1) := (blk_cell BK176.out 1).trans rfl
          have hcz12_2 : w7.cell? ⟨gb176, 2, none⟩ = some (.int .i64 a1_2) := (blk_cell BK176.out 2).trans rfl
          have hcz12_3 : w7.cell? ⟨gb176, 3, none⟩ = some (.int .i64 a1_3) := (blk_cell BK176.out 3).trans rfl
          have hcz12_4 : w7.cell? ⟨gb176, 4, none⟩ = some (.int .i64 a1_4) := (blk_cell BK176.out 4).trans rfl
          have hfz12_0 := blk_frozen BK176.out 0
          have hfz12_1 := blk_frozen BK176.out 1
          have hfz12_2 := blk_frozen BK176.out 2
          have hfz12_3 := blk_frozen BK176.out 3
          have hfz12_4 := blk_frozen BK176.out 4
          go_wp2
          go_meet
          case rel => exact ⟨_, (true), (by first | rfl | (simp; done) | (simp [*]; done)), H', ⟨by first | omega | exact Nat.le_refl _⟩, ⟨by (with_reducible repeat (first | refine blk_drewN ?_ _ | refine blk_drew ?_ | refine blk_alloc ?_ _)); exact BK176.out⟩, ⟨by repeat (first | (with_reducible first | exact HB.out | apply below_alloc | apply pw_below_drewN | apply below_drew1 | refine below_set ?_ GE176.out) | exact HB.out)⟩⟩
        · rw [if_neg c11] at H
          have c11b0 : decide (3 < a1_2) = false := decide_eq_false c11
          clear c11
          by_cases c13 : a1_3 < 0
          · rw [if_pos c13] at H
            have c13b0 : decide (a1_3 < 0) = true := decide_eq_true c13
            clear c13
            have H' := Aside0.mk H
            clear H
            have hcz14_0 : w7.cell? ⟨gb176, 0, none⟩ = some (.int .i64 a1_0) := (blk_cell BK176.out 0).trans rfl
            have hcz14_1 : w7.cell? ⟨gb176, 1, none⟩ = some (.int .i64 a1_1) := (blk_cell BK176.out 1).trans rfl
            have hcz14_2 : w7.cell? ⟨gb176, 2, none⟩ = some (.int .i64 a1_2) := (blk_cell BK176.out 2).trans rfl
            have hcz14_3 : w7.cell? ⟨gb176, 3, none⟩ = some (.int .i64 a1_3) := (blk_cell BK176.out 3).trans rfl
            have hcz14_4 : w7.cell? ⟨gb176, 4, none⟩ = some (.int .i64 a1_4) := (blk_cell BK176.out 4).trans rfl
            have hfz14_0 := blk_frozen BK176.out 0
            have hfz14_1 := blk_frozen BK176.out 1
            have hfz14_2 := blk_frozen BK176.out 2
            have hfz14_3 := blk_frozen BK176.out 3
            have hfz14_4 := blk_frozen BK176.out 4
            go_wp2
            go_meet
            case rel => exact ⟨_, (true), (by first | rfl | (simp; done) | (simp [*]; done)), H', ⟨by first | omega | exact Nat.le_refl _⟩, ⟨by (with_reducible repeat (first | refine blk_drewN ?_ _ | refine blk_drew ?_ | refine blk_alloc ?_ _)); exact BK176.out⟩, ⟨by repeat (first | (with_reducible first | exact HB.out | apply below_alloc | apply pw_below_drewN | apply below_drew1 | refine below_set ?_ GE176.out) | exact HB.out)⟩⟩
          · rw [if_neg c13] at H
            have c13b0 : decide (a1_3 < 0) = false := decide_eq_false c13
            clear c13
            have H' := Aside0.mk H
            clear H
            have hcz15_0 : w7.cell? ⟨gb176, 0, none⟩ = some (.int .i64 a1_0) := (blk_cell BK176.out 0).trans rfl
            have hcz15_1 : w7.cell? ⟨gb176, 1, none⟩ = some (.int .i64 a1_1) := (blk_cell BK176.out 1).trans rfl
            have hcz15_2 : w7.cell? ⟨gb176, 2, none⟩ = some (.int .i64 a1_2) := (blk_cell BK176.out 2).trans rfl
            have hcz15_3 : w7.cell? ⟨gb176, 3, none⟩ = some (.int .i64 a1_3) := (blk_cell BK176.out 3).trans rfl
            have hcz15_4 : w7.cell? ⟨gb176, 4, none⟩ = some (.int .i64 a1_4) := (blk_cell BK176.out 4).trans rfl
            have hfz15_0 := blk_frozen BK176.out 0
            have hfz15_1 := blk_frozen BK176.out 1
            have hfz15_2 := blk_frozen BK176.out 2
            have hfz15_3 := blk_frozen BK176.out 3
            have hfz15_4 := blk_frozen BK176.out 4
            go_wp2
            go_meet
            case rel => exact ⟨_, (decide (a1_3 > 4)), (by first | rfl | (simp; done) | (simp [*]; done)), H', ⟨by first | omega | exact Nat.le_refl _⟩, ⟨by (with_reducible repeat (first | refine blk_drewN ?_ _ | refine blk_drew ?_ | refine blk_alloc ?_ _)); exact BK176.out⟩, ⟨by repeat (first | (with_reducible first | exact HB.out | apply below_alloc | apply pw_below_drewN | apply below_drew1 | refine below_set ?_ GE176.out) | exact HB.out)⟩⟩
    case rest =>
      clear HC6
      try clear c1
      try clear p2
      try clear c5
      try clear c5b0
      try clear c5b1
      try clear c9
      try clear c9b0
      try clear c11
      try clear c11b0
      try clear c13
      try clear c13b0
      try clear hcz10_0
      try clear hcz10_1
      try clear hcz10_2
      try clear hcz10_3
      try clear hcz10_4
      try clear hcz12_0
      try clear hcz12_1
      try clear hcz12_2
      try clear hcz12_3
      try clear hcz12_4
      try clear hcz14_0
      try clear hcz14_1
      try clear hcz14_2
      try clear hcz14_3
      try clear hcz14_4
      try clear hcz15_0
      try clear hcz15_1
      try clear hcz15_2
      try clear hcz15_3
      try clear hcz15_4
      try clear hcz8_0
      try clear hcz8_1
      try clear hcz8_2
      try clear hcz8_3
      try clear hcz8_4
      try clear hfz10_0
      try clear hfz10_1
      try clear hfz10_2
      try clear hfz10_3
      try clear hfz10_4
      try clear hfz12_0
      try clear hfz12_1
      try clear hfz12_2
      try clear hfz12_3
      try clear hfz12_4
      try clear hfz14_0
      try clear hfz14_1
      try clear hfz14_2
      try clear hfz14_3
      try clear hfz14_4
      try clear hfz15_0
      try clear hfz15_1
      try clear hfz15_2
      try clear hfz15_3
      try clear hfz15_4
      try clear hfz8_0
      try clear hfz8_1
      try clear hfz8_2
      try clear hfz8_3
      try clear hfz8_4
      obtain ⟨kq, x25_5, rfl, HA, HJ5, BK176, HB⟩ := hcut
      cases kq with
      | zero => exact absurd HA.out (by simp [notation_Cell.j0])
      | succ kj5 =>
        have H := HA.out
        clear HA
        simp only [notation_Cell.j0] at H
        by_cases c16 : x25_5 = true
        · subst c16
          have H1 : (some ((⟨#[]⟩ : ByteArray), 23)) = some (r1, r2) := by rw [if_pos rfl] at H; exact H
          clear H
          have H := H1
          clear H1
          simp only [Option.some.injEq, Prod.mk.injEq] at H
          obtain ⟨rfl, rfl⟩ := H
          go_wp2
          go_ret2
          exact ⟨by first | rfl | (simp [errW_none, errW_some] <;> rfl) | (simp [*, errW_none, errW_some] <;> rfl), by repeat (first | (with_reducible first | exact HB.out | apply below_alloc | apply pw_below_drewN | apply below_drew1 | refine below_set ?_ GE176.out) | exact HB.out)⟩
        · replace c16 := Bool.eq_false_iff.mpr c16
          subst c16
          have H1 : (if a2 < 0 then (notation_Cell.j1 kj5 a2 t177 true a1_0 a1_1 a1_2 a1_3 a1_4) else (if a2 > 15 then (notation_Cell.j1 kj5 a2 t177 true a1_0 a1_1 a1_2 a1_3 a1_4) else (if a1_4 < 0 then (notation_Cell.j1 kj5 a2 t177 true a1_0 a1_1 a1_2 a1_3 a1_4) else (if a1_4 > a2 then (notation_Cell.j1 kj5 a2 t177 true a1_0 a1_1 a1_2 a1_3 a1_4) else (if a1_4 > 0 then (notation_Cell.j1 kj5 a2 t177 (a1_1 == 0) a1_0 a1_1 a1_2 a1_3 a1_4) else (notation_Cell.j1 kj5 a2 t177 false a1_0 a1_1 a1_2 a1_3 a1_4)))))) = some (r1, r2) := by rw [if_neg (show ¬ (false = true) by decide)] at H; exact H
          clear H
          have H := H1
          clear H1
          have HC17 := Aside0.mk H
          clear H
          go_upto_region 6 with (fail)
          go_cut [44] (fun v44 wc => ∃ (kq : Nat) (x44_16 : Bool), v44 = .bool x44_16 ∧ Aside0 (notation_Cell.j1 kq a2 t177 x44_16 a1_0 a1_1 a1_2 a1_3 a1_4 = some (r1, r2)) ∧ Aside0 (kq ≤ kj5) ∧ Aside0 (wc.heap[gb176]? = some (.cells #[.int .i64 a1_0, .int .i64 a1_1, .int .i64 a1_2, .int .i64 a1_3, .int .i64 a1_4] 24 (0, 0))) ∧ Aside0 (Below w.heap.size w wc))
          case first =>
            have H := HC17.out
            clear HC17
            by_cases c18 : a2 < 0
            · rw [if_pos c18] at H
              have c18b0 : decide (a2 < 0) = true := decide_eq_true c18
              clear c18
              (first | rw [c18b0] | (simp only [i64_w, i32_w]; rw [c18b0]) | skip)
              have H' := Aside0.mk H
              clear H
              go_wp2
              go_meet
              case rel => exact ⟨_, (true), (by first | rfl | (simp; done) | (simp [*]; done)), H', ⟨by have := HJ5.out; first | omega | exact Nat.le_refl _⟩, ⟨by (with_reducible repeat (first | refine blk_drewN ?_ _ | refine blk_drew ?_ | refine blk_alloc ?_ _)); exact BK176.out⟩, ⟨by repeat (first | (with_reducible first | exact HB.out | apply below_alloc | apply pw_below_drewN | apply below_drew1 | refine below_set ?_ GE176.out) | exact HB.out)⟩⟩
            · rw [if_neg c18] at H
              have c18b0 : decide (a2 < 0) = false := decide_eq_false c18
              clear c18
              (first | rw [c18b0] | (simp only [i64_w, i32_w]; rw [c18b0]) | skip)
              by_cases c19 : a2 > 15
              · rw [if_pos c19] at H
                have c19b0 : decide (15 < a2) = true := decide_eq_true c19
                clear c19
                have H' := Aside0.mk H
                clear H
                go_wp2
                go_meet
                case rel => exact ⟨_, (true), (by first | rfl | (simp; done) | (simp [*]; done)), H', ⟨by have := HJ5.out; first | omega | exact Nat.le_refl _⟩, ⟨by (with_reducible repeat (first | refine blk_drewN ?_ _ | refine blk_drew ?_ | refine blk_alloc ?_ _)); exact BK176.out⟩, ⟨by repeat (first | (with_reducible first | exact HB.out | apply below_alloc | apply pw_below_drewN | apply below_drew1 | refine below_set ?_ GE176.out) | exact HB.out)⟩⟩
              · rw [if_neg c19] at H
                have c19b0 : decide (15 < a2) = false := decide_eq_false c19
                clear c19
                by_cases c20 : a1_4 < 0
                · rw [if_pos c20] at H
                  have c20b0 : decide (a1_4 < 0) = true := decide_eq_true c20
                  clear c20
                  have H' := Aside0.mk H
                  clear H
                  have hcz21_0 : wc.cell? ⟨gb176, 0, none⟩ = some (.int .i64 a1_0) := (blk_cell BK176.out 0).trans rfl
                  have hcz21_1 : wc.cell? ⟨gb176, 1, none⟩ = some (.int .i64 a1_1) := (blk_cell BK176.out 1).trans rfl
                  have hcz21_2 : wc.cell? ⟨gb176, 2, none⟩ = some (.int .i64 a1_2) := (blk_cell BK176.out 2).trans rfl
                  have hcz21_3 : wc.cell? ⟨gb176, 3, none⟩ = some (.int .i64 a1_3) := (blk_cell BK176.out 3).trans rfl
                  have hcz21_4 : wc.cell? ⟨gb176, 4, none⟩ = some (.int .i64 a1_4) := (blk_cell BK176.out 4).trans rfl
                  have hfz21_0 := blk_frozen BK176.out 0
                  have hfz21_1 := blk_frozen BK176.out 1
                  have hfz21_2 := blk_frozen BK176.out 2
                  have hfz21_3 := blk_frozen BK176.out 3
                  have hfz21_4 := blk_frozen BK176.out 4
                  go_wp2
                  go_meet
                  case rel => exact ⟨_, (true), (by first | rfl | (simp; done) | (simp [*]; done)), H', ⟨by have := HJ5.out; first | omega | exact Nat.le_refl _⟩, ⟨by (with_reducible repeat (first | refine blk_drewN ?_ _ | refine blk_drew ?_ | refine blk_alloc ?_ _)); exact BK176.out⟩, ⟨by repeat (first | (with_reducible first | exact HB.out | apply below_alloc | apply pw_below_drewN | apply below_drew1 | refine below_set ?_ GE176.out) | exact HB.out)⟩⟩
                · rw [if_neg c20] at H
                  have c20b0 : decide (a1_4 < 0) = false := decide_eq_false c20
                  clear c20
                  by_cases c22 : a1_4 > a2
                  · rw [if_pos c22] at H
                    have c22b0 : decide (a2 < a1_4) = true := decide_eq_true c22
                    clear c22
                    have H' := Aside0.mk H
                    clear H
                    have hcz23_0 : wc.cell? ⟨gb176, 0, none⟩ = some (.int .i64 a1_0) := (blk_cell BK176.out 0).trans rfl
                    have hcz23_1 : wc.cell? ⟨gb176, 1, none⟩ = some (.int .i64 a1_1) := (blk_cell BK176.out 1).trans rfl
                    have hcz23_2 : wc.cell? ⟨gb176, 2, none⟩ = some (.int .i64 a1_2) := (blk_cell BK176.out 2).trans rfl
                    have hcz23_3 : wc.cell? ⟨gb176, 3, none⟩ = some (.int .i64 a1_3) := (blk_cell BK176.out 3).trans rfl
                    have hcz23_4 : wc.cell? ⟨gb176, 4, none⟩ = some (.int .i64 a1_4) := (blk_cell BK176.out 4).trans rfl
                    have hfz23_0 := blk_frozen BK176.out 0
                    have hfz23_1 := blk_frozen BK176.out 1
                    have hfz23_2 := blk_frozen BK176.out 2
                    have hfz23_3 := blk_frozen BK176.out 3
                    have hfz23_4 := blk_frozen BK176.out 4
                    go_wp2
                    go_meet
                    case rel => exact ⟨_, (true), (by first | rfl | (simp; done) | (simp [*]; done)), H', ⟨by have := HJ5.out; first | omega | exact Nat.le_refl _⟩, ⟨by (with_reducible repeat (first | refine blk_drewN ?_ _ | refine blk_drew ?_ | refine blk_alloc ?_ _)); exact BK176.out⟩, ⟨by repeat (first | (with_reducible first | exact HB.out | apply below_alloc | apply pw_below_drewN | apply below_drew1 | refine below_set ?_ GE176.out) | exact HB.out)⟩⟩
                  · rw [if_neg c22] at H
                    have c22b0 : decide (a2 < a1_4) = false := decide_eq_false c22
                    clear c22
                    by_cases c24 : a1_4 > 0
                    · rw [if_pos c24] at H
                      have c24b0 : decide (0 < a1_4) = true := decide_eq_true c24
                      clear c24
                      have H' := Aside0.mk H
                      clear H
                      have hcz25_0 : wc.cell? ⟨gb176, 0, none⟩ = some (.int .i64 a1_0) := (blk_cell BK176.out 0).trans rfl
                      have hcz25_1 : wc.cell? ⟨gb176, 1, none⟩ = some (.int .i64 a1_1) := (blk_cell BK176.out 1).trans rfl
                      have hcz25_2 : wc.cell? ⟨gb176, 2, none⟩ = some (.int .i64 a1_2) := (blk_cell BK176.out 2).trans rfl
                      have hcz25_3 : wc.cell? ⟨gb176, 3, none⟩ = some (.int .i64 a1_3) := (blk_cell BK176.out 3).trans rfl
                      have hcz25_4 : wc.cell? ⟨gb176, 4, none⟩ = some (.int .i64 a1_4) := (blk_cell BK176.out 4).trans rfl
                      have hfz25_0 := blk_frozen BK176.out 0
                      have hfz25_1 := blk_frozen BK176.out 1
                      have hfz25_2 := blk_frozen BK176.out 2
                      have hfz25_3 := blk_frozen BK176.out 3
                      have hfz25_4 := blk_frozen BK176.out 4
                      go_wp2
                      go_meet
                      case rel => exact ⟨_, ((a1_1 == 0)), (by first | rfl | (simp; done) | (simp [*]; done)), H', ⟨by have := HJ5.out; first | omega | exact Nat.le_refl _⟩, ⟨by (with_reducible repeat (first | refine blk_drewN ?_ _ | refine blk_drew ?_ | refine blk_alloc ?_ _)); exact BK176.out⟩, ⟨by repeat (first | (with_reducible first | exact HB.out | apply below_alloc | apply pw_below_drewN | apply below_drew1 | refine below_set ?_ GE176.out) | exact HB.out)⟩⟩
                    · rw [if_neg c24] at H
                      have c24b0 : decide (0 < a1_4) = false := decide_eq_false c24
                      clear c24
                      have H' := Aside0.mk H
                      clear H
                      have hcz26_0 : wc.cell? ⟨gb176, 0, none⟩ = some (.int .i64 a1_0) := (blk_cell BK176.out 0).trans rfl
                      have hcz26_1 : wc.cell? ⟨gb176, 1, none⟩ = some (.int .i64 a1_1) := (blk_cell BK176.out 1).trans rfl
                      have hcz26_2 : wc.cell? ⟨gb176, 2, none⟩ = some (.int .i64 a1_2) := (blk_cell BK176.out 2).trans rfl
                      have hcz26_3 : wc.cell? ⟨gb176, 3, none⟩ = some (.int .i64 a1_3) := (blk_cell BK176.out 3).trans rfl
                      have hcz26_4 : wc.cell? ⟨gb176, 4, none⟩ = some (.int .i64 a1_4) := (blk_cell BK176.out 4).trans rfl
                      have hfz26_0 := blk_frozen BK176.out 0
                      have hfz26_1 := blk_frozen BK176.out 1
                      have hfz26_2 := blk_frozen BK176.out 2
                      have hfz26_3 := blk_frozen BK176.out 3
                      have hfz26_4 := blk_frozen BK176.out 4
                      go_wp2
                      go_meet
                      case rel => exact ⟨_, (false), (by first | rfl | (simp; done) | (simp [*]; done)), H', ⟨by have := HJ5.out; first | omega | exact Nat.le_refl _⟩, ⟨by (with_reducible repeat (first | refine blk_drewN ?_ _ | refine blk_drew ?_ | refine blk_alloc ?_ _)); exact BK176.out⟩, ⟨by repeat (first | (with_reducible first | exact HB.out | apply below_alloc | apply pw_below_drewN | apply below_drew1 | refine below_set ?_ GE176.out) | exact HB.out)⟩⟩
          case rest =>
            clear HC17
            try clear c1
            try clear c2
            try clear p2
            try clear c5
            try clear c5b0
            try clear c5b1
            try clear c9
            try clear c9b0
            try clear c11
            try clear c11b0
            try clear c13
            try clear c13b0
            try clear c16
            try clear c18
            try clear c18b0
            try clear c19
            try clear c19b0
            try clear c20
            try clear c20b0
            try clear c22
            try clear c22b0
            try clear c24
            try clear c24b0
            try clear hcz10_0
            try clear hcz10_1
            try clear hcz10_2
            try clear hcz10_3
            try clear hcz10_4
            try clear hcz12_0
            try clear hcz12_1
            try clear hcz12_2
            try clear hcz12_3
            try clear hcz12_4
            try clear hcz14_0
            try clear hcz14_1
            try clear hcz14_2
            try clear hcz14_3
            try clear hcz14_4
            try clear hcz15_0
            try clear hcz15_1
            try clear hcz15_2
            try clear hcz15_3
            try clear hcz15_4
            try clear hcz21_0
            try clear hcz21_1
            try clear hcz21_2
            try clear hcz21_3
            try clear hcz21_4
            try clear hcz23_0
            try clear hcz23_1
            try clear hcz23_2
            try clear hcz23_3
            try clear hcz23_4
            try clear hcz25_0
            try clear hcz25_1
            try clear hcz25_2
            try clear hcz25_3
            try clear hcz25_4
            try clear hcz26_0
            try clear hcz26_1
            try clear hcz26_2
            try clear hcz26_3
            try clear hcz26_4
            try clear hcz8_0
            try clear hcz8_1
            try clear hcz8_2
            try clear hcz8_3
            try clear hcz8_4
            try clear hfz10_0
            try clear hfz10_1
            try clear hfz10_2
            try clear hfz10_3
            try clear hfz10_4
            try clear hfz12_0
            try clear hfz12_1
            try clear hfz12_2
            try clear hfz12_3
            try clear hfz12_4
            try clear hfz14_0
            try clear hfz14_1
            try clear hfz14_2
            try clear hfz14_3
            try clear hfz14_4
            try clear hfz15_0
            try clear hfz15_1
            try clear hfz15_2
            try clear hfz15_3
            try clear hfz15_4
            try clear hfz21_0
            try clear hfz21_1
            try clear hfz21_2
            try clear hfz21_3
            try clear hfz21_4
            try clear hfz23_0
            try clear hfz23_1
            try clear hfz23_2
            try clear hfz23_3
            try clear hfz23_4
            try clear hfz25_0
            try clear hfz25_1
            try clear hfz25_2
            try clear hfz25_3
            try clear hfz25_4
            try clear hfz26_0
            try clear hfz26_1
            try clear hfz26_2
            try clear hfz26_3
            try clear hfz26_4
            try clear hfz8_0
            try clear hfz8_1
            try clear hfz8_2
            try clear hfz8_3
            try clear hfz8_4
            try clear p2
            obtain ⟨kq, x44_16, rfl, HA, HJ16, BK176, HB⟩ := hcut
            cases kq with
            | zero => exact absurd HA.out (by simp [notation_Cell.j1])
            | succ kj16 =>
              have H := HA.out
              clear HA
              simp only [notation_Cell.j1] at H
              by_cases c27 : x44_16 = true
              · subst c27
                have H1 : (some ((⟨#[]⟩ : ByteArray), 24)) = some (r1, r2) := by rw [if_pos rfl] at H; exact H
                clear H
                have H := H1
                clear H1
                simp only [Option.some.injEq, Prod.mk.injEq] at H
                obtain ⟨rfl, rfl⟩ := H
                go_wp2
                go_ret2
                exact ⟨by first | rfl | (simp [errW_none, errW_some] <;> rfl) | (simp [*, errW_none, errW_some] <;> rfl), by repeat (first | (with_reducible first | exact HB.out | apply below_alloc | apply pw_below_drewN | apply below_drew1 | refine below_set ?_ GE176.out) | exact HB.out)⟩
              · replace c27 := Bool.eq_false_iff.mpr c27
                subst c27
                have H1 : ((notation_cell.f kj16 t177 a1_0 a1_1 a1_2 a1_3 a1_4 a2).bind fun bt179 => (if bt179.2 = true then (some (bt179.1, 0)) else (some ((⟨#[]⟩ : ByteArray), 31)))) = some (r1, r2) := by rw [if_neg (show ¬ (false = true) by decide)] at H; exact H
                clear H
                have H := H1
                clear H1
                replace H := Option.bind_eq_some_iff.mp H
                obtain ⟨⟨t179, t180⟩, A280, H⟩ := H
                replace H : (if t180 = true then (some (t179, 0)) else (some ((⟨#[]⟩ : ByteArray), 31))) = some (r1, r2) := H
                have A28 := Aside0.mk A280
                clear A280
                by_cases c29 : t180 = true
                · subst c29
                  have H1 : (some (t179, 0)) = some (r1, r2) := by rw [if_pos rfl] at H; exact H
                  clear H
                  have H := H1
                  clear H1
                  simp only [Option.some.injEq, Prod.mk.injEq] at H
                  obtain ⟨rfl, rfl⟩ := H
                  have hcz30_0 : wc.cell? ⟨gb176, 0, none⟩ = some (.int .i64 a1_0) := (blk_cell BK176.out 0).trans rfl
                  have hcz30_1 : wc.cell? ⟨gb176, 1, none⟩ = some (.int .i64 a1_1) := (blk_cell BK176.out 1).trans rfl
                  have hcz30_2 : wc.cell? ⟨gb176, 2, none⟩ = some (.int .i64 a1_2) := (blk_cell BK176.out 2).trans rfl
                  have hcz30_3 : wc.cell? ⟨gb176, 3, none⟩ = some (.int .i64 a1_3) := (blk_cell BK176.out 3).trans rfl
                  have hcz30_4 : wc.cell? ⟨gb176, 4, none⟩ = some (.int .i64 a1_4) := (blk_cell BK176.out 4).trans rfl
                  have hfz30_0 := blk_frozen BK176.out 0
                  have hfz30_1 := blk_frozen BK176.out 1
                  have hfz30_2 := blk_frozen BK176.out 2
                  have hfz30_3 := blk_frozen BK176.out 3
                  have hfz30_4 := blk_frozen BK176.out 4
                  go_wp2_with (first | ((with_reducible refine gate_callee (f := 12) rfl ?_); refine goesL_ (some 76) rfl rfl Try.func12 (by kernel_rfl) rfl #[sysW t177, .agg #[.int .i64 a1_0, .int .i64 a1_1, .int .i64 a1_2, .int .i64 a1_3, .int .i64 a1_4], .int .i64 a2] rfl (by (try simp only [List.map_toArray, List.map_cons, List.map_nil]); first | done | rfl | (simp only [List.length_drop, List.length_take]; rfl)) ?_; (with_reducible refine (notation_cell.calls kj16 t177 a1_0 a1_1 a1_2 a1_3 a1_4 a2 t179 true _ A28.out).mono ?_); rintro e w31 ⟨rfl, hb⟩; refine ⟨_, rfl, ?_⟩; have n0_ := Aside0.mk (blk_below (g := gb176) (o := .cells #[.int .i64 a1_0, .int .i64 a1_1, .int .i64 a1_2, .int .i64 a1_3, .int .i64 a1_4] 24 (0, 0)) (by (with_reducible repeat (first | refine blk_drewN ?_ _ | refine blk_drew ?_ | refine blk_alloc ?_ _)); exact BK176.out) hb); have n1_ := Aside0.mk (below_step (by repeat (first | (with_reducible first | exact HB.out | apply below_alloc | apply pw_below_drewN | apply below_drew1 | refine below_set ?_ GE176.out) | exact HB.out)) hb); clear BK176; clear HB; have BK176 := n0_; have HB := n1_; clear n0_ n1_; (try clear hb); (try clear hb2); (try clear hk); (try clear hi)))
                  go_ret2
                  exact ⟨by first | rfl | (simp [errW_none, errW_some] <;> rfl) | (simp [*, errW_none, errW_some] <;> rfl), by repeat (first | (with_reducible first | exact HB.out | apply below_alloc | apply pw_below_drewN | apply below_drew1 | refine below_set ?_ GE176.out) | exact HB.out)⟩
                · replace c29 := Bool.eq_false_iff.mpr c29
                  subst c29
                  have H1 : (some ((⟨#[]⟩ : ByteArray), 31)) = some (r1, r2) := by rw [if_neg (show ¬ (false = true) by decide)] at H; exact H
                  clear H
                  have H := H1
                  clear H1
                  simp only [Option.some.injEq, Prod.mk.injEq] at H
                  obtain ⟨rfl, rfl⟩ := H
                  have hcz32_0 : wc.cell? ⟨gb176, 0, none⟩ = some (.int .i64 a1_0) := (blk_cell BK176.out 0).trans rfl
                  have hcz32_1 : wc.cell? ⟨gb176, 1, none⟩ = some (.int .i64 a1_1) := (blk_cell BK176.out 1).trans rfl
                  have hcz32_2 : wc.cell? ⟨gb176, 2, none⟩ = some (.int .i64 a1_2) := (blk_cell BK176.out 2).trans rfl
                  have hcz32_3 : wc.cell? ⟨gb176, 3, none⟩ = some (.int .i64 a1_3) := (blk_cell BK176.out 3).trans rfl
                  have hcz32_4 : wc.cell? ⟨gb176, 4, none⟩ = some (.int .i64 a1_4) := (blk_cell BK176.out 4).trans rfl
                  have hfz32_0 := blk_frozen BK176.out 0
                  have hfz32_1 := blk_frozen BK176.out 1
                  have hfz32_2 := blk_frozen BK176.out 2
                  have hfz32_3 := blk_frozen BK176.out 3
                  have hfz32_4 := blk_frozen BK176.out 4
                  go_wp2_with (first | ((with_reducible refine gate_callee (f := 12) rfl ?_); refine goesL_ (some 76) rfl rfl Try.func12 (by kernel_rfl) rfl #[sysW t177, .agg #[.int .i64 a1_0, .int .i64 a1_1, .int .i64 a1_2, .int .i64 a1_3, .int .i64 a1_4], .int .i64 a2] rfl (by (try simp only [List.map_toArray, List.map_cons, List.map_nil]); first | done | rfl | (simp only [List.length_drop, List.length_take]; rfl)) ?_; (with_reducible refine (notation_cell.calls kj16 t177 a1_0 a1_1 a1_2 a1_3 a1_4 a2 t179 false _ A28.out).mono ?_); rintro e w33 ⟨rfl, hb⟩; refine ⟨_, rfl, ?_⟩; have n0_ := Aside0.mk (blk_below (g := gb176) (o := .cells #[.int .i64 a1_0, .int .i64 a1_1, .int .i64 a1_2, .int .i64 a1_3, .int .i64 a1_4] 24 (0, 0)) (by (with_reducible repeat (first | refine blk_drewN ?_ _ | refine blk_drew ?_ | refine blk_alloc ?_ _)); exact BK176.out) hb); have n1_ := Aside0.mk (below_step (by repeat (first | (with_reducible first | exact HB.out | apply below_alloc | apply pw_below_drewN | apply below_drew1 | refine below_set ?_ GE176.out) | exact HB.out)) hb); clear BK176; clear HB; have BK176 := n0_; have HB := n1_; clear n0_ n1_; (try clear hb); (try clear hb2); (try clear hk); (try clear hi)))
                  go_ret2
                  exact ⟨by first | rfl | (simp [errW_none, errW_some] <;> rfl) | (simp [*, errW_none, errW_some] <;> rfl), by repeat (first | (with_reducible first | exact HB.out | apply below_alloc | apply pw_below_drewN | apply below_drew1 | refine below_set ?_ GE176.out) | exact HB.out)⟩
  · rw [if_neg c5] at H
    have c5b0 : (t178 == 0) = false := beq_eq_false_iff_ne.mpr c5
    have c5b1 : (t178 != 0) = true := bne_iff_ne.mpr c5
    simp only [Option.some.injEq, Prod.mk.injEq] at H
    obtain ⟨rfl, rfl⟩ := H
    go_enter Try.func5, Try.ntmps5
    go_wp2_with (first | ((with_reducible refine gate_dst (N := 4) rfl ?_); refine box_event ?hg (N := 4) ?hd (cs := #[.int .i64 a1_0, .int .i64 a1_1, .int .i64 a1_2, .int .i64 a1_3, .int .i64 a1_4]) (t := 24) ?hr ?_; (case hd => rfl); (case hg => rfl); (case hr => first | (go_simp; done) | (go_simp; rfl)); intro gb176 hg w34 hbox hb; have n0_ := Aside0.mk (below_step (by repeat (first | (with_reducible first | exact HB.out | apply below_alloc | apply pw_below_drewN | apply below_drew1) | exact HB.out)) hb); have n1_ := Aside0.mk (hbox); have n2_ := Aside0.mk ((by rw [hg]; exact (below_size (by repeat (first | (with_reducible first | exact HB.out | apply below_alloc | apply pw_below_drewN | apply below_drew1) | exact HB.out))) : w.heap.size ≤ gb176)); have n3_ := Aside0.mk ((by rw [hg]; exact (below_size (by repeat (first | (with_reducible first | exact HB.out | apply below_alloc | apply pw_below_drewN | apply below_drew1) | exact HB.out))) : w.heap.size ≤ gb176)); clear HB; have HB := n0_; have BK176 := n1_; have GW176 := n2_; have GE176 := n3_; clear n0_ n1_ n2_ n3_; clear hb hbox hg; have hcz35_0 : w34.cell? ⟨gb176, 0, none⟩ = some (.int .i64 a1_0) := (blk_cell BK176.out 0).trans rfl; have hcz35_1 : w34.cell? ⟨gb176, 1, none⟩ = some (.int .i64 a1_1) := (blk_cell BK176.out 1).trans rfl; have hcz35_2 : w34.cell? ⟨gb176, 2, none⟩ = some (.int .i64 a1_2) := (blk_cell BK176.out 2).trans rfl; have hcz35_3 : w34.cell? ⟨gb176, 3, none⟩ = some (.int .i64 a1_3) := (blk_cell BK176.out 3).trans rfl; have hcz35_4 : w34.cell? ⟨gb176, 4, none⟩ = some (.int .i64 a1_4) := (blk_cell BK176.out 4).trans rfl; have hfz35_0 := blk_frozen BK176.out 0; have hfz35_1 := blk_frozen BK176.out 1; have hfz35_2 := blk_frozen BK176.out 2; have hfz35_3 := blk_frozen BK176.out 3; have hfz35_4 := blk_frozen BK176.out 4) | ((with_reducible refine gate_callee (f := 11) rfl ?_); refine goesL_ (some 18) rfl rfl Try.func11 (by kernel_rfl) rfl #[.int .u8 a0, .int .i64 a1_0, .int .i64 a1_1] rfl (by (try simp only [List.map_toArray, List.map_cons, List.map_nil]); first | done | rfl | (simp only [List.length_drop, List.length_take]; rfl)) ?_; (with_reducible refine (notation_placed.calls k a0 a1_0 a1_1 t177 t178 _ A4.out).mono ?_); rintro e w' ⟨rfl, ⟨nd, rfl⟩⟩; refine ⟨_, rfl, ?_⟩))
    go_ret2
    exact ⟨by first | rfl | (simp [errW_none, errW_some] <;> rfl) | (simp [*, errW_none, errW_some] <;> rfl), by repeat (first | (with_reducible first | exact HB.out | apply below_alloc | apply pw_below_drewN | apply below_drew1 | refine below_set ?_ GE176.out) | exact HB.out)⟩

/-! ### theorboref03_Known: function 27 -/
def theorboref03_Known.f (a0 : Int) : Option (Bool) := if a0 ≥ 1 then (some (decide (a0 ≤ 4))) else (some false)
set_option maxHeartbeats 8000000 in
set_option maxRecDepth 100000 in
theorem theorboref03_Known.calls (a0 : Int) (r : Bool) (w : World) (h : theorboref03_Known.f a0 = some r) :
    Calls Try.prog 27 #[.int .u8 a0] w fun e w' => e = .returned (.bool r) ∧ Drawn0 w w' := by
  have H : (if a0 ≥ 1 then (some (decide (a0 ≤ 4))) else (some false)) = some r := h
  clear h
  by_cases c2 : a0 ≥ 1
  · rw [if_pos c2] at H
    have c2b0 : decide (1 ≤ a0) = true := decide_eq_true c2
    clear c2
    obtain rfl := Option.some.inj H
    go_enter Try.func27, Try.ntmps27
    go_wp2
    go_ret
    exact ⟨by first | rfl | (simp; done) | (simp [*]; done), by repeat (first | exact Drawn0.refl _ | apply Drawn0.step)⟩
  · rw [if_neg c2] at H
    have c2b0 : decide (1 ≤ a0) = false := decide_eq_false c2
    clear c2
    obtain rfl := Option.some.inj H
    go_enter Try.func27, Try.ntmps27
    go_wp2
    go_ret
    exact ⟨by first | rfl | (simp; done) | (simp [*]; done), by repeat (first | exact Drawn0.refl _ | apply Drawn0.step)⟩

/-! ### theorboref03_frenchFret: function 32 -/
def theorboref03_frenchFret.f (a0 : Int) : Option (ByteArray) := if 0 ≤ a0 then (if a0 ≤ (wrap64 (a0 + 1)) then (if (wrap64 (a0 + 1)) ≤ 19 then (some ((⟨#[97, 98, 99, 100, 101, 102, 103, 104, 105, 107, 108, 109, 110, 111, 112, 113, 114, 115, 116]⟩ : ByteArray).extract (a0 : Int).toNat ((wrap64 (a0 + 1)) : Int).toNat)) else (none)) else (none)) else (none)
set_option maxHeartbeats 8000000 in
set_option maxRecDepth 100000 in
theorem theorboref03_frenchFret.calls (a0 : Int) (r : ByteArray) (w : World) (h : theorboref03_frenchFret.f a0 = some r) :
    Calls Try.prog 32 #[.int .i64 a0] w fun e w' => e = .returned (.string r) ∧ Drawn0 w w' := by
  have H : (if 0 ≤ a0 then (if a0 ≤ (wrap64 (a0 + 1)) then (if (wrap64 (a0 + 1)) ≤ 19 then (some ((⟨#[97, 98, 99, 100, 101, 102, 103, 104, 105, 107, 108, 109, 110, 111, 112, 113, 114, 115, 116]⟩ : ByteArray).extract (a0 : Int).toNat ((wrap64 (a0 + 1)) : Int).toNat)) else (none)) else (none)) else (none)) = some r := h
  clear h
  by_cases c2 : 0 ≤ a0
  · rw [if_pos c2] at H
    have c2b0 := eq_true c2
    have c2b1 : decide (0 ≤ a0) = true := decide_eq_true c2
    clear c2
    by_cases c3 : a0 ≤ (wrap64 (a0 + 1))
    · rw [if_pos c3] at H
      have c3b0 := eq_true c3
      have c3b1 : decide (a0 ≤ (wrap64 (a0 + 1))) = true := decide_eq_true c3
      by_cases c4 : (wrap64 (a0 + 1)) ≤ 19
      · rw [if_pos c4] at H
        have c4b0 := eq_true c4
        have c4b1 : decide ((wrap64 (a0 + 1)) ≤ 19) = true := decide_eq_true c4
        obtain rfl := Option.some.inj H
        go_enter Try.func32, Try.ntmps32
        go_wp2
        go_ret
        exact ⟨by first | rfl | (simp; done) | (simp [*]; done), by repeat (first | exact Drawn0.refl _ | apply Drawn0.step)⟩
      · rw [if_neg c4] at H
        exact absurd H (by simp)
    · rw [if_neg c3] at H
      exact absurd H (by simp)
  · rw [if_neg c2] at H
    exact absurd H (by simp)

/-! ### theorboref03_figure: function 33 -/
def theorboref03_figure.f (a0 : Int) : Option (ByteArray) := if 0 ≤ a0 then (if a0 ≤ (wrap64 (a0 + 1)) then (if (wrap64 (a0 + 1)) ≤ 11 then (some ((⟨#[48, 49, 50, 51, 52, 53, 54, 55, 56, 57, 120]⟩ : ByteArray).extract (a0 : Int).toNat ((wrap64 (a0 + 1)) : Int).toNat)) else (none)) else (none)) else (none)
set_option maxHeartbeats 8000000 in
set_option maxRecDepth 100000 in
theorem theorboref03_figure.calls (a0 : Int) (r : ByteArray) (w : World) (h : theorboref03_figure.f a0 = some r) :
    Calls Try.prog 33 #[.int .i64 a0] w fun e w' => e = .returned (.string r) ∧ Drawn0 w w' := by
  have H : (if 0 ≤ a0 then (if a0 ≤ (wrap64 (a0 + 1)) then (if (wrap64 (a0 + 1)) ≤ 11 then (some ((⟨#[48, 49, 50, 51, 52, 53, 54, 55, 56, 57, 120]⟩ : ByteArray).extract (a0 : Int).toNat ((wrap64 (a0 + 1)) : Int).toNat)) else (none)) else (none)) else (none)) = some r := h
  clear h
  by_cases c2 : 0 ≤ a0
  · rw [if_pos c2] at H
    have c2b0 := eq_true c2
    have c2b1 : decide (0 ≤ a0) = true := decide_eq_true c2
    clear c2
    by_cases c3 : a0 ≤ (wrap64 (a0 + 1))
    · rw [if_pos c3] at H
      have c3b0 := eq_true c3
      have c3b1 : decide (a0 ≤ (wrap64 (a0 + 1))) = true := decide_eq_true c3
      by_cases c4 : (wrap64 (a0 + 1)) ≤ 11
      · rw [if_pos c4] at H
        have c4b0 := eq_true c4
        have c4b1 : decide ((wrap64 (a0 + 1)) ≤ 11) = true := decide_eq_true c4
        obtain rfl := Option.some.inj H
        go_enter Try.func33, Try.ntmps33
        go_wp2
        go_ret
        exact ⟨by first | rfl | (simp; done) | (simp [*]; done), by repeat (first | exact Drawn0.refl _ | apply Drawn0.step)⟩
      · rw [if_neg c4] at H
        exact absurd H (by simp)
    · rw [if_neg c3] at H
      exact absurd H (by simp)
  · rw [if_neg c2] at H
    exact absurd H (by simp)

/-! ### theorboref03_german: function 34 -/
def theorboref03_german.f (a0 : Int) (a1 : Int) : Option (ByteArray) := if a0 = 6 then (if 0 ≤ a1 then (if a1 ≤ (wrap64 (a1 + 1)) then (if (wrap64 (a1 + 1)) ≤ 11 then (some ((⟨#[43, 65, 66, 67, 68, 69, 70, 71, 72, 73, 75]⟩ : ByteArray).extract (a1 : Int).toNat ((wrap64 (a1 + 1)) : Int).toNat)) else (none)) else (none)) else (none)) else (if a1 = 0 then (if 0 ≤ (wrap64 (5 - a0)) then (if (wrap64 (5 - a0)) ≤ (wrap64 (6 - a0)) then (if (wrap64 (6 - a0)) ≤ 5 then (some ((⟨#[49, 50, 51, 52, 53]⟩ : ByteArray).extract ((wrap64 (5 - a0)) : Int).toNat ((wrap64 (6 - a0)) : Int).toNat)) else (none)) else (none)) else (none)) else (if 0 ≤ (wrap64 ((wrap64 ((wrap64 (5 * (Int.tmod (wrap64 (a1 - 1)) 5))) + 5)) - a0)) then (if (wrap64 ((wrap64 ((wrap64 (5 * (Int.tmod (wrap64 (a1 - 1)) 5))) + 5)) - a0)) ≤ (wrap64 ((wrap64 ((wrap64 (5 * (Int.tmod (wrap64 (a1 - 1)) 5))) + 6)) - a0)) then (if (wrap64 ((wrap64 ((wrap64 (5 * (Int.tmod (wrap64 (a1 - 1)) 5))) + 6)) - a0)) ≤ 25 then (if a1 > 5 then (if ((⟨#[97, 98, 99, 100, 101, 102, 103, 104, 105, 107, 108, 109, 110, 111, 112, 113, 114, 115, 116, 118, 120, 121, 122, 38, 57]⟩ : ByteArray).extract ((wrap64 ((wrap64 ((wrap64 (5 * (Int.tmod (wrap64 (a1 - 1)) 5))) + 5)) - a0)) : Int).toNat ((wrap64 ((wrap64 ((wrap64 (5 * (Int.tmod (wrap64 (a1 - 1)) 5))) + 6)) - a0)) : Int).toNat).size + ((⟨#[97, 98, 99, 100, 101, 102, 103, 104, 105, 107, 108, 109, 110, 111, 112, 113, 114, 115, 116, 118, 120, 121, 122, 38, 57]⟩ : ByteArray).extract ((wrap64 ((wrap64 ((wrap64 (5 * (Int.tmod (wrap64 (a1 - 1)) 5))) + 5)) - a0)) : Int).toNat ((wrap64 ((wrap64 ((wrap64 (5 * (Int.tmod (wrap64 (a1 - 1)) 5))) + 6)) - a0)) : Int).toNat).size ≤ 9223372036854775807 then (some (((⟨#[97, 98, 99, 100, 101, 102, 103, 104, 105, 107, 108, 109, 110, 111, 112, 113, 114, 115, 116, 118, 120, 121, 122, 38, 57]⟩ : ByteArray).extract ((wrap64 ((wrap64 ((wrap64 (5 * (Int.tmod (wrap64 (a1 - 1)) 5))) + 5)) - a0)) : Int).toNat ((wrap64 ((wrap64 ((wrap64 (5 * (Int.tmod (wrap64 (a1 - 1)) 5))) + 6)) - a0)) : Int).toNat) ++ ((⟨#[97, 98, 99, 100, 101, 102, 103, 104, 105, 107, 108, 109, 110, 111, 112, 113, 114, 115, 116, 118, 120, 121, 122, 38, 57]⟩ : ByteArray).extract ((wrap64 ((wrap64 ((wrap64 (5 * (Int.tmod (wrap64 (a1 - 1)) 5))) + 5)) - a0)) : Int).toNat ((wrap64 ((wrap64 ((wrap64 (5 * (Int.tmod (wrap64 (a1 - 1)) 5))) + 6)) - a0)) : Int).toNat))) else (none)) else (some ((⟨#[97, 98, 99, 100, 101, 102, 103, 104, 105, 107, 108, 109, 110, 111, 112, 113, 114, 115, 116, 118, 120, 121, 122, 38, 57]⟩ : ByteArray).extract ((wrap64 ((wrap64 ((wrap64 (5 * (Int.tmod (wrap64 (a1 - 1)) 5))) + 5)) - a0)) : Int).toNat ((wrap64 ((wrap64 ((wrap64 (5 * (Int.tmod (wrap64 (a1 - 1)) 5))) + 6)) - a0)) : Int).toNat))) else (none)) else (none)) else (none)))
set_option maxHeartbeats 8000000 in
set_option maxRecDepth 100000 in
theorem theorboref03_german.calls (a0 : Int) (a1 : Int) (r : ByteArray) (w : World) (h : theorboref03_german.f a0 a1 = some r) :
    Calls Try.prog 34 #[.int .i64 a0, .int .i64 a1] w fun e w' => e = .returned (.string r) ∧ Drawn0 w w' := by
  have H : (if a0 = 6 then (if 0 ≤ a1 then (if a1 ≤ (wrap64 (a1 + 1)) then (if (wrap64 (a1 + 1)) ≤ 11 then (some ((⟨#[43, 65, 66, 67, 68, 69, 70, 71, 72, 73, 75]⟩ : ByteArray).extract (a1 : Int).toNat ((wrap64 (a1 + 1)) : Int).toNat)) else (none)) else (none)) else (none)) else (if a1 = 0 then (if 0 ≤ (wrap64 (5 - a0)) then (if (wrap64 (5 - a0)) ≤ (wrap64 (6 - a0)) then (if (wrap64 (6 - a0)) ≤ 5 then (some ((⟨#[49, 50, 51, 52, 53]⟩ : ByteArray).extract ((wrap64 (5 - a0)) : Int).toNat ((wrap64 (6 - a0)) : Int).toNat)) else (none)) else (none)) else (none)) else (if 0 ≤ (wrap64 ((wrap64 ((wrap64 (5 * (Int.tmod (wrap64 (a1 - 1)) 5))) + 5)) - a0)) then (if (wrap64 ((wrap64 ((wrap64 (5 * (Int.tmod (wrap64 (a1 - 1)) 5))) + 5)) - a0)) ≤ (wrap64 ((wrap64 ((wrap64 (5 * (Int.tmod (wrap64 (a1 - 1)) 5))) + 6)) - a0)) then (if (wrap64 ((wrap64 ((wrap64 (5 * (Int.tmod (wrap64 (a1 - 1)) 5))) + 6)) - a0)) ≤ 25 then (if a1 > 5 then (if ((⟨#[97, 98, 99, 100, 101, 102, 103, 104, 105, 107, 108, 109, 110, 111, 112, 113, 114, 115, 116, 118, 120, 121, 122, 38, 57]⟩ : ByteArray).extract ((wrap64 ((wrap64 ((wrap64 (5 * (Int.tmod (wrap64 (a1 - 1)) 5))) + 5)) - a0)) : Int).toNat ((wrap64 ((wrap64 ((wrap64 (5 * (Int.tmod (wrap64 (a1 - 1)) 5))) + 6)) - a0)) : Int).toNat).size + ((⟨#[97, 98, 99, 100, 101, 102, 103, 104, 105, 107, 108, 109, 110, 111, 112, 113, 114, 115, 116, 118, 120, 121, 122, 38, 57]⟩ : ByteArray).extract ((wrap64 ((wrap64 ((wrap64 (5 * (Int.tmod (wrap64 (a1 - 1)) 5))) + 5)) - a0)) : Int).toNat ((wrap64 ((wrap64 ((wrap64 (5 * (Int.tmod (wrap64 (a1 - 1)) 5))) + 6)) - a0)) : Int).toNat).size ≤ 9223372036854775807 then (some (((⟨#[97, 98, 99, 100, 101, 102, 103, 104, 105, 107, 108, 109, 110, 111, 112, 113, 114, 115, 116, 118, 120, 121, 122, 38, 57]⟩ : ByteArray).extract ((wrap64 ((wrap64 ((wrap64 (5 * (Int.tmod (wrap64 (a1 - 1)) 5))) + 5)) - a0)) : Int).toNat ((wrap64 ((wrap64 ((wrap64 (5 * (Int.tmod (wrap64 (a1 - 1)) 5))) + 6)) - a0)) : Int).toNat) ++ ((⟨#[97, 98, 99, 100, 101, 102, 103, 104, 105, 107, 108, 109, 110, 111, 112, 113, 114, 115, 116, 118, 120, 121, 122, 38, 57]⟩ : ByteArray).extract ((wrap64 ((wrap64 ((wrap64 (5 * (Int.tmod (wrap64 (a1 - 1)) 5))) + 5)) - a0)) : Int).toNat ((wrap64 ((wrap64 ((wrap64 (5 * (Int.tmod (wrap64 (a1 - 1)) 5))) + 6)) - a0)) : Int).toNat))) else (none)) else (some ((⟨#[97, 98, 99, 100, 101, 102, 103, 104, 105, 107, 108, 109, 110, 111, 112, 113, 114, 115, 116, 118, 120, 121, 122, 38, 57]⟩ : ByteArray).extract ((wrap64 ((wrap64 ((wrap64 (5 * (Int.tmod (wrap64 (a1 - 1)) 5))) + 5)) - a0)) : Int).toNat ((wrap64 ((wrap64 ((wrap64 (5 * (Int.tmod (wrap64 (a1 - 1)) 5))) + 6)) - a0)) : Int).toNat))) else (none)) else (none)) else (none)))) = some r := h
  clear h
  by_cases c3 : a0 = 6
  · rw [if_pos c3] at H
    have c3b0 : (a0 == 6) = true := beq_iff_eq.mpr c3
    have c3b1 : (a0 != 6) = false := bne_eq_false_iff_eq.mpr c3
    clear c3
    by_cases c4 : 0 ≤ a1
    · rw [if_pos c4] at H
      have c4b0 := eq_true c4
      have c4b1 : decide (0 ≤ a1) = true := decide_eq_true c4
      clear c4
      by_cases c5 : a1 ≤ (wrap64 (a1 + 1))
      · rw [if_pos c5] at H
        have c5b0 := eq_true c5
        have c5b1 : decide (a1 ≤ (wrap64 (a1 + 1))) = true := decide_eq_true c5
        by_cases c6 : (wrap64 (a1 + 1)) ≤ 11
        · rw [if_pos c6] at H
          have c6b0 := eq_true c6
          have c6b1 : decide ((wrap64 (a1 + 1)) ≤ 11) = true := decide_eq_true c6
          obtain rfl := Option.some.inj H
          go_enter Try.func34, Try.ntmps34
          go_wp2
          go_ret
          exact ⟨by first | rfl | (simp; done) | (simp [*]; done), by repeat (first | exact Drawn0.refl _ | apply Drawn0.step)⟩
        · rw [if_neg c6] at H
          exact absurd H (by simp)
      · rw [if_neg c5] at H
        exact absurd H (by simp)
    · rw [if_neg c4] at H
      exact absurd H (by simp)
  · rw [if_neg c3] at H
    have c3b0 : (a0 == 6) = false := beq_eq_false_iff_ne.mpr c3
    have c3b1 : (a0 != 6) = true := bne_iff_ne.mpr c3
    by_cases c7 : a1 = 0
    · rw [if_pos c7] at H
      have c7b0 : (a1 == 0) = true := beq_iff_eq.mpr c7
      have c7b1 : (a1 != 0) = false := bne_eq_false_iff_eq.mpr c7
      clear c7
      obtain ⟨ji8, hji8⟩ : ∃ j_ : Int, (wrap64 (5 - a0)) = j_ := ⟨_, rfl⟩
      replace H : (if 0 ≤ (ji8) then (if (ji8) ≤ (wrap64 (6 - a0)) then (if (wrap64 (6 - a0)) ≤ 5 then (some ((⟨#[49, 50, 51, 52, 53]⟩ : ByteArray).extract ((ji8) : Int).toNat ((wrap64 (6 - a0)) : Int).toNat)) else (none)) else (none)) else (none)) = some r := by first | (rw [hji8] at H; exact H) | (simp only [hji8] at H ⊢; exact H)
      have hji8w : (IntKind.i64.wrap (5 - a0)) = ji8 := (i64_w _).trans hji8
      by_cases c9 : 0 ≤ (ji8)
      · rw [if_pos c9] at H
        have c9b0 := eq_true c9
        have c9b1 : decide (0 ≤ (ji8)) = true := decide_eq_true c9
        clear c9
        by_cases c10 : (ji8) ≤ (wrap64 (6 - a0))
        · rw [if_pos c10] at H
          have c10b0 := eq_true c10
          have c10b1 : decide ((ji8) ≤ (wrap64 (6 - a0))) = true := decide_eq_true c10
          clear c10
          by_cases c11 : (wrap64 (6 - a0)) ≤ 5
          · rw [if_pos c11] at H
            have c11b0 := eq_true c11
            have c11b1 : decide ((wrap64 (6 - a0)) ≤ 5) = true := decide_eq_true c11
            clear c11
            obtain rfl := Option.some.inj H
            go_enter Try.func34, Try.ntmps34
            go_wp2
            go_ret
            exact ⟨by first | rfl | (simp; done) | (simp only [← hji8] <;> (first | rfl | simp)) | (simp [*]; done), by repeat (first | exact Drawn0.refl _ | apply Drawn0.step)⟩
          · rw [if_neg c11] at H
            exact absurd H (by simp)
        · rw [if_neg c10] at H
          exact absurd H (by simp)
      · rw [if_neg c9] at H
        exact absurd H (by simp)
    · rw [if_neg c7] at H
      have c7b0 : (a1 == 0) = false := beq_eq_false_iff_ne.mpr c7
      have c7b1 : (a1 != 0) = true := bne_iff_ne.mpr c7
      obtain ⟨ji12, hji12⟩ : ∃ j_ : Int, (wrap64 ((wrap64 ((wrap64 (5 * (Int.tmod (wrap64 (a1 - 1)) 5))) + 5)) - a0)) = j_ := ⟨_, rfl⟩
      replace H : (if 0 ≤ (ji12) then (if (ji12) ≤ (wrap64 ((wrap64 ((wrap64 (5 * (Int.tmod (wrap64 (a1 - 1)) 5))) + 6)) - a0)) then (if (wrap64 ((wrap64 ((wrap64 (5 * (Int.tmod (wrap64 (a1 - 1)) 5))) + 6)) - a0)) ≤ 25 then (if a1 > 5 then (if ((⟨#[97, 98, 99, 100, 101, 102, 103, 104, 105, 107, 108, 109, 110, 111, 112, 113, 114, 115, 116, 118, 120, 121, 122, 38, 57]⟩ : ByteArray).extract ((ji12) : Int).toNat ((wrap64 ((wrap64 ((wrap64 (5 * (Int.tmod (wrap64 (a1 - 1)) 5))) + 6)) - a0)) : Int).toNat).size + ((⟨#[97, 98, 99, 100, 101, 102, 103, 104, 105, 107, 108, 109, 110, 111, 112, 113, 114, 115, 116, 118, 120, 121, 122, 38, 57]⟩ : ByteArray).extract ((ji12) : Int).toNat ((wrap64 ((wrap64 ((wrap64 (5 * (Int.tmod (wrap64 (a1 - 1)) 5))) + 6)) - a0)) : Int).toNat).size ≤ 9223372036854775807 then (some (((⟨#[97, 98, 99, 100, 101, 102, 103, 104, 105, 107, 108, 109, 110, 111, 112, 113, 114, 115, 116, 118, 120, 121, 122, 38, 57]⟩ : ByteArray).extract ((ji12) : Int).toNat ((wrap64 ((wrap64 ((wrap64 (5 * (Int.tmod (wrap64 (a1 - 1)) 5))) + 6)) - a0)) : Int).toNat) ++ ((⟨#[97, 98, 99, 100, 101, 102, 103, 104, 105, 107, 108, 109, 110, 111, 112, 113, 114, 115, 116, 118, 120, 121, 122, 38, 57]⟩ : ByteArray).extract ((ji12) : Int).toNat ((wrap64 ((wrap64 ((wrap64 (5 * (Int.tmod (wrap64 (a1 - 1)) 5))) + 6)) - a0)) : Int).toNat))) else (none)) else (some ((⟨#[97, 98, 99, 100, 101, 102, 103, 104, 105, 107, 108, 109, 110, 111, 112, 113, 114, 115, 116, 118, 120, 121, 122, 38, 57]⟩ : ByteArray).extract ((ji12) : Int).toNat ((wrap64 ((wrap64 ((wrap64 (5 * (Int.tmod (wrap64 (a1 - 1)) 5))) + 6)) - a0)) : Int).toNat))) else (none)) else (none)) else (none)) = some r := by first | (rw [hji12] at H; exact H) | (simp only [hji12] at H ⊢; exact H)
      have hji12w : (IntKind.i64.wrap ((wrap64 ((wrap64 (5 * (Int.tmod (wrap64 (a1 - 1)) 5))) + 5)) - a0)) = ji12 := (i64_w _).trans hji12
      by_cases c13 : 0 ≤ (ji12)
      · rw [if_pos c13] at H
        have c13b0 := eq_true c13
        have c13b1 : decide (0 ≤ (ji12)) = true := decide_eq_true c13
        clear c13
        by_cases c14 : (ji12) ≤ (wrap64 ((wrap64 ((wrap64 (5 * (Int.tmod (wrap64 (a1 - 1)) 5))) + 6)) - a0))
        · rw [if_pos c14] at H
          have c14b0 := eq_true c14
          have c14b1 : decide ((ji12) ≤ (wrap64 ((wrap64 ((wrap64 (5 * (Int.tmod (wrap64 (a1 - 1)) 5))) + 6)) - a0))) = true := decide_eq_true c14
          by_cases c15 : (wrap64 ((wrap64 ((wrap64 (5 * (Int.tmod (wrap64 (a1 - 1)) 5))) + 6)) - a0)) ≤ 25
          · rw [if_pos c15] at H
            have c15b0 := eq_true c15
            have c15b1 : decide ((wrap64 ((wrap64 ((wrap64 (5 * (Int.tmod (wrap64 (a1 - 1)) 5))) + 6)) - a0)) ≤ 25) = true := decide_eq_true c15
            by_cases c16 : a1 > 5
            · rw [if_pos c16] at H
              have c16b0 : decide (5 < a1) = true := decide_eq_true c16
              clear c16
              by_cases c17 : ((⟨#[97, 98, 99, 100, 101, 102, 103, 104, 105, 107, 108, 109, 110, 111, 112, 113, 114, 115, 116, 118, 120, 121, 122, 38, 57]⟩ : ByteArray).extract ((ji12) : Int).toNat ((wrap64 ((wrap64 ((wrap64 (5 * (Int.tmod (wrap64 (a1 - 1)) 5))) + 6)) - a0)) : Int).toNat).size + ((⟨#[97, 98, 99, 100, 101, 102, 103, 104, 105, 107, 108, 109, 110, 111, 112, 113, 114, 115, 116, 118, 120, 121, 122, 38, 57]⟩ : ByteArray).extract ((ji12) : Int).toNat ((wrap64 ((wrap64 ((wrap64 (5 * (Int.tmod (wrap64 (a1 - 1)) 5))) + 6)) - a0)) : Int).toNat).size ≤ 9223372036854775807
              · rw [if_pos c17] at H
                have c17b0 := eq_true c17
                have c17b1 : decide (((⟨#[97, 98, 99, 100, 101, 102, 103, 104, 105, 107, 108, 109, 110, 111, 112, 113, 114, 115, 116, 118, 120, 121, 122, 38, 57]⟩ : ByteArray).extract ((ji12) : Int).toNat ((wrap64 ((wrap64 ((wrap64 (5 * (Int.tmod (wrap64 (a1 - 1)) 5))) + 6)) - a0)) : Int).toNat).size + ((⟨#[97, 98, 99, 100, 101, 102, 103, 104, 105, 107, 108, 109, 110, 111, 112, 113, 114, 115, 116, 118, 120, 121, 122, 38, 57]⟩ : ByteArray).extract ((ji12) : Int).toNat ((wrap64 ((wrap64 ((wrap64 (5 * (Int.tmod (wrap64 (a1 - 1)) 5))) + 6)) - a0)) : Int).toNat).size ≤ 9223372036854775807) = true := decide_eq_true c17
                try have c17b2 : (9223372036854775807 < ((⟨#[97, 98, 99, 100, 101, 102, 103, 104, 105, 107, 108, 109, 110, 111, 112, 113, 114, 115, 116, 118, 120, 121, 122, 38, 57]⟩ : ByteArray).extract ((ji12) : Int).toNat ((wrap64 ((wrap64 ((wrap64 (5 * (Int.tmod (wrap64 (a1 - 1)) 5))) + 6)) - a0)) : Int).toNat).size + ((⟨#[97, 98, 99, 100, 101, 102, 103, 104, 105, 107, 108, 109, 110, 111, 112, 113, 114, 115, 116, 118, 120, 121, 122, 38, 57]⟩ : ByteArray).extract ((ji12) : Int).toNat ((wrap64 ((wrap64 ((wrap64 (5 * (Int.tmod (wrap64 (a1 - 1)) 5))) + 6)) - a0)) : Int).toNat).size) = False := eq_false (Nat.not_lt.2 c17)
                try have c17b3 : (9223372036854775807 < (((wrap64 ((wrap64 ((wrap64 (5 * (Int.tmod (wrap64 (a1 - 1)) 5))) + 6)) - a0)) : Int).toNat - ((ji12) : Int).toNat) + (((wrap64 ((wrap64 ((wrap64 (5 * (Int.tmod (wrap64 (a1 - 1)) 5))) + 6)) - a0)) : Int).toNat - ((ji12) : Int).toNat)) = False := eq_false (by have h_ := c17; simp only [ByteArray.size_extract] at h_; have e0_ : ((⟨#[97, 98, 99, 100, 101, 102, 103, 104, 105, 107, 108, 109, 110, 111, 112, 113, 114, 115, 116, 118, 120, 121, 122, 38, 57]⟩ : ByteArray)).size = 25 := rfl; have e1_ : ((⟨#[97, 98, 99, 100, 101, 102, 103, 104, 105, 107, 108, 109, 110, 111, 112, 113, 114, 115, 116, 118, 120, 121, 122, 38, 57]⟩ : ByteArray)).size = 25 := rfl; (try simp only [decide_eq_true_eq, decide_eq_true_iff] at *); omega)
                obtain rfl := Option.some.inj H
                go_enter Try.func34, Try.ntmps34
                go_wp2
                go_ret
                exact ⟨by first | rfl | (simp; done) | (simp only [← hji12] <;> (first | rfl | simp)) | (simp [*]; done), by repeat (first | exact Drawn0.refl _ | apply Drawn0.step)⟩
              · rw [if_neg c17] at H
                exact absurd H (by simp)
            · rw [if_neg c16] at H
              have c16b0 : decide (5 < a1) = false := decide_eq_false c16
              clear c16
              obtain rfl := Option.some.inj H
              go_enter Try.func34, Try.ntmps34
              go_wp2
              go_ret
              exact ⟨by first | rfl | (simp; done) | (simp only [← hji12] <;> (first | rfl | simp)) | (simp [*]; done), by repeat (first | exact Drawn0.refl _ | apply Drawn0.step)⟩
          · rw [if_neg c15] at H
            exact absurd H (by simp)
        · rw [if_neg c14] at H
          exact absurd H (by simp)
      · rw [if_neg c13] at H
        exact absurd H (by simp)

end Go.Proofs.Ytocpcofihlcnoaa.PNCells
