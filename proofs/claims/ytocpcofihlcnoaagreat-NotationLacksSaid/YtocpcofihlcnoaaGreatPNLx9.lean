-- made by xprint.py (ours) out of the translation
import Derived.Test.YtocpcofihlcnoaaGreatPNLx0
import Derived.Test.YtocpcofihlcnoaaGreatPNLx1
import Derived.Test.YtocpcofihlcnoaaGreatPNLx8
namespace Go.Proofs.YtocpcofihlcnoaaGreat.PNL
open Go.RowKit Go.Proofs.YtocpcofihlcnoaaGreatW.PrintWords Go.Proofs.YtocpcofihlcnoaaGreatW.PrintLast Go.Proofs.YtocpcofihlcnoaaGreatW.PrintMore
attribute [local go_sem] max2_int min2_int max_two min_two max_three min_three max_four min_four   -- for this text's walks alone
set_option linter.unusedVariables false
set_option linter.unusedSimpArgs false

attribute [local go_sem high] eqA43
/-! ### piece_plucks: function 54, told by hand -/
/-- An event has a stop on a course. -/
def piece_plucks.f (a0_0 : Bool) (a0_1 : Int) (a0_2 : Bool) (a0_3 : Bool) (a0_4 : Bool) (l0_5 : List S54) (a1 : Int) : Option Bool := if l0_5.length ≤ 9223372036854775807 then some (l0_5.any fun s => s.f0 == a1) else none
theorem piece_plucks.one (s0 s1 s2 s3 s4 c : Int) (g : Nat) (w : World) (hc : w.cell? ⟨g, 0, none⟩ = some (.int .i64 c)) :
    Calls Tryz.prog 66 #[.agg #[.int .i64 s0, .int .i64 s1, .int .i64 s2, .int .i64 s3, .int .i64 s4], .pointer (some ⟨g, 0, none⟩)] w fun e w' => e = .returned (.bool (s0 == c)) ∧ Below w.heap.size w w' := by
  have hg := World.block_lt_of_cell? w _ hc
  have hu := Tryz.underlying54
  have hne : ¬ w.heap.size = g := fun e => by simp [← e] at hg
  have hne' : ¬ g = w.heap.size := fun e => by simp [e] at hg
  go_enter Tryz.func66, Tryz.ntmps66
  go_wp2
  go_ret
  exact ⟨rfl, (Below.refl _ _).alloc (Nat.le_refl _) _⟩
/-- Where the first stop on a course stands, from i on; -1: nowhere. -/
def piece_plucks.idx (c : Int) : List S54 → Int → Int
  | [], _ => -1
  | s :: l, i => if s.f0 == c then i else piece_plucks.idx c l (i + 1)
theorem piece_plucks.idx_any (c : Int) : ∀ (l : List S54) (i : Int), 0 ≤ i → decide (piece_plucks.idx c l i ≥ 0) = l.any fun s => s.f0 == c
  | [], i, _ => rfl
  | s :: l, i, h => by
    unfold piece_plucks.idx
    by_cases e : (s.f0 == c) = true
    · simp [e, h]
    · rw [if_neg e, piece_plucks.idx_any c l (i + 1) (by omega)]
      simp [e]
theorem piece_plucks.idx_drop (c : Int) (l : List S54) (k : Nat) (hk : k < l.length) : piece_plucks.idx c (l.drop k) k = if ((rd_T54 l k).f0 == c) = true then (k : Int) else piece_plucks.idx c (l.drop (k + 1)) ((k + 1 : Nat) : Int) := by
  rw [List.drop_eq_getElem_cons hk]
  have e : rd_T54 l k = l[k] := by simp [rd_T54, hk]
  rw [e]
  rfl
set_option maxHeartbeats 1600000 in
set_option maxRecDepth 100000 in
theorem piece_plucks.index (A : Option Addr) (cap : Nat) (l : List S54) (c : Int) (g : Nat) (w : World) (hr : Kd.C k54 w A l.length l) (hcp : l.length ≤ cap) (hl : l.length ≤ 9223372036854775807) (hc : w.cell? ⟨g, 0, none⟩ = some (.int .i64 c)) :
    Calls Tryz.prog 74 #[.slice A l.length cap, .func (.func 66) #[] #[.pointer (some ⟨g, 0, none⟩)]] w fun e w' => e = .returned (.int .i64 (piece_plucks.idx c l 0)) ∧ Below w.heap.size w w' := by
  have HR := Aside0.mk hr
  have HC := Aside0.mk hc
  have HP := Aside0.mk hcp
  clear hr hc hcp
  have hu := Tryz.underlying54
  have HD := Aside0.mk (piece_plucks.idx_drop c l)
  go_enter Tryz.func74, Tryz.ntmps74
  go_wp2
  go_loopw [8] (fun v8 w' => ∃ k : Nat, k ≤ l.length ∧ v8 = .int .i64 k ∧ Aside0 (piece_plucks.idx c l 0 = piece_plucks.idx c (l.drop k) k) ∧ Aside0 (Below w.heap.size w w')) (fun v8 _ => l.length - (intOf v8).toNat)
  case atStart => exact ⟨0, Nat.zero_le _, rfl, ⟨rfl⟩, ⟨Below.refl _ _⟩⟩
  case round =>
    obtain ⟨k, hk, rfl, HI, HB⟩ := hrel
    by_cases hlt : k < l.length
    · have p := at_T54 HR.out (k : Int) (by omega) (by omega)
      obtain ⟨ad, rfl, h0, h1, h2, h3, h4⟩ := p
      have e0 := HD.out k hlt
      replace h0 := (HB.out.cell (World.block_lt_of_cell? w _ h0)).trans h0
      replace h1 := (HB.out.cell (World.block_lt_of_cell? w _ h1)).trans h1
      replace h2 := (HB.out.cell (World.block_lt_of_cell? w _ h2)).trans h2
      replace h3 := (HB.out.cell (World.block_lt_of_cell? w _ h3)).trans h3
      replace h4 := (HB.out.cell (World.block_lt_of_cell? w _ h4)).trans h4
      simp only [Int.toNat_natCast] at h0 h1 h2 h3 h4
      have C1 := Aside0.mk ((HB.out.cell (World.block_lt_of_cell? w _ HC.out)).trans HC.out)
      have hlt' : (k : Int) < (l.length : Int) := by omega
      by_cases hit : ((rd_T54 l k).f0 == c) = true
      · rw [if_pos hit] at e0
        have E0 := Aside0.mk (HI.out.trans e0)
        clear e0
        go_wp2_with (go_at_call 66; refine (piece_plucks.one _ _ _ _ _ c g _ C1.out).mono ?_; rintro e w1 ⟨rfl, hb⟩)
        go_ret
        exact ⟨by rw [E0.out]; rfl, below_step HB.out hb⟩
      · rw [if_neg hit] at e0
        have E0 := Aside0.mk (HI.out.trans e0)
        have hit' : ((rd_T54 l k).f0 == c) = false := by simpa using hit
        clear e0 hit
        go_wp2_with (go_at_call 66; refine (piece_plucks.one _ _ _ _ _ c g _ C1.out).mono ?_; rintro e w1 ⟨rfl, hb⟩)
        go_roundw
        case rel => exact ⟨k + 1, by omega, by go_num, E0, ⟨below_step HB.out hb⟩⟩
        case measure => simp [intOf]; omega
    · have hlt' : ¬ (k : Int) < (l.length : Int) := by omega
      have ek : k = l.length := by omega
      have E0 := HI.out
      rw [ek, List.drop_length] at E0
      have E1 := Aside0.mk E0
      clear E0 ek
      go_wp2
      go_ret
      exact ⟨by rw [E1.out]; rfl, HB.out⟩
theorem piece_plucks.has (A : Option Addr) (cap : Nat) (l : List S54) (c : Int) (g : Nat) (w : World) (hr : Kd.C k54 w A l.length l) (hcp : l.length ≤ cap) (hl : l.length ≤ 9223372036854775807) (hc : w.cell? ⟨g, 0, none⟩ = some (.int .i64 c)) :
    Calls Tryz.prog 65 #[.slice A l.length cap, .func (.func 66) #[] #[.pointer (some ⟨g, 0, none⟩)]] w fun e w' => e = .returned (.bool (l.any fun s => s.f0 == c)) ∧ Below w.heap.size w w' := by
  have HA := Aside0.mk (piece_plucks.idx_any c l 0 (by omega))
  have HI := Aside0.mk (piece_plucks.index A cap l c g w hr hcp hl hc)
  clear hr hcp hc
  go_enter Tryz.func65, Tryz.ntmps65
  go_wp2_with (go_at_call 74; (with_reducible refine (HI.out).mono ?_); rintro e w1 ⟨rfl, hb⟩)
  go_ret
  exact ⟨by rw [← HA.out]; rfl, hb⟩
theorem piece_plucks.calls (a0_0 : Bool) (a0_1 : Int) (a0_2 : Bool) (a0_3 : Bool) (a0_4 : Bool) (A0_5 : Option Addr) (c0_5 : Nat) (l0_5 : List S54) (a1 : Int) (r : Bool) (w : World) (hr0_5 : Kd.C k54 w A0_5 l0_5.length l0_5) (hc0_5 : l0_5.length ≤ c0_5) (h : piece_plucks.f a0_0 a0_1 a0_2 a0_3 a0_4 l0_5 a1 = some r) :
    Calls Tryz.prog 54 #[.agg #[.bool a0_0, .int .i64 a0_1, .bool a0_2, .bool a0_3, .bool a0_4, .slice A0_5 l0_5.length c0_5], .int .i64 a1] w fun e w' => e = .returned (.bool r) ∧ Below w.heap.size w w' := by
  have HR := Aside0.mk hr0_5
  clear hr0_5
  have hu := Tryz.underlying46
  have hmf : ∀ (fn : Fn) (first cap : Array Value) (w : World), (Instr.makeFunc fn first cap).run Tryz.prog w = .ok (.func fn first cap) w := fun _ _ _ _ => rfl
  go_enter Tryz.func54, Tryz.ntmps54
  unfold piece_plucks.f at h
  by_cases hl : l0_5.length ≤ 9223372036854775807
  · rw [if_pos hl] at h
    obtain rfl := Option.some.inj h
    have HI := Aside0.mk (fun (W : World) (g : Nat) (hb : Below w.heap.size w W) (hc : W.cell? ⟨g, 0, none⟩ = some (.int .i64 a1)) => piece_plucks.has A0_5 c0_5 l0_5 a1 g W (Kd.C_below HR.out hb) hc0_5 hl hc)
    clear h hc0_5 HR
    have B0 := Aside0.mk (((Below.refl _ w).alloc (Nat.le_refl _) (Obj.cells #[Value.bool a0_0, Value.int IntKind.i64 a0_1, Value.bool a0_2, Value.bool a0_3, Value.bool a0_4, Value.slice A0_5 l0_5.length c0_5] 46)).alloc (by simp) (Obj.cells #[Value.int IntKind.i64 a1] 3))
    go_wp2_with (go_at_call 65; (with_reducible refine (HI.out _ _ B0.out ?_).mono ?_); rotate_left 1; rintro e w1 ⟨rfl, hb⟩)
    · go_ret
      exact ⟨rfl, below_step B0.out hb⟩
    · rw [World.cell?_alloc_at _ _ _ _ (by simp)]
      rfl
  · rw [if_neg hl] at h
    exact absurd h (by simp)

/-! ### piece_Longest: function 39 -/
mutual
def piece_Longest.j0 : Nat → Int → Int → Bool → List (S99) → List Int → List (S46) → Option (Int)
  | 0, _, _, _, _, _, _ => none
  | k + 1, x1, x2, x18, x411000, x411001, x411002 => if x18 = true then (some 0) else (if 0 ≤ (wrap64 (x1 + 1)) then (if (wrap64 (x1 + 1)) ≤ (x411002.length : Int) then ((some (x411002.drop ((wrap64 (x1 + 1)) : Int).toNat : List (S46))).bind fun y411 => (piece_Longest.l0 k x2 0 y411 (y411.length : Int) 0)) else (none)) else (none))
def piece_Longest.l0 : Nat → Int → Int → List (S46) → Int → Int → Option (Int)
  | 0, _, _, _, _, _ => none
  | k + 1, x2, x7, x23, x24, x25 => if x25 < x24 then (if 0 ≤ x25 then (if x25 < (x23.length : Int) then (if x7 = 15 then (some x7) else ((piece_isRest.f ((rd_T46 x23 x25).f0) ((rd_T46 x23 x25).f1.f0) ((rd_T46 x23 x25).f1.f1) ((rd_T46 x23 x25).f1.f2) ((rd_T46 x23 x25).f2) ((rd_T46 x23 x25).f3)).bind fun t417 => (if t417 = true then (some x7) else ((piece_plucks.f ((rd_T46 x23 x25).f0) ((rd_T46 x23 x25).f1.f0) ((rd_T46 x23 x25).f1.f1) ((rd_T46 x23 x25).f1.f2) ((rd_T46 x23 x25).f2) ((rd_T46 x23 x25).f3) x2).bind fun t418 => (if t418 = true then (some x7) else (piece_Longest.l0 k x2 (wrap64 (x7 + 1)) x23 x24 (wrap64 (x25 + 1)))))))) else (none)) else (none)) else (some x7)
end
def piece_Longest.f (k : Nat) (l0_0 : List (S99)) (l0_1 : List Int) (l0_2 : List (S46)) (a1 : Int) (a2 : Int) : Option (Int) := if a1 < 0 then (piece_Longest.j0 k a1 a2 true l0_0 l0_1 l0_2) else (piece_Longest.j0 k a1 a2 (decide (a1 ≥ (l0_2.length : Int))) l0_0 l0_1 l0_2)
theorem piece_Longest.mono_l : ∀ k, (∀ y0 y1 y2 y3 y4 y5, LeO (piece_Longest.j0 k y0 y1 y2 y3 y4 y5) (piece_Longest.j0 (k + 1) y0 y1 y2 y3 y4 y5)) ∧ (∀ y0 y1 y2 y3 y4, LeO (piece_Longest.l0 k y0 y1 y2 y3 y4) (piece_Longest.l0 (k + 1) y0 y1 y2 y3 y4))
  | 0 => ⟨fun _ _ _ _ _ _ r h => by simp [piece_Longest.j0] at h, fun _ _ _ _ _ r h => by simp [piece_Longest.l0] at h⟩
  | k + 1 => by
    ((obtain ⟨ih0, ih1⟩ := piece_Longest.mono_l k); (refine ⟨?_, ?_⟩)); (focus intro y0 y1 y2 y3 y4 y5; (unfold piece_Longest.j0); (repeat' first | (with_reducible first | apply ih0 | apply ih1 | exact LeO.refl _ | exact LeO.none _ | refine LeO.ite ?_ ?_ | refine LeO.bind ?_ fun _ => ?_) | exact LeO.none _ | refine LeO.ite ?_ ?_ | refine LeO.bind ?_ fun _ => ?_ | apply ih0 | apply ih1)); (focus intro y0 y1 y2 y3 y4; (unfold piece_Longest.l0); (repeat' first | (with_reducible first | apply ih0 | apply ih1 | exact LeO.refl _ | exact LeO.none _ | refine LeO.ite ?_ ?_ | refine LeO.bind ?_ fun _ => ?_) | exact LeO.none _ | refine LeO.ite ?_ ?_ | refine LeO.bind ?_ fun _ => ?_ | apply ih0 | apply ih1))
theorem piece_Longest.mono : ∀ a0 a1 a2 a3 a4 k, LeO (piece_Longest.f k a0 a1 a2 a3 a4) (piece_Longest.f (k + 1) a0 a1 a2 a3 a4) := by
  intro a0 a1 a2 a3 a4 k
  obtain ⟨ih0, ih1⟩ := piece_Longest.mono_l k
  unfold piece_Longest.f
  repeat' first | (with_reducible first | apply ih0 | apply ih1 | exact LeO.refl _ | exact LeO.none _ | refine LeO.ite ?_ ?_ | refine LeO.bind ?_ fun _ => ?_) | exact LeO.none _ | refine LeO.ite ?_ ?_ | refine LeO.bind ?_ fun _ => ?_ | apply ih0 | apply ih1
set_option maxHeartbeats 8000000 in
set_option maxRecDepth 100000 in
theorem piece_Longest.calls (k : Nat) (A0_0 : Option Addr) (c0_0 : Nat) (l0_0 : List (S99)) (A0_1 : Option Addr) (c0_1 : Nat) (l0_1 : List Int) (A0_2 : Option Addr) (c0_2 : Nat) (l0_2 : List (S46)) (a1 : Int) (a2 : Int) (r : Int) (w : World) (hr0_0 : Kd.C k99 w A0_0 l0_0.length l0_0) (hc0_0 : l0_0.length ≤ c0_0) (hr0_1 : Kd.C (Kd.int .i64) w A0_1 l0_1.length l0_1) (hc0_1 : l0_1.length ≤ c0_1) (hr0_2 : Kd.C k46 w A0_2 l0_2.length l0_2) (hc0_2 : l0_2.length ≤ c0_2) (h : piece_Longest.f k l0_0 l0_1 l0_2 a1 a2 = some r) :
    Calls Tryz.prog 39 #[.agg #[.slice A0_0 l0_0.length c0_0, .slice A0_1 l0_1.length c0_1, .slice A0_2 l0_2.length c0_2], .int .i64 a1, .int .i64 a2] w fun e w' => e = .returned (.int .i64 r) ∧ Below w.heap.size w w' := by
  have hu29 := Tryz.underlying29
  have hu46 := Tryz.underlying46
  have HR0_0 := Aside0.mk hr0_0
  have HC0_0 := Aside0.mk hc0_0
  clear hr0_0 hc0_0
  have HR0_1 := Aside0.mk hr0_1
  have HC0_1 := Aside0.mk hc0_1
  clear hr0_1 hc0_1
  have HR0_2 := Aside0.mk hr0_2
  have HC0_2 := Aside0.mk hc0_2
  clear hr0_2 hc0_2
  have HB := Aside0.mk (Below.refl w.heap.size w)
  have H : (if a1 < 0 then (piece_Longest.j0 k a1 a2 true l0_0 l0_1 l0_2) else (piece_Longest.j0 k a1 a2 (decide (a1 ≥ (l0_2.length : Int))) l0_0 l0_1 l0_2)) = some r := h
  clear h
  have HC4 := Aside0.mk H
  clear H
  go_enter Tryz.func39, Tryz.ntmps39
  go_upto_region 1 with (first | ((with_reducible refine gate_dst (N := 3) rfl ?_); (try (refine gate_guard (by rfl) ?_; dsimp only)); refine bx_ 3 #[.slice A0_0 l0_0.length c0_0, .slice A0_1 l0_1.length c0_1, .slice A0_2 l0_2.length c0_2] 29 HB ?_; clear HB; intro gb410 w5 hg hb BK410 HB GW410; have GE410 := GW410; clear hg hb))
  (try simp only [Act.put, List.setIfInBounds_toArray, List.set_cons_zero, List.set_cons_succ])
  go_cut [18] (fun v18 wc => ∃ (kq : Nat) (x18_3 : Bool), v18 = .bool x18_3 ∧ Aside0 (piece_Longest.j0 kq a1 a2 x18_3 l0_0 l0_1 l0_2 = some r) ∧ Aside0 (kq ≤ k) ∧ Aside0 (wc.heap[gb410]? = some (.cells #[(.slice A0_0 l0_0.length c0_0), (.slice A0_1 l0_1.length c0_1), (.slice A0_2 l0_2.length c0_2)] 29 (0, 0))) ∧ Aside0 (Below w.heap.size w wc))
  case first =>
    (have H := HC4.out); clear HC4; (by_cases c6 : a1 < 0)
    · rw [if_pos c6] at H
      (have c6b0 := decide_eq_true c6); clear c6; ((first | rw [c6b0] | (simp only [i64_w, i32_w]; rw [c6b0]) | skip)); (have H' := Aside0.mk H); clear H; (go_wp2); (go_meet)
      case rel => exact ⟨_, (true), (rs_), H', ⟨om_⟩, ⟨bk_ BK410⟩, ⟨bl_ HB⟩⟩
    · rw [if_neg c6] at H
      (have c6b0 := decide_eq_false c6); clear c6; ((first | rw [c6b0] | (simp only [i64_w, i32_w]; rw [c6b0]) | skip)); (have H' := Aside0.mk H); clear H; (have hcz7 := blk_cell BK410.out); (have hfz7 := blk_frozen BK410.out); (go_wp2); (go_meet)
      case rel => exact ⟨_, (decide (a1 ≥ (l0_2.length : Int))), (rs_), H', ⟨om_⟩, ⟨bk_ BK410⟩, ⟨bl_ HB⟩⟩
  case rest =>
    clear HC4; (obtain ⟨kq, x18_3, rfl, HA, HJ3, BK410, HB⟩ := hcut)
    cases kq with
    | zero => exact absurd HA.out (by simp [piece_Longest.j0])
    | succ kj3 =>
      (have H := HA.out); clear HA; (simp only [piece_Longest.j0] at H); (by_cases c8 : x18_3 = true)
      · subst c8
        (rw [if_pos rfl] at H); (obtain rfl := Option.some.inj H); (go_wp2); (go_ret); (exact ⟨rv_, bl_ HB⟩)
      · replace c8 := Bool.eq_false_iff.mpr c8
        subst c8; (rw [if_neg Bool.false_ne_true] at H); (obtain ⟨ji9, hji9⟩ : ∃ j_ : Int, (wrap64 (a1 + 1)) = j_ := ⟨_, rfl⟩); (replace H : (if 0 ≤ (ji9) then (if (ji9) ≤ (l0_2.length : Int) then ((some (l0_2.drop ((ji9) : Int).toNat : List (S46))).bind fun y411 => (piece_Longest.l0 kj3 a2 0 y411 (y411.length : Int) 0)) else (none)) else (none)) = some r := by first | (rw [hji9] at H; exact H) | (simp only [hji9] at H ⊢; exact H)); (have hji9w : (IntKind.i64.wrap (a1 + 1)) = ji9 := (i64_w _).trans hji9); (by_cases c10 : 0 ≤ (ji9))
        · rw [if_pos c10] at H
          (have c10b0 := eq_true c10); (have c10b1 : decide (0 ≤ (ji9)) = true := decide_eq_true c10); clear c10; (by_cases c11 : (ji9) ≤ (l0_2.length : Int))
          · rw [if_pos c11] at H
            (have c11b0 := eq_true c11); (have c11b1 : decide ((ji9) ≤ (l0_2.length : Int)) = true := decide_eq_true c11); clear c11; (obtain ⟨y411, hy411⟩ : ∃ y_ : List (S46), y_ = (l0_2.drop ((ji9) : Int).toNat) := ⟨_, rfl⟩); (replace H : (piece_Longest.l0 kj3 a2 0 y411 (y411.length : Int) 0) = some r := by first | (rw [hy411]; with_reducible exact H) | (have H2_ := (Option.bind_some _ _).symm.trans H; rw [hy411]; with_reducible exact H2_) | (have H2_ := (Option.bind_some _ _).symm.trans H; with_reducible exact H2_) | with_reducible exact H | (rw [hy411]; exact H) | exact H); (have Ny411 := Aside0.mk hy411); clear hy411; (have H' := Aside0.mk H); clear H; (have hcz12 := blk_cell BK410.out); (have hfz12 := blk_frozen BK410.out); (have q13 : ((ji9) : Int) ≤ ((l0_2.length : Int) : Int) := of_decide_eq_true (by first | (with_reducible assumption) | assumption)); (obtain ⟨i013, hi013, _, hsz13, _⟩ := info_parts info46); (have hroom13 : l0_2.length ≤ c0_2 := HC0_2.out); (have hC13 : Kd.C k46 _ A0_2 l0_2.length l0_2 := HR0_2.out); (have q013 : (0 : Int) ≤ ((ji9) : Int) := of_decide_eq_true (by first | (with_reducible assumption) | assumption)); (have hcut13 := cut_from (P := Tryz.prog) 27 46 .i64 Tryz.underlying27 hi013 6 hsz13 A0_2 l0_2.length c0_2 (ji9) q013 q13); (have hr13 := Kd.C_drop (m := ((ji9) : Int).toNat) (c := c0_2) hC13 (by omega) hroom13); (obtain ⟨A13, hA13⟩ : ∃ A1, A1 = (if c0_2 = ((ji9) : Int).toNat then A0_2 else (A0_2 : Option Addr).map (·.add (((ji9) : Int).toNat * 6))) := ⟨_, rfl⟩); (obtain ⟨c13, hc13⟩ : ∃ c1, c1 = c0_2 - ((ji9) : Int).toNat := ⟨_, rfl⟩); (have hy13 : y411.length = l0_2.length - ((ji9) : Int).toNat := (by rw [Ny411.out, List.length_drop] <;> omega)); (rw [show (l0_2).drop ((ji9) : Int).toNat = y411 from Ny411.out.symm] at hr13); (replace hr13 : Kd.C k46 _ A13 y411.length y411 := (by rw [hA13]; exact hr13)); (rw [← hy13, ← hA13, ← hc13] at hcut13); (have HR414 := Aside0.mk hr13); (have HC414 := Aside0.mk (show y411.length ≤ c13 from by rw [hy13, hc13]; exact Nat.sub_le_sub_right hroom13 _)); clear hr13 hC13 hroom13 hi013 hsz13 hc13; (have KY13 := Aside0.mk hy13); (have KA13 := Aside0.mk hA13); clear hy13 hA13; (replace q13 := eq_true q13); (go_wp2); (go_loopg [7, 25] kj3 (fun kq v7 v25 w' => ∃ (x7_2 : Int) (x25_2 : Int), v7 = .int .i64 x7_2 ∧ v25 = .int .i64 x25_2 ∧ Aside0 (piece_Longest.l0 kq a2 x7_2 y411 (y411.length : Int) x25_2 = some r) ∧ Aside0 (kq ≤ kj3) ∧ Aside0 (w'.heap[gb410]? = some (.cells #[(.slice A0_0 l0_0.length c0_0), (.slice A0_1 l0_1.length c0_1), (.slice A0_2 l0_2.length c0_2)] 29 (0, 0))) ∧ Aside0 (Below w.heap.size w w')))
            case atStart => exact ⟨(0), (0), (rs_), (rs_), H', ⟨Nat.le_refl _⟩, ⟨bk_ BK410⟩, ⟨bl_ HB⟩⟩
            case round =>
              clear H'; (try clear c8 c10b0 c10b1 c11b0 c11b1 c13 q13 hcz12 hfz12 q013); (obtain ⟨x7_2, x25_2, rfl, rfl, HA, HK2, BK410, HB⟩ := hrel)
              cases gk with
              | zero => exact absurd HA.out (by simp [piece_Longest.l0])
              | succ k2 =>
                (have H := HA.out); clear HA; (simp only [piece_Longest.l0] at H); (by_cases c14 : x25_2 < (y411.length : Int))
                · rw [if_pos c14] at H
                  (have c14b0 := decide_eq_true c14); clear c14; (by_cases c15 : 0 ≤ x25_2)
                  · rw [if_pos c15] at H
                    (have c15b0 := decide_eq_true c15); clear c15; (by_cases c16 : x25_2 < (y411.length : Int))
                    · rw [if_pos c16] at H
                      (have c16b0 := decide_eq_true c16); clear c16; (by_cases c17 : x7_2 = 15)
                      · rw [if_pos c17] at H
                        (obtain ⟨c17b0, c17b1⟩ := eqT_ c17); clear c17; (obtain rfl := Option.some.inj H); (have p415 : 0 ≤ (x25_2 : Int) := of_decide_eq_true (by first | (with_reducible assumption) | assumption)); (have q415 : x25_2 < (y411.length : Int) := of_decide_eq_true (by first | (with_reducible assumption) | assumption)); (obtain ⟨ad415, A415_5, c415_5, e415, hx415_0, hx415_1, hx415_2, hx415_3, hx415_4, hx415_5, hl415_5, hi415_5⟩ := at_T46 HR414.out x25_2 p415 q415)
                        cases e415
                        (replace hx415_0 := pw_cell_below HB.out hx415_0); (replace hx415_1 := pw_cell_below HB.out hx415_1); (replace hx415_2 := pw_cell_below HB.out hx415_2); (replace hx415_3 := pw_cell_below HB.out hx415_3); (replace hx415_4 := pw_cell_below HB.out hx415_4); (replace hx415_5 := pw_cell_below HB.out hx415_5); (have HR415_5 := Aside0.mk hi415_5); (have HC415_5 := Aside0.mk hl415_5); clear hi415_5 hl415_5; (replace p415 := eq_true p415); (replace q415 := eq_true q415); (go_wp2_with (first | ((with_reducible refine gate_dst (N := 9) rfl ?_); (try (refine gate_guard (by rfl) ?_; dsimp only)); refine bx_ 9 #[.bool false, .int .i64 0, .bool false, .bool false, .bool false, .slice none 0 0] 46 HB ?_; clear HB; intro gb416 w18 hg hb BK416 HB GW416; have GE416 := GW416; have NB410_416 := nl_ BK410 hg; have NB416_410 := ng_ BK410 hg; replace BK410 := bb_ BK410 hb; clear hg hb; have hnb19 := NB416_410.out; have hnc19 := NB410_416.out; have hcz20 := blk_cell BK416.out; have hfz20 := blk_frozen BK416.out))); (go_ret); (exact ⟨by first | rfl | (simp [errW_none, errW_some] <;> rfl) | (simp only [← hji9]; first | rfl | (simp [errW_none, errW_some] <;> rfl)) | (simp [*, errW_none, errW_some] <;> rfl), bl_ HB⟩)
                      · rw [if_neg c17] at H
                        (obtain ⟨c17b0, c17b1⟩ := eqF_ c17); (replace H := Option.bind_eq_some_iff.mp H); (obtain ⟨t417, A210, H⟩ := H); (try dsimp only at H); (have A21 := Aside0.mk A210); clear A210; (by_cases c22 : t417 = true)
                        · subst c22
                          (rw [if_pos rfl] at H); (obtain rfl := Option.some.inj H); (have p415 : 0 ≤ (x25_2 : Int) := of_decide_eq_true (by first | (with_reducible assumption) | assumption)); (have q415 : x25_2 < (y411.length : Int) := of_decide_eq_true (by first | (with_reducible assumption) | assumption)); (obtain ⟨ad415, A415_5, c415_5, e415, hx415_0, hx415_1, hx415_2, hx415_3, hx415_4, hx415_5, hl415_5, hi415_5⟩ := at_T46 HR414.out x25_2 p415 q415)
                          cases e415
                          (replace hx415_0 := pw_cell_below HB.out hx415_0); (replace hx415_1 := pw_cell_below HB.out hx415_1); (replace hx415_2 := pw_cell_below HB.out hx415_2); (replace hx415_3 := pw_cell_below HB.out hx415_3); (replace hx415_4 := pw_cell_below HB.out hx415_4); (replace hx415_5 := pw_cell_below HB.out hx415_5); (have HR415_5 := Aside0.mk hi415_5); (have HC415_5 := Aside0.mk hl415_5); clear hi415_5 hl415_5; (replace p415 := eq_true p415); (replace q415 := eq_true q415); (go_wp2_with (first | ((with_reducible refine gate_dst (N := 9) rfl ?_); (try (refine gate_guard (by rfl) ?_; dsimp only)); refine bx_ 9 #[.bool false, .int .i64 0, .bool false, .bool false, .bool false, .slice none 0 0] 46 HB ?_; clear HB; intro gb416 w23 hg hb BK416 HB GW416; have GE416 := GW416; have NB410_416 := nl_ BK410 hg; have NB416_410 := ng_ BK410 hg; replace BK410 := bb_ BK410 hb; clear hg hb; have hnb24 := NB416_410.out; have hnc24 := NB410_416.out; have hcz25 := blk_cell BK416.out; have hfz25 := blk_frozen BK416.out) | (go_at_call 53; (with_reducible refine (piece_isRest.calls ((rd_T46 y411 x25_2).f0) ((rd_T46 y411 x25_2).f1.f0) ((rd_T46 y411 x25_2).f1.f1) ((rd_T46 y411 x25_2).f1.f2) ((rd_T46 y411 x25_2).f2) _ _ ((rd_T46 y411 x25_2).f3) true _ ?side1 ?side2 A21.out).mono ?_); (case side1 => exact kc_ HR415_5 HB); (case side2 => exact HC415_5.out); rintro e w26 ⟨rfl, hb⟩; replace BK410 := bb_ BK410 hb; replace BK416 := Aside0.mk (blk_below (g := gb416) (o := .cells #[.bool ((rd_T46 y411 x25_2).f0), .int .i64 ((rd_T46 y411 x25_2).f1.f0), .bool ((rd_T46 y411 x25_2).f1.f1), .bool ((rd_T46 y411 x25_2).f1.f2), .bool ((rd_T46 y411 x25_2).f2), .slice A415_5 ((rd_T46 y411 x25_2).f3).length c415_5] 46 (0, 0)) (bk_ BK416) hb); replace HB := bs_ HB hb; (try clear hb); (try clear hb2); (try clear hk); (try clear hi)))); (go_ret); (exact ⟨by first | rfl | (simp [errW_none, errW_some] <;> rfl) | (simp only [← hji9]; first | rfl | (simp [errW_none, errW_some] <;> rfl)) | (simp [*, errW_none, errW_some] <;> rfl), bl_ HB⟩)
                        · replace c22 := Bool.eq_false_iff.mpr c22
                          subst c22; (rw [if_neg Bool.false_ne_true] at H); (replace H := Option.bind_eq_some_iff.mp H); (obtain ⟨t418, A270, H⟩ := H); (try dsimp only at H); (have A27 := Aside0.mk A270); clear A270; (have HC28 := Aside0.mk H); clear H; (have p415 : 0 ≤ (x25_2 : Int) := of_decide_eq_true (by first | (with_reducible assumption) | assumption)); (have q415 : x25_2 < (y411.length : Int) := of_decide_eq_true (by first | (with_reducible assumption) | assumption)); (obtain ⟨ad415, A415_5, c415_5, e415, hx415_0, hx415_1, hx415_2, hx415_3, hx415_4, hx415_5, hl415_5, hi415_5⟩ := at_T46 HR414.out x25_2 p415 q415)
                          cases e415
                          (replace hx415_0 := pw_cell_below HB.out hx415_0); (replace hx415_1 := pw_cell_below HB.out hx415_1); (replace hx415_2 := pw_cell_below HB.out hx415_2); (replace hx415_3 := pw_cell_below HB.out hx415_3); (replace hx415_4 := pw_cell_below HB.out hx415_4); (replace hx415_5 := pw_cell_below HB.out hx415_5); (have HR415_5 := Aside0.mk hi415_5); (have HC415_5 := Aside0.mk hl415_5); clear hi415_5 hl415_5; (replace p415 := eq_true p415); (replace q415 := eq_true q415); (go_upto_if 39 with (first | ((with_reducible refine gate_dst (N := 9) rfl ?_); (try (refine gate_guard (by rfl) ?_; dsimp only)); refine bx_ 9 #[.bool false, .int .i64 0, .bool false, .bool false, .bool false, .slice none 0 0] 46 HB ?_; clear HB; intro gb416 w29 hg hb BK416 HB GW416; have GE416 := GW416; have NB410_416 := nl_ BK410 hg; have NB416_410 := ng_ BK410 hg; replace BK410 := bb_ BK410 hb; clear hg hb; have hnb30 := NB416_410.out; have hnc30 := NB410_416.out; have hcz31 := blk_cell BK416.out; have hfz31 := blk_frozen BK416.out) | (go_at_call 53; (with_reducible refine (piece_isRest.calls ((rd_T46 y411 x25_2).f0) ((rd_T46 y411 x25_2).f1.f0) ((rd_T46 y411 x25_2).f1.f1) ((rd_T46 y411 x25_2).f1.f2) ((rd_T46 y411 x25_2).f2) _ _ ((rd_T46 y411 x25_2).f3) false _ ?side1 ?side2 A21.out).mono ?_); (case side1 => exact kc_ HR415_5 HB); (case side2 => exact HC415_5.out); rintro e w32 ⟨rfl, hb⟩; replace BK410 := bb_ BK410 hb; replace BK416 := Aside0.mk (blk_below (g := gb416) (o := .cells #[.bool ((rd_T46 y411 x25_2).f0), .int .i64 ((rd_T46 y411 x25_2).f1.f0), .bool ((rd_T46 y411 x25_2).f1.f1), .bool ((rd_T46 y411 x25_2).f1.f2), .bool ((rd_T46 y411 x25_2).f2), .slice A415_5 ((rd_T46 y411 x25_2).f3).length c415_5] 46 (0, 0)) (bk_ BK416) hb); replace HB := bs_ HB hb; (try clear hb); (try clear hb2); (try clear hk); (try clear hi); have hcz33 := blk_cell BK416.out; have hfz33 := blk_frozen BK416.out) | (go_at_call 54; (with_reducible refine (piece_plucks.calls ((rd_T46 y411 x25_2).f0) ((rd_T46 y411 x25_2).f1.f0) ((rd_T46 y411 x25_2).f1.f1) ((rd_T46 y411 x25_2).f1.f2) ((rd_T46 y411 x25_2).f2) _ _ ((rd_T46 y411 x25_2).f3) a2 t418 _ ?side1 ?side2 A27.out).mono ?_); (case side1 => exact kc_ HR415_5 HB); (case side2 => exact HC415_5.out); rintro e w34 ⟨rfl, hb⟩; replace BK410 := bb_ BK410 hb; replace BK416 := bb_ BK416 hb; replace HB := bs_ HB hb; (try clear hb); (try clear hb2); (try clear hk); (try clear hi)))); ((try simp only [Act.put, List.setIfInBounds_toArray, List.set_cons_zero, List.set_cons_succ])); (have H := HC28.out); clear HC28; (by_cases c35 : t418 = true)
                          · subst c35
                            (rw [if_pos rfl] at H); (obtain rfl := Option.some.inj H); (go_wp2); (go_ret); (exact ⟨by first | rfl | (simp [errW_none, errW_some] <;> rfl) | (simp only [← hji9]; first | rfl | (simp [errW_none, errW_some] <;> rfl)) | (simp [*, errW_none, errW_some] <;> rfl), bl_ HB⟩)
                          · replace c35 := Bool.eq_false_iff.mpr c35
                            subst c35; (rw [if_neg Bool.false_ne_true] at H); (have H' := Aside0.mk H); clear H; (go_wp2); (go_roundg k2)
                            case measure => have := HJ3.out; have := HK2.out; omega
                            case rel => exact ⟨(wrap64 (x7_2 + 1)), (wrap64 (x25_2 + 1)), (rs_), (rs_), H', ⟨by have := HJ3.out; have := HK2.out; omega⟩, ⟨bk_ BK410⟩, ⟨bl_ HB⟩⟩
                    · rw [if_neg c16] at H
                      exact absurd H (by simp)
                  · rw [if_neg c15] at H
                    exact absurd H (by simp)
                · rw [if_neg c14] at H
                  (have c14b0 := decide_eq_false c14); clear c14; (obtain rfl := Option.some.inj H); (go_wp2); (go_ret); (exact ⟨by first | rfl | (simp [errW_none, errW_some] <;> rfl) | (simp only [← hji9]; first | rfl | (simp [errW_none, errW_some] <;> rfl)) | (simp [*, errW_none, errW_some] <;> rfl), bl_ HB⟩)
          · rw [if_neg c11] at H
            exact absurd H (by simp)
        · rw [if_neg c10] at H
          exact absurd H (by simp)

/-! ### piece_checkStop: function 37 -/
mutual
def piece_checkStop.j0 : Nat → Int → Int → Bool → List (S99) → List Int → List (S46) → Int → Int → Int → Int → Int → Option (Int)
  | 0, _, _, _, _, _, _, _, _, _, _, _ => none
  | k + 1, x1, x3, x9, x424000, x424001, x424002, x425000, x425001, x425002, x425003, x425004 => if x9 = true then (some 12) else (if x425001 < 0 then (piece_checkStop.j1 k x1 x3 true x424000 x424001 x424002 x425000 x425001 x425002 x425003 x425004) else (if 0 ≤ (wrap64 (x425000 - 1)) then (if (wrap64 (x425000 - 1)) < (x424000.length : Int) then (piece_checkStop.j1 k x1 x3 (decide (x425001 > ((rd_T99 x424000 (wrap64 (x425000 - 1))).f1))) x424000 x424001 x424002 x425000 x425001 x425002 x425003 x425004) else (none)) else (none)))
def piece_checkStop.j1 : Nat → Int → Int → Bool → List (S99) → List Int → List (S46) → Int → Int → Int → Int → Int → Option (Int)
  | 0, _, _, _, _, _, _, _, _, _, _, _ => none
  | k + 1, x1, x3, x22, x424000, x424001, x424002, x425000, x425001, x425002, x425003, x425004 => if x22 = true then (some 13) else (if x425000 ≤ x3 then (some 22) else (if x425002 < 0 then (piece_checkStop.j2 k x1 true x424000 x424001 x424002 x425000 x425001 x425002 x425003 x425004) else (if x425002 > 3 then (piece_checkStop.j2 k x1 true x424000 x424001 x424002 x425000 x425001 x425002 x425003 x425004) else (if x425003 < 0 then (piece_checkStop.j2 k x1 true x424000 x424001 x424002 x425000 x425001 x425002 x425003 x425004) else (piece_checkStop.j2 k x1 (decide (x425003 > 4)) x424000 x424001 x424002 x425000 x425001 x425002 x425003 x425004)))))
def piece_checkStop.j2 : Nat → Int → Bool → List (S99) → List Int → List (S46) → Int → Int → Int → Int → Int → Option (Int)
  | 0, _, _, _, _, _, _, _, _, _, _ => none
  | k + 1, x1, x45, x424000, x424001, x424002, x425000, x425001, x425002, x425003, x425004 => if x45 = true then (some 23) else (if x425004 < 0 then (some 24) else ((piece_Longest.f k x424000 x424001 x424002 x1 x425000).bind fun t426 => (if x425004 > t426 then (some 24) else (if x425004 > 0 then (if x425001 = 0 then (some 24) else (some 0)) else (some 0)))))
end
def piece_checkStop.f (k : Nat) (l0_0 : List (S99)) (l0_1 : List Int) (l0_2 : List (S46)) (a1 : Int) (a2_0 : Int) (a2_1 : Int) (a2_2 : Int) (a2_3 : Int) (a2_4 : Int) (a3 : Int) : Option (Int) := if a2_0 < 1 then (piece_checkStop.j0 k a1 a3 true l0_0 l0_1 l0_2 a2_0 a2_1 a2_2 a2_3 a2_4) else (piece_checkStop.j0 k a1 a3 (decide (a2_0 > (l0_0.length : Int))) l0_0 l0_1 l0_2 a2_0 a2_1 a2_2 a2_3 a2_4)
theorem piece_checkStop.mono_l : ∀ k, (∀ y0 y1 y2 y3 y4 y5 y6 y7 y8 y9 y10, LeO (piece_checkStop.j0 k y0 y1 y2 y3 y4 y5 y6 y7 y8 y9 y10) (piece_checkStop.j0 (k + 1) y0 y1 y2 y3 y4 y5 y6 y7 y8 y9 y10)) ∧ (∀ y0 y1 y2 y3 y4 y5 y6 y7 y8 y9 y10, LeO (piece_checkStop.j1 k y0 y1 y2 y3 y4 y5 y6 y7 y8 y9 y10) (piece_checkStop.j1 (k + 1) y0 y1 y2 y3 y4 y5 y6 y7 y8 y9 y10)) ∧ (∀ y0 y1 y2 y3 y4 y5 y6 y7 y8 y9, LeO (piece_checkStop.j2 k y0 y1 y2 y3 y4 y5 y6 y7 y8 y9) (piece_checkStop.j2 (k + 1) y0 y1 y2 y3 y4 y5 y6 y7 y8 y9))
  | 0 => ⟨fun _ _ _ _ _ _ _ _ _ _ _ r h => by simp [piece_checkStop.j0] at h, fun _ _ _ _ _ _ _ _ _ _ _ r h => by simp [piece_checkStop.j1] at h, fun _ _ _ _ _ _ _ _ _ _ r h => by simp [piece_checkStop.j2] at h⟩
  | k + 1 => by
    ((obtain ⟨ih0, ih1, ih2⟩ := piece_checkStop.mono_l k); (refine ⟨?_, ?_, ?_⟩)); (focus intro y0 y1 y2 y3 y4 y5 y6 y7 y8 y9 y10; (unfold piece_checkStop.j0); (repeat' first | (with_reducible first | apply ih0 | apply ih1 | apply ih2 | apply piece_Longest.mono | exact LeO.refl _ | exact LeO.none _ | refine LeO.ite ?_ ?_ | refine LeO.bind ?_ fun _ => ?_) | exact LeO.none _ | refine LeO.ite ?_ ?_ | refine LeO.bind ?_ fun _ => ?_ | apply ih0 | apply ih1 | apply ih2 | apply piece_Longest.mono)); (focus intro y0 y1 y2 y3 y4 y5 y6 y7 y8 y9 y10; (unfold piece_checkStop.j1); (repeat' first | (with_reducible first | apply ih0 | apply ih1 | apply ih2 | apply piece_Longest.mono | exact LeO.refl _ | exact LeO.none _ | refine LeO.ite ?_ ?_ | refine LeO.bind ?_ fun _ => ?_) | exact LeO.none _ | refine LeO.ite ?_ ?_ | refine LeO.bind ?_ fun _ => ?_ | apply ih0 | apply ih1 | apply ih2 | apply piece_Longest.mono)); (focus intro y0 y1 y2 y3 y4 y5 y6 y7 y8 y9; (unfold piece_checkStop.j2); (repeat' first | (with_reducible first | apply ih0 | apply ih1 | apply ih2 | apply piece_Longest.mono | exact LeO.refl _ | exact LeO.none _ | refine LeO.ite ?_ ?_ | refine LeO.bind ?_ fun _ => ?_) | exact LeO.none _ | refine LeO.ite ?_ ?_ | refine LeO.bind ?_ fun _ => ?_ | apply ih0 | apply ih1 | apply ih2 | apply piece_Longest.mono))
theorem piece_checkStop.mono : ∀ a0 a1 a2 a3 a4 a5 a6 a7 a8 a9 k, LeO (piece_checkStop.f k a0 a1 a2 a3 a4 a5 a6 a7 a8 a9) (piece_checkStop.f (k + 1) a0 a1 a2 a3 a4 a5 a6 a7 a8 a9) := by
  intro a0 a1 a2 a3 a4 a5 a6 a7 a8 a9 k
  obtain ⟨ih0, ih1, ih2⟩ := piece_checkStop.mono_l k
  unfold piece_checkStop.f
  repeat' first | (with_reducible first | apply ih0 | apply ih1 | apply ih2 | apply piece_Longest.mono | exact LeO.refl _ | exact LeO.none _ | refine LeO.ite ?_ ?_ | refine LeO.bind ?_ fun _ => ?_) | exact LeO.none _ | refine LeO.ite ?_ ?_ | refine LeO.bind ?_ fun _ => ?_ | apply ih0 | apply ih1 | apply ih2 | apply piece_Longest.mono
def piece_checkStop.T3 : Bool × List (List Nat × List Nat) := (true, [([], []), ([0], [0]), ([1], [1]), ([2], [2]), ([3], [3]), ([4, 3], [3, 4]), ([3], [3]), ([6, 3], [3, 6]), ([7, 3], [3, 7]), ([3], [3]), ([9, 3], [3, 9]), ([10, 3], [3, 10]), ([8, 11, 3], [3, 8, 11]), ([12, 3], [3, 12]), ([13, 3], [3, 13]), ([5, 14, 3], [3, 5, 14]), ([3, 15], [3, 15]), ([16, 3], [16])])
def piece_checkStop.B3 : List Nat := [0, 1, 3, 7, 15, 31, 15, 79, 207, 15, 527, 1551, 4047, 8143, 16335, 32767, 65535, 131071]
theorem piece_checkStop.tab3 : rtab .any (opsOf Tryz.f37 3) = piece_checkStop.T3 := by kernel_rfl
theorem piece_checkStop.bits3 : waitsOk piece_checkStop.T3.2 piece_checkStop.B3 = true := by kernel_rfl
def piece_checkStop.T9 : Bool × List (List Nat × List Nat) := (true, [([], []), ([0], [0]), ([1], [1]), ([2], [2]), ([3], [3]), ([4, 3], [3, 4]), ([3], [3]), ([3], [3]), ([3], [3]), ([8, 3], [3, 8]), ([6, 7, 9, 3, 3], [3, 6, 7, 9]), ([5, 10, 3], [3, 5, 10]), ([3, 11], [3, 11]), ([12, 10], [12]), ([13], [13]), ([14, 13], [13, 14]), ([15, 13], [13, 15]), ([16, 13, 13], [13, 16]), ([17], [17]), ([18, 17], [17, 18]), ([19, 17], [17, 19]), ([17, 20, 13], [13, 17, 20]), ([13, 21], [13, 21]), ([22, 17], [22])])
def piece_checkStop.B9 : List Nat := [0, 1, 3, 7, 15, 31, 15, 15, 15, 271, 975, 2047, 4095, 8191, 16383, 32767, 65535, 131071, 262143, 524287, 1048575, 2097151, 4194303, 8388607]
theorem piece_checkStop.tab9 : rtab .any (opsOf Tryz.f37 9) = piece_checkStop.T9 := by kernel_rfl
theorem piece_checkStop.bits9 : waitsOk piece_checkStop.T9.2 piece_checkStop.B9 = true := by kernel_rfl
set_option maxHeartbeats 8000000 in
set_option maxRecDepth 100000 in
theorem piece_checkStop.calls (k : Nat) (A0_0 : Option Addr) (c0_0 : Nat) (l0_0 : List (S99)) (A0_1 : Option Addr) (c0_1 : Nat) (l0_1 : List Int) (A0_2 : Option Addr) (c0_2 : Nat) (l0_2 : List (S46)) (a1 : Int) (a2_0 : Int) (a2_1 : Int) (a2_2 : Int) (a2_3 : Int) (a2_4 : Int) (a3 : Int) (r : Int) (w : World) (hr0_0 : Kd.C k99 w A0_0 l0_0.length l0_0) (hc0_0 : l0_0.length ≤ c0_0) (hr0_1 : Kd.C (Kd.int .i64) w A0_1 l0_1.length l0_1) (hc0_1 : l0_1.length ≤ c0_1) (hr0_2 : Kd.C k46 w A0_2 l0_2.length l0_2) (hc0_2 : l0_2.length ≤ c0_2) (h : piece_checkStop.f k l0_0 l0_1 l0_2 a1 a2_0 a2_1 a2_2 a2_3 a2_4 a3 = some r) :
    Calls Tryz.prog 37 #[.agg #[.slice A0_0 l0_0.length c0_0, .slice A0_1 l0_1.length c0_1, .slice A0_2 l0_2.length c0_2], .int .i64 a1, .agg #[.int .i64 a2_0, .int .i64 a2_1, .int .i64 a2_2, .int .i64 a2_3, .int .i64 a2_4], .int .i64 a3] w fun e w' => e = .returned (.int .i64 r) ∧ Below w.heap.size w w' := by
  have hu29 := Tryz.underlying29
  have hu54 := Tryz.underlying54
  have HR0_0 := Aside0.mk hr0_0
  have HC0_0 := Aside0.mk hc0_0
  clear hr0_0 hc0_0
  have HR0_1 := Aside0.mk hr0_1
  have HC0_1 := Aside0.mk hc0_1
  clear hr0_1 hc0_1
  have HR0_2 := Aside0.mk hr0_2
  have HC0_2 := Aside0.mk hc0_2
  clear hr0_2 hc0_2
  have HB := Aside0.mk (Below.refl w.heap.size w)
  have H : (if a2_0 < 1 then (piece_checkStop.j0 k a1 a3 true l0_0 l0_1 l0_2 a2_0 a2_1 a2_2 a2_3 a2_4) else (piece_checkStop.j0 k a1 a3 (decide (a2_0 > (l0_0.length : Int))) l0_0 l0_1 l0_2 a2_0 a2_1 a2_2 a2_3 a2_4)) = some r := h
  clear h
  have HC5 := Aside0.mk H
  clear H
  go_enter Tryz.func37, Tryz.ntmps37
  go_upto_region 1 with (first | ((with_reducible refine gate_dst (N := 4) rfl ?_); (try (refine gate_guard (by rfl) ?_; dsimp only)); refine bx_ 4 #[.slice A0_0 l0_0.length c0_0, .slice A0_1 l0_1.length c0_1, .slice A0_2 l0_2.length c0_2] 29 HB ?_; clear HB; intro gb423 w6 hg hb BK423 HB GW423; have GE423 := GW423; clear hg hb) | ((with_reducible refine gate_dst (N := 6) rfl ?_); (try (refine gate_guard (by rfl) ?_; dsimp only)); refine bx_ 6 #[.int .i64 a2_0, .int .i64 a2_1, .int .i64 a2_2, .int .i64 a2_3, .int .i64 a2_4] 54 HB ?_; clear HB; intro gb424 w7 hg hb BK424 HB GW424; have GE424 := GW424; have NB423_424 := nl_ BK423 hg; have NB424_423 := ng_ BK423 hg; replace BK423 := bb_ BK423 hb; clear hg hb))
  (try simp only [Act.put, List.setIfInBounds_toArray, List.set_cons_zero, List.set_cons_succ])
  go_cut [9] (fun v9 wc => ∃ (kq : Nat) (x9_4 : Bool), v9 = .bool x9_4 ∧ Aside0 (piece_checkStop.j0 kq a1 a3 x9_4 l0_0 l0_1 l0_2 a2_0 a2_1 a2_2 a2_3 a2_4 = some r) ∧ Aside0 (kq ≤ k) ∧ Aside0 (wc.heap[gb423]? = some (.cells #[(.slice A0_0 l0_0.length c0_0), (.slice A0_1 l0_1.length c0_1), (.slice A0_2 l0_2.length c0_2)] 29 (0, 0))) ∧ Aside0 (wc.heap[gb424]? = some (.cells #[.int .i64 a2_0, .int .i64 a2_1, .int .i64 a2_2, .int .i64 a2_3, .int .i64 a2_4] 54 (0, 0))) ∧ Aside0 (Below w.heap.size w wc))
  case first =>
    (have H := HC5.out); clear HC5; (by_cases c8 : a2_0 < 1)
    · rw [if_pos c8] at H
      (have c8b0 := decide_eq_true c8); clear c8; ((first | rw [c8b0] | (simp only [i64_w, i32_w]; rw [c8b0]) | skip)); (have H' := Aside0.mk H); clear H; (have hnb9 := NB424_423.out); (have hnc9 := NB423_424.out); (have hcz10 := blk_cell BK424.out); (have hfz10 := blk_frozen BK424.out); (go_wp2); (go_meet)
      case rel => exact ⟨_, (true), (rs_), H', ⟨om_⟩, ⟨bk_ BK423⟩, ⟨bk_ BK424⟩, ⟨bl_ HB⟩⟩
    · rw [if_neg c8] at H
      (have c8b0 := decide_eq_false c8); clear c8; ((first | rw [c8b0] | (simp only [i64_w, i32_w]; rw [c8b0]) | skip)); (have H' := Aside0.mk H); clear H; (have hnb11 := NB424_423.out); (have hnc11 := NB423_424.out); (have hcz12 := blk_cell BK424.out); (have hfz12 := blk_frozen BK424.out); (have hcz13 := blk_cell BK423.out); (have hfz13 := blk_frozen BK423.out); (go_wp2); (go_meet)
      case rel => exact ⟨_, (decide (a2_0 > (l0_0.length : Int))), (rs_), H', ⟨om_⟩, ⟨bk_ BK423⟩, ⟨bk_ BK424⟩, ⟨bl_ HB⟩⟩
  case rest =>
    clear HC5; (obtain ⟨kq, x9_4, rfl, HA, HJ4, BK423, BK424, HB⟩ := hcut)
    cases kq with
    | zero => exact absurd HA.out (by simp [piece_checkStop.j0])
    | succ kj4 =>
      (have H := HA.out); clear HA; (simp only [piece_checkStop.j0] at H); (by_cases c14 : x9_4 = true)
      · subst c14
        (rw [if_pos rfl] at H); (obtain rfl := Option.some.inj H); (go_wp2); (go_ret); (exact ⟨rv_, bl_ HB⟩)
      · replace c14 := Bool.eq_false_iff.mpr c14
        subst c14; (rw [if_neg Bool.false_ne_true] at H); (have HC15 := Aside0.mk H); clear H; (go_upto_region 3 with (fail)); (go_cut [22] (fun v22 wc => ∃ (kq : Nat) (x22_14 : Bool), v22 = .bool x22_14 ∧ Aside0 (piece_checkStop.j1 kq a1 a3 x22_14 l0_0 l0_1 l0_2 a2_0 a2_1 a2_2 a2_3 a2_4 = some r) ∧ Aside0 (kq ≤ kj4) ∧ Aside0 (wc.heap[gb423]? = some (.cells #[(.slice A0_0 l0_0.length c0_0), (.slice A0_1 l0_1.length c0_1), (.slice A0_2 l0_2.length c0_2)] 29 (0, 0))) ∧ Aside0 (wc.heap[gb424]? = some (.cells #[.int .i64 a2_0, .int .i64 a2_1, .int .i64 a2_2, .int .i64 a2_3, .int .i64 a2_4] 54 (0, 0))) ∧ Aside0 (Below w.heap.size w wc)))
        case first =>
          (have H := HC15.out); clear HC15; (by_cases c16 : a2_1 < 0)
          · rw [if_pos c16] at H
            (have c16b0 := decide_eq_true c16); clear c16; ((first | rw [c16b0] | (simp only [i64_w, i32_w]; rw [c16b0]) | skip)); (have H' := Aside0.mk H); clear H; (try go_wp2); (replace BK423 := Aside0.mk (blk_drew BK423.out)); (replace BK424 := Aside0.mk (blk_drew BK424.out)); (replace HB := Aside0.mk (below_drew1 HB.out)); (refine start_ (n := 18) (S := fun w' => w'.cell? ⟨gb424, 0, none⟩ = some (.int .i64 a2_0) ∧ w'.cell? ⟨gb424, 1, none⟩ = some (.int .i64 a2_1) ∧ w'.cell? ⟨gb424, 2, none⟩ = some (.int .i64 a2_2) ∧ w'.cell? ⟨gb424, 3, none⟩ = some (.int .i64 a2_3) ∧ w'.cell? ⟨gb424, 4, none⟩ = some (.int .i64 a2_4)) (ds := []) _ (by kernel_rfl) rfl rfl ⟨(blk_cell BK424.out 0).trans rfl, (blk_cell BK424.out 1).trans rfl, (blk_cell BK424.out 2).trans rfl, (blk_cell BK424.out 3).trans rfl, (blk_cell BK424.out 4).trans rfl⟩ (fun hHeld => ?_); refine with_tabW piece_checkStop.tab3 piece_checkStop.bits3 (fun HT_ HW_ => ?_)); (generalize wc.drew = w17 at BK423 BK424 HB hHeld ⊢); (refine pS_ 0 (some 23) HT_ ?_); (refine tS_ 1 (some 24) HT_ HW_ hHeld ?_); (refine pS_ 2 (some 25) HT_ ?_); (refine pS_ 3 (some 26) HT_ ?_); (refine uS_ 4 (some 27) HT_ ?_); (refine uS_ 5 (some 28) HT_ ?_); (refine uS_ 6 (some 29) HT_ ?_); (refine uS_ 7 (some 30) HT_ ?_); (refine uS_ 8 (some 31) HT_ ?_); (refine uS_ 9 (some 32) HT_ ?_); (refine uS_ 10 (some 33) HT_ ?_); (refine uS_ 11 (some 34) HT_ ?_); (refine uS_ 12 (some 35) HT_ ?_); (refine uS_ 13 (some 36) HT_ ?_); (refine uS_ 14 (some 37) HT_ ?_); (refine uS_ 15 (some 38) HT_ ?_); (refine pS_ 16 (some 39) HT_ ?_); (refine pS_ 17 (some 22) HT_ ?_); (refine done_ (done_of HT_.out (by kernel_rfl)) ?_); (try go_wp2); (go_meet)
            case rel => exact ⟨_, (true), (rs_), H', ⟨by have := HJ4.out; first | omega | exact Nat.le_refl _⟩, ⟨bk_ BK423⟩, ⟨bk_ BK424⟩, ⟨bl_ HB⟩⟩
          · rw [if_neg c16] at H
            (have c16b0 := decide_eq_false c16); clear c16; ((first | rw [c16b0] | (simp only [i64_w, i32_w]; rw [c16b0]) | skip)); (obtain ⟨ji18, hji18⟩ : ∃ j_ : Int, (wrap64 (a2_0 - 1)) = j_ := ⟨_, rfl⟩); (replace H : (if 0 ≤ (ji18) then (if (ji18) < (l0_0.length : Int) then (piece_checkStop.j1 kj4 a1 a3 (decide (a2_1 > ((rd_T99 l0_0 (ji18)).f1))) l0_0 l0_1 l0_2 a2_0 a2_1 a2_2 a2_3 a2_4) else (none)) else (none)) = some r := by first | (rw [hji18] at H; exact H) | (simp only [hji18] at H ⊢; exact H)); (have hji18w : (IntKind.i64.wrap (a2_0 - 1)) = ji18 := (i64_w _).trans hji18); (by_cases c19 : 0 ≤ (ji18))
            · rw [if_pos c19] at H
              (have c19b0 := decide_eq_true c19); clear c19; (by_cases c20 : (ji18) < (l0_0.length : Int))
              · rw [if_pos c20] at H
                (have c20b0 := decide_eq_true c20); clear c20; (have H' := Aside0.mk H); clear H; (try go_wp2); (replace BK423 := Aside0.mk (blk_drew BK423.out)); (replace BK424 := Aside0.mk (blk_drew BK424.out)); (replace HB := Aside0.mk (below_drew1 HB.out)); (have p425 : 0 ≤ ((ji18) : Int) := of_decide_eq_true (by first | (with_reducible assumption) | assumption)); (have q425 : (ji18) < (l0_0.length : Int) := of_decide_eq_true (by first | (with_reducible assumption) | assumption)); (obtain ⟨ad425, e425, hx425_0, hx425_1, hx425_2⟩ := at_T99 HR0_0.out (ji18) p425 q425); (have hw425_2 := hx425_2); (have hw425_1 := hx425_1); (have hw425_0 := hx425_0)
                cases e425
                (replace hx425_0 := pw_cell_below HB.out hx425_0); (replace hx425_1 := pw_cell_below HB.out hx425_1); (replace hx425_2 := pw_cell_below HB.out hx425_2); (replace p425 := eq_true p425); (replace q425 := eq_true q425); (refine start_ (n := 18) (S := fun w' => w'.cell? ⟨gb424, 0, none⟩ = some (.int .i64 a2_0) ∧ w'.cell? ⟨gb424, 1, none⟩ = some (.int .i64 a2_1) ∧ w'.cell? ⟨gb424, 2, none⟩ = some (.int .i64 a2_2) ∧ w'.cell? ⟨gb424, 3, none⟩ = some (.int .i64 a2_3) ∧ w'.cell? ⟨gb424, 4, none⟩ = some (.int .i64 a2_4) ∧ w'.cell? ⟨gb423, 0, none⟩ = some (.slice (some ad425) l0_0.length c0_0) ∧ w'.cell? ⟨gb423, 1, none⟩ = some (.slice A0_1 l0_1.length c0_1) ∧ w'.cell? ⟨gb423, 2, none⟩ = some (.slice A0_2 l0_2.length c0_2) ∧ w'.cell? (ad425.add (((ji18)).toNat * 3)) = some (.int .i64 ((rd_T99 l0_0 (ji18)).f0)) ∧ w'.cell? ⟨(ad425.add (((ji18)).toNat * 3)).block, (ad425.add (((ji18)).toNat * 3)).off + 1, none⟩ = some (.int .i64 ((rd_T99 l0_0 (ji18)).f1)) ∧ w'.cell? ⟨(ad425.add (((ji18)).toNat * 3)).block, (ad425.add (((ji18)).toNat * 3)).off + 2, none⟩ = some (.bool ((rd_T99 l0_0 (ji18)).f2))) (ds := []) _ (by kernel_rfl) rfl rfl ⟨(blk_cell BK424.out 0).trans rfl, (blk_cell BK424.out 1).trans rfl, (blk_cell BK424.out 2).trans rfl, (blk_cell BK424.out 3).trans rfl, (blk_cell BK424.out 4).trans rfl, (blk_cell BK423.out 0).trans rfl, (blk_cell BK423.out 1).trans rfl, (blk_cell BK423.out 2).trans rfl, (pw_cell_below HB.out hw425_0), (pw_cell_below HB.out hw425_1), (pw_cell_below HB.out hw425_2)⟩ (fun hHeld => ?_); refine with_tabW piece_checkStop.tab3 piece_checkStop.bits3 (fun HT_ HW_ => ?_)); (generalize wc.drew = w21 at BK423 BK424 HB hx425_0 hx425_1 hx425_2 hHeld ⊢); (refine pS_ 0 (some 23) HT_ ?_); (refine tS_ 1 (some 24) HT_ HW_ hHeld ?_); (refine pS_ 2 (some 25) HT_ ?_); (refine pS_ 3 (some 26) HT_ ?_); (refine pS_ 4 (some 27) HT_ ?_); (refine pS_ 6 (some 29) HT_ ?_); (refine pS_ 7 (some 30) HT_ ?_); (refine pS_ 9 (some 32) HT_ ?_); (refine tS_ 5 (some 28) HT_ HW_ hHeld ?_); (refine tS_ 8 (some 31) HT_ HW_ hHeld ?_); (refine tS_ 10 (some 33) HT_ HW_ hHeld ?_); (refine pS_ 11 (some 34) HT_ ?_); (refine pS_ 12 (some 35) HT_ ?_); (refine pS_ 13 (some 36) HT_ ?_); (refine tS_ 14 (some 37) HT_ HW_ hHeld ?_); (refine pS_ 15 (some 38) HT_ ?_); (refine pS_ 16 (some 39) HT_ ?_); (refine pS_ 17 (some 22) HT_ ?_); (refine done_ (done_of HT_.out (by kernel_rfl)) ?_); (try go_wp2); (go_meet)
                case rel => exact ⟨_, (decide (a2_1 > ((rd_T99 l0_0 (ji18)).f1))), (by first | rfl | (simp; done) | (simp only [← hji18] <;> (first | rfl | simp)) | (simp [*]; done)), H', ⟨by have := HJ4.out; first | omega | exact Nat.le_refl _⟩, ⟨bk_ BK423⟩, ⟨bk_ BK424⟩, ⟨bl_ HB⟩⟩
              · rw [if_neg c20] at H
                exact absurd H (by simp)
            · rw [if_neg c19] at H
              exact absurd H (by simp)
        case rest =>
          clear HC15; (try clear c14); (obtain ⟨kq, x22_14, rfl, HA, HJ14, BK423, BK424, HB⟩ := hcut)
          cases kq with
          | zero => exact absurd HA.out (by simp [piece_checkStop.j1])
          | succ kj14 =>
            (have H := HA.out); clear HA; (simp only [piece_checkStop.j1] at H); (by_cases c22 : x22_14 = true)
            · subst c22
              (rw [if_pos rfl] at H); (obtain rfl := Option.some.inj H); (go_wp2); (go_ret); (exact ⟨rv_, bl_ HB⟩)
            · replace c22 := Bool.eq_false_iff.mpr c22
              subst c22; (rw [if_neg Bool.false_ne_true] at H); (have HC23 := Aside0.mk H); clear H; (have hnb24 := NB424_423.out); (have hnc24 := NB423_424.out); (have hcz25 := blk_cell BK424.out); (have hfz25 := blk_frozen BK424.out); (go_upto_if 40 with (fail)); (have H := HC23.out); clear HC23; (by_cases c26 : a2_0 ≤ a3)
              · rw [if_pos c26] at H
                (have c26b0 := decide_eq_true c26); clear c26; ((first | rw [c26b0] | (simp only [i64_w, i32_w]; rw [c26b0]) | skip)); (obtain rfl := Option.some.inj H); (go_wp2); (go_ret); (exact ⟨rv_, bl_ HB⟩)
              · rw [if_neg c26] at H
                (have c26b0 := decide_eq_false c26); clear c26; ((first | rw [c26b0] | (simp only [i64_w, i32_w]; rw [c26b0]) | skip)); (have HC27 := Aside0.mk H); clear H; (go_upto_region 7 with (fail)); (go_cut [45] (fun v45 wc => ∃ (kq : Nat) (x45_26 : Bool), v45 = .bool x45_26 ∧ Aside0 (piece_checkStop.j2 kq a1 x45_26 l0_0 l0_1 l0_2 a2_0 a2_1 a2_2 a2_3 a2_4 = some r) ∧ Aside0 (kq ≤ kj14) ∧ Aside0 (wc.heap[gb423]? = some (.cells #[(.slice A0_0 l0_0.length c0_0), (.slice A0_1 l0_1.length c0_1), (.slice A0_2 l0_2.length c0_2)] 29 (0, 0))) ∧ Aside0 (wc.heap[gb424]? = some (.cells #[.int .i64 a2_0, .int .i64 a2_1, .int .i64 a2_2, .int .i64 a2_3, .int .i64 a2_4] 54 (0, 0))) ∧ Aside0 (Below w.heap.size w wc)))
                case first =>
                  (have H := HC27.out); clear HC27; (by_cases c28 : a2_2 < 0)
                  · rw [if_pos c28] at H
                    (have c28b0 := decide_eq_true c28); clear c28; ((first | rw [c28b0] | (simp only [i64_w, i32_w]; rw [c28b0]) | skip)); (have H' := Aside0.mk H); clear H; (have hnb29 := NB424_423.out); (have hnc29 := NB423_424.out); (have hcz30 := blk_cell BK424.out); (have hfz30 := blk_frozen BK424.out); (go_wp2); (go_meet)
                    case rel => exact ⟨_, (true), (rs_), H', ⟨by have := HJ4.out; have := HJ14.out; first | omega | exact Nat.le_refl _⟩, ⟨bk_ BK423⟩, ⟨bk_ BK424⟩, ⟨bl_ HB⟩⟩
                  · rw [if_neg c28] at H
                    (have c28b0 := decide_eq_false c28); clear c28; ((first | rw [c28b0] | (simp only [i64_w, i32_w]; rw [c28b0]) | skip)); (by_cases c31 : a2_2 > 3)
                    · rw [if_pos c31] at H
                      (have c31b0 : decide (3 < a2_2) = true := decide_eq_true c31); clear c31; (have H' := Aside0.mk H); clear H; (have hnb32 := NB424_423.out); (have hnc32 := NB423_424.out); (have hcz33 := blk_cell BK424.out); (have hfz33 := blk_frozen BK424.out); (go_wp2); (go_meet)
                      case rel => exact ⟨_, (true), (rs_), H', ⟨by have := HJ4.out; have := HJ14.out; first | omega | exact Nat.le_refl _⟩, ⟨bk_ BK423⟩, ⟨bk_ BK424⟩, ⟨bl_ HB⟩⟩
                    · rw [if_neg c31] at H
                      (have c31b0 : decide (3 < a2_2) = false := decide_eq_false c31); clear c31; (by_cases c34 : a2_3 < 0)
                      · rw [if_pos c34] at H
                        (have c34b0 := decide_eq_true c34); clear c34; (have H' := Aside0.mk H); clear H; (have hnb35 := NB424_423.out); (have hnc35 := NB423_424.out); (have hcz36 := blk_cell BK424.out); (have hfz36 := blk_frozen BK424.out); (go_wp2); (go_meet)
                        case rel => exact ⟨_, (true), (rs_), H', ⟨by have := HJ4.out; have := HJ14.out; first | omega | exact Nat.le_refl _⟩, ⟨bk_ BK423⟩, ⟨bk_ BK424⟩, ⟨bl_ HB⟩⟩
                      · rw [if_neg c34] at H
                        (have c34b0 := decide_eq_false c34); clear c34; (have H' := Aside0.mk H); clear H; (have hnb37 := NB424_423.out); (have hnc37 := NB423_424.out); (have hcz38 := blk_cell BK424.out); (have hfz38 := blk_frozen BK424.out); (go_wp2); (go_meet)
                        case rel => exact ⟨_, (decide (a2_3 > 4)), (rs_), H', ⟨by have := HJ4.out; have := HJ14.out; first | omega | exact Nat.le_refl _⟩, ⟨bk_ BK423⟩, ⟨bk_ BK424⟩, ⟨bl_ HB⟩⟩
                case rest =>
                  clear HC27; (try clear c22 c26b0 hcz25 hfz25); (obtain ⟨kq, x45_26, rfl, HA, HJ26, BK423, BK424, HB⟩ := hcut)
                  cases kq with
                  | zero => exact absurd HA.out (by simp [piece_checkStop.j2])
                  | succ kj26 =>
                    (have H := HA.out); clear HA; (simp only [piece_checkStop.j2] at H); (by_cases c39 : x45_26 = true)
                    · subst c39
                      (rw [if_pos rfl] at H); (obtain rfl := Option.some.inj H); (go_wp2); (go_ret); (exact ⟨rv_, bl_ HB⟩)
                    · replace c39 := Bool.eq_false_iff.mpr c39
                      subst c39; (rw [if_neg Bool.false_ne_true] at H); (by_cases c40 : a2_4 < 0)
                      · rw [if_pos c40] at H
                        (have c40b0 := decide_eq_true c40); clear c40; (obtain rfl := Option.some.inj H); (try go_wp2); (replace BK423 := Aside0.mk (blk_drew BK423.out)); (replace BK424 := Aside0.mk (blk_drew BK424.out)); (replace HB := Aside0.mk (below_drew1 HB.out)); (refine start_ (n := 24) (S := fun w' => w'.cell? ⟨gb424, 0, none⟩ = some (.int .i64 a2_0) ∧ w'.cell? ⟨gb424, 1, none⟩ = some (.int .i64 a2_1) ∧ w'.cell? ⟨gb424, 2, none⟩ = some (.int .i64 a2_2) ∧ w'.cell? ⟨gb424, 3, none⟩ = some (.int .i64 a2_3) ∧ w'.cell? ⟨gb424, 4, none⟩ = some (.int .i64 a2_4)) (ds := []) _ (by kernel_rfl) rfl rfl ⟨(blk_cell BK424.out 0).trans rfl, (blk_cell BK424.out 1).trans rfl, (blk_cell BK424.out 2).trans rfl, (blk_cell BK424.out 3).trans rfl, (blk_cell BK424.out 4).trans rfl⟩ (fun hHeld => ?_); refine with_tabW piece_checkStop.tab9 piece_checkStop.bits9 (fun HT_ HW_ => ?_)); (generalize wc.drew = w41 at BK423 BK424 HB hHeld ⊢); (refine pS_ 0 (some 65) HT_ ?_); (refine tS_ 1 (some 66) HT_ HW_ hHeld ?_); (refine pS_ 2 (some 67) HT_ ?_); (refine pS_ 3 (some 68) HT_ ?_); (refine uS_ 4 (some 69) HT_ ?_); (refine uS_ 5 (some 70) HT_ ?_); (refine uS_ 6 (some 71) HT_ ?_); (refine uS_ 7 (some 72) HT_ ?_); (refine uS_ 8 (some 73) HT_ ?_); (refine uS_ 9 (some 74) HT_ ?_); (refine uS_ 10 (some 75) HT_ ?_); (refine uS_ 11 (some 76) HT_ ?_); (refine pS_ 12 (some 77) HT_ ?_); (refine pS_ 13 (some 78) HT_ ?_); (refine uS_ 14 (some 79) HT_ ?_); (refine uS_ 15 (some 80) HT_ ?_); (refine uS_ 16 (some 81) HT_ ?_); (refine uS_ 17 (some 82) HT_ ?_); (refine uS_ 18 (some 83) HT_ ?_); (refine uS_ 19 (some 84) HT_ ?_); (refine uS_ 20 (some 85) HT_ ?_); (refine uS_ 21 (some 86) HT_ ?_); (refine pS_ 22 (some 87) HT_ ?_); (refine pS_ 23 (some 64) HT_ ?_); (refine done_ (done_of HT_.out (by kernel_rfl)) ?_); (try go_wp2); (go_ret); (exact ⟨rv_, bl_ HB⟩)
                      · rw [if_neg c40] at H
                        (have c40b0 := decide_eq_false c40); clear c40; (replace H := Option.bind_eq_some_iff.mp H); (obtain ⟨t426, A420, H⟩ := H); (try dsimp only at H); (have A42 := Aside0.mk A420); clear A420; (by_cases c43 : a2_4 > t426)
                        · rw [if_pos c43] at H
                          (have c43b0 : decide (t426 < a2_4) = true := decide_eq_true c43); clear c43; (obtain rfl := Option.some.inj H); (try go_wp2); (replace BK423 := Aside0.mk (blk_drew BK423.out)); (replace BK424 := Aside0.mk (blk_drew BK424.out)); (replace HB := Aside0.mk (below_drew1 HB.out)); (refine start_ (n := 24) (S := fun w' => w'.cell? ⟨gb424, 0, none⟩ = some (.int .i64 a2_0) ∧ w'.cell? ⟨gb424, 1, none⟩ = some (.int .i64 a2_1) ∧ w'.cell? ⟨gb424, 2, none⟩ = some (.int .i64 a2_2) ∧ w'.cell? ⟨gb424, 3, none⟩ = some (.int .i64 a2_3) ∧ w'.cell? ⟨gb424, 4, none⟩ = some (.int .i64 a2_4) ∧ w'.cell? ⟨gb423, 0, none⟩ = some (.slice A0_0 l0_0.length c0_0) ∧ w'.cell? ⟨gb423, 1, none⟩ = some (.slice A0_1 l0_1.length c0_1) ∧ w'.cell? ⟨gb423, 2, none⟩ = some (.slice A0_2 l0_2.length c0_2)) (ds := []) _ (by kernel_rfl) rfl rfl ⟨(blk_cell BK424.out 0).trans rfl, (blk_cell BK424.out 1).trans rfl, (blk_cell BK424.out 2).trans rfl, (blk_cell BK424.out 3).trans rfl, (blk_cell BK424.out 4).trans rfl, (blk_cell BK423.out 0).trans rfl, (blk_cell BK423.out 1).trans rfl, (blk_cell BK423.out 2).trans rfl⟩ (fun hHeld => ?_); refine with_tabW piece_checkStop.tab9 piece_checkStop.bits9 (fun HT_ HW_ => ?_)); (generalize wc.drew = w44 at BK423 BK424 HB hHeld ⊢); (refine pS_ 0 (some 65) HT_ ?_); (refine tS_ 1 (some 66) HT_ HW_ hHeld ?_); (refine pS_ 2 (some 67) HT_ ?_); (refine pS_ 3 (some 68) HT_ ?_); (refine pS_ 4 (some 69) HT_ ?_); (refine pS_ 7 (some 72) HT_ ?_); (refine pS_ 8 (some 73) HT_ ?_); (refine tS_ 5 (some 70) HT_ HW_ hHeld ?_); (refine tS_ 6 (some 71) HT_ HW_ hHeld ?_); (refine tS_ 9 (some 74) HT_ HW_ hHeld ?_); (refine oS_ 10 (some 75) HT_ (fun K hK => ?_)); (refine goes_ Tryz.func39 (by kernel_rfl) rfl #[.agg #[.slice A0_0 l0_0.length c0_0, .slice A0_1 l0_1.length c0_1, .slice A0_2 l0_2.length c0_2], .int .i64 a1, .int .i64 a2_0] (by rfl) rfl rfl (by (try simp only [mA_, mB_, mC_]); first | done | rfl | (simp only [List.length_drop, List.length_take]; rfl)) ?_); (with_reducible refine (piece_Longest.calls kj26 _ _ l0_0 _ _ l0_1 _ _ l0_2 a1 a2_0 t426 _ ?side1 ?side2 ?side3 ?side4 ?side5 ?side6 A42.out).mono ?_); ((case side1 => exact kc_ HR0_0 HB)); ((case side2 => exact HC0_0.out)); ((case side3 => exact kc_ HR0_1 HB)); ((case side4 => exact HC0_1.out)); ((case side5 => exact kc_ HR0_2 HB)); ((case side6 => exact HC0_2.out)); (rintro e w45 ⟨rfl, hb⟩); (refine ⟨_, rfl, ?_⟩); (replace BK423 := bb_ BK423 hb); (replace BK424 := bb_ BK424 hb); (replace HB := bs_ HB hb); ((try clear hb)); ((try clear hb2)); ((try clear hk)); ((try clear hi)); (refine hK.out _ _ ⟨(blk_cell BK424.out 0).trans rfl, (blk_cell BK424.out 1).trans rfl, (blk_cell BK424.out 2).trans rfl, (blk_cell BK424.out 3).trans rfl, (blk_cell BK424.out 4).trans rfl, (blk_cell BK423.out 0).trans rfl, (blk_cell BK423.out 1).trans rfl, (blk_cell BK423.out 2).trans rfl⟩ (fun hHeld => ?_)); clear hK K; (refine nS_ (some 75) ?_); (refine pS_ 11 (some 76) HT_ ?_); (refine pS_ 12 (some 77) HT_ ?_); (refine pS_ 13 (some 78) HT_ ?_); (refine uS_ 14 (some 79) HT_ ?_); (refine uS_ 15 (some 80) HT_ ?_); (refine uS_ 16 (some 81) HT_ ?_); (refine uS_ 17 (some 82) HT_ ?_); (refine uS_ 18 (some 83) HT_ ?_); (refine uS_ 19 (some 84) HT_ ?_); (refine uS_ 20 (some 85) HT_ ?_); (refine uS_ 21 (some 86) HT_ ?_); (refine pS_ 22 (some 87) HT_ ?_); (refine pS_ 23 (some 64) HT_ ?_); (refine done_ (done_of HT_.out (by kernel_rfl)) ?_); (try go_wp2); (go_ret); (exact ⟨rv_, bl_ HB⟩)
                        · rw [if_neg c43] at H
                          (have c43b0 : decide (t426 < a2_4) = false := decide_eq_false c43); clear c43; (by_cases c46 : a2_4 > 0)
                          · rw [if_pos c46] at H
                            (have c46b0 : decide (0 < a2_4) = true := decide_eq_true c46); clear c46; (have HC47 := Aside0.mk H); clear H; (try go_wp2); (replace BK423 := Aside0.mk (blk_drew BK423.out)); (replace BK424 := Aside0.mk (blk_drew BK424.out)); (replace HB := Aside0.mk (below_drew1 HB.out)); (refine start_ (n := 24) (S := fun w' => w'.cell? ⟨gb424, 0, none⟩ = some (.int .i64 a2_0) ∧ w'.cell? ⟨gb424, 1, none⟩ = some (.int .i64 a2_1) ∧ w'.cell? ⟨gb424, 2, none⟩ = some (.int .i64 a2_2) ∧ w'.cell? ⟨gb424, 3, none⟩ = some (.int .i64 a2_3) ∧ w'.cell? ⟨gb424, 4, none⟩ = some (.int .i64 a2_4) ∧ w'.cell? ⟨gb423, 0, none⟩ = some (.slice A0_0 l0_0.length c0_0) ∧ w'.cell? ⟨gb423, 1, none⟩ = some (.slice A0_1 l0_1.length c0_1) ∧ w'.cell? ⟨gb423, 2, none⟩ = some (.slice A0_2 l0_2.length c0_2)) (ds := []) _ (by kernel_rfl) rfl rfl ⟨(blk_cell BK424.out 0).trans rfl, (blk_cell BK424.out 1).trans rfl, (blk_cell BK424.out 2).trans rfl, (blk_cell BK424.out 3).trans rfl, (blk_cell BK424.out 4).trans rfl, (blk_cell BK423.out 0).trans rfl, (blk_cell BK423.out 1).trans rfl, (blk_cell BK423.out 2).trans rfl⟩ (fun hHeld => ?_); refine with_tabW piece_checkStop.tab9 piece_checkStop.bits9 (fun HT_ HW_ => ?_)); (generalize wc.drew = w48 at BK423 BK424 HB hHeld ⊢); (refine pS_ 0 (some 65) HT_ ?_); (refine tS_ 1 (some 66) HT_ HW_ hHeld ?_); (refine pS_ 2 (some 67) HT_ ?_); (refine pS_ 3 (some 68) HT_ ?_); (refine pS_ 4 (some 69) HT_ ?_); (refine pS_ 7 (some 72) HT_ ?_); (refine pS_ 8 (some 73) HT_ ?_); (refine tS_ 5 (some 70) HT_ HW_ hHeld ?_); (refine tS_ 6 (some 71) HT_ HW_ hHeld ?_); (refine tS_ 9 (some 74) HT_ HW_ hHeld ?_); (refine oS_ 10 (some 75) HT_ (fun K hK => ?_)); (refine goes_ Tryz.func39 (by kernel_rfl) rfl #[.agg #[.slice A0_0 l0_0.length c0_0, .slice A0_1 l0_1.length c0_1, .slice A0_2 l0_2.length c0_2], .int .i64 a1, .int .i64 a2_0] (by rfl) rfl rfl (by (try simp only [mA_, mB_, mC_]); first | done | rfl | (simp only [List.length_drop, List.length_take]; rfl)) ?_); (with_reducible refine (piece_Longest.calls kj26 _ _ l0_0 _ _ l0_1 _ _ l0_2 a1 a2_0 t426 _ ?side1 ?side2 ?side3 ?side4 ?side5 ?side6 A42.out).mono ?_); ((case side1 => exact kc_ HR0_0 HB)); ((case side2 => exact HC0_0.out)); ((case side3 => exact kc_ HR0_1 HB)); ((case side4 => exact HC0_1.out)); ((case side5 => exact kc_ HR0_2 HB)); ((case side6 => exact HC0_2.out)); (rintro e w49 ⟨rfl, hb⟩); (refine ⟨_, rfl, ?_⟩); (replace BK423 := bb_ BK423 hb); (replace BK424 := bb_ BK424 hb); (replace HB := bs_ HB hb); ((try clear hb)); ((try clear hb2)); ((try clear hk)); ((try clear hi)); (refine hK.out _ _ ⟨(blk_cell BK424.out 0).trans rfl, (blk_cell BK424.out 1).trans rfl, (blk_cell BK424.out 2).trans rfl, (blk_cell BK424.out 3).trans rfl, (blk_cell BK424.out 4).trans rfl, (blk_cell BK423.out 0).trans rfl, (blk_cell BK423.out 1).trans rfl, (blk_cell BK423.out 2).trans rfl⟩ (fun hHeld => ?_)); clear hK K; (refine nS_ (some 75) ?_); (refine pS_ 11 (some 76) HT_ ?_); (refine pS_ 12 (some 77) HT_ ?_); (refine pS_ 13 (some 78) HT_ ?_); (refine pS_ 14 (some 79) HT_ ?_); (refine tS_ 15 (some 80) HT_ HW_ hHeld ?_); (refine pS_ 16 (some 81) HT_ ?_); (refine pS_ 17 (some 82) HT_ ?_); (refine pS_ 18 (some 83) HT_ ?_); (refine tS_ 19 (some 84) HT_ HW_ hHeld ?_); (refine pS_ 20 (some 85) HT_ ?_); (refine pS_ 21 (some 86) HT_ ?_); (refine pS_ 22 (some 87) HT_ ?_); (refine pS_ 23 (some 64) HT_ ?_); (refine done_ (done_of HT_.out (by kernel_rfl)) ?_); (go_upto_if 64 with (fail)); (have H := HC47.out); clear HC47; (by_cases c50 : a2_1 = 0)
                            · rw [if_pos c50] at H
                              (obtain ⟨c50b0, c50b1⟩ := eqT_ c50); clear c50; ((first | rw [c50b0] | rw [c50b1] | (simp only [i64_w, i32_w]; rw [c50b0]) | skip)); (obtain rfl := Option.some.inj H); (go_wp2); (go_ret); (exact ⟨rv_, bl_ HB⟩)
                            · rw [if_neg c50] at H
                              (obtain ⟨c50b0, c50b1⟩ := eqF_ c50); ((first | rw [c50b0] | rw [c50b1] | (simp only [i64_w, i32_w]; rw [c50b0]) | skip)); (obtain rfl := Option.some.inj H); (go_wp2); (go_ret); (exact ⟨rv_, bl_ HB⟩)
                          · rw [if_neg c46] at H
                            (have c46b0 : decide (0 < a2_4) = false := decide_eq_false c46); clear c46; (obtain rfl := Option.some.inj H); (try go_wp2); (replace BK423 := Aside0.mk (blk_drew BK423.out)); (replace BK424 := Aside0.mk (blk_drew BK424.out)); (replace HB := Aside0.mk (below_drew1 HB.out)); (refine start_ (n := 24) (S := fun w' => w'.cell? ⟨gb424, 0, none⟩ = some (.int .i64 a2_0) ∧ w'.cell? ⟨gb424, 1, none⟩ = some (.int .i64 a2_1) ∧ w'.cell? ⟨gb424, 2, none⟩ = some (.int .i64 a2_2) ∧ w'.cell? ⟨gb424, 3, none⟩ = some (.int .i64 a2_3) ∧ w'.cell? ⟨gb424, 4, none⟩ = some (.int .i64 a2_4) ∧ w'.cell? ⟨gb423, 0, none⟩ = some (.slice A0_0 l0_0.length c0_0) ∧ w'.cell? ⟨gb423, 1, none⟩ = some (.slice A0_1 l0_1.length c0_1) ∧ w'.cell? ⟨gb423, 2, none⟩ = some (.slice A0_2 l0_2.length c0_2)) (ds := []) _ (by kernel_rfl) rfl rfl ⟨(blk_cell BK424.out 0).trans rfl, (blk_cell BK424.out 1).trans rfl, (blk_cell BK424.out 2).trans rfl, (blk_cell BK424.out 3).trans rfl, (blk_cell BK424.out 4).trans rfl, (blk_cell BK423.out 0).trans rfl, (blk_cell BK423.out 1).trans rfl, (blk_cell BK423.out 2).trans rfl⟩ (fun hHeld => ?_); refine with_tabW piece_checkStop.tab9 piece_checkStop.bits9 (fun HT_ HW_ => ?_)); (generalize wc.drew = w51 at BK423 BK424 HB hHeld ⊢); (refine pS_ 0 (some 65) HT_ ?_); (refine tS_ 1 (some 66) HT_ HW_ hHeld ?_); (refine pS_ 2 (some 67) HT_ ?_); (refine pS_ 3 (some 68) HT_ ?_); (refine pS_ 4 (some 69) HT_ ?_); (refine pS_ 7 (some 72) HT_ ?_); (refine pS_ 8 (some 73) HT_ ?_); (refine tS_ 5 (some 70) HT_ HW_ hHeld ?_); (refine tS_ 6 (some 71) HT_ HW_ hHeld ?_); (refine tS_ 9 (some 74) HT_ HW_ hHeld ?_); (refine oS_ 10 (some 75) HT_ (fun K hK => ?_)); (refine goes_ Tryz.func39 (by kernel_rfl) rfl #[.agg #[.slice A0_0 l0_0.length c0_0, .slice A0_1 l0_1.length c0_1, .slice A0_2 l0_2.length c0_2], .int .i64 a1, .int .i64 a2_0] (by rfl) rfl rfl (by (try simp only [mA_, mB_, mC_]); first | done | rfl | (simp only [List.length_drop, List.length_take]; rfl)) ?_); (with_reducible refine (piece_Longest.calls kj26 _ _ l0_0 _ _ l0_1 _ _ l0_2 a1 a2_0 t426 _ ?side1 ?side2 ?side3 ?side4 ?side5 ?side6 A42.out).mono ?_); ((case side1 => exact kc_ HR0_0 HB)); ((case side2 => exact HC0_0.out)); ((case side3 => exact kc_ HR0_1 HB)); ((case side4 => exact HC0_1.out)); ((case side5 => exact kc_ HR0_2 HB)); ((case side6 => exact HC0_2.out)); (rintro e w52 ⟨rfl, hb⟩); (refine ⟨_, rfl, ?_⟩); (replace BK423 := bb_ BK423 hb); (replace BK424 := bb_ BK424 hb); (replace HB := bs_ HB hb); ((try clear hb)); ((try clear hb2)); ((try clear hk)); ((try clear hi)); (refine hK.out _ _ ⟨(blk_cell BK424.out 0).trans rfl, (blk_cell BK424.out 1).trans rfl, (blk_cell BK424.out 2).trans rfl, (blk_cell BK424.out 3).trans rfl, (blk_cell BK424.out 4).trans rfl, (blk_cell BK423.out 0).trans rfl, (blk_cell BK423.out 1).trans rfl, (blk_cell BK423.out 2).trans rfl⟩ (fun hHeld => ?_)); clear hK K; (refine nS_ (some 75) ?_); (refine pS_ 11 (some 76) HT_ ?_); (refine pS_ 12 (some 77) HT_ ?_); (refine pS_ 13 (some 78) HT_ ?_); (refine pS_ 14 (some 79) HT_ ?_); (refine tS_ 15 (some 80) HT_ HW_ hHeld ?_); (refine pS_ 16 (some 81) HT_ ?_); (refine pS_ 17 (some 82) HT_ ?_); (refine uS_ 18 (some 83) HT_ ?_); (refine uS_ 19 (some 84) HT_ ?_); (refine uS_ 20 (some 85) HT_ ?_); (refine pS_ 21 (some 86) HT_ ?_); (refine pS_ 22 (some 87) HT_ ?_); (refine pS_ 23 (some 64) HT_ ?_); (refine done_ (done_of HT_.out (by kernel_rfl)) ?_); (try go_wp2); (go_ret); (exact ⟨rv_, bl_ HB⟩)

/-! ### piece_Check: function 22 -/
mutual
def piece_Check.l0 : Nat → List (S46) → Int → Int → List (S99) → List Int → List (S46) → Option (Int)
  | 0, _, _, _, _, _, _ => none
  | k + 1, x21, x22, x23, x436000, x436001, x436002 => if x23 < x22 then (if 0 ≤ x23 then (if x23 < (x21.length : Int) then ((piece_valid.f k ((rd_T46 x21 x23).f1.f0) ((rd_T46 x21 x23).f1.f1) ((rd_T46 x21 x23).f1.f2)).bind fun t439 => (if t439 = true then (if x23 = 0 then (piece_Check.j1 k x23 x21 x22 x23 (((rd_T46 x21 x23).f1.f0) == 0 && (!((rd_T46 x21 x23).f1.f1) && (!((rd_T46 x21 x23).f1.f2)))) x436000 x436001 x436002 ((rd_T46 x21 x23).f0) ((rd_T46 x21 x23).f1.f0) ((rd_T46 x21 x23).f1.f1) ((rd_T46 x21 x23).f1.f2) ((rd_T46 x21 x23).f2) ((rd_T46 x21 x23).f3)) else (piece_Check.j1 k x23 x21 x22 x23 false x436000 x436001 x436002 ((rd_T46 x21 x23).f0) ((rd_T46 x21 x23).f1.f0) ((rd_T46 x21 x23).f1.f1) ((rd_T46 x21 x23).f1.f2) ((rd_T46 x21 x23).f2) ((rd_T46 x21 x23).f3))) else (piece_Check.j1 k x23 x21 x22 x23 true x436000 x436001 x436002 ((rd_T46 x21 x23).f0) ((rd_T46 x21 x23).f1.f0) ((rd_T46 x21 x23).f1.f1) ((rd_T46 x21 x23).f1.f2) ((rd_T46 x21 x23).f2) ((rd_T46 x21 x23).f3)))) else (none)) else (none)) else (some 0)
def piece_Check.j1 : Nat → Int → List (S46) → Int → Int → Bool → List (S99) → List Int → List (S46) → Bool → Int → Bool → Bool → Bool → List (S54) → Option (Int)
  | 0, _, _, _, _, _, _, _, _, _, _, _, _, _, _ => none
  | k + 1, x4, x21, x22, x23, x41, x436000, x436001, x436002, x439000, x439001, x439002, x439003, x439004, x439005 => if x41 = true then (some 20) else (if x439004 = true then (if x4 = 0 then (piece_Check.j2 k x4 x21 x22 x23 true x436000 x436001 x436002 x439000 x439001 x439002 x439003 x439004 x439005) else (piece_Check.j2 k x4 x21 x22 x23 (decide ((x439005.length : Int) > 0)) x436000 x436001 x436002 x439000 x439001 x439002 x439003 x439004 x439005)) else (piece_Check.j2 k x4 x21 x22 x23 false x436000 x436001 x436002 x439000 x439001 x439002 x439003 x439004 x439005))
def piece_Check.j2 : Nat → Int → List (S46) → Int → Int → Bool → List (S99) → List Int → List (S46) → Bool → Int → Bool → Bool → Bool → List (S54) → Option (Int)
  | 0, _, _, _, _, _, _, _, _, _, _, _, _, _, _ => none
  | k + 1, x4, x21, x22, x23, x53, x436000, x436001, x436002, x439000, x439001, x439002, x439003, x439004, x439005 => if x53 = true then (some 21) else (piece_Check.l1 k x4 0 x21 x22 x23 x439005 (x439005.length : Int) 0 x436000 x436001 x436002)
def piece_Check.l1 : Nat → Int → Int → List (S46) → Int → Int → List (S54) → Int → Int → List (S99) → List Int → List (S46) → Option (Int)
  | 0, _, _, _, _, _, _, _, _, _, _, _ => none
  | k + 1, x4, x6, x21, x22, x23, x55, x56, x57, x436000, x436001, x436002 => if x57 < x56 then (if 0 ≤ x57 then (if x57 < (x55.length : Int) then ((piece_checkStop.f k x436000 x436001 x436002 x4 ((rd_T54 x55 x57).f0) ((rd_T54 x55 x57).f1) ((rd_T54 x55 x57).f2) ((rd_T54 x55 x57).f3) ((rd_T54 x55 x57).f4) x6).bind fun t442 => (if t442 = 0 then (piece_Check.l1 k x4 ((rd_T54 x55 x57).f0) x21 x22 x23 x55 x56 (wrap64 (x57 + 1)) x436000 x436001 x436002) else (some t442))) else (none)) else (none)) else (piece_Check.l0 k x21 x22 (wrap64 (x23 + 1)) x436000 x436001 x436002)
end
def piece_Check.f (k : Nat) (l0_0 : List (S99)) (l0_1 : List Int) (l0_2 : List (S46)) : Option (Int) := (instrument_Check.f k l0_0 l0_1).bind fun t436 => (if t436 = 0 then (if (l0_2.length : Int) > 400 then (some 2) else (piece_Check.l0 k l0_2 (l0_2.length : Int) 0 l0_0 l0_1 l0_2)) else (some t436))
theorem piece_Check.mono_l : ∀ k, (∀ y0 y1 y2 y3 y4 y5, LeO (piece_Check.l0 k y0 y1 y2 y3 y4 y5) (piece_Check.l0 (k + 1) y0 y1 y2 y3 y4 y5)) ∧ (∀ y0 y1 y2 y3 y4 y5 y6 y7 y8 y9 y10 y11 y12 y13, LeO (piece_Check.j1 k y0 y1 y2 y3 y4 y5 y6 y7 y8 y9 y10 y11 y12 y13) (piece_Check.j1 (k + 1) y0 y1 y2 y3 y4 y5 y6 y7 y8 y9 y10 y11 y12 y13)) ∧ (∀ y0 y1 y2 y3 y4 y5 y6 y7 y8 y9 y10 y11 y12 y13, LeO (piece_Check.j2 k y0 y1 y2 y3 y4 y5 y6 y7 y8 y9 y10 y11 y12 y13) (piece_Check.j2 (k + 1) y0 y1 y2 y3 y4 y5 y6 y7 y8 y9 y10 y11 y12 y13)) ∧ (∀ y0 y1 y2 y3 y4 y5 y6 y7 y8 y9 y10, LeO (piece_Check.l1 k y0 y1 y2 y3 y4 y5 y6 y7 y8 y9 y10) (piece_Check.l1 (k + 1) y0 y1 y2 y3 y4 y5 y6 y7 y8 y9 y10))
  | 0 => ⟨fun _ _ _ _ _ _ r h => by simp [piece_Check.l0] at h, fun _ _ _ _ _ _ _ _ _ _ _ _ _ _ r h => by simp [piece_Check.j1] at h, fun _ _ _ _ _ _ _ _ _ _ _ _ _ _ r h => by simp [piece_Check.j2] at h, fun _ _ _ _ _ _ _ _ _ _ _ r h => by simp [piece_Check.l1] at h⟩
  | k + 1 => by
    ((obtain ⟨ih0, ih1, ih2, ih3⟩ := piece_Check.mono_l k); (refine ⟨?_, ?_, ?_, ?_⟩)); (focus intro y0 y1 y2 y3 y4 y5; (unfold piece_Check.l0); (repeat' first | (with_reducible first | apply ih0 | apply ih1 | apply ih2 | apply ih3 | apply instrument_Check.mono | apply piece_checkStop.mono | apply piece_valid.mono | exact LeO.refl _ | exact LeO.none _ | refine LeO.ite ?_ ?_ | refine LeO.bind ?_ fun _ => ?_) | exact LeO.none _ | refine LeO.ite ?_ ?_ | refine LeO.bind ?_ fun _ => ?_ | apply ih0 | apply ih1 | apply ih2 | apply ih3 | apply instrument_Check.mono | apply piece_checkStop.mono | apply piece_valid.mono)); (focus intro y0 y1 y2 y3 y4 y5 y6 y7 y8 y9 y10 y11 y12 y13; (unfold piece_Check.j1); (repeat' first | (with_reducible first | apply ih0 | apply ih1 | apply ih2 | apply ih3 | apply instrument_Check.mono | apply piece_checkStop.mono | apply piece_valid.mono | exact LeO.refl _ | exact LeO.none _ | refine LeO.ite ?_ ?_ | refine LeO.bind ?_ fun _ => ?_) | exact LeO.none _ | refine LeO.ite ?_ ?_ | refine LeO.bind ?_ fun _ => ?_ | apply ih0 | apply ih1 | apply ih2 | apply ih3 | apply instrument_Check.mono | apply piece_checkStop.mono | apply piece_valid.mono)); (focus intro y0 y1 y2 y3 y4 y5 y6 y7 y8 y9 y10 y11 y12 y13; (unfold piece_Check.j2); (repeat' first | (with_reducible first | apply ih0 | apply ih1 | apply ih2 | apply ih3 | apply instrument_Check.mono | apply piece_checkStop.mono | apply piece_valid.mono | exact LeO.refl _ | exact LeO.none _ | refine LeO.ite ?_ ?_ | refine LeO.bind ?_ fun _ => ?_) | exact LeO.none _ | refine LeO.ite ?_ ?_ | refine LeO.bind ?_ fun _ => ?_ | apply ih0 | apply ih1 | apply ih2 | apply ih3 | apply instrument_Check.mono | apply piece_checkStop.mono | apply piece_valid.mono)); (focus intro y0 y1 y2 y3 y4 y5 y6 y7 y8 y9 y10; (unfold piece_Check.l1); (repeat' first | (with_reducible first | apply ih0 | apply ih1 | apply ih2 | apply ih3 | apply instrument_Check.mono | apply piece_checkStop.mono | apply piece_valid.mono | exact LeO.refl _ | exact LeO.none _ | refine LeO.ite ?_ ?_ | refine LeO.bind ?_ fun _ => ?_) | exact LeO.none _ | refine LeO.ite ?_ ?_ | refine LeO.bind ?_ fun _ => ?_ | apply ih0 | apply ih1 | apply ih2 | apply ih3 | apply instrument_Check.mono | apply piece_checkStop.mono | apply piece_valid.mono))
theorem piece_Check.mono : ∀ a0 a1 a2 k, LeO (piece_Check.f k a0 a1 a2) (piece_Check.f (k + 1) a0 a1 a2) := by
  intro a0 a1 a2 k
  obtain ⟨ih0, ih1, ih2, ih3⟩ := piece_Check.mono_l k
  unfold piece_Check.f
  repeat' first | (with_reducible first | apply ih0 | apply ih1 | apply ih2 | apply ih3 | apply instrument_Check.mono | apply piece_checkStop.mono | apply piece_valid.mono | exact LeO.refl _ | exact LeO.none _ | refine LeO.ite ?_ ?_ | refine LeO.bind ?_ fun _ => ?_) | exact LeO.none _ | refine LeO.ite ?_ ?_ | refine LeO.bind ?_ fun _ => ?_ | apply ih0 | apply ih1 | apply ih2 | apply ih3 | apply instrument_Check.mono | apply piece_checkStop.mono | apply piece_valid.mono
set_option maxHeartbeats 8000000 in
set_option maxRecDepth 100000 in
theorem piece_Check.calls (k : Nat) (A0_0 : Option Addr) (c0_0 : Nat) (l0_0 : List (S99)) (A0_1 : Option Addr) (c0_1 : Nat) (l0_1 : List Int) (A0_2 : Option Addr) (c0_2 : Nat) (l0_2 : List (S46)) (r : Int) (w : World) (hr0_0 : Kd.C k99 w A0_0 l0_0.length l0_0) (hc0_0 : l0_0.length ≤ c0_0) (hr0_1 : Kd.C (Kd.int .i64) w A0_1 l0_1.length l0_1) (hc0_1 : l0_1.length ≤ c0_1) (hr0_2 : Kd.C k46 w A0_2 l0_2.length l0_2) (hc0_2 : l0_2.length ≤ c0_2) (h : piece_Check.f k l0_0 l0_1 l0_2 = some r) :
    Calls Tryz.prog 22 #[.agg #[.slice A0_0 l0_0.length c0_0, .slice A0_1 l0_1.length c0_1, .slice A0_2 l0_2.length c0_2]] w fun e w' => e = .returned (.int .i64 r) ∧ Below w.heap.size w w' := by
  have hu29 := Tryz.underlying29
  have hu26 := Tryz.underlying26
  have hu46 := Tryz.underlying46
  have hu43 := Tryz.underlying43
  have hu54 := Tryz.underlying54
  have HR0_0 := Aside0.mk hr0_0
  have HC0_0 := Aside0.mk hc0_0
  clear hr0_0 hc0_0
  have HR0_1 := Aside0.mk hr0_1
  have HC0_1 := Aside0.mk hc0_1
  clear hr0_1 hc0_1
  have HR0_2 := Aside0.mk hr0_2
  have HC0_2 := Aside0.mk hc0_2
  clear hr0_2 hc0_2
  have HB := Aside0.mk (Below.refl w.heap.size w)
  have H : ((instrument_Check.f k l0_0 l0_1).bind fun t436 => (if t436 = 0 then (if (l0_2.length : Int) > 400 then (some 2) else (piece_Check.l0 k l0_2 (l0_2.length : Int) 0 l0_0 l0_1 l0_2)) else (some t436))) = some r := h
  clear h
  replace H := Option.bind_eq_some_iff.mp H
  obtain ⟨t436, A20, H⟩ := H
  try dsimp only at H
  have A2 := Aside0.mk A20
  clear A20
  have HC3 := Aside0.mk H
  clear H
  go_enter Tryz.func22, Tryz.ntmps22
  go_upto_if 14 with (first | ((with_reducible refine gate_dst (N := 1) rfl ?_); (try (refine gate_guard (by rfl) ?_; dsimp only)); refine bx_ 1 #[.slice A0_0 l0_0.length c0_0, .slice A0_1 l0_1.length c0_1, .slice A0_2 l0_2.length c0_2] 29 HB ?_; clear HB; intro gb435 w4 hg hb BK435 HB GW435; have GE435 := GW435; clear hg hb; have hcz5 := blk_cell BK435.out; have hfz5 := blk_frozen BK435.out) | ((with_reducible refine gate_callee (f := 35) rfl ?_); refine cl_ 35 (some 12) Tryz.func35 (instrument_Check.calls k _ _ l0_0 _ _ l0_1 t436 _ (kc_ HR0_0 HB) HC0_0.out (kc_ HR0_1 HB) HC0_1.out A2.out) ?_; rintro e w6 ⟨rfl, hb⟩; refine ⟨_, rfl, ?_⟩; replace BK435 := bb_ BK435 hb; replace HB := bs_ HB hb; (try clear hb); (try clear hb2); (try clear hk); (try clear hi)))
  (try simp only [Act.put, List.setIfInBounds_toArray, List.set_cons_zero, List.set_cons_succ])
  have H := HC3.out
  clear HC3
  by_cases c7 : t436 = 0
  · rw [if_pos c7] at H
    (obtain ⟨c7b0, c7b1⟩ := eqT_ c7); clear c7; ((first | rw [c7b0] | rw [c7b1] | (simp only [i64_w, i32_w]; rw [c7b0]) | skip)); (have HC8 := Aside0.mk H); clear H; (have hcz9 := blk_cell BK435.out); (have hfz9 := blk_frozen BK435.out); (go_upto_if 19 with (fail)); (have H := HC8.out); clear HC8; (by_cases c10 : (l0_2.length : Int) > 400)
    · rw [if_pos c10] at H
      (have c10b0 : decide (400 < (l0_2.length : Int)) = true := decide_eq_true c10); (have c10b1 : decide (400 < l0_2.length) = true := decide_eq_true (by omega)); clear c10; ((first | rw [c10b0] | rw [c10b1] | (simp only [i64_w, i32_w]; rw [c10b0]) | skip)); (obtain rfl := Option.some.inj H); (go_wp2); (go_ret); (exact ⟨rv_, bl_ HB⟩)
    · rw [if_neg c10] at H
      (have c10b0 : decide (400 < (l0_2.length : Int)) = false := decide_eq_false c10); (have c10b1 : decide (400 < l0_2.length) = false := decide_eq_false (by omega)); clear c10; ((first | rw [c10b0] | rw [c10b1] | (simp only [i64_w, i32_w]; rw [c10b0]) | skip)); (have H' := Aside0.mk H); clear H; (have hcz11 := blk_cell BK435.out); (have hfz11 := blk_frozen BK435.out); (go_wp2); (go_loopg [23] k (fun kq v23 w' => ∃ (x23_1 : Int), v23 = .int .i64 x23_1 ∧ Aside0 (piece_Check.l0 kq l0_2 (l0_2.length : Int) x23_1 l0_0 l0_1 l0_2 = some r) ∧ Aside0 (kq ≤ k) ∧ Aside0 (w'.heap[gb435]? = some (.cells #[(.slice A0_0 l0_0.length c0_0), (.slice A0_1 l0_1.length c0_1), (.slice A0_2 l0_2.length c0_2)] 29 (0, 0))) ∧ Aside0 (Below w.heap.size w w')))
      case atStart => exact ⟨(0), (rs_), H', ⟨Nat.le_refl _⟩, ⟨bk_ BK435⟩, ⟨bl_ HB⟩⟩
      case round =>
        clear H'; (try clear c7b0 c7b1 c10b0 c10b1 hcz11 hcz5 hcz9 hfz11 hfz5 hfz9); (obtain ⟨x23_1, rfl, HA, HK1, BK435, HB⟩ := hrel)
        cases gk with
        | zero => exact absurd HA.out (by simp [piece_Check.l0])
        | succ k1 =>
          (have H := HA.out); clear HA; (simp only [piece_Check.l0] at H); (by_cases c12 : x23_1 < (l0_2.length : Int))
          · rw [if_pos c12] at H
            (have c12b0 := decide_eq_true c12); clear c12; (by_cases c13 : 0 ≤ x23_1)
            · rw [if_pos c13] at H
              (have c13b0 := decide_eq_true c13); clear c13; (by_cases c14 : x23_1 < (l0_2.length : Int))
              · rw [if_pos c14] at H
                (have c14b0 := decide_eq_true c14); clear c14; (have HC15 := Aside0.mk H); clear H; (have p437 : 0 ≤ (x23_1 : Int) := of_decide_eq_true (by first | (with_reducible assumption) | assumption)); (have q437 : x23_1 < (l0_2.length : Int) := of_decide_eq_true (by first | (with_reducible assumption) | assumption)); (obtain ⟨ad437, A437_5, c437_5, e437, hx437_0, hx437_1, hx437_2, hx437_3, hx437_4, hx437_5, hl437_5, hi437_5⟩ := at_T46 HR0_2.out x23_1 p437 q437)
                cases e437
                (replace hx437_0 := pw_cell_below HB.out hx437_0); (replace hx437_1 := pw_cell_below HB.out hx437_1); (replace hx437_2 := pw_cell_below HB.out hx437_2); (replace hx437_3 := pw_cell_below HB.out hx437_3); (replace hx437_4 := pw_cell_below HB.out hx437_4); (replace hx437_5 := pw_cell_below HB.out hx437_5); (have HR437_5 := Aside0.mk hi437_5); (have HC437_5 := Aside0.mk hl437_5); clear hi437_5 hl437_5; (replace p437 := eq_true p437); (replace q437 := eq_true q437); (go_upto_region 9 with (first | ((with_reducible refine gate_dst (N := 5) rfl ?_); (try (refine gate_guard (by rfl) ?_; dsimp only)); refine bx_ 5 #[.bool false, .int .i64 0, .bool false, .bool false, .bool false, .slice none 0 0] 46 HB ?_; clear HB; intro gb438 w16 hg hb BK438 HB GW438; have GE438 := GW438; have NB435_438 := nl_ BK435 hg; have NB438_435 := ng_ BK435 hg; replace BK435 := bb_ BK435 hb; clear hg hb; have hnb17 := NB438_435.out; have hnc17 := NB435_438.out; have hcz18 := blk_cell BK438.out; have hfz18 := blk_frozen BK438.out))); ((try simp only [Act.put, List.setIfInBounds_toArray, List.set_cons_zero, List.set_cons_succ])); (go_cut [41] (fun v41 wc => ∃ (kq : Nat) (x41_14 : Bool), v41 = .bool x41_14 ∧ Aside0 (piece_Check.j1 kq x23_1 l0_2 (l0_2.length : Int) x23_1 x41_14 l0_0 l0_1 l0_2 ((rd_T46 l0_2 x23_1).f0) ((rd_T46 l0_2 x23_1).f1.f0) ((rd_T46 l0_2 x23_1).f1.f1) ((rd_T46 l0_2 x23_1).f1.f2) ((rd_T46 l0_2 x23_1).f2) ((rd_T46 l0_2 x23_1).f3) = some r) ∧ Aside0 (kq ≤ k1) ∧ Aside0 (wc.heap[gb435]? = some (.cells #[(.slice A0_0 l0_0.length c0_0), (.slice A0_1 l0_1.length c0_1), (.slice (some ad437) l0_2.length c0_2)] 29 (0, 0))) ∧ Aside0 (wc.heap[gb438]? = some (.cells #[.bool ((rd_T46 l0_2 x23_1).f0), .int .i64 ((rd_T46 l0_2 x23_1).f1.f0), .bool ((rd_T46 l0_2 x23_1).f1.f1), .bool ((rd_T46 l0_2 x23_1).f1.f2), .bool ((rd_T46 l0_2 x23_1).f2), (.slice A437_5 ((rd_T46 l0_2 x23_1).f3).length c437_5)] 46 (0, 0))) ∧ Aside0 (Below w.heap.size w wc)))
                case first =>
                  (have H := HC15.out); clear HC15; (replace H := Option.bind_eq_some_iff.mp H); (obtain ⟨t439, A190, H⟩ := H); (try dsimp only at H); (have A19 := Aside0.mk A190); clear A190; (by_cases c20 : t439 = true)
                  · subst c20
                    (rw [if_pos rfl] at H); (by_cases c21 : x23_1 = 0)
                    · rw [if_pos c21] at H
                      (obtain ⟨c21b0, c21b1⟩ := eqT_ c21); clear c21; ((first | rw [c21b0] | rw [c21b1] | (simp only [i64_w, i32_w]; rw [c21b0]) | skip)); (have H' := Aside0.mk H); clear H; (have hnb22 := NB438_435.out); (have hnc22 := NB435_438.out); (have hcz23 := blk_cell BK438.out); (have hfz23 := blk_frozen BK438.out); (go_wp2_with (first | ((with_reducible refine gate_callee (f := 36) rfl ?_); refine cl_ 36 (some 30) Tryz.func36 (piece_valid.calls k1 ((rd_T46 l0_2 x23_1).f1.f0) ((rd_T46 l0_2 x23_1).f1.f1) ((rd_T46 l0_2 x23_1).f1.f2) true _ A19.out) ?_; rintro e w24 ⟨rfl, hb⟩; refine ⟨_, rfl, ?_⟩; replace BK435 := bb_ BK435 hb; replace BK438 := Aside0.mk (blk_below (g := gb438) (o := .cells #[.bool ((rd_T46 l0_2 x23_1).f0), .int .i64 ((rd_T46 l0_2 x23_1).f1.f0), .bool ((rd_T46 l0_2 x23_1).f1.f1), .bool ((rd_T46 l0_2 x23_1).f1.f2), .bool ((rd_T46 l0_2 x23_1).f2), .slice A437_5 ((rd_T46 l0_2 x23_1).f3).length c437_5] 46 (0, 0)) (bk_ BK438) hb); replace HB := bs_ HB hb; (try clear hb); (try clear hb2); (try clear hk); (try clear hi); have hcz25 := blk_cell BK438.out; have hfz25 := blk_frozen BK438.out))); (go_meet)
                      case rel => exact ⟨_, ((((rd_T46 l0_2 x23_1).f1.f0) == 0 && (!((rd_T46 l0_2 x23_1).f1.f1) && (!((rd_T46 l0_2 x23_1).f1.f2))))), (rs_), H', ⟨by have := HK1.out; first | omega | exact Nat.le_refl _⟩, ⟨bk_ BK435⟩, ⟨bk_ BK438⟩, ⟨bl_ HB⟩⟩
                    · rw [if_neg c21] at H
                      (obtain ⟨c21b0, c21b1⟩ := eqF_ c21); ((first | rw [c21b0] | rw [c21b1] | (simp only [i64_w, i32_w]; rw [c21b0]) | skip)); (have H' := Aside0.mk H); clear H; (have hnb26 := NB438_435.out); (have hnc26 := NB435_438.out); (have hcz27 := blk_cell BK438.out); (have hfz27 := blk_frozen BK438.out); (go_wp2_with (first | ((with_reducible refine gate_callee (f := 36) rfl ?_); refine cl_ 36 (some 30) Tryz.func36 (piece_valid.calls k1 ((rd_T46 l0_2 x23_1).f1.f0) ((rd_T46 l0_2 x23_1).f1.f1) ((rd_T46 l0_2 x23_1).f1.f2) true _ A19.out) ?_; rintro e w28 ⟨rfl, hb⟩; refine ⟨_, rfl, ?_⟩; replace BK435 := bb_ BK435 hb; replace BK438 := Aside0.mk (blk_below (g := gb438) (o := .cells #[.bool ((rd_T46 l0_2 x23_1).f0), .int .i64 ((rd_T46 l0_2 x23_1).f1.f0), .bool ((rd_T46 l0_2 x23_1).f1.f1), .bool ((rd_T46 l0_2 x23_1).f1.f2), .bool ((rd_T46 l0_2 x23_1).f2), .slice A437_5 ((rd_T46 l0_2 x23_1).f3).length c437_5] 46 (0, 0)) (bk_ BK438) hb); replace HB := bs_ HB hb; (try clear hb); (try clear hb2); (try clear hk); (try clear hi)))); (go_meet)
                      case rel => exact ⟨_, (false), (rs_), H', ⟨by have := HK1.out; first | omega | exact Nat.le_refl _⟩, ⟨bk_ BK435⟩, ⟨bk_ BK438⟩, ⟨bl_ HB⟩⟩
                  · replace c20 := Bool.eq_false_iff.mpr c20
                    subst c20; (rw [if_neg Bool.false_ne_true] at H); (have H' := Aside0.mk H); clear H; (have hnb29 := NB438_435.out); (have hnc29 := NB435_438.out); (have hcz30 := blk_cell BK438.out); (have hfz30 := blk_frozen BK438.out); (go_wp2_with (first | ((with_reducible refine gate_callee (f := 36) rfl ?_); refine cl_ 36 (some 30) Tryz.func36 (piece_valid.calls k1 ((rd_T46 l0_2 x23_1).f1.f0) ((rd_T46 l0_2 x23_1).f1.f1) ((rd_T46 l0_2 x23_1).f1.f2) false _ A19.out) ?_; rintro e w31 ⟨rfl, hb⟩; refine ⟨_, rfl, ?_⟩; replace BK435 := bb_ BK435 hb; replace BK438 := Aside0.mk (blk_below (g := gb438) (o := .cells #[.bool ((rd_T46 l0_2 x23_1).f0), .int .i64 ((rd_T46 l0_2 x23_1).f1.f0), .bool ((rd_T46 l0_2 x23_1).f1.f1), .bool ((rd_T46 l0_2 x23_1).f1.f2), .bool ((rd_T46 l0_2 x23_1).f2), .slice A437_5 ((rd_T46 l0_2 x23_1).f3).length c437_5] 46 (0, 0)) (bk_ BK438) hb); replace HB := bs_ HB hb; (try clear hb); (try clear hb2); (try clear hk); (try clear hi)))); (go_meet)
                    case rel => exact ⟨_, (true), (rs_), H', ⟨by have := HK1.out; first | omega | exact Nat.le_refl _⟩, ⟨bk_ BK435⟩, ⟨bk_ BK438⟩, ⟨bl_ HB⟩⟩
                case rest =>
                  clear HC15; (try clear c12b0 c13b0 c14b0 hcz18 hfz18 hx437_0 hx437_1 hx437_2 hx437_3 hx437_4 hx437_5 p437 q437); (obtain ⟨kq, x41_14, rfl, HA, HJ14, BK435, BK438, HB⟩ := hcut)
                  cases kq with
                  | zero => exact absurd HA.out (by simp [piece_Check.j1])
                  | succ kj14 =>
                    (have H := HA.out); clear HA; (simp only [piece_Check.j1] at H); (by_cases c32 : x41_14 = true)
                    · subst c32
                      (rw [if_pos rfl] at H); (obtain rfl := Option.some.inj H); (go_wp2); (go_ret); (exact ⟨rv_, bl_ HB⟩)
                    · replace c32 := Bool.eq_false_iff.mpr c32
                      subst c32; (rw [if_neg Bool.false_ne_true] at H); (have HC33 := Aside0.mk H); clear H; (go_upto_region 11 with (fail)); (go_cut [53] (fun v53 wc => ∃ (kq : Nat) (x53_32 : Bool), v53 = .bool x53_32 ∧ Aside0 (piece_Check.j2 kq x23_1 l0_2 (l0_2.length : Int) x23_1 x53_32 l0_0 l0_1 l0_2 ((rd_T46 l0_2 x23_1).f0) ((rd_T46 l0_2 x23_1).f1.f0) ((rd_T46 l0_2 x23_1).f1.f1) ((rd_T46 l0_2 x23_1).f1.f2) ((rd_T46 l0_2 x23_1).f2) ((rd_T46 l0_2 x23_1).f3) = some r) ∧ Aside0 (kq ≤ kj14) ∧ Aside0 (wc.heap[gb435]? = some (.cells #[(.slice A0_0 l0_0.length c0_0), (.slice A0_1 l0_1.length c0_1), (.slice (some ad437) l0_2.length c0_2)] 29 (0, 0))) ∧ Aside0 (wc.heap[gb438]? = some (.cells #[.bool ((rd_T46 l0_2 x23_1).f0), .int .i64 ((rd_T46 l0_2 x23_1).f1.f0), .bool ((rd_T46 l0_2 x23_1).f1.f1), .bool ((rd_T46 l0_2 x23_1).f1.f2), .bool ((rd_T46 l0_2 x23_1).f2), (.slice A437_5 ((rd_T46 l0_2 x23_1).f3).length c437_5)] 46 (0, 0))) ∧ Aside0 (Below w.heap.size w wc)))
                      case first =>
                        (have H := HC33.out); clear HC33; (by_cases c34 : ((rd_T46 l0_2 x23_1).f2) = true)
                        · rw [if_pos c34] at H
                          (have c34b0 : ((rd_T46 l0_2 x23_1).f2) = true := c34); clear c34; ((first | rw [c34b0] | (simp only [i64_w, i32_w]; rw [c34b0]) | skip)); (by_cases c35 : x23_1 = 0)
                          · rw [if_pos c35] at H
                            (obtain ⟨c35b0, c35b1⟩ := eqT_ c35); clear c35; (have H' := Aside0.mk H); clear H; (have hnb36 := NB438_435.out); (have hnc36 := NB435_438.out); (have hcz37 := blk_cell BK438.out); (have hfz37 := blk_frozen BK438.out); (go_wp2); (go_meet)
                            case rel => exact ⟨_, (true), (rs_), H', ⟨by have := HK1.out; have := HJ14.out; first | omega | exact Nat.le_refl _⟩, ⟨bk_ BK435⟩, ⟨bk_ BK438⟩, ⟨bl_ HB⟩⟩
                          · rw [if_neg c35] at H
                            (obtain ⟨c35b0, c35b1⟩ := eqF_ c35); (have H' := Aside0.mk H); clear H; (have hnb38 := NB438_435.out); (have hnc38 := NB435_438.out); (have hcz39 := blk_cell BK438.out); (have hfz39 := blk_frozen BK438.out); (go_wp2); (go_meet)
                            case rel => exact ⟨_, (decide ((((rd_T46 l0_2 x23_1).f3).length : Int) > 0)), (rs_), H', ⟨by have := HK1.out; have := HJ14.out; first | omega | exact Nat.le_refl _⟩, ⟨bk_ BK435⟩, ⟨bk_ BK438⟩, ⟨bl_ HB⟩⟩
                        · rw [if_neg c34] at H
                          (have c34b0 : ((rd_T46 l0_2 x23_1).f2) = false := by simpa using c34); clear c34; ((first | rw [c34b0] | (simp only [i64_w, i32_w]; rw [c34b0]) | skip)); (have H' := Aside0.mk H); clear H; (have hnb40 := NB438_435.out); (have hnc40 := NB435_438.out); (have hcz41 := blk_cell BK438.out); (have hfz41 := blk_frozen BK438.out); (go_wp2); (go_meet)
                          case rel => exact ⟨_, (false), (rs_), H', ⟨by have := HK1.out; have := HJ14.out; first | omega | exact Nat.le_refl _⟩, ⟨bk_ BK435⟩, ⟨bk_ BK438⟩, ⟨bl_ HB⟩⟩
                      case rest =>
                        clear HC33; (try clear c32); (obtain ⟨kq, x53_32, rfl, HA, HJ32, BK435, BK438, HB⟩ := hcut)
                        cases kq with
                        | zero => exact absurd HA.out (by simp [piece_Check.j2])
                        | succ kj32 =>
                          (have H := HA.out); clear HA; (simp only [piece_Check.j2] at H); (by_cases c42 : x53_32 = true)
                          · subst c42
                            (rw [if_pos rfl] at H); (obtain rfl := Option.some.inj H); (go_wp2); (go_ret); (exact ⟨rv_, bl_ HB⟩)
                          · replace c42 := Bool.eq_false_iff.mpr c42
                            subst c42; (rw [if_neg Bool.false_ne_true] at H); (have H' := Aside0.mk H); clear H; (have hnb43 := NB438_435.out); (have hnc43 := NB435_438.out); (have hcz44 := blk_cell BK438.out); (have hfz44 := blk_frozen BK438.out); (go_wp2); (go_loopg [6, 57] kj32 (fun kq v6 v57 w' => ∃ (x6_4 : Int) (x57_4 : Int), v6 = .int .i64 x6_4 ∧ v57 = .int .i64 x57_4 ∧ Aside0 (piece_Check.l1 kq x23_1 x6_4 l0_2 (l0_2.length : Int) x23_1 ((rd_T46 l0_2 x23_1).f3) (((rd_T46 l0_2 x23_1).f3).length : Int) x57_4 l0_0 l0_1 l0_2 = some r) ∧ Aside0 (kq ≤ kj32) ∧ Aside0 (w'.heap[gb435]? = some (.cells #[(.slice A0_0 l0_0.length c0_0), (.slice A0_1 l0_1.length c0_1), (.slice (some ad437) l0_2.length c0_2)] 29 (0, 0))) ∧ Aside0 (w'.heap[gb438]? = some (.cells #[.bool ((rd_T46 l0_2 x23_1).f0), .int .i64 ((rd_T46 l0_2 x23_1).f1.f0), .bool ((rd_T46 l0_2 x23_1).f1.f1), .bool ((rd_T46 l0_2 x23_1).f1.f2), .bool ((rd_T46 l0_2 x23_1).f2), (.slice A437_5 ((rd_T46 l0_2 x23_1).f3).length c437_5)] 46 (0, 0))) ∧ Aside0 (Below w.heap.size w w')))
                            case atStart => exact ⟨(0), (0), (rs_), (rs_), H', ⟨Nat.le_refl _⟩, ⟨bk_ BK435⟩, ⟨bk_ BK438⟩, ⟨bl_ HB⟩⟩
                            case round =>
                              clear H'; (try clear c42 hcz44 hfz44); (obtain ⟨x6_4, x57_4, rfl, rfl, HA, HK4, BK435, BK438, HB⟩ := hrel)
                              cases gk with
                              | zero => exact absurd HA.out (by simp [piece_Check.l1])
                              | succ k4 =>
                                (have H := HA.out); clear HA; (simp only [piece_Check.l1] at H); (by_cases c45 : x57_4 < (((rd_T46 l0_2 x23_1).f3).length : Int))
                                · rw [if_pos c45] at H
                                  (have c45b0 := decide_eq_true c45); clear c45; (by_cases c46 : 0 ≤ x57_4)
                                  · rw [if_pos c46] at H
                                    (have c46b0 := decide_eq_true c46); clear c46; (by_cases c47 : x57_4 < (((rd_T46 l0_2 x23_1).f3).length : Int))
                                    · rw [if_pos c47] at H
                                      (have c47b0 := decide_eq_true c47); clear c47; (replace H := Option.bind_eq_some_iff.mp H); (obtain ⟨t442, A480, H⟩ := H); (try dsimp only at H); (have A48 := Aside0.mk A480); clear A480; (have HC49 := Aside0.mk H); clear H; (have p440 : 0 ≤ (x57_4 : Int) := of_decide_eq_true (by first | (with_reducible assumption) | assumption)); (have q440 : x57_4 < (((rd_T46 l0_2 x23_1).f3).length : Int) := of_decide_eq_true (by first | (with_reducible assumption) | assumption)); (obtain ⟨ad440, e440, hx440_0, hx440_1, hx440_2, hx440_3, hx440_4⟩ := at_T54 HR437_5.out x57_4 p440 q440)
                                      cases e440
                                      (replace hx440_0 := pw_cell_below HB.out hx440_0); (replace hx440_1 := pw_cell_below HB.out hx440_1); (replace hx440_2 := pw_cell_below HB.out hx440_2); (replace hx440_3 := pw_cell_below HB.out hx440_3); (replace hx440_4 := pw_cell_below HB.out hx440_4); (replace p440 := eq_true p440); (replace q440 := eq_true q440); (go_upto_if 67 with (first | ((with_reducible refine gate_dst (N := 8) rfl ?_); (try (refine gate_guard (by rfl) ?_; dsimp only)); refine bx_ 8 #[.int .i64 0, .int .i64 0, .int .i64 0, .int .i64 0, .int .i64 0] 54 HB ?_; clear HB; intro gb441 w50 hg hb BK441 HB GW441; have GE441 := GW441; have NB435_441 := nl_ BK435 hg; have NB441_435 := ng_ BK435 hg; have NB438_441 := nl_ BK438 hg; have NB441_438 := ng_ BK438 hg; replace BK435 := bb_ BK435 hb; replace BK438 := bb_ BK438 hb; clear hg hb; have hnb51 := NB441_435.out; have hnc51 := NB435_441.out; have hnb52 := NB441_438.out; have hnc52 := NB438_441.out; have hcz53 := blk_cell BK441.out; have hfz53 := blk_frozen BK441.out; have hnb54 := NB435_438.out; have hnc54 := NB438_435.out; have hcz55 := blk_cell BK435.out; have hfz55 := blk_frozen BK435.out) | ((with_reducible refine gate_callee (f := 37) rfl ?_); refine cl_ 37 (some 65) Tryz.func37 (piece_checkStop.calls k4 _ _ l0_0 _ _ l0_1 _ _ l0_2 x23_1 ((rd_T54 ((rd_T46 l0_2 x23_1).f3) x57_4).f0) ((rd_T54 ((rd_T46 l0_2 x23_1).f3) x57_4).f1) ((rd_T54 ((rd_T46 l0_2 x23_1).f3) x57_4).f2) ((rd_T54 ((rd_T46 l0_2 x23_1).f3) x57_4).f3) ((rd_T54 ((rd_T46 l0_2 x23_1).f3) x57_4).f4) x6_4 t442 _ (kc_ HR0_0 HB) HC0_0.out (kc_ HR0_1 HB) HC0_1.out (kc_ HR0_2 HB) HC0_2.out A48.out) ?_; rintro e w56 ⟨rfl, hb⟩; refine ⟨_, rfl, ?_⟩; replace BK435 := bb_ BK435 hb; replace BK438 := bb_ BK438 hb; replace BK441 := Aside0.mk (blk_below (g := gb441) (o := .cells #[.int .i64 ((rd_T54 ((rd_T46 l0_2 x23_1).f3) x57_4).f0), .int .i64 ((rd_T54 ((rd_T46 l0_2 x23_1).f3) x57_4).f1), .int .i64 ((rd_T54 ((rd_T46 l0_2 x23_1).f3) x57_4).f2), .int .i64 ((rd_T54 ((rd_T46 l0_2 x23_1).f3) x57_4).f3), .int .i64 ((rd_T54 ((rd_T46 l0_2 x23_1).f3) x57_4).f4)] 54 (0, 0)) (bk_ BK441) hb); replace HB := bs_ HB hb; (try clear hb); (try clear hb2); (try clear hk); (try clear hi)))); ((try simp only [Act.put, List.setIfInBounds_toArray, List.set_cons_zero, List.set_cons_succ])); (have H := HC49.out); clear HC49; (by_cases c57 : t442 = 0)
                                      · rw [if_pos c57] at H
                                        (obtain ⟨c57b0, c57b1⟩ := eqT_ c57); clear c57; ((first | rw [c57b0] | rw [c57b1] | (simp only [i64_w, i32_w]; rw [c57b0]) | skip)); (have H' := Aside0.mk H); clear H; (have hnb58 := NB441_435.out); (have hnc58 := NB435_441.out); (have hnb59 := NB441_438.out); (have hnc59 := NB438_441.out); (have hcz60 := blk_cell BK441.out); (have hfz60 := blk_frozen BK441.out); (go_wp2); (go_roundg k4)
                                        case measure => have := HK1.out; have := HJ14.out; have := HJ32.out; have := HK4.out; omega
                                        case rel => exact ⟨((rd_T54 ((rd_T46 l0_2 x23_1).f3) x57_4).f0), (wrap64 (x57_4 + 1)), (rs_), (rs_), H', ⟨by have := HK1.out; have := HJ14.out; have := HJ32.out; have := HK4.out; omega⟩, ⟨bk_ BK435⟩, ⟨bk_ BK438⟩, ⟨bl_ HB⟩⟩
                                      · rw [if_neg c57] at H
                                        (obtain ⟨c57b0, c57b1⟩ := eqF_ c57); ((first | rw [c57b0] | rw [c57b1] | (simp only [i64_w, i32_w]; rw [c57b0]) | skip)); (obtain rfl := Option.some.inj H); (go_wp2); (go_ret); (exact ⟨rv_, bl_ HB⟩)
                                    · rw [if_neg c47] at H
                                      exact absurd H (by simp)
                                  · rw [if_neg c46] at H
                                    exact absurd H (by simp)
                                · rw [if_neg c45] at H
                                  (have c45b0 := decide_eq_false c45); clear c45; (have H' := Aside0.mk H); clear H; (go_wp2); (go_roundg k4)
                                  case measure => have := HK1.out; have := HJ14.out; have := HJ32.out; have := HK4.out; omega
                                  case rel => exact ⟨(wrap64 (x23_1 + 1)), (rs_), H', ⟨by have := HK1.out; have := HJ14.out; have := HJ32.out; have := HK4.out; omega⟩, ⟨bk_ BK435⟩, ⟨bl_ HB⟩⟩
              · rw [if_neg c14] at H
                exact absurd H (by simp)
            · rw [if_neg c13] at H
              exact absurd H (by simp)
          · rw [if_neg c12] at H
            (have c12b0 := decide_eq_false c12); clear c12; (obtain rfl := Option.some.inj H); (go_wp2); (go_ret); (exact ⟨rv_, bl_ HB⟩)
  · rw [if_neg c7] at H
    (obtain ⟨c7b0, c7b1⟩ := eqF_ c7); ((first | rw [c7b0] | rw [c7b1] | (simp only [i64_w, i32_w]; rw [c7b0]) | skip)); (obtain rfl := Option.some.inj H); (go_wp2); (go_ret); (exact ⟨rv_, bl_ HB⟩)

/-! ### notation_french_has: function 93 -/
def notation_french_has.f  (a1 : Int) : Option (Bool) := some true
set_option maxHeartbeats 8000000 in
set_option maxRecDepth 100000 in
theorem notation_french_has.calls  (a1 : Int) (r : Bool) (w : World) (h : notation_french_has.f a1 = some r) :
    Calls Tryz.prog 93 #[.agg #[], .int .i64 a1] w fun e w' => e = .returned (.bool r) ∧ Below w.heap.size w w' := by
  have hu78 := Tryz.underlying78
  have HB := Aside0.mk (Below.refl w.heap.size w)
  have H : (some true) = some r := h
  clear h
  obtain rfl := Option.some.inj H
  go_enter Tryz.func93, Tryz.ntmps93
  go_wp2_with (first | (refine bx_ 2 #[] 78 HB ?_; clear HB; intro gb443 w3 hg hb BK443 HB GW443; have GE443 := GW443; clear hg hb))
  go_ret
  exact ⟨rv_, bl_ HB⟩

end Go.Proofs.YtocpcofihlcnoaaGreat.PNL
