-- made by xprint.py (ours) out of the translation
import Derived.Test.YtocpcofihlcnoaaGreatPNCx0
import Derived.Test.YtocpcofihlcnoaaGreatPNCx4
import Derived.Test.YtocpcofihlcnoaaGreatPNCx7
import Derived.Test.YtocpcofihlcnoaaGreatPNCx8
import Derived.Test.YtocpcofihlcnoaaGreatPNCx10
namespace Go.Proofs.YtocpcofihlcnoaaGreat.PNC
open Go.RowKit Go.Proofs.YtocpcofihlcnoaaGreatW.PrintWords Go.Proofs.YtocpcofihlcnoaaGreatW.PrintLast Go.Proofs.YtocpcofihlcnoaaGreatW.PrintMore
attribute [local go_sem] max2_int min2_int max_two min_two max_three min_three max_four min_four   -- for this text's walks alone
set_option linter.unusedVariables false
set_option linter.unusedSimpArgs false

/-! ### theorboref03_column: function 30 -/
/-- A call whose arguments are the contract's by the facts at hand. -/
theorem clS_ {P : Program} {ops : Array Oper} {rest : List Oper} {oi : Oper} {a : Act} {Q : Exit → Act → World → Prop} {w : World} (f : FuncId) (N : Option Tmp) {fn : Func} (hf : P.funcs[f]? = some fn) {args : Array Value} {R : Ending → World → Prop} (hc : Calls P f args w R) (h : ∀ e w', R e w' → ∃ v, e = .returned v ∧ wpList P ops Q rest (a.put N v) w') {as1_ : Array Operand} {ts : Array TypeId}
    (hop : oi.op = .call { callee := .value (.func f), args := as1_, argTypes := ts } := by rfl) (hd : oi.dst = N := by rfl) (hg : oi.guard = none := by rfl) (hname : (fn.name == "runtime.NumGoroutine") = false := by kernel_rfl) (hb : fn.body.isSome = true := by rfl)
    (hargs : as1_.map a.eval = args := by (try simp only [mA_, mB_, mC_]); first | done | rfl | (simp only [List.length_drop, List.length_take]; rfl) | (simp only [*]; rfl)) : wpList P ops Q (oi :: rest) a w :=
  goesL_ N hd hg hf hname hb args hop hargs (hc.mono h)
mutual
def theorboref03_column.j0 : Nat → Int → Int → ByteArray → List (S99) → List Int → List (S46) → Bool → Int → Bool → Bool → Bool → List (S54) → Option (ByteArray)
  | 0, _, _, _, _, _, _, _, _, _, _, _, _ => none
  | k + 1, x0, x2, x8, x833000, x833001, x833002, x835000, x835001, x835002, x835003, x835004, x835005 => (theorboref03_word.f x0 x835001 x835002 x835003).bind fun t835 => (if x8.size + t835.size ≤ 9223372036854775807 then (if x835004 = true then (if (x8 ++ t835).size + 2 ≤ 9223372036854775807 then (some ((x8 ++ t835) ++ (⟨#[32, 126]⟩ : ByteArray))) else (none)) else ((theorboref02_Rest.f x835000 x835001 x835002 x835003 x835004 x835005).bind fun t836 => (if t836 = true then (if (x8 ++ t835).size + 2 ≤ 9223372036854775807 then (some ((x8 ++ t835) ++ (⟨#[32, 37]⟩ : ByteArray))) else (none)) else ((theorboref03_Staff.f x833000 x833001).bind fun t837 => (if x0 = 4 then (theorboref03_column.j1 k x0 x2 (x8 ++ t835) 0 x833000 x833001 x833002) else (theorboref03_column.j1 k x0 x2 (x8 ++ t835) t837 x833000 x833001 x833002)))))) else (none))
def theorboref03_column.j1 : Nat → Int → Int → ByteArray → Int → List (S99) → List Int → List (S46) → Option (ByteArray)
  | 0, _, _, _, _, _, _, _ => none
  | k + 1, x0, x2, x8, x9, x833000, x833001, x833002 => theorboref03_column.l0 k x0 x2 x8 x9 (⟨#[]⟩ : ByteArray) (⟨#[]⟩ : ByteArray) (⟨#[]⟩ : ByteArray) 1 x833000 x833001 x833002
def theorboref03_column.l0 : Nat → Int → Int → ByteArray → Int → ByteArray → ByteArray → ByteArray → Int → List (S99) → List Int → List (S46) → Option (ByteArray)
  | 0, _, _, _, _, _, _, _, _, _, _, _ => none
  | k + 1, x0, x2, x8, x9, x10, x11, x12, x13, x833000, x833001, x833002 => if x13 ≤ (x833000.length : Int) then ((theorboref03_cellOf.f k x0 x833000 x833001 x833002 x2 x13).bind fun t838 => (if 1 + t838.size ≤ 9223372036854775807 then (if x13 ≤ x9 then (theorboref03_column.j3 k x0 x2 x8 x9 x10 x11 x12 x13 ((⟨#[32]⟩ : ByteArray) ++ t838) (x0 == 2) x833000 x833001 x833002) else (theorboref03_column.j3 k x0 x2 x8 x9 x10 x11 x12 x13 ((⟨#[32]⟩ : ByteArray) ++ t838) false x833000 x833001 x833002)) else (none))) else (if x8.size + x12.size ≤ 9223372036854775807 then (if (x8 ++ x12).size + x10.size ≤ 9223372036854775807 then (if ((x8 ++ x12) ++ x10).size + x11.size ≤ 9223372036854775807 then (some (((x8 ++ x12) ++ x10) ++ x11)) else (none)) else (none)) else (none))
def theorboref03_column.j3 : Nat → Int → Int → ByteArray → Int → ByteArray → ByteArray → ByteArray → Int → ByteArray → Bool → List (S99) → List Int → List (S46) → Option (ByteArray)
  | 0, _, _, _, _, _, _, _, _, _, _, _, _, _ => none
  | k + 1, x0, x2, x8, x9, x10, x11, x12, x13, x14, x61, x833000, x833001, x833002 => if x61 = true then (if x14.size + x10.size ≤ 9223372036854775807 then (theorboref03_column.l0 k x0 x2 x8 x9 (x14 ++ x10) x11 x12 (wrap64 (x13 + 1)) x833000 x833001 x833002) else (none)) else (if x13 ≤ x9 then (if x10.size + x14.size ≤ 9223372036854775807 then (theorboref03_column.l0 k x0 x2 x8 x9 (x10 ++ x14) x11 x12 (wrap64 (x13 + 1)) x833000 x833001 x833002) else (none)) else (if x14.toList = ([32, 45] : List UInt8) then (theorboref03_column.j4 k x0 x2 x8 x9 x10 x11 x12 x13 x14 false x833000 x833001 x833002) else (theorboref03_column.j4 k x0 x2 x8 x9 x10 x11 x12 x13 x14 (x0 == 2) x833000 x833001 x833002)))
def theorboref03_column.j4 : Nat → Int → Int → ByteArray → Int → ByteArray → ByteArray → ByteArray → Int → ByteArray → Bool → List (S99) → List Int → List (S46) → Option (ByteArray)
  | 0, _, _, _, _, _, _, _, _, _, _, _, _, _ => none
  | k + 1, x0, x2, x8, x9, x10, x11, x12, x13, x14, x76, x833000, x833001, x833002 => if x76 = true then (if x14.size + x12.size ≤ 9223372036854775807 then (theorboref03_column.l0 k x0 x2 x8 x9 x10 x11 (x14 ++ x12) (wrap64 (x13 + 1)) x833000 x833001 x833002) else (none)) else (if x14.toList = ([32, 45] : List UInt8) then (theorboref03_column.l0 k x0 x2 x8 x9 x10 x11 x12 (wrap64 (x13 + 1)) x833000 x833001 x833002) else (if x11.size + x14.size ≤ 9223372036854775807 then (theorboref03_column.l0 k x0 x2 x8 x9 x10 (x11 ++ x14) x12 (wrap64 (x13 + 1)) x833000 x833001 x833002) else (none)))
end
def theorboref03_column.f (k : Nat) (a0 : Int) (l1_0 : List (S99)) (l1_1 : List Int) (l1_2 : List (S46)) (a2 : Int) : Option (ByteArray) := if 0 ≤ a2 then (if a2 < (l1_2.length : Int) then (if (rd_T46 l1_2 a2).f0 = true then (theorboref03_column.j0 k a0 a2 (⟨#[124, 32]⟩ : ByteArray) l1_0 l1_1 l1_2 ((rd_T46 l1_2 a2).f0) ((rd_T46 l1_2 a2).f1.f0) ((rd_T46 l1_2 a2).f1.f1) ((rd_T46 l1_2 a2).f1.f2) ((rd_T46 l1_2 a2).f2) ((rd_T46 l1_2 a2).f3)) else (theorboref03_column.j0 k a0 a2 (⟨#[]⟩ : ByteArray) l1_0 l1_1 l1_2 ((rd_T46 l1_2 a2).f0) ((rd_T46 l1_2 a2).f1.f0) ((rd_T46 l1_2 a2).f1.f1) ((rd_T46 l1_2 a2).f1.f2) ((rd_T46 l1_2 a2).f2) ((rd_T46 l1_2 a2).f3))) else (none)) else (none)
theorem theorboref03_column.mono_l : ∀ k, (∀ y0 y1 y2 y3 y4 y5 y6 y7 y8 y9 y10 y11, LeO (theorboref03_column.j0 k y0 y1 y2 y3 y4 y5 y6 y7 y8 y9 y10 y11) (theorboref03_column.j0 (k + 1) y0 y1 y2 y3 y4 y5 y6 y7 y8 y9 y10 y11)) ∧ (∀ y0 y1 y2 y3 y4 y5 y6, LeO (theorboref03_column.j1 k y0 y1 y2 y3 y4 y5 y6) (theorboref03_column.j1 (k + 1) y0 y1 y2 y3 y4 y5 y6)) ∧ (∀ y0 y1 y2 y3 y4 y5 y6 y7 y8 y9 y10, LeO (theorboref03_column.l0 k y0 y1 y2 y3 y4 y5 y6 y7 y8 y9 y10) (theorboref03_column.l0 (k + 1) y0 y1 y2 y3 y4 y5 y6 y7 y8 y9 y10)) ∧ (∀ y0 y1 y2 y3 y4 y5 y6 y7 y8 y9 y10 y11 y12, LeO (theorboref03_column.j3 k y0 y1 y2 y3 y4 y5 y6 y7 y8 y9 y10 y11 y12) (theorboref03_column.j3 (k + 1) y0 y1 y2 y3 y4 y5 y6 y7 y8 y9 y10 y11 y12)) ∧ (∀ y0 y1 y2 y3 y4 y5 y6 y7 y8 y9 y10 y11 y12, LeO (theorboref03_column.j4 k y0 y1 y2 y3 y4 y5 y6 y7 y8 y9 y10 y11 y12) (theorboref03_column.j4 (k + 1) y0 y1 y2 y3 y4 y5 y6 y7 y8 y9 y10 y11 y12))
  | 0 => ⟨fun _ _ _ _ _ _ _ _ _ _ _ _ r h => by simp [theorboref03_column.j0] at h, fun _ _ _ _ _ _ _ r h => by simp [theorboref03_column.j1] at h, fun _ _ _ _ _ _ _ _ _ _ _ r h => by simp [theorboref03_column.l0] at h, fun _ _ _ _ _ _ _ _ _ _ _ _ _ r h => by simp [theorboref03_column.j3] at h, fun _ _ _ _ _ _ _ _ _ _ _ _ _ r h => by simp [theorboref03_column.j4] at h⟩
  | k + 1 => by
    ((obtain ⟨ih0, ih1, ih2, ih3, ih4⟩ := theorboref03_column.mono_l k); (refine ⟨?_, ?_, ?_, ?_, ?_⟩)); (focus intro y0 y1 y2 y3 y4 y5 y6 y7 y8 y9 y10 y11; (unfold theorboref03_column.j0); (repeat' first | (with_reducible first | apply ih0 | apply ih1 | apply ih2 | apply ih3 | apply ih4 | apply theorboref03_cellOf.mono | exact LeO.refl _ | exact LeO.none _ | refine LeO.ite ?_ ?_ | refine LeO.bind ?_ fun _ => ?_) | exact LeO.none _ | refine LeO.ite ?_ ?_ | refine LeO.bind ?_ fun _ => ?_ | apply ih0 | apply ih1 | apply ih2 | apply ih3 | apply ih4 | apply theorboref03_cellOf.mono)); (focus intro y0 y1 y2 y3 y4 y5 y6; (unfold theorboref03_column.j1); (repeat' first | (with_reducible first | apply ih0 | apply ih1 | apply ih2 | apply ih3 | apply ih4 | apply theorboref03_cellOf.mono | exact LeO.refl _ | exact LeO.none _ | refine LeO.ite ?_ ?_ | refine LeO.bind ?_ fun _ => ?_) | exact LeO.none _ | refine LeO.ite ?_ ?_ | refine LeO.bind ?_ fun _ => ?_ | apply ih0 | apply ih1 | apply ih2 | apply ih3 | apply ih4 | apply theorboref03_cellOf.mono)); (focus intro y0 y1 y2 y3 y4 y5 y6 y7 y8 y9 y10; (unfold theorboref03_column.l0); (repeat' first | (with_reducible first | apply ih0 | apply ih1 | apply ih2 | apply ih3 | apply ih4 | apply theorboref03_cellOf.mono | exact LeO.refl _ | exact LeO.none _ | refine LeO.ite ?_ ?_ | refine LeO.bind ?_ fun _ => ?_) | exact LeO.none _ | refine LeO.ite ?_ ?_ | refine LeO.bind ?_ fun _ => ?_ | apply ih0 | apply ih1 | apply ih2 | apply ih3 | apply ih4 | apply theorboref03_cellOf.mono)); (focus intro y0 y1 y2 y3 y4 y5 y6 y7 y8 y9 y10 y11 y12; (unfold theorboref03_column.j3); (repeat' first | (with_reducible first | apply ih0 | apply ih1 | apply ih2 | apply ih3 | apply ih4 | apply theorboref03_cellOf.mono | exact LeO.refl _ | exact LeO.none _ | refine LeO.ite ?_ ?_ | refine LeO.bind ?_ fun _ => ?_) | exact LeO.none _ | refine LeO.ite ?_ ?_ | refine LeO.bind ?_ fun _ => ?_ | apply ih0 | apply ih1 | apply ih2 | apply ih3 | apply ih4 | apply theorboref03_cellOf.mono)); (focus intro y0 y1 y2 y3 y4 y5 y6 y7 y8 y9 y10 y11 y12; (unfold theorboref03_column.j4); (repeat' first | (with_reducible first | apply ih0 | apply ih1 | apply ih2 | apply ih3 | apply ih4 | apply theorboref03_cellOf.mono | exact LeO.refl _ | exact LeO.none _ | refine LeO.ite ?_ ?_ | refine LeO.bind ?_ fun _ => ?_) | exact LeO.none _ | refine LeO.ite ?_ ?_ | refine LeO.bind ?_ fun _ => ?_ | apply ih0 | apply ih1 | apply ih2 | apply ih3 | apply ih4 | apply theorboref03_cellOf.mono))
theorem theorboref03_column.mono : ∀ a0 a1 a2 a3 a4 k, LeO (theorboref03_column.f k a0 a1 a2 a3 a4) (theorboref03_column.f (k + 1) a0 a1 a2 a3 a4) := by
  intro a0 a1 a2 a3 a4 k
  obtain ⟨ih0, ih1, ih2, ih3, ih4⟩ := theorboref03_column.mono_l k
  unfold theorboref03_column.f
  repeat' first | (with_reducible first | apply ih0 | apply ih1 | apply ih2 | apply ih3 | apply ih4 | apply theorboref03_cellOf.mono | exact LeO.refl _ | exact LeO.none _ | refine LeO.ite ?_ ?_ | refine LeO.bind ?_ fun _ => ?_) | exact LeO.none _ | refine LeO.ite ?_ ?_ | refine LeO.bind ?_ fun _ => ?_ | apply ih0 | apply ih1 | apply ih2 | apply ih3 | apply ih4 | apply theorboref03_cellOf.mono
set_option maxHeartbeats 8000000 in
set_option maxRecDepth 100000 in
theorem theorboref03_column.calls (k : Nat) (a0 : Int) (A1_0 : Option Addr) (c1_0 : Nat) (l1_0 : List (S99)) (A1_1 : Option Addr) (c1_1 : Nat) (l1_1 : List Int) (A1_2 : Option Addr) (c1_2 : Nat) (l1_2 : List (S46)) (a2 : Int) (r : ByteArray) (w : World) (hr1_0 : Kd.C k99 w A1_0 l1_0.length l1_0) (hc1_0 : l1_0.length ≤ c1_0) (hr1_1 : Kd.C (Kd.int .i64) w A1_1 l1_1.length l1_1) (hc1_1 : l1_1.length ≤ c1_1) (hr1_2 : Kd.C k46 w A1_2 l1_2.length l1_2) (hc1_2 : l1_2.length ≤ c1_2) (h : theorboref03_column.f k a0 l1_0 l1_1 l1_2 a2 = some r) :
    Calls Tryz.prog 30 #[.int .u8 a0, .agg #[.slice A1_0 l1_0.length c1_0, .slice A1_1 l1_1.length c1_1, .slice A1_2 l1_2.length c1_2], .int .i64 a2] w fun e w' => e = .returned (.string r) ∧ Below w.heap.size w w' := by
  have hu29 := Tryz.underlying29
  have hu46 := Tryz.underlying46
  have hu43 := Tryz.underlying43
  have hu26 := Tryz.underlying26
  have HR1_0 := Aside0.mk hr1_0
  have HC1_0 := Aside0.mk hc1_0
  clear hr1_0 hc1_0
  have HR1_1 := Aside0.mk hr1_1
  have HC1_1 := Aside0.mk hc1_1
  clear hr1_1 hc1_1
  have HR1_2 := Aside0.mk hr1_2
  have HC1_2 := Aside0.mk hc1_2
  clear hr1_2 hc1_2
  have HB := Aside0.mk (Below.refl w.heap.size w)
  have H : (if 0 ≤ a2 then (if a2 < (l1_2.length : Int) then (if (rd_T46 l1_2 a2).f0 = true then (theorboref03_column.j0 k a0 a2 (⟨#[124, 32]⟩ : ByteArray) l1_0 l1_1 l1_2 ((rd_T46 l1_2 a2).f0) ((rd_T46 l1_2 a2).f1.f0) ((rd_T46 l1_2 a2).f1.f1) ((rd_T46 l1_2 a2).f1.f2) ((rd_T46 l1_2 a2).f2) ((rd_T46 l1_2 a2).f3)) else (theorboref03_column.j0 k a0 a2 (⟨#[]⟩ : ByteArray) l1_0 l1_1 l1_2 ((rd_T46 l1_2 a2).f0) ((rd_T46 l1_2 a2).f1.f0) ((rd_T46 l1_2 a2).f1.f1) ((rd_T46 l1_2 a2).f1.f2) ((rd_T46 l1_2 a2).f2) ((rd_T46 l1_2 a2).f3))) else (none)) else (none)) = some r := h
  clear h
  by_cases c4 : 0 ≤ a2
  · rw [if_pos c4] at H
    (have c4b0 := decide_eq_true c4); clear c4; (by_cases c5 : a2 < (l1_2.length : Int))
    · rw [if_pos c5] at H
      (have c5b0 := decide_eq_true c5); clear c5; (have HC6 := Aside0.mk H); clear H; (go_enter Tryz.func30, Tryz.ntmps30); (go_upto_if 21 with (first | ((with_reducible refine gate_dst (N := 4) rfl ?_); refine bx_ 4 #[.slice A1_0 l1_0.length c1_0, .slice A1_1 l1_1.length c1_1, .slice A1_2 l1_2.length c1_2] 29 HB ?_; clear HB; intro gb832 w7 hg hb BK832 HB GW832; have GE832 := GW832; clear hg hb; have hcz8 := blk_cell BK832.out; have hfz8 := blk_frozen BK832.out; have p833 : 0 ≤ (a2 : Int) := of_decide_eq_true (by first | (with_reducible assumption) | assumption); have q833 : a2 < (l1_2.length : Int) := of_decide_eq_true (by first | (with_reducible assumption) | assumption); obtain ⟨ad833, A833_5, c833_5, e833, hx833_0, hx833_1, hx833_2, hx833_3, hx833_4, hx833_5, hl833_5, hi833_5⟩ := at_T46 HR1_2.out a2 p833 q833; cases e833; replace hx833_0 := pw_cell_below HB.out hx833_0; replace hx833_1 := pw_cell_below HB.out hx833_1; replace hx833_2 := pw_cell_below HB.out hx833_2; replace hx833_3 := pw_cell_below HB.out hx833_3; replace hx833_4 := pw_cell_below HB.out hx833_4; replace hx833_5 := pw_cell_below HB.out hx833_5; have HR833_5 := Aside0.mk hi833_5; have HC833_5 := Aside0.mk hl833_5; clear hi833_5 hl833_5; replace p833 := eq_true p833; replace q833 := eq_true q833) | ((with_reducible refine gate_dst (N := 7) rfl ?_); refine bx_ 7 #[.bool false, .int .i64 0, .bool false, .bool false, .bool false, .slice none 0 0] 46 HB ?_; clear HB; intro gb834 w9 hg hb BK834 HB GW834; have GE834 := GW834; have NB832_834 := nl_ BK832 hg; have NB834_832 := ng_ BK832 hg; replace BK832 := bb_ BK832 hb; clear hg hb; have hnb10 := NB834_832.out; have hnc10 := NB832_834.out; have hcz11 := blk_cell BK834.out; have hfz11 := blk_frozen BK834.out))); ((try simp only [Act.put, List.setIfInBounds_toArray, List.set_cons_zero, List.set_cons_succ])); (go_cut [8] (fun v8 wc => ∃ (kq : Nat) (x8_5 : ByteArray), v8 = .string x8_5 ∧ Aside0 (theorboref03_column.j0 kq a0 a2 x8_5 l1_0 l1_1 l1_2 ((rd_T46 l1_2 a2).f0) ((rd_T46 l1_2 a2).f1.f0) ((rd_T46 l1_2 a2).f1.f1) ((rd_T46 l1_2 a2).f1.f2) ((rd_T46 l1_2 a2).f2) ((rd_T46 l1_2 a2).f3) = some r) ∧ Aside0 (kq ≤ k) ∧ Aside0 (wc.heap[gb832]? = some (.cells #[(.slice A1_0 l1_0.length c1_0), (.slice A1_1 l1_1.length c1_1), (.slice (some ad833) l1_2.length c1_2)] 29 (0, 0))) ∧ Aside0 (wc.heap[gb834]? = some (.cells #[.bool ((rd_T46 l1_2 a2).f0), .int .i64 ((rd_T46 l1_2 a2).f1.f0), .bool ((rd_T46 l1_2 a2).f1.f1), .bool ((rd_T46 l1_2 a2).f1.f2), .bool ((rd_T46 l1_2 a2).f2), (.slice A833_5 ((rd_T46 l1_2 a2).f3).length c833_5)] 46 (0, 0))) ∧ Aside0 (Below w.heap.size w wc)))
      case first =>
        (have H := HC6.out); clear HC6; (obtain ⟨bq12, hbq12⟩ : ∃ b_ : Bool, b_ = ((rd_T46 l1_2 a2).f0) := ⟨_, rfl⟩); (replace H : (if bq12 = true then (theorboref03_column.j0 k a0 a2 (⟨#[124, 32]⟩ : ByteArray) l1_0 l1_1 l1_2 bq12 ((rd_T46 l1_2 a2).f1.f0) ((rd_T46 l1_2 a2).f1.f1) ((rd_T46 l1_2 a2).f1.f2) ((rd_T46 l1_2 a2).f2) ((rd_T46 l1_2 a2).f3)) else (theorboref03_column.j0 k a0 a2 (⟨#[]⟩ : ByteArray) l1_0 l1_1 l1_2 bq12 ((rd_T46 l1_2 a2).f1.f0) ((rd_T46 l1_2 a2).f1.f1) ((rd_T46 l1_2 a2).f1.f2) ((rd_T46 l1_2 a2).f2) ((rd_T46 l1_2 a2).f3))) = some r := by rw [← hbq12] at H; exact H); (have Nbq12 := Aside0.mk hbq12); clear hbq12; ((try rw [← Nbq12.out])); (by_cases c13 : bq12 = true)
        · subst c13
          (rw [if_pos rfl] at H); (have H' := Aside0.mk H); clear H; (go_wp2); (go_meet)
          case rel => exact ⟨_, ((⟨#[124, 32]⟩ : ByteArray)), (rs_), (by first | exact H' | (rw [← Nbq12.out]; exact H')), ⟨om_⟩, ⟨by first | (rw [← Nbq12.out]; exact bk_ BK832) | exact bk_ BK832⟩, ⟨by first | (rw [← Nbq12.out]; exact bk_ BK834) | exact bk_ BK834⟩, ⟨bl_ HB⟩⟩
        · replace c13 := Bool.eq_false_iff.mpr c13
          subst c13; (rw [if_neg Bool.false_ne_true] at H); (have H' := Aside0.mk H); clear H; (go_wp2); (go_meet)
          case rel => exact ⟨_, ((⟨#[]⟩ : ByteArray)), (rs_), (by first | exact H' | (rw [← Nbq12.out]; exact H')), ⟨om_⟩, ⟨by first | (rw [← Nbq12.out]; exact bk_ BK832) | exact bk_ BK832⟩, ⟨by first | (rw [← Nbq12.out]; exact bk_ BK834) | exact bk_ BK834⟩, ⟨bl_ HB⟩⟩
      case rest =>
        clear HC6; (try clear c4b0 c5b0 hcz11 hcz8 hfz11 hfz8 hx833_0 hx833_1 hx833_2 hx833_3 hx833_4 hx833_5 p833 q833); (obtain ⟨kq, x8_5, rfl, HA, HJ5, BK832, BK834, HB⟩ := hcut)
        cases kq with
        | zero => exact absurd HA.out (by simp [theorboref03_column.j0])
        | succ kj5 =>
          (have H := HA.out); clear HA; (simp only [theorboref03_column.j0] at H); (replace H := Option.bind_eq_some_iff.mp H); (obtain ⟨t835, A140, H⟩ := H); (try dsimp only at H); (have A14 := Aside0.mk A140); clear A140; (by_cases c15 : x8_5.size + t835.size ≤ 9223372036854775807)
          · rw [if_pos c15] at H
            (have c15b0 := eq_true c15); (have c15b1 : decide (x8_5.size + t835.size ≤ 9223372036854775807) = true := decide_eq_true c15); (try have c15b2 : (9223372036854775807 < x8_5.size + t835.size) = False := eq_false (Nat.not_lt.2 c15)); (have HC16 := Aside0.mk H); clear H; (have hnb17 := NB834_832.out); (have hnc17 := NB832_834.out); (have hcz18 := blk_cell BK834.out); (have hfz18 := blk_frozen BK834.out); (go_upto_if 29 with (first | ((with_reducible refine gate_callee (f := 48) rfl ?_); refine cl_ 48 (some 26) Tryz.func48 (theorboref03_word.calls a0 ((rd_T46 l1_2 a2).f1.f0) ((rd_T46 l1_2 a2).f1.f1) ((rd_T46 l1_2 a2).f1.f2) t835 _ A14.out) ?_; rintro e w19 ⟨rfl, hb⟩; refine ⟨_, rfl, ?_⟩; replace BK832 := bb_ BK832 hb; replace BK834 := bb_ BK834 hb; replace HB := bs_ HB hb; (try clear hb); (try clear hb2); (try clear hk); (try clear hi); have hcz20 := blk_cell BK834.out; have hfz20 := blk_frozen BK834.out))); ((try simp only [Act.put, List.setIfInBounds_toArray, List.set_cons_zero, List.set_cons_succ])); (have H := HC16.out); clear HC16; (by_cases c21 : ((rd_T46 l1_2 a2).f2) = true)
            · rw [if_pos c21] at H
              (have c21b0 : ((rd_T46 l1_2 a2).f2) = true := c21); clear c21; ((first | rw [c21b0] | (simp only [i64_w, i32_w]; rw [c21b0]) | skip)); (by_cases c22 : (x8_5 ++ t835).size + 2 ≤ 9223372036854775807)
              · rw [if_pos c22] at H
                (have c22b0 := eq_true c22); (have c22b1 : decide ((x8_5 ++ t835).size + 2 ≤ 9223372036854775807) = true := decide_eq_true c22); (try have c22b2 : (9223372036854775807 < (x8_5 ++ t835).size + 2) = False := eq_false (Nat.not_lt.2 c22)); (try (have c22b4 := c22b2; simp only [ByteArray.size_append] at c22b4)); (obtain rfl := Option.some.inj H); (go_wp2); (go_ret); (exact ⟨rv_, bl_ HB⟩)
              · rw [if_neg c22] at H
                exact absurd H (by simp)
            · rw [if_neg c21] at H
              (have c21b0 : ((rd_T46 l1_2 a2).f2) = false := by simpa using c21); clear c21; ((first | rw [c21b0] | (simp only [i64_w, i32_w]; rw [c21b0]) | skip)); (replace H := Option.bind_eq_some_iff.mp H); (obtain ⟨t836, A230, H⟩ := H); (try dsimp only at H); (have A23 := Aside0.mk A230); clear A230; (have HC24 := Aside0.mk H); clear H; (have hnb25 := NB834_832.out); (have hnc25 := NB832_834.out); (have hcz26 := blk_cell BK834.out); (have hfz26 := blk_frozen BK834.out); (go_upto_if 33 with (first | ((with_reducible refine gate_callee (f := 42) rfl ?_); refine clS_ 42 (some 33) Tryz.func42 (theorboref02_Rest.calls ((rd_T46 l1_2 a2).f0) ((rd_T46 l1_2 a2).f1.f0) ((rd_T46 l1_2 a2).f1.f1) ((rd_T46 l1_2 a2).f1.f2) ((rd_T46 l1_2 a2).f2) _ _ ((rd_T46 l1_2 a2).f3) t836 _ (kc_ HR833_5 HB) HC833_5.out A23.out) ?_; rintro e w27 ⟨rfl, hb⟩; refine ⟨_, rfl, ?_⟩; replace BK832 := bb_ BK832 hb; replace BK834 := bb_ BK834 hb; replace HB := bs_ HB hb; (try clear hb); (try clear hb2); (try clear hk); (try clear hi)))); ((try simp only [Act.put, List.setIfInBounds_toArray, List.set_cons_zero, List.set_cons_succ])); (have H := HC24.out); clear HC24; (by_cases c28 : t836 = true)
              · subst c28
                (rw [if_pos rfl] at H); (by_cases c29 : (x8_5 ++ t835).size + 2 ≤ 9223372036854775807)
                · rw [if_pos c29] at H
                  (have c29b0 := eq_true c29); (have c29b1 : decide ((x8_5 ++ t835).size + 2 ≤ 9223372036854775807) = true := decide_eq_true c29); (try have c29b2 : (9223372036854775807 < (x8_5 ++ t835).size + 2) = False := eq_false (Nat.not_lt.2 c29)); (try (have c29b4 := c29b2; simp only [ByteArray.size_append] at c29b4)); (obtain rfl := Option.some.inj H); (go_wp2); (go_ret); (exact ⟨rv_, bl_ HB⟩)
                · rw [if_neg c29] at H
                  exact absurd H (by simp)
              · replace c28 := Bool.eq_false_iff.mpr c28
                subst c28; (rw [if_neg Bool.false_ne_true] at H); (replace H := Option.bind_eq_some_iff.mp H); (obtain ⟨t837, A300, H⟩ := H); (try dsimp only at H); (have A30 := Aside0.mk A300); clear A300; (have HC31 := Aside0.mk H); clear H; (have hnb32 := NB832_834.out); (have hnc32 := NB834_832.out); (have hcz33 := blk_cell BK832.out); (have hfz33 := blk_frozen BK832.out); (go_upto_if 40 with (first | ((with_reducible refine gate_callee (f := 49) rfl ?_); refine cl_ 49 (some 38) Tryz.func49 (theorboref03_Staff.calls _ _ l1_0 _ _ l1_1 t837 _ (kc_ HR1_0 HB) HC1_0.out (kc_ HR1_1 HB) HC1_1.out A30.out) ?_; rintro e w34 ⟨rfl, hb⟩; refine ⟨_, rfl, ?_⟩; replace BK832 := bb_ BK832 hb; replace BK834 := bb_ BK834 hb; replace HB := bs_ HB hb; (try clear hb); (try clear hb2); (try clear hk); (try clear hi)))); ((try simp only [Act.put, List.setIfInBounds_toArray, List.set_cons_zero, List.set_cons_succ])); (go_cut [9] (fun v9 wc => ∃ (kq : Nat) (x9_30 : Int), v9 = .int .i64 x9_30 ∧ Aside0 (theorboref03_column.j1 kq a0 a2 (x8_5 ++ t835) x9_30 l1_0 l1_1 l1_2 = some r) ∧ Aside0 (kq ≤ kj5) ∧ Aside0 (wc.heap[gb832]? = some (.cells #[(.slice A1_0 l1_0.length c1_0), (.slice A1_1 l1_1.length c1_1), (.slice (some ad833) l1_2.length c1_2)] 29 (0, 0))) ∧ Aside0 (wc.heap[gb834]? = some (.cells #[.bool ((rd_T46 l1_2 a2).f0), .int .i64 ((rd_T46 l1_2 a2).f1.f0), .bool ((rd_T46 l1_2 a2).f1.f1), .bool ((rd_T46 l1_2 a2).f1.f2), .bool ((rd_T46 l1_2 a2).f2), (.slice A833_5 ((rd_T46 l1_2 a2).f3).length c833_5)] 46 (0, 0))) ∧ Aside0 (Below w.heap.size w wc)))
                case first =>
                  (have H := HC31.out); clear HC31; (by_cases c35 : a0 = 4)
                  · rw [if_pos c35] at H
                    (obtain ⟨c35b0, c35b1⟩ := eqT_ c35); clear c35; ((first | rw [c35b0] | rw [c35b1] | (simp only [i64_w, i32_w]; rw [c35b0]) | skip)); (have H' := Aside0.mk H); clear H; (go_wp2); (go_meet)
                    case rel => exact ⟨_, (0), (rs_), (by first | exact H' | (rw [← Nbq12.out]; exact H')), ⟨by have := HJ5.out; first | omega | exact Nat.le_refl _⟩, ⟨by first | (rw [← Nbq12.out]; exact bk_ BK832) | exact bk_ BK832⟩, ⟨by first | (rw [← Nbq12.out]; exact bk_ BK834) | exact bk_ BK834⟩, ⟨bl_ HB⟩⟩
                  · rw [if_neg c35] at H
                    (obtain ⟨c35b0, c35b1⟩ := eqF_ c35); ((first | rw [c35b0] | rw [c35b1] | (simp only [i64_w, i32_w]; rw [c35b0]) | skip)); (have H' := Aside0.mk H); clear H; (go_wp2); (go_meet)
                    case rel => exact ⟨_, (t837), (rs_), (by first | exact H' | (rw [← Nbq12.out]; exact H')), ⟨by have := HJ5.out; first | omega | exact Nat.le_refl _⟩, ⟨by first | (rw [← Nbq12.out]; exact bk_ BK832) | exact bk_ BK832⟩, ⟨by first | (rw [← Nbq12.out]; exact bk_ BK834) | exact bk_ BK834⟩, ⟨bl_ HB⟩⟩
                case rest =>
                  clear HC31; (try clear c15 c15b0 c15b1 c15b2 c21b0 c28 hcz18 hcz20 hcz26 hcz33 hfz18 hfz20 hfz26 hfz33); (obtain ⟨kq, x9_30, rfl, HA, HJ30, BK832, BK834, HB⟩ := hcut)
                  cases kq with
                  | zero => exact absurd HA.out (by simp [theorboref03_column.j1])
                  | succ kj30 =>
                    (have H := HA.out); clear HA; (simp only [theorboref03_column.j1] at H); (have H' := Aside0.mk H); clear H; (go_wp2); (go_loopg [10, 11, 12, 13] kj30 (fun kq v10 v11 v12 v13 w' => ∃ (x10_3 : ByteArray) (x11_3 : ByteArray) (x12_3 : ByteArray) (x13_3 : Int), v10 = .string x10_3 ∧ v11 = .string x11_3 ∧ v12 = .string x12_3 ∧ v13 = .int .i64 x13_3 ∧ Aside0 (theorboref03_column.l0 kq a0 a2 (x8_5 ++ t835) x9_30 x10_3 x11_3 x12_3 x13_3 l1_0 l1_1 l1_2 = some r) ∧ Aside0 (kq ≤ kj30) ∧ Aside0 (w'.heap[gb832]? = some (.cells #[(.slice A1_0 l1_0.length c1_0), (.slice A1_1 l1_1.length c1_1), (.slice (some ad833) l1_2.length c1_2)] 29 (0, 0))) ∧ Aside0 (w'.heap[gb834]? = some (.cells #[.bool ((rd_T46 l1_2 a2).f0), .int .i64 ((rd_T46 l1_2 a2).f1.f0), .bool ((rd_T46 l1_2 a2).f1.f1), .bool ((rd_T46 l1_2 a2).f1.f2), .bool ((rd_T46 l1_2 a2).f2), (.slice A833_5 ((rd_T46 l1_2 a2).f3).length c833_5)] 46 (0, 0))) ∧ Aside0 (Below w.heap.size w w')))
                    case atStart => exact ⟨((⟨#[]⟩ : ByteArray)), ((⟨#[]⟩ : ByteArray)), ((⟨#[]⟩ : ByteArray)), (1), (rs_), (rs_), (rs_), (rs_), H', ⟨Nat.le_refl _⟩, ⟨bk_ BK832⟩, ⟨bk_ BK834⟩, ⟨bl_ HB⟩⟩
                    case round =>
                      clear H'; (obtain ⟨x10_3, x11_3, x12_3, x13_3, rfl, rfl, rfl, rfl, HA, HK3, BK832, BK834, HB⟩ := hrel)
                      cases gk with
                      | zero => exact absurd HA.out (by simp [theorboref03_column.l0])
                      | succ k3 =>
                        (have H := HA.out); clear HA; (simp only [theorboref03_column.l0] at H); (have HC36 := Aside0.mk H); clear H; (have hnb37 := NB832_834.out); (have hnc37 := NB834_832.out); (have hcz38 := blk_cell BK832.out); (have hfz38 := blk_frozen BK832.out); (go_upto_if 46 with (fail)); (have H := HC36.out); clear HC36; (by_cases c39 : x13_3 ≤ (l1_0.length : Int))
                        · rw [if_pos c39] at H
                          (have c39b0 := decide_eq_true c39); clear c39; ((first | rw [c39b0] | (simp only [i64_w, i32_w]; rw [c39b0]) | skip)); (replace H := Option.bind_eq_some_iff.mp H); (obtain ⟨t838, A400, H⟩ := H); (try dsimp only at H); (have A40 := Aside0.mk A400); clear A400; (by_cases c41 : 1 + t838.size ≤ 9223372036854775807)
                          · rw [if_pos c41] at H
                            (have c41b0 := eq_true c41); (have c41b1 : decide (1 + t838.size ≤ 9223372036854775807) = true := decide_eq_true c41); (try have c41b2 : (9223372036854775807 < 1 + t838.size) = False := eq_false (Nat.not_lt.2 c41)); (have HC42 := Aside0.mk H); clear H; (have hnb43 := NB832_834.out); (have hnc43 := NB834_832.out); (have hcz44 := blk_cell BK832.out); (have hfz44 := blk_frozen BK832.out); (go_upto_region 18 with (first | ((with_reducible refine gate_callee (f := 50) rfl ?_); refine cl_ 50 (some 53) Tryz.func50 (theorboref03_cellOf.calls k3 a0 _ _ l1_0 _ _ l1_1 _ _ l1_2 a2 x13_3 t838 _ (kc_ HR1_0 HB) HC1_0.out (kc_ HR1_1 HB) HC1_1.out (kc_ HR1_2 HB) HC1_2.out A40.out) ?_; rintro e w45 ⟨rfl, hb⟩; refine ⟨_, rfl, ?_⟩; replace BK832 := bb_ BK832 hb; replace BK834 := bb_ BK834 hb; replace HB := bs_ HB hb; (try clear hb); (try clear hb2); (try clear hk); (try clear hi)))); ((try simp only [Act.put, List.setIfInBounds_toArray, List.set_cons_zero, List.set_cons_succ])); (go_cut [61] (fun v61 wc => ∃ (kq : Nat) (x61_41 : Bool), v61 = .bool x61_41 ∧ Aside0 (theorboref03_column.j3 kq a0 a2 (x8_5 ++ t835) x9_30 x10_3 x11_3 x12_3 x13_3 ((⟨#[32]⟩ : ByteArray) ++ t838) x61_41 l1_0 l1_1 l1_2 = some r) ∧ Aside0 (kq ≤ k3) ∧ Aside0 (wc.heap[gb832]? = some (.cells #[(.slice A1_0 l1_0.length c1_0), (.slice A1_1 l1_1.length c1_1), (.slice (some ad833) l1_2.length c1_2)] 29 (0, 0))) ∧ Aside0 (wc.heap[gb834]? = some (.cells #[.bool ((rd_T46 l1_2 a2).f0), .int .i64 ((rd_T46 l1_2 a2).f1.f0), .bool ((rd_T46 l1_2 a2).f1.f1), .bool ((rd_T46 l1_2 a2).f1.f2), .bool ((rd_T46 l1_2 a2).f2), (.slice A833_5 ((rd_T46 l1_2 a2).f3).length c833_5)] 46 (0, 0))) ∧ Aside0 (Below w.heap.size w wc)))
                            case first =>
                              (have H := HC42.out); clear HC42; (by_cases c46 : x13_3 ≤ x9_30)
                              · rw [if_pos c46] at H
                                (have c46b0 := decide_eq_true c46); clear c46; ((first | rw [c46b0] | (simp only [i64_w, i32_w]; rw [c46b0]) | skip)); (have H' := Aside0.mk H); clear H; (go_wp2); (go_meet)
                                case rel => exact ⟨_, ((a0 == 2)), (rs_), (by first | exact H' | (rw [← Nbq12.out]; exact H')), ⟨by have := HJ5.out; have := HJ30.out; have := HK3.out; first | omega | exact Nat.le_refl _⟩, ⟨by first | (rw [← Nbq12.out]; exact bk_ BK832) | exact bk_ BK832⟩, ⟨by first | (rw [← Nbq12.out]; exact bk_ BK834) | exact bk_ BK834⟩, ⟨bl_ HB⟩⟩
                              · rw [if_neg c46] at H
                                (have c46b0 := decide_eq_false c46); clear c46; ((first | rw [c46b0] | (simp only [i64_w, i32_w]; rw [c46b0]) | skip)); (have H' := Aside0.mk H); clear H; (go_wp2); (go_meet)
                                case rel => exact ⟨_, (false), (rs_), (by first | exact H' | (rw [← Nbq12.out]; exact H')), ⟨by have := HJ5.out; have := HJ30.out; have := HK3.out; first | omega | exact Nat.le_refl _⟩, ⟨by first | (rw [← Nbq12.out]; exact bk_ BK832) | exact bk_ BK832⟩, ⟨by first | (rw [← Nbq12.out]; exact bk_ BK834) | exact bk_ BK834⟩, ⟨bl_ HB⟩⟩
                            case rest =>
                              clear HC42; (try clear c39b0 c41 c41b0 c41b1 c41b2 hcz38 hcz44 hfz38 hfz44); (obtain ⟨kq, x61_41, rfl, HA, HJ41, BK832, BK834, HB⟩ := hcut)
                              cases kq with
                              | zero => exact absurd HA.out (by simp [theorboref03_column.j3])
                              | succ kj41 =>
                                (have H := HA.out); clear HA; (simp only [theorboref03_column.j3] at H); (by_cases c47 : x61_41 = true)
                                · subst c47
                                  (rw [if_pos rfl] at H); (by_cases c48 : ((⟨#[32]⟩ : ByteArray) ++ t838).size + x10_3.size ≤ 9223372036854775807)
                                  · rw [if_pos c48] at H
                                    (have c48b0 := eq_true c48); (have c48b1 : decide (((⟨#[32]⟩ : ByteArray) ++ t838).size + x10_3.size ≤ 9223372036854775807) = true := decide_eq_true c48); (try have c48b2 : (9223372036854775807 < ((⟨#[32]⟩ : ByteArray) ++ t838).size + x10_3.size) = False := eq_false (Nat.not_lt.2 c48)); (try (have c48b4 := c48b2; simp only [ByteArray.size_append] at c48b4)); (have H' := Aside0.mk H); clear H; (go_wp2); (go_roundg kj41)
                                    case measure => have := HJ5.out; have := HJ30.out; have := HK3.out; have := HJ41.out; omega
                                    case rel => exact ⟨(((⟨#[32]⟩ : ByteArray) ++ t838) ++ x10_3), (x11_3), (x12_3), (wrap64 (x13_3 + 1)), (rs_), (rs_), (rs_), (rs_), (by first | exact H' | (rw [← Nbq12.out]; exact H')), ⟨by have := HJ5.out; have := HJ30.out; have := HK3.out; have := HJ41.out; omega⟩, ⟨by first | (rw [← Nbq12.out]; exact bk_ BK832) | exact bk_ BK832⟩, ⟨by first | (rw [← Nbq12.out]; exact bk_ BK834) | exact bk_ BK834⟩, ⟨bl_ HB⟩⟩
                                  · rw [if_neg c48] at H
                                    exact absurd H (by simp)
                                · replace c47 := Bool.eq_false_iff.mpr c47
                                  subst c47; (rw [if_neg Bool.false_ne_true] at H); (by_cases c49 : x13_3 ≤ x9_30)
                                  · rw [if_pos c49] at H
                                    (have c49b0 := decide_eq_true c49); clear c49; (by_cases c50 : x10_3.size + ((⟨#[32]⟩ : ByteArray) ++ t838).size ≤ 9223372036854775807)
                                    · rw [if_pos c50] at H
                                      (have c50b0 := eq_true c50); (have c50b1 : decide (x10_3.size + ((⟨#[32]⟩ : ByteArray) ++ t838).size ≤ 9223372036854775807) = true := decide_eq_true c50); (try have c50b2 : (9223372036854775807 < x10_3.size + ((⟨#[32]⟩ : ByteArray) ++ t838).size) = False := eq_false (Nat.not_lt.2 c50)); (try (have c50b4 := c50b2; simp only [ByteArray.size_append] at c50b4)); (have H' := Aside0.mk H); clear H; (go_wp2); (go_roundg kj41)
                                      case measure => have := HJ5.out; have := HJ30.out; have := HK3.out; have := HJ41.out; omega
                                      case rel => exact ⟨(x10_3 ++ ((⟨#[32]⟩ : ByteArray) ++ t838)), (x11_3), (x12_3), (wrap64 (x13_3 + 1)), (rs_), (rs_), (rs_), (rs_), (by first | exact H' | (rw [← Nbq12.out]; exact H')), ⟨by have := HJ5.out; have := HJ30.out; have := HK3.out; have := HJ41.out; omega⟩, ⟨by first | (rw [← Nbq12.out]; exact bk_ BK832) | exact bk_ BK832⟩, ⟨by first | (rw [← Nbq12.out]; exact bk_ BK834) | exact bk_ BK834⟩, ⟨bl_ HB⟩⟩
                                    · rw [if_neg c50] at H
                                      exact absurd H (by simp)
                                  · rw [if_neg c49] at H
                                    (have c49b0 := decide_eq_false c49); clear c49; (have HC51 := Aside0.mk H); clear H; (go_upto_region 22 with (fail)); (go_cut [76] (fun v76 wc => ∃ (kq : Nat) (x76_50 : Bool), v76 = .bool x76_50 ∧ Aside0 (theorboref03_column.j4 kq a0 a2 (x8_5 ++ t835) x9_30 x10_3 x11_3 x12_3 x13_3 ((⟨#[32]⟩ : ByteArray) ++ t838) x76_50 l1_0 l1_1 l1_2 = some r) ∧ Aside0 (kq ≤ kj41) ∧ Aside0 (wc.heap[gb832]? = some (.cells #[(.slice A1_0 l1_0.length c1_0), (.slice A1_1 l1_1.length c1_1), (.slice (some ad833) l1_2.length c1_2)] 29 (0, 0))) ∧ Aside0 (wc.heap[gb834]? = some (.cells #[.bool ((rd_T46 l1_2 a2).f0), .int .i64 ((rd_T46 l1_2 a2).f1.f0), .bool ((rd_T46 l1_2 a2).f1.f1), .bool ((rd_T46 l1_2 a2).f1.f2), .bool ((rd_T46 l1_2 a2).f2), (.slice A833_5 ((rd_T46 l1_2 a2).f3).length c833_5)] 46 (0, 0))) ∧ Aside0 (Below w.heap.size w wc)))
                                    case first =>
                                      (have H := HC51.out); clear HC51; (by_cases c52 : ((⟨#[32]⟩ : ByteArray) ++ t838).toList = ([32, 45] : List UInt8))
                                      · rw [if_pos c52] at H
                                        (have c52b0 : (((⟨#[32]⟩ : ByteArray) ++ t838).toList == ([32, 45] : List UInt8)) = true := beq_iff_eq.mpr c52); (have c52b1 : (((⟨#[32]⟩ : ByteArray) ++ t838).toList != ([32, 45] : List UInt8)) = false := bne_eq_false_iff_eq.mpr c52); clear c52; ((first | rw [c52b0] | rw [c52b1] | (simp only [i64_w, i32_w]; first | rw [c52b0] | rw [c52b1]) | rw [List.isEmpty_iff.mpr (beq_iff_eq.mp c52b0)] | skip)); (have H' := Aside0.mk H); clear H; (go_wp2); (go_meet)
                                        case rel => exact ⟨_, (false), (rs_), (by first | exact H' | (rw [← Nbq12.out]; exact H')), ⟨by have := HJ5.out; have := HJ30.out; have := HK3.out; have := HJ41.out; first | omega | exact Nat.le_refl _⟩, ⟨by first | (rw [← Nbq12.out]; exact bk_ BK832) | exact bk_ BK832⟩, ⟨by first | (rw [← Nbq12.out]; exact bk_ BK834) | exact bk_ BK834⟩, ⟨bl_ HB⟩⟩
                                      · rw [if_neg c52] at H
                                        (have c52b0 : (((⟨#[32]⟩ : ByteArray) ++ t838).toList == ([32, 45] : List UInt8)) = false := beq_eq_false_iff_ne.mpr c52); (have c52b1 : (((⟨#[32]⟩ : ByteArray) ++ t838).toList != ([32, 45] : List UInt8)) = true := bne_iff_ne.mpr c52); ((first | rw [c52b0] | rw [c52b1] | (simp only [i64_w, i32_w]; first | rw [c52b0] | rw [c52b1]) | rw [List.isEmpty_eq_false_iff.mpr (beq_eq_false_iff_ne.mp c52b0)] | skip)); (have H' := Aside0.mk H); clear H; (go_wp2); (go_meet)
                                        case rel => exact ⟨_, ((a0 == 2)), (rs_), (by first | exact H' | (rw [← Nbq12.out]; exact H')), ⟨by have := HJ5.out; have := HJ30.out; have := HK3.out; have := HJ41.out; first | omega | exact Nat.le_refl _⟩, ⟨by first | (rw [← Nbq12.out]; exact bk_ BK832) | exact bk_ BK832⟩, ⟨by first | (rw [← Nbq12.out]; exact bk_ BK834) | exact bk_ BK834⟩, ⟨bl_ HB⟩⟩
                                    case rest =>
                                      clear HC51; (try clear c47 c49b0); (obtain ⟨kq, x76_50, rfl, HA, HJ50, BK832, BK834, HB⟩ := hcut)
                                      cases kq with
                                      | zero => exact absurd HA.out (by simp [theorboref03_column.j4])
                                      | succ kj50 =>
                                        (have H := HA.out); clear HA; (simp only [theorboref03_column.j4] at H); (by_cases c53 : x76_50 = true)
                                        · subst c53
                                          (rw [if_pos rfl] at H); (by_cases c54 : ((⟨#[32]⟩ : ByteArray) ++ t838).size + x12_3.size ≤ 9223372036854775807)
                                          · rw [if_pos c54] at H
                                            (have c54b0 := eq_true c54); (have c54b1 : decide (((⟨#[32]⟩ : ByteArray) ++ t838).size + x12_3.size ≤ 9223372036854775807) = true := decide_eq_true c54); (try have c54b2 : (9223372036854775807 < ((⟨#[32]⟩ : ByteArray) ++ t838).size + x12_3.size) = False := eq_false (Nat.not_lt.2 c54)); (try (have c54b4 := c54b2; simp only [ByteArray.size_append] at c54b4)); (have H' := Aside0.mk H); clear H; (go_wp2); (go_roundg kj50)
                                            case measure => have := HJ5.out; have := HJ30.out; have := HK3.out; have := HJ41.out; have := HJ50.out; omega
                                            case rel => exact ⟨(x10_3), (x11_3), (((⟨#[32]⟩ : ByteArray) ++ t838) ++ x12_3), (wrap64 (x13_3 + 1)), (rs_), (rs_), (rs_), (rs_), (by first | exact H' | (rw [← Nbq12.out]; exact H')), ⟨by have := HJ5.out; have := HJ30.out; have := HK3.out; have := HJ41.out; have := HJ50.out; omega⟩, ⟨by first | (rw [← Nbq12.out]; exact bk_ BK832) | exact bk_ BK832⟩, ⟨by first | (rw [← Nbq12.out]; exact bk_ BK834) | exact bk_ BK834⟩, ⟨bl_ HB⟩⟩
                                          · rw [if_neg c54] at H
                                            exact absurd H (by simp)
                                        · replace c53 := Bool.eq_false_iff.mpr c53
                                          subst c53; (rw [if_neg Bool.false_ne_true] at H); (by_cases c55 : ((⟨#[32]⟩ : ByteArray) ++ t838).toList = ([32, 45] : List UInt8))
                                          · rw [if_pos c55] at H
                                            (have c55b0 : (((⟨#[32]⟩ : ByteArray) ++ t838).toList == ([32, 45] : List UInt8)) = true := beq_iff_eq.mpr c55); (have c55b1 : (((⟨#[32]⟩ : ByteArray) ++ t838).toList != ([32, 45] : List UInt8)) = false := bne_eq_false_iff_eq.mpr c55); clear c55; (have H' := Aside0.mk H); clear H; (go_wp2); (go_roundg kj50)
                                            case measure => have := HJ5.out; have := HJ30.out; have := HK3.out; have := HJ41.out; have := HJ50.out; omega
                                            case rel => exact ⟨(x10_3), (x11_3), (x12_3), (wrap64 (x13_3 + 1)), (rs_), (rs_), (rs_), (rs_), (by first | exact H' | (rw [← Nbq12.out]; exact H')), ⟨by have := HJ5.out; have := HJ30.out; have := HK3.out; have := HJ41.out; have := HJ50.out; omega⟩, ⟨by first | (rw [← Nbq12.out]; exact bk_ BK832) | exact bk_ BK832⟩, ⟨by first | (rw [← Nbq12.out]; exact bk_ BK834) | exact bk_ BK834⟩, ⟨bl_ HB⟩⟩
                                          · rw [if_neg c55] at H
                                            (have c55b0 : (((⟨#[32]⟩ : ByteArray) ++ t838).toList == ([32, 45] : List UInt8)) = false := beq_eq_false_iff_ne.mpr c55); (have c55b1 : (((⟨#[32]⟩ : ByteArray) ++ t838).toList != ([32, 45] : List UInt8)) = true := bne_iff_ne.mpr c55); (by_cases c56 : x11_3.size + ((⟨#[32]⟩ : ByteArray) ++ t838).size ≤ 9223372036854775807)
                                            · rw [if_pos c56] at H
                                              (have c56b0 := eq_true c56); (have c56b1 : decide (x11_3.size + ((⟨#[32]⟩ : ByteArray) ++ t838).size ≤ 9223372036854775807) = true := decide_eq_true c56); (try have c56b2 : (9223372036854775807 < x11_3.size + ((⟨#[32]⟩ : ByteArray) ++ t838).size) = False := eq_false (Nat.not_lt.2 c56)); (try (have c56b4 := c56b2; simp only [ByteArray.size_append] at c56b4)); (have H' := Aside0.mk H); clear H; (go_wp2); (go_roundg kj50)
                                              case measure => have := HJ5.out; have := HJ30.out; have := HK3.out; have := HJ41.out; have := HJ50.out; omega
                                              case rel => exact ⟨(x10_3), (x11_3 ++ ((⟨#[32]⟩ : ByteArray) ++ t838)), (x12_3), (wrap64 (x13_3 + 1)), (rs_), (rs_), (rs_), (rs_), (by first | exact H' | (rw [← Nbq12.out]; exact H')), ⟨by have := HJ5.out; have := HJ30.out; have := HK3.out; have := HJ41.out; have := HJ50.out; omega⟩, ⟨by first | (rw [← Nbq12.out]; exact bk_ BK832) | exact bk_ BK832⟩, ⟨by first | (rw [← Nbq12.out]; exact bk_ BK834) | exact bk_ BK834⟩, ⟨bl_ HB⟩⟩
                                            · rw [if_neg c56] at H
                                              exact absurd H (by simp)
                          · rw [if_neg c41] at H
                            exact absurd H (by simp)
                        · rw [if_neg c39] at H
                          (have c39b0 := decide_eq_false c39); clear c39; ((first | rw [c39b0] | (simp only [i64_w, i32_w]; rw [c39b0]) | skip)); (by_cases c57 : (x8_5 ++ t835).size + x12_3.size ≤ 9223372036854775807)
                          · rw [if_pos c57] at H
                            (have c57b0 := eq_true c57); (have c57b1 : decide ((x8_5 ++ t835).size + x12_3.size ≤ 9223372036854775807) = true := decide_eq_true c57); (try have c57b2 : (9223372036854775807 < (x8_5 ++ t835).size + x12_3.size) = False := eq_false (Nat.not_lt.2 c57)); (try (have c57b4 := c57b2; simp only [ByteArray.size_append] at c57b4)); (by_cases c58 : ((x8_5 ++ t835) ++ x12_3).size + x10_3.size ≤ 9223372036854775807)
                            · rw [if_pos c58] at H
                              (have c58b0 := eq_true c58); (have c58b1 : decide (((x8_5 ++ t835) ++ x12_3).size + x10_3.size ≤ 9223372036854775807) = true := decide_eq_true c58); (try have c58b2 : (9223372036854775807 < ((x8_5 ++ t835) ++ x12_3).size + x10_3.size) = False := eq_false (Nat.not_lt.2 c58)); (try (have c58b4 := c58b2; simp only [ByteArray.size_append] at c58b4)); (by_cases c59 : (((x8_5 ++ t835) ++ x12_3) ++ x10_3).size + x11_3.size ≤ 9223372036854775807)
                              · rw [if_pos c59] at H
                                (have c59b0 := eq_true c59); (have c59b1 : decide ((((x8_5 ++ t835) ++ x12_3) ++ x10_3).size + x11_3.size ≤ 9223372036854775807) = true := decide_eq_true c59); (try have c59b2 : (9223372036854775807 < (((x8_5 ++ t835) ++ x12_3) ++ x10_3).size + x11_3.size) = False := eq_false (Nat.not_lt.2 c59)); (try (have c59b4 := c59b2; simp only [ByteArray.size_append] at c59b4)); (obtain rfl := Option.some.inj H); (go_wp2); (go_ret); (exact ⟨rv_, bl_ HB⟩)
                              · rw [if_neg c59] at H
                                exact absurd H (by simp)
                            · rw [if_neg c58] at H
                              exact absurd H (by simp)
                          · rw [if_neg c57] at H
                            exact absurd H (by simp)
          · rw [if_neg c15] at H
            exact absurd H (by simp)
    · rw [if_neg c5] at H
      exact absurd H (by simp)
  · rw [if_neg c4] at H
    exact absurd H (by simp)

/-! ### theorboref03_Column: function 16 -/
def theorboref03_Column.j0 : Nat → Int → Int → Bool → List (S99) → List Int → List (S46) → Option (ByteArray × Int)
  | 0, _, _, _, _, _, _ => none
  | k + 1, x0, x2, x25, x847000, x847001, x847002 => if x25 = true then (some ((⟨#[]⟩ : ByteArray), 1)) else ((theorboref03_lacks.f k x0 x847000 x847001 x847002 x2).bind fun t849 => (if (t849.length : Int) > 0 then (some ((⟨#[]⟩ : ByteArray), 31)) else ((theorboref03_column.f k x0 x847000 x847001 x847002 x2).bind fun t852 => (some (t852, 0)))))
def theorboref03_Column.f (k : Nat) (a0 : Int) (l1_0 : List (S99)) (l1_1 : List Int) (l1_2 : List (S46)) (a2 : Int) : Option (ByteArray × Int) := (theorboref03_Known.f a0).bind fun t847 => (if t847 = true then ((theorboref02_Check.f k l1_0 l1_1 l1_2).bind fun t848 => (if t848 = 0 then (if a2 < 0 then (theorboref03_Column.j0 k a0 a2 true l1_0 l1_1 l1_2) else (theorboref03_Column.j0 k a0 a2 (decide (a2 ≥ (l1_2.length : Int))) l1_0 l1_1 l1_2)) else (some ((⟨#[]⟩ : ByteArray), t848)))) else (some ((⟨#[]⟩ : ByteArray), 30)))
theorem theorboref03_Column.mono_l : ∀ k, (∀ y0 y1 y2 y3 y4 y5, LeO (theorboref03_Column.j0 k y0 y1 y2 y3 y4 y5) (theorboref03_Column.j0 (k + 1) y0 y1 y2 y3 y4 y5))
  | 0 => fun _ _ _ _ _ _ r h => by simp [theorboref03_Column.j0] at h
  | k + 1 => by
    (have ih0 := theorboref03_Column.mono_l k); (focus intro y0 y1 y2 y3 y4 y5; (unfold theorboref03_Column.j0); (repeat' first | (with_reducible first | apply ih0 | apply theorboref02_Check.mono | apply theorboref03_column.mono | apply theorboref03_lacks.mono | exact LeO.refl _ | exact LeO.none _ | refine LeO.ite ?_ ?_ | refine LeO.bind ?_ fun _ => ?_) | exact LeO.none _ | refine LeO.ite ?_ ?_ | refine LeO.bind ?_ fun _ => ?_ | apply ih0 | apply theorboref02_Check.mono | apply theorboref03_column.mono | apply theorboref03_lacks.mono))
theorem theorboref03_Column.mono : ∀ a0 a1 a2 a3 a4 k, LeO (theorboref03_Column.f k a0 a1 a2 a3 a4) (theorboref03_Column.f (k + 1) a0 a1 a2 a3 a4) := by
  intro a0 a1 a2 a3 a4 k
  have ih0 := theorboref03_Column.mono_l k
  unfold theorboref03_Column.f
  repeat' first | (with_reducible first | apply ih0 | apply theorboref02_Check.mono | apply theorboref03_column.mono | apply theorboref03_lacks.mono | exact LeO.refl _ | exact LeO.none _ | refine LeO.ite ?_ ?_ | refine LeO.bind ?_ fun _ => ?_) | exact LeO.none _ | refine LeO.ite ?_ ?_ | refine LeO.bind ?_ fun _ => ?_ | apply ih0 | apply theorboref02_Check.mono | apply theorboref03_column.mono | apply theorboref03_lacks.mono
set_option maxHeartbeats 8000000 in
set_option maxRecDepth 100000 in
theorem theorboref03_Column.calls (k : Nat) (a0 : Int) (A1_0 : Option Addr) (c1_0 : Nat) (l1_0 : List (S99)) (A1_1 : Option Addr) (c1_1 : Nat) (l1_1 : List Int) (A1_2 : Option Addr) (c1_2 : Nat) (l1_2 : List (S46)) (a2 : Int) (r1 : ByteArray) (r2 : Int) (w : World) (hr1_0 : Kd.C k99 w A1_0 l1_0.length l1_0) (hc1_0 : l1_0.length ≤ c1_0) (hr1_1 : Kd.C (Kd.int .i64) w A1_1 l1_1.length l1_1) (hc1_1 : l1_1.length ≤ c1_1) (hr1_2 : Kd.C k46 w A1_2 l1_2.length l1_2) (hc1_2 : l1_2.length ≤ c1_2) (h : theorboref03_Column.f k a0 l1_0 l1_1 l1_2 a2 = some (r1, r2)) :
    Calls Tryz.prog 16 #[.int .u8 a0, .agg #[.slice A1_0 l1_0.length c1_0, .slice A1_1 l1_1.length c1_1, .slice A1_2 l1_2.length c1_2], .int .i64 a2] w fun e w' => e = .returned (.tuple #[.string r1, .int .i64 r2]) ∧ Below w.heap.size w w' := by
  have hu29 := Tryz.underlying29
  have HR1_0 := Aside0.mk hr1_0
  have HC1_0 := Aside0.mk hc1_0
  clear hr1_0 hc1_0
  have HR1_1 := Aside0.mk hr1_1
  have HC1_1 := Aside0.mk hc1_1
  clear hr1_1 hc1_1
  have HR1_2 := Aside0.mk hr1_2
  have HC1_2 := Aside0.mk hc1_2
  clear hr1_2 hc1_2
  have HB := Aside0.mk (Below.refl w.heap.size w)
  have H : ((theorboref03_Known.f a0).bind fun t847 => (if t847 = true then ((theorboref02_Check.f k l1_0 l1_1 l1_2).bind fun t848 => (if t848 = 0 then (if a2 < 0 then (theorboref03_Column.j0 k a0 a2 true l1_0 l1_1 l1_2) else (theorboref03_Column.j0 k a0 a2 (decide (a2 ≥ (l1_2.length : Int))) l1_0 l1_1 l1_2)) else (some ((⟨#[]⟩ : ByteArray), t848)))) else (some ((⟨#[]⟩ : ByteArray), 30)))) = some (r1, r2) := h
  clear h
  replace H := Option.bind_eq_some_iff.mp H
  obtain ⟨t847, A40, H⟩ := H
  try dsimp only at H
  have A4 := Aside0.mk A40
  clear A40
  have HC5 := Aside0.mk H
  clear H
  go_enter Tryz.func16, Tryz.ntmps16
  go_upto_if 11 with (first | ((with_reducible refine gate_dst (N := 4) rfl ?_); (try (refine gate_guard (by rfl) ?_; dsimp only)); refine bx_ 4 #[.slice A1_0 l1_0.length c1_0, .slice A1_1 l1_1.length c1_1, .slice A1_2 l1_2.length c1_2] 29 HB ?_; clear HB; intro gb846 w6 hg hb BK846 HB GW846; have GE846 := GW846; clear hg hb) | ((with_reducible refine gate_callee (f := 24) rfl ?_); refine cl_ 24 (some 10) Tryz.func24 (theorboref03_Known.calls a0 t847 _ A4.out) ?_; rintro e w' ⟨rfl, ⟨nd, rfl⟩⟩; refine ⟨_, rfl, ?_⟩))
  (try simp only [Act.put, List.setIfInBounds_toArray, List.set_cons_zero, List.set_cons_succ])
  have H := HC5.out
  clear HC5
  by_cases c7 : t847 = true
  · subst c7
    (rw [if_pos rfl] at H); (replace H := Option.bind_eq_some_iff.mp H); (obtain ⟨t848, A80, H⟩ := H); (try dsimp only at H); (have A8 := Aside0.mk A80); clear A80; (have HC9 := Aside0.mk H); clear H; (have hcz10 := blk_cell BK846.out); (have hfz10 := blk_frozen BK846.out); (go_upto_if 15 with (first | ((with_reducible refine gate_callee (f := 25) rfl ?_); refine cl_ 25 (some 13) Tryz.func25 (theorboref02_Check.calls k _ _ l1_0 _ _ l1_1 _ _ l1_2 t848 _ (kc_ HR1_0 HB) HC1_0.out (kc_ HR1_1 HB) HC1_1.out (kc_ HR1_2 HB) HC1_2.out A8.out) ?_; rintro e w11 ⟨rfl, hb⟩; refine ⟨_, rfl, ?_⟩; replace BK846 := bb_ BK846 hb; replace HB := bs_ HB hb; (try clear hb); (try clear hb2); (try clear hk); (try clear hi)))); ((try simp only [Act.put, List.setIfInBounds_toArray, List.set_cons_zero, List.set_cons_succ])); (have H := HC9.out); clear HC9; (by_cases c12 : t848 = 0)
    · rw [if_pos c12] at H
      (obtain ⟨c12b0, c12b1⟩ := eqT_ c12); clear c12; ((first | rw [c12b0] | rw [c12b1] | (simp only [i64_w, i32_w]; rw [c12b0]) | skip)); (have HC13 := Aside0.mk H); clear H; (go_upto_region 6 with (fail)); (go_cut [25] (fun v25 wc => ∃ (kq : Nat) (x25_12 : Bool), v25 = .bool x25_12 ∧ Aside0 (theorboref03_Column.j0 kq a0 a2 x25_12 l1_0 l1_1 l1_2 = some (r1, r2)) ∧ Aside0 (kq ≤ k) ∧ Aside0 (wc.heap[gb846]? = some (.cells #[(.slice A1_0 l1_0.length c1_0), (.slice A1_1 l1_1.length c1_1), (.slice A1_2 l1_2.length c1_2)] 29 (0, 0))) ∧ Aside0 (Below w.heap.size w wc)))
      case first =>
        (have H := HC13.out); clear HC13; (by_cases c14 : a2 < 0)
        · rw [if_pos c14] at H
          (have c14b0 := decide_eq_true c14); clear c14; ((first | rw [c14b0] | (simp only [i64_w, i32_w]; rw [c14b0]) | skip)); (have H' := Aside0.mk H); clear H; (go_wp2); (go_meet)
          case rel => exact ⟨_, (true), (rs_), H', ⟨om_⟩, ⟨bk_ BK846⟩, ⟨bl_ HB⟩⟩
        · rw [if_neg c14] at H
          (have c14b0 := decide_eq_false c14); clear c14; ((first | rw [c14b0] | (simp only [i64_w, i32_w]; rw [c14b0]) | skip)); (have H' := Aside0.mk H); clear H; (have hcz15 := blk_cell BK846.out); (have hfz15 := blk_frozen BK846.out); (go_wp2); (go_meet)
          case rel => exact ⟨_, (decide (a2 ≥ (l1_2.length : Int))), (rs_), H', ⟨om_⟩, ⟨bk_ BK846⟩, ⟨bl_ HB⟩⟩
      case rest =>
        clear HC13; (try clear c7 c12b0 c12b1 hcz10 hfz10); (obtain ⟨kq, x25_12, rfl, HA, HJ12, BK846, HB⟩ := hcut)
        cases kq with
        | zero => exact absurd HA.out (by simp [theorboref03_Column.j0])
        | succ kj12 =>
          (have H := HA.out); clear HA; (simp only [theorboref03_Column.j0] at H); (by_cases c16 : x25_12 = true)
          · subst c16
            (rw [if_pos rfl] at H); (simp only [Option.some.injEq, Prod.mk.injEq] at H); (obtain ⟨rfl, rfl⟩ := H); (go_wp2); (go_ret2); (exact ⟨rv_, bl_ HB⟩)
          · replace c16 := Bool.eq_false_iff.mpr c16
            subst c16; (rw [if_neg Bool.false_ne_true] at H); (replace H := Option.bind_eq_some_iff.mp H); (obtain ⟨t849, A170, H⟩ := H); (try dsimp only at H); (have A17 := Aside0.mk A170); clear A170; (have HC18 := Aside0.mk H); clear H; (have hcz19 := blk_cell BK846.out); (have hfz19 := blk_frozen BK846.out); (go_upto_if 31 with (first | ((with_reducible refine gate_callee (f := 26) rfl ?_); refine cl_ 26 (some 29) Tryz.func26 (theorboref03_lacks.calls kj12 a0 _ _ l1_0 _ _ l1_1 _ _ l1_2 a2 t849 _ (kc_ HR1_0 HB) HC1_0.out (kc_ HR1_1 HB) HC1_1.out (kc_ HR1_2 HB) HC1_2.out A17.out) ?_; rintro e w20 ⟨v850, rfl, ho0, hb⟩; refine ⟨_, rfl, ?_⟩; have HO851 := rl_ ho0 HB; replace BK846 := bb_ BK846 hb; replace HB := bs_ HB hb; (try clear hb); (try clear hb2); (try clear hk); (try clear hi); (try clear ho0); obtain ⟨Ao21, co21, eo21⟩ := Kd.R_slice HO851.out; subst eo21))); ((try simp only [Act.put, List.setIfInBounds_toArray, List.set_cons_zero, List.set_cons_succ])); (have H := HC18.out); clear HC18; (by_cases c22 : (t849.length : Int) > 0)
            · rw [if_pos c22] at H
              (have c22b0 : decide (0 < (t849.length : Int)) = true := decide_eq_true c22); (have c22b1 : decide (0 < t849.length) = true := decide_eq_true (by omega)); clear c22; ((first | rw [c22b0] | rw [c22b1] | (simp only [i64_w, i32_w]; rw [c22b0]) | skip)); (simp only [Option.some.injEq, Prod.mk.injEq] at H); (obtain ⟨rfl, rfl⟩ := H); (go_wp2); (go_ret2); (exact ⟨rv_, bl_ HB⟩)
            · rw [if_neg c22] at H
              (have c22b0 : decide (0 < (t849.length : Int)) = false := decide_eq_false c22); (have c22b1 : decide (0 < t849.length) = false := decide_eq_false (by omega)); clear c22; ((first | rw [c22b0] | rw [c22b1] | (simp only [i64_w, i32_w]; rw [c22b0]) | skip)); (replace H := Option.bind_eq_some_iff.mp H); (obtain ⟨t852, A230, H⟩ := H); (try dsimp only at H); (have A23 := Aside0.mk A230); clear A230; (simp only [Option.some.injEq, Prod.mk.injEq] at H); (obtain ⟨rfl, rfl⟩ := H); (have hcz24 := blk_cell BK846.out); (have hfz24 := blk_frozen BK846.out); (go_wp2_with (first | ((with_reducible refine gate_callee (f := 30) rfl ?_); refine cl_ 30 (some 35) Tryz.func30 (theorboref03_column.calls kj12 a0 _ _ l1_0 _ _ l1_1 _ _ l1_2 a2 t852 _ (kc_ HR1_0 HB) HC1_0.out (kc_ HR1_1 HB) HC1_1.out (kc_ HR1_2 HB) HC1_2.out A23.out) ?_; rintro e w25 ⟨rfl, hb⟩; refine ⟨_, rfl, ?_⟩; replace HO851 := rb_ HO851 hb; replace BK846 := bb_ BK846 hb; replace HB := bs_ HB hb; (try clear hb); (try clear hb2); (try clear hk); (try clear hi)))); (go_ret2); (exact ⟨rv_, bl_ HB⟩)
    · rw [if_neg c12] at H
      (obtain ⟨c12b0, c12b1⟩ := eqF_ c12); ((first | rw [c12b0] | rw [c12b1] | (simp only [i64_w, i32_w]; rw [c12b0]) | skip)); (simp only [Option.some.injEq, Prod.mk.injEq] at H); (obtain ⟨rfl, rfl⟩ := H); (go_wp2); (go_ret2); (exact ⟨rv_, bl_ HB⟩)
  · replace c7 := Bool.eq_false_iff.mpr c7
    subst c7; (rw [if_neg Bool.false_ne_true] at H); (simp only [Option.some.injEq, Prod.mk.injEq] at H); (obtain ⟨rfl, rfl⟩ := H); (go_wp2); (go_ret2); (exact ⟨rv_, bl_ HB⟩)

/-! ### theorbolaw03_NotationColumns: function 4 -/
def theorbolaw03_NotationColumns.l0 : Nat → Int → Int → List (S99) → List Int → List (S46) → Option (Bool)
  | 0, _, _, _, _, _ => none
  | k + 1, x0, x5, x871000, x871001, x871002 => if x5 ≤ (x871002.length : Int) then ((theorboref02_Copy.f k x871000 x871001 x871002).bind fun bt874 => ((notation_Column.f k x0 bt874.1 bt874.2.1 bt874.2.2 x5).bind fun bt883 => ((theorboref03_Column.f k x0 x871000 x871001 x871002 x5).bind fun bt885 => (if bt883.1.toList = bt885.1.toList then (if bt883.2 = bt885.2 then (theorbolaw03_NotationColumns.l0 k x0 (wrap64 (x5 + 1)) x871000 x871001 x871002) else (some false)) else (some false))))) else ((theorbolaw03_works.f k).bind fun t873 => (some t873))
def theorbolaw03_NotationColumns.f (k : Nat) (a0 : Int) (l1_0 : List (S99)) (l1_1 : List Int) (l1_2 : List (S46)) : Option (Bool) := (theorbolaw02_Long.f k l1_0 l1_1 l1_2).bind fun t871 => (if t871 = true then ((theorbolaw03_works.f k).bind fun t872 => (some t872)) else (theorbolaw03_NotationColumns.l0 k a0 (-1) l1_0 l1_1 l1_2))
theorem theorbolaw03_NotationColumns.mono_l : ∀ k, (∀ y0 y1 y2 y3 y4, LeO (theorbolaw03_NotationColumns.l0 k y0 y1 y2 y3 y4) (theorbolaw03_NotationColumns.l0 (k + 1) y0 y1 y2 y3 y4))
  | 0 => fun _ _ _ _ _ r h => by simp [theorbolaw03_NotationColumns.l0] at h
  | k + 1 => by
    (have ih0 := theorbolaw03_NotationColumns.mono_l k); (focus intro y0 y1 y2 y3 y4; (unfold theorbolaw03_NotationColumns.l0); (repeat' first | (with_reducible first | apply ih0 | apply notation_Column.mono | apply theorbolaw02_Long.mono | apply theorbolaw03_works.mono | apply theorboref02_Copy.mono | apply theorboref03_Column.mono | exact LeO.refl _ | exact LeO.none _ | refine LeO.ite ?_ ?_ | refine LeO.bind ?_ fun _ => ?_) | exact LeO.none _ | refine LeO.ite ?_ ?_ | refine LeO.bind ?_ fun _ => ?_ | apply ih0 | apply notation_Column.mono | apply theorbolaw02_Long.mono | apply theorbolaw03_works.mono | apply theorboref02_Copy.mono | apply theorboref03_Column.mono))
theorem theorbolaw03_NotationColumns.mono : ∀ a0 a1 a2 a3 k, LeO (theorbolaw03_NotationColumns.f k a0 a1 a2 a3) (theorbolaw03_NotationColumns.f (k + 1) a0 a1 a2 a3) := by
  intro a0 a1 a2 a3 k
  have ih0 := theorbolaw03_NotationColumns.mono_l k
  unfold theorbolaw03_NotationColumns.f
  repeat' first | (with_reducible first | apply ih0 | apply notation_Column.mono | apply theorbolaw02_Long.mono | apply theorbolaw03_works.mono | apply theorboref02_Copy.mono | apply theorboref03_Column.mono | exact LeO.refl _ | exact LeO.none _ | refine LeO.ite ?_ ?_ | refine LeO.bind ?_ fun _ => ?_) | exact LeO.none _ | refine LeO.ite ?_ ?_ | refine LeO.bind ?_ fun _ => ?_ | apply ih0 | apply notation_Column.mono | apply theorbolaw02_Long.mono | apply theorbolaw03_works.mono | apply theorboref02_Copy.mono | apply theorboref03_Column.mono
set_option maxHeartbeats 8000000 in
set_option maxRecDepth 100000 in
theorem theorbolaw03_NotationColumns.calls (k : Nat) (a0 : Int) (A1_0 : Option Addr) (c1_0 : Nat) (l1_0 : List (S99)) (A1_1 : Option Addr) (c1_1 : Nat) (l1_1 : List Int) (A1_2 : Option Addr) (c1_2 : Nat) (l1_2 : List (S46)) (r : Bool) (w : World) (hr1_0 : Kd.C k99 w A1_0 l1_0.length l1_0) (hc1_0 : l1_0.length ≤ c1_0) (hr1_1 : Kd.C (Kd.int .i64) w A1_1 l1_1.length l1_1) (hc1_1 : l1_1.length ≤ c1_1) (hr1_2 : Kd.C k46 w A1_2 l1_2.length l1_2) (hc1_2 : l1_2.length ≤ c1_2) (h : theorbolaw03_NotationColumns.f k a0 l1_0 l1_1 l1_2 = some r) :
    Calls Tryz.prog 4 #[.int .u8 a0, .agg #[.slice A1_0 l1_0.length c1_0, .slice A1_1 l1_1.length c1_1, .slice A1_2 l1_2.length c1_2]] w fun e w' => e = .returned (.bool r) ∧ Below w.heap.size w w' := by
  have hu29 := Tryz.underlying29
  have HR1_0 := Aside0.mk hr1_0
  have HC1_0 := Aside0.mk hc1_0
  clear hr1_0 hc1_0
  have HR1_1 := Aside0.mk hr1_1
  have HC1_1 := Aside0.mk hc1_1
  clear hr1_1 hc1_1
  have HR1_2 := Aside0.mk hr1_2
  have HC1_2 := Aside0.mk hc1_2
  clear hr1_2 hc1_2
  have HB := Aside0.mk (Below.refl w.heap.size w)
  have H : ((theorbolaw02_Long.f k l1_0 l1_1 l1_2).bind fun t871 => (if t871 = true then ((theorbolaw03_works.f k).bind fun t872 => (some t872)) else (theorbolaw03_NotationColumns.l0 k a0 (-1) l1_0 l1_1 l1_2))) = some r := h
  clear h
  replace H := Option.bind_eq_some_iff.mp H
  obtain ⟨t871, A30, H⟩ := H
  try dsimp only at H
  have A3 := Aside0.mk A30
  clear A30
  have HC4 := Aside0.mk H
  clear H
  go_enter Tryz.func4, Tryz.ntmps4
  go_upto_if 11 with (first | ((with_reducible refine gate_dst (N := 3) rfl ?_); refine bx_ 3 #[.slice A1_0 l1_0.length c1_0, .slice A1_1 l1_1.length c1_1, .slice A1_2 l1_2.length c1_2] 29 HB ?_; clear HB; intro gb870 w5 hg hb BK870 HB GW870; have GE870 := GW870; clear hg hb; have hcz6 := blk_cell BK870.out; have hfz6 := blk_frozen BK870.out) | ((with_reducible refine gate_callee (f := 14) rfl ?_); refine cl_ 14 (some 11) Tryz.func14 (theorbolaw02_Long.calls k _ _ l1_0 _ _ l1_1 _ _ l1_2 t871 _ (kc_ HR1_0 HB) HC1_0.out (kc_ HR1_1 HB) HC1_1.out (kc_ HR1_2 HB) HC1_2.out A3.out) ?_; rintro e w7 ⟨rfl, hb⟩; refine ⟨_, rfl, ?_⟩; replace BK870 := bb_ BK870 hb; replace HB := bs_ HB hb; (try clear hb); (try clear hb2); (try clear hk); (try clear hi)))
  (try simp only [Act.put, List.setIfInBounds_toArray, List.set_cons_zero, List.set_cons_succ])
  have H := HC4.out
  clear HC4
  by_cases c8 : t871 = true
  · subst c8
    (rw [if_pos rfl] at H); (replace H := Option.bind_eq_some_iff.mp H); (obtain ⟨t872, A90, H⟩ := H); (try dsimp only at H); (have A9 := Aside0.mk A90); clear A90; (obtain rfl := Option.some.inj H); (go_wp2_with (first | ((with_reducible refine gate_callee (f := 6) rfl ?_); refine cl_ 6 (some 12) Tryz.func6 (theorbolaw03_works.calls k  t872 _ A9.out) ?_; rintro e w10 ⟨rfl, hb⟩; refine ⟨_, rfl, ?_⟩; replace BK870 := bb_ BK870 hb; replace HB := bs_ HB hb; (try clear hb); (try clear hb2); (try clear hk); (try clear hi)))); (go_ret); (exact ⟨rv_, bl_ HB⟩)
  · replace c8 := Bool.eq_false_iff.mpr c8
    subst c8; (rw [if_neg Bool.false_ne_true] at H); (have H' := Aside0.mk H); clear H; (go_wp2); (go_loopg [5] k (fun kq v5 w' => ∃ (x5_1 : Int), v5 = .int .i64 x5_1 ∧ Aside0 (theorbolaw03_NotationColumns.l0 kq a0 x5_1 l1_0 l1_1 l1_2 = some r) ∧ Aside0 (kq ≤ k) ∧ Aside0 (w'.heap[gb870]? = some (.cells #[(.slice A1_0 l1_0.length c1_0), (.slice A1_1 l1_1.length c1_1), (.slice A1_2 l1_2.length c1_2)] 29 (0, 0))) ∧ Aside0 (Below w.heap.size w w')))
    case atStart => exact ⟨((-1)), (rs_), H', ⟨Nat.le_refl _⟩, ⟨bk_ BK870⟩, ⟨bl_ HB⟩⟩
    case round =>
      clear H'; (try clear c8 hcz6 hfz6); (obtain ⟨x5_1, rfl, HA, HK1, BK870, HB⟩ := hrel)
      cases gk with
      | zero => exact absurd HA.out (by simp [theorbolaw03_NotationColumns.l0])
      | succ k1 =>
        (have H := HA.out); clear HA; (simp only [theorbolaw03_NotationColumns.l0] at H); (have HC11 := Aside0.mk H); clear H; (have hcz12 := blk_cell BK870.out); (have hfz12 := blk_frozen BK870.out); (go_upto_if 17 with (fail)); (have H := HC11.out); clear HC11; (by_cases c13 : x5_1 ≤ (l1_2.length : Int))
        · rw [if_pos c13] at H
          (have c13b0 := decide_eq_true c13); clear c13; ((first | rw [c13b0] | (simp only [i64_w, i32_w]; rw [c13b0]) | skip)); (replace H := Option.bind_eq_some_iff.mp H); (obtain ⟨⟨t874, t877, t880⟩, A140, H⟩ := H); (try dsimp only at H); (have A14 := Aside0.mk A140); clear A140; (replace H := Option.bind_eq_some_iff.mp H); (obtain ⟨⟨t883, t884⟩, A150, H⟩ := H); (try dsimp only at H); (have A15 := Aside0.mk A150); clear A150; (replace H := Option.bind_eq_some_iff.mp H); (obtain ⟨⟨t885, t886⟩, A160, H⟩ := H); (try dsimp only at H); (have A16 := Aside0.mk A160); clear A160; (by_cases c17 : t883.toList = t885.toList)
          · rw [if_pos c17] at H
            (have c17b0 : (t883.toList == t885.toList) = true := beq_iff_eq.mpr c17); (have c17b1 : (t883.toList != t885.toList) = false := bne_eq_false_iff_eq.mpr c17); clear c17; (have HC18 := Aside0.mk H); clear H; (have hcz19 := blk_cell BK870.out); (have hfz19 := blk_frozen BK870.out); (go_upto_if 42 with (first | ((with_reducible refine gate_callee (f := 7) rfl ?_); refine cl_ 7 (some 23) Tryz.func7 (theorboref02_Copy.calls k1 _ _ l1_0 _ _ l1_1 _ _ l1_2 t874 t877 t880 _ (kc_ HR1_0 HB) HC1_0.out (kc_ HR1_1 HB) HC1_1.out (kc_ HR1_2 HB) HC1_2.out A14.out) ?_; rintro e w20 ⟨v875, v878, v881, rfl, ho0, ho1, ho2, hb⟩; refine ⟨_, rfl, ?_⟩; have HO876 := rl_ ho0 HB; have HO879 := rl_ ho1 HB; have HO882 := sl_ ho2 HB; replace BK870 := bb_ BK870 hb; replace HB := bs_ HB hb; (try clear hb); (try clear hb2); (try clear hk); (try clear hi); (try clear ho0); (try clear ho1); (try clear ho2); obtain ⟨Ao21, co21, eo21⟩ := Kd.R_slice HO876.out; subst eo21; obtain ⟨Ao22, co22, eo22⟩ := Kd.R_slice HO879.out; subst eo22; obtain ⟨Ao23, co23, eo23⟩ := Kd.S_slice HO882.out; subst eo23) | ((with_reducible refine gate_callee (f := 15) rfl ?_); refine cl_ 15 (some 25) Tryz.func15 (notation_Column.calls k1 a0 _ _ t874 _ _ t877 _ _ t880 x5_1 t883 t884 _ (kq_ HO876) ((Kd.R_reads' HO876.out).2.1) (kq_ HO879) ((Kd.R_reads' HO879.out).2.1) (kt_ HO882) ((Kd.S_reads' HO882.out).2.1) A15.out) ?_; rintro e w24 ⟨rfl, hb⟩; refine ⟨_, rfl, ?_⟩; replace HO876 := rb_ HO876 hb; replace HO879 := rb_ HO879 hb; replace HO882 := sb_ HO882 hb; replace BK870 := bb_ BK870 hb; replace HB := bs_ HB hb; (try clear hb); (try clear hb2); (try clear hk); (try clear hi); have hcz25 := blk_cell BK870.out; have hfz25 := blk_frozen BK870.out) | ((with_reducible refine gate_callee (f := 16) rfl ?_); refine cl_ 16 (some 32) Tryz.func16 (theorboref03_Column.calls k1 a0 _ _ l1_0 _ _ l1_1 _ _ l1_2 x5_1 t885 t886 _ (kc_ HR1_0 HB) HC1_0.out (kc_ HR1_1 HB) HC1_1.out (kc_ HR1_2 HB) HC1_2.out A16.out) ?_; rintro e w26 ⟨rfl, hb⟩; refine ⟨_, rfl, ?_⟩; replace HO876 := rb_ HO876 hb; replace HO879 := rb_ HO879 hb; replace HO882 := sb_ HO882 hb; replace BK870 := bb_ BK870 hb; replace HB := bs_ HB hb; (try clear hb); (try clear hb2); (try clear hk); (try clear hi)))); ((try simp only [Act.put, List.setIfInBounds_toArray, List.set_cons_zero, List.set_cons_succ])); (have H := HC18.out); clear HC18; (by_cases c27 : t884 = t886)
            · rw [if_pos c27] at H
              (obtain ⟨c27b0, c27b1⟩ := eqT_ c27); clear c27; ((first | rw [c27b0] | rw [c27b1] | (simp only [i64_w, i32_w]; rw [c27b0]) | skip)); (have H' := Aside0.mk H); clear H; (go_wp2); (go_roundg k1)
              case measure => have := HK1.out; omega
              case rel => exact ⟨(wrap64 (x5_1 + 1)), (rs_), H', ⟨by have := HK1.out; omega⟩, ⟨bk_ BK870⟩, ⟨bl_ HB⟩⟩
            · rw [if_neg c27] at H
              (obtain ⟨c27b0, c27b1⟩ := eqF_ c27); ((first | rw [c27b0] | rw [c27b1] | (simp only [i64_w, i32_w]; rw [c27b0]) | skip)); (obtain rfl := Option.some.inj H); (go_wp2); (go_ret); (exact ⟨rv_, bl_ HB⟩)
          · rw [if_neg c17] at H
            (have c17b0 : (t883.toList == t885.toList) = false := beq_eq_false_iff_ne.mpr c17); (have c17b1 : (t883.toList != t885.toList) = true := bne_iff_ne.mpr c17); (obtain rfl := Option.some.inj H); (have hcz28 := blk_cell BK870.out); (have hfz28 := blk_frozen BK870.out); (go_wp2_with (first | ((with_reducible refine gate_callee (f := 7) rfl ?_); refine cl_ 7 (some 23) Tryz.func7 (theorboref02_Copy.calls k1 _ _ l1_0 _ _ l1_1 _ _ l1_2 t874 t877 t880 _ (kc_ HR1_0 HB) HC1_0.out (kc_ HR1_1 HB) HC1_1.out (kc_ HR1_2 HB) HC1_2.out A14.out) ?_; rintro e w29 ⟨v875, v878, v881, rfl, ho0, ho1, ho2, hb⟩; refine ⟨_, rfl, ?_⟩; have HO876 := rl_ ho0 HB; have HO879 := rl_ ho1 HB; have HO882 := sl_ ho2 HB; replace BK870 := bb_ BK870 hb; replace HB := bs_ HB hb; (try clear hb); (try clear hb2); (try clear hk); (try clear hi); (try clear ho0); (try clear ho1); (try clear ho2); obtain ⟨Ao30, co30, eo30⟩ := Kd.R_slice HO876.out; subst eo30; obtain ⟨Ao31, co31, eo31⟩ := Kd.R_slice HO879.out; subst eo31; obtain ⟨Ao32, co32, eo32⟩ := Kd.S_slice HO882.out; subst eo32) | ((with_reducible refine gate_callee (f := 15) rfl ?_); refine cl_ 15 (some 25) Tryz.func15 (notation_Column.calls k1 a0 _ _ t874 _ _ t877 _ _ t880 x5_1 t883 t884 _ (kq_ HO876) ((Kd.R_reads' HO876.out).2.1) (kq_ HO879) ((Kd.R_reads' HO879.out).2.1) (kt_ HO882) ((Kd.S_reads' HO882.out).2.1) A15.out) ?_; rintro e w33 ⟨rfl, hb⟩; refine ⟨_, rfl, ?_⟩; replace HO876 := rb_ HO876 hb; replace HO879 := rb_ HO879 hb; replace HO882 := sb_ HO882 hb; replace BK870 := bb_ BK870 hb; replace HB := bs_ HB hb; (try clear hb); (try clear hb2); (try clear hk); (try clear hi); have hcz34 := blk_cell BK870.out; have hfz34 := blk_frozen BK870.out) | ((with_reducible refine gate_callee (f := 16) rfl ?_); refine cl_ 16 (some 32) Tryz.func16 (theorboref03_Column.calls k1 a0 _ _ l1_0 _ _ l1_1 _ _ l1_2 x5_1 t885 t886 _ (kc_ HR1_0 HB) HC1_0.out (kc_ HR1_1 HB) HC1_1.out (kc_ HR1_2 HB) HC1_2.out A16.out) ?_; rintro e w35 ⟨rfl, hb⟩; refine ⟨_, rfl, ?_⟩; replace HO876 := rb_ HO876 hb; replace HO879 := rb_ HO879 hb; replace HO882 := sb_ HO882 hb; replace BK870 := bb_ BK870 hb; replace HB := bs_ HB hb; (try clear hb); (try clear hb2); (try clear hk); (try clear hi)))); (go_ret); (exact ⟨rv_, bl_ HB⟩)
        · rw [if_neg c13] at H
          (have c13b0 := decide_eq_false c13); clear c13; ((first | rw [c13b0] | (simp only [i64_w, i32_w]; rw [c13b0]) | skip)); (replace H := Option.bind_eq_some_iff.mp H); (obtain ⟨t873, A360, H⟩ := H); (try dsimp only at H); (have A36 := Aside0.mk A360); clear A360; (obtain rfl := Option.some.inj H); (go_wp2_with (first | ((with_reducible refine gate_callee (f := 6) rfl ?_); refine cl_ 6 (some 43) Tryz.func6 (theorbolaw03_works.calls k1  t873 _ A36.out) ?_; rintro e w37 ⟨rfl, hb⟩; refine ⟨_, rfl, ?_⟩; replace BK870 := bb_ BK870 hb; replace HB := bs_ HB hb; (try clear hb); (try clear hb2); (try clear hk); (try clear hi)))); (go_ret); (exact ⟨rv_, bl_ HB⟩)

end Go.Proofs.YtocpcofihlcnoaaGreat.PNC
