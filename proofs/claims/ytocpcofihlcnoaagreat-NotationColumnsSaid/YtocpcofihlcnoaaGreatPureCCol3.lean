/- Columns: the program's column, and that both are one. No condition. -/
import Derived.Test.YtocpcofihlcnoaaGreatPureCCol2
namespace Go.Proofs.YtocpcofihlcnoaaGreat.Pure
open Go.RowKit Go.Proofs.YtocpcofihlcnoaaGreat.PNC Go.Proofs.YtocpcofihlcnoaaGreatW.PrintWords Go.Proofs.YtocpcofihlcnoaaGreatW.PrintLast Go.Proofs.YtocpcofihlcnoaaGreatW.PrintMore
set_option linter.unusedSimpArgs false
set_option linter.unusedVariables false
set_option linter.unusedSectionVars false
def dash : ByteArray := ⟨#[45]⟩
def posn (t n : Int) (x : Int) : Nat := if t = 2 then (n - x).toNat else (x - 1).toNat
def stN (t : Int) (N : Nat) : Int := if t = 4 then 0 else mn 6 (N : Int)
theorem stN_le (t : Int) (N : Nat) : 0 ≤ stN t N ∧ stN t N ≤ 6 ∧ stN t N ≤ N := by unfold stN mn; split <;> (try split) <;> omega
def preW (e : S46) : List UInt8 := if e.f0 = true then [124, 32] else []
/-- The words of a column, glued. -/
def colB (t : Int) (l2 : List S46) (i : Nat) (N : Nat) (e : S46) : ByteArray :=
  if e.f2 = true then B (preW e ++ (wordV t e.f1).data.toList ++ [32, 126]) else if rst e = true then B (preW e ++ (wordV t e.f1).data.toList ++ [32, 37])
  else B (if t = 2 then (preW e ++ (wordV t e.f1).data.toList) ++ ((crs 1 N).filterMap (out1 (stN t N) (at_ (tx t l2 (i : Int)) e.f3))).reverse.flatten ++ (crs 1 N).reverse.flatMap (stf1 (stN t N) (at_ (tx t l2 (i : Int)) e.f3))
    else (preW e ++ (wordV t e.f1).data.toList) ++ (crs 1 N).flatMap (stf1 (stN t N) (at_ (tx t l2 (i : Int)) e.f3)) ++ ((crs 1 N).filterMap (out1 (stN t N) (at_ (tx t l2 (i : Int)) e.f3))).flatten)
theorem line2 (c n : Int) : dyn_notation_line.f 2 c n = some (wrap64 (wrap64 (n + 1) - c)) := by
  simp only [dyn_notation_line.f, notation_italian_line.f]
  rw [if_neg (by decide), if_pos trivial]
theorem line1 (c n : Int) : dyn_notation_line.f 1 c n = some c := by
  simp only [dyn_notation_line.f, notation_french_line.f]
  rw [if_pos trivial]
theorem line3 (c n : Int) : dyn_notation_line.f 3 c n = some c := by
  simp only [dyn_notation_line.f, notation_spanish_line.f]
  rw [if_neg (by decide), if_neg (by decide), if_pos trivial]
theorem line_at (t : Int) (t0 : 1 ≤ t) (t1 : t ≤ 4) (n : Nat) (hn : n ≤ 6) (x : Int) (hx : 1 ≤ x) (hxn : x ≤ (n : Int)) (n4 : t ≠ 4) : ∃ ln, dyn_notation_line.f t x (n : Int) = some ln ∧ wrap64 (ln - 1) = ((posn t n x : Nat) : Int) ∧ posn t n x < n := by
  have : t = 1 ∨ t = 2 ∨ t = 3 := by omega
  rcases this with q | q | q
  · have p : ((posn t n x : Nat) : Int) = x - 1 := by
      unfold posn
      rw [if_neg (by omega)]
      omega
    generalize posn t n x = m at p ⊢
    exact ⟨x, by rw [q, line1], by rw [wrap_small (by omega) (by omega), p], by omega⟩
  · have p : ((posn t n x : Nat) : Int) = (n : Int) - x := by
      unfold posn
      rw [if_pos q]
      omega
    generalize posn t n x = m at p ⊢
    have e2 : wrap64 (wrap64 ((n : Int) + 1) - x) = (n : Int) + 1 - x := by rw [wrap_small (i := (n : Int) + 1) (by omega) (by omega), wrap_small (by omega) (by omega)]
    refine ⟨(n : Int) + 1 - x, by rw [q, line2, e2], ?_, by clear e2; omega⟩
    clear e2
    rw [wrap_small (by omega) (by omega), p]
    omega
  · have p : ((posn t n x : Nat) : Int) = x - 1 := by
      unfold posn
      rw [if_neg (by omega)]
      omega
    generalize posn t n x = m at p ⊢
    exact ⟨x, by rw [q, line3], by rw [wrap_small (by omega) (by omega), p], by omega⟩
section
variable (l0 : List S99) (l1 : List Int) (l2 : List S46) (h0 : l0.length ≤ 64) (h1 : l1.length ≤ 64) (h2 : l2.length ≤ 420) (hs : ∀ e ∈ l2, e.f3.length ≤ 20) (t : Int) (t0 : 1 ≤ t) (t1 : t ≤ 4) (i : Nat) (e : S46) (hi : l2[i]? = some e)
  (V : ∀ s ∈ e.f3, VS s) (g : ∀ s ∈ e.f3, GS l0 (longS l2 (i : Int)) s) (hW : ∀ s ∈ e.f3, wantsL t s (longS l2 (i : Int) s.f0) = []) (hp : e.f3.Pairwise (fun a b => a.f0 < b.f0)) (v : sv e.f1 = true) (h4 : t = 4 → e.f1.f0 ≠ 0 ∧ e.f1.f2 = false)
include h0 h1 h2 hs t0 t1 hi V g hW hp v h4
theorem column_ref : Ev (fun k => theorboref03_column.f k t l0 l1 l2 (i : Int)) (colB t l2 i l0.length e) := by
  have hj : i < l2.length := (List.getElem?_eq_some_iff.1 hi).1
  obtain ⟨_, hw, hwl⟩ := word_facts t0 t1 v h4
  have hN := stN_le t l0.length
  have st : ∀ x : List UInt8, x.length ≤ 2 → Ev (fun k => theorboref03_column.j0 k t (i : Int) (B x) l0 l1 l2 e.f0 e.f1.f0 e.f1.f1 e.f1.f2 e.f2 e.f3)
      (if e.f2 = true then B (x ++ (wordV t e.f1).data.toList ++ [32, 126]) else if rst e = true then B (x ++ (wordV t e.f1).data.toList ++ [32, 37])
        else B (if t = 2 then (x ++ (wordV t e.f1).data.toList) ++ ((crs 1 l0.length).filterMap (out1 (stN t l0.length) (at_ (tx t l2 (i : Int)) e.f3))).reverse.flatten ++ (crs 1 l0.length).reverse.flatMap (stf1 (stN t l0.length) (at_ (tx t l2 (i : Int)) e.f3))
          else (x ++ (wordV t e.f1).data.toList) ++ (crs 1 l0.length).flatMap (stf1 (stN t l0.length) (at_ (tx t l2 (i : Int)) e.f3)) ++ ((crs 1 l0.length).filterMap (out1 (stN t l0.length) (at_ (tx t l2 (i : Int)) e.f3))).flatten)) := by
    intro x hx
    have hc := col_ref l0 l1 l2 h0 h1 h2 hs t t0 t1 i e hi V g hW hp (x ++ (wordV t e.f1).data.toList) (stN t l0.length) (by rw [List.length_append]; omega) l0.length 1 [] [] [] (by omega) (by omega) (by simp) (by simp) (by simp)
    have e1 : B x ++ wordV t e.f1 = B (x ++ (wordV t e.f1).data.toList) := by
      have := B_app x (wordV t e.f1).data.toList
      exact this
    have sz : (B x).size + (wordV t e.f1).size ≤ 9223372036854775807 := by
      have : (wordV t e.f1).size = (wordV t e.f1).data.toList.length := rfl
      rw [B_size, this]; omega
    have sz2 : (B (x ++ (wordV t e.f1).data.toList)).size + 2 ≤ 9223372036854775807 := by rw [B_size, List.length_append]; omega
    refine Ev.step (f := fun k => if e.f2 = true then some (B (x ++ (wordV t e.f1).data.toList ++ [32, 126])) else if rst e = true then some (B (x ++ (wordV t e.f1).data.toList ++ [32, 37])) else theorboref03_column.j1 k t (i : Int) (B (x ++ (wordV t e.f1).data.toList)) (stN t l0.length) l0 l1 l2) (fun k => ?_) (Ev.ite (fun _ => Ev.now _) fun _ => Ev.ite (fun _ => Ev.now _) fun _ => Ev.step (fun k => rfl) ?_)
    · simp only [theorboref03_column.j0]
      rw [hw]
      simp only [Option.bind_some]
      rw [if_pos sz, e1, if_pos sz2, rest_eq]
      simp only [Option.bind_some]
      rw [if_pos sz2]
      have a1 : B (x ++ (wordV t e.f1).data.toList) ++ (⟨#[32, 126]⟩ : ByteArray) = B (x ++ (wordV t e.f1).data.toList ++ [32, 126]) := B_app _ [32, 126]
      have a2 : B (x ++ (wordV t e.f1).data.toList) ++ (⟨#[32, 37]⟩ : ByteArray) = B (x ++ (wordV t e.f1).data.toList ++ [32, 37]) := B_app _ [32, 37]
      rw [a1, a2]
      unfold theorboref03_Staff.f stN
      simp only [Option.bind_some]
      by_cases q : t = 4 <;> simp [q]
    · have hc' := hc
      simp only [List.append_nil, List.nil_append] at hc'
      exact hc'
  have main : Ev (fun k => theorboref03_column.j0 k t (i : Int) (B (preW e)) l0 l1 l2 e.f0 e.f1.f0 e.f1.f1 e.f1.f2 e.f2 e.f3) (colB t l2 i l0.length e) := st (preW e) (by unfold preW; split <;> simp)
  refine Ev.congr (fun k => ?_) main
  simp only [theorboref03_column.f]
  rw [if_pos (by omega), if_pos (by omega), rd46 hi]
  unfold preW
  by_cases a : e.f0 = true
  · rw [if_pos a, if_pos a]; rfl
  · rw [if_neg a, if_neg a]; rfl
/-! ### the program's -/
theorem fill_l (x12 : List ByteArray) (n : Nat) (hn : n ≤ 64) (R : ByteArray) (nx : Ev (fun k => notation_column.l1 k t (i : Int) x12 (n : Int) (List.replicate n dash) [] e.f3 (e.f3.length : Int) 0 l0 l1 l2) R) :
    ∀ (m j : Nat) (y : List ByteArray), j + m = n → y.length = n → (∀ p, p < j → y[p]? = some dash) → Ev (fun k => notation_column.l0 k t (i : Int) x12 (n : Int) y (n : Int) (j : Int) l0 l1 l2 e.f0 e.f1.f0 e.f1.f1 e.f1.f2 e.f2 e.f3) R
  | 0, j, y, hm, hy, hd => by
    have : y = List.replicate n dash := List.ext_getElem? fun p => by
      rcases Nat.lt_or_ge p n with h | h
      · rw [hd p (by omega), List.getElem?_replicate, if_pos h]
      · rw [List.getElem?_eq_none (by omega), List.getElem?_eq_none (by simpa using h)]
    subst this
    refine Ev.step (fun k => ?_) nx
    simp only [notation_column.l0]
    rw [if_neg (by omega)]
  | m + 1, j, y, hm, hy, hd => by
    have ih := fill_l x12 n hn R nx m (j + 1) (y.set j dash) (by omega) (by rw [List.length_set]; exact hy) (fun p hp => by
      rcases Nat.lt_or_ge p j with h | h
      · rw [List.getElem?_set_ne (by omega)]; exact hd p h
      · have : p = j := by omega
        subst this
        rw [List.getElem?_set_self (by omega)])
    refine Ev.step (fun k => ?_) ih
    simp only [notation_column.l0]
    rw [if_pos (by omega), if_pos (by omega), if_pos (by omega), next (j := j) (n := 64) (by omega) (by omega)]
    rfl
theorem stops_col (x12 : List ByteArray) (w0 : ByteArray) (r12 : List ByteArray) (hx : x12 = w0 :: r12) (hr : r12.length ≤ 1) (hw0 : w0.data.toList.length ≤ 100) (hr12 : ∀ b ∈ r12, b.data.toList.length ≤ 100) (n : Nat) (hn : n ≤ 6) (hn4 : t = 4 → n = 0) : ∀ (suf : List S54) (j : Nat) (y o : List ByteArray), j ≤ e.f3.length → y.length = n → o.length ≤ j → (∀ b ∈ y, b.data.toList.length ≤ 100) → (∀ b ∈ o, b.data.toList.length ≤ 100) → e.f3.drop j = suf →
    Ev (fun k => notation_column.l1 k t (i : Int) x12 (n : Int) y o e.f3 (e.f3.length : Int) (j : Int) l0 l1 l2)
      (B (w0.data.toList ++ (r12 ++ if t = 2 then oF (n : Int) false (cellT t l2 (i : Int)) suf o ++ yF (n : Int) (posn t n) (cellT t l2 (i : Int)) suf y else yF (n : Int) (posn t n) (cellT t l2 (i : Int)) suf y ++ oF (n : Int) true (cellT t l2 (i : Int)) suf o).flatMap (fun b => 32 :: b.data.toList)))
  | [], j, y, o, hjl, hy, ho, hyb, hob, h => by
    have := drop_nil h
    have he := hs e (List.mem_of_getElem? hi)
    subst hx
    have hO : dyn_notation_outsideBehind.f t = some (decide (t ≠ 2)) := by
      have : t = 1 ∨ t = 2 ∨ t = 3 ∨ t = 4 := by omega
      rcases this with rfl | rfl | rfl | rfl <;> rfl
    by_cases q : t = 2
    · have hj := join_eq w0 (r12 ++ (o ++ y)) hw0 (by
        intro b hb
        simp only [List.mem_append] at hb
        rcases hb with hb | hb | hb
        · exact hr12 b hb
        · exact hob b hb
        · exact hyb b hb) (by simp only [List.length_append]; omega)
      rw [if_pos q]
      refine Ev.step (f := fun _ => some (B (w0.data.toList ++ (r12 ++ (o ++ y)).flatMap (fun b => 32 :: b.data.toList)))) (fun k => ?_) (Ev.some rfl)
      simp only [notation_column.l1]
      rw [if_neg (by omega), hO]
      simp only [Option.bind_some]
      rw [if_neg (by simp [q]), if_pos (by simp only [List.length_cons]; omega), if_pos (by simp only [List.length_append, List.length_cons]; omega), List.append_assoc, List.cons_append, hj]
      rfl
    · have hj := join_eq w0 (r12 ++ (y ++ o)) hw0 (by
        intro b hb
        simp only [List.mem_append] at hb
        rcases hb with hb | hb | hb
        · exact hr12 b hb
        · exact hyb b hb
        · exact hob b hb) (by simp only [List.length_append]; omega)
      rw [if_neg q]
      refine Ev.step (f := fun _ => some (B (w0.data.toList ++ (r12 ++ (y ++ o)).flatMap (fun b => 32 :: b.data.toList)))) (fun k => ?_) (Ev.some rfl)
      simp only [notation_column.l1]
      rw [if_neg (by omega), hO]
      simp only [Option.bind_some]
      rw [if_pos (by simp [q]), if_pos (by simp only [List.length_cons]; omega), if_pos (by simp only [List.length_append, List.length_cons]; omega), List.append_assoc, List.cons_append, hj]
      rfl
  | s :: r, j, y, o, hjl, hy, ho, hyb, hob, h => by
    obtain ⟨hj, hy2, hr2⟩ := drop_cons h
    have he := hs e (List.mem_of_getElem? hi)
    have ms := List.mem_of_getElem? hy2
    have vs := V s ms
    have hl := long_le l2 (i : Int) s.f0
    have hL := long_impl l0 l1 l2 h2 hs (i : Int) s.f0
    have hC : Ev (fun k => notation_cell.f k t s.f0 s.f1 s.f2 s.f3 s.f4 (longS l2 (i : Int) s.f0)) (cellT t l2 (i : Int) s, okV t s.f0 s.f1 s.f2 s.f3 s.f4 (longS l2 (i : Int) s.f0)) := ⟨20, fun k hk => cell_impl t0 t1 vs.c0 vs.c1 vs.f0 vs.f1 vs.r0 vs.r1 vs.g0 vs.g1 vs.h0 vs.h1 hl.1 hl.2 k hk⟩
    have hct : (cellT t l2 (i : Int) s).data.toList.length ≤ 100 := by
      have := (cell_facts t0 t1 vs (g s ms) (hW s ms)).2.2.1
      unfold tx at this
      omega
    have c0 := vs.c0
    by_cases a : s.f0 ≤ (n : Int)
    · have n4 : t ≠ 4 := fun q => by have := hn4 q; omega
      have hline : ∃ ln, dyn_notation_line.f t s.f0 (n : Int) = some ln ∧ wrap64 (ln - 1) = ((posn t n s.f0 : Nat) : Int) ∧ posn t n s.f0 < n := by
        exact line_at t t0 t1 n hn s.f0 c0 a n4
      obtain ⟨ln, q1, q2, q3⟩ := hline
      have ih := stops_col x12 w0 r12 hx hr hw0 hr12 n hn hn4 r (j + 1) (y.set (posn t n s.f0) (cellT t l2 (i : Int) s)) o (by omega) (by rw [List.length_set]; exact hy) (by omega) (fun b hb => by
        rcases List.mem_or_eq_of_mem_set hb with hb | rfl
        · exact hyb b hb
        · exact hct) hob hr2
      refine Ev.step (f := fun k => (piece_Longest.f k l0 l1 l2 (i : Int) s.f0).bind fun m => (notation_cell.f k t s.f0 s.f1 s.f2 s.f3 s.f4 m).bind fun b => notation_column.l1 k t (i : Int) x12 (n : Int) (y.set (posn t n s.f0) b.1) o e.f3 (e.f3.length : Int) ((j + 1 : Nat) : Int) l0 l1 l2) (fun k => ?_) (Ev.bd hL (Ev.bd hC ?_))
      · simp only [notation_column.l1]
        rw [if_pos (by omega), if_pos (by omega), if_pos (by omega), rd54 hy2, next (j := j) (n := 64) (by omega) (by omega)]
        simp only [if_pos a, q1, Option.bind_some, q2, if_pos (show (0 : Int) ≤ ((posn t n s.f0 : Nat) : Int) by omega), if_pos (show ((posn t n s.f0 : Nat) : Int) < (y.length : Int) by omega), Int.toNat_natCast]
      · simp only [oF, yF, if_pos a]
        exact ih
    · have hO : dyn_notation_outsideBehind.f t = some (decide (t ≠ 2)) := by
        have : t = 1 ∨ t = 2 ∨ t = 3 ∨ t = 4 := by omega
        rcases this with rfl | rfl | rfl | rfl <;> rfl
      by_cases q : t = 2
      · have ih := stops_col x12 w0 r12 hx hr hw0 hr12 n hn hn4 r (j + 1) y (cellT t l2 (i : Int) s :: o) (by omega) hy (by rw [List.length_cons]; omega) hyb (fun b hb => by
          rcases List.mem_cons.1 hb with rfl | hb
          · exact hct
          · exact hob b hb) hr2
        refine Ev.step (f := fun k => (piece_Longest.f k l0 l1 l2 (i : Int) s.f0).bind fun m => (notation_cell.f k t s.f0 s.f1 s.f2 s.f3 s.f4 m).bind fun b => notation_column.l1 k t (i : Int) x12 (n : Int) y (b.1 :: o) e.f3 (e.f3.length : Int) ((j + 1 : Nat) : Int) l0 l1 l2) (fun k => ?_) (Ev.bd hL (Ev.bd hC ?_))
        · simp only [notation_column.l1]
          rw [if_pos (by omega), if_pos (by omega), if_pos (by omega), rd54 hy2, next (j := j) (n := 64) (by omega) (by omega)]
          have hO2 : dyn_notation_outsideBehind.f t = some false := by rw [hO, decide_eq_false fun h => h q]
          simp only [if_neg a, hO2, Option.bind_some, Bool.false_eq_true, if_false, List.length_cons, List.length_nil, if_pos (show 0 + 1 + o.length < 8796093022208 by omega), List.cons_append, List.nil_append]
        · simp only [oF, yF, if_neg a]
          rw [if_pos q] at ih ⊢
          simpa using ih
      · have ih := stops_col x12 w0 r12 hx hr hw0 hr12 n hn hn4 r (j + 1) y (o ++ [cellT t l2 (i : Int) s]) (by omega) hy (by rw [List.length_append]; simp; omega) hyb (fun b hb => by
          rcases List.mem_append.1 hb with hb | hb
          · exact hob b hb
          · rw [List.mem_singleton.1 hb]; exact hct) hr2
        refine Ev.step (f := fun k => (piece_Longest.f k l0 l1 l2 (i : Int) s.f0).bind fun m => (notation_cell.f k t s.f0 s.f1 s.f2 s.f3 s.f4 m).bind fun b => notation_column.l1 k t (i : Int) x12 (n : Int) y (o ++ [b.1]) e.f3 (e.f3.length : Int) ((j + 1 : Nat) : Int) l0 l1 l2) (fun k => ?_) (Ev.bd hL (Ev.bd hC ?_))
        · simp only [notation_column.l1]
          rw [if_pos (by omega), if_pos (by omega), if_pos (by omega), rd54 hy2, next (j := j) (n := 64) (by omega) (by omega)]
          have hO2 : dyn_notation_outsideBehind.f t = some true := by rw [hO, decide_eq_true q]
          simp only [if_neg a, hO2, Option.bind_some, if_true, if_pos (show o.length < 8796093022208 by omega)]
        · simp only [oF, yF, if_neg a, if_true]
          rw [if_neg q] at ih ⊢
          exact ih
/-- The staff's row is what the courses of the staff tell. -/
theorem staff_row (n : Nat) (hn : n ≤ 6) (hn4 : t = 4 → n = 0) : (yF (n : Int) (posn t n) (cellT t l2 (i : Int)) e.f3 (List.replicate n dash)).flatMap (fun b => 32 :: b.data.toList) = if t = 2 then (crs 1 n).reverse.flatMap (fun c => 32 :: at_ (tx t l2 (i : Int)) e.f3 c) else (crs 1 n).flatMap (fun c => 32 :: at_ (tx t l2 (i : Int)) e.f3 c) := by
  have P1 : ∀ s ∈ e.f3, 1 ≤ s.f0 := fun s h => (V s h).c0
  have get : ∀ p, p < n → (yF (n : Int) (posn t n) (cellT t l2 (i : Int)) e.f3 (List.replicate n dash))[p]? = some (B (at_ (tx t l2 (i : Int)) e.f3 (if t = 2 then (n : Int) - p else (p : Int) + 1))) := by
    intro p h
    have := (yF_get (n : Int) (posn t n) (cellT t l2 (i : Int)) p (if t = 2 then (n : Int) - p else (p : Int) + 1) (by split <;> omega) (fun x hx hxn => by
      unfold posn
      split <;> omega) e.f3 (List.replicate n dash) hp P1 (by simpa using h)).1
    rw [this]
    unfold at_
    cases e.f3.find? (fun s => s.f0 == if t = 2 then (n : Int) - p else (p : Int) + 1) with
    | some s => rfl
    | none => simp [h]; rfl
  have len : (yF (n : Int) (posn t n) (cellT t l2 (i : Int)) e.f3 (List.replicate n dash)).length = n := by rw [yF_length]; simp
  by_cases q : t = 2
  · rw [if_pos q]
    have : yF (n : Int) (posn t n) (cellT t l2 (i : Int)) e.f3 (List.replicate n dash) = (crs 1 n).reverse.map (fun c => B (at_ (tx t l2 (i : Int)) e.f3 c)) := by
      refine List.ext_getElem? fun p => ?_
      rcases Nat.lt_or_ge p n with h | h
      · rw [get p h, if_pos q, List.getElem?_map, List.getElem?_reverse (by rw [crs_length]; exact h), crs_length, crs_get 1 n (n - 1 - p) (by omega)]
        simp only [Option.map_some]
        rw [show (1 : Int) + ((n - 1 - p : Nat) : Int) = (n : Int) - p by omega]
      · rw [List.getElem?_eq_none (by omega), List.getElem?_eq_none (by simp [crs_length]; omega)]
    rw [this, List.flatMap_map]
    rfl
  · rw [if_neg q]
    have : yF (n : Int) (posn t n) (cellT t l2 (i : Int)) e.f3 (List.replicate n dash) = (crs 1 n).map (fun c => B (at_ (tx t l2 (i : Int)) e.f3 c)) := by
      refine List.ext_getElem? fun p => ?_
      rcases Nat.lt_or_ge p n with h | h
      · rw [get p h, if_neg q, List.getElem?_map, crs_get 1 n p h]
        simp only [Option.map_some]
        rw [show (1 : Int) + (p : Int) = (p : Int) + 1 by omega]
      · rw [List.getElem?_eq_none (by omega), List.getElem?_eq_none (by simp [crs_length]; omega)]
    rw [this, List.flatMap_map]
    rfl
theorem column_impl : Ev (fun k => notation_column.f k t t l0 l1 l2 (i : Int)) (colB t l2 i l0.length e) := by
  have hj : i < l2.length := (List.getElem?_eq_some_iff.1 hi).1
  have he := hs e (List.mem_of_getElem? hi)
  obtain ⟨⟨wb, hw⟩, _, hwl⟩ := word_facts t0 t1 v h4
  have hN := stN_le t l0.length
  have fl : ∀ l : List S54, (l.filterMap (fun s => if s.f0 ≤ stN t l0.length then none else some (cellT t l2 (i : Int) s))).flatMap (fun b => 32 :: b.data.toList) = (l.filterMap (fun s => if s.f0 ≤ stN t l0.length then none else some (32 :: tx t l2 (i : Int) s))).flatten ∧ (l.filterMap (fun s => if s.f0 ≤ stN t l0.length then none else some (cellT t l2 (i : Int) s))).reverse.flatMap (fun b => 32 :: b.data.toList) = (l.filterMap (fun s => if s.f0 ≤ stN t l0.length then none else some (32 :: tx t l2 (i : Int) s))).reverse.flatten := by
    intro l
    induction l with
    | nil => exact ⟨rfl, rfl⟩
    | cons s r ih =>
      rw [List.filterMap_cons, List.filterMap_cons]
      by_cases q : s.f0 ≤ stN t l0.length
      · simp only [if_pos q]
        exact ih
      · simp only [if_neg q]
        refine ⟨by rw [List.flatMap_cons, List.flatten_cons, ih.1]; rfl, by rw [List.reverse_cons, List.reverse_cons, List.flatMap_append, List.flatten_append, ih.2]; simp [tx]⟩
  have hout := outs (tx t l2 (i : Int)) (stN t l0.length) l0.length 1 e.f3 hp (fun s h => ⟨(g s h).c0, by have := (g s h).n; omega⟩) (fun s h => (cell_facts t0 t1 (V s h) (g s h) (hW s h)).2.2.2)
  have st : ∀ (w0 : ByteArray) (r12 : List ByteArray), r12.length ≤ 1 → w0.data.toList.length ≤ 50 → (∀ b ∈ r12, b.data.toList.length ≤ 50) → w0.data.toList ++ r12.flatMap (fun b => 32 :: b.data.toList) = preW e ++ (wordV t e.f1).data.toList →
      Ev (fun k => notation_column.j0 k t t (i : Int) (w0 :: r12) l0 l1 l2 e.f0 e.f1.f0 e.f1.f1 e.f1.f2 e.f2 e.f3) (colB t l2 i l0.length e) := by
    intro w0 r12 hr hw0 hr12 hx
    obtain ⟨n, hn⟩ : ∃ n : Nat, stN t l0.length = n := ⟨(stN t l0.length).toNat, by omega⟩
    have hn4 : t = 4 → n = 0 := fun q => by
      unfold stN at hn
      rw [if_pos q] at hn
      omega
    have j1 : ∀ b : ByteArray, b.data.toList.length ≤ 50 → strings_Join.f ((w0 :: r12) ++ [b]) (⟨#[32]⟩ : ByteArray) = some (B (preW e ++ (wordV t e.f1).data.toList ++ (32 :: b.data.toList))) := by
      intro b hb
      rw [List.cons_append, join_eq w0 (r12 ++ [b]) (by omega) (by
        intro c hc
        rcases List.mem_append.1 hc with hc | hc
        · have := hr12 c hc; omega
        · rw [List.mem_singleton.1 hc]; omega) (by rw [List.length_append]; simp; omega)]
      rw [List.flatMap_append, ← List.append_assoc, hx]
      simp
    unfold colB
    by_cases a : e.f2 = true
    · rw [if_pos a]
      refine Ev.step (f := fun _ => some (B (preW e ++ (wordV t e.f1).data.toList ++ [32, 126]))) (fun k => ?_) (Ev.now _)
      simp only [notation_column.j0]
      rw [if_pos a, if_pos (by simp only [List.length_cons]; omega), j1 ⟨#[126]⟩ (by decide)]
      rfl
    · rw [if_neg a]
      by_cases b : rst e = true
      · rw [if_pos b]
        have hz : (e.f3.length : Int) = 0 := by
          unfold rst at b
          by_cases z : (e.f3.length : Int) = 0
          · exact z
          · rw [if_neg z] at b; cases b
        refine Ev.step (f := fun _ => some (B (preW e ++ (wordV t e.f1).data.toList ++ [32, 37]))) (fun k => ?_) (Ev.now _)
        simp only [notation_column.j0]
        rw [if_neg a, if_pos hz, if_pos (by simp only [List.length_cons]; omega), j1 ⟨#[37]⟩ (by decide)]
        rfl
      · rw [if_neg b]
        have hz : ¬ (e.f3.length : Int) = 0 := by
          intro z
          unfold rst at b
          rw [if_pos z] at b
          simp at b
          exact a b
        have main := stops_col l0 l1 l2 h0 h1 h2 hs t t0 t1 i e hi V g hW hp v h4 (w0 :: r12) w0 r12 rfl hr (by omega) (fun b hb => by have := hr12 b hb; omega) n (by omega) hn4 e.f3 0 (List.replicate n dash) [] (by omega) (by simp) (by simp) (fun b hb => by rw [(List.mem_replicate.1 hb).2]; decide) (fun b hb => by cases hb) (by simp)
        have fil := fill_l l0 l1 l2 h0 h1 h2 hs t t0 t1 i e hi V g hW hp v h4 (w0 :: r12) n (by omega) _ main n 0 (List.replicate n ⟨#[]⟩) (by omega) (by simp) (fun p h => by omega)
        refine Ev.step (f := fun k => notation_column.j1 k t (i : Int) (w0 :: r12) (n : Int) l0 l1 l2 e.f0 e.f1.f0 e.f1.f1 e.f1.f2 e.f2 e.f3) (fun k => ?_) (Ev.step (f := fun k => notation_column.l0 k t (i : Int) (w0 :: r12) (n : Int) (List.replicate n (⟨#[]⟩ : ByteArray)) (n : Int) ((0 : Nat) : Int) l0 l1 l2 e.f0 e.f1.f0 e.f1.f1 e.f1.f2 e.f2 e.f3) (fun k => ?_) ?_)
        · simp only [notation_column.j0]
          rw [if_neg a, if_neg hz]
          unfold stN at hn
          by_cases q : t = 4
          · rw [if_pos q] at hn ⊢
            rw [← hn]
          · rw [if_neg q] at hn ⊢
            have : notation_staff.f l0 l1 = some (n : Int) := by
              unfold notation_staff.f
              rw [← hn]
              congr 1
              unfold mn
              split <;> split <;> omega
            rw [this]
            rfl
        · simp only [notation_column.j1]
          rw [if_pos (by omega), if_pos (by omega)]
          simp only [Option.bind_some, Int.toNat_natCast, List.length_replicate]
          rfl
        · have row := staff_row l0 l1 l2 h0 h1 h2 hs t t0 t1 i e hi V g hW hp v h4 n (by omega) hn4
          have fs := flat_stf (stN t l0.length) (at_ (tx t l2 (i : Int)) e.f3) l0.length n (by rw [hn]; have := hN.2.2; rw [hn] at this; split <;> omega) (by omega)
          refine (show B _ = B _ from ?_) ▸ fil
          congr 1
          rw [List.flatMap_append, ← List.append_assoc, hx]
          by_cases q : t = 2
          · simp only [if_pos q] at row ⊢
            rw [List.flatMap_append, row, fs.2, oF_eq, hout]
            simp only [Bool.false_eq_true, if_false, List.append_nil]
            have := (fl e.f3).2
            rw [hn] at this
            rw [this, hn]
            simp only [List.append_assoc]
          · simp only [if_neg q] at row ⊢
            rw [List.flatMap_append, row, fs.1, oF_eq, hout]
            simp only [if_true, List.nil_append]
            have := (fl e.f3).1
            rw [hn] at this
            rw [this, hn]
            simp only [List.append_assoc]
  refine Ev.congr (f := fun k => if e.f0 = true then notation_column.j0 k t t (i : Int) [(⟨#[124]⟩ : ByteArray), wordV t e.f1] l0 l1 l2 e.f0 e.f1.f0 e.f1.f1 e.f1.f2 e.f2 e.f3 else notation_column.j0 k t t (i : Int) [wordV t e.f1] l0 l1 l2 e.f0 e.f1.f0 e.f1.f1 e.f1.f2 e.f2 e.f3) (fun k => ?_) ?_
  · simp only [notation_column.f]
    rw [if_pos (by omega), if_pos (by omega), rd46 hi, hw]
    simp only [Option.bind_some]
  · by_cases a : e.f0 = true
    · refine Ev.pos a (st _ _ (by simp) (by decide) (fun b hb => ?_) ?_)
      · rw [List.mem_singleton.1 hb]; omega
      · unfold preW
        rw [if_pos a]
        simp
    · refine Ev.neg a (st _ _ (by simp) (by omega) (fun b hb => by cases hb) ?_)
      unfold preW
      rw [if_neg a]
      simp
end
end Go.Proofs.YtocpcofihlcnoaaGreat.Pure
