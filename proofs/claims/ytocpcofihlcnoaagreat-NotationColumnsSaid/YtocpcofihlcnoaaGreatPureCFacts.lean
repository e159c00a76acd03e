/- What the cells of the four systems are: the program's and the document's, and that a cell tells its stop. No condition. -/
import Derived.Test.YtocpcofihlcnoaaGreatPureCCheck
import Derived.Lib.Strings
namespace Go.Proofs.YtocpcofihlcnoaaGreat.Pure
open Go.RowKit Go.Proofs.YtocpcofihlcnoaaGreat.PNC Go.Proofs.YtocpcofihlcnoaaGreatW.PrintWords Go.Proofs.YtocpcofihlcnoaaGreatW.PrintLast
set_option linter.unusedSimpArgs false

def upto (n : Nat) : List Int := (List.range n).map (fun i : Nat => (i : Int))
theorem mem_upto {n : Nat} {i : Int} (h0 : 0 ≤ i) (h1 : i < n) : i ∈ upto n := by
  unfold upto
  exact List.mem_map.2 ⟨i.toNat, List.mem_range.2 (by omega), by omega⟩
theorem all_upto {n : Nat} {p : Int → Bool} (h : (upto n).all p = true) (i : Int) (h0 : 0 ≤ i) (h1 : i < n) : p i = true := List.all_eq_true.1 h i (mem_upto h0 h1)
theorem ba_ext {a b : ByteArray} (h : a.data.toList = b.data.toList) : a = b := ByteArray.ext (Array.toList_inj.1 h)
theorem ba_ne {a : ByteArray} : (a.toList = ([] : List UInt8)) ↔ a.data.toList = [] := by rw [Lib.toList_data]
theorem ba_app (a b : ByteArray) : (a ++ b).data.toList = a.data.toList ++ b.data.toList := by simp

/-! ### the tables -/
def pR (x : UInt8) : Bool := [46, 58, 39].contains x
def pG (x : UInt8) : Bool := [44, 94, 35, 40, 116].contains x
/-- characters that open what stands behind a symbol -/
def inTail (t : Int) (x : UInt8) : Bool := [46, 58, 39, 44, 94, 35, 40, 95, 42].contains x || (t == 2 && x == 116)
def ckS (t c f : Int) : Bool :=
  match dyn_notation_symbol.f 20 t c f, theorboref03_symbol.f 20 t c f with
  | some (s, ok), some s' => decide (s.data.toList.length ≤ 9) && (if ok then s.data.toList == s'.data.toList && !s.data.toList.isEmpty && s.data.toList.all (fun x => !inTail t x) else s'.data.toList.isEmpty)
  | _, _ => false
def ckR (t r : Int) : Bool :=
  match dyn_notation_right.f t r, theorboref03_right.f 20 t r with
  | some (s, ok), some s' => decide (s.data.toList.length ≤ 9) && s.data.toList.all pR && s.data.toList.all (inTail t) && (if r == 0 then ok && s.data.toList.isEmpty && s'.data.toList.isEmpty else if ok then s.data.toList == s'.data.toList && !s.data.toList.isEmpty else s'.data.toList.isEmpty)
  | _, _ => false
def ckG (t r : Int) : Bool :=
  match dyn_notation_grace.f t r, theorboref03_grace.f 20 t r with
  | some (s, ok), some s' => decide (s.data.toList.length ≤ 9) && s.data.toList.all pG && s.data.toList.all (fun x => !pR x) && s.data.toList.all (inTail t) && (if r == 0 then ok && s.data.toList.isEmpty && s'.data.toList.isEmpty else if ok then s.data.toList == s'.data.toList && !s.data.toList.isEmpty else s'.data.toList.isEmpty)
  | _, _ => false
def ckH (t r l : Int) : Bool :=
  match dyn_notation_hold.f t r l, theorboref03_hold.f 20 t r l with
  | some (s, ok), some s' => decide (s.data.toList.length ≤ 9) && s.data.toList.all (fun x => !pG x) && s.data.toList.all (fun x => !pR x) && (s.data.toList.take 1).all (inTail t) && (if r == 0 then ok && s.data.toList.isEmpty else if ok then s.data.toList == s'.data.toList && !s.data.toList.isEmpty else s'.data.toList.isEmpty)
  | _, _ => false
theorem ckS_all : (upto 5).all (fun t => t == 0 || (upto 15).all fun c => c == 0 || (upto 19).all fun f => ckS t c f) = true := by decide +kernel
theorem ckR_all : (upto 5).all (fun t => t == 0 || (upto 4).all fun r => ckR t r) = true := by decide +kernel
theorem ckG_all : (upto 5).all (fun t => t == 0 || (upto 5).all fun r => ckG t r) = true := by decide +kernel
theorem ckH_all : (upto 5).all (fun t => t == 0 || (upto 16).all fun r => (upto 16).all fun l => ckH t r l) = true := by decide +kernel
theorem works_k : theorbolaw03_works.f 600 = some true := by decide +kernel

def symV (t c f : Int) : ByteArray × Bool := (dyn_notation_symbol.f 20 t c f).getD (⟨#[]⟩, false)
def rightV (t r : Int) : ByteArray × Bool := (dyn_notation_right.f t r).getD (⟨#[]⟩, false)
def graceV (t r : Int) : ByteArray × Bool := (dyn_notation_grace.f t r).getD (⟨#[]⟩, false)
def holdV (t r l : Int) : ByteArray × Bool := (dyn_notation_hold.f t r l).getD (⟨#[]⟩, false)
theorem size_le {a : ByteArray} {n : Nat} (h : a.data.toList.length ≤ n) : a.size ≤ n := by simpa using h

theorem sym_facts {t c f : Int} (t0 : 1 ≤ t) (t1 : t ≤ 4) (c0 : 1 ≤ c) (c1 : c ≤ 14) (f0 : 0 ≤ f) (f1 : f ≤ 18) :
    ∃ s', dyn_notation_symbol.f 20 t c f = some (symV t c f) ∧ theorboref03_symbol.f 20 t c f = some s' ∧ (symV t c f).1.size ≤ 9 ∧
      ((symV t c f).2 = true → s' = (symV t c f).1 ∧ (symV t c f).1.data.toList ≠ [] ∧ ∀ x ∈ (symV t c f).1.data.toList, inTail t x = false) ∧ ((symV t c f).2 = false → s'.data.toList = []) := by
  have h := all_upto ckS_all t (by omega) (by omega)
  simp only [Bool.or_eq_true, beq_iff_eq] at h
  have h := all_upto (h.resolve_left (by omega)) c (by omega) (by omega)
  simp only [Bool.or_eq_true, beq_iff_eq] at h
  have h := all_upto (h.resolve_left (by omega)) f (by omega) (by omega)
  unfold ckS at h
  unfold symV
  rcases h1 : dyn_notation_symbol.f 20 t c f with _ | ⟨s, ok⟩
  · simp [h1] at h
  · rcases h2 : theorboref03_symbol.f 20 t c f with _ | s'
    · simp [h1, h2] at h
    · simp only [h1, h2, Bool.and_eq_true, decide_eq_true_eq] at h
      refine ⟨s', rfl, rfl, size_le h.1, fun ho => ?_, fun ho => ?_⟩
      · have ho : ok = true := ho
        simp only [ho, if_true, Bool.and_eq_true, beq_iff_eq, Bool.not_eq_true', List.isEmpty_eq_false_iff, List.all_eq_true] at h
        exact ⟨ba_ext h.2.1.1.symm, h.2.1.2, h.2.2⟩
      · have ho : ok = false := ho
        simp only [ho, Bool.false_eq_true, if_false, List.isEmpty_iff] at h
        exact h.2

theorem right_facts {t r : Int} (t0 : 1 ≤ t) (t1 : t ≤ 4) (r0 : 0 ≤ r) (r1 : r ≤ 3) :
    ∃ s', dyn_notation_right.f t r = some (rightV t r) ∧ theorboref03_right.f 20 t r = some s' ∧ (rightV t r).1.size ≤ 9 ∧
      (∀ x ∈ (rightV t r).1.data.toList, pR x = true) ∧ (∀ x ∈ (rightV t r).1.data.toList, inTail t x = true) ∧ (r = 0 → (rightV t r).2 = true ∧ (rightV t r).1.data.toList = [] ∧ s'.data.toList = []) ∧
      (0 < r → (rightV t r).2 = true → s' = (rightV t r).1 ∧ (rightV t r).1.data.toList ≠ []) ∧ (0 < r → (rightV t r).2 = false → s'.data.toList = []) := by
  have h := all_upto ckR_all t (by omega) (by omega)
  simp only [Bool.or_eq_true, beq_iff_eq] at h
  have h := all_upto (h.resolve_left (by omega)) r (by omega) (by omega)
  unfold ckR at h
  unfold rightV
  rcases h1 : dyn_notation_right.f t r with _ | ⟨s, ok⟩
  · simp [h1] at h
  · rcases h2 : theorboref03_right.f 20 t r with _ | s'
    · simp [h1, h2] at h
    · simp only [h1, h2, Bool.and_eq_true, decide_eq_true_eq, List.all_eq_true] at h
      refine ⟨s', rfl, rfl, size_le h.1.1.1, h.1.1.2, h.1.2, fun hr => ?_, fun hr ho => ?_, fun hr ho => ?_⟩
      · subst hr
        simpa [and_assoc] using h.2
      · have ho : ok = true := ho
        have hb : (r == 0) = false := beq_eq_false_iff_ne.2 (by omega)
        simp only [ho, hb, Bool.false_eq_true, if_false, if_true, Bool.and_eq_true, beq_iff_eq, Bool.not_eq_true', List.isEmpty_eq_false_iff] at h
        exact ⟨ba_ext h.2.1.symm, h.2.2⟩
      · have ho : ok = false := ho
        have hb : (r == 0) = false := beq_eq_false_iff_ne.2 (by omega)
        simp only [ho, hb, Bool.false_eq_true, if_false, List.isEmpty_iff] at h
        exact h.2
theorem grace_facts {t r : Int} (t0 : 1 ≤ t) (t1 : t ≤ 4) (r0 : 0 ≤ r) (r1 : r ≤ 4) :
    ∃ s', dyn_notation_grace.f t r = some (graceV t r) ∧ theorboref03_grace.f 20 t r = some s' ∧ (graceV t r).1.size ≤ 9 ∧
      (∀ x ∈ (graceV t r).1.data.toList, pG x = true) ∧ (∀ x ∈ (graceV t r).1.data.toList, pR x = false) ∧ (∀ x ∈ (graceV t r).1.data.toList, inTail t x = true) ∧ (r = 0 → (graceV t r).2 = true ∧ (graceV t r).1.data.toList = [] ∧ s'.data.toList = []) ∧
      (0 < r → (graceV t r).2 = true → s' = (graceV t r).1 ∧ (graceV t r).1.data.toList ≠ []) ∧ (0 < r → (graceV t r).2 = false → s'.data.toList = []) := by
  have h := all_upto ckG_all t (by omega) (by omega)
  simp only [Bool.or_eq_true, beq_iff_eq] at h
  have h := all_upto (h.resolve_left (by omega)) r (by omega) (by omega)
  unfold ckG at h
  unfold graceV
  rcases h1 : dyn_notation_grace.f t r with _ | ⟨s, ok⟩
  · simp [h1] at h
  · rcases h2 : theorboref03_grace.f 20 t r with _ | s'
    · simp [h1, h2] at h
    · simp only [h1, h2, Bool.and_eq_true, decide_eq_true_eq, List.all_eq_true, Bool.not_eq_true'] at h
      refine ⟨s', rfl, rfl, size_le h.1.1.1.1, h.1.1.1.2, h.1.1.2, h.1.2, fun hr => ?_, fun hr ho => ?_, fun hr ho => ?_⟩
      · subst hr
        simpa [and_assoc] using h.2
      · have ho : ok = true := ho
        have hb : (r == 0) = false := beq_eq_false_iff_ne.2 (by omega)
        simp only [ho, hb, Bool.false_eq_true, if_false, if_true, Bool.and_eq_true, beq_iff_eq, Bool.not_eq_true', List.isEmpty_eq_false_iff] at h
        exact ⟨ba_ext h.2.1.symm, h.2.2⟩
      · have ho : ok = false := ho
        have hb : (r == 0) = false := beq_eq_false_iff_ne.2 (by omega)
        simp only [ho, hb, Bool.false_eq_true, if_false, List.isEmpty_iff] at h
        exact h.2
theorem hold_facts {t r l : Int} (t0 : 1 ≤ t) (t1 : t ≤ 4) (r0 : 0 ≤ r) (r1 : r ≤ 15) (l0 : 0 ≤ l) (l1 : l ≤ 15) :
    ∃ s', dyn_notation_hold.f t r l = some (holdV t r l) ∧ theorboref03_hold.f 20 t r l = some s' ∧ (holdV t r l).1.size ≤ 9 ∧
      (∀ x ∈ (holdV t r l).1.data.toList, pG x = false) ∧ (∀ x ∈ (holdV t r l).1.data.toList, pR x = false) ∧ (∀ x ∈ (holdV t r l).1.data.toList.take 1, inTail t x = true) ∧ (r = 0 → (holdV t r l).2 = true ∧ (holdV t r l).1.data.toList = []) ∧
      (0 < r → (holdV t r l).2 = true → s' = (holdV t r l).1 ∧ (holdV t r l).1.data.toList ≠ []) ∧ (0 < r → (holdV t r l).2 = false → s'.data.toList = []) := by
  have h := all_upto ckH_all t (by omega) (by omega)
  simp only [Bool.or_eq_true, beq_iff_eq] at h
  have h := all_upto (all_upto (h.resolve_left (by omega)) r (by omega) (by omega)) l (by omega) (by omega)
  unfold ckH at h
  unfold holdV
  rcases h1 : dyn_notation_hold.f t r l with _ | ⟨s, ok⟩
  · simp [h1] at h
  · rcases h2 : theorboref03_hold.f 20 t r l with _ | s'
    · simp [h1, h2] at h
    · simp only [h1, h2, Bool.and_eq_true, decide_eq_true_eq, List.all_eq_true, Bool.not_eq_true'] at h
      refine ⟨s', rfl, rfl, size_le h.1.1.1.1, h.1.1.1.2, h.1.1.2, h.1.2, fun hr => ?_, fun hr ho => ?_, fun hr ho => ?_⟩
      · subst hr
        simpa using h.2
      · have ho : ok = true := ho
        have hb : (r == 0) = false := beq_eq_false_iff_ne.2 (by omega)
        simp only [ho, hb, Bool.false_eq_true, if_false, if_true, Bool.and_eq_true, beq_iff_eq, Bool.not_eq_true', List.isEmpty_eq_false_iff] at h
        exact ⟨ba_ext h.2.1.symm, h.2.2⟩
      · have ho : ok = false := ho
        have hb : (r == 0) = false := beq_eq_false_iff_ne.2 (by omega)
        simp only [ho, hb, Bool.false_eq_true, if_false, List.isEmpty_iff] at h
        exact h.2

/-! ### a cell -/
def cellV (t c f r g h l : Int) : ByteArray := (((symV t c f).1 ++ (rightV t r).1) ++ (graceV t g).1) ++ (holdV t h l).1
def okV (t c f r g h l : Int) : Bool := (symV t c f).2 && ((rightV t r).2 && ((graceV t g).2 && (holdV t h l).2))
theorem cell_impl {t c f r g h l : Int} (t0 : 1 ≤ t) (t1 : t ≤ 4) (c0 : 1 ≤ c) (c1 : c ≤ 14) (f0 : 0 ≤ f) (f1 : f ≤ 18) (r0 : 0 ≤ r) (r1 : r ≤ 3) (g0 : 0 ≤ g) (g1 : g ≤ 4) (h0 : 0 ≤ h) (h1 : h ≤ 15) (l0 : 0 ≤ l) (l1 : l ≤ 15) (k : Nat) (hk : 20 ≤ k) :
    notation_cell.f k t c f r g h l = some (cellV t c f r g h l, okV t c f r g h l) := by
  obtain ⟨_, a1, _, a2, _⟩ := sym_facts t0 t1 c0 c1 f0 f1
  obtain ⟨_, b1, _, b2, _⟩ := right_facts t0 t1 r0 r1
  obtain ⟨_, d1, _, d2, _⟩ := grace_facts t0 t1 g0 g1
  obtain ⟨_, e1, _, e2, _⟩ := hold_facts t0 t1 h0 h1 l0 l1
  have a1' := at_rounds (g := fun k => dyn_notation_symbol.f k t c f) (fun k => dyn_notation_symbol.mono t c f k) hk a1
  unfold notation_cell.f
  rw [a1']
  simp only [Option.bind_some]
  rw [b1]
  simp only [Option.bind_some]
  rw [d1]
  simp only [Option.bind_some]
  rw [e1]
  simp only [Option.bind_some]
  rw [if_pos (by omega), if_pos (by rw [ByteArray.size_append]; omega), if_pos (by rw [ByteArray.size_append, ByteArray.size_append]; omega)]
  unfold okV cellV
  cases (symV t c f).2 <;> cases (rightV t r).2 <;> cases (graceV t g).2 <;> simp
/-! ### Cell, as both tell it -/
def CellS (t c f r g h l : Int) : ByteArray × Int :=
  if t < 1 ∨ 4 < t then (⟨#[]⟩, 30) else if c < 1 ∨ 14 < c then (⟨#[]⟩, 12) else if f < 0 ∨ 18 < f then (⟨#[]⟩, 13) else if r < 0 ∨ 3 < r ∨ g < 0 ∨ 4 < g then (⟨#[]⟩, 23)
  else if l < 0 ∨ 15 < l ∨ h < 0 ∨ l < h ∨ (0 < h ∧ f = 0) then (⟨#[]⟩, 24) else if okV t c f r g h l = true then (cellV t c f r g h l, 0) else (⟨#[]⟩, 31)
theorem of_ok {t : Int} (t0 : 1 ≤ t) (t1 : t ≤ 4) : notation_of.f t = some (t, true) := by
  have h : t = 1 ∨ t = 2 ∨ t = 3 ∨ t = 4 := by omega
  rcases h with rfl | rfl | rfl | rfl <;> rfl
theorem of_bad {t : Int} (h : t < 1 ∨ 4 < t) : notation_of.f t = some (0, false) := by
  unfold notation_of.f
  rw [if_neg (by omega), if_neg (by omega), if_neg (by omega), if_neg (by omega)]
def placedS (t c f : Int) : Int × Int := if t < 1 ∨ 4 < t then (0, 30) else if c < 1 ∨ 14 < c then (0, 12) else if f < 0 ∨ 18 < f then (0, 13) else (t, 0)
theorem placed_impl (t c f : Int) (k : Nat) (hk : 2 ≤ k) : notation_placed.f k t c f = some (placedS t c f) := by
  obtain ⟨k, rfl⟩ : ∃ m, k = m + 1 := ⟨k - 1, by omega⟩
  unfold notation_placed.f placedS
  by_cases ht : t < 1 ∨ 4 < t
  · rw [of_bad ht, if_pos ht]
    rfl
  · rw [of_ok (by omega) (by omega), if_neg ht]
    simp only [Option.bind_some, if_true, notation_placed.j0]
    by_cases hc : c < 1
    · rw [if_pos hc, if_pos (by omega)]
    · rw [if_neg hc]
      by_cases hc' : 14 < c
      · rw [if_pos (by simpa using hc'), if_pos (by omega)]
      · rw [if_neg (by simpa using hc'), if_neg (show ¬ (c < 1 ∨ 14 < c) by omega)]
        by_cases hf : f < 0
        · rw [if_pos hf, if_pos (show f < 0 ∨ 18 < f by omega)]
        · rw [if_neg hf]
          by_cases hf' : 18 < f
          · rw [if_pos hf', if_pos (show f < 0 ∨ 18 < f by omega)]
          · rw [if_neg hf', if_neg (show ¬ (f < 0 ∨ 18 < f) by omega)]
theorem Cell_impl (t c f r g h l : Int) (k : Nat) (hk : 30 ≤ k) : notation_Cell.f k t c f r g h l = some (CellS t c f r g h l) := by
  obtain ⟨k, rfl⟩ : ∃ m, k = m + 2 := ⟨k - 2, by omega⟩
  unfold notation_Cell.f
  rw [placed_impl _ _ _ _ (by omega)]
  unfold placedS CellS
  by_cases ht : t < 1 ∨ 4 < t
  · rw [if_pos ht, if_pos ht]
    rfl
  rw [if_neg ht, if_neg ht]
  by_cases hc : c < 1 ∨ 14 < c
  · rw [if_pos hc, if_pos hc]
    rfl
  rw [if_neg hc, if_neg hc]
  by_cases hf : f < 0 ∨ 18 < f
  · rw [if_pos hf, if_pos hf]
    rfl
  rw [if_neg hf, if_neg hf]
  simp only [Option.bind_some, if_true]
  have j0 : (if r < 0 then notation_Cell.j0 (k + 2) l t true c f r g h else if r > 3 then notation_Cell.j0 (k + 2) l t true c f r g h else if g < 0 then notation_Cell.j0 (k + 2) l t true c f r g h else notation_Cell.j0 (k + 2) l t (decide (g > 4)) c f r g h) = notation_Cell.j0 (k + 2) l t (decide (r < 0 ∨ 3 < r ∨ g < 0 ∨ 4 < g)) c f r g h := by
    by_cases x1 : r < 0
    · simp [x1]
    · by_cases x2 : 3 < r
      · simp [x1, x2]
      · by_cases x3 : g < 0
        · simp [x1, x2, x3]
        · simp [x1, x2, x3]
  rw [j0]
  by_cases hm : r < 0 ∨ 3 < r ∨ g < 0 ∨ 4 < g
  · rw [if_pos hm, decide_eq_true hm]
    rfl
  rw [if_neg hm, decide_eq_false hm]
  simp only [notation_Cell.j0, Bool.false_eq_true, if_false]
  have j1 : (if l < 0 then notation_Cell.j1 (k + 1) l t true c f r g h else if l > 15 then notation_Cell.j1 (k + 1) l t true c f r g h else if h < 0 then notation_Cell.j1 (k + 1) l t true c f r g h else if h > l then notation_Cell.j1 (k + 1) l t true c f r g h else if h > 0 then notation_Cell.j1 (k + 1) l t (f == 0) c f r g h else notation_Cell.j1 (k + 1) l t false c f r g h)
      = notation_Cell.j1 (k + 1) l t (decide (l < 0 ∨ 15 < l ∨ h < 0 ∨ l < h ∨ (0 < h ∧ f = 0))) c f r g h := by
    by_cases x1 : l < 0
    · simp [x1]
    · by_cases x2 : 15 < l
      · simp [x1, x2]
      · by_cases x3 : h < 0
        · simp [x1, x2, x3]
        · by_cases x4 : l < h
          · simp [x1, x2, x3, x4]
          · by_cases x5 : 0 < h
            · have hb : (f == 0) = decide (f = 0) := by rw [Bool.eq_iff_iff]; simp
              simp [x1, x2, x3, x4, x5, hb]
            · simp [x1, x2, x3, x4, x5]
  rw [j1]
  by_cases hh : l < 0 ∨ 15 < l ∨ h < 0 ∨ l < h ∨ (0 < h ∧ f = 0)
  · rw [if_pos hh, decide_eq_true hh]
    rfl
  rw [if_neg hh, decide_eq_false hh]
  simp only [notation_Cell.j1, Bool.false_eq_true, if_false]
  rw [cell_impl (by omega) (by omega) (by omega) (by omega) (by omega) (by omega) (by omega) (by omega) (by omega) (by omega) (by omega) (by omega) (by omega) (by omega) k (by omega)]
  simp only [Option.bind_some]
  by_cases ho : okV t c f r g h l = true
  · rw [if_pos ho, if_pos ho]
  · rw [if_neg ho, if_neg ho]

/-! ### the document's Cell -/
def SymbolS (t c f : Int) : ByteArray × Int := if t < 1 ∨ 4 < t then (⟨#[]⟩, 30) else if c < 1 ∨ 14 < c then (⟨#[]⟩, 12) else if f < 0 ∨ 18 < f then (⟨#[]⟩, 13) else if (symV t c f).2 = true then ((symV t c f).1, 0) else (⟨#[]⟩, 31)
theorem known (t : Int) : theorboref03_Known.f t = some (decide (1 ≤ t ∧ t ≤ 4)) := by
  unfold theorboref03_Known.f
  by_cases h : 1 ≤ t
  · rw [if_pos h]
    by_cases h' : t ≤ 4 <;> simp [h, h']
  · rw [if_neg h]
    simp [h]
theorem ref_symbol_at {t c f : Int} (t0 : 1 ≤ t) (t1 : t ≤ 4) (c0 : 1 ≤ c) (c1 : c ≤ 14) (f0 : 0 ≤ f) (f1 : f ≤ 18) (k : Nat) (hk : 20 ≤ k) :
    ∃ s', theorboref03_symbol.f k t c f = some s' ∧ ((symV t c f).2 = true → s' = (symV t c f).1 ∧ s'.data.toList ≠ []) ∧ ((symV t c f).2 = false → s'.data.toList = []) := by
  obtain ⟨s', _, h, _, h2, h3⟩ := sym_facts t0 t1 c0 c1 f0 f1
  refine ⟨s', at_rounds (g := fun k => theorboref03_symbol.f k t c f) (fun k => theorboref03_symbol.mono t c f k) hk h, fun ho => ?_, h3⟩
  obtain ⟨e, hn, _⟩ := h2 ho
  exact ⟨e, by rw [e]; exact hn⟩
theorem toList_beq (s : ByteArray) : (s.toList == ([] : List UInt8)) = s.data.toList.isEmpty := by
  rw [Lib.toList_data, Bool.eq_iff_iff]
  simp
theorem wants_ref {t c f r g h l : Int} (t0 : 1 ≤ t) (t1 : t ≤ 4) (c0 : 1 ≤ c) (c1 : c ≤ 14) (f0 : 0 ≤ f) (f1 : f ≤ 18) (r0 : 0 ≤ r) (r1 : r ≤ 3) (g0 : 0 ≤ g) (g1 : g ≤ 4) (h0 : 0 ≤ h) (h1 : h ≤ 15) (l0 : 0 ≤ l) (l1 : l ≤ 15) (hs : (symV t c f).2 = true) (k : Nat) (hk : 30 ≤ k) :
    theorboref03_Wants.f k t c f r g h l = some ((if (rightV t r).2 = true then [] else [2]) ++ (if (graceV t g).2 = true then [] else [3]) ++ (if (holdV t h l).2 = true then [] else [4])) := by
  obtain ⟨k, rfl⟩ : ∃ m, k = m + 3 := ⟨k - 3, by omega⟩
  obtain ⟨s', a1, a2, _⟩ := ref_symbol_at t0 t1 c0 c1 f0 f1 (k + 3) (by omega)
  obtain ⟨sr, _, b1, _, _, _, b2, b3, b4⟩ := right_facts t0 t1 r0 r1
  obtain ⟨sg, _, d1, _, _, _, _, d2, d3, d4⟩ := grace_facts t0 t1 g0 g1
  obtain ⟨sh, _, e1, _, _, _, _, e2, e3, e4⟩ := hold_facts t0 t1 h0 h1 l0 l1
  have b1 : ∀ q, 20 ≤ q → theorboref03_right.f q t r = some sr := fun q hq => at_rounds (g := fun k => theorboref03_right.f k t r) (fun k => theorboref03_right.mono t r k) hq b1
  have d1 : ∀ q, 20 ≤ q → theorboref03_grace.f q t g = some sg := fun q hq => at_rounds (g := fun k => theorboref03_grace.f k t g) (fun k => theorboref03_grace.mono t g k) hq d1
  have e1 : ∀ q, 20 ≤ q → theorboref03_hold.f q t h l = some sh := fun q hq => at_rounds (g := fun k => theorboref03_hold.f k t h l) (fun k => theorboref03_hold.mono t h l k) hq e1
  have B : 0 < r → (sr.toList == ([] : List UInt8)) = !(rightV t r).2 := fun hr => by
    rw [toList_beq]
    cases ho : (rightV t r).2
    · simp [b4 hr ho]
    · obtain ⟨e, hn⟩ := b3 hr ho
      rw [e, Bool.not_true, List.isEmpty_eq_false_iff]
      exact hn
  have D : 0 < g → (sg.toList == ([] : List UInt8)) = !(graceV t g).2 := fun hr => by
    rw [toList_beq]
    cases ho : (graceV t g).2
    · simp [d4 hr ho]
    · obtain ⟨e, hn⟩ := d3 hr ho
      rw [e, Bool.not_true, List.isEmpty_eq_false_iff]
      exact hn
  have E : 0 < h → (sh.toList = ([] : List UInt8) ↔ (holdV t h l).2 = false) := fun hr => by
    rw [ba_ne]
    cases ho : (holdV t h l).2
    · simp [e4 hr ho]
    · obtain ⟨e, hn⟩ := e3 hr ho
      rw [e]
      simpa using hn
  unfold theorboref03_Wants.f
  rw [a1]
  simp only [Option.bind_some]
  rw [if_neg (by rw [ba_ne]; exact (a2 hs).2)]
  have s0 : (if r > 0 then (theorboref03_right.f (k + 3) t r).bind fun t200 => theorboref03_Wants.j0 (k + 3) t l [] (t200.toList == ([] : List UInt8)) c f r g h else theorboref03_Wants.j0 (k + 3) t l [] false c f r g h) = theorboref03_Wants.j0 (k + 3) t l [] (!(rightV t r).2) c f r g h := by
    by_cases hr : r > 0
    · rw [if_pos hr, b1 _ (by omega)]
      simp only [Option.bind_some]
      rw [B hr]
    · rw [if_neg hr, (b2 (by omega)).1]
      rfl
  rw [s0]
  have s1 : theorboref03_Wants.j0 (k + 3) t l [] (!(rightV t r).2) c f r g h = theorboref03_Wants.j1 (k + 2) t l (if (rightV t r).2 = true then [] else [2]) c f r g h := by
    simp only [theorboref03_Wants.j0]
    cases (rightV t r).2 <;> simp
  rw [s1]
  generalize hL : (if (rightV t r).2 = true then ([] : List Int) else [2]) = L
  have hLl : L.length ≤ 1 := by rw [← hL]; split <;> simp
  have s2 : theorboref03_Wants.j1 (k + 2) t l L c f r g h = theorboref03_Wants.j2 (k + 1) t l L (!(graceV t g).2) c f r g h := by
    simp only [theorboref03_Wants.j1]
    by_cases hr : g > 0
    · rw [if_pos hr, d1 _ (by omega)]
      simp only [Option.bind_some]
      rw [D hr]
    · rw [if_neg hr, (d2 (by omega)).1]
      rfl
  rw [s2]
  simp only [theorboref03_Wants.j2]
  rw [e1 _ (by omega)]
  simp only [Option.bind_some]
  by_cases hh : h > 0
  · have E := E hh
    cases hg : (graceV t g).2 <;> cases ho : (holdV t h l).2 <;> simp only [hg, ho, Bool.not_true, Bool.not_false, if_true, Bool.false_eq_true, if_false, hh] <;> rw [ho] at E <;> simp only [Bool.true_eq_false, iff_false, iff_true, reduceCtorEq] at E <;> simp only [E, if_true, if_false]
    all_goals (try rw [if_pos (by omega)]) <;> (try simp only [Option.bind_some]) <;> (try rw [if_pos (by rw [List.length_append, List.length_singleton]; omega)]) <;> (try simp)
  · have ho := (e2 (by omega)).1
    cases hg : (graceV t g).2 <;> simp only [hg, ho, hh, Bool.not_true, Bool.not_false, if_true, Bool.false_eq_true, if_false]
    · rw [if_pos (by omega)]
      simp
    · simp
theorem Symbol_ref (t c f : Int) (k : Nat) (hk : 30 ≤ k) : theorboref03_Symbol.f k t c f = some (SymbolS t c f) := by
  obtain ⟨k, rfl⟩ : ∃ m, k = m + 2 := ⟨k - 2, by omega⟩
  unfold theorboref03_Symbol.f SymbolS
  rw [known]
  simp only [Option.bind_some]
  by_cases ht : t < 1 ∨ 4 < t
  · rw [if_pos ht, if_neg (by simp; omega)]
  rw [if_neg ht, if_pos (by simp; omega)]
  have j0 : (if c < 1 then theorboref03_Symbol.j0 (k + 2) t true c f else theorboref03_Symbol.j0 (k + 2) t (decide (c > 14)) c f) = theorboref03_Symbol.j0 (k + 2) t (decide (c < 1 ∨ 14 < c)) c f := by
    by_cases x1 : c < 1 <;> simp [x1]
  rw [j0]
  by_cases hc : c < 1 ∨ 14 < c
  · rw [if_pos hc, decide_eq_true hc]
    rfl
  rw [if_neg hc, decide_eq_false hc]
  simp only [theorboref03_Symbol.j0, Bool.false_eq_true, if_false]
  have j1 : (if f < 0 then theorboref03_Symbol.j1 (k + 1) t true c f else theorboref03_Symbol.j1 (k + 1) t (decide (f > 18)) c f) = theorboref03_Symbol.j1 (k + 1) t (decide (f < 0 ∨ 18 < f)) c f := by
    by_cases x1 : f < 0 <;> simp [x1]
  rw [j1]
  by_cases hf : f < 0 ∨ 18 < f
  · rw [if_pos hf, decide_eq_true hf]
    rfl
  rw [if_neg hf, decide_eq_false hf]
  simp only [theorboref03_Symbol.j1, Bool.false_eq_true, if_false]
  obtain ⟨s', h, h2, h3⟩ := ref_symbol_at (t := t) (c := c) (f := f) (by omega) (by omega) (by omega) (by omega) (by omega) (by omega) k (by omega)
  rw [h]
  simp only [Option.bind_some]
  by_cases ho : (symV t c f).2 = true
  · obtain ⟨e, hn⟩ := h2 ho
    rw [if_pos ho, if_neg (by rw [ba_ne]; exact hn), e]
  · rw [if_neg ho, if_pos (by rw [ba_ne]; exact h3 (by simpa using ho))]
theorem Cell_ref (t c f r g h l : Int) (k : Nat) (hk : 40 ≤ k) : theorboref03_Cell.f k t c f r g h l = some (CellS t c f r g h l) := by
  obtain ⟨k, rfl⟩ : ∃ m, k = m + 4 := ⟨k - 4, by omega⟩
  unfold theorboref03_Cell.f
  rw [Symbol_ref _ _ _ _ (by omega)]
  simp only [Option.bind_some]
  unfold SymbolS CellS
  by_cases ht : t < 1 ∨ 4 < t
  · simp only [if_pos ht]
    rfl
  simp only [if_neg ht]
  by_cases hc : c < 1 ∨ 14 < c
  · simp only [if_pos hc]
    rfl
  simp only [if_neg hc]
  by_cases hf : f < 0 ∨ 18 < f
  · simp only [if_pos hf]
    rfl
  simp only [if_neg hf]
  obtain ⟨S, e, hSe⟩ : ∃ S e, (if (symV t c f).2 = true then ((symV t c f).1, (0 : Int)) else (⟨#[]⟩, 31)) = (S, e) := ⟨_, _, rfl⟩
  have he : e = 0 ∨ e = 31 := by
    by_cases ho : (symV t c f).2 = true
    · rw [if_pos ho] at hSe
      exact .inl (Prod.mk.inj hSe).2.symm
    · rw [if_neg ho] at hSe
      exact .inr (Prod.mk.inj hSe).2.symm
  rw [hSe]
  have q0 : (if e = 0 then theorboref03_Cell.j0 (k + 4) t l S e false c f r g h else theorboref03_Cell.j0 (k + 4) t l S e (e != 31) c f r g h) = theorboref03_Cell.j0 (k + 4) t l S e false c f r g h := by
    rcases he with rfl | rfl <;> simp
  simp only []
  rw [q0]
  simp only [theorboref03_Cell.j0, Bool.false_eq_true, if_false]
  have j0 : (if r < 0 then theorboref03_Cell.j1 (k + 3) t l S e true c f r g h else if r > 3 then theorboref03_Cell.j1 (k + 3) t l S e true c f r g h else if g < 0 then theorboref03_Cell.j1 (k + 3) t l S e true c f r g h else theorboref03_Cell.j1 (k + 3) t l S e (decide (g > 4)) c f r g h) = theorboref03_Cell.j1 (k + 3) t l S e (decide (r < 0 ∨ 3 < r ∨ g < 0 ∨ 4 < g)) c f r g h := by
    by_cases x1 : r < 0
    · simp [x1]
    · by_cases x2 : 3 < r
      · simp [x1, x2]
      · by_cases x3 : g < 0
        · simp [x1, x2, x3]
        · simp [x1, x2, x3]
  rw [j0]
  by_cases hm : r < 0 ∨ 3 < r ∨ g < 0 ∨ 4 < g
  · rw [if_pos hm, decide_eq_true hm]
    rfl
  rw [if_neg hm, decide_eq_false hm]
  simp only [theorboref03_Cell.j1, Bool.false_eq_true, if_false]
  have j1 : (if l < 0 then theorboref03_Cell.j2 (k + 2) t l S e true c f r g h else if l > 15 then theorboref03_Cell.j2 (k + 2) t l S e true c f r g h else if h < 0 then theorboref03_Cell.j2 (k + 2) t l S e true c f r g h else if h > l then theorboref03_Cell.j2 (k + 2) t l S e true c f r g h else if f = 0 then theorboref03_Cell.j2 (k + 2) t l S e (h != 0) c f r g h else theorboref03_Cell.j2 (k + 2) t l S e false c f r g h)
      = theorboref03_Cell.j2 (k + 2) t l S e (decide (l < 0 ∨ 15 < l ∨ h < 0 ∨ l < h ∨ (0 < h ∧ f = 0))) c f r g h := by
    by_cases x1 : l < 0
    · simp [x1]
    · by_cases x2 : 15 < l
      · simp [x1, x2]
      · by_cases x3 : h < 0
        · simp [x1, x2, x3]
        · by_cases x4 : l < h
          · simp [x1, x2, x3, x4]
          · by_cases x5 : f = 0
            · have hb : (h != 0) = decide (0 < h) := by rw [Bool.eq_iff_iff]; simp; omega
              simp [x1, x2, x3, x4, x5, hb]
            · simp [x1, x2, x3, x4, x5]
  rw [j1]
  by_cases hh : l < 0 ∨ 15 < l ∨ h < 0 ∨ l < h ∨ (0 < h ∧ f = 0)
  · rw [if_pos hh, decide_eq_true hh]
    rfl
  rw [if_neg hh, decide_eq_false hh]
  simp only [theorboref03_Cell.j2, Bool.false_eq_true, if_false]
  obtain ⟨_, _, _, a2, _⟩ := sym_facts (t := t) (c := c) (f := f) (by omega) (by omega) (by omega) (by omega) (by omega) (by omega)
  obtain ⟨sr, _, b1, bs, _, _, b2, b3, b4⟩ := right_facts (t := t) (r := r) (by omega) (by omega) (by omega) (by omega)
  obtain ⟨sg, _, d1, ds, _, _, _, d2, d3, d4⟩ := grace_facts (t := t) (r := g) (by omega) (by omega) (by omega) (by omega)
  obtain ⟨sh, _, e1, es, _, _, _, e2, e3, e4⟩ := hold_facts (t := t) (r := h) (l := l) (by omega) (by omega) (by omega) (by omega) (by omega) (by omega)
  by_cases hs : (symV t c f).2 = true
  · rw [if_pos hs] at hSe
    obtain ⟨rfl, rfl⟩ := Prod.mk.inj hSe
    rw [if_pos rfl, wants_ref (by omega) (by omega) (by omega) (by omega) (by omega) (by omega) (by omega) (by omega) (by omega) (by omega) (by omega) (by omega) (by omega) (by omega) hs _ (by omega)]
    simp only [Option.bind_some]
    by_cases ho : okV t c f r g h l = true
    · have ho' := ho
      unfold okV at ho'
      simp only [Bool.and_eq_true] at ho'
      obtain ⟨_, o1, o2, o3⟩ := ho'
      rw [if_pos ho, if_pos o1, if_pos o2, if_pos o3]
      simp only [List.append_nil, List.length_nil, Int.natCast_zero, gt_iff_lt, Int.lt_irrefl, decide_false]
      simp only [theorboref03_Cell.j3, Bool.false_eq_true, if_false]
      have b1 : ∀ q, 20 ≤ q → theorboref03_right.f q t r = some sr := fun q hq => at_rounds (g := fun k => theorboref03_right.f k t r) (fun k => theorboref03_right.mono t r k) hq b1
      have d1 : ∀ q, 20 ≤ q → theorboref03_grace.f q t g = some sg := fun q hq => at_rounds (g := fun k => theorboref03_grace.f k t g) (fun k => theorboref03_grace.mono t g k) hq d1
      have e1 : ∀ q, 20 ≤ q → theorboref03_hold.f q t h l = some sh := fun q hq => at_rounds (g := fun k => theorboref03_hold.f k t h l) (fun k => theorboref03_hold.mono t h l k) hq e1
      have B : sr = (rightV t r).1 := by
        by_cases hr : 0 < r
        · exact (b3 hr o1).1
        · exact ba_ext (by rw [(b2 (by omega)).2.2, (b2 (by omega)).2.1])
      have D : sg = (graceV t g).1 := by
        by_cases hr : 0 < g
        · exact (d3 hr o2).1
        · exact ba_ext (by rw [(d2 (by omega)).2.2, (d2 (by omega)).2.1])
      rw [b1 _ (by omega)]
      simp only [Option.bind_some]
      rw [d1 _ (by omega), B, D, if_pos (by omega)]
      simp only [Option.bind_some]
      rw [if_pos (by rw [ByteArray.size_append]; omega)]
      unfold cellV
      by_cases hh : h > 0
      · rw [if_pos hh, e1 _ (by omega), (e3 hh o3).1]
        simp only [Option.bind_some]
        rw [if_pos (by rw [ByteArray.size_append, ByteArray.size_append]; omega)]
      · rw [if_neg hh]
        have : (holdV t h l).1 = ⟨#[]⟩ := ba_ext (e2 (by omega)).2
        rw [this]
        congr 2
        exact ba_ext (by rw [ba_app]; simp)
    · rw [if_neg ho]
      have hw : decide ((((if (rightV t r).2 = true then ([] : List Int) else [2]) ++ (if (graceV t g).2 = true then [] else [3]) ++ (if (holdV t h l).2 = true then [] else [4])).length : Int) > 0) = true := by
        unfold okV at ho
        rw [hs] at ho
        cases q1 : (rightV t r).2 <;> cases q2 : (graceV t g).2 <;> cases q3 : (holdV t h l).2 <;> simp_all
      rw [hw]
      rfl
  · rw [if_neg hs] at hSe
    obtain ⟨rfl, rfl⟩ := Prod.mk.inj hSe
    rw [if_neg (by decide), if_neg (by unfold okV; simp [hs])]
    rfl

end Go.Proofs.YtocpcofihlcnoaaGreat.Pure
