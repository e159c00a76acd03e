/- A copy of a piece is the piece; what is the same is the same; what is not large. No condition. -/
import Derived.Test.YtocpcofihlcnoaaGreatPureLacks
namespace Go.Proofs.YtocpcofihlcnoaaGreat.Pure
open Go.RowKit Go.Proofs.YtocpcofihlcnoaaGreat.PNL Go.Proofs.YtocpcofihlcnoaaGreatW.PrintWords Go.Proofs.YtocpcofihlcnoaaGreatW.PrintLast Go.Proofs.YtocpcofihlcnoaaGreatW.PrintMore
set_option linter.unusedSimpArgs false
set_option linter.unusedVariables false
set_option linter.unusedSectionVars false
theorem next_max {j n : Nat} (h : j < n) (hn : n ≤ maxLen) : wrap64 ((j : Int) + 1) = ((j + 1 : Nat) : Int) := by
  unfold maxLen at hn
  unfold wrap64; omega
/-! ### Big -/
def bigB (l0 : List S99) (l1 : List Int) (l2 : List S46) : Bool := decide (l0.length > 64 ∨ l1.length > 64 ∨ l2.length > 420) || l2.any fun e => decide (e.f3.length > 20)
theorem big_l (l0 : List S99) (l1 : List Int) (l2 : List S46) (hm : l2.length ≤ maxLen) : ∀ (suf : List S46) (j : Nat), l2.drop j = suf → Ev (fun k => theorbolaw02_Big.l0 k (j : Int) l0 l1 l2) (suf.any fun e => decide (e.f3.length > 20))
  | [], j, h => by
    have := drop_nil h
    refine Ev.step (f := fun _ => some false) (fun k => ?_) (Ev.some rfl)
    simp only [theorbolaw02_Big.l0]
    rw [if_neg (by omega)]
  | e :: r, j, h => by
    obtain ⟨hj, hx, hr⟩ := drop_cons h
    have ih := big_l l0 l1 l2 hm r (j + 1) hr
    refine Ev.step (f := fun k => if (e.f3.length : Int) > 20 then some true else theorbolaw02_Big.l0 k ((j + 1 : Nat) : Int) l0 l1 l2) (fun k => ?_) ?_
    · simp only [theorbolaw02_Big.l0]
      rw [if_pos (by omega), if_pos (by omega), rd46 hx, next_max hj hm]
    · by_cases a : (e.f3.length : Int) > 20
      · refine Ev.pos a (Ev.some ?_)
        rw [List.any_cons, decide_eq_true (show e.f3.length > 20 by omega)]
        rfl
      · refine Ev.neg a ?_
        rw [List.any_cons, decide_eq_false (show ¬ e.f3.length > 20 by omega), Bool.false_or]
        exact ih
theorem big_ev (l0 : List S99) (l1 : List Int) (l2 : List S46) (hm : l2.length ≤ maxLen) : Ev (fun k => theorbolaw02_Big.f k l0 l1 l2) (bigB l0 l1 l2) := by
  have s0 : ∀ (p : Prop) [Decidable p], Ev (fun k => theorbolaw02_Big.j0 k (decide p) l0 l1 l2) (decide p || l2.any fun e => decide (e.f3.length > 20)) := by
    intro p _
    refine Ev.step (f := fun k => if p then some true else theorbolaw02_Big.l0 k ((0 : Nat) : Int) l0 l1 l2) (fun k => ?_) ?_
    · simp only [theorbolaw02_Big.j0, decide_eq_true_eq]
      rfl
    · by_cases a : p
      · exact Ev.pos a (Ev.some (by simp [a]))
      · refine Ev.neg a ?_
        rw [decide_eq_false a, Bool.false_or]
        exact big_l l0 l1 l2 hm l2 0 (by simp)
  have := s0 (l0.length > 64 ∨ l1.length > 64 ∨ l2.length > 420)
  refine Ev.congr (fun k => ?_) this
  simp only [theorbolaw02_Big.f]
  rw [orj (fun b => theorbolaw02_Big.j0 k b l0 l1 l2), orj (fun b => theorbolaw02_Big.j0 k b l0 l1 l2)]
  congr 1
  rw [Bool.eq_iff_iff]
  simp only [decide_eq_true_eq]
  omega
theorem big_of {l0 : List S99} {l1 : List Int} {l2 : List S46} (h : bigB l0 l1 l2 = false) : l0.length ≤ 64 ∧ l1.length ≤ 64 ∧ l2.length ≤ 420 ∧ ∀ e ∈ l2, e.f3.length ≤ 20 := by
  unfold bigB at h
  simp only [Bool.or_eq_false_iff, decide_eq_false_iff_not, List.any_eq_false, decide_eq_true_eq] at h
  refine ⟨by omega, by omega, by omega, fun e he => ?_⟩
  have := h.2 e he
  omega
section
variable (l0 : List S99) (l1 : List Int) (l2 : List S46) (h0 : l0.length ≤ 64) (h1 : l1.length ≤ 64) (h2 : l2.length ≤ 420) (hs : ∀ e ∈ l2, e.f3.length ≤ 20)
include h0 h1 h2 hs
/-! ### Copy -/
theorem copy_l : ∀ (suf : List S46) (j : Nat), l2.drop j = suf → Ev (fun k => theorboref02_Copy.l0 k (j : Int) l0 l1 l2 l0 l1 (l2.take j)) (l0, l1, l2)
  | [], j, h => by
    have := drop_nil h
    refine Ev.step (f := fun _ => some (l0, l1, l2)) (fun k => ?_) (Ev.now _)
    simp only [theorboref02_Copy.l0]
    rw [if_neg (by omega), List.take_of_length_le (by omega)]
  | e :: r, j, h => by
    obtain ⟨hj, hx, hr⟩ := drop_cons h
    have he := hs e (List.mem_of_getElem? hx)
    have ih := copy_l r (j + 1) hr
    refine Ev.step (fun k => ?_) ih
    simp only [theorboref02_Copy.l0]
    rw [if_pos (by omega), if_pos (by omega), rd46 hx]
    simp only [Option.bind_some, List.length_nil, List.nil_append]
    rw [if_pos (by omega), if_pos (by rw [List.length_take]; omega), next hj (by omega), List.take_add_one, hx]
    rfl
theorem copy_ev : Ev (fun k => theorboref02_Copy.f k l0 l1 l2) (l0, l1, l2) := by
  have := copy_l l0 l1 l2 h0 h1 h2 hs l2 0 (by simp)
  refine Ev.congr (fun k => ?_) this
  simp only [theorboref02_Copy.f, theorboref01_Copy.f, Option.bind_some, List.length_nil, List.nil_append]
  rw [if_pos (by omega), if_pos (by omega)]
  simp
/-! ### the same -/
theorem same_c : ∀ (suf : List Int) (j : Nat), l1.drop j = suf → Ev (fun k => theorboref01_Same.l1 k (j : Int) l0 l1 l0 l1) true
  | [], j, h => by
    have := drop_nil h
    refine Ev.step (f := fun _ => some true) (fun k => ?_) (Ev.now _)
    simp only [theorboref01_Same.l1]
    rw [if_neg (by omega)]
  | x :: r, j, h => by
    obtain ⟨hj, hx, hr⟩ := drop_cons h
    have ih := same_c r (j + 1) hr
    refine Ev.step (fun k => ?_) ih
    simp only [theorboref01_Same.l1]
    rw [if_pos (by omega), if_pos (by omega), if_pos (by omega), if_pos trivial, next hj (by omega)]
theorem same_i : ∀ (suf : List S99) (j : Nat), l0.drop j = suf → Ev (fun k => theorboref01_Same.l0 k (j : Int) l0 l1 l0 l1) true
  | [], j, h => by
    have := drop_nil h
    refine Ev.step (f := fun k => theorboref01_Same.l1 k ((0 : Nat) : Int) l0 l1 l0 l1) (fun k => ?_) (same_c l0 l1 l2 h0 h1 h2 hs l1 0 (by simp))
    simp only [theorboref01_Same.l0]
    rw [if_neg (by omega)]
    rfl
  | x :: r, j, h => by
    obtain ⟨hj, hx, hr⟩ := drop_cons h
    have ih := same_i r (j + 1) hr
    refine Ev.step (fun k => ?_) ih
    simp only [theorboref01_Same.l0]
    rw [if_pos (by omega), if_pos (by omega), if_pos (by omega), if_neg (by simp), next hj (by omega)]
theorem same_in : Ev (fun k => theorboref01_Same.f k l0 l1 l0 l1) true := by
  refine Ev.congr (f := fun k => theorboref01_Same.j0 k false l0 l1 l0 l1) (fun k => by simp [theorboref01_Same.f]) (Ev.step (fun k => ?_) (same_i l0 l1 l2 h0 h1 h2 hs l0 0 (by simp)))
  simp [theorboref01_Same.j0]
theorem same_s (e : S46) (he : e.f3.length ≤ 20) : ∀ (suf : List S54) (j : Nat), e.f3.drop j = suf → Ev (fun k => theorboref02_SameEvent.l0 k (j : Int) e.f0 e.f1.f0 e.f1.f1 e.f1.f2 e.f2 e.f3 e.f0 e.f1.f0 e.f1.f1 e.f1.f2 e.f2 e.f3) true
  | [], j, h => by
    have := drop_nil h
    refine Ev.step (f := fun _ => some true) (fun k => ?_) (Ev.now _)
    simp only [theorboref02_SameEvent.l0]
    rw [if_neg (by omega)]
  | x :: r, j, h => by
    obtain ⟨hj, hx, hr⟩ := drop_cons h
    have ih := same_s e he r (j + 1) hr
    refine Ev.step (fun k => ?_) ih
    simp only [theorboref02_SameEvent.l0]
    rw [if_pos (by omega), if_pos (by omega), if_pos (by omega), if_neg (by simp), next hj (by omega)]
theorem same_e (e : S46) (he : e.f3.length ≤ 20) : Ev (fun k => theorboref02_SameEvent.f k e.f0 e.f1.f0 e.f1.f1 e.f1.f2 e.f2 e.f3 e.f0 e.f1.f0 e.f1.f1 e.f1.f2 e.f2 e.f3) true := by
  refine Ev.congr (f := fun k => theorboref02_SameEvent.j0 k false e.f0 e.f1.f0 e.f1.f1 e.f1.f2 e.f2 e.f3 e.f0 e.f1.f0 e.f1.f1 e.f1.f2 e.f2 e.f3) (fun k => by simp [theorboref02_SameEvent.f]) (Ev.step (fun k => ?_) (same_s l0 l1 l2 h0 h1 h2 hs e he e.f3 0 (by simp)))
  simp [theorboref02_SameEvent.j0]
theorem same_es : ∀ (suf : List S46) (j : Nat), l2.drop j = suf → Ev (fun k => theorboref02_Same.l0 k (j : Int) l0 l1 l2 l0 l1 l2) true
  | [], j, h => by
    have := drop_nil h
    refine Ev.step (f := fun _ => some true) (fun k => ?_) (Ev.now _)
    simp only [theorboref02_Same.l0]
    rw [if_neg (by omega)]
  | e :: r, j, h => by
    obtain ⟨hj, hx, hr⟩ := drop_cons h
    have he := hs e (List.mem_of_getElem? hx)
    have ih := same_es r (j + 1) hr
    refine Ev.step (f := fun k => (theorboref02_SameEvent.f k e.f0 e.f1.f0 e.f1.f1 e.f1.f2 e.f2 e.f3 e.f0 e.f1.f0 e.f1.f1 e.f1.f2 e.f2 e.f3).bind fun b => if b = true then theorboref02_Same.l0 k ((j + 1 : Nat) : Int) l0 l1 l2 l0 l1 l2 else some false) (fun k => ?_) (Ev.bd (same_e l0 l1 l2 h0 h1 h2 hs e he) (Ev.pos rfl ih))
    simp only [theorboref02_Same.l0]
    rw [if_pos (by omega), if_pos (by omega), if_pos (by omega), rd46 hx, next hj (by omega)]
theorem same_ev : Ev (fun k => theorboref02_Same.f k l0 l1 l2 l0 l1 l2) true := by
  refine Ev.congr (f := fun k => (theorboref01_Same.f k l0 l1 l0 l1).bind fun b => if b = true then theorboref02_Same.j0 k false l0 l1 l2 l0 l1 l2 else theorboref02_Same.j0 k true l0 l1 l2 l0 l1 l2) (fun k => by simp [theorboref02_Same.f]) (Ev.bd (same_in l0 l1 l2 h0 h1 h2 hs) (Ev.pos rfl (Ev.step (fun k => ?_) (same_es l0 l1 l2 h0 h1 h2 hs l2 0 (by simp)))))
  simp [theorboref02_Same.j0]
end
theorem works_ev : Ev (fun k => theorbolaw03_works.f k) true := Ev.of (fun k => theorbolaw03_works.mono k) works_k
end Go.Proofs.YtocpcofihlcnoaaGreat.Pure
