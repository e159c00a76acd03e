/- A copy of a piece is the piece; what is the same is the same; what is not large. No condition. -/
import Derived.Test.YtocpcofihlcnoaaGreatPureCLacks
namespace Go.Proofs.YtocpcofihlcnoaaGreat.Pure
open Go.RowKit Go.Proofs.YtocpcofihlcnoaaGreat.PNC Go.Proofs.YtocpcofihlcnoaaGreatW.PrintWords Go.Proofs.YtocpcofihlcnoaaGreatW.PrintLast Go.Proofs.YtocpcofihlcnoaaGreatW.PrintMore
set_option linter.unusedSimpArgs false
set_option linter.unusedVariables false
set_option linter.unusedSectionVars false
theorem next_max {j n : Nat} (h : j < n) (hn : n ≤ maxLen) : wrap64 ((j : Int) + 1) = ((j + 1 : Nat) : Int) := by
  unfold maxLen at hn
  unfold wrap64; omega
/-! ### Big -/
def bigB (l0 : List S99) (l1 : List Int) (l2 : List S46) : Bool := decide (l0.length > 64 ∨ l1.length > 64 ∨ l2.length > 420) || l2.any fun e => decide (e.f3.length > 20)
theorem big_l (l0 : List S99) (l1 : List Int) (l2 : List S46) (hm : l2.length ≤ maxLen) : ∀ (suf : List S46) (j : Nat), l2.drop j = suf → Ev (fun k => theorbolaw02_Big.l0 k (j : Int) l0 l1 l2) (suf.any fun e => decide (e.f3.length > 20))
  | [], j, h => by
    have := drop_nil h
    refine Ev.step (f := fun _ => some false) (fun k => ?_) (Ev.some rfl)
    simp only [theorbolaw02_Big.l0]
    rw [if_neg (by omega)]
  | e :: r, j, h => by
    obtain ⟨hj, hx, hr⟩ := drop_cons h
    have ih := big_l l0 l1 l2 hm r (j + 1) hr
    refine Ev.step (f := fun k => if (e.f3.length : Int) > 20 then some true else theorbolaw02_Big.l0 k ((j + 1 : Nat) : Int) l0 l1 l2) (fun k => ?_) ?_
    · simp only [theorbolaw02_Big.l0]
      rw [if_pos (by omega), if_pos (by omega), rd46 hx, next_max hj hm]
    · by_cases a : (e.f3.length : Int) > 20
      · refine Ev.pos a (Ev.some ?_)
        rw [List.any_cons, decide_eq_true (show e.f3.length > 20 by omega)]
        rfl
      · refine Ev.neg a ?_
        rw [List.any_cons, decide_eq_false (show ¬ e.f3.length > 20 by omega), Bool.false_or]
        exact ih
theorem big_ev (l0 : List S99) (l1 : List Int) (l2 : List S46) (hm : l2.length ≤ maxLen) : Ev (fun k => theorbolaw02_Big.f k l0 l1 l2) (bigB l0 l1 l2) := by
  have s0 : ∀ (p : Prop) [Decidable p], Ev (fun k => theorbolaw02_Big.j0 k (decide p) l0 l1 l2) (decide p || l2.any fun e => decide (e.f3.length > 20)) := by
    intro p _
    refine Ev.step (f := fun k => if p then some true else theorbolaw02_Big.l0 k ((0 : Nat) : Int) l0 l1 l2) (fun k => ?_) ?_
    · simp only [theorbolaw02_Big.j0, decide_eq_true_eq]
      rfl
    · by_cases a : p
      · exact Ev.pos a (Ev.some (by simp [a]))
      · refine Ev.neg a ?_
        rw [decide_eq_false a, Bool.false_or]
        exact big_l l0 l1 l2 hm l2 0 (by simp)
  have := s0 (l0.length > 64 ∨ l1.length > 64 ∨ l2.length > 420)
  refine Ev.congr (fun k => ?_) this
  simp only [theorbolaw02_Big.f]
  rw [orj (fun b => theorbolaw02_Big.j0 k b l0 l1 l2), orj (fun b => theorbolaw02_Big.j0 k b l0 l1 l2)]
  congr 1
  rw [Bool.eq_iff_iff]
  simp only [decide_eq_true_eq]
  omega
theorem big_of {l0 : List S99} {l1 : List Int} {l2 : List S46} (h : bigB l0 l1 l2 = false) : l0.length ≤ 64 ∧ l1.length ≤ 64 ∧ l2.length ≤ 420 ∧ ∀ e ∈ l2, e.f3.length ≤ 20 := by
  unfold bigB at h
  simp only [Bool.or_eq_false_iff, decide_eq_false_iff_not, List.any_eq_false, decide_eq_true_eq] at h
  refine ⟨by omega, by omega, by omega, fun e he => ?_⟩
  have := h.2 e he
  omega
section
variable (l0 : List S99) (l1 : List Int) (l2 : List S46) (h0 : l0.length ≤ 64) (h1 : l1.length ≤ 64) (h2 : l2.length ≤ 420) (hs : ∀ e ∈ l2, e.f3.length ≤ 20)
include h0 h1 h2 hs
/-! ### Copy -/
theorem copy_l : ∀ (suf : List S46) (j : Nat), l2.drop j = suf → Ev (fun k => theorboref02_Copy.l0 k (j : Int) l0 l1 l2 l0 l1 (l2.take j)) (l0, l1, l2)
  | [], j, h => by
    have := drop_nil h
    refine Ev.step (f := fun _ => some (l0, l1, l2)) (fun k => ?_) (Ev.now _)
    simp only [theorboref02_Copy.l0]
    rw [if_neg (by omega), List.take_of_length_le (by omega)]
  | e :: r, j, h => by
    obtain ⟨hj, hx, hr⟩ := drop_cons h
    have he := hs e (List.mem_of_getElem? hx)
    have ih := copy_l r (j + 1) hr
    refine Ev.step (fun k => ?_) ih
    simp only [theorboref02_Copy.l0]
    rw [if_pos (by omega), if_pos (by omega), rd46 hx]
    simp only [Option.bind_some, List.length_nil, List.nil_append]
    rw [if_pos (by omega), if_pos (by rw [List.length_take]; omega), next hj (by omega), List.take_add_one, hx]
    rfl
theorem copy_ev : Ev (fun k => theorboref02_Copy.f k l0 l1 l2) (l0, l1, l2) := by
  have := copy_l l0 l1 l2 h0 h1 h2 hs l2 0 (by simp)
  refine Ev.congr (fun k => ?_) this
  simp only [theorboref02_Copy.f, theorboref01_Copy.f, Option.bind_some, List.length_nil, List.nil_append]
  rw [if_pos (by omega), if_pos (by omega)]
  simp
end
theorem works_ev : Ev (fun k => theorbolaw03_works.f k) true := Ev.of (fun k => theorbolaw03_works.mono k) works_k
end Go.Proofs.YtocpcofihlcnoaaGreat.Pure
