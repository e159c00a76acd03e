/- What a valid piece is: stops, events, Check: the program's and the document's come to the same error. No condition. -/
import Derived.Test.YtocpcofihlcnoaaGreatPureCLong
namespace Go.Proofs.YtocpcofihlcnoaaGreat.Pure
open Go.RowKit Go.Proofs.YtocpcofihlcnoaaGreat.PNC Go.Proofs.YtocpcofihlcnoaaGreatW.PrintWords Go.Proofs.YtocpcofihlcnoaaGreatW.PrintLast Go.Proofs.YtocpcofihlcnoaaGreatW.PrintMore
set_option linter.unusedSimpArgs false
set_option linter.unusedVariables false
set_option linter.unusedSectionVars false
def stopE (l0 : List S99) (L : Int → Int) (s : S54) (last : Int) : Int :=
  if s.f0 < 1 ∨ s.f0 > (l0.length : Int) then 12 else if s.f1 < 0 ∨ s.f1 > (rd_T99 l0 (s.f0 - 1)).f1 then 13 else if s.f0 ≤ last then 22
  else if s.f2 < 0 ∨ s.f2 > 3 ∨ s.f3 < 0 ∨ s.f3 > 4 then 23 else if s.f4 < 0 ∨ s.f4 > L s.f0 ∨ (s.f4 > 0 ∧ s.f1 = 0) then 24 else 0
def stopsE (l0 : List S99) (L : Int → Int) : List S54 → Int → Int
  | [], _ => 0
  | s :: r, last => if stopE l0 L s last = 0 then stopsE l0 L r s.f0 else stopE l0 L s last
def evE (l0 : List S99) (l2 : List S46) (i : Int) (e : S46) : Int :=
  if sv e.f1 = false ∨ (i = 0 ∧ e.f1.f0 = 0) then 20 else if e.f2 = true ∧ (i = 0 ∨ (e.f3.length : Int) > 0) then 21 else stopsE l0 (longS l2 i) e.f3 0
def evsE (l0 : List S99) (l2 : List S46) : List S46 → Nat → Int
  | [], _ => 0
  | e :: r, i => if evE l0 l2 (i : Int) e = 0 then evsE l0 l2 r (i + 1) else evE l0 l2 (i : Int) e
def chE (l0 : List S99) (l1 : List Int) (l2 : List S46) : Int := if inE l0 l1 = 0 then (if l2.length > 400 then 2 else evsE l0 l2 l2 0) else inE l0 l1
section
variable (l0 : List S99) (l1 : List Int) (l2 : List S46) (h0 : l0.length ≤ 64) (h1 : l1.length ≤ 64) (h2 : l2.length ≤ 420) (hs : ∀ e ∈ l2, e.f3.length ≤ 20)
include h0 h1 h2 hs
theorem stop_impl (i : Int) (s : S54) (last : Int) : Ev (fun k => piece_checkStop.f k l0 l1 l2 i s.f0 s.f1 s.f2 s.f3 s.f4 last) (stopE l0 (longS l2 i) s last) := by
  have hL := long_impl l0 l1 l2 h2 hs i s.f0
  have s2 : ∀ p : Prop, [Decidable p] → Ev (fun k => piece_checkStop.j2 k i (decide p) l0 l1 l2 s.f0 s.f1 s.f2 s.f3 s.f4) (if p then 23 else if s.f4 < 0 ∨ s.f4 > longS l2 i s.f0 ∨ (s.f4 > 0 ∧ s.f1 = 0) then 24 else 0) := by
    intro p _
    refine Ev.step (f := fun k => if p then some 23 else if s.f4 < 0 then some 24 else (piece_Longest.f k l0 l1 l2 i s.f0).bind fun t => if s.f4 > t then some 24 else if s.f4 > 0 then (if s.f1 = 0 then some 24 else some 0) else some 0) (fun k => ?_) ?_
    · simp only [piece_checkStop.j2, decide_eq_true_eq]
    · refine Ev.ite (fun _ => Ev.now _) fun _ => ?_
      by_cases a : s.f4 < 0
      · exact Ev.pos a (Ev.some (by simp [a]))
      · refine Ev.neg a (Ev.bd hL ?_)
        by_cases b : s.f4 > longS l2 i s.f0
        · exact Ev.pos b (Ev.some (by simp [b]))
        · refine Ev.neg b ?_
          by_cases c : s.f4 > 0
          · refine Ev.pos c ?_
            by_cases d : s.f1 = 0
            · exact Ev.pos d (Ev.some (by simp [c, d]))
            · exact Ev.neg d (Ev.some (by rw [if_neg]; omega))
          · exact Ev.neg c (Ev.some (by rw [if_neg]; omega))
  have s1 : ∀ p : Prop, [Decidable p] → Ev (fun k => piece_checkStop.j1 k i last (decide p) l0 l1 l2 s.f0 s.f1 s.f2 s.f3 s.f4) (if p then 13 else if s.f0 ≤ last then 22 else if s.f2 < 0 ∨ s.f2 > 3 ∨ s.f3 < 0 ∨ s.f3 > 4 then 23 else if s.f4 < 0 ∨ s.f4 > longS l2 i s.f0 ∨ (s.f4 > 0 ∧ s.f1 = 0) then 24 else 0) := by
    intro p _
    refine Ev.step (f := fun k => if p then some 13 else if s.f0 ≤ last then some 22 else piece_checkStop.j2 k i (decide (s.f2 < 0 ∨ s.f2 > 3 ∨ s.f3 < 0 ∨ s.f3 > 4)) l0 l1 l2 s.f0 s.f1 s.f2 s.f3 s.f4) (fun k => ?_) (Ev.ite (fun _ => Ev.now _) fun _ => Ev.ite (fun _ => Ev.now _) fun _ => s2 _)
    simp only [piece_checkStop.j1, decide_eq_true_eq]
    rw [orj (fun b => piece_checkStop.j2 k i b l0 l1 l2 s.f0 s.f1 s.f2 s.f3 s.f4), orj (fun b => piece_checkStop.j2 k i b l0 l1 l2 s.f0 s.f1 s.f2 s.f3 s.f4), orj (fun b => piece_checkStop.j2 k i b l0 l1 l2 s.f0 s.f1 s.f2 s.f3 s.f4)]
  unfold stopE
  refine Ev.congr (f := fun k => piece_checkStop.j0 k i last (decide (s.f0 < 1 ∨ s.f0 > (l0.length : Int))) l0 l1 l2 s.f0 s.f1 s.f2 s.f3 s.f4) (fun k => ?_) ?_
  · simp only [piece_checkStop.f]
    exact orj (fun b => piece_checkStop.j0 k i last b l0 l1 l2 s.f0 s.f1 s.f2 s.f3 s.f4) _ _
  · by_cases a : s.f0 < 1 ∨ s.f0 > (l0.length : Int)
    · refine Ev.step (f := fun _ => some 12) (fun k => ?_) (Ev.some (by rw [if_pos a]))
      simp [piece_checkStop.j0, a]
    · rw [if_neg a]
      refine Ev.step (f := fun k => piece_checkStop.j1 k i last (decide (s.f1 < 0 ∨ s.f1 > (rd_T99 l0 (s.f0 - 1)).f1)) l0 l1 l2 s.f0 s.f1 s.f2 s.f3 s.f4) (fun k => ?_) (s1 _)
      simp only [piece_checkStop.j0]
      rw [if_neg (by simpa using a), wrap_small (i := s.f0 - 1) (by omega) (by omega), if_pos (show 0 ≤ s.f0 - 1 by omega), if_pos (show s.f0 - 1 < (l0.length : Int) by omega)]
      exact orj (fun b => piece_checkStop.j1 k i last b l0 l1 l2 s.f0 s.f1 s.f2 s.f3 s.f4) _ _
theorem stops_impl (x21 : List S46) (x22 x23 : Int) (i : Int) (y : List S54) (hy : y.length ≤ 20) (R : Int) (next_ : Ev (fun k => piece_Check.l0 k x21 x22 (wrap64 (x23 + 1)) l0 l1 l2) R) : ∀ (suf : List S54) (j : Nat) (last : Int), y.drop j = suf →
    Ev (fun k => piece_Check.l1 k i last x21 x22 x23 y (y.length : Int) (j : Int) l0 l1 l2) (if stopsE l0 (longS l2 i) suf last = 0 then R else stopsE l0 (longS l2 i) suf last)
  | [], j, last, h => by
    have := drop_nil h
    refine Ev.step (f := fun k => piece_Check.l0 k x21 x22 (wrap64 (x23 + 1)) l0 l1 l2) (fun k => ?_) (by simp only [stopsE, if_true]; exact next_)
    simp only [piece_Check.l1]
    rw [if_neg (by omega)]
  | s :: r, j, last, h => by
    obtain ⟨hj, hx, hr⟩ := drop_cons h
    have ih := stops_impl x21 x22 x23 i y hy R next_ r (j + 1) s.f0 hr
    have hst := stop_impl l0 l1 l2 h0 h1 h2 hs i s last
    refine Ev.step (f := fun k => (piece_checkStop.f k l0 l1 l2 i s.f0 s.f1 s.f2 s.f3 s.f4 last).bind fun t => if t = 0 then piece_Check.l1 k i s.f0 x21 x22 x23 y (y.length : Int) ((j + 1 : Nat) : Int) l0 l1 l2 else some t) (fun k => ?_) (Ev.bd hst ?_)
    · simp only [piece_Check.l1]
      rw [if_pos (by omega), if_pos (by omega), if_pos (by omega), rd54 hx, next hj (by omega)]
    · unfold stopsE
      by_cases a : stopE l0 (longS l2 i) s last = 0
      · refine Ev.pos a ?_
        rw [if_pos a]
        exact ih
      · exact Ev.neg a (Ev.some (by rw [if_neg a, if_neg a]))
theorem events_impl : ∀ (suf : List S46) (j : Nat), l2.drop j = suf → Ev (fun k => piece_Check.l0 k l2 (l2.length : Int) (j : Int) l0 l1 l2) (evsE l0 l2 suf j)
  | [], j, h => by
    have := drop_nil h
    refine Ev.step (f := fun _ => some 0) (fun k => ?_) (Ev.now _)
    simp only [piece_Check.l0]
    rw [if_neg (by omega)]
  | e :: r, j, h => by
    obtain ⟨hj, hx, hr⟩ := drop_cons h
    have he := hs e (List.mem_of_getElem? hx)
    have ih := events_impl r (j + 1) hr
    have hv := valid_impl e.f1
    have nx : Ev (fun k => piece_Check.l0 k l2 (l2.length : Int) (wrap64 ((j : Int) + 1)) l0 l1 l2) (evsE l0 l2 r (j + 1)) := by rw [next hj (by omega)]; exact ih
    have st := stops_impl l0 l1 l2 h0 h1 h2 hs l2 (l2.length : Int) (j : Int) (j : Int) e.f3 he _ nx e.f3 0 0 (by simp)
    have s2 : ∀ p : Prop, [Decidable p] → Ev (fun k => piece_Check.j2 k (j : Int) l2 (l2.length : Int) (j : Int) (decide p) l0 l1 l2 e.f0 e.f1.f0 e.f1.f1 e.f1.f2 e.f2 e.f3) (if p then 21 else if stopsE l0 (longS l2 (j : Int)) e.f3 0 = 0 then evsE l0 l2 r (j + 1) else stopsE l0 (longS l2 (j : Int)) e.f3 0) := by
      intro p _
      refine Ev.step (f := fun k => if p then some 21 else piece_Check.l1 k (j : Int) 0 l2 (l2.length : Int) (j : Int) e.f3 (e.f3.length : Int) ((0 : Nat) : Int) l0 l1 l2) (fun k => ?_) (Ev.ite (fun _ => Ev.now _) fun _ => st)
      simp only [piece_Check.j2, decide_eq_true_eq]
      rfl
    have s1 : ∀ p : Prop, [Decidable p] → Ev (fun k => piece_Check.j1 k (j : Int) l2 (l2.length : Int) (j : Int) (decide p) l0 l1 l2 e.f0 e.f1.f0 e.f1.f1 e.f1.f2 e.f2 e.f3) (if p then 20 else if e.f2 = true ∧ ((j : Int) = 0 ∨ (e.f3.length : Int) > 0) then 21 else if stopsE l0 (longS l2 (j : Int)) e.f3 0 = 0 then evsE l0 l2 r (j + 1) else stopsE l0 (longS l2 (j : Int)) e.f3 0) := by
      intro p _
      refine Ev.step (f := fun k => if p then some 20 else piece_Check.j2 k (j : Int) l2 (l2.length : Int) (j : Int) (decide (e.f2 = true ∧ ((j : Int) = 0 ∨ (e.f3.length : Int) > 0))) l0 l1 l2 e.f0 e.f1.f0 e.f1.f1 e.f1.f2 e.f2 e.f3) (fun k => ?_) (Ev.ite (fun _ => Ev.now _) fun _ => s2 _)
      simp only [piece_Check.j1, decide_eq_true_eq]
      by_cases a : e.f2 = true
      · rw [if_pos a]
        rw [orj (fun b => piece_Check.j2 k (j : Int) l2 (l2.length : Int) (j : Int) b l0 l1 l2 e.f0 e.f1.f0 e.f1.f1 e.f1.f2 e.f2 e.f3)]
        simp [a]
      · rw [if_neg a]
        simp [a]
    unfold evsE
    have main : Ev (fun k => piece_Check.l0 k l2 (l2.length : Int) (j : Int) l0 l1 l2) (if sv e.f1 = false ∨ ((j : Int) = 0 ∧ e.f1.f0 = 0) then 20 else if e.f2 = true ∧ ((j : Int) = 0 ∨ (e.f3.length : Int) > 0) then 21 else if stopsE l0 (longS l2 (j : Int)) e.f3 0 = 0 then evsE l0 l2 r (j + 1) else stopsE l0 (longS l2 (j : Int)) e.f3 0) := by
      refine Ev.step (f := fun k => (piece_valid.f k e.f1.f0 e.f1.f1 e.f1.f2).bind fun t => piece_Check.j1 k (j : Int) l2 (l2.length : Int) (j : Int) (decide (t = false ∨ ((j : Int) = 0 ∧ (e.f1.f0 == 0 && (!e.f1.f1 && (!e.f1.f2))) = true))) l0 l1 l2 e.f0 e.f1.f0 e.f1.f1 e.f1.f2 e.f2 e.f3) (fun k => ?_) (Ev.bd hv ?_)
      · simp only [piece_Check.l0]
        rw [if_pos (by omega), if_pos (by omega), if_pos (by omega), rd46 hx]
        congr 1
        funext t
        cases t with
        | false => simp
        | true =>
          by_cases a : (j : Int) = 0
          · rw [if_pos rfl, if_pos a]
            generalize (e.f1.f0 == 0 && (!e.f1.f1 && (!e.f1.f2))) = B
            cases B <;> simp [a]
          · rw [if_pos rfl, if_neg a]
            generalize (e.f1.f0 == 0 && (!e.f1.f1 && (!e.f1.f2))) = B
            rw [decide_eq_false (show ¬ (true = false ∨ (j : Int) = 0 ∧ B = true) from fun h => h.elim (fun h => by cases h) fun h => a h.1)]
      · have q : (sv e.f1 = false ∨ ((j : Int) = 0 ∧ (e.f1.f0 == 0 && (!e.f1.f1 && (!e.f1.f2))) = true)) ↔ (sv e.f1 = false ∨ ((j : Int) = 0 ∧ e.f1.f0 = 0)) := by
          unfold sv
          by_cases z : e.f1.f0 = 0
          · cases e.f1.f1 <;> cases e.f1.f2 <;> simp [z]
          · simp [z]
        have := s1 (sv e.f1 = false ∨ ((j : Int) = 0 ∧ e.f1.f0 = 0))
        simp only [q]
        exact this
    have e1 : (if evE l0 l2 (j : Int) e = 0 then evsE l0 l2 r (j + 1) else evE l0 l2 (j : Int) e) = (if sv e.f1 = false ∨ ((j : Int) = 0 ∧ e.f1.f0 = 0) then 20 else if e.f2 = true ∧ ((j : Int) = 0 ∨ (e.f3.length : Int) > 0) then 21 else if stopsE l0 (longS l2 (j : Int)) e.f3 0 = 0 then evsE l0 l2 r (j + 1) else stopsE l0 (longS l2 (j : Int)) e.f3 0) := by
      unfold evE
      by_cases a : sv e.f1 = false ∨ ((j : Int) = 0 ∧ e.f1.f0 = 0)
      · rw [if_pos a, if_pos a]; rfl
      · rw [if_neg a, if_neg a]
        by_cases b : e.f2 = true ∧ ((j : Int) = 0 ∨ (e.f3.length : Int) > 0)
        · rw [if_pos b, if_pos b]; rfl
        · rw [if_neg b, if_neg b]
    rw [e1]
    exact main
theorem check_impl : Ev (fun k => piece_Check.f k l0 l1 l2) (chE l0 l1 l2) := by
  unfold chE
  refine Ev.congr (f := fun k => (instrument_Check.f k l0 l1).bind fun t => if t = 0 then (if (l2.length : Int) > 400 then some 2 else piece_Check.l0 k l2 (l2.length : Int) ((0 : Nat) : Int) l0 l1 l2) else some t) (fun k => rfl) (Ev.bd (in_impl l0 l1 h0 h1) ?_)
  by_cases a : inE l0 l1 = 0
  · refine Ev.pos a ?_
    rw [if_pos a]
    by_cases b : l2.length > 400
    · rw [if_pos b]; exact Ev.pos (by omega) (Ev.now _)
    · rw [if_neg b]; exact Ev.neg (by omega) (events_impl l0 l1 l2 h0 h1 h2 hs l2 0 (by simp))
  · exact Ev.neg a (Ev.some (by rw [if_neg a]))
theorem stops_ref (i : Nat) (e : S46) (he : e.f3.length ≤ 20) : ∀ (suf : List S54) (j : Nat) (last : Int), (j = 0 → last = 0) → (0 < j → last = (rd_T54 e.f3 ((j : Int) - 1)).f0) → e.f3.drop j = suf →
    Ev (fun k => theorboref02_event.l0 k (i : Int) (j : Int) l0 l1 l2 e.f0 e.f1.f0 e.f1.f1 e.f1.f2 e.f2 e.f3) (stopsE l0 (longS l2 (i : Int)) suf last)
  | [], j, last, _, _, h => by
    have := drop_nil h
    refine Ev.step (f := fun _ => some 0) (fun k => ?_) (Ev.some rfl)
    simp only [theorboref02_event.l0]
    rw [if_neg (by omega)]
  | s :: r, j, last, hz, hp, h => by
    obtain ⟨hj, hx, hr⟩ := drop_cons h
    have ih := stops_ref i e he r (j + 1) s.f0 (by omega) (fun _ => by rw [show (((j + 1 : Nat) : Int) - 1) = (j : Int) by omega, rd54 hx]) hr
    have hL := long_ref l0 l1 l2 h2 hs (i : Int) s.f0
    have s6 : ∀ p : Prop, [Decidable p] → Ev (fun k => theorboref02_event.j6 k (i : Int) (j : Int) (decide p) l0 l1 l2 e.f0 e.f1.f0 e.f1.f1 e.f1.f2 e.f2 e.f3 s.f0 s.f1 s.f2 s.f3 s.f4) (if p then 23 else if s.f4 < 0 ∨ s.f4 > longS l2 (i : Int) s.f0 ∨ (s.f4 > 0 ∧ s.f1 = 0) then 24 else stopsE l0 (longS l2 (i : Int)) r s.f0) := by
      intro p _
      refine Ev.step (f := fun k => if p then some 23 else if s.f4 < 0 then some 24 else (theorboref02_Longest.f k l0 l1 l2 (i : Int) s.f0).bind fun t => if s.f4 > t then some 24 else if s.f4 > 0 then (if s.f1 = 0 then some 24 else theorboref02_event.l0 k (i : Int) ((j + 1 : Nat) : Int) l0 l1 l2 e.f0 e.f1.f0 e.f1.f1 e.f1.f2 e.f2 e.f3) else theorboref02_event.l0 k (i : Int) ((j + 1 : Nat) : Int) l0 l1 l2 e.f0 e.f1.f0 e.f1.f1 e.f1.f2 e.f2 e.f3) (fun k => ?_) ?_
      · simp only [theorboref02_event.j6, decide_eq_true_eq]
        rw [next hj (by omega)]
      · refine Ev.ite (fun _ => Ev.now _) fun _ => ?_
        by_cases a : s.f4 < 0
        · exact Ev.pos a (Ev.some (by simp [a]))
        · refine Ev.neg a (Ev.bd hL ?_)
          by_cases b : s.f4 > longS l2 (i : Int) s.f0
          · exact Ev.pos b (Ev.some (by simp [b]))
          · refine Ev.neg b ?_
            by_cases c : s.f4 > 0
            · refine Ev.pos c ?_
              by_cases d : s.f1 = 0
              · exact Ev.pos d (Ev.some (by simp [c, d]))
              · refine Ev.neg d ?_
                rw [if_neg (by omega)]
                exact ih
            · refine Ev.neg c ?_
              rw [if_neg (by omega)]
              exact ih
    have s5 : ∀ p : Prop, [Decidable p] → Ev (fun k => theorboref02_event.j5 k (i : Int) (j : Int) (decide p) l0 l1 l2 e.f0 e.f1.f0 e.f1.f1 e.f1.f2 e.f2 e.f3 s.f0 s.f1 s.f2 s.f3 s.f4) (if p then 22 else if s.f2 < 0 ∨ s.f2 > 3 ∨ s.f3 < 0 ∨ s.f3 > 4 then 23 else if s.f4 < 0 ∨ s.f4 > longS l2 (i : Int) s.f0 ∨ (s.f4 > 0 ∧ s.f1 = 0) then 24 else stopsE l0 (longS l2 (i : Int)) r s.f0) := by
      intro p _
      refine Ev.step (f := fun k => if p then some 22 else theorboref02_event.j6 k (i : Int) (j : Int) (decide (s.f2 < 0 ∨ s.f2 > 3 ∨ s.f3 < 0 ∨ s.f3 > 4)) l0 l1 l2 e.f0 e.f1.f0 e.f1.f1 e.f1.f2 e.f2 e.f3 s.f0 s.f1 s.f2 s.f3 s.f4) (fun k => ?_) (Ev.ite (fun _ => Ev.now _) fun _ => s6 _)
      simp only [theorboref02_event.j5, decide_eq_true_eq]
      rw [orj (fun b => theorboref02_event.j6 k (i : Int) (j : Int) b l0 l1 l2 e.f0 e.f1.f0 e.f1.f1 e.f1.f2 e.f2 e.f3 s.f0 s.f1 s.f2 s.f3 s.f4), orj (fun b => theorboref02_event.j6 k (i : Int) (j : Int) b l0 l1 l2 e.f0 e.f1.f0 e.f1.f1 e.f1.f2 e.f2 e.f3 s.f0 s.f1 s.f2 s.f3 s.f4), orj (fun b => theorboref02_event.j6 k (i : Int) (j : Int) b l0 l1 l2 e.f0 e.f1.f0 e.f1.f1 e.f1.f2 e.f2 e.f3 s.f0 s.f1 s.f2 s.f3 s.f4)]
    have s4 : 1 ≤ s.f0 → ∀ p : Prop, [Decidable p] → Ev (fun k => theorboref02_event.j4 k (i : Int) (j : Int) (decide p) l0 l1 l2 e.f0 e.f1.f0 e.f1.f1 e.f1.f2 e.f2 e.f3 s.f0 s.f1 s.f2 s.f3 s.f4) (if p then 13 else if s.f0 ≤ last then 22 else if s.f2 < 0 ∨ s.f2 > 3 ∨ s.f3 < 0 ∨ s.f3 > 4 then 23 else if s.f4 < 0 ∨ s.f4 > longS l2 (i : Int) s.f0 ∨ (s.f4 > 0 ∧ s.f1 = 0) then 24 else stopsE l0 (longS l2 (i : Int)) r s.f0) := by
      intro hc p _
      refine Ev.step (f := fun k => if p then some 13 else theorboref02_event.j5 k (i : Int) (j : Int) (decide (s.f0 ≤ last)) l0 l1 l2 e.f0 e.f1.f0 e.f1.f1 e.f1.f2 e.f2 e.f3 s.f0 s.f1 s.f2 s.f3 s.f4) (fun k => ?_) (Ev.ite (fun _ => Ev.now _) fun _ => s5 _)
      simp only [theorboref02_event.j4, decide_eq_true_eq]
      by_cases hp' : p
      · rw [if_pos hp', if_pos hp']
      rw [if_neg hp', if_neg hp']
      by_cases a : (j : Int) > 0
      · rw [if_pos a, wrap_small (i := (j : Int) - 1) (by omega) (by omega), if_pos (by omega), if_pos (by omega), hp (by omega)]
      · rw [if_neg a, hz (by omega), show decide (s.f0 ≤ 0) = false by simp; omega]
    refine Ev.step (f := fun k => theorboref02_event.j3 k (i : Int) (j : Int) (decide (s.f0 < 1 ∨ s.f0 > (l0.length : Int))) l0 l1 l2 e.f0 e.f1.f0 e.f1.f1 e.f1.f2 e.f2 e.f3 s.f0 s.f1 s.f2 s.f3 s.f4) (fun k => ?_) ?_
    · simp only [theorboref02_event.l0]
      rw [if_pos (by omega), if_pos (by omega), rd54 hx]
      exact orj (fun b => theorboref02_event.j3 k (i : Int) (j : Int) b l0 l1 l2 e.f0 e.f1.f0 e.f1.f1 e.f1.f2 e.f2 e.f3 s.f0 s.f1 s.f2 s.f3 s.f4) _ _
    · unfold stopsE
      have e1 : (if stopE l0 (longS l2 (i : Int)) s last = 0 then stopsE l0 (longS l2 (i : Int)) r s.f0 else stopE l0 (longS l2 (i : Int)) s last) = (if s.f0 < 1 ∨ s.f0 > (l0.length : Int) then 12 else if s.f1 < 0 ∨ s.f1 > (rd_T99 l0 (s.f0 - 1)).f1 then 13 else if s.f0 ≤ last then 22
          else if s.f2 < 0 ∨ s.f2 > 3 ∨ s.f3 < 0 ∨ s.f3 > 4 then 23 else if s.f4 < 0 ∨ s.f4 > longS l2 (i : Int) s.f0 ∨ (s.f4 > 0 ∧ s.f1 = 0) then 24 else stopsE l0 (longS l2 (i : Int)) r s.f0) := by
        unfold stopE
        by_cases a : s.f0 < 1 ∨ s.f0 > (l0.length : Int)
        · rw [if_pos a, if_pos a]; rfl
        rw [if_neg a, if_neg a]
        by_cases b : s.f1 < 0 ∨ s.f1 > (rd_T99 l0 (s.f0 - 1)).f1
        · rw [if_pos b, if_pos b]; rfl
        rw [if_neg b, if_neg b]
        by_cases c : s.f0 ≤ last
        · rw [if_pos c, if_pos c]; rfl
        rw [if_neg c, if_neg c]
        by_cases d : s.f2 < 0 ∨ s.f2 > 3 ∨ s.f3 < 0 ∨ s.f3 > 4
        · rw [if_pos d, if_pos d]; rfl
        rw [if_neg d, if_neg d]
        by_cases f : s.f4 < 0 ∨ s.f4 > longS l2 (i : Int) s.f0 ∨ (s.f4 > 0 ∧ s.f1 = 0)
        · rw [if_pos f, if_pos f]; rfl
        rw [if_neg f, if_neg f, if_pos rfl]
      rw [e1]
      by_cases a : s.f0 < 1 ∨ s.f0 > (l0.length : Int)
      · refine Ev.step (f := fun _ => some 12) (fun k => ?_) (Ev.some (by rw [if_pos a]))
        simp [theorboref02_event.j3, a]
      · rw [if_neg a]
        refine Ev.step (f := fun k => theorboref02_event.j4 k (i : Int) (j : Int) (decide (s.f1 < 0 ∨ s.f1 > (rd_T99 l0 (s.f0 - 1)).f1)) l0 l1 l2 e.f0 e.f1.f0 e.f1.f1 e.f1.f2 e.f2 e.f3 s.f0 s.f1 s.f2 s.f3 s.f4) (fun k => ?_) (s4 (by omega) _)
        simp only [theorboref02_event.j3]
        rw [if_neg (by simpa using a), wrap_small (i := s.f0 - 1) (by omega) (by omega), if_pos (show 0 ≤ s.f0 - 1 by omega), if_pos (show s.f0 - 1 < (l0.length : Int) by omega)]
        exact orj (fun b => theorboref02_event.j4 k (i : Int) (j : Int) b l0 l1 l2 e.f0 e.f1.f0 e.f1.f1 e.f1.f2 e.f2 e.f3 s.f0 s.f1 s.f2 s.f3 s.f4) _ _
theorem event_ref (j : Nat) (e : S46) (hx : l2[j]? = some e) : Ev (fun k => theorboref02_event.f k l0 l1 l2 (j : Int)) (evE l0 l2 (j : Int) e) := by
  have hj : j < l2.length := (List.getElem?_eq_some_iff.1 hx).1
  have he := hs e (List.mem_of_getElem? hx)
  have st := stops_ref l0 l1 l2 h0 h1 h2 hs j e he e.f3 0 0 (fun _ => rfl) (fun h => by omega) (by simp)
  have s1 : ∀ p : Prop, [Decidable p] → Ev (fun k => theorboref02_event.j1 k (j : Int) (decide p) l0 l1 l2 e.f0 e.f1.f0 e.f1.f1 e.f1.f2 e.f2 e.f3) (if p then 21 else stopsE l0 (longS l2 (j : Int)) e.f3 0) := by
    intro p _
    refine Ev.step (f := fun k => if p then some 21 else theorboref02_event.l0 k (j : Int) ((0 : Nat) : Int) l0 l1 l2 e.f0 e.f1.f0 e.f1.f1 e.f1.f2 e.f2 e.f3) (fun k => ?_) (Ev.ite (fun _ => Ev.now _) fun _ => st)
    simp only [theorboref02_event.j1, decide_eq_true_eq]
    rfl
  have s0 : ∀ p : Prop, [Decidable p] → Ev (fun k => theorboref02_event.j0 k (j : Int) (decide p) l0 l1 l2 e.f0 e.f1.f0 e.f1.f1 e.f1.f2 e.f2 e.f3) (if p then 20 else if e.f2 = true ∧ ((j : Int) = 0 ∨ (e.f3.length : Int) > 0) then 21 else stopsE l0 (longS l2 (j : Int)) e.f3 0) := by
    intro p _
    refine Ev.step (f := fun k => if p then some 20 else theorboref02_event.j1 k (j : Int) (decide (e.f2 = true ∧ ((j : Int) = 0 ∨ (e.f3.length : Int) > 0))) l0 l1 l2 e.f0 e.f1.f0 e.f1.f1 e.f1.f2 e.f2 e.f3) (fun k => ?_) (Ev.ite (fun _ => Ev.now _) fun _ => s1 _)
    simp only [theorboref02_event.j0, decide_eq_true_eq]
    by_cases hp' : p
    · rw [if_pos hp', if_pos hp']
    rw [if_neg hp', if_neg hp']
    by_cases a : e.f2 = true
    · rw [if_pos a]
      by_cases b : (e.f3.length : Int) > 0
      · rw [if_pos b, decide_eq_true (show e.f2 = true ∧ ((j : Int) = 0 ∨ (e.f3.length : Int) > 0) from ⟨a, .inr b⟩)]
      · rw [if_neg b]
        by_cases c : (j : Int) = 0
        · rw [decide_eq_true (show e.f2 = true ∧ ((j : Int) = 0 ∨ (e.f3.length : Int) > 0) from ⟨a, .inl c⟩), beq_iff_eq.2 c]
        · rw [decide_eq_false (show ¬ (e.f2 = true ∧ ((j : Int) = 0 ∨ (e.f3.length : Int) > 0)) from fun h => h.2.elim c b), beq_eq_false_iff_ne.2 c]
    · rw [if_neg a, decide_eq_false (show ¬ (e.f2 = true ∧ ((j : Int) = 0 ∨ (e.f3.length : Int) > 0)) from fun h => a h.1)]
  unfold evE
  have main : Ev (fun k => theorboref02_event.j0 k (j : Int) (decide (sv e.f1 = false ∨ ((j : Int) = 0 ∧ e.f1.f0 = 0))) l0 l1 l2 e.f0 e.f1.f0 e.f1.f1 e.f1.f2 e.f2 e.f3) _ := s0 _
  refine Ev.congr (fun k => ?_) main
  simp only [theorboref02_event.f]
  rw [if_pos (by omega), if_pos (by omega), rd46 hx, right_ref]
  simp only [Option.bind_some]
  cases sv e.f1 with
  | false => simp
  | true =>
    by_cases a : (j : Int) = 0
    · rw [if_pos rfl, if_pos a]
      congr 1
      by_cases b : e.f1.f0 = 0
      · rw [decide_eq_true (show true = false ∨ (j : Int) = 0 ∧ e.f1.f0 = 0 from .inr ⟨a, b⟩), beq_iff_eq.2 b]
      · rw [decide_eq_false (show ¬ (true = false ∨ (j : Int) = 0 ∧ e.f1.f0 = 0) from fun h => h.elim (fun h => by cases h) fun h => b h.2), beq_eq_false_iff_ne.2 b]
    · rw [if_pos rfl, if_neg a, decide_eq_false (show ¬ (true = false ∨ (j : Int) = 0 ∧ e.f1.f0 = 0) from fun h => h.elim (fun h => by cases h) fun h => a h.1)]
theorem events_ref : ∀ (suf : List S46) (j : Nat), l2.drop j = suf → Ev (fun k => theorboref02_Check.l0 k (j : Int) l0 l1 l2) (evsE l0 l2 suf j)
  | [], j, h => by
    have := drop_nil h
    refine Ev.step (f := fun _ => some 0) (fun k => ?_) (Ev.now _)
    simp only [theorboref02_Check.l0]
    rw [if_neg (by omega)]
  | e :: r, j, h => by
    obtain ⟨hj, hx, hr⟩ := drop_cons h
    have ih := events_ref r (j + 1) hr
    have hv := event_ref l0 l1 l2 h0 h1 h2 hs j e hx
    refine Ev.step (f := fun k => (theorboref02_event.f k l0 l1 l2 (j : Int)).bind fun t => if t = 0 then theorboref02_Check.l0 k ((j + 1 : Nat) : Int) l0 l1 l2 else some t) (fun k => ?_) (Ev.bd hv ?_)
    · simp only [theorboref02_Check.l0]
      rw [if_pos (by omega), next hj (by omega)]
    · unfold evsE
      by_cases a : evE l0 l2 (j : Int) e = 0
      · refine Ev.pos a ?_
        rw [if_pos a]
        exact ih
      · exact Ev.neg a (Ev.some (by rw [if_neg a]))
theorem check_ref : Ev (fun k => theorboref02_Check.f k l0 l1 l2) (chE l0 l1 l2) := by
  unfold chE
  refine Ev.congr (f := fun k => (theorboref01_Check.f k l0 l1).bind fun t => if t = 0 then (if (l2.length : Int) > 400 then some 2 else theorboref02_Check.l0 k ((0 : Nat) : Int) l0 l1 l2) else some t) (fun k => rfl) (Ev.bd (in_ref l0 l1 h0 h1) ?_)
  by_cases a : inE l0 l1 = 0
  · refine Ev.pos a ?_
    rw [if_pos a]
    by_cases b : l2.length > 400
    · rw [if_pos b]; exact Ev.pos (by omega) (Ev.now _)
    · rw [if_neg b]; exact Ev.neg (by omega) (events_ref l0 l1 l2 h0 h1 h2 hs l2 0 (by simp))
  · exact Ev.neg a (Ev.some (by rw [if_neg a]))
end
end Go.Proofs.YtocpcofihlcnoaaGreat.Pure
