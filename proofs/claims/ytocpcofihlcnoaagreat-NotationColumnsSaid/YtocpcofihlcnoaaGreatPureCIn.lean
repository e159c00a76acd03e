/- What a valid piece is: the program's Check and the document's come to the same error; so do the greatest holds. No condition. -/
import Derived.Test.YtocpcofihlcnoaaGreatPNCx
namespace Go.Proofs.YtocpcofihlcnoaaGreat.Pure
open Go.RowKit Go.Proofs.YtocpcofihlcnoaaGreat.PNC Go.Proofs.YtocpcofihlcnoaaGreatW.PrintWords Go.Proofs.YtocpcofihlcnoaaGreatW.PrintLast Go.Proofs.YtocpcofihlcnoaaGreatW.PrintMore
set_option linter.unusedSimpArgs false
set_option linter.unusedVariables false
set_option linter.unusedSectionVars false

theorem wrap_small {i : Int} (h0 : -1000000 ≤ i) (h1 : i ≤ 1000000) : wrap64 i = i := by unfold wrap64; omega
theorem drop_cons {α : Type} {l : List α} {j : Nat} {x : α} {r : List α} (h : l.drop j = x :: r) : j < l.length ∧ l[j]? = some x ∧ l.drop (j + 1) = r := by
  have hj : j < l.length := by
    rcases Nat.lt_or_ge j l.length with h' | h'
    · exact h'
    · rw [List.drop_eq_nil_of_le h'] at h; cases h
  rw [List.drop_eq_getElem_cons hj] at h
  injection h with h1 h2
  exact ⟨hj, by rw [List.getElem?_eq_getElem hj, h1], h2⟩
theorem drop_nil {α : Type} {l : List α} {j : Nat} (h : l.drop j = []) : l.length ≤ j := List.drop_eq_nil_iff.1 h
theorem rd_at {l : List Int} {j : Nat} {x : Int} (h : l[j]? = some x) : rd l (j : Int) = x := by simp [rd, h]
theorem rd46 {l : List S46} {j : Nat} {x : S46} (h : l[j]? = some x) : rd_T46 l (j : Int) = x := by simp [rd_T46, h]
theorem rd99 {l : List S99} {j : Nat} {x : S99} (h : l[j]? = some x) : rd_T99 l (j : Int) = x := by simp [rd_T99, h]
theorem rd54 {l : List S54} {j : Nat} {x : S54} (h : l[j]? = some x) : rd_T54 l (j : Int) = x := by simp [rd_T54, h]
theorem next {j n : Nat} (h : j < n) (hn : n ≤ 100000) : wrap64 ((j : Int) + 1) = ((j + 1 : Nat) : Int) := by unfold wrap64; omega
theorem Ev.some {α : Type} {r r' : α} (h : r = r') : Ev (fun _ => some r) r' := h ▸ Ev.now r
theorem Ev.pos {α : Type} {c : Prop} [Decidable c] {g f : Nat → Option α} {r : α} (h : c) (k : Ev g r) : Ev (fun n => if c then g n else f n) r := Ev.congr (fun n => if_pos h) k
theorem Ev.neg {α : Type} {c : Prop} [Decidable c] {g f : Nat → Option α} {r : α} (h : ¬ c) (k : Ev f r) : Ev (fun n => if c then g n else f n) r := Ev.congr (fun n => if_neg h) k
theorem Ev.ite {α : Type} {c : Prop} [Decidable c] {g f : Nat → Option α} {r r' : α} (h1 : c → Ev g r) (h2 : ¬ c → Ev f r') : Ev (fun n => if c then g n else f n) (if c then r else r') := by
  by_cases h : c
  · rw [if_pos h]; exact Ev.pos h (h1 h)
  · rw [if_neg h]; exact Ev.neg h (h2 h)
theorem Ev.at {α : Type} {g : Nat → Option α} {r : α} {o : Option α} (h : o = Option.some r) : Ev (fun _ => o) r := ⟨0, fun _ _ => h⟩

/-! ### instruments -/
def stepsB : List Int → Int → Bool
  | [], _ => true
  | x :: r, last => if x ≤ last then false else if x > 127 then false else stepsB r x
def high (l1 : List Int) (c : S99) : Int := if c.f2 = true then wrap64 ((if c.f1 > 0 then wrap64 (c.f0 + rd l1 (c.f1 - 1)) else c.f0) + 12) else (if c.f1 > 0 then wrap64 (c.f0 + rd l1 (c.f1 - 1)) else c.f0)
def courseE (l1 : List Int) (c : S99) : Int := if c.f1 < 0 ∨ c.f1 > (l1.length : Int) then 13 else if c.f0 < 0 ∨ c.f0 > 127 ∨ high l1 c > 127 then 10 else 0
def coursesE (l1 : List Int) : List S99 → Int
  | [] => 0
  | c :: r => if courseE l1 c = 0 then coursesE l1 r else courseE l1 c
def inE (l0 : List S99) (l1 : List Int) : Int := if l0.length > 14 ∨ l1.length > 18 then 2 else if l0.length = 0 then 11 else if stepsB l1 0 = true then coursesE l1 l0 else 11
section
variable (l0 : List S99) (l1 : List Int) (h0 : l0.length ≤ 64) (h1 : l1.length ≤ 64)
include h0 h1
theorem high_ok (c : S99) (a : 0 ≤ c.f1) (b : c.f1 ≤ (l1.length : Int)) : instrument_highest.f l0 l1 c.f0 c.f1 c.f2 = some (high l1 c) := by
  unfold instrument_highest.f high
  by_cases h : c.f1 > 0
  · rw [wrap_small (by omega) (by omega), if_pos h, if_pos (by omega), if_pos (by omega)]
    by_cases h' : c.f2 = true
    · simp [h', h]
    · simp [h', h]
  · simp only [if_neg h]
    by_cases h' : c.f2 = true
    · simp [h']
    · simp [h']
theorem courses_impl : ∀ (suf : List S99) (j : Nat), l0.drop j = suf → Ev (fun k => instrument_Check.l1 k l0 (l0.length : Int) (j : Int) l0 l1) (coursesE l1 suf)
  | [], j, h => by
    have := drop_nil h
    refine Ev.step (f := fun _ => some 0) (fun k => ?_) (Ev.now _)
    simp only [instrument_Check.l1]
    rw [if_neg (by omega)]
  | c :: r, j, h => by
    obtain ⟨hj, hx, hr⟩ := drop_cons h
    have ih := courses_impl r (j + 1) hr
    have s3 : ∀ b : Bool, (b = false → 0 ≤ c.f1 ∧ c.f1 ≤ (l1.length : Int)) → Ev (fun k => instrument_Check.j3 k l0 (l0.length : Int) (j : Int) b l0 l1 c.f0 c.f1 c.f2) (if b = true then 13 else if c.f0 < 0 ∨ c.f0 > 127 ∨ high l1 c > 127 then 10 else coursesE l1 r) := by
      intro b hb
      by_cases b' : b = true
      · refine Ev.step (f := fun _ => some 13) (fun k => ?_) (Ev.some (by simp [b']))
        simp [instrument_Check.j3, b']
      · have hb := hb (by simpa using b')
        refine Ev.step (f := fun k => if c.f0 < 0 then some 10 else if c.f0 > 127 then some 10 else if high l1 c > 127 then some 10 else instrument_Check.l1 k l0 (l0.length : Int) ((j + 1 : Nat) : Int) l0 l1) (fun k => ?_) ?_
        · simp only [instrument_Check.j3]
          rw [if_neg b', high_ok l0 l1 h0 h1 c hb.1 hb.2, next hj (by omega)]
          simp only [Option.bind_some]
        · rw [if_neg b']
          by_cases p : c.f0 < 0
          · exact Ev.pos p (Ev.some (by simp [p]))
          refine Ev.neg p ?_
          by_cases q : c.f0 > 127
          · exact Ev.pos q (Ev.some (by simp [q]))
          refine Ev.neg q ?_
          by_cases t : high l1 c > 127
          · exact Ev.pos t (Ev.some (by simp [t]))
          refine Ev.neg t ?_
          rw [if_neg (by omega)]
          exact ih
    unfold coursesE courseE
    refine Ev.step (f := fun k => if c.f1 < 0 then instrument_Check.j3 k l0 (l0.length : Int) (j : Int) true l0 l1 c.f0 c.f1 c.f2 else instrument_Check.j3 k l0 (l0.length : Int) (j : Int) (decide (c.f1 > (l1.length : Int))) l0 l1 c.f0 c.f1 c.f2) (fun k => ?_) ?_
    · simp only [instrument_Check.l1]
      rw [if_pos (by omega), if_pos (by omega), if_pos (by omega), rd99 hx]
    · by_cases a : c.f1 < 0
      · refine Ev.pos a ?_
        have := s3 true (by simp)
        simpa [a] using this
      · refine Ev.neg a ?_
        by_cases b : c.f1 > (l1.length : Int)
        · have := s3 true (by simp)
          simpa [a, b] using this
        · have := s3 false (fun _ => by omega)
          have e : decide (c.f1 > (l1.length : Int)) = false := by simp; omega
          rw [e]
          rw [if_neg (by simp)] at this
          rw [if_neg (show ¬ (c.f1 < 0 ∨ c.f1 > (l1.length : Int)) by omega)]
          by_cases q : c.f0 < 0 ∨ c.f0 > 127 ∨ high l1 c > 127
          · rw [if_pos q] at this ⊢
            simpa using this
          · rw [if_neg q] at this ⊢
            simpa using this
theorem steps_impl : ∀ (suf : List Int) (j : Nat) (last : Int), l1.drop j = suf → Ev (fun k => instrument_Check.l0 k last l1 (l1.length : Int) (j : Int) l0 l1) (if stepsB suf last = true then coursesE l1 l0 else 11)
  | [], j, last, h => by
    have := drop_nil h
    refine Ev.step (f := fun k => instrument_Check.l1 k l0 (l0.length : Int) ((0 : Nat) : Int) l0 l1) (fun k => ?_) ?_
    · simp only [instrument_Check.l0]
      rw [if_neg (by omega)]
      rfl
    · simp only [stepsB, if_true]
      exact courses_impl l0 l1 h0 h1 l0 0 (by simp)
  | x :: r, j, last, h => by
    obtain ⟨hj, hx, hr⟩ := drop_cons h
    have ih := steps_impl r (j + 1) x hr
    refine Ev.step (f := fun k => if x ≤ last then some 11 else if x > 127 then some 11 else instrument_Check.l0 k x l1 (l1.length : Int) ((j + 1 : Nat) : Int) l0 l1) (fun k => ?_) ?_
    · simp only [instrument_Check.l0]
      rw [if_pos (by omega), if_pos (by omega), if_pos (by omega), rd_at hx, next hj (by omega)]
    · unfold stepsB
      by_cases a : x ≤ last
      · simp only [a, if_true]; exact Ev.some (by simp)
      · by_cases b : x > 127
        · simp only [a, b, if_true, if_false]; exact Ev.some (by simp)
        · simp only [a, b, if_false]; exact ih
theorem in_impl : Ev (fun k => instrument_Check.f k l0 l1) (inE l0 l1) := by
  have st : ∀ b : Bool, Ev (fun k => instrument_Check.j0 k b l0 l1) (if b = true then 2 else if l0.length = 0 then 11 else if stepsB l1 0 = true then coursesE l1 l0 else 11) := by
    intro b
    refine Ev.step (f := fun k => if b = true then some 2 else if l0.length = 0 then some 11 else instrument_Check.l0 k 0 l1 (l1.length : Int) ((0 : Nat) : Int) l0 l1) (fun k => ?_) ?_
    · simp only [instrument_Check.j0]
      by_cases h : l0.length = 0
      · simp [h]
      · rw [if_neg (show ¬ ((l0.length : Int) = 0) by omega), if_neg h]; rfl
    · exact Ev.ite (fun _ => Ev.now _) fun _ => Ev.ite (fun _ => Ev.now _) fun _ => steps_impl l0 l1 h0 h1 l1 0 0 (by simp)
  unfold inE
  by_cases a : l0.length > 14
  · refine Ev.congr (f := fun k => instrument_Check.j0 k true l0 l1) (fun k => ?_) (by have := st true; simpa [a] using this)
    simp only [instrument_Check.f]
    rw [if_pos (by omega)]
  · refine Ev.congr (f := fun k => instrument_Check.j0 k (decide ((l1.length : Int) > 18)) l0 l1) (fun k => ?_) ?_
    · simp only [instrument_Check.f]
      rw [if_neg (by omega)]
    · have := st (decide ((l1.length : Int) > 18))
      by_cases b : l1.length > 18
      · have e : decide ((l1.length : Int) > 18) = true := by simp; omega
        rw [e] at this ⊢
        simpa [b] using this
      · have e : decide ((l1.length : Int) > 18) = false := by simp; omega
        rw [e] at this ⊢
        simpa [a, b] using this
theorem courses_ref : ∀ (suf : List S99) (j : Nat), l0.drop j = suf → Ev (fun k => theorboref01_Check.l1 k (j : Int) l0 l1) (coursesE l1 suf)
  | [], j, h => by
    have := drop_nil h
    refine Ev.step (f := fun _ => some 0) (fun k => ?_) (Ev.now _)
    simp only [theorboref01_Check.l1]
    rw [if_neg (by omega)]
  | c :: r, j, h => by
    obtain ⟨hj, hx, hr⟩ := drop_cons h
    have ih := courses_ref r (j + 1) hr
    have s5 : ∀ p : Int, Ev (fun k => theorboref01_Check.j5 k (j : Int) p l0 l1 c.f0 c.f1 c.f2) (if (if c.f2 = true then wrap64 (p + 12) else p) > 127 then 10 else coursesE l1 r) := by
      intro p
      refine Ev.step (f := fun k => if (if c.f2 = true then wrap64 (p + 12) else p) > 127 then some 10 else theorboref01_Check.l1 k ((j + 1 : Nat) : Int) l0 l1) (fun k => ?_) (Ev.ite (fun _ => Ev.now _) fun _ => ih)
      simp only [theorboref01_Check.j5]
      rw [next hj (by omega)]
      by_cases h' : c.f2 = true
      · simp [h']
      · simp [h']
    have s4 : ∀ b : Bool, (b = false → 0 ≤ c.f1 ∧ c.f1 ≤ (l1.length : Int)) → Ev (fun k => theorboref01_Check.j4 k (j : Int) b l0 l1 c.f0 c.f1 c.f2) (if b = true then 10 else if high l1 c > 127 then 10 else coursesE l1 r) := by
      intro b hb
      by_cases b' : b = true
      · refine Ev.step (f := fun _ => some 10) (fun k => ?_) (Ev.some (by simp [b']))
        simp [theorboref01_Check.j4, b']
      · have hb := hb (by simpa using b')
        refine Ev.step (f := fun k => theorboref01_Check.j5 k (j : Int) (if c.f1 > 0 then wrap64 (c.f0 + rd l1 (c.f1 - 1)) else c.f0) l0 l1 c.f0 c.f1 c.f2) (fun k => ?_) ?_
        · simp only [theorboref01_Check.j4]
          rw [if_neg b']
          by_cases a : c.f1 > 0
          · rw [if_pos a, wrap_small (i := c.f1 - 1) (by omega) (by omega), if_pos (by omega), if_pos (by omega), if_pos a]
          · rw [if_neg a, if_neg a]
        · have := s5 (if c.f1 > 0 then wrap64 (c.f0 + rd l1 (c.f1 - 1)) else c.f0)
          rw [if_neg b']
          exact this
    have s3 : ∀ b : Bool, (b = false → 0 ≤ c.f1 ∧ c.f1 ≤ (l1.length : Int)) → Ev (fun k => theorboref01_Check.j3 k (j : Int) b l0 l1 c.f0 c.f1 c.f2) (if b = true then 13 else if c.f0 < 0 ∨ c.f0 > 127 ∨ high l1 c > 127 then 10 else coursesE l1 r) := by
      intro b hb
      by_cases b' : b = true
      · refine Ev.step (f := fun _ => some 13) (fun k => ?_) (Ev.some (by simp [b']))
        simp [theorboref01_Check.j3, b']
      · have hb := hb (by simpa using b')
        refine Ev.step (f := fun k => if c.f0 < 0 then theorboref01_Check.j4 k (j : Int) true l0 l1 c.f0 c.f1 c.f2 else theorboref01_Check.j4 k (j : Int) (decide (c.f0 > 127)) l0 l1 c.f0 c.f1 c.f2) (fun k => ?_) ?_
        · simp only [theorboref01_Check.j3]
          rw [if_neg b']
        · rw [if_neg b']
          by_cases a : c.f0 < 0
          · refine Ev.pos a ?_
            have := s4 true (by simp)
            simpa [a] using this
          · refine Ev.neg a ?_
            have := s4 (decide (c.f0 > 127)) (fun _ => hb)
            by_cases a' : c.f0 > 127
            · simpa [a'] using this
            · have e : decide (c.f0 > 127) = false := by simp; omega
              rw [e] at this ⊢
              rw [if_neg (by simp)] at this
              simpa [a, a'] using this
    unfold coursesE courseE
    refine Ev.step (f := fun k => if c.f1 < 0 then theorboref01_Check.j3 k (j : Int) true l0 l1 c.f0 c.f1 c.f2 else theorboref01_Check.j3 k (j : Int) (decide (c.f1 > (l1.length : Int))) l0 l1 c.f0 c.f1 c.f2) (fun k => ?_) ?_
    · simp only [theorboref01_Check.l1]
      rw [if_pos (by omega), if_pos (by omega), rd99 hx]
    · by_cases a : c.f1 < 0
      · refine Ev.pos a ?_
        have := s3 true (by simp)
        simpa [a] using this
      · refine Ev.neg a ?_
        by_cases b : c.f1 > (l1.length : Int)
        · have := s3 true (by simp)
          simpa [a, b] using this
        · have := s3 false (fun _ => by omega)
          have e : decide (c.f1 > (l1.length : Int)) = false := by simp; omega
          rw [e]
          rw [if_neg (by simp)] at this
          rw [if_neg (show ¬ (c.f1 < 0 ∨ c.f1 > (l1.length : Int)) by omega)]
          by_cases q : c.f0 < 0 ∨ c.f0 > 127 ∨ high l1 c > 127
          · rw [if_pos q] at this ⊢
            simpa using this
          · rw [if_neg q] at this ⊢
            simpa using this
theorem steps_ref : ∀ (suf : List Int) (j : Nat) (last : Int), l1.drop j = suf → Ev (fun k => theorboref01_Check.l0 k last (j : Int) l0 l1) (if stepsB suf last = true then coursesE l1 l0 else 11)
  | [], j, last, h => by
    have := drop_nil h
    refine Ev.step (f := fun k => theorboref01_Check.l1 k ((0 : Nat) : Int) l0 l1) (fun k => ?_) ?_
    · simp only [theorboref01_Check.l0]
      rw [if_neg (by omega)]
      rfl
    · simp only [stepsB, if_true]
      exact courses_ref l0 l1 h0 h1 l0 0 (by simp)
  | x :: r, j, last, h => by
    obtain ⟨hj, hx, hr⟩ := drop_cons h
    have ih := steps_ref r (j + 1) x hr
    refine Ev.step (f := fun k => if x ≤ last then some 11 else if x > 127 then some 11 else theorboref01_Check.l0 k x ((j + 1 : Nat) : Int) l0 l1) (fun k => ?_) ?_
    · simp only [theorboref01_Check.l0]
      rw [if_pos (by omega), if_pos (by omega), rd_at hx, next hj (by omega)]
    · unfold stepsB
      by_cases a : x ≤ last
      · simp only [a, if_true]; exact Ev.some (by simp)
      · by_cases b : x > 127
        · simp only [a, b, if_true, if_false]; exact Ev.some (by simp)
        · simp only [a, b, if_false]; exact ih
theorem in_ref : Ev (fun k => theorboref01_Check.f k l0 l1) (inE l0 l1) := by
  have st : ∀ b : Bool, Ev (fun k => theorboref01_Check.j0 k b l0 l1) (if b = true then 2 else if l0.length = 0 then 11 else if stepsB l1 0 = true then coursesE l1 l0 else 11) := by
    intro b
    refine Ev.step (f := fun k => if b = true then some 2 else if l0.length = 0 then some 11 else theorboref01_Check.l0 k 0 ((0 : Nat) : Int) l0 l1) (fun k => ?_) ?_
    · simp only [theorboref01_Check.j0]
      by_cases h : l0.length = 0
      · simp [h]
      · rw [if_neg (show ¬ ((l0.length : Int) = 0) by omega), if_neg h]; rfl
    · exact Ev.ite (fun _ => Ev.now _) fun _ => Ev.ite (fun _ => Ev.now _) fun _ => steps_ref l0 l1 h0 h1 l1 0 0 (by simp)
  unfold inE
  by_cases a : l0.length > 14
  · refine Ev.congr (f := fun k => theorboref01_Check.j0 k true l0 l1) (fun k => ?_) (by have := st true; simpa [a] using this)
    simp only [theorboref01_Check.f]
    rw [if_pos (by omega)]
  · refine Ev.congr (f := fun k => theorboref01_Check.j0 k (decide ((l1.length : Int) > 18)) l0 l1) (fun k => ?_) ?_
    · simp only [theorboref01_Check.f]
      rw [if_neg (by omega)]
    · have := st (decide ((l1.length : Int) > 18))
      by_cases b : l1.length > 18
      · have e : decide ((l1.length : Int) > 18) = true := by simp; omega
        rw [e] at this ⊢
        simpa [b] using this
      · have e : decide ((l1.length : Int) > 18) = false := by simp; omega
        rw [e] at this ⊢
        simpa [a, b] using this
end
end Go.Proofs.YtocpcofihlcnoaaGreat.Pure
