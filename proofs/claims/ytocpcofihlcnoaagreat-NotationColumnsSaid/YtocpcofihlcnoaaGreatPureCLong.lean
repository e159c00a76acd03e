/- What a valid piece is: signs, the greatest holds, stops, events: the program's Check and the document's come to the same error. No condition. -/
import Derived.Test.YtocpcofihlcnoaaGreatPureCIn
namespace Go.Proofs.YtocpcofihlcnoaaGreat.Pure
open Go.RowKit Go.Proofs.YtocpcofihlcnoaaGreat.PNC Go.Proofs.YtocpcofihlcnoaaGreatW.PrintWords Go.Proofs.YtocpcofihlcnoaaGreatW.PrintLast Go.Proofs.YtocpcofihlcnoaaGreatW.PrintMore
set_option linter.unusedSimpArgs false
set_option linter.unusedVariables false
set_option linter.unusedSectionVars false
theorem orj {β : Type} (f : Bool → β) (a b : Prop) [Decidable a] [Decidable b] : (if a then f true else f (decide b)) = f (decide (a ∨ b)) := by
  by_cases h : a <;> simp [h]
theorem Ev.bd {α β : Type} {g : Nat → Option α} {f : Nat → α → Option β} {a : α} {r : β} (h : Ev g a) (k : Ev (fun n => f n a) r) : Ev (fun n => (g n).bind (f n)) r := Ev.bind h k
theorem Ev.bs {α β : Type} {o : Option α} {f : Nat → α → Option β} {a : α} {r : β} (h : o = Option.some a) (k : Ev (fun n => f n a) r) : Ev (fun n => o.bind (f n)) r := by
  subst h
  exact k
/-! ### signs -/
def sv (s : S43) : Bool := if s.f0 = 0 then (!s.f1 && !s.f2) else (decide (1 ≤ s.f0) && decide (s.f0 ≤ 7) && !(s.f1 && s.f2))
theorem right_ref (s : S43) : theorboref02_Right.f s.f0 s.f1 s.f2 = some (sv s) := by
  unfold theorboref02_Right.f sv
  by_cases a : s.f0 = 0
  · cases h1 : s.f1 <;> cases h2 : s.f2 <;> simp [a]
  · by_cases b : s.f0 ≥ 1
    · by_cases c : s.f0 ≤ 7
      · cases h1 : s.f1 <;> cases h2 : s.f2 <;> simp [a, b, c]
      · simp [a, b, c]
    · simp [a, b]
theorem ticks_ev (s : S43) : ∃ t, Ev (fun k => piece_Ticks.f k s.f0 s.f1 s.f2) t ∧ (t > 0 ↔ 1 ≤ s.f0 ∧ s.f0 ≤ 7 ∧ ¬ (s.f1 = true ∧ s.f2 = true)) := by
  have st : ∀ b : Bool, (b = false → 1 ≤ s.f0 ∧ s.f0 ≤ 7) → Ev (fun k => piece_Ticks.j0 k b s.f0 s.f1 s.f2) (if b = true then 0 else if s.f1 = true then ((shr .i64 384 (s.f0 - 1)) / 2) * 3 else if s.f2 = true then ((shr .i64 384 (s.f0 - 1)) / 3) * 2 else shr .i64 384 (s.f0 - 1)) := by
    intro b hb
    by_cases b' : b = true
    · refine Ev.step (f := fun _ => some 0) (fun k => ?_) (Ev.some (by simp [b']))
      simp [piece_Ticks.j0, b']
    · have hb := hb (by simpa using b')
      refine Ev.step (f := fun _ => if s.f1 = true then some (((shr .i64 384 (s.f0 - 1)) / 2) * 3) else if s.f2 = true then some (((shr .i64 384 (s.f0 - 1)) / 3) * 2) else some (shr .i64 384 (s.f0 - 1))) (fun k => ?_) ?_
      · simp only [piece_Ticks.j0]
        rw [if_neg b', wrap_small (i := s.f0 - 1) (by omega) (by omega), if_pos (by omega)]
      · rw [if_neg b']
        exact Ev.ite (fun _ => Ev.now _) fun _ => Ev.ite (fun _ => Ev.now _) fun _ => Ev.now _
  have hp : 1 ≤ s.f0 ∧ s.f0 ≤ 7 → (if s.f1 = true then ((shr .i64 384 (s.f0 - 1)) / 2) * 3 else if s.f2 = true then ((shr .i64 384 (s.f0 - 1)) / 3) * 2 else shr .i64 384 (s.f0 - 1)) > 0 := by
    intro h
    have : s.f0 = 1 ∨ s.f0 = 2 ∨ s.f0 = 3 ∨ s.f0 = 4 ∨ s.f0 = 5 ∨ s.f0 = 6 ∨ s.f0 = 7 := by omega
    rcases this with e | e | e | e | e | e | e <;> rw [e] <;> cases s.f1 <;> cases s.f2 <;> decide
  have tt : ∀ b : Bool, (∀ k, piece_Ticks.f k s.f0 s.f1 s.f2 = piece_Ticks.j0 k b s.f0 s.f1 s.f2) → (b = true ↔ ¬ (1 ≤ s.f0 ∧ s.f0 ≤ 7 ∧ ¬ (s.f1 = true ∧ s.f2 = true))) → ∃ t, Ev (fun k => piece_Ticks.f k s.f0 s.f1 s.f2) t ∧ (t > 0 ↔ 1 ≤ s.f0 ∧ s.f0 ≤ 7 ∧ ¬ (s.f1 = true ∧ s.f2 = true)) := by
    intro b h1 h2
    refine ⟨_, Ev.congr h1 (st b fun hb => ?_), ?_⟩
    · have : ¬ b = true := by simp [hb]
      rw [h2] at this
      have := Classical.not_not.1 this
      exact ⟨this.1, this.2.1⟩
    · by_cases b' : b = true
      · rw [if_pos b']
        have := h2.1 b'
        constructor
        · intro h; omega
        · intro h; exact absurd h this
      · rw [if_neg b']
        have q : 1 ≤ s.f0 ∧ s.f0 ≤ 7 ∧ ¬ (s.f1 = true ∧ s.f2 = true) := Classical.not_not.1 fun h => b' (h2.2 h)
        exact ⟨fun _ => q, fun _ => hp ⟨q.1, q.2.1⟩⟩
  by_cases a : s.f0 < 1
  · exact tt true (fun k => by simp only [piece_Ticks.f]; rw [if_pos a]) (by simp; omega)
  by_cases b : s.f0 > 7
  · exact tt true (fun k => by simp only [piece_Ticks.f]; rw [if_neg a, if_pos b]) (by simp; omega)
  by_cases c : s.f1 = true
  · refine tt s.f2 (fun k => by simp only [piece_Ticks.f]; rw [if_neg a, if_neg b, if_pos c]) ?_
    cases s.f2 <;> simp [c] <;> omega
  · exact tt false (fun k => by simp only [piece_Ticks.f]; rw [if_neg a, if_neg b, if_neg c]) (by simp [c]; omega)
theorem valid_impl (s : S43) : Ev (fun k => piece_valid.f k s.f0 s.f1 s.f2) (sv s) := by
  obtain ⟨t, ht, hp⟩ := ticks_ev s
  unfold sv
  by_cases a : (s.f0 == 0 && (!s.f1 && (!s.f2))) = true
  · refine Ev.congr (f := fun _ => some true) (fun k => by simp only [piece_valid.f]; rw [if_pos a]) (Ev.some ?_)
    simp only [Bool.and_eq_true, beq_iff_eq] at a
    simp [a.1, a.2]
  · refine Ev.congr (f := fun k => (piece_Ticks.f k s.f0 s.f1 s.f2).bind fun t => some (decide (t > 0))) (fun k => by simp only [piece_valid.f]; rw [if_neg a]) (Ev.bd ht (Ev.some ?_))
    by_cases z : s.f0 = 0
    · have : ¬ t > 0 := by rw [hp]; omega
      cases h1 : s.f1 <;> cases h2 : s.f2 <;> simp_all
    · by_cases h : t > 0
      · have := hp.1 h
        have q : ¬ (s.f1 = true ∧ s.f2 = true) := this.2.2
        cases h1 : s.f1 <;> cases h2 : s.f2 <;> simp_all
      · have q : ¬ (1 ≤ s.f0 ∧ s.f0 ≤ 7 ∧ ¬ (s.f1 = true ∧ s.f2 = true)) := fun h' => h (hp.2 h')
        rw [if_neg z]
        by_cases u : 1 ≤ s.f0
        · by_cases v : s.f0 ≤ 7
          · cases h1 : s.f1 <;> cases h2 : s.f2 <;> simp_all
          · simp [h, v]
        · simp [h, u]
/-! ### the greatest hold -/
def rst (e : S46) : Bool := if (e.f3.length : Int) = 0 then !e.f2 else false
def has (c : Int) (e : S46) : Bool := e.f3.any fun s => s.f0 == c
def run (c : Int) : Nat → List S46 → Int
  | 0, _ => 0
  | _ + 1, [] => 0
  | m + 1, e :: r => if rst e = true then 0 else if has c e = true then 0 else 1 + run c m r
theorem run_le (c : Int) : ∀ (m : Nat) (l : List S46), 0 ≤ run c m l ∧ run c m l ≤ m
  | 0, _ => by simp [run]
  | m + 1, [] => by simp [run]; omega
  | m + 1, e :: r => by
    have := run_le c m r
    unfold run
    split
    · omega
    · split <;> omega
def longS (l2 : List S46) (i c : Int) : Int := if i < 0 ∨ i ≥ (l2.length : Int) then 0 else run c 15 (l2.drop (i.toNat + 1))
theorem long_le (l2 : List S46) (i c : Int) : 0 ≤ longS l2 i c ∧ longS l2 i c ≤ 15 := by
  unfold longS
  split
  · omega
  · have := run_le c 15 (l2.drop (i.toNat + 1)); omega
theorem isRest_eq (e : S46) : piece_isRest.f e.f0 e.f1.f0 e.f1.f1 e.f1.f2 e.f2 e.f3 = some (rst e) := by
  unfold piece_isRest.f rst
  split <;> rfl
theorem rest_eq (e : S46) : theorboref02_Rest.f e.f0 e.f1.f0 e.f1.f1 e.f1.f2 e.f2 e.f3 = some (rst e) := by
  unfold theorboref02_Rest.f rst
  split <;> rfl
theorem has_l (c : Int) (e : S46) (he : e.f3.length ≤ 20) : ∀ (suf : List S54) (j : Nat), e.f3.drop j = suf → Ev (fun k => theorboref02_Has.l0 k c (j : Int) e.f0 e.f1.f0 e.f1.f1 e.f1.f2 e.f2 e.f3) (suf.any fun s => s.f0 == c)
  | [], j, h => by
    have := drop_nil h
    refine Ev.step (f := fun _ => some false) (fun k => ?_) (Ev.some rfl)
    simp only [theorboref02_Has.l0]
    rw [if_neg (by omega)]
  | s :: r, j, h => by
    obtain ⟨hj, hx, hr⟩ := drop_cons h
    have ih := has_l c e he r (j + 1) hr
    refine Ev.step (f := fun k => if s.f0 = c then some true else theorboref02_Has.l0 k c ((j + 1 : Nat) : Int) e.f0 e.f1.f0 e.f1.f1 e.f1.f2 e.f2 e.f3) (fun k => ?_) ?_
    · simp only [theorboref02_Has.l0]
      rw [if_pos (by omega), if_pos (by omega), rd54 hx, next hj (by omega)]
    · by_cases a : s.f0 = c
      · exact Ev.pos a (Ev.some (by simp [a]))
      · refine Ev.neg a ?_
        rw [List.any_cons, beq_eq_false_iff_ne.2 a, Bool.false_or]
        exact ih
theorem has_ref (c : Int) (e : S46) (he : e.f3.length ≤ 20) : Ev (fun k => theorboref02_Has.f k e.f0 e.f1.f0 e.f1.f1 e.f1.f2 e.f2 e.f3 c) (has c e) := has_l c e he e.f3 0 (by simp)
theorem plucks_eq (c : Int) (e : S46) (he : e.f3.length ≤ 20) : piece_plucks.f e.f0 e.f1.f0 e.f1.f1 e.f1.f2 e.f2 e.f3 c = some (has c e) := by
  unfold piece_plucks.f has
  rw [if_pos (by omega)]
theorem long_impl_l (c : Int) (y : List S46) (hy : y.length ≤ 420) (hs : ∀ e ∈ y, e.f3.length ≤ 20) : ∀ (suf : List S46) (j m : Nat), m ≤ 15 → y.drop j = suf → Ev (fun k => piece_Longest.l0 k c (15 - (m : Int)) y (y.length : Int) (j : Int)) (15 - (m : Int) + run c m suf)
  | [], j, m, hm, h => by
    have := drop_nil h
    refine Ev.step (f := fun _ => some (15 - (m : Int))) (fun k => ?_) (Ev.some ?_)
    · simp only [piece_Longest.l0]
      rw [if_neg (by omega)]
    · cases m <;> simp [run]
  | e :: r, j, m, hm, h => by
    obtain ⟨hj, hx, hr⟩ := drop_cons h
    have he := hs e (List.mem_of_getElem? hx)
    cases m with
    | zero =>
      refine Ev.step (f := fun _ => some 15) (fun k => ?_) (Ev.some (by simp [run]))
      simp only [piece_Longest.l0]
      rw [if_pos (by omega), if_pos (by omega), if_pos (by omega), if_pos (by omega)]
      simp
    | succ m =>
      have ih := long_impl_l c y hy hs r (j + 1) m (by omega) hr
      refine Ev.step (f := fun k => if rst e = true then some (15 - ((m + 1 : Nat) : Int)) else if has c e = true then some (15 - ((m + 1 : Nat) : Int)) else piece_Longest.l0 k c (15 - (m : Int)) y (y.length : Int) ((j + 1 : Nat) : Int)) (fun k => ?_) ?_
      · simp only [piece_Longest.l0]
        rw [if_pos (by omega), if_pos (by omega), if_pos (by omega), if_neg (by omega), rd46 hx, isRest_eq]
        simp only [Option.bind_some]
        rw [plucks_eq c e he]
        simp only [Option.bind_some]
        rw [next hj (by omega), wrap_small (by omega) (by omega)]
        rw [show (15 - ((m + 1 : Nat) : Int) + 1) = 15 - (m : Int) by omega]
      · unfold run
        by_cases a : rst e = true
        · exact Ev.pos a (Ev.some (by simp [a]))
        · refine Ev.neg a ?_
          by_cases b : has c e = true
          · exact Ev.pos b (Ev.some (by simp [a, b]))
          · refine Ev.neg b ?_
            rw [if_neg a, if_neg b, show (15 - ((m + 1 : Nat) : Int) + (1 + run c m r)) = 15 - (m : Int) + run c m r by omega]
            exact ih
theorem long_impl (l0 : List S99) (l1 : List Int) (l2 : List S46) (h2 : l2.length ≤ 420) (hs : ∀ e ∈ l2, e.f3.length ≤ 20) (i c : Int) : Ev (fun k => piece_Longest.f k l0 l1 l2 i c) (longS l2 i c) := by
  refine Ev.congr (f := fun k => piece_Longest.j0 k i c (decide (i < 0 ∨ i ≥ (l2.length : Int))) l0 l1 l2) (fun k => ?_) ?_
  · simp only [piece_Longest.f]
    exact orj (fun b => piece_Longest.j0 k i c b l0 l1 l2) _ _
  · unfold longS
    by_cases a : i < 0 ∨ i ≥ (l2.length : Int)
    · refine Ev.step (f := fun _ => some 0) (fun k => ?_) (Ev.some (by rw [if_pos a]))
      simp [piece_Longest.j0, a]
    · rw [if_neg a]
      refine Ev.step (f := fun k => piece_Longest.l0 k c (15 - ((15 : Nat) : Int)) (l2.drop (i.toNat + 1)) ((l2.drop (i.toNat + 1)).length : Int) ((0 : Nat) : Int)) (fun k => ?_) ?_
      · simp only [piece_Longest.j0]
        rw [if_neg (by simpa using a), wrap_small (i := i + 1) (by omega) (by omega), if_pos (by omega), if_pos (by omega), show (i + 1).toNat = i.toNat + 1 by omega]
        simp
      · have := long_impl_l c (l2.drop (i.toNat + 1)) (by rw [List.length_drop]; omega) (fun e he => hs e (List.mem_of_mem_drop he)) (l2.drop (i.toNat + 1)) 0 15 (by omega) (by simp)
        simpa using this
theorem long_ref_l (l0 : List S99) (l1 : List Int) (l2 : List S46) (h2 : l2.length ≤ 420) (hs : ∀ e ∈ l2, e.f3.length ≤ 20) (i : Nat) (hi : i < l2.length) (c : Int) : ∀ (m h : Nat) (suf : List S46), h + m = 15 → l2.drop (i + h + 1) = suf → Ev (fun k => theorboref02_Longest.l0 k (i : Int) c (h : Int) l0 l1 l2) ((h : Int) + run c m suf)
  | 0, h, suf, hm, hd => by
    refine Ev.step (f := fun k => theorboref02_Longest.j2 k (i : Int) c (h : Int) false l0 l1 l2) (fun k => ?_) (Ev.step (f := fun _ => some (h : Int)) (fun k => ?_) (Ev.some (by simp [run])))
    · simp only [theorboref02_Longest.l0]
      rw [if_neg (by omega)]
    · simp [theorboref02_Longest.j2]
  | m + 1, h, [], hm, hd => by
    have := drop_nil hd
    refine Ev.step (f := fun k => theorboref02_Longest.j2 k (i : Int) c (h : Int) false l0 l1 l2) (fun k => ?_) (Ev.step (f := fun _ => some (h : Int)) (fun k => ?_) (Ev.some (by simp [run])))
    · simp only [theorboref02_Longest.l0]
      rw [if_pos (by omega), wrap_small (i := (i : Int) + h) (by omega) (by omega), wrap_small (by omega) (by omega)]
      rw [decide_eq_false (show ¬ ((i : Int) + h + 1 < (l2.length : Int)) by omega)]
    · simp [theorboref02_Longest.j2]
  | m + 1, h, e :: r, hm, hd => by
    obtain ⟨hj, hx, hr⟩ := drop_cons hd
    have he := hs e (List.mem_of_getElem? hx)
    have ih := long_ref_l l0 l1 l2 h2 hs i hi c m (h + 1) r (by omega) (by rw [← hr]; congr 1)
    have hr' := has_ref c e he
    have e1 : wrap64 (wrap64 ((i : Int) + h) + 1) = ((i + h + 1 : Nat) : Int) := by rw [wrap_small (i := (i : Int) + h) (by omega) (by omega), wrap_small (by omega) (by omega)]; omega
    refine Ev.step (f := fun k => theorboref02_Longest.j2 k (i : Int) c (h : Int) true l0 l1 l2) (fun k => ?_) (Ev.step (f := fun k => if rst e = true then some (h : Int) else (theorboref02_Has.f k e.f0 e.f1.f0 e.f1.f1 e.f1.f2 e.f2 e.f3 c).bind fun t => if t = true then some (h : Int) else theorboref02_Longest.l0 k (i : Int) c ((h + 1 : Nat) : Int) l0 l1 l2) (fun k => ?_) ?_)
    · simp only [theorboref02_Longest.l0]
      rw [if_pos (by omega), e1, show decide (((i + h + 1 : Nat) : Int) < (l2.length : Int)) = true by simp; omega]
    · simp only [theorboref02_Longest.j2, e1]
      rw [if_pos trivial, if_pos (by omega), if_pos (by omega), rd46 hx, rest_eq]
      simp only [Option.bind_some]
      rw [wrap_small (i := (h : Int) + 1) (by omega) (by omega)]
      rfl
    · unfold run
      by_cases a : rst e = true
      · exact Ev.pos a (Ev.some (by simp [a]))
      · refine Ev.neg a (Ev.bd hr' ?_)
        by_cases b : has c e = true
        · exact Ev.pos b (Ev.some (by simp [a, b]))
        · refine Ev.neg b ?_
          rw [if_neg a, if_neg b, show ((h : Int) + (1 + run c m r)) = ((h + 1 : Nat) : Int) + run c m r by omega]
          exact ih
theorem long_ref (l0 : List S99) (l1 : List Int) (l2 : List S46) (h2 : l2.length ≤ 420) (hs : ∀ e ∈ l2, e.f3.length ≤ 20) (i c : Int) : Ev (fun k => theorboref02_Longest.f k l0 l1 l2 i c) (longS l2 i c) := by
  refine Ev.congr (f := fun k => theorboref02_Longest.j0 k i c (decide (i < 0 ∨ i ≥ (l2.length : Int))) l0 l1 l2) (fun k => ?_) ?_
  · simp only [theorboref02_Longest.f]
    exact orj (fun b => theorboref02_Longest.j0 k i c b l0 l1 l2) _ _
  · unfold longS
    by_cases a : i < 0 ∨ i ≥ (l2.length : Int)
    · refine Ev.step (f := fun _ => some 0) (fun k => ?_) (Ev.some (by rw [if_pos a]))
      simp [theorboref02_Longest.j0, a]
    · rw [if_neg a]
      obtain ⟨n, rfl⟩ : ∃ n : Nat, i = n := ⟨i.toNat, by omega⟩
      refine Ev.step (f := fun k => theorboref02_Longest.l0 k (n : Int) c ((0 : Nat) : Int) l0 l1 l2) (fun k => ?_) ?_
      · simp only [theorboref02_Longest.j0]
        rw [if_neg (by simpa using a)]
        rfl
      · have := long_ref_l l0 l1 l2 h2 hs n (by omega) c 15 0 (l2.drop (n + 1)) (by omega) (by simp)
        simpa using this
end Go.Proofs.YtocpcofihlcnoaaGreat.Pure
