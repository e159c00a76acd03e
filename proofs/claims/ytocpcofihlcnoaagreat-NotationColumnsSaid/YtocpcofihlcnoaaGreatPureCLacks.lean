/- What a system cannot say: the program's Lacks and the document's tell the same list. No condition. -/
import Derived.Test.YtocpcofihlcnoaaGreatPureCFacts
namespace Go.Proofs.YtocpcofihlcnoaaGreat.Pure
open Go.RowKit Go.Proofs.YtocpcofihlcnoaaGreat.PNC Go.Proofs.YtocpcofihlcnoaaGreatW.PrintWords Go.Proofs.YtocpcofihlcnoaaGreatW.PrintLast Go.Proofs.YtocpcofihlcnoaaGreatW.PrintMore
set_option linter.unusedSimpArgs false
set_option linter.unusedVariables false
set_option linter.unusedSectionVars false
/-! ### what is known of a valid piece -/
structure VS (s : S54) : Prop where
  c0 : 1 ≤ s.f0
  c1 : s.f0 ≤ 14
  f0 : 0 ≤ s.f1
  f1 : s.f1 ≤ 18
  r0 : 0 ≤ s.f2
  r1 : s.f2 ≤ 3
  g0 : 0 ≤ s.f3
  g1 : s.f3 ≤ 4
  h0 : 0 ≤ s.f4
  h1 : s.f4 ≤ 15
theorem courses_of {l1 : List Int} : ∀ {l : List S99}, coursesE l1 l = 0 → ∀ c ∈ l, c.f1 ≤ (l1.length : Int)
  | [], _, c, hc => by cases hc
  | a :: r, h, c, hc => by
    unfold coursesE at h
    by_cases e : courseE l1 a = 0
    · rw [if_pos e] at h
      rcases List.mem_cons.1 hc with rfl | hc
      · unfold courseE at e
        by_cases q : c.f1 < 0 ∨ c.f1 > (l1.length : Int)
        · rw [if_pos q] at e; cases e
        · omega
      · exact courses_of h c hc
    · rw [if_neg e] at h; exact absurd h e
theorem stops_of {l0 : List S99} {L : Int → Int} : ∀ {l : List S54} {last : Int}, stopsE l0 L l last = 0 → ∀ s ∈ l, ∃ last, stopE l0 L s last = 0
  | [], _, _, s, hs => by cases hs
  | a :: r, last, h, s, hs => by
    unfold stopsE at h
    by_cases e : stopE l0 L a last = 0
    · rw [if_pos e] at h
      rcases List.mem_cons.1 hs with rfl | hs
      · exact ⟨last, e⟩
      · exact stops_of h s hs
    · rw [if_neg e] at h; exact absurd h e
theorem events_of {l0 : List S99} {l2 : List S46} : ∀ {l : List S46} {i : Nat}, evsE l0 l2 l i = 0 → ∀ e ∈ l, ∃ i : Nat, evE l0 l2 (i : Int) e = 0
  | [], _, _, e, he => by cases he
  | a :: r, i, h, e, he => by
    unfold evsE at h
    by_cases q : evE l0 l2 (i : Int) a = 0
    · rw [if_pos q] at h
      rcases List.mem_cons.1 he with rfl | he
      · exact ⟨i, q⟩
      · exact events_of h e he
    · rw [if_neg q] at h; exact absurd h q
theorem in_of {l0 : List S99} {l1 : List Int} (h : inE l0 l1 = 0) : 1 ≤ l0.length ∧ l0.length ≤ 14 ∧ l1.length ≤ 18 ∧ ∀ c ∈ l0, c.f1 ≤ (l1.length : Int) := by
  unfold inE at h
  by_cases a : l0.length > 14 ∨ l1.length > 18
  · rw [if_pos a] at h; cases h
  rw [if_neg a] at h
  by_cases b : l0.length = 0
  · rw [if_pos b] at h; cases h
  rw [if_neg b] at h
  by_cases c : stepsB l1 0 = true
  · rw [if_pos c] at h
    exact ⟨by omega, by omega, by omega, courses_of h⟩
  · rw [if_neg c] at h; cases h
theorem valid_of {l0 : List S99} {l1 : List Int} {l2 : List S46} (h : chE l0 l1 l2 = 0) : (1 ≤ l0.length ∧ l0.length ≤ 14) ∧ l2.length ≤ 400 ∧ ∀ e ∈ l2, sv e.f1 = true ∧ ∀ s ∈ e.f3, VS s ∧ s.f0 ≤ (l0.length : Int) := by
  unfold chE at h
  by_cases a : inE l0 l1 = 0
  · rw [if_pos a] at h
    obtain ⟨i0, i1, i2, i3⟩ := in_of a
    by_cases b : l2.length > 400
    · rw [if_pos b] at h; cases h
    rw [if_neg b] at h
    refine ⟨⟨i0, i1⟩, by omega, fun e he => ?_⟩
    obtain ⟨i, q⟩ := events_of h e he
    unfold evE at q
    by_cases c : sv e.f1 = false ∨ ((i : Int) = 0 ∧ e.f1.f0 = 0)
    · rw [if_pos c] at q; cases q
    rw [if_neg c] at q
    by_cases d : e.f2 = true ∧ ((i : Int) = 0 ∨ (e.f3.length : Int) > 0)
    · rw [if_pos d] at q; cases q
    rw [if_neg d] at q
    refine ⟨by simpa using fun h => c (.inl h), fun s hs => ?_⟩
    obtain ⟨last, p⟩ := stops_of q s hs
    unfold stopE at p
    by_cases c1 : s.f0 < 1 ∨ s.f0 > (l0.length : Int)
    · rw [if_pos c1] at p; cases p
    rw [if_neg c1] at p
    by_cases c2 : s.f1 < 0 ∨ s.f1 > (rd_T99 l0 (s.f0 - 1)).f1
    · rw [if_pos c2] at p; cases p
    rw [if_neg c2] at p
    by_cases c3 : s.f0 ≤ last
    · rw [if_pos c3] at p; cases p
    rw [if_neg c3] at p
    by_cases c4 : s.f2 < 0 ∨ s.f2 > 3 ∨ s.f3 < 0 ∨ s.f3 > 4
    · rw [if_pos c4] at p; cases p
    rw [if_neg c4] at p
    by_cases c5 : s.f4 < 0 ∨ s.f4 > longS l2 (i : Int) s.f0 ∨ (s.f4 > 0 ∧ s.f1 = 0)
    · rw [if_pos c5] at p; cases p
    have hm : rd_T99 l0 (s.f0 - 1) ∈ l0 := by
      have hlt : (s.f0 - 1).toNat < l0.length := by omega
      unfold rd_T99
      rw [List.getD_eq_getElem?_getD, List.getElem?_eq_getElem hlt]
      exact List.getElem_mem hlt
    have := i3 _ hm
    have := long_le l2 (i : Int) s.f0
    exact ⟨⟨by omega, by omega, by omega, by omega, by omega, by omega, by omega, by omega, by omega, by omega⟩, by omega⟩
  · rw [if_neg a] at h; exact absurd h a
/-! ### the lists -/
def wantsL (t : Int) (s : S54) (l : Int) : List Int := if (symV t s.f0 s.f1).2 = true then (if (rightV t s.f2).2 = true then [] else [2]) ++ (if (graceV t s.f3).2 = true then [] else [3]) ++ (if (holdV t s.f4 l).2 = true then [] else [4]) else [1]
def stopL (t : Int) (l2 : List S46) (i : Int) (s : S54) : List S65 := (wantsL t s (longS l2 i s.f0)).map fun w => ⟨i, s.f0, w⟩
def evL (t : Int) (l2 : List S46) (i : Int) (e : S46) : List S65 :=
  (if t = 4 ∧ e.f1.f2 = true then [⟨i, 0, 5⟩] else []) ++ (if t = 4 ∧ e.f1.f0 = 0 then [⟨i, 0, 6⟩] else []) ++ (if t = 4 ∧ e.f2 = true then [⟨i, 0, 7⟩] else []) ++ (if t = 3 ∧ rst e = true then [⟨i, 0, 8⟩] else []) ++ e.f3.flatMap (stopL t l2 i)
def allL (t : Int) (l2 : List S46) : List S46 → Nat → List S65
  | [], _ => []
  | e :: r, i => evL t l2 (i : Int) e ++ allL t l2 r (i + 1)
theorem wantsL_le (t : Int) (s : S54) (l : Int) : (wantsL t s l).length ≤ 3 := by
  unfold wantsL
  split
  · split <;> split <;> split <;> simp
  · simp
theorem stopL_le (t : Int) (l2 : List S46) (i : Int) (s : S54) : (stopL t l2 i s).length ≤ 3 := by unfold stopL; rw [List.length_map]; exact wantsL_le ..
theorem stopsL_le (t : Int) (l2 : List S46) (i : Int) : ∀ l : List S54, (l.flatMap (stopL t l2 i)).length ≤ 3 * l.length
  | [] => by simp
  | s :: r => by
    have := stopL_le t l2 i s
    have := stopsL_le t l2 i r
    rw [List.flatMap_cons, List.length_append, List.length_cons]
    omega
theorem evL_le (t : Int) (l2 : List S46) (i : Int) (e : S46) (he : e.f3.length ≤ 20) : (evL t l2 i e).length ≤ 64 := by
  have := stopsL_le t l2 i e.f3
  have q : ∀ (p : Prop) [Decidable p] (x : S65), (if p then [x] else []).length ≤ 1 := by intro p _ x; split <;> simp
  have q1 := q (t = 4 ∧ e.f1.f2 = true) ⟨i, 0, 5⟩
  have q2 := q (t = 4 ∧ e.f1.f0 = 0) ⟨i, 0, 6⟩
  have q3 := q (t = 4 ∧ e.f2 = true) ⟨i, 0, 7⟩
  have q4 := q (t = 3 ∧ rst e = true) ⟨i, 0, 8⟩
  unfold evL
  simp only [List.length_append]
  omega
theorem sym_ev {t c f : Int} (t0 : 1 ≤ t) (t1 : t ≤ 4) (c0 : 1 ≤ c) (c1 : c ≤ 14) (f0 : 0 ≤ f) (f1 : f ≤ 18) : Ev (fun k => dyn_notation_symbol.f k t c f) (symV t c f) := by
  obtain ⟨s', a1, _⟩ := sym_facts t0 t1 c0 c1 f0 f1
  exact Ev.of (fun k => dyn_notation_symbol.mono t c f k) a1
theorem wants_ev {t : Int} (t0 : 1 ≤ t) (t1 : t ≤ 4) {s : S54} (v : VS s) {l : Int} (l0 : 0 ≤ l) (l1 : l ≤ 15) : Ev (fun k => theorboref03_Wants.f k t s.f0 s.f1 s.f2 s.f3 s.f4 l) (wantsL t s l) := by
  unfold wantsL
  by_cases h : (symV t s.f0 s.f1).2 = true
  · rw [if_pos h]
    exact ⟨30, fun k hk => wants_ref t0 t1 v.c0 v.c1 v.f0 v.f1 v.r0 v.r1 v.g0 v.g1 v.h0 v.h1 l0 l1 h k hk⟩
  · rw [if_neg h]
    refine ⟨30, fun k hk => ?_⟩
    obtain ⟨s', a1, _, a3⟩ := ref_symbol_at t0 t1 v.c0 v.c1 v.f0 v.f1 k (by omega)
    have e : s'.data.toList = [] := a3 (by simpa using h)
    show theorboref03_Wants.f k t s.f0 s.f1 s.f2 s.f3 s.f4 l = some [1]
    unfold theorboref03_Wants.f
    rw [a1]
    simp only [Option.bind_some]
    rw [if_pos (ba_ne.2 e)]
section
variable (l0 : List S99) (l1 : List Int) (l2 : List S46) (h0 : l0.length ≤ 64) (h1 : l1.length ≤ 64) (h2 : l2.length ≤ 420) (hs : ∀ e ∈ l2, e.f3.length ≤ 20) (t : Int) (t0 : 1 ≤ t) (t1 : t ≤ 4)
include h0 h1 h2 hs t0 t1
/-! ### the program's -/
omit h0 h1 h2 hs t0 t1 in
theorem say_eq (xs : List S65) (ok : Bool) (i c w : Int) (hx : xs.length ≤ 1000000) : notation_lacks.say xs ok i c w = some (xs ++ if ok = true then [] else [⟨i, c, w⟩]) := by
  unfold notation_lacks.say
  cases ok with
  | true => simp
  | false => simp; omega
theorem round_impl (i : Int) (s : S54) (v : VS s) (xs : List S65) (hx : xs.length ≤ 100000) : Ev (fun k => notation_lacks.round k t l0 l1 l2 i s xs) (xs ++ stopL t l2 i s) := by
  have hS := sym_ev t0 t1 v.c0 v.c1 v.f0 v.f1
  have hL := long_impl l0 l1 l2 h2 hs i s.f0
  have hl := long_le l2 i s.f0
  obtain ⟨_, r1, _⟩ := right_facts t0 t1 v.r0 v.r1
  obtain ⟨_, g1, _⟩ := grace_facts t0 t1 v.g0 v.g1
  obtain ⟨_, q1, _⟩ := hold_facts t0 t1 v.h0 v.h1 hl.1 hl.2
  unfold stopL wantsL
  refine Ev.bd hS ?_
  by_cases h : (symV t s.f0 s.f1).2 = true
  · refine Ev.pos h ?_
    rw [if_pos h]
    refine Ev.congr (f := fun k => (piece_Longest.f k l0 l1 l2 i s.f0).bind fun n => (dyn_notation_hold.f t s.f4 n).bind fun u => notation_lacks.say ((xs ++ if (rightV t s.f2).2 = true then [] else [⟨i, s.f0, 2⟩]) ++ if (graceV t s.f3).2 = true then [] else [⟨i, s.f0, 3⟩]) u.2 i s.f0 4) (fun k => ?_) (Ev.bd hL ?_)
    · rw [r1]
      simp only [Option.bind_some]
      rw [say_eq _ _ _ _ _ (by omega)]
      simp only [Option.bind_some]
      rw [g1]
      simp only [Option.bind_some]
      rw [say_eq _ _ _ _ _ (by rw [List.length_append]; split <;> simp <;> omega)]
      simp only [Option.bind_some]
    · rw [q1]
      simp only [Option.bind_some]
      rw [say_eq _ _ _ _ _ (by rw [List.length_append, List.length_append]; split <;> split <;> simp <;> omega)]
      refine Ev.some ?_
      cases (rightV t s.f2).2 <;> cases (graceV t s.f3).2 <;> cases (holdV t s.f4 (longS l2 i s.f0)).2 <;> simp
  · refine Ev.neg h ?_
    rw [if_neg h, say_eq _ _ _ _ _ (by omega)]
    exact Ev.some (by simp)
theorem rows_impl (i : Int) : ∀ (l : List S54) (xs : List S65), (∀ s ∈ l, VS s) → xs.length + 3 * l.length ≤ 100000 → Ev (fun k => notation_lacks.rows k t l0 l1 l2 i l xs) (xs ++ l.flatMap (stopL t l2 i))
  | [], xs, _, _ => Ev.some (by simp)
  | s :: r, xs, hv, hx => by
    rw [List.length_cons] at hx
    have h := round_impl l0 l1 l2 h0 h1 h2 hs t t0 t1 i s (hv s (by simp)) xs (by omega)
    have ih := rows_impl i r (xs ++ stopL t l2 i s) (fun s hs => hv s (by simp [hs])) (by have := stopL_le t l2 i s; rw [List.length_append]; omega)
    have := Ev.bd (f := fun k x1 => notation_lacks.rows k t l0 l1 l2 i r x1) h ih
    rw [List.flatMap_cons, ← List.append_assoc]
    exact this
omit h0 h1 h2 hs in
theorem look_eq (w i : Int) (xs : List S65) (hx : xs.length ≤ 1000) (b : Bool) (hb : dyn_notation_has.f t w = some b) : notation_lacks.look t w i xs = some (xs ++ if b = true then [] else [⟨i, 0, w⟩]) := by
  unfold notation_lacks.look
  rw [hb]
  simp only [Option.bind_some]
  rw [say_eq _ _ _ _ _ (by omega)]
omit h0 h1 h2 hs in
theorem has_w (w : Int) : dyn_notation_has.f t w = some (if t = 3 then w != 8 else if t = 4 then w == 8 else true) := by
  have : t = 1 ∨ t = 2 ∨ t = 3 ∨ t = 4 := by omega
  rcases this with rfl | rfl | rfl | rfl <;> rfl
theorem lacks_impl (j : Nat) (e : S46) (hx : l2[j]? = some e) (v : sv e.f1 = true) (vs : ∀ s ∈ e.f3, VS s) : Ev (fun k => notation_lacks.f k t l0 l1 l2 (j : Int)) (evL t l2 (j : Int) e) := by
  have hj : j < l2.length := (List.getElem?_eq_some_iff.1 hx).1
  have he := hs e (List.mem_of_getElem? hx)
  have tt : t = 1 ∨ t = 2 ∨ t = 3 ∨ t = 4 := by omega
  have a6 := look_eq t t0 t1 6 (j : Int) [] (by simp) _ (has_w t t0 t1 6)
  have a5 := fun (xs : List S65) (h : xs.length ≤ 1000) => look_eq t t0 t1 5 (j : Int) xs h _ (has_w t t0 t1 5)
  have a7 := fun (xs : List S65) (h : xs.length ≤ 1000) => look_eq t t0 t1 7 (j : Int) xs h _ (has_w t t0 t1 7)
  have a8 := fun (xs : List S65) (h : xs.length ≤ 1000) => look_eq t t0 t1 8 (j : Int) xs h _ (has_w t t0 t1 8)
  have n56 : ¬ (e.f1.f2 = true ∧ e.f1.f0 = 0) := by
    unfold sv at v
    intro h
    rw [if_pos h.2] at v
    simp [h.1] at v
  refine Ev.congr (f := fun k => notation_lacks.rows k t l0 l1 l2 (j : Int) e.f3 ((if t = 4 ∧ e.f1.f2 = true then [⟨(j : Int), 0, 5⟩] else []) ++ (if t = 4 ∧ e.f1.f0 = 0 then [⟨(j : Int), 0, 6⟩] else []) ++ (if t = 4 ∧ e.f2 = true then [⟨(j : Int), 0, 7⟩] else []) ++ (if t = 3 ∧ rst e = true then [⟨(j : Int), 0, 8⟩] else []))) (fun k => ?_) ?_
  · unfold notation_lacks.f
    rw [if_pos (by omega), if_pos (by omega), rd46 hx, if_pos (by omega)]
    have y1 : (if e.f1.f0 = 0 then notation_lacks.look t 6 (j : Int) [] else some []) = some (if t = 4 ∧ e.f1.f0 = 0 then [(⟨(j : Int), 0, 6⟩ : S65)] else []) := by
      rw [a6]
      by_cases p : e.f1.f0 = 0 <;> rcases tt with rfl | rfl | rfl | rfl <;> simp [p]
    have y2 : ∀ xs : List S65, xs.length ≤ 10 → (if e.f1.f2 = true then notation_lacks.look t 5 (j : Int) xs else some xs) = some (xs ++ if t = 4 ∧ e.f1.f2 = true then [(⟨(j : Int), 0, 5⟩ : S65)] else []) := by
      intro xs hx
      rw [a5 xs (by omega)]
      by_cases p : e.f1.f2 = true <;> rcases tt with rfl | rfl | rfl | rfl <;> simp [p]
    have y3 : ∀ xs : List S65, xs.length ≤ 10 → (if e.f2 = true then notation_lacks.look t 7 (j : Int) xs else if e.f3.length = 0 then notation_lacks.look t 8 (j : Int) xs else some xs) = some (xs ++ (if t = 4 ∧ e.f2 = true then [(⟨(j : Int), 0, 7⟩ : S65)] else []) ++ (if t = 3 ∧ rst e = true then [(⟨(j : Int), 0, 8⟩ : S65)] else [])) := by
      intro xs hx
      rw [a7 xs (by omega), a8 xs (by omega)]
      unfold rst
      by_cases p : e.f2 = true <;> by_cases q : e.f3.length = 0 <;> rcases tt with rfl | rfl | rfl | rfl <;> simp [p, q]
    rw [y1]
    simp only [Option.bind_some]
    rw [y2 _ (by split <;> simp)]
    simp only [Option.bind_some]
    rw [y3 _ (by rw [List.length_append]; split <;> split <;> simp)]
    simp only [Option.bind_some]
    congr 1
    by_cases p : e.f1.f2 = true
    · have : ¬ e.f1.f0 = 0 := fun h => n56 ⟨p, h⟩
      simp [this]
    · simp [p]
  · unfold evL
    refine rows_impl l0 l1 l2 h0 h1 h2 hs t t0 t1 (j : Int) e.f3 _ vs ?_
    have q : ∀ (p : Prop) [Decidable p] (x : S65), (if p then [x] else []).length ≤ 1 := by intro p _ x; split <;> simp
    have q1 := q (t = 4 ∧ e.f1.f2 = true) ⟨(j : Int), 0, 5⟩
    have q2 := q (t = 4 ∧ e.f1.f0 = 0) ⟨(j : Int), 0, 6⟩
    have q3 := q (t = 4 ∧ e.f2 = true) ⟨(j : Int), 0, 7⟩
    have q4 := q (t = 3 ∧ rst e = true) ⟨(j : Int), 0, 8⟩
    simp only [List.length_append]
    omega
/-! ### the document's -/
theorem wants_l (i : Nat) (e : S46) (he : e.f3.length ≤ 20) (j : Nat) (s : S54) (hj : e.f3[j]? = some s) (W : List Int) (hW : W.length ≤ 3) (R : List S65) (xs0 : List S65) (hx0 : xs0.length ≤ 1000) (nx : Ev (fun k => theorboref03_lacks.l0 k t (i : Int) (xs0 ++ W.map fun w => ⟨(i : Int), s.f0, w⟩) (wrap64 ((j : Int) + 1)) l0 l1 l2 e.f0 e.f1.f0 e.f1.f1 e.f1.f2 e.f2 e.f3) R) :
    ∀ (suf : List Int) (m : Nat), W.drop m = suf → Ev (fun k => theorboref03_lacks.l1 k t (i : Int) (xs0 ++ (W.take m).map fun w => ⟨(i : Int), s.f0, w⟩) (j : Int) W (m : Int) l0 l1 l2 e.f0 e.f1.f0 e.f1.f1 e.f1.f2 e.f2 e.f3) R
  | [], m, h => by
    have := drop_nil h
    refine Ev.step (f := fun k => theorboref03_lacks.l0 k t (i : Int) (xs0 ++ W.map fun w => ⟨(i : Int), s.f0, w⟩) (wrap64 ((j : Int) + 1)) l0 l1 l2 e.f0 e.f1.f0 e.f1.f1 e.f1.f2 e.f2 e.f3) (fun k => ?_) nx
    simp only [theorboref03_lacks.l1]
    rw [if_neg (by omega), List.take_of_length_le (by omega)]
  | w :: r, m, h => by
    obtain ⟨hm, hw, hr⟩ := drop_cons h
    have hjl : j < e.f3.length := (List.getElem?_eq_some_iff.1 hj).1
    have ih := wants_l i e he j s hj W hW R xs0 hx0 nx r (m + 1) hr
    refine Ev.step (f := fun k => theorboref03_lacks.l1 k t (i : Int) (xs0 ++ (W.take (m + 1)).map fun w => ⟨(i : Int), s.f0, w⟩) (j : Int) W ((m + 1 : Nat) : Int) l0 l1 l2 e.f0 e.f1.f0 e.f1.f1 e.f1.f2 e.f2 e.f3) (fun k => ?_) ih
    simp only [theorboref03_lacks.l1]
    rw [if_pos (by omega), if_pos (by omega), if_pos (by omega), if_pos (by omega), if_pos (by rw [List.length_append, List.length_map, List.length_take]; omega), rd54 hj, rd_at hw, next hm (by omega)]
    rw [List.append_assoc]
    congr 2
    rw [List.take_add_one, hw, List.map_append]
    rfl
theorem stops_l (i : Nat) (e : S46) (he : e.f3.length ≤ 20) (vs : ∀ s ∈ e.f3, VS s) : ∀ (suf : List S54) (j : Nat) (xs : List S65), xs.length ≤ 10 + 3 * j → e.f3.drop j = suf → Ev (fun k => theorboref03_lacks.l0 k t (i : Int) xs (j : Int) l0 l1 l2 e.f0 e.f1.f0 e.f1.f1 e.f1.f2 e.f2 e.f3) (xs ++ suf.flatMap (stopL t l2 (i : Int)))
  | [], j, xs, hx, h => by
    have := drop_nil h
    refine Ev.step (f := fun _ => some xs) (fun k => ?_) (Ev.some (by simp))
    simp only [theorboref03_lacks.l0]
    rw [if_neg (by omega)]
  | s :: r, j, xs, hx, h => by
    obtain ⟨hj, hy, hr⟩ := drop_cons h
    have v := vs s (List.mem_of_getElem? hy)
    have hl := long_le l2 (i : Int) s.f0
    have hL := long_ref l0 l1 l2 h2 hs (i : Int) s.f0
    have hW := wants_ev t0 t1 v hl.1 hl.2
    have hw := wantsL_le t s (longS l2 (i : Int) s.f0)
    have ih := stops_l i e he vs r (j + 1) (xs ++ stopL t l2 (i : Int) s) (by have := stopL_le t l2 (i : Int) s; rw [List.length_append]; omega) hr
    have nx := wants_l l0 l1 l2 h0 h1 h2 hs t t0 t1 i e he j s hy (wantsL t s (longS l2 (i : Int) s.f0)) hw _ xs (by omega) (by rw [next hj (by omega)]; exact ih) _ 0 rfl
    refine Ev.step (f := fun k => (theorboref02_Longest.f k l0 l1 l2 (i : Int) s.f0).bind fun n => (theorboref03_Wants.f k t s.f0 s.f1 s.f2 s.f3 s.f4 n).bind fun W => theorboref03_lacks.l1 k t (i : Int) xs (j : Int) W 0 l0 l1 l2 e.f0 e.f1.f0 e.f1.f1 e.f1.f2 e.f2 e.f3) (fun k => ?_) (Ev.bd hL (Ev.bd hW ?_))
    · simp only [theorboref03_lacks.l0]
      rw [if_pos (by omega), if_pos (by omega), rd54 hy]
    · rw [List.flatMap_cons, ← List.append_assoc]
      simpa using nx
theorem lacks_ref (j : Nat) (e : S46) (hx : l2[j]? = some e) (vs : ∀ s ∈ e.f3, VS s) : Ev (fun k => theorboref03_lacks.f k t l0 l1 l2 (j : Int)) (evL t l2 (j : Int) e) := by
  have hj : j < l2.length := (List.getElem?_eq_some_iff.1 hx).1
  have he := hs e (List.mem_of_getElem? hx)
  have s7 : ∀ xs : List S65, xs.length ≤ 10 → Ev (fun k => theorboref03_lacks.j7 k t (j : Int) xs l0 l1 l2 e.f0 e.f1.f0 e.f1.f1 e.f1.f2 e.f2 e.f3) (xs ++ e.f3.flatMap (stopL t l2 (j : Int))) := fun xs h =>
    Ev.step (f := fun k => theorboref03_lacks.l0 k t (j : Int) xs ((0 : Nat) : Int) l0 l1 l2 e.f0 e.f1.f0 e.f1.f1 e.f1.f2 e.f2 e.f3) (fun k => rfl) (stops_l l0 l1 l2 h0 h1 h2 hs t t0 t1 j e he vs e.f3 0 xs (by omega) (by simp))
  have s6 : ∀ (p : Prop) [Decidable p] (xs : List S65), xs.length ≤ 9 → Ev (fun k => theorboref03_lacks.j6 k t (j : Int) xs (decide p) l0 l1 l2 e.f0 e.f1.f0 e.f1.f1 e.f1.f2 e.f2 e.f3) (xs ++ (if p then [⟨(j : Int), 0, 8⟩] else []) ++ e.f3.flatMap (stopL t l2 (j : Int))) := by
    intro p _ xs h
    refine Ev.step (f := fun k => theorboref03_lacks.j7 k t (j : Int) (xs ++ if p then [⟨(j : Int), 0, 8⟩] else []) l0 l1 l2 e.f0 e.f1.f0 e.f1.f1 e.f1.f2 e.f2 e.f3) (fun k => ?_) (s7 _ (by rw [List.length_append]; split <;> simp <;> omega))
    simp only [theorboref03_lacks.j6, decide_eq_true_eq]
    by_cases q : p
    · rw [if_pos q, if_pos (by omega), if_pos q]
    · rw [if_neg q, if_neg q, List.append_nil]
  have s5 : ∀ (xs : List S65), xs.length ≤ 9 → Ev (fun k => theorboref03_lacks.j5 k t (j : Int) xs l0 l1 l2 e.f0 e.f1.f0 e.f1.f1 e.f1.f2 e.f2 e.f3) (xs ++ (if t = 3 ∧ rst e = true then [⟨(j : Int), 0, 8⟩] else []) ++ e.f3.flatMap (stopL t l2 (j : Int))) := by
    intro xs h
    refine Ev.step (f := fun k => theorboref03_lacks.j6 k t (j : Int) xs (decide (t = 3 ∧ rst e = true)) l0 l1 l2 e.f0 e.f1.f0 e.f1.f1 e.f1.f2 e.f2 e.f3) (fun k => ?_) (s6 _ xs h)
    simp only [theorboref03_lacks.j5]
    by_cases q : t = 3
    · rw [if_pos q, rest_eq]
      simp only [Option.bind_some]
      cases hr : rst e <;> simp [q]
    · rw [if_neg q]
      simp [q]
  have s4 : ∀ (p : Prop) [Decidable p] (xs : List S65), xs.length ≤ 8 → Ev (fun k => theorboref03_lacks.j4 k t (j : Int) xs (decide p) l0 l1 l2 e.f0 e.f1.f0 e.f1.f1 e.f1.f2 e.f2 e.f3) (xs ++ (if p then [⟨(j : Int), 0, 7⟩] else []) ++ (if t = 3 ∧ rst e = true then [⟨(j : Int), 0, 8⟩] else []) ++ e.f3.flatMap (stopL t l2 (j : Int))) := by
    intro p _ xs h
    refine Ev.step (f := fun k => theorboref03_lacks.j5 k t (j : Int) (xs ++ if p then [⟨(j : Int), 0, 7⟩] else []) l0 l1 l2 e.f0 e.f1.f0 e.f1.f1 e.f1.f2 e.f2 e.f3) (fun k => ?_) (s5 _ (by rw [List.length_append]; split <;> simp <;> omega))
    simp only [theorboref03_lacks.j4, decide_eq_true_eq]
    by_cases q : p
    · rw [if_pos q, if_pos (by omega), if_pos q]
    · rw [if_neg q, if_neg q, List.append_nil]
  have s3 : ∀ (xs : List S65), xs.length ≤ 8 → Ev (fun k => theorboref03_lacks.j3 k t (j : Int) xs l0 l1 l2 e.f0 e.f1.f0 e.f1.f1 e.f1.f2 e.f2 e.f3) (xs ++ (if t = 4 ∧ e.f2 = true then [⟨(j : Int), 0, 7⟩] else []) ++ (if t = 3 ∧ rst e = true then [⟨(j : Int), 0, 8⟩] else []) ++ e.f3.flatMap (stopL t l2 (j : Int))) := by
    intro xs h
    refine Ev.step (f := fun k => theorboref03_lacks.j4 k t (j : Int) xs (decide (t = 4 ∧ e.f2 = true)) l0 l1 l2 e.f0 e.f1.f0 e.f1.f1 e.f1.f2 e.f2 e.f3) (fun k => ?_) (s4 _ xs h)
    simp only [theorboref03_lacks.j3]
    by_cases q : t = 4
    · rw [if_pos q]
      cases hr : e.f2 <;> simp [q]
    · rw [if_neg q]
      simp [q]
  have s2 : ∀ (p : Prop) [Decidable p] (xs : List S65), xs.length ≤ 7 → Ev (fun k => theorboref03_lacks.j2 k t (j : Int) xs (decide p) l0 l1 l2 e.f0 e.f1.f0 e.f1.f1 e.f1.f2 e.f2 e.f3) (xs ++ (if p then [⟨(j : Int), 0, 6⟩] else []) ++ (if t = 4 ∧ e.f2 = true then [⟨(j : Int), 0, 7⟩] else []) ++ (if t = 3 ∧ rst e = true then [⟨(j : Int), 0, 8⟩] else []) ++ e.f3.flatMap (stopL t l2 (j : Int))) := by
    intro p _ xs h
    refine Ev.step (f := fun k => theorboref03_lacks.j3 k t (j : Int) (xs ++ if p then [⟨(j : Int), 0, 6⟩] else []) l0 l1 l2 e.f0 e.f1.f0 e.f1.f1 e.f1.f2 e.f2 e.f3) (fun k => ?_) (s3 _ (by rw [List.length_append]; split <;> simp <;> omega))
    simp only [theorboref03_lacks.j2, decide_eq_true_eq]
    by_cases q : p
    · rw [if_pos q, if_pos (by omega), if_pos q]
    · rw [if_neg q, if_neg q, List.append_nil]
  have s1 : ∀ (xs : List S65), xs.length ≤ 7 → Ev (fun k => theorboref03_lacks.j1 k t (j : Int) xs l0 l1 l2 e.f0 e.f1.f0 e.f1.f1 e.f1.f2 e.f2 e.f3) (xs ++ (if t = 4 ∧ e.f1.f0 = 0 then [⟨(j : Int), 0, 6⟩] else []) ++ (if t = 4 ∧ e.f2 = true then [⟨(j : Int), 0, 7⟩] else []) ++ (if t = 3 ∧ rst e = true then [⟨(j : Int), 0, 8⟩] else []) ++ e.f3.flatMap (stopL t l2 (j : Int))) := by
    intro xs h
    refine Ev.step (f := fun k => theorboref03_lacks.j2 k t (j : Int) xs (decide (t = 4 ∧ e.f1.f0 = 0)) l0 l1 l2 e.f0 e.f1.f0 e.f1.f1 e.f1.f2 e.f2 e.f3) (fun k => ?_) (s2 _ xs h)
    simp only [theorboref03_lacks.j1]
    by_cases q : t = 4
    · rw [if_pos q]
      by_cases r : e.f1.f0 = 0
      · rw [beq_iff_eq.2 r, decide_eq_true ⟨q, r⟩]
      · rw [beq_eq_false_iff_ne.2 r, decide_eq_false fun h => r h.2]
    · rw [if_neg q, decide_eq_false fun h => q h.1]
  have s0 : ∀ (p : Prop) [Decidable p] (xs : List S65), xs.length ≤ 6 → Ev (fun k => theorboref03_lacks.j0 k t (j : Int) xs (decide p) l0 l1 l2 e.f0 e.f1.f0 e.f1.f1 e.f1.f2 e.f2 e.f3) (xs ++ (if p then [⟨(j : Int), 0, 5⟩] else []) ++ (if t = 4 ∧ e.f1.f0 = 0 then [⟨(j : Int), 0, 6⟩] else []) ++ (if t = 4 ∧ e.f2 = true then [⟨(j : Int), 0, 7⟩] else []) ++ (if t = 3 ∧ rst e = true then [⟨(j : Int), 0, 8⟩] else []) ++ e.f3.flatMap (stopL t l2 (j : Int))) := by
    intro p _ xs h
    refine Ev.step (f := fun k => theorboref03_lacks.j1 k t (j : Int) (xs ++ if p then [⟨(j : Int), 0, 5⟩] else []) l0 l1 l2 e.f0 e.f1.f0 e.f1.f1 e.f1.f2 e.f2 e.f3) (fun k => ?_) (s1 _ (by rw [List.length_append]; split <;> simp <;> omega))
    simp only [theorboref03_lacks.j0, decide_eq_true_eq]
    by_cases q : p
    · rw [if_pos q, if_pos (by omega), if_pos q]
    · rw [if_neg q, if_neg q, List.append_nil]
  have := s0 (t = 4 ∧ e.f1.f2 = true) [] (by simp)
  rw [List.nil_append] at this
  refine Ev.congr (fun k => ?_) this
  simp only [theorboref03_lacks.f]
  rw [if_pos (by omega), if_pos (by omega), rd46 hx]
  by_cases q : t = 4
  · rw [if_pos q]
    cases hr : e.f1.f2 <;> simp [q]
  · rw [if_neg q, decide_eq_false fun h => q h.1]
end
end Go.Proofs.YtocpcofihlcnoaaGreat.Pure
