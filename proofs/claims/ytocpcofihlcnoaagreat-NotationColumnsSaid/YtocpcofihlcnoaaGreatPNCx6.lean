-- made by xprint.py (ours) out of the translation
import Derived.Test.YtocpcofihlcnoaaGreatPNCx0
import Derived.Test.YtocpcofihlcnoaaGreatPNCx3
import Derived.Test.YtocpcofihlcnoaaGreatPNCx4
import Derived.Test.YtocpcofihlcnoaaGreatPNCx5
namespace Go.Proofs.YtocpcofihlcnoaaGreat.PNC
open Go.RowKit Go.Proofs.YtocpcofihlcnoaaGreatW.PrintWords Go.Proofs.YtocpcofihlcnoaaGreatW.PrintLast Go.Proofs.YtocpcofihlcnoaaGreatW.PrintMore
attribute [local go_sem] max2_int min2_int max_two min_two max_three min_three max_four min_four   -- for this text's walks alone
set_option linter.unusedVariables false
set_option linter.unusedSimpArgs false

/-! ### notation_lacks: function 23, told by hand -/
/-- What is said: nothing, or one lack more. -/
def notation_lacks.say (xs : List S65) (ok : Bool) (ev c what : Int) : Option (List S65) :=
  if ok = true then some xs else if xs.length < 1099511627776 then some (xs ++ [⟨ev, c, what⟩]) else none
/-- What a call of the closure leaves alone. -/
def notation_lacks.Fr (base gO : Nat) (w w' : World) : Prop :=
  Below base w w' ∧ ∀ (g : Nat) (cs : Array Value) (t : Nat), g ≠ gO → t ≠ 65 → w.heap[g]? = some (.cells cs t (0, 0)) → w'.heap[g]? = some (.cells cs t (0, 0))
set_option maxHeartbeats 1600000 in
set_option maxRecDepth 100000 in
theorem notation_lacks.said (ok : Bool) (c what ev : Int) (gO gE base : Nat) (w : World) (v : Value) (xs r : List S65)
    (hO : w.heap[gO]? = some (.cells #[v] 33 (0, 0))) (hE : w.heap[gE]? = some (.cells #[.int .i64 ev] 3 (0, 0)))
    (hR : Kd.R k65 65 w base (fun _ => True) v xs) (hb : base ≤ gO) (h : notation_lacks.say xs ok ev c what = some r) :
    Calls Tryz.prog 38 #[.bool ok, .int .i64 c, .int .i64 what, .pointer (some ⟨gO, 0, none⟩), .pointer (some ⟨gE, 0, none⟩)] w fun e w' => e = .returned (.tuple #[]) ∧
      ∃ v', w'.heap[gO]? = some (.cells #[v'] 33 (0, 0)) ∧ Kd.R k65 65 w' base (fun _ => True) v' r ∧ notation_lacks.Fr base gO w w' := by
  have hcO : w.cell? ⟨gO, 0, none⟩ = some v := (blk_cell hO 0).trans rfl
  have hfO := blk_frozen hO 0
  have hcE : w.cell? ⟨gE, 0, none⟩ = some (.int .i64 ev) := (blk_cell hE 0).trans rfl
  have hu := Tryz.underlying65
  have HO := Aside0.mk hO
  have HR := Aside0.mk hR
  have HB := Aside0.mk hb
  have HLT := Aside0.mk (blk_lt hO)
  unfold notation_lacks.say at h
  cases ok with
  | true =>
    simp only [if_true, Option.some.injEq] at h
    subst h
    clear hO hE hR hb
    go_enter Tryz.func38, Tryz.ntmps38
    go_wp2
    go_end0
    exact ⟨rfl, v, HO.out, HR.out, Below.refl _ _, fun _ _ _ _ _ hh => hh⟩
  | false =>
    by_cases hL : xs.length < 1099511627776
    · simp only [Bool.false_eq_true, if_false, if_pos hL, Option.some.injEq] at h
      subst h
      clear hO hE hR hb
      have HL := Aside0.mk hL
      clear hL
      go_enter Tryz.func38, Tryz.ntmps38
      go_wp2_with (first | ((with_reducible refine gate_builtin (b := .append) (xs := #[.tmp 10, .tmp 15]) rfl ?_); at_builtin; refine Kd.R_append k65 (w0 := w) base rfl (.tmp 10) (.tmp 15) 33 65 (.agg #[(.int .i64 0), (.int .i64 0), (.int .i64 0)]) 24 rfl Tryz.underlying33 info65 rfl (by decide) (by omega) v xs (⟨ev, c, what⟩ : S65) [.int .i64 ev, .int .i64 c, .int .i64 what] (fun _ => True) (fun _ => False) rfl rfl ?aP (fun _ hk => hk.elim) ?aF ?aO ?aB ?aS ?aL ?_; (case aP => exact k65_mkM _ _ _ (⟨ev, c, what⟩ : S65)); (case aF => exact (fun _ _ => trivial)); (case aO => exact HR.out); (case aB => exact Below.refl _ _); (case aS => exact Nat.le_trans HB.out (Nat.le_of_lt HLT.out)); (case aL => have := HL.out; omega); intro v1 w1 ho hb1 hg hat; obtain ⟨A1, c1, rfl⟩ := Kd.R_slice ho; have N1 := Aside0.mk (blk_grown HO.out hg (Kd.R_ne HR.out HO.out (by decide))); have N2 := Aside0.mk hb1; have N3 := Aside0.mk ho; have N4 := Aside0.mk hg; clear hcO hfO hcE ho hb1 hg hat; have hfO := blk_frozen N1.out 0; have hcO : w1.cell? ⟨gO, 0, none⟩ = some v := (blk_cell N1.out 0).trans rfl))
      go_end0
      have hf : ∀ k, (True ∧ k ≠ gO) → k ≠ gO := fun _ h => h.2
      have h9 := Kd.R_mono (ok' := fun _ => True) (Kd.R_far (p := ⟨gO, 0, none⟩) (Kd.R_types N3.out N1.out (by decide)) hf (.slice A1 (xs ++ [(⟨ev, c, what⟩ : S65)]).length c1)) (fun _ _ => trivial)
      simp only [List.length_append, List.length_cons, List.length_nil, Nat.zero_add] at h9
      refine ⟨rfl, _, blk_set N1.out 0 _, h9, N2.out.setCell HB.out _, ?_⟩
      intro g cs t hne ht hg
      have h1 := blk_grown hg N4.out (Kd.R_ne HR.out hg (fun e => ht e.symm))
      exact blk_far h1 hne _
    · simp only [Bool.false_eq_true, if_false, if_neg hL] at h
      exact absurd h (by simp)
/-- What holds at every place: the caught variable has a row of the call's own; the other variables stand. -/
def notation_lacks.Inv (L : List (Nat × Array Value × Nat)) (gO : Nat) (w wc : World) (xs : List S65) : Prop :=
  ∃ v, wc.heap[gO]? = some (.cells #[v] 33 (0, 0)) ∧ Kd.R k65 65 wc w.heap.size (fun _ => True) v xs ∧ (∀ x ∈ L, x.1 ≠ gO ∧ x.2.2 ≠ 65 ∧ wc.heap[x.1]? = some (.cells x.2.1 x.2.2 (0, 0))) ∧ w.heap.size ≤ gO ∧ Below w.heap.size w wc
theorem notation_lacks.Inv.below {L : List (Nat × Array Value × Nat)} {gO : Nat} {w wc w1 : World} {xs : List S65} (h : notation_lacks.Inv L gO w wc xs) (hb : Below wc.heap.size wc w1) : notation_lacks.Inv L gO w w1 xs := by
  obtain ⟨v, h1, h2, h3, h4, h5⟩ := h
  exact ⟨v, blk_below h1 hb, Kd.R_below h2 hb, fun x hx => ⟨(h3 x hx).1, (h3 x hx).2.1, blk_below (h3 x hx).2.2 hb⟩, h4, below_step h5 hb⟩
theorem notation_lacks.Inv.push {L : List (Nat × Array Value × Nat)} {gO g t : Nat} {cs : Array Value} {w wc w1 : World} {xs : List S65} (h : notation_lacks.Inv L gO w wc xs) (hb : Below wc.heap.size wc w1) (hg : w1.heap[g]? = some (.cells cs t (0, 0))) (hne : wc.heap.size ≤ g) (ht : t ≠ 65) : notation_lacks.Inv ((g, cs, t) :: L) gO w w1 xs := by
  have h0 := h.below hb
  obtain ⟨v0, h01, _⟩ := h
  obtain ⟨v, h1, h2, h3, h4, h5⟩ := h0
  have hlt := blk_lt h01
  refine ⟨v, h1, h2, fun x hx => ?_, h4, h5⟩
  rcases List.mem_cons.1 hx with rfl | hx
  · exact ⟨by simp only []; omega, ht, hg⟩
  · exact h3 x hx
theorem notation_lacks.Inv.say {L : List (Nat × Array Value × Nat)} {gO gE : Nat} {w wc : World} {xs r : List S65} (h : notation_lacks.Inv L gO w wc xs) (ok : Bool) (c what ev : Int) (hE : (gE, #[.int .i64 ev], 3) ∈ L) (hs : notation_lacks.say xs ok ev c what = some r) :
    Calls Tryz.prog 38 #[.bool ok, .int .i64 c, .int .i64 what, .pointer (some ⟨gO, 0, none⟩), .pointer (some ⟨gE, 0, none⟩)] wc fun e w' => e = .returned (.tuple #[]) ∧ notation_lacks.Inv L gO w w' r := by
  obtain ⟨v, h1, h2, h3, h4, h5⟩ := h
  refine (notation_lacks.said ok c what ev gO gE w.heap.size wc v xs r h1 (h3 _ hE).2.2 h2 h4 hs).mono ?_
  rintro e w' ⟨rfl, v', h1', h2', hf⟩
  exact ⟨rfl, v', h1', h2', fun x hx => ⟨(h3 x hx).1, (h3 x hx).2.1, hf.2 _ _ _ (h3 x hx).1 (h3 x hx).2.1 (h3 x hx).2.2⟩, h4, h5.trans hf.1⟩
abbrev notation_lacks.LL (w : World) (a0_ a1_ a2_ : Value) (ev : Int) (n0 : Bool) (n1 : Int) (n2 n3 n4 : Bool) (v5 : Value) : List (Nat × Array Value × Nat) :=
  [(w.heap.size + 1 + 1 + 1, #[.bool n0, .int .i64 n1, .bool n2, .bool n3, .bool n4, v5], 46), (w.heap.size, #[a0_, a1_, a2_], 29), (w.heap.size + 1, #[.int .i64 ev], 3)]
theorem notation_lacks.Inv.begin {w W : World} {a0_ a1_ a2_ v5 : Value} {ev n1 : Int} {n0 n2 n3 n4 : Bool} (h : W = (((w.alloc (Obj.cells #[a0_, a1_, a2_] 29)).alloc (Obj.cells #[.int .i64 ev] 3)).alloc (Obj.cells #[Value.slice none 0 0] 33)).alloc (Obj.cells #[.bool n0, .int .i64 n1, .bool n2, .bool n3, .bool n4, v5] 46)) :
    notation_lacks.Inv (notation_lacks.LL w a0_ a1_ a2_ ev n0 n1 n2 n3 n4 v5) (w.heap.size + 1 + 1) w W [] := by
  subst h
  refine ⟨.slice none 0 0, ?_, Kd.R_nil _ _ _ _ _, ?_, by omega, ?_⟩
  · refine blk_alloc ?_ _
    have := blk_new ((w.alloc (Obj.cells #[a0_, a1_, a2_] 29)).alloc (Obj.cells #[.int .i64 ev] 3)) (Obj.cells #[Value.slice none 0 0] 33)
    simpa using this
  · have d1 : 46 ≠ 65 := by decide
    have d2 : 29 ≠ 65 := by decide
    have d3 : 3 ≠ 65 := by decide
    refine List.forall_mem_cons.2 ⟨⟨by simp only []; omega, d1, ?_⟩, List.forall_mem_cons.2 ⟨⟨by simp only []; omega, d2, ?_⟩, List.forall_mem_cons.2 ⟨⟨by simp only []; omega, d3, ?_⟩, by simp⟩⟩⟩
    · have := blk_new (((w.alloc (Obj.cells #[a0_, a1_, a2_] 29)).alloc (Obj.cells #[.int .i64 ev] 3)).alloc (Obj.cells #[Value.slice none 0 0] 33)) (Obj.cells #[.bool n0, .int .i64 n1, .bool n2, .bool n3, .bool n4, v5] 46)
      simpa using this
    · exact blk_alloc (blk_alloc (blk_alloc (blk_new _ _) _) _) _
    · have := blk_new (w.alloc (Obj.cells #[a0_, a1_, a2_] 29)) (Obj.cells #[.int .i64 ev] 3)
      exact blk_alloc (blk_alloc (by simpa using this) _) _
  · exact ((((Below.refl _ w).alloc (Nat.le_refl _) _).alloc (by simp) _).alloc (by simp; omega) _).alloc (by simp; omega) _
theorem notation_lacks.ev_cells {w wc : World} {a0_ a1_ a2_ v5 : Value} {ev n1 : Int} {n0 n2 n3 n4 : Bool} {gO : Nat} {xs : List S65} (h : notation_lacks.Inv (notation_lacks.LL w a0_ a1_ a2_ ev n0 n1 n2 n3 n4 v5) gO w wc xs) :
    wc.cell? ⟨w.heap.size + 1 + 1 + 1, 0, none⟩ = some (.bool n0) ∧ wc.cell? ⟨w.heap.size + 1 + 1 + 1, 1, none⟩ = some (.int .i64 n1) ∧ wc.cell? ⟨w.heap.size + 1 + 1 + 1, 2, none⟩ = some (.bool n2) ∧ wc.cell? ⟨w.heap.size + 1 + 1 + 1, 3, none⟩ = some (.bool n3) ∧ wc.cell? ⟨w.heap.size + 1 + 1 + 1, 4, none⟩ = some (.bool n4) ∧ wc.cell? ⟨w.heap.size + 1 + 1 + 1, 5, none⟩ = some v5 := by
  obtain ⟨v, h1, h2, h3, h4, h5⟩ := h
  have hE := (h3 _ List.mem_cons_self).2.2
  exact ⟨(blk_cell hE 0).trans rfl, (blk_cell hE 1).trans rfl, (blk_cell hE 2).trans rfl, (blk_cell hE 3).trans rfl, (blk_cell hE 4).trans rfl, (blk_cell hE 5).trans rfl⟩
def notation_lacks.round (k : Nat) (a0 : Int) (l1_0 : List (S99)) (l1_1 : List Int) (l1_2 : List (S46)) (a2 : Int) (s : S54) (xs : List (S65)) : Option (List (S65)) :=
  (dyn_notation_symbol.f k a0 s.f0 s.f1).bind fun t => if t.2 = true then
    (dyn_notation_right.f a0 s.f2).bind fun u => (notation_lacks.say xs u.2 a2 s.f0 2).bind fun x1 =>
    (dyn_notation_grace.f a0 s.f3).bind fun u => (notation_lacks.say x1 u.2 a2 s.f0 3).bind fun x2 =>
    (piece_Longest.f k l1_0 l1_1 l1_2 a2 s.f0).bind fun n => (dyn_notation_hold.f a0 s.f4 n).bind fun u => notation_lacks.say x2 u.2 a2 s.f0 4
  else notation_lacks.say xs false a2 s.f0 1
def notation_lacks.rows (k : Nat) (a0 : Int) (l1_0 : List (S99)) (l1_1 : List Int) (l1_2 : List (S46)) (a2 : Int) : List (S54) → List (S65) → Option (List (S65))
  | [], xs => some xs
  | s :: l, xs => (notation_lacks.round k a0 l1_0 l1_1 l1_2 a2 s xs).bind fun x1 => notation_lacks.rows k a0 l1_0 l1_1 l1_2 a2 l x1
/-- One look at a sign. -/
def notation_lacks.look (a0 : Int) (what : Int) (a2 : Int) (xs : List (S65)) : Option (List (S65)) := (dyn_notation_has.f a0 what).bind fun b => notation_lacks.say xs b a2 0 what
def notation_lacks.f (k : Nat) (a0 : Int) (l1_0 : List (S99)) (l1_1 : List Int) (l1_2 : List (S46)) (a2 : Int) : Option (List (S65)) :=
  if 0 ≤ a2 then if a2 < (l1_2.length : Int) then if (rd_T46 l1_2 a2).f3.length ≤ 9223372036854775807 then
    (if (rd_T46 l1_2 a2).f1.f0 = 0 then notation_lacks.look a0 6 a2 [] else some []).bind fun x1 =>
    (if (rd_T46 l1_2 a2).f1.f2 = true then notation_lacks.look a0 5 a2 x1 else some x1).bind fun x2 =>
    (if (rd_T46 l1_2 a2).f2 = true then notation_lacks.look a0 7 a2 x2 else if (rd_T46 l1_2 a2).f3.length = 0 then notation_lacks.look a0 8 a2 x2 else some x2).bind fun x3 =>
    notation_lacks.rows k a0 l1_0 l1_1 l1_2 a2 (rd_T46 l1_2 a2).f3 x3
  else none else none else none
theorem notation_lacks.rows_drop (k : Nat) (a0 : Int) (l1_0 : List (S99)) (l1_1 : List Int) (l1_2 : List (S46)) (a2 : Int) (l : List (S54)) (xs : List (S65)) (i : Nat) (hi : i < l.length) : notation_lacks.rows k a0 l1_0 l1_1 l1_2 a2 (l.drop i) xs = (notation_lacks.round k a0 l1_0 l1_1 l1_2 a2 (rd_T54 l i) xs).bind fun x1 => notation_lacks.rows k a0 l1_0 l1_1 l1_2 a2 (l.drop (i + 1)) x1 := by
  rw [List.drop_eq_getElem_cons hi]
  have e : rd_T54 l i = l[i] := by simp [rd_T54, hi]
  rw [e]
  rfl
theorem notation_lacks.st_cells {w wc : World} {n0 n1 n2 n3 n4 : Int} {g gO : Nat} {L : List (Nat × Array Value × Nat)} {xs : List S65} (h : notation_lacks.Inv ((g, #[.int .i64 n0, .int .i64 n1, .int .i64 n2, .int .i64 n3, .int .i64 n4], 54) :: L) gO w wc xs) :
    wc.cell? ⟨g, 0, none⟩ = some (.int .i64 n0) ∧ wc.cell? ⟨g, 1, none⟩ = some (.int .i64 n1) ∧ wc.cell? ⟨g, 2, none⟩ = some (.int .i64 n2) ∧ wc.cell? ⟨g, 3, none⟩ = some (.int .i64 n3) ∧ wc.cell? ⟨g, 4, none⟩ = some (.int .i64 n4) := by
  obtain ⟨v, h1, h2, h3, h4, h5⟩ := h
  have hE := (h3 _ List.mem_cons_self).2.2
  exact ⟨(blk_cell hE 0).trans rfl, (blk_cell hE 1).trans rfl, (blk_cell hE 2).trans rfl, (blk_cell hE 3).trans rfl, (blk_cell hE 4).trans rfl⟩
theorem notation_lacks.Inv.bel {L : List (Nat × Array Value × Nat)} {gO : Nat} {w wc : World} {xs : List S65} (h : notation_lacks.Inv L gO w wc xs) : Below w.heap.size w wc := by
  obtain ⟨v, h1, h2, h3, h4, h5⟩ := h
  exact h5
theorem notation_lacks.Inv.pop {L : List (Nat × Array Value × Nat)} {x : Nat × Array Value × Nat} {gO : Nat} {w wc : World} {xs : List S65} (h : notation_lacks.Inv (x :: L) gO w wc xs) : notation_lacks.Inv L gO w wc xs := by
  obtain ⟨v, h1, h2, h3, h4, h5⟩ := h
  exact ⟨v, h1, h2, fun y hy => h3 y (List.mem_cons_of_mem _ hy), h4, h5⟩
theorem notation_lacks.rows_mono (a0 : Int) (l1_0 : List (S99)) (l1_1 : List Int) (l1_2 : List (S46)) (a2 : Int) (k : Nat) : ∀ (l : List (S54)) (xs : List (S65)), LeO (notation_lacks.rows k a0 l1_0 l1_1 l1_2 a2 l xs) (notation_lacks.rows (k + 1) a0 l1_0 l1_1 l1_2 a2 l xs)
  | [], xs => LeO.refl _
  | s :: l, xs => by
    unfold notation_lacks.rows
    refine LeO.bind ?_ (fun x1 => notation_lacks.rows_mono a0 l1_0 l1_1 l1_2 a2 k l x1)
    unfold notation_lacks.round
    refine LeO.bind (dyn_notation_symbol.mono _ _ _ _) (fun t => LeO.ite ?_ (LeO.refl _))
    refine LeO.bind (LeO.refl _) (fun u => LeO.bind (LeO.refl _) (fun x1 => LeO.bind (LeO.refl _) (fun u => LeO.bind (LeO.refl _) (fun x1 => LeO.bind (piece_Longest.mono _ _ _ _ _ _) (fun n => LeO.refl _)))))
theorem notation_lacks.mono : ∀ a0 l1_0 l1_1 l1_2 a2 k, LeO (notation_lacks.f k a0 l1_0 l1_1 l1_2 a2) (notation_lacks.f (k + 1) a0 l1_0 l1_1 l1_2 a2) := by
  intro a0 l1_0 l1_1 l1_2 a2 k
  unfold notation_lacks.f
  refine LeO.ite (LeO.ite (LeO.ite ?_ (LeO.none _)) (LeO.none _)) (LeO.none _)
  exact LeO.bind (LeO.refl _) (fun x1 => LeO.bind (LeO.refl _) (fun x2 => LeO.bind (LeO.refl _) (fun x3 => notation_lacks.rows_mono _ _ _ _ _ _ _ _)))
theorem notation_lacks.hold_cells {w wc : World} {a0_ a1_ a2_ v5 : Value} {ev n1 : Int} {n0 n2 n3 n4 : Bool} {m0 m1 m2 m3 m4 : Int} {g gO : Nat} {xs : List S65} (h : notation_lacks.Inv ((g, #[.int .i64 m0, .int .i64 m1, .int .i64 m2, .int .i64 m3, .int .i64 m4], 54) :: notation_lacks.LL w a0_ a1_ a2_ ev n0 n1 n2 n3 n4 v5) gO w wc xs) :
    wc.cell? ⟨g, 0, none⟩ = some (.int .i64 m0) ∧ wc.cell? ⟨g, 4, none⟩ = some (.int .i64 m4) ∧ wc.cell? ⟨w.heap.size + 1, 0, none⟩ = some (.int .i64 ev) ∧ wc.cell? ⟨w.heap.size, 0, none⟩ = some a0_ ∧ wc.cell? ⟨w.heap.size, 1, none⟩ = some a1_ ∧ wc.cell? ⟨w.heap.size, 2, none⟩ = some a2_ := by
  obtain ⟨v, h1, h2, h3, h4, h5⟩ := h
  have hS := (h3 _ List.mem_cons_self).2.2
  have hP := (h3 (w.heap.size, #[a0_, a1_, a2_], 29) (by simp [notation_lacks.LL])).2.2
  have hE := (h3 (w.heap.size + 1, #[.int .i64 ev], 3) (by simp [notation_lacks.LL])).2.2
  exact ⟨(blk_cell hS 0).trans rfl, (blk_cell hS 4).trans rfl, (blk_cell hE 0).trans rfl, (blk_cell hP 0).trans rfl, (blk_cell hP 1).trans rfl, (blk_cell hP 2).trans rfl⟩
-- TABLE22 begin
def notation_lacks.T22 : Bool × List (List Nat × List Nat) := (true, [([], []), ([], []), ([1], [1]), ([], []), ([], []), ([], []), ([5], [5]), ([3, 4, 6], [3, 4, 6]), ([0], [0]), ([8], [8]), ([0, 8, 9], [0]), ([10, 2, 7, 7], [2, 7, 10]), ([11], [11]), ([12], [12]), ([12], [12]), ([13, 11, 0, 1, 2, 3, 4, 5, 6, 7, 8, 9, 10, 11, 12, 13], [13]), ([14, 15, 0, 1, 2, 3, 4, 5, 6, 7, 8, 9, 10, 11, 12, 13, 14, 15], [14])])
def notation_lacks.B22 : List Nat := [0, 0, 2, 0, 0, 0, 32, 120, 1, 257, 769, 2047, 4095, 8191, 8191, 16383, 65535]
theorem notation_lacks.tab22 : rtab .any (opsOf Tryz.f23 22) = notation_lacks.T22 := by kernel_rfl
theorem notation_lacks.bits22 : waitsOk notation_lacks.T22.2 notation_lacks.B22 = true := by kernel_rfl
-- TABLE22 end
set_option maxHeartbeats 8000000 in
set_option maxRecDepth 100000 in
theorem notation_lacks.calls (k : Nat) (a0 : Int) (A1_0 : Option Addr) (c1_0 : Nat) (l1_0 : List (S99)) (A1_1 : Option Addr) (c1_1 : Nat) (l1_1 : List Int) (A1_2 : Option Addr) (c1_2 : Nat) (l1_2 : List (S46)) (a2 : Int) (r : List (S65)) (w : World) (hr1_0 : Kd.C k99 w A1_0 l1_0.length l1_0) (hc1_0 : l1_0.length ≤ c1_0) (hr1_1 : Kd.C (Kd.int .i64) w A1_1 l1_1.length l1_1) (hc1_1 : l1_1.length ≤ c1_1) (hr1_2 : Kd.C k46 w A1_2 l1_2.length l1_2) (hc1_2 : l1_2.length ≤ c1_2) (h : notation_lacks.f k a0 l1_0 l1_1 l1_2 a2 = some r) :
    Calls Tryz.prog 23 #[sysW a0, .agg #[.slice A1_0 l1_0.length c1_0, .slice A1_1 l1_1.length c1_1, .slice A1_2 l1_2.length c1_2], .int .i64 a2] w fun e w' => ∃ v0_ : Value, e = .returned (v0_) ∧ Kd.R k65 65 w' w.heap.size (fun _ => True) v0_ r ∧ Below w.heap.size w w' := by
  have hu1 := Tryz.underlying29
  have hu2 := Tryz.underlying46
  have hu3 := Tryz.underlying65
  have hu4 := Tryz.underlying54
  have hmf : ∀ (fn : Fn) (first cap : Array Value) (w : World), (Instr.makeFunc fn first cap).run Tryz.prog w = .ok (.func fn first cap) w := fun _ _ _ _ => rfl
  have HR0 := Aside0.mk hr1_0
  have HC0 := Aside0.mk hc1_0
  have HR1 := Aside0.mk hr1_1
  have HC1 := Aside0.mk hc1_1
  have HR2 := Aside0.mk hr1_2
  have HC2 := Aside0.mk hc1_2
  clear hr1_0 hc1_0 hr1_1 hc1_1 hr1_2 hc1_2
  unfold notation_lacks.f at h
  by_cases c1 : 0 ≤ a2
  · rw [if_pos c1] at h
    by_cases c2 : a2 < (l1_2.length : Int)
    · rw [if_pos c2] at h
      by_cases c3 : (rd_T46 l1_2 a2).f3.length ≤ 9223372036854775807
      · rw [if_pos c3] at h
        have p := at_T46 HR2.out a2 c1 c2
        obtain ⟨ad, A5, c5, rfl, h0, h1, h2, h3, h4, h5, hc5, hk5⟩ := p
        have H := Aside0.mk h
        have C5 := Aside0.mk hc5
        have K5 := Aside0.mk hk5
        have B3 := Aside0.mk ((((Below.refl _ w).alloc (Nat.le_refl _) (Obj.cells #[Value.slice A1_0 l1_0.length c1_0, Value.slice A1_1 l1_1.length c1_1, Value.slice (some ad) l1_2.length c1_2] 29)).alloc (by simp) (Obj.cells #[Value.int IntKind.i64 a2] 3)).alloc (by simp; omega) (Obj.cells #[Value.slice none 0 0] 33))
        replace h0 := (B3.out.cell (World.block_lt_of_cell? w _ h0)).trans h0
        replace h1 := (B3.out.cell (World.block_lt_of_cell? w _ h1)).trans h1
        replace h2 := (B3.out.cell (World.block_lt_of_cell? w _ h2)).trans h2
        replace h3 := (B3.out.cell (World.block_lt_of_cell? w _ h3)).trans h3
        replace h4 := (B3.out.cell (World.block_lt_of_cell? w _ h4)).trans h4
        replace h5 := (B3.out.cell (World.block_lt_of_cell? w _ h5)).trans h5
        clear h hc5 hk5
        go_enter Tryz.func23, Tryz.ntmps23
        go_upto_region 4 with (fail)
        obtain ⟨W3, HW3⟩ : ∃ W3 : World, Aside0 (W3 = (((w.alloc (Obj.cells #[Value.slice A1_0 l1_0.length c1_0, Value.slice A1_1 l1_1.length c1_1, Value.slice (some ad) l1_2.length c1_2] 29)).alloc (Obj.cells #[Value.int IntKind.i64 a2] 3)).alloc (Obj.cells #[Value.slice none 0 0] 33)).alloc (Obj.cells #[Value.bool (rd_T46 l1_2 a2).f0, Value.int IntKind.i64 (rd_T46 l1_2 a2).f1.f0, Value.bool (rd_T46 l1_2 a2).f1.f1, Value.bool (rd_T46 l1_2 a2).f1.f2, Value.bool (rd_T46 l1_2 a2).f2, Value.slice A5 (rd_T46 l1_2 a2).f3.length c5] 46)) := ⟨_, ⟨rfl⟩⟩
        have HI := Aside0.mk (notation_lacks.Inv.begin (n0 := (rd_T46 l1_2 a2).f0) (n1 := (rd_T46 l1_2 a2).f1.f0) (n2 := (rd_T46 l1_2 a2).f1.f1) (n3 := (rd_T46 l1_2 a2).f1.f2) (n4 := (rd_T46 l1_2 a2).f2) (v5 := Value.slice A5 (rd_T46 l1_2 a2).f3.length c5) HW3.out)
        rw [← HW3.out]
        clear HW3 h0 h1 h2 h3 h4 h5 B3
        have Z := notation_lacks.ev_cells HI.out
        obtain ⟨z0, z1, z2, z3, z4, z5⟩ := Z
        obtain ⟨x1, e1, H1⟩ := Option.bind_eq_some_iff.1 H.out
        have E1 := Aside0.mk e1
        have J1 := Aside0.mk H1
        clear e1 H1 H
        go_upto_if 29 with (fail)
        go_cut [] (fun wc => Aside0 (notation_lacks.Inv (notation_lacks.LL w (.slice A1_0 l1_0.length c1_0) (.slice A1_1 l1_1.length c1_1) (.slice (some ad) l1_2.length c1_2) a2 (rd_T46 l1_2 a2).f0 (rd_T46 l1_2 a2).f1.f0 (rd_T46 l1_2 a2).f1.f1 (rd_T46 l1_2 a2).f1.f2 (rd_T46 l1_2 a2).f2 (.slice A5 (rd_T46 l1_2 a2).f3.length c5)) (w.heap.size + 1 + 1) w wc x1))
        case first =>
          have e1 := E1.out
          clear E1
          by_cases q : (rd_T46 l1_2 a2).f1.f0 = 0
          · rw [if_pos q] at e1
            rw [beq_iff_eq.2 q]
            clear q
            obtain ⟨b, hb, hs⟩ := Option.bind_eq_some_iff.1 e1
            have HB := Aside0.mk hb
            have HS := Aside0.mk hs
            clear e1 hb hs
            go_wp2_with (first | ((with_reducible refine gate_invoke_ (m := "theorbo/notation.has") rfl ?_); refine goesI_ (some 32) rfl rfl (sysW a0) #[.int .i64 6] rfl (by rfl) (by (try simp only [List.map_toArray, List.map_cons, List.map_nil]); first | done | rfl) ?_; with_reducible refine (dyn_notation_has.calls a0 6 b _ HB.out).mono ?_; rintro e w1 ⟨rfl, hb1⟩; refine ⟨_, rfl, ?_⟩; have HJ := Aside0.mk (HI.out.below hb1); clear hb1) | (go_at_call 38; with_reducible refine (notation_lacks.Inv.say HJ.out b 0 6 a2 (by simp [notation_lacks.LL]) HS.out).mono ?_; rintro e w2 ⟨rfl, hI2⟩; have HK := Aside0.mk hI2; clear hI2))
            go_meet
            case rel => exact HK
          · rw [if_neg q] at e1
            rw [beq_eq_false_iff_ne.2 q]
            clear q
            obtain rfl := Option.some.inj e1
            go_wp2
            go_meet
            case rel => exact HI
        case rest =>
          have HI := hcut
          clear hcut z0 z1 z2 z3 z4 z5 E1
          obtain ⟨z0, z1, z2, z3, z4, z5⟩ := notation_lacks.ev_cells HI.out
          obtain ⟨x2, e1, H1⟩ := Option.bind_eq_some_iff.1 J1.out
          have E1 := Aside0.mk e1
          have J2 := Aside0.mk H1
          clear e1 H1 J1
          go_upto_if 36 with (fail)
          go_cut [] (fun wc => Aside0 (notation_lacks.Inv (notation_lacks.LL w (.slice A1_0 l1_0.length c1_0) (.slice A1_1 l1_1.length c1_1) (.slice (some ad) l1_2.length c1_2) a2 (rd_T46 l1_2 a2).f0 (rd_T46 l1_2 a2).f1.f0 (rd_T46 l1_2 a2).f1.f1 (rd_T46 l1_2 a2).f1.f2 (rd_T46 l1_2 a2).f2 (.slice A5 (rd_T46 l1_2 a2).f3.length c5)) (w.heap.size + 1 + 1) w wc x2))
          case first =>
            have e1 := E1.out
            clear E1
            by_cases q : (rd_T46 l1_2 a2).f1.f2 = true
            · rw [if_pos q] at e1
              rw [q]
              clear q
              obtain ⟨b, hb, hs⟩ := Option.bind_eq_some_iff.1 e1
              have HB := Aside0.mk hb
              have HS := Aside0.mk hs
              clear e1 hb hs
              go_wp2_with (first | ((with_reducible refine gate_invoke_ (m := "theorbo/notation.has") rfl ?_); refine goesI_ (some 39) rfl rfl (sysW a0) #[.int .i64 5] rfl (by rfl) (by (try simp only [List.map_toArray, List.map_cons, List.map_nil]); first | done | rfl) ?_; with_reducible refine (dyn_notation_has.calls a0 5 b _ HB.out).mono ?_; rintro e w1 ⟨rfl, hb1⟩; refine ⟨_, rfl, ?_⟩; have HJ := Aside0.mk (HI.out.below hb1); clear hb1) | (go_at_call 38; with_reducible refine (notation_lacks.Inv.say HJ.out b 0 5 a2 (by simp [notation_lacks.LL]) HS.out).mono ?_; rintro e w2 ⟨rfl, hI2⟩; have HK := Aside0.mk hI2; clear hI2))
              go_meet
              case rel => exact HK
            · rw [if_neg q] at e1
              rw [Bool.eq_false_iff.2 q]
              clear q
              obtain rfl := Option.some.inj e1
              go_wp2
              go_meet
              case rel => exact HI
          case rest =>
            have HI := hcut
            clear hcut z0 z1 z2 z3 z4 z5 E1
            obtain ⟨z0, z1, z2, z3, z4, z5⟩ := notation_lacks.ev_cells HI.out
            obtain ⟨x3, e1, H1⟩ := Option.bind_eq_some_iff.1 J2.out
            have E1 := Aside0.mk e1
            have J3 := Aside0.mk H1
            clear e1 H1 J2
            go_upto_if 42 with (fail)
            go_cut [] (fun wc => Aside0 (notation_lacks.Inv (notation_lacks.LL w (.slice A1_0 l1_0.length c1_0) (.slice A1_1 l1_1.length c1_1) (.slice (some ad) l1_2.length c1_2) a2 (rd_T46 l1_2 a2).f0 (rd_T46 l1_2 a2).f1.f0 (rd_T46 l1_2 a2).f1.f1 (rd_T46 l1_2 a2).f1.f2 (rd_T46 l1_2 a2).f2 (.slice A5 (rd_T46 l1_2 a2).f3.length c5)) (w.heap.size + 1 + 1) w wc x3))
            case first =>
              have e1 := E1.out
              clear E1
              by_cases q : (rd_T46 l1_2 a2).f2 = true
              · rw [if_pos q] at e1
                rw [q]
                clear q
                obtain ⟨b, hb, hs⟩ := Option.bind_eq_some_iff.1 e1
                have HB := Aside0.mk hb
                have HS := Aside0.mk hs
                clear e1 hb hs
                go_wp2_with (first | ((with_reducible refine gate_invoke_ (m := "theorbo/notation.has") rfl ?_); refine goesI_ (some 45) rfl rfl (sysW a0) #[.int .i64 7] rfl (by rfl) (by (try simp only [List.map_toArray, List.map_cons, List.map_nil]); first | done | rfl) ?_; with_reducible refine (dyn_notation_has.calls a0 7 b _ HB.out).mono ?_; rintro e w1 ⟨rfl, hb1⟩; refine ⟨_, rfl, ?_⟩; have HJ := Aside0.mk (HI.out.below hb1); clear hb1) | (go_at_call 38; with_reducible refine (notation_lacks.Inv.say HJ.out b 0 7 a2 (by simp [notation_lacks.LL]) HS.out).mono ?_; rintro e w2 ⟨rfl, hI2⟩; have HK := Aside0.mk hI2; clear hI2))
                go_meet
                case rel => exact HK
              · rw [if_neg q] at e1
                rw [Bool.eq_false_iff.2 q]
                clear q
                by_cases q : (rd_T46 l1_2 a2).f3.length = 0
                · rw [if_pos q] at e1
                  have q2 : (((rd_T46 l1_2 a2).f3.length : Int) == 0) = true := beq_iff_eq.2 (by omega)
                  clear q
                  obtain ⟨b, hb, hs⟩ := Option.bind_eq_some_iff.1 e1
                  have HB := Aside0.mk hb
                  have HS := Aside0.mk hs
                  clear e1 hb hs
                  go_wp2_with (first | ((with_reducible refine gate_invoke_ (m := "theorbo/notation.has") rfl ?_); refine goesI_ (some 53) rfl rfl (sysW a0) #[.int .i64 8] rfl (by rfl) (by (try simp only [List.map_toArray, List.map_cons, List.map_nil]); first | done | rfl) ?_; with_reducible refine (dyn_notation_has.calls a0 8 b _ HB.out).mono ?_; rintro e w1 ⟨rfl, hb1⟩; refine ⟨_, rfl, ?_⟩; have HJ := Aside0.mk (HI.out.below hb1); clear hb1) | (go_at_call 38; with_reducible refine (notation_lacks.Inv.say HJ.out b 0 8 a2 (by simp [notation_lacks.LL]) HS.out).mono ?_; rintro e w2 ⟨rfl, hI2⟩; have HK := Aside0.mk hI2; clear hI2))
                  go_meet
                  case rel => exact HK
                · rw [if_neg q] at e1
                  have q2 : (((rd_T46 l1_2 a2).f3.length : Int) == 0) = false := beq_eq_false_iff_ne.2 (by omega)
                  clear q
                  obtain rfl := Option.some.inj e1
                  go_wp2
                  go_meet
                  case rel => exact HI
            case rest =>
              have HI := hcut
              clear hcut z0 z1 z2 z3 z4 z5 E1
              obtain ⟨z0, z1, z2, z3, z4, z5⟩ := notation_lacks.ev_cells HI.out
              go_wp2_with fail
              go_loopg [58] (rd_T46 l1_2 a2).f3.length (fun kq v58 w' => ∃ (i : Nat) (x : List S65), v58 = .int .i64 i ∧ Aside0 (i + kq = (rd_T46 l1_2 a2).f3.length) ∧ Aside0 (notation_lacks.rows k a0 l1_0 l1_1 l1_2 a2 ((rd_T46 l1_2 a2).f3.drop i) x = some r) ∧ Aside0 (notation_lacks.Inv (notation_lacks.LL w (.slice A1_0 l1_0.length c1_0) (.slice A1_1 l1_1.length c1_1) (.slice (some ad) l1_2.length c1_2) a2 (rd_T46 l1_2 a2).f0 (rd_T46 l1_2 a2).f1.f0 (rd_T46 l1_2 a2).f1.f1 (rd_T46 l1_2 a2).f1.f2 (rd_T46 l1_2 a2).f2 (.slice A5 (rd_T46 l1_2 a2).f3.length c5)) (w.heap.size + 1 + 1) w w' x))
              case atStart => exact ⟨0, x3, rfl, ⟨by omega⟩, ⟨J3.out⟩, HI⟩
              case round =>
                obtain ⟨i, x, rfl, HK, HX, HI⟩ := hrel
                by_cases hi : i < (rd_T46 l1_2 a2).f3.length
                · have p := at_T54 K5.out (i : Int) (by omega) (by omega)
                  obtain ⟨ad5, rfl, h0, h1, h2, h3, h4⟩ := p
                  simp only [Int.toNat_natCast] at h0 h1 h2 h3 h4
                  have HB := HI.out.bel
                  replace h0 := (HB.cell (World.block_lt_of_cell? w _ h0)).trans h0
                  replace h1 := (HB.cell (World.block_lt_of_cell? w _ h1)).trans h1
                  replace h2 := (HB.cell (World.block_lt_of_cell? w _ h2)).trans h2
                  replace h3 := (HB.cell (World.block_lt_of_cell? w _ h3)).trans h3
                  replace h4 := (HB.cell (World.block_lt_of_cell? w _ h4)).trans h4
                  clear HB z0 z1 z2 z3 z4 z5
                  have hx := HX.out
                  rw [notation_lacks.rows_drop _ _ _ _ _ _ _ _ _ hi] at hx
                  clear HX
                  obtain ⟨x', e1, hx⟩ := Option.bind_eq_some_iff.1 hx
                  have HX := Aside0.mk hx
                  clear hx
                  unfold notation_lacks.round at e1
                  obtain ⟨⟨t1, t2⟩, ht, e1⟩ := Option.bind_eq_some_iff.1 e1
                  have HT := Aside0.mk ht
                  clear ht
                  have ds : 54 ≠ 65 := by decide
                  have HP := Aside0.mk (HI.out.push (g := wr.heap.size) (cs := #[.int .i64 (rd_T54 (rd_T46 l1_2 a2).f3 i).f0, .int .i64 (rd_T54 (rd_T46 l1_2 a2).f3 i).f1, .int .i64 (rd_T54 (rd_T46 l1_2 a2).f3 i).f2, .int .i64 (rd_T54 (rd_T46 l1_2 a2).f3 i).f3, .int .i64 (rd_T54 (rd_T46 l1_2 a2).f3 i).f4]) (t := 54) (w1 := wr.alloc (.cells #[.int .i64 (rd_T54 (rd_T46 l1_2 a2).f3 i).f0, .int .i64 (rd_T54 (rd_T46 l1_2 a2).f3 i).f1, .int .i64 (rd_T54 (rd_T46 l1_2 a2).f3 i).f2, .int .i64 (rd_T54 (rd_T46 l1_2 a2).f3 i).f3, .int .i64 (rd_T54 (rd_T46 l1_2 a2).f3 i).f4] 54)) ((Below.refl _ wr).alloc (Nat.le_refl _) _) (blk_new _ _) (Nat.le_refl _) ds)
                  have hlt' : (i : Int) < ((rd_T46 l1_2 a2).f3.length : Int) := by omega
                  cases t2 with
                  | false =>
                    simp only [Bool.false_eq_true, if_false] at e1
                    have HS := Aside0.mk e1
                    clear e1
                    go_wp2_with (first | ((with_reducible refine gate_invoke_ (m := "theorbo/notation.symbol") rfl ?_); refine goesI_ (some 69) rfl rfl (sysW a0) #[.agg #[.int .i64 (rd_T54 (rd_T46 l1_2 a2).f3 i).f0, .int .i64 (rd_T54 (rd_T46 l1_2 a2).f3 i).f1]] rfl (by rfl) (by (try simp only [List.map_toArray, List.map_cons, List.map_nil]); first | done | rfl) ?_; with_reducible refine (dyn_notation_symbol.calls k a0 (rd_T54 (rd_T46 l1_2 a2).f3 i).f0 (rd_T54 (rd_T46 l1_2 a2).f3 i).f1 t1 _ _ HT.out).mono ?_; rintro e w1 ⟨rfl, hb1⟩; refine ⟨_, rfl, ?_⟩; have HI1 := Aside0.mk (HP.out.below hb1); clear hb1; obtain ⟨y0, y1, y2, y3, y4⟩ := notation_lacks.st_cells HI1.out) | (go_at_call 38; with_reducible refine (notation_lacks.Inv.say HI1.out false (rd_T54 (rd_T46 l1_2 a2).f3 i).f0 1 a2 (by simp [notation_lacks.LL]) HS.out).mono ?_; rintro e w2 ⟨rfl, hI2⟩; have HI2 := Aside0.mk hI2; clear hI2; obtain ⟨y0, y1, y2, y3, y4⟩ := notation_lacks.st_cells HI2.out))
                    cases gk with
                    | zero => exact absurd HK.out (by omega)
                    | succ g' =>
                      go_roundg g'
                      case measure => omega
                      case rel => exact ⟨i + 1, x', by go_num, ⟨by have := HK.out; omega⟩, HX, ⟨HI2.out.pop⟩⟩
                  | true =>
                    simp only [if_true] at e1
                    obtain ⟨⟨u1, u2⟩, hu, e1⟩ := Option.bind_eq_some_iff.1 e1
                    obtain ⟨x2', hs2, e1⟩ := Option.bind_eq_some_iff.1 e1
                    obtain ⟨⟨v1, v2⟩, hv, e1⟩ := Option.bind_eq_some_iff.1 e1
                    obtain ⟨x3', hs3, e1⟩ := Option.bind_eq_some_iff.1 e1
                    obtain ⟨n, hn, e1⟩ := Option.bind_eq_some_iff.1 e1
                    obtain ⟨⟨m1, m2⟩, hm, e1⟩ := Option.bind_eq_some_iff.1 e1
                    have HU := Aside0.mk hu
                    have HS2 := Aside0.mk hs2
                    have HV := Aside0.mk hv
                    have HS3 := Aside0.mk hs3
                    have HN := Aside0.mk hn
                    have HM := Aside0.mk hm
                    have HS4 := Aside0.mk e1
                    clear hu hs2 hv hs3 hn hm e1
                    go_upto_region 22 with (first | ((with_reducible refine gate_invoke_ (m := "theorbo/notation.symbol") rfl ?_); refine goesI_ (some 69) rfl rfl (sysW a0) #[.agg #[.int .i64 (rd_T54 (rd_T46 l1_2 a2).f3 i).f0, .int .i64 (rd_T54 (rd_T46 l1_2 a2).f3 i).f1]] rfl (by rfl) (by (try simp only [List.map_toArray, List.map_cons, List.map_nil]); first | done | rfl) ?_; with_reducible refine (dyn_notation_symbol.calls k a0 (rd_T54 (rd_T46 l1_2 a2).f3 i).f0 (rd_T54 (rd_T46 l1_2 a2).f3 i).f1 t1 _ _ HT.out).mono ?_; rintro e w1 ⟨rfl, hb1⟩; refine ⟨_, rfl, ?_⟩; have HI1 := Aside0.mk (HP.out.below hb1); clear hb1; obtain ⟨y0, y1, y2, y3, y4⟩ := notation_lacks.st_cells HI1.out) | ((with_reducible refine gate_invoke_ (m := "theorbo/notation.right") rfl ?_); refine goesI_ (some 82) rfl rfl (sysW a0) #[.int .i64 (rd_T54 (rd_T46 l1_2 a2).f3 i).f2] rfl (by rfl) (by (try simp only [List.map_toArray, List.map_cons, List.map_nil]); first | done | rfl) ?_; with_reducible refine (dyn_notation_right.calls a0 (rd_T54 (rd_T46 l1_2 a2).f3 i).f2 u1 u2 _ HU.out).mono ?_; rintro e w1 ⟨rfl, hb1⟩; refine ⟨_, rfl, ?_⟩; have HI2 := Aside0.mk (HI1.out.below hb1); clear hb1; obtain ⟨y0, y1, y2, y3, y4⟩ := notation_lacks.st_cells HI2.out) | (go_at_call 38; with_reducible refine (notation_lacks.Inv.say HI2.out u2 (rd_T54 (rd_T46 l1_2 a2).f3 i).f0 2 a2 (by simp [notation_lacks.LL]) HS2.out).mono ?_; rintro e w2 ⟨rfl, hI2⟩; have HI3 := Aside0.mk hI2; clear hI2; obtain ⟨y0, y1, y2, y3, y4⟩ := notation_lacks.st_cells HI3.out) | ((with_reducible refine gate_invoke_ (m := "theorbo/notation.grace") rfl ?_); refine goesI_ (some 94) rfl rfl (sysW a0) #[.int .i64 (rd_T54 (rd_T46 l1_2 a2).f3 i).f3] rfl (by rfl) (by (try simp only [List.map_toArray, List.map_cons, List.map_nil]); first | done | rfl) ?_; with_reducible refine (dyn_notation_grace.calls a0 (rd_T54 (rd_T46 l1_2 a2).f3 i).f3 v1 v2 _ HV.out).mono ?_; rintro e w1 ⟨rfl, hb1⟩; refine ⟨_, rfl, ?_⟩; have HI4 := Aside0.mk (HI3.out.below hb1); clear hb1; obtain ⟨y0, y1, y2, y3, y4⟩ := notation_lacks.st_cells HI4.out) | (go_at_call 38; with_reducible refine (notation_lacks.Inv.say HI4.out v2 (rd_T54 (rd_T46 l1_2 a2).f3 i).f0 3 a2 (by simp [notation_lacks.LL]) HS3.out).mono ?_; rintro e w2 ⟨rfl, hI2⟩; have HI5 := Aside0.mk hI2; clear hI2; obtain ⟨y0, y1, y2, y3, y4⟩ := notation_lacks.st_cells HI5.out))
                    have HI6 := Aside0.mk (HI5.out.below (below_drew (Below.refl _ w2)))
                    have q6 := notation_lacks.hold_cells HI6.out
                    have ha0 : a0 = 1 ∨ a0 = 2 ∨ a0 = 3 ∨ a0 = 4 := by
                      have hm := HM.out
                      unfold dyn_notation_hold.f at hm
                      by_cases g1 : a0 = 1
                      · exact .inl g1
                      · by_cases g2 : a0 = 2
                        · exact .inr (.inl g2)
                        · by_cases g3 : a0 = 3
                          · exact .inr (.inr (.inl g3))
                          · by_cases g4 : a0 = 4
                            · exact .inr (.inr (.inr g4))
                            · simp [g1, g2, g3, g4] at hm
                    clear y0 y1 y2 y3 y4
                    -- REGION22 begin
                    refine start_ (n := 17) (S := fun w' => w'.cell? ⟨wr.heap.size, 0, none⟩ = some (.int .i64 (rd_T54 (rd_T46 l1_2 a2).f3 i).f0) ∧ w'.cell? ⟨wr.heap.size, 4, none⟩ = some (.int .i64 (rd_T54 (rd_T46 l1_2 a2).f3 i).f4) ∧ w'.cell? ⟨w.heap.size + 1, 0, none⟩ = some (.int .i64 a2) ∧ w'.cell? ⟨w.heap.size, 0, none⟩ = some (.slice A1_0 l1_0.length c1_0) ∧ w'.cell? ⟨w.heap.size, 1, none⟩ = some (.slice A1_1 l1_1.length c1_1) ∧ w'.cell? ⟨w.heap.size, 2, none⟩ = some (.slice (some ad) l1_2.length c1_2)) (ds := []) #[false, false, false, false, false, false, false, false, false, false, false, false, false, false, false, false, false] (by kernel_rfl) rfl rfl ⟨q6.1, q6.2.1, q6.2.2.1, q6.2.2.2.1, q6.2.2.2.2.1, q6.2.2.2.2.2⟩ (fun hHeld => ?_)
                    refine with_tabW notation_lacks.tab22 notation_lacks.bits22 (fun HT_ HW_ => ?_)
                    generalize w2.drew = w20 at HI6 q6 hHeld ⊢
                    refine pure_ (i := 0) (N := some 103) (v := ?_) (a' := ?_) #[true, false, false, false, false, false, false, false, false, false, false, false, false, false, false, false, false] rfl rfl (any_of HT_.out (by kernel_rfl)) (fun _ _ _ h => h) (Or.inl ⟨by rfl, ?_⟩) ?_ ?_
                    rotate_left
                    · intro w'
                      go_simp
                      with_reducible rfl
                    rotate_left
                    · simp only [Act.put, List.setIfInBounds_toArray, List.set_cons_zero, List.set_cons_succ, i64_w, i32_w]
                      rfl
                    refine pure_ (i := 1) (N := some 104) (v := ?_) (a' := ?_) #[true, true, false, false, false, false, false, false, false, false, false, false, false, false, false, false, false] rfl rfl (any_of HT_.out (by kernel_rfl)) (fun _ _ _ h => h) (Or.inl ⟨by rfl, ?_⟩) ?_ ?_
                    rotate_left
                    · intro w'
                      go_simp
                      with_reducible rfl
                    rotate_left
                    · simp only [Act.put, List.setIfInBounds_toArray, List.set_cons_zero, List.set_cons_succ, i64_w, i32_w]
                      rfl
                    refine pure_ (i := 5) (N := some 108) (v := ?_) (a' := ?_) #[true, true, false, false, false, true, false, false, false, false, false, false, false, false, false, false, false] rfl rfl (any_of HT_.out (by kernel_rfl)) (fun _ _ _ h => h) (Or.inl ⟨by rfl, ?_⟩) ?_ ?_
                    rotate_left
                    · intro w'
                      go_simp
                      with_reducible rfl
                    rotate_left
                    · simp only [Act.put, List.setIfInBounds_toArray, List.set_cons_zero, List.set_cons_succ, i64_w, i32_w]
                      rfl
                    refine pure_ (i := 8) (N := some 111) (v := ?_) (a' := ?_) #[true, true, false, false, false, true, false, false, true, false, false, false, false, false, false, false, false] rfl rfl (any_of HT_.out (by kernel_rfl)) (fun _ _ _ h => h) (Or.inl ⟨by rfl, ?_⟩) ?_ ?_
                    rotate_left
                    · intro w'
                      go_simp
                      with_reducible rfl
                    rotate_left
                    · simp only [Act.put, List.setIfInBounds_toArray, List.set_cons_zero, List.set_cons_succ, i64_w, i32_w]
                      rfl
                    refine pure_ (i := 9) (N := some 112) (v := ?_) (a' := ?_) #[true, true, false, false, false, true, false, false, true, true, false, false, false, false, false, false, false] rfl rfl (any_of HT_.out (by kernel_rfl)) (fun _ _ _ h => h) (Or.inl ⟨by rfl, ?_⟩) ?_ ?_
                    rotate_left
                    · intro w'
                      go_simp
                      show _ = Result.ok (Next.value (.func (.method "theorbo/notation.hold") #[sysW a0] #[])) w'
                      rcases ha0 with rfl | rfl | rfl | rfl <;> kernel_rfl
                    rotate_left
                    · simp only [Act.put, List.setIfInBounds_toArray, List.set_cons_zero, List.set_cons_succ, i64_w, i32_w]
                      rfl
                    refine pure_ (i := 10) (N := some 113) (v := ?_) (a' := ?_) #[true, true, false, false, false, true, false, false, true, true, true, false, false, false, false, false, false] rfl rfl (any_of HT_.out (by kernel_rfl)) (fun _ _ _ h => h) (Or.inl ⟨by rfl, ?_⟩) ?_ ?_
                    rotate_left
                    · intro w'
                      go_simp
                      with_reducible rfl
                    rotate_left
                    · simp only [Act.put, List.setIfInBounds_toArray, List.set_cons_zero, List.set_cons_succ, i64_w, i32_w]
                      rfl
                    refine take_ (i := 2) (N := some 105) (v := ?_) (a' := ?_) #[true, true, true, false, false, true, false, false, true, true, true, false, false, false, false, false, false] rfl rfl (take_ofW HT_.out HW_.out (by kernel_rfl)) (fun _ _ _ h => h) (Or.inl ⟨by rfl, ?_⟩) hHeld ?_ ?_
                    rotate_left
                    · rintro w' ⟨s0, s1, s2, s3, s4, s5⟩
                      go_simp
                      with_reducible rfl
                    rotate_left
                    · simp only [Act.put, List.setIfInBounds_toArray, List.set_cons_zero, List.set_cons_succ, i64_w, i32_w]
                      rfl
                    refine take_ (i := 3) (N := some 106) (v := ?_) (a' := ?_) #[true, true, true, true, false, true, false, false, true, true, true, false, false, false, false, false, false] rfl rfl (take_ofW HT_.out HW_.out (by kernel_rfl)) (fun _ _ _ h => h) (Or.inl ⟨by rfl, ?_⟩) hHeld ?_ ?_
                    rotate_left
                    · rintro w' ⟨s0, s1, s2, s3, s4, s5⟩
                      go_simp
                      with_reducible rfl
                    rotate_left
                    · simp only [Act.put, List.setIfInBounds_toArray, List.set_cons_zero, List.set_cons_succ, i64_w, i32_w]
                      rfl
                    refine take_ (i := 4) (N := some 107) (v := ?_) (a' := ?_) #[true, true, true, true, true, true, false, false, true, true, true, false, false, false, false, false, false] rfl rfl (take_ofW HT_.out HW_.out (by kernel_rfl)) (fun _ _ _ h => h) (Or.inl ⟨by rfl, ?_⟩) hHeld ?_ ?_
                    rotate_left
                    · rintro w' ⟨s0, s1, s2, s3, s4, s5⟩
                      go_simp
                      with_reducible rfl
                    rotate_left
                    · simp only [Act.put, List.setIfInBounds_toArray, List.set_cons_zero, List.set_cons_succ, i64_w, i32_w]
                      rfl
                    refine take_ (i := 6) (N := some 109) (v := ?_) (a' := ?_) #[true, true, true, true, true, true, true, false, true, true, true, false, false, false, false, false, false] rfl rfl (take_ofW HT_.out HW_.out (by kernel_rfl)) (fun _ _ _ h => h) (Or.inl ⟨by rfl, ?_⟩) hHeld ?_ ?_
                    rotate_left
                    · rintro w' ⟨s0, s1, s2, s3, s4, s5⟩
                      go_simp
                      with_reducible rfl
                    rotate_left
                    · simp only [Act.put, List.setIfInBounds_toArray, List.set_cons_zero, List.set_cons_succ, i64_w, i32_w]
                      rfl
                    refine one_ (i := 7) (N := some 110) #[true, true, true, true, true, true, true, true, true, true, true, false, false, false, false, false, false] rfl rfl (one_of HT_.out (by kernel_rfl)) (by decide) (fun K hK => ?_)
                    refine goes_ Tryz.func39 (by kernel_rfl) rfl #[.agg #[.slice A1_0 l1_0.length c1_0, .slice A1_1 l1_1.length c1_1, .slice (some ad) l1_2.length c1_2], .int .i64 a2, .int .i64 (rd_T54 (rd_T46 l1_2 a2).f3 i).f0] (by rfl) rfl rfl (by (try simp only [List.map_toArray, List.map_cons, List.map_nil]); first | done | rfl) ?_
                    with_reducible refine (piece_Longest.calls k A1_0 c1_0 l1_0 A1_1 c1_1 l1_1 (some ad) c1_2 l1_2 a2 (rd_T54 (rd_T46 l1_2 a2).f3 i).f0 n _ (Kd.C_below HR0.out HI6.out.bel) HC0.out (Kd.C_below HR1.out HI6.out.bel) HC1.out (Kd.C_below HR2.out HI6.out.bel) HC2.out HN.out).mono ?_
                    rintro e w21 ⟨rfl, hb⟩
                    refine ⟨_, rfl, ?_⟩
                    have HI7 := Aside0.mk (HI6.out.below hb)
                    have q7 := notation_lacks.hold_cells HI7.out
                    refine hK.out _ _ ⟨q7.1, q7.2.1, q7.2.2.1, q7.2.2.2.1, q7.2.2.2.2.1, q7.2.2.2.2.2⟩ (fun hHeld => ?_)
                    clear hK K
                    refine norm_ (a' := ?_) ?_ ?_
                    rotate_left
                    · show Act.put _ (some 110) _ = _
                      simp only [Act.put, List.setIfInBounds_toArray, List.set_cons_zero, List.set_cons_succ, i64_w, i32_w]
                      rfl
                    refine one_ (i := 11) (N := some 114) #[true, true, true, true, true, true, true, true, true, true, true, true, false, false, false, false, false] rfl rfl (one_of HT_.out (by kernel_rfl)) (by decide) (fun K hK => ?_)
                    refine goesIR_ (sysW a0) #[.int .i64 (rd_T54 (rd_T46 l1_2 a2).f3 i).f4, .int .i64 n] (by rfl) rfl rfl (by rfl) (by (try simp only [List.map_toArray, List.map_cons, List.map_nil]); first | done | rfl) ?_
                    with_reducible refine (dyn_notation_hold.calls a0 (rd_T54 (rd_T46 l1_2 a2).f3 i).f4 n m1 m2 _ HM.out).mono ?_
                    rintro e w22 ⟨rfl, hb⟩
                    refine ⟨_, rfl, ?_⟩
                    have HI8 := Aside0.mk (HI7.out.below hb)
                    have q8 := notation_lacks.hold_cells HI8.out
                    refine hK.out _ _ ⟨q8.1, q8.2.1, q8.2.2.1, q8.2.2.2.1, q8.2.2.2.2.1, q8.2.2.2.2.2⟩ (fun hHeld => ?_)
                    clear hK K
                    refine norm_ (a' := ?_) ?_ ?_
                    rotate_left
                    · show Act.put _ (some 114) _ = _
                      simp only [Act.put, List.setIfInBounds_toArray, List.set_cons_zero, List.set_cons_succ, i64_w, i32_w]
                      rfl
                    refine pure_ (i := 12) (N := some 102) (v := ?_) (a' := ?_) #[true, true, true, true, true, true, true, true, true, true, true, true, true, false, false, false, false] rfl rfl (any_of HT_.out (by kernel_rfl)) (fun _ _ _ h => h) (Or.inl ⟨by rfl, ?_⟩) ?_ ?_
                    rotate_left
                    · intro w'
                      go_simp
                      with_reducible rfl
                    rotate_left
                    · simp only [Act.put, List.setIfInBounds_toArray, List.set_cons_zero, List.set_cons_succ, i64_w, i32_w]
                      rfl
                    refine pure_ (i := 13) (N := some 115) (v := ?_) (a' := ?_) #[true, true, true, true, true, true, true, true, true, true, true, true, true, true, false, false, false] rfl rfl (any_of HT_.out (by kernel_rfl)) (fun _ _ _ h => h) (Or.inl ⟨by rfl, ?_⟩) ?_ ?_
                    rotate_left
                    · intro w'
                      go_simp
                      with_reducible rfl
                    rotate_left
                    · simp only [Act.put, List.setIfInBounds_toArray, List.set_cons_zero, List.set_cons_succ, i64_w, i32_w]
                      rfl
                    refine pure_ (i := 14) (N := some 116) (v := ?_) (a' := ?_) #[true, true, true, true, true, true, true, true, true, true, true, true, true, true, true, false, false] rfl rfl (any_of HT_.out (by kernel_rfl)) (fun _ _ _ h => h) (Or.inl ⟨by rfl, ?_⟩) ?_ ?_
                    rotate_left
                    · intro w'
                      go_simp
                      with_reducible rfl
                    rotate_left
                    · simp only [Act.put, List.setIfInBounds_toArray, List.set_cons_zero, List.set_cons_succ, i64_w, i32_w]
                      rfl
                    refine pure_ (i := 15) (N := some 18) (v := ?_) (a' := ?_) #[true, true, true, true, true, true, true, true, true, true, true, true, true, true, true, true, false] rfl rfl (any_of HT_.out (by kernel_rfl)) (fun _ _ _ h => h) (Or.inl ⟨by rfl, ?_⟩) ?_ ?_
                    rotate_left
                    · intro w'
                      go_simp
                      with_reducible rfl
                    rotate_left
                    · simp only [Act.put, List.setIfInBounds_toArray, List.set_cons_zero, List.set_cons_succ, i64_w, i32_w]
                      rfl
                    refine pure_ (i := 16) (N := some 19) (v := ?_) (a' := ?_) #[true, true, true, true, true, true, true, true, true, true, true, true, true, true, true, true, true] rfl rfl (any_of HT_.out (by kernel_rfl)) (fun _ _ _ h => h) (Or.inl ⟨by rfl, ?_⟩) ?_ ?_
                    rotate_left
                    · intro w'
                      go_simp
                      with_reducible rfl
                    rotate_left
                    · simp only [Act.put, List.setIfInBounds_toArray, List.set_cons_zero, List.set_cons_succ, i64_w, i32_w]
                      rfl
                    refine done_ (done_of HT_.out (by kernel_rfl)) ?_
                    -- REGION22 end
                    obtain ⟨y0, y1, y2, y3, y4⟩ := notation_lacks.st_cells HI8.out
                    clear q6 q7 q8
                    go_wp2_with (first | (go_at_call 38; with_reducible refine (notation_lacks.Inv.say HI8.out m2 (rd_T54 (rd_T46 l1_2 a2).f3 i).f0 4 a2 (by simp [notation_lacks.LL]) HS4.out).mono ?_; rintro e w2 ⟨rfl, hI2⟩; have HI9 := Aside0.mk hI2; clear hI2))
                    cases gk with
                    | zero => exact absurd HK.out (by omega)
                    | succ g' =>
                      go_roundg g'
                      case measure => omega
                      case rel => exact ⟨i + 1, x', by go_num, ⟨by have := HK.out; omega⟩, HX, ⟨HI9.out.pop⟩⟩
                · have hlt' : ¬ (i : Int) < ((rd_T46 l1_2 a2).f3.length : Int) := by omega
                  have ei : i = (rd_T46 l1_2 a2).f3.length := by have := HK.out; omega
                  have hx := HX.out
                  rw [ei, List.drop_length] at hx
                  obtain rfl := Option.some.inj hx
                  obtain ⟨v, g1, g2, g3, g4, g5⟩ := HI.out
                  have G2 := Aside0.mk g2
                  have G5 := Aside0.mk g5
                  have y0 : wr.cell? ⟨w.heap.size + 1 + 1, 0, none⟩ = some v := (blk_cell g1 0).trans rfl
                  clear hx ei g1 g2 g3 g4 g5
                  go_wp2_with fail
                  go_ret
                  exact ⟨v, rfl, G2.out, G5.out⟩
      · rw [if_neg c3] at h
        exact absurd h (by simp)
    · rw [if_neg c2] at h
      exact absurd h (by simp)
  · rw [if_neg c1] at h
    exact absurd h (by simp)

/-! ### notation_timeWord: function 45 -/
def notation_timeWord.f (a0 : Int) (a1_0 : Int) (a1_1 : Bool) (a1_2 : Bool) : Option (ByteArray × Bool) := if a1_0 = 0 then ((dyn_notation_has.f a0 6).bind fun t459 => (some ((⟨#[45]⟩ : ByteArray), t459))) else (if a1_2 = true then (if 0 ≤ (wrap64 (a1_0 - 1)) then (if (wrap64 (a1_0 - 1)) ≤ a1_0 then (if a1_0 ≤ 7 then (if ((⟨#[66, 83, 77, 67, 81, 88, 68]⟩ : ByteArray).extract ((wrap64 (a1_0 - 1)) : Int).toNat (a1_0 : Int).toNat).size + 1 ≤ 9223372036854775807 then ((dyn_notation_has.f a0 5).bind fun t460 => (some (((⟨#[66, 83, 77, 67, 81, 88, 68]⟩ : ByteArray).extract ((wrap64 (a1_0 - 1)) : Int).toNat (a1_0 : Int).toNat) ++ (⟨#[51]⟩ : ByteArray), t460))) else (none)) else (none)) else (none)) else (none)) else (if a1_1 = true then (if 0 ≤ (wrap64 (a1_0 - 1)) then (if (wrap64 (a1_0 - 1)) ≤ a1_0 then (if a1_0 ≤ 7 then (if ((⟨#[66, 83, 77, 67, 81, 88, 68]⟩ : ByteArray).extract ((wrap64 (a1_0 - 1)) : Int).toNat (a1_0 : Int).toNat).size + 1 ≤ 9223372036854775807 then (some (((⟨#[66, 83, 77, 67, 81, 88, 68]⟩ : ByteArray).extract ((wrap64 (a1_0 - 1)) : Int).toNat (a1_0 : Int).toNat) ++ (⟨#[46]⟩ : ByteArray), true)) else (none)) else (none)) else (none)) else (none)) else (if 0 ≤ (wrap64 (a1_0 - 1)) then (if (wrap64 (a1_0 - 1)) ≤ a1_0 then (if a1_0 ≤ 7 then (some ((⟨#[66, 83, 77, 67, 81, 88, 68]⟩ : ByteArray).extract ((wrap64 (a1_0 - 1)) : Int).toNat (a1_0 : Int).toNat, true)) else (none)) else (none)) else (none))))
def notation_timeWord.T4 : Bool × List (List Nat × List Nat) := (true, [([], []), ([0], [0]), ([1], [1]), ([], []), ([3], [3]), ([2, 4], [2, 4]), ([5], [5]), ([], []), ([7], [7]), ([6, 8, 0, 1, 2, 3, 4, 5, 6], [6]), ([8, 9, 0, 1, 2, 3, 4, 5, 6, 7, 8, 9], [8])])
def notation_timeWord.B4 : List Nat := [0, 1, 3, 0, 8, 31, 63, 0, 128, 511, 1023]
theorem notation_timeWord.tab4 : rtab .any (opsOf Tryz.f45 4) = notation_timeWord.T4 := by kernel_rfl
theorem notation_timeWord.bits4 : waitsOk notation_timeWord.T4.2 notation_timeWord.B4 = true := by kernel_rfl
set_option maxHeartbeats 8000000 in
set_option maxRecDepth 100000 in
theorem notation_timeWord.calls (a0 : Int) (a1_0 : Int) (a1_1 : Bool) (a1_2 : Bool) (r1 : ByteArray) (r2 : Bool) (w : World) (h : notation_timeWord.f a0 a1_0 a1_1 a1_2 = some (r1, r2)) :
    Calls Tryz.prog 45 #[sysW a0, .agg #[.int .i64 a1_0, .bool a1_1, .bool a1_2]] w fun e w' => e = .returned (.tuple #[.string r1, .bool r2]) ∧ Below w.heap.size w w' := by
  have hu43 := Tryz.underlying43
  have HB := Aside0.mk (Below.refl w.heap.size w)
  have H : (if a1_0 = 0 then ((dyn_notation_has.f a0 6).bind fun t459 => (some ((⟨#[45]⟩ : ByteArray), t459))) else (if a1_2 = true then (if 0 ≤ (wrap64 (a1_0 - 1)) then (if (wrap64 (a1_0 - 1)) ≤ a1_0 then (if a1_0 ≤ 7 then (if ((⟨#[66, 83, 77, 67, 81, 88, 68]⟩ : ByteArray).extract ((wrap64 (a1_0 - 1)) : Int).toNat (a1_0 : Int).toNat).size + 1 ≤ 9223372036854775807 then ((dyn_notation_has.f a0 5).bind fun t460 => (some (((⟨#[66, 83, 77, 67, 81, 88, 68]⟩ : ByteArray).extract ((wrap64 (a1_0 - 1)) : Int).toNat (a1_0 : Int).toNat) ++ (⟨#[51]⟩ : ByteArray), t460))) else (none)) else (none)) else (none)) else (none)) else (if a1_1 = true then (if 0 ≤ (wrap64 (a1_0 - 1)) then (if (wrap64 (a1_0 - 1)) ≤ a1_0 then (if a1_0 ≤ 7 then (if ((⟨#[66, 83, 77, 67, 81, 88, 68]⟩ : ByteArray).extract ((wrap64 (a1_0 - 1)) : Int).toNat (a1_0 : Int).toNat).size + 1 ≤ 9223372036854775807 then (some (((⟨#[66, 83, 77, 67, 81, 88, 68]⟩ : ByteArray).extract ((wrap64 (a1_0 - 1)) : Int).toNat (a1_0 : Int).toNat) ++ (⟨#[46]⟩ : ByteArray), true)) else (none)) else (none)) else (none)) else (none)) else (if 0 ≤ (wrap64 (a1_0 - 1)) then (if (wrap64 (a1_0 - 1)) ≤ a1_0 then (if a1_0 ≤ 7 then (some ((⟨#[66, 83, 77, 67, 81, 88, 68]⟩ : ByteArray).extract ((wrap64 (a1_0 - 1)) : Int).toNat (a1_0 : Int).toNat, true)) else (none)) else (none)) else (none))))) = some (r1, r2) := h
  clear h
  have HC3 := Aside0.mk H
  clear H
  go_enter Tryz.func45, Tryz.ntmps45
  go_upto_if 6 with (first | ((with_reducible refine gate_dst (N := 3) rfl ?_); refine bx_ 3 #[.int .i64 a1_0, .bool a1_1, .bool a1_2] 43 HB ?_; clear HB; intro gb458 w4 hg hb BK458 HB GW458; have GE458 := GW458; clear hg hb; have hcz5 := blk_cell BK458.out; have hfz5 := blk_frozen BK458.out))
  (try simp only [Act.put, List.setIfInBounds_toArray, List.set_cons_zero, List.set_cons_succ])
  have H := HC3.out
  clear HC3
  by_cases c6 : a1_0 = 0
  · rw [if_pos c6] at H
    (obtain ⟨c6b0, c6b1⟩ := eqT_ c6); clear c6; ((first | rw [c6b0] | rw [c6b1] | (simp only [i64_w, i32_w]; rw [c6b0]) | skip)); (replace H := Option.bind_eq_some_iff.mp H); (obtain ⟨t459, A70, H⟩ := H); (try dsimp only at H); (have A7 := Aside0.mk A70); clear A70; (simp only [Option.some.injEq, Prod.mk.injEq] at H); (obtain ⟨rfl, rfl⟩ := H); (go_wp2_with (first | ((with_reducible refine gate_invoke_ (m := "theorbo/notation.has") rfl ?_); refine goesI_ (some 11) rfl rfl (sysW a0) #[.int .i64 6] rfl (by rfl) (by (try simp only [mA_, mB_, mC_]); first | done | rfl | (simp only [List.length_drop, List.length_take]; rfl)) ?_; (with_reducible refine (dyn_notation_has.calls a0 6 t459 _ A7.out).mono ?_); rintro e w8 ⟨rfl, hb⟩; refine ⟨_, rfl, ?_⟩; replace BK458 := bb_ BK458 hb; replace HB := bs_ HB hb; (try clear hb); (try clear hb2); (try clear hk); (try clear hi)))); (go_ret2); (exact ⟨rv_, bl_ HB⟩)
  · rw [if_neg c6] at H
    (obtain ⟨c6b0, c6b1⟩ := eqF_ c6); ((first | rw [c6b0] | rw [c6b1] | (simp only [i64_w, i32_w]; rw [c6b0]) | skip)); (have HC9 := Aside0.mk H); clear H; (have hcz10 := blk_cell BK458.out); (have hfz10 := blk_frozen BK458.out); (go_upto_if 12 with (fail)); (have H := HC9.out); clear HC9; (by_cases c11 : a1_2 = true)
    · subst c11
      (rw [if_pos rfl] at H); (obtain ⟨ji12, hji12⟩ : ∃ j_ : Int, (wrap64 (a1_0 - 1)) = j_ := ⟨_, rfl⟩); (replace H : (if 0 ≤ (ji12) then (if (ji12) ≤ a1_0 then (if a1_0 ≤ 7 then (if ((⟨#[66, 83, 77, 67, 81, 88, 68]⟩ : ByteArray).extract ((ji12) : Int).toNat (a1_0 : Int).toNat).size + 1 ≤ 9223372036854775807 then ((dyn_notation_has.f a0 5).bind fun t460 => (some (((⟨#[66, 83, 77, 67, 81, 88, 68]⟩ : ByteArray).extract ((ji12) : Int).toNat (a1_0 : Int).toNat) ++ (⟨#[51]⟩ : ByteArray), t460))) else (none)) else (none)) else (none)) else (none)) = some (r1, r2) := by first | (rw [hji12] at H; exact H) | (simp only [hji12] at H ⊢; exact H)); (have hji12w : (IntKind.i64.wrap (a1_0 - 1)) = ji12 := (i64_w _).trans hji12); (by_cases c13 : 0 ≤ (ji12))
      · rw [if_pos c13] at H
        (have c13b0 := eq_true c13); (have c13b1 : decide (0 ≤ (ji12)) = true := decide_eq_true c13); clear c13; (by_cases c14 : (ji12) ≤ a1_0)
        · rw [if_pos c14] at H
          (have c14b0 := eq_true c14); (have c14b1 : decide ((ji12) ≤ a1_0) = true := decide_eq_true c14); clear c14; (by_cases c15 : a1_0 ≤ 7)
          · rw [if_pos c15] at H
            (have c15b0 := eq_true c15); (have c15b1 : decide (a1_0 ≤ 7) = true := decide_eq_true c15); clear c15; (by_cases c16 : ((⟨#[66, 83, 77, 67, 81, 88, 68]⟩ : ByteArray).extract ((ji12) : Int).toNat (a1_0 : Int).toNat).size + 1 ≤ 9223372036854775807)
            · rw [if_pos c16] at H
              (have c16b0 := eq_true c16); (have c16b1 : decide (((⟨#[66, 83, 77, 67, 81, 88, 68]⟩ : ByteArray).extract ((ji12) : Int).toNat (a1_0 : Int).toNat).size + 1 ≤ 9223372036854775807) = true := decide_eq_true c16); (try have c16b2 : (9223372036854775807 < ((⟨#[66, 83, 77, 67, 81, 88, 68]⟩ : ByteArray).extract ((ji12) : Int).toNat (a1_0 : Int).toNat).size + 1) = False := eq_false (Nat.not_lt.2 c16)); (try have c16b3 : (9223372036854775807 < ((a1_0 : Int).toNat - ((ji12) : Int).toNat) + 1) = False := eq_false (by have h_ := c16; simp only [ByteArray.size_extract] at h_; have e0_ : ((⟨#[66, 83, 77, 67, 81, 88, 68]⟩ : ByteArray)).size = 7 := rfl; (try simp only [decide_eq_true_eq, decide_eq_true_iff] at *); omega)); (replace H := Option.bind_eq_some_iff.mp H); (obtain ⟨t460, A170, H⟩ := H); (try dsimp only at H); (have A17 := Aside0.mk A170); clear A170; (simp only [Option.some.injEq, Prod.mk.injEq] at H); (obtain ⟨rfl, rfl⟩ := H); (try go_wp2); (replace BK458 := Aside0.mk (blk_drew BK458.out)); (replace HB := Aside0.mk (below_drew1 HB.out)); (refine start_ (n := 11) (S := fun w' => w'.cell? ⟨gb458, 0, none⟩ = some (.int .i64 a1_0) ∧ w'.cell? ⟨gb458, 1, none⟩ = some (.bool a1_1) ∧ w'.cell? ⟨gb458, 2, none⟩ = some (.bool true)) (ds := []) _ (by kernel_rfl) rfl rfl ⟨(blk_cell BK458.out 0).trans rfl, (blk_cell BK458.out 1).trans rfl, (blk_cell BK458.out 2).trans rfl⟩ (fun hHeld => ?_); refine with_tabW notation_timeWord.tab4 notation_timeWord.bits4 (fun HT_ HW_ => ?_)); (generalize w4.drew = w18 at BK458 HB hHeld ⊢); (refine pS_ 0 (some 15) HT_ ?_); (refine pS_ 3 (some 18) HT_ ?_); (refine pS_ 7 (some 22) HT_ ?_); (refine tS_ 1 (some 16) HT_ HW_ hHeld ?_); (refine pS_ 2 (some 17) HT_ ?_); (refine tS_ 4 (some 19) HT_ HW_ hHeld ?_); (refine pS_ 5 (some 20) HT_ ?_); (refine pS_ 6 (some 21) HT_ ?_); (refine oS_ 8 (some 23) HT_ (fun K hK => ?_)); (refine goesIR_ (sysW a0) #[.int .i64 5] (by rfl) rfl rfl (by rfl) (by (try simp only [mA_, mB_, mC_]); first | done | rfl | (simp only [List.length_drop, List.length_take]; rfl)) ?_); (with_reducible refine (dyn_notation_has.calls a0 5 t460 _ A17.out).mono ?_); (rintro e w19 ⟨rfl, hb⟩); (refine ⟨_, rfl, ?_⟩); (replace BK458 := bb_ BK458 hb); (replace HB := bs_ HB hb); ((try clear hb)); ((try clear hb2)); ((try clear hk)); ((try clear hi)); (refine hK.out _ _ ⟨(blk_cell BK458.out 0).trans rfl, (blk_cell BK458.out 1).trans rfl, (blk_cell BK458.out 2).trans rfl⟩ (fun hHeld => ?_)); clear hK K; (refine nS_ (some 23) ?_); (refine pS_ 9 (some 4) HT_ ?_); (refine pS_ 10 (some 5) HT_ ?_); (refine done_ (done_of HT_.out (by kernel_rfl)) ?_); (try go_wp2); (go_ret2); (exact ⟨by first | rfl | (simp [errW_none, errW_some] <;> rfl) | (simp only [← hji12]; first | rfl | (simp [errW_none, errW_some] <;> rfl)) | (simp [*, errW_none, errW_some] <;> rfl), bl_ HB⟩)
            · rw [if_neg c16] at H
              exact absurd H (by simp)
          · rw [if_neg c15] at H
            exact absurd H (by simp)
        · rw [if_neg c14] at H
          exact absurd H (by simp)
      · rw [if_neg c13] at H
        exact absurd H (by simp)
    · replace c11 := Bool.eq_false_iff.mpr c11
      subst c11; (rw [if_neg Bool.false_ne_true] at H); (have HC20 := Aside0.mk H); clear H; (have hcz21 := blk_cell BK458.out); (have hfz21 := blk_frozen BK458.out); (go_upto_if 24 with (fail)); (have H := HC20.out); clear HC20; (by_cases c22 : a1_1 = true)
      · subst c22
        (rw [if_pos rfl] at H); (obtain ⟨ji23, hji23⟩ : ∃ j_ : Int, (wrap64 (a1_0 - 1)) = j_ := ⟨_, rfl⟩); (replace H : (if 0 ≤ (ji23) then (if (ji23) ≤ a1_0 then (if a1_0 ≤ 7 then (if ((⟨#[66, 83, 77, 67, 81, 88, 68]⟩ : ByteArray).extract ((ji23) : Int).toNat (a1_0 : Int).toNat).size + 1 ≤ 9223372036854775807 then (some (((⟨#[66, 83, 77, 67, 81, 88, 68]⟩ : ByteArray).extract ((ji23) : Int).toNat (a1_0 : Int).toNat) ++ (⟨#[46]⟩ : ByteArray), true)) else (none)) else (none)) else (none)) else (none)) = some (r1, r2) := by first | (rw [hji23] at H; exact H) | (simp only [hji23] at H ⊢; exact H)); (have hji23w : (IntKind.i64.wrap (a1_0 - 1)) = ji23 := (i64_w _).trans hji23); (by_cases c24 : 0 ≤ (ji23))
        · rw [if_pos c24] at H
          (have c24b0 := eq_true c24); (have c24b1 : decide (0 ≤ (ji23)) = true := decide_eq_true c24); clear c24; (by_cases c25 : (ji23) ≤ a1_0)
          · rw [if_pos c25] at H
            (have c25b0 := eq_true c25); (have c25b1 : decide ((ji23) ≤ a1_0) = true := decide_eq_true c25); clear c25; (by_cases c26 : a1_0 ≤ 7)
            · rw [if_pos c26] at H
              (have c26b0 := eq_true c26); (have c26b1 : decide (a1_0 ≤ 7) = true := decide_eq_true c26); clear c26; (by_cases c27 : ((⟨#[66, 83, 77, 67, 81, 88, 68]⟩ : ByteArray).extract ((ji23) : Int).toNat (a1_0 : Int).toNat).size + 1 ≤ 9223372036854775807)
              · rw [if_pos c27] at H
                (have c27b0 := eq_true c27); (have c27b1 : decide (((⟨#[66, 83, 77, 67, 81, 88, 68]⟩ : ByteArray).extract ((ji23) : Int).toNat (a1_0 : Int).toNat).size + 1 ≤ 9223372036854775807) = true := decide_eq_true c27); (try have c27b2 : (9223372036854775807 < ((⟨#[66, 83, 77, 67, 81, 88, 68]⟩ : ByteArray).extract ((ji23) : Int).toNat (a1_0 : Int).toNat).size + 1) = False := eq_false (Nat.not_lt.2 c27)); (try have c27b3 : (9223372036854775807 < ((a1_0 : Int).toNat - ((ji23) : Int).toNat) + 1) = False := eq_false (by have h_ := c27; simp only [ByteArray.size_extract] at h_; have e0_ : ((⟨#[66, 83, 77, 67, 81, 88, 68]⟩ : ByteArray)).size = 7 := rfl; (try simp only [decide_eq_true_eq, decide_eq_true_iff] at *); omega)); (simp only [Option.some.injEq, Prod.mk.injEq] at H); (obtain ⟨rfl, rfl⟩ := H); (have hcz28 := blk_cell BK458.out); (have hfz28 := blk_frozen BK458.out); (go_wp2); (go_ret2); (exact ⟨by first | rfl | (simp [errW_none, errW_some] <;> rfl) | (simp only [← hji23]; first | rfl | (simp [errW_none, errW_some] <;> rfl)) | (simp [*, errW_none, errW_some] <;> rfl), bl_ HB⟩)
              · rw [if_neg c27] at H
                exact absurd H (by simp)
            · rw [if_neg c26] at H
              exact absurd H (by simp)
          · rw [if_neg c25] at H
            exact absurd H (by simp)
        · rw [if_neg c24] at H
          exact absurd H (by simp)
      · replace c22 := Bool.eq_false_iff.mpr c22
        subst c22; (rw [if_neg Bool.false_ne_true] at H); (obtain ⟨ji29, hji29⟩ : ∃ j_ : Int, (wrap64 (a1_0 - 1)) = j_ := ⟨_, rfl⟩); (replace H : (if 0 ≤ (ji29) then (if (ji29) ≤ a1_0 then (if a1_0 ≤ 7 then (some ((⟨#[66, 83, 77, 67, 81, 88, 68]⟩ : ByteArray).extract ((ji29) : Int).toNat (a1_0 : Int).toNat, true)) else (none)) else (none)) else (none)) = some (r1, r2) := by first | (rw [hji29] at H; exact H) | (simp only [hji29] at H ⊢; exact H)); (have hji29w : (IntKind.i64.wrap (a1_0 - 1)) = ji29 := (i64_w _).trans hji29); (by_cases c30 : 0 ≤ (ji29))
        · rw [if_pos c30] at H
          (have c30b0 := eq_true c30); (have c30b1 : decide (0 ≤ (ji29)) = true := decide_eq_true c30); clear c30; (by_cases c31 : (ji29) ≤ a1_0)
          · rw [if_pos c31] at H
            (have c31b0 := eq_true c31); (have c31b1 : decide ((ji29) ≤ a1_0) = true := decide_eq_true c31); clear c31; (by_cases c32 : a1_0 ≤ 7)
            · rw [if_pos c32] at H
              (have c32b0 := eq_true c32); (have c32b1 : decide (a1_0 ≤ 7) = true := decide_eq_true c32); clear c32; (simp only [Option.some.injEq, Prod.mk.injEq] at H); (obtain ⟨rfl, rfl⟩ := H); (have hcz33 := blk_cell BK458.out); (have hfz33 := blk_frozen BK458.out); (go_wp2); (go_ret2); (exact ⟨by first | rfl | (simp [errW_none, errW_some] <;> rfl) | (simp only [← hji29]; first | rfl | (simp [errW_none, errW_some] <;> rfl)) | (simp [*, errW_none, errW_some] <;> rfl), bl_ HB⟩)
            · rw [if_neg c32] at H
              exact absurd H (by simp)
          · rw [if_neg c31] at H
            exact absurd H (by simp)
        · rw [if_neg c30] at H
          exact absurd H (by simp)

/-! ### strings_Join: function 46, told by hand -/
/-- strings.Join. -/
def strings_Join.f (l0 : List ByteArray) (a1 : ByteArray) : Option ByteArray := if l0.length ≤ 140737488355328 then (if (Lib.join (l0.map (·.data.toList)) a1.data.toList).length ≤ 140737488355328 then some ⟨(Lib.join (l0.map (·.data.toList)) a1.data.toList).toArray⟩ else none) else none
theorem strings_Join.calls (A0 : Option Addr) (c0 : Nat) (l0 : List ByteArray) (a1 : ByteArray) (r : ByteArray) (w : World) (hr0 : Kd.C Kd.string w A0 l0.length l0) (hc0 : l0.length ≤ c0) (h : strings_Join.f l0 a1 = some r) :
    Calls Tryz.prog 46 #[.slice A0 l0.length c0, .string a1] w fun e w' => e = .returned (.string r) ∧ Below w.heap.size w w' := by
  unfold strings_Join.f at h
  by_cases h0 : l0.length ≤ 140737488355328
  · by_cases h1 : (Lib.join (l0.map (·.data.toList)) a1.data.toList).length ≤ 140737488355328
    · rw [if_pos h0, if_pos h1] at h
      obtain rfl := Option.some.inj h
      cases l0 with
      | nil =>
        refine (Go.Proofs.Tryz.strings_Join_none A0 c0 a1 w).mono ?_
        rintro e w' ⟨rfl, rfl⟩
        exact ⟨by simp [Lib.join_nil], Below.refl _ _⟩
      | cons x l =>
        obtain ⟨ad, rfl, hcells⟩ := hr0.2.2 (by simp)
        have hcell : ∀ (j : Nat) y, (x :: l)[j]? = some y → w.cell? (ad.add j) = some (.string y) := by
          intro j y hj
          obtain ⟨c, hl, hk, hc⟩ := hcells j y hj
          have hk' : c = [.string y] := hk
          subst hk'
          have := hc 0 (.string y) rfl
          simpa [Kd.string, Kd.scalar] using this
        have h00 := hcell 0 x rfl
        have h000 : w.cell? ad = some (.string x) := by simpa [Addr.add] using h00
        have hlt := World.block_lt_of_cell? w _ h000
        obtain ⟨bk, o, sp⟩ := ad
        cases sp with
        | some s =>
          exfalso
          unfold World.cell? at h000
          split at h000 <;> simp at h000
        | none =>
          refine Go.Proofs.Tryz.strings_Join bk o c0 (x :: l) a1 w ?_ hlt h0 hc0 h1
          intro j y hj
          have h2 := hcell j y hj
          by_cases hj0 : j = 0
          · subst hj0
            simpa [Addr.add] using h2
          · simpa [Addr.add, hj0] using h2
    · rw [if_pos h0, if_neg h1] at h
      cases h
  · rw [if_neg h0] at h
    cases h

/-! ### notation_staff: function 47 -/
def notation_staff.f (l0_0 : List (S99)) (l0_1 : List Int) : Option (Int) := some (mn (l0_0.length : Int) 6)
set_option maxHeartbeats 8000000 in
set_option maxRecDepth 100000 in
theorem notation_staff.calls (A0_0 : Option Addr) (c0_0 : Nat) (l0_0 : List (S99)) (A0_1 : Option Addr) (c0_1 : Nat) (l0_1 : List Int) (r : Int) (w : World) (hr0_0 : Kd.C k99 w A0_0 l0_0.length l0_0) (hc0_0 : l0_0.length ≤ c0_0) (hr0_1 : Kd.C (Kd.int .i64) w A0_1 l0_1.length l0_1) (hc0_1 : l0_1.length ≤ c0_1) (h : notation_staff.f l0_0 l0_1 = some r) :
    Calls Tryz.prog 47 #[.agg #[.slice A0_0 l0_0.length c0_0, .slice A0_1 l0_1.length c0_1]] w fun e w' => e = .returned (.int .i64 r) ∧ Below w.heap.size w w' := by
  have hu26 := Tryz.underlying26
  have HR0_0 := Aside0.mk hr0_0
  have HC0_0 := Aside0.mk hc0_0
  clear hr0_0 hc0_0
  have HR0_1 := Aside0.mk hr0_1
  have HC0_1 := Aside0.mk hc0_1
  clear hr0_1 hc0_1
  have HB := Aside0.mk (Below.refl w.heap.size w)
  have H : (some (mn (l0_0.length : Int) 6)) = some r := h
  clear h
  obtain ⟨ji2, hji2⟩ : ∃ j_ : Int, (mn (l0_0.length : Int) 6) = j_ := ⟨_, rfl⟩
  replace H : (some ji2) = some r := by first | (rw [hji2] at H; exact H) | (simp only [hji2] at H ⊢; exact H)
  (try (have hji2h : ji2 ≤ 6 := by (rw [← hji2]; unfold mn; (repeat' split) <;> omega)))
  (try (have hji2g : ji2 ≤ 64 := by omega))
  (try (have hji2l : 0 ≤ ji2 := by (rw [← hji2]; unfold mn; (repeat' split) <;> omega)))
  (try (have hji2m : 0 ≤ ji2 := by omega))
  have hji2_ : (if 6 < (l0_0.length : Int) then 6 else (l0_0.length : Int)) = ji2 := hji2
  obtain rfl := Option.some.inj H
  go_enter Tryz.func47, Tryz.ntmps47
  go_wp2_with (first | ((with_reducible refine gate_dst (N := 1) rfl ?_); refine bx_ 1 #[.slice A0_0 l0_0.length c0_0, .slice A0_1 l0_1.length c0_1] 26 HB ?_; clear HB; intro gb461 w3 hg hb BK461 HB GW461; have GE461 := GW461; clear hg hb; have hcz4 := blk_cell BK461.out; have hfz4 := blk_frozen BK461.out))
  go_ret
  exact ⟨by first | rfl | (simp [errW_none, errW_some] <;> rfl) | (simp only [← hji2]; first | rfl | (simp [errW_none, errW_some] <;> rfl)) | (simp [*, errW_none, errW_some] <;> rfl), bl_ HB⟩

/-! ### notation_french_line: function 95 -/
def notation_french_line.f  (a1 : Int) (a2 : Int) : Option (Int) := some a1
set_option maxHeartbeats 8000000 in
set_option maxRecDepth 100000 in
theorem notation_french_line.calls  (a1 : Int) (a2 : Int) (r : Int) (w : World) (h : notation_french_line.f a1 a2 = some r) :
    Calls Tryz.prog 95 #[.agg #[], .int .i64 a1, .int .i64 a2] w fun e w' => e = .returned (.int .i64 r) ∧ Below w.heap.size w w' := by
  have hu78 := Tryz.underlying78
  have HB := Aside0.mk (Below.refl w.heap.size w)
  have H : (some a1) = some r := h
  clear h
  obtain rfl := Option.some.inj H
  go_enter Tryz.func95, Tryz.ntmps95
  go_wp2_with (first | ((with_reducible refine gate_dst (N := 3) rfl ?_); refine bx_ 3 #[] 78 HB ?_; clear HB; intro gb463 w4 hg hb BK463 HB GW463; have GE463 := GW463; clear hg hb))
  go_ret
  exact ⟨rv_, bl_ HB⟩

/-! ### notation_italian_line: function 126 -/
def notation_italian_line.f  (a1 : Int) (a2 : Int) : Option (Int) := some (wrap64 ((wrap64 (a2 + 1)) - a1))
set_option maxHeartbeats 8000000 in
set_option maxRecDepth 100000 in
theorem notation_italian_line.calls  (a1 : Int) (a2 : Int) (r : Int) (w : World) (h : notation_italian_line.f a1 a2 = some r) :
    Calls Tryz.prog 126 #[.agg #[], .int .i64 a1, .int .i64 a2] w fun e w' => e = .returned (.int .i64 r) ∧ Below w.heap.size w w' := by
  have hu82 := Tryz.underlying82
  have HB := Aside0.mk (Below.refl w.heap.size w)
  have H : (some (wrap64 ((wrap64 (a2 + 1)) - a1))) = some r := h
  clear h
  obtain rfl := Option.some.inj H
  go_enter Tryz.func126, Tryz.ntmps126
  go_wp2_with (first | ((with_reducible refine gate_dst (N := 3) rfl ?_); refine bx_ 3 #[] 82 HB ?_; clear HB; intro gb465 w4 hg hb BK465 HB GW465; have GE465 := GW465; clear hg hb))
  go_ret
  exact ⟨rv_, bl_ HB⟩

/-! ### notation_spanish_line: function 134 -/
def notation_spanish_line.f  (a1 : Int) (a2 : Int) : Option (Int) := some a1
set_option maxHeartbeats 8000000 in
set_option maxRecDepth 100000 in
theorem notation_spanish_line.calls  (a1 : Int) (a2 : Int) (r : Int) (w : World) (h : notation_spanish_line.f a1 a2 = some r) :
    Calls Tryz.prog 134 #[.agg #[], .int .i64 a1, .int .i64 a2] w fun e w' => e = .returned (.int .i64 r) ∧ Below w.heap.size w w' := by
  have hu84 := Tryz.underlying84
  have HB := Aside0.mk (Below.refl w.heap.size w)
  have H : (some a1) = some r := h
  clear h
  obtain rfl := Option.some.inj H
  go_enter Tryz.func134, Tryz.ntmps134
  go_wp2_with (first | ((with_reducible refine gate_dst (N := 3) rfl ?_); refine bx_ 3 #[] 84 HB ?_; clear HB; intro gb467 w4 hg hb BK467 HB GW467; have GE467 := GW467; clear hg hb))
  go_ret
  exact ⟨rv_, bl_ HB⟩

/-! ### notation_german_line: function 141 -/
def notation_german_line.f  (a1 : Int) (a2 : Int) : Option (Int) := some 0
set_option maxHeartbeats 8000000 in
set_option maxRecDepth 100000 in
theorem notation_german_line.calls  (a1 : Int) (a2 : Int) (r : Int) (w : World) (h : notation_german_line.f a1 a2 = some r) :
    Calls Tryz.prog 141 #[.agg #[], .int .i64 a1, .int .i64 a2] w fun e w' => e = .returned (.int .i64 r) ∧ Below w.heap.size w w' := by
  have hu86 := Tryz.underlying86
  have HB := Aside0.mk (Below.refl w.heap.size w)
  have H : (some 0) = some r := h
  clear h
  obtain rfl := Option.some.inj H
  go_enter Tryz.func141, Tryz.ntmps141
  go_wp2_with (first | ((with_reducible refine gate_dst (N := 3) rfl ?_); refine bx_ 3 #[] 86 HB ?_; clear HB; intro gb469 w4 hg hb BK469 HB GW469; have GE469 := GW469; clear hg hb))
  go_ret
  exact ⟨rv_, bl_ HB⟩

/-! ### dyn_notation_line: a method of an interface's value, by its tag -/
def dyn_notation_line.f (a0 : Int) (a1 : Int) (a2 : Int) : Option (Int) := if a0 = 1 then notation_french_line.f a1 a2 else if a0 = 2 then notation_italian_line.f a1 a2 else if a0 = 3 then notation_spanish_line.f a1 a2 else if a0 = 4 then notation_german_line.f a1 a2 else  none
set_option maxRecDepth 100000 in
theorem dyn_notation_line.calls (a0 : Int) (a1 : Int) (a2 : Int) (r : Int) (w : World) (h : dyn_notation_line.f a0 a1 a2 = some r) :
    Invokes Tryz.prog (sysW a0) "theorbo/notation.line" #[.int .i64 a1, .int .i64 a2] w fun e w' => e = .returned (.int .i64 r) ∧ Below w.heap.size w w' := by
  unfold dyn_notation_line.f at h
  by_cases c1 : a0 = 1
  · subst c1
    rw [if_pos rfl] at h
    exact ⟨95, _, (fun w => by kernel_rfl : ∀ w : World, (callMethod (sysW 1) "theorbo/notation.line" #[.int .i64 a1, .int .i64 a2]).run Tryz.prog w = .ok (.enter 95 #[.agg #[], .int .i64 a1, .int .i64 a2]) w) w, (notation_french_line.calls a1 a2 r w h)⟩
  rw [if_neg c1] at h
  by_cases c2 : a0 = 2
  · subst c2
    rw [if_pos rfl] at h
    exact ⟨126, _, (fun w => by kernel_rfl : ∀ w : World, (callMethod (sysW 2) "theorbo/notation.line" #[.int .i64 a1, .int .i64 a2]).run Tryz.prog w = .ok (.enter 126 #[.agg #[], .int .i64 a1, .int .i64 a2]) w) w, (notation_italian_line.calls a1 a2 r w h)⟩
  rw [if_neg c2] at h
  by_cases c3 : a0 = 3
  · subst c3
    rw [if_pos rfl] at h
    exact ⟨134, _, (fun w => by kernel_rfl : ∀ w : World, (callMethod (sysW 3) "theorbo/notation.line" #[.int .i64 a1, .int .i64 a2]).run Tryz.prog w = .ok (.enter 134 #[.agg #[], .int .i64 a1, .int .i64 a2]) w) w, (notation_spanish_line.calls a1 a2 r w h)⟩
  rw [if_neg c3] at h
  by_cases c4 : a0 = 4
  · subst c4
    rw [if_pos rfl] at h
    exact ⟨141, _, (fun w => by kernel_rfl : ∀ w : World, (callMethod (sysW 4) "theorbo/notation.line" #[.int .i64 a1, .int .i64 a2]).run Tryz.prog w = .ok (.enter 141 #[.agg #[], .int .i64 a1, .int .i64 a2]) w) w, (notation_german_line.calls a1 a2 r w h)⟩
  rw [if_neg c4] at h
  exact absurd h (by simp)

/-! ### notation_french_outsideBehind: function 97 -/
def notation_french_outsideBehind.f  : Option (Bool) := some true
set_option maxHeartbeats 8000000 in
set_option maxRecDepth 100000 in
theorem notation_french_outsideBehind.calls  (r : Bool) (w : World) (h : notation_french_outsideBehind.f  = some r) :
    Calls Tryz.prog 97 #[.agg #[]] w fun e w' => e = .returned (.bool r) ∧ Below w.heap.size w w' := by
  have hu78 := Tryz.underlying78
  have HB := Aside0.mk (Below.refl w.heap.size w)
  have H : (some true) = some r := h
  clear h
  obtain rfl := Option.some.inj H
  go_enter Tryz.func97, Tryz.ntmps97
  go_wp2_with (first | ((with_reducible refine gate_dst (N := 1) rfl ?_); refine bx_ 1 #[] 78 HB ?_; clear HB; intro gb471 w2 hg hb BK471 HB GW471; have GE471 := GW471; clear hg hb))
  go_ret
  exact ⟨rv_, bl_ HB⟩

/-! ### notation_italian_outsideBehind: function 128 -/
def notation_italian_outsideBehind.f  : Option (Bool) := some false
set_option maxHeartbeats 8000000 in
set_option maxRecDepth 100000 in
theorem notation_italian_outsideBehind.calls  (r : Bool) (w : World) (h : notation_italian_outsideBehind.f  = some r) :
    Calls Tryz.prog 128 #[.agg #[]] w fun e w' => e = .returned (.bool r) ∧ Below w.heap.size w w' := by
  have hu82 := Tryz.underlying82
  have HB := Aside0.mk (Below.refl w.heap.size w)
  have H : (some false) = some r := h
  clear h
  obtain rfl := Option.some.inj H
  go_enter Tryz.func128, Tryz.ntmps128
  go_wp2_with (first | ((with_reducible refine gate_dst (N := 1) rfl ?_); refine bx_ 1 #[] 82 HB ?_; clear HB; intro gb473 w2 hg hb BK473 HB GW473; have GE473 := GW473; clear hg hb))
  go_ret
  exact ⟨rv_, bl_ HB⟩

/-! ### notation_spanish_outsideBehind: function 136 -/
def notation_spanish_outsideBehind.f  : Option (Bool) := some true
set_option maxHeartbeats 8000000 in
set_option maxRecDepth 100000 in
theorem notation_spanish_outsideBehind.calls  (r : Bool) (w : World) (h : notation_spanish_outsideBehind.f  = some r) :
    Calls Tryz.prog 136 #[.agg #[]] w fun e w' => e = .returned (.bool r) ∧ Below w.heap.size w w' := by
  have hu84 := Tryz.underlying84
  have HB := Aside0.mk (Below.refl w.heap.size w)
  have H : (some true) = some r := h
  clear h
  obtain rfl := Option.some.inj H
  go_enter Tryz.func136, Tryz.ntmps136
  go_wp2_with (first | ((with_reducible refine gate_dst (N := 1) rfl ?_); refine bx_ 1 #[] 84 HB ?_; clear HB; intro gb475 w2 hg hb BK475 HB GW475; have GE475 := GW475; clear hg hb))
  go_ret
  exact ⟨rv_, bl_ HB⟩

/-! ### notation_german_outsideBehind: function 143 -/
def notation_german_outsideBehind.f  : Option (Bool) := some true
set_option maxHeartbeats 8000000 in
set_option maxRecDepth 100000 in
theorem notation_german_outsideBehind.calls  (r : Bool) (w : World) (h : notation_german_outsideBehind.f  = some r) :
    Calls Tryz.prog 143 #[.agg #[]] w fun e w' => e = .returned (.bool r) ∧ Below w.heap.size w w' := by
  have hu86 := Tryz.underlying86
  have HB := Aside0.mk (Below.refl w.heap.size w)
  have H : (some true) = some r := h
  clear h
  obtain rfl := Option.some.inj H
  go_enter Tryz.func143, Tryz.ntmps143
  go_wp2_with (first | ((with_reducible refine gate_dst (N := 1) rfl ?_); refine bx_ 1 #[] 86 HB ?_; clear HB; intro gb477 w2 hg hb BK477 HB GW477; have GE477 := GW477; clear hg hb))
  go_ret
  exact ⟨rv_, bl_ HB⟩

/-! ### dyn_notation_outsideBehind: a method of an interface's value, by its tag -/
def dyn_notation_outsideBehind.f (a0 : Int)  : Option (Bool) := if a0 = 1 then notation_french_outsideBehind.f  else if a0 = 2 then notation_italian_outsideBehind.f  else if a0 = 3 then notation_spanish_outsideBehind.f  else if a0 = 4 then notation_german_outsideBehind.f  else  none
set_option maxRecDepth 100000 in
theorem dyn_notation_outsideBehind.calls (a0 : Int)  (r : Bool) (w : World) (h : dyn_notation_outsideBehind.f a0  = some r) :
    Invokes Tryz.prog (sysW a0) "theorbo/notation.outsideBehind" #[] w fun e w' => e = .returned (.bool r) ∧ Below w.heap.size w w' := by
  unfold dyn_notation_outsideBehind.f at h
  by_cases c1 : a0 = 1
  · subst c1
    rw [if_pos rfl] at h
    exact ⟨97, _, (fun w => by kernel_rfl : ∀ w : World, (callMethod (sysW 1) "theorbo/notation.outsideBehind" #[]).run Tryz.prog w = .ok (.enter 97 #[.agg #[]]) w) w, (notation_french_outsideBehind.calls  r w h)⟩
  rw [if_neg c1] at h
  by_cases c2 : a0 = 2
  · subst c2
    rw [if_pos rfl] at h
    exact ⟨128, _, (fun w => by kernel_rfl : ∀ w : World, (callMethod (sysW 2) "theorbo/notation.outsideBehind" #[]).run Tryz.prog w = .ok (.enter 128 #[.agg #[]]) w) w, (notation_italian_outsideBehind.calls  r w h)⟩
  rw [if_neg c2] at h
  by_cases c3 : a0 = 3
  · subst c3
    rw [if_pos rfl] at h
    exact ⟨136, _, (fun w => by kernel_rfl : ∀ w : World, (callMethod (sysW 3) "theorbo/notation.outsideBehind" #[]).run Tryz.prog w = .ok (.enter 136 #[.agg #[]]) w) w, (notation_spanish_outsideBehind.calls  r w h)⟩
  rw [if_neg c3] at h
  by_cases c4 : a0 = 4
  · subst c4
    rw [if_pos rfl] at h
    exact ⟨143, _, (fun w => by kernel_rfl : ∀ w : World, (callMethod (sysW 4) "theorbo/notation.outsideBehind" #[]).run Tryz.prog w = .ok (.enter 143 #[.agg #[]]) w) w, (notation_german_outsideBehind.calls  r w h)⟩
  rw [if_neg c4] at h
  exact absurd h (by simp)

end Go.Proofs.YtocpcofihlcnoaaGreat.PNC
