/- Columns: what is known of a valid piece at its place, and the lists of a column. No condition. -/
import Derived.Test.YtocpcofihlcnoaaGreatPureCCopy
namespace Go.Proofs.YtocpcofihlcnoaaGreat.Pure
open Go.RowKit Go.Proofs.YtocpcofihlcnoaaGreat.PNC Go.Proofs.YtocpcofihlcnoaaGreatW.PrintWords Go.Proofs.YtocpcofihlcnoaaGreatW.PrintLast Go.Proofs.YtocpcofihlcnoaaGreatW.PrintMore
set_option linter.unusedSimpArgs false
set_option linter.unusedVariables false
set_option linter.unusedSectionVars false
structure GS (l0 : List S99) (L : Int → Int) (s : S54) : Prop where
  n : s.f0 ≤ (l0.length : Int)
  c0 : 1 ≤ s.f0
  h0 : 0 ≤ s.f4
  h1 : s.f4 ≤ L s.f0
  h2 : ¬ (0 < s.f4 ∧ s.f1 = 0)
theorem stops_at {l0 : List S99} {L : Int → Int} : ∀ {l : List S54} {last : Int}, stopsE l0 L l last = 0 → (∀ s ∈ l, last < s.f0 ∧ GS l0 L s) ∧ l.Pairwise (fun a b => a.f0 < b.f0)
  | [], _, _ => ⟨fun s hs => (by cases hs), List.Pairwise.nil⟩
  | a :: r, last, h => by
    unfold stopsE at h
    by_cases e : stopE l0 L a last = 0
    · rw [if_pos e] at h
      obtain ⟨h1, h2⟩ := stops_at h
      have g : last < a.f0 ∧ GS l0 L a := by
        unfold stopE at e
        by_cases c1 : a.f0 < 1 ∨ a.f0 > (l0.length : Int)
        · rw [if_pos c1] at e; cases e
        rw [if_neg c1] at e
        by_cases c2 : a.f1 < 0 ∨ a.f1 > (rd_T99 l0 (a.f0 - 1)).f1
        · rw [if_pos c2] at e; cases e
        rw [if_neg c2] at e
        by_cases c3 : a.f0 ≤ last
        · rw [if_pos c3] at e; cases e
        rw [if_neg c3] at e
        by_cases c4 : a.f2 < 0 ∨ a.f2 > 3 ∨ a.f3 < 0 ∨ a.f3 > 4
        · rw [if_pos c4] at e; cases e
        rw [if_neg c4] at e
        by_cases c5 : a.f4 < 0 ∨ a.f4 > L a.f0 ∨ (a.f4 > 0 ∧ a.f1 = 0)
        · rw [if_pos c5] at e; cases e
        exact ⟨by omega, by omega, by omega, by omega, by omega, by omega⟩
      refine ⟨fun s hs => ?_, List.pairwise_cons.2 ⟨fun b hb => (h1 b hb).1, h2⟩⟩
      rcases List.mem_cons.1 hs with rfl | hs
      · exact g
      · exact ⟨by have := (h1 s hs).1; omega, (h1 s hs).2⟩
    · rw [if_neg e] at h; exact absurd h e
theorem events_at {l0 : List S99} {l2 : List S46} : ∀ {l : List S46} {i : Nat}, evsE l0 l2 l i = 0 → ∀ (m : Nat) e, l[m]? = some e → evE l0 l2 ((i + m : Nat) : Int) e = 0
  | [], _, _, m, e, he => by simp at he
  | a :: r, i, h, m, e, he => by
    unfold evsE at h
    by_cases q : evE l0 l2 (i : Int) a = 0
    · rw [if_pos q] at h
      cases m with
      | zero =>
        simp only [List.getElem?_cons_zero, Option.some.injEq] at he
        subst he
        exact q
      | succ m =>
        have := events_at h m e (by simpa using he)
        rw [show i + (m + 1) = i + 1 + m by omega]
        exact this
    · rw [if_neg q] at h; exact absurd h q
theorem event_at {l0 : List S99} {l1 : List Int} {l2 : List S46} (h : chE l0 l1 l2 = 0) (i : Nat) (e : S46) (he : l2[i]? = some e) : (∀ s ∈ e.f3, GS l0 (longS l2 (i : Int)) s) ∧ e.f3.Pairwise (fun a b => a.f0 < b.f0) := by
  unfold chE at h
  by_cases a : inE l0 l1 = 0
  · rw [if_pos a] at h
    by_cases b : l2.length > 400
    · rw [if_pos b] at h; cases h
    rw [if_neg b] at h
    have q := events_at h i e he
    rw [Nat.zero_add] at q
    unfold evE at q
    by_cases c : sv e.f1 = false ∨ ((i : Int) = 0 ∧ e.f1.f0 = 0)
    · rw [if_pos c] at q; cases q
    rw [if_neg c] at q
    by_cases d : e.f2 = true ∧ ((i : Int) = 0 ∨ (e.f3.length : Int) > 0)
    · rw [if_pos d] at q; cases q
    rw [if_neg d] at q
    obtain ⟨h1, h2⟩ := stops_at q
    exact ⟨fun s hs => (h1 s hs).2, h2⟩
  · rw [if_neg a] at h; exact absurd h a
/-! ### lists of bytes -/
theorem fm_congr {α β : Type} {f g : α → Option β} : ∀ (l : List α), (∀ x ∈ l, f x = g x) → l.filterMap f = l.filterMap g
  | [], _ => rfl
  | x :: r, h => by rw [List.filterMap_cons, List.filterMap_cons, h x (by simp), fm_congr r fun y hy => h y (by simp [hy])]
def B (l : List UInt8) : ByteArray := ⟨l.toArray⟩
theorem B_data (l : List UInt8) : (B l).data.toList = l := rfl
theorem B_of (b : ByteArray) : b = B b.data.toList := rfl
theorem B_app (a b : List UInt8) : B a ++ B b = B (a ++ b) := ba_ext (by rw [ba_app]; rfl)
theorem B_size (l : List UInt8) : (B l).size = l.length := rfl
theorem B_toList (l : List UInt8) : (B l).toList = l := Lib.toList_data _
def crs : Int → Nat → List Int
  | _, 0 => []
  | c, m + 1 => c :: crs (c + 1) m
theorem crs_length : ∀ (c : Int) (m : Nat), (crs c m).length = m
  | _, 0 => rfl
  | c, m + 1 => by simp [crs, crs_length (c + 1) m]
theorem crs_get : ∀ (c : Int) (m p : Nat), p < m → (crs c m)[p]? = some (c + p)
  | _, 0, _, h => by omega
  | c, m + 1, 0, _ => by simp [crs]
  | c, m + 1, p + 1, h => by
    have := crs_get (c + 1) m p (by omega)
    simp only [crs, List.getElem?_cons_succ, this, Option.some.injEq]
    omega
theorem crs_append : ∀ (c : Int) (m k : Nat), crs c (m + k) = crs c m ++ crs (c + m) k
  | c, 0, k => by simp [crs]
  | c, m + 1, k => by
    rw [show m + 1 + k = (m + k) + 1 by omega]
    simp only [crs, List.cons_append]
    rw [crs_append (c + 1) m k]
    congr 3
    omega
theorem crs_mem : ∀ {c : Int} {m : Nat} {x : Int}, x ∈ crs c m → c ≤ x ∧ x < c + m
  | _, 0, _, h => by cases h
  | c, m + 1, x, h => by
    rcases List.mem_cons.1 h with rfl | h
    · omega
    · have := crs_mem h
      omega
section
variable (g : S54 → List UInt8)
/-- The text that stands on a course. -/
def at_ (l : List S54) (c : Int) : List UInt8 := match l.find? (fun s => s.f0 == c) with
  | some s => g s
  | none => [45]
theorem at_cons_ne {s : S54} {r : List S54} {c : Int} (h : s.f0 ≠ c) : at_ g (s :: r) c = at_ g r c := by
  unfold at_
  rw [List.find?_cons, beq_eq_false_iff_ne.2 h]
theorem at_cons_eq {s : S54} {r : List S54} {c : Int} (h : s.f0 = c) : at_ g (s :: r) c = g s := by
  unfold at_
  rw [List.find?_cons, beq_iff_eq.2 h]
theorem at_far {l : List S54} {c : Int} (h : ∀ s ∈ l, s.f0 ≠ c) : at_ g l c = [45] := by
  unfold at_
  rw [List.find?_eq_none.2 fun s hs => by simpa using h s hs]
/-- What stands on the staff, course by course; what stands outside of it. -/
def stf1 (n : Int) (G : Int → List UInt8) (c : Int) : List UInt8 := if c ≤ n then 32 :: G c else []
def out1 (n : Int) (G : Int → List UInt8) (c : Int) : Option (List UInt8) := if c ≤ n ∨ G c = [45] then none else some (32 :: G c)
theorem outs (n : Int) : ∀ (m : Nat) (a : Int) (l : List S54), l.Pairwise (fun a b => a.f0 < b.f0) → (∀ s ∈ l, a ≤ s.f0 ∧ s.f0 < a + m) → (∀ s ∈ l, g s ≠ [45]) → (crs a m).filterMap (out1 n (at_ g l)) = l.filterMap (fun s => if s.f0 ≤ n then none else some (32 :: g s))
  | 0, a, l, _, h, _ => by
    cases l with
    | nil => rfl
    | cons s r => have := h s (by simp); omega
  | m + 1, a, [], _, h, _ => by
    have : ∀ c ∈ crs a (m + 1), out1 n (at_ g []) c = none := fun c _ => by unfold out1; rw [if_pos (.inr rfl)]
    rw [List.filterMap_eq_nil_iff.2 this]
    rfl
  | m + 1, a, s :: r, hp, h, hg => by
    have hp' := List.pairwise_cons.1 hp
    have hs := h s (by simp)
    by_cases e : s.f0 = a
    · have ih := outs n m (a + 1) r hp'.2 (fun x hx => ⟨by have := hp'.1 x hx; omega, by have := h x (by simp [hx]); omega⟩) (fun x hx => hg x (by simp [hx]))
      have cg : (crs (a + 1) m).filterMap (out1 n (at_ g (s :: r))) = (crs (a + 1) m).filterMap (out1 n (at_ g r)) := by
        refine fm_congr _ fun c hc => ?_
        have := crs_mem hc
        unfold out1
        rw [at_cons_ne g (by omega)]
      simp only [crs, List.filterMap_cons]
      rw [cg, ih]
      have e2 : out1 n (at_ g (s :: r)) a = if s.f0 ≤ n then none else some (32 :: g s) := by
        unfold out1
        rw [at_cons_eq g e]
        by_cases q : s.f0 ≤ n
        · rw [if_pos (.inl (by omega)), if_pos q]
        · rw [if_neg (by rintro (h | h); · omega
                         · exact hg s (by simp) h), if_neg q]
      rw [e2]
    · have ih := outs n m (a + 1) (s :: r) hp (fun x hx => ⟨by
          rcases List.mem_cons.1 hx with rfl | hx
          · omega
          · have := hp'.1 x hx; omega, by have := h x hx; omega⟩) hg
      simp only [crs, List.filterMap_cons]
      have e2 : out1 n (at_ g (s :: r)) a = none := by
        unfold out1
        rw [at_far g fun x hx => by
          rcases List.mem_cons.1 hx with rfl | hx
          · omega
          · have := hp'.1 x hx; omega]
        rw [if_pos (.inr rfl)]
      rw [e2, ih, List.filterMap_cons]
end
/-- The staff's row, stop by stop. -/
def yF (n : Int) (pos : Int → Nat) (f : S54 → ByteArray) : List S54 → List ByteArray → List ByteArray
  | [], y => y
  | s :: r, y => yF n pos f r (if s.f0 ≤ n then y.set (pos s.f0) (f s) else y)
theorem yF_get (n : Int) (pos : Int → Nat) (f : S54 → ByteArray) (p : Nat) (c : Int) (hc : c ≤ n) (hpos : ∀ x : Int, 1 ≤ x → x ≤ n → (pos x = p ↔ x = c)) : ∀ (l : List S54) (y : List ByteArray), l.Pairwise (fun a b => a.f0 < b.f0) → (∀ s ∈ l, 1 ≤ s.f0) → p < y.length →
    (yF n pos f l y)[p]? = (match l.find? (fun s => s.f0 == c) with | some s => some (f s) | none => y[p]?) ∧ (yF n pos f l y).length = y.length
  | [], y, _, _, _ => by simp [yF]
  | s :: r, y, hp, h1, hy => by
    have hp' := List.pairwise_cons.1 hp
    have hs := h1 s (by simp)
    unfold yF
    by_cases q : s.f0 ≤ n
    · rw [if_pos q]
      have ih := yF_get n pos f p c hc hpos r (y.set (pos s.f0) (f s)) hp'.2 (fun x hx => h1 x (by simp [hx])) (by rw [List.length_set]; exact hy)
      refine ⟨?_, by rw [ih.2, List.length_set]⟩
      rw [ih.1, List.find?_cons]
      by_cases e : s.f0 = c
      · rw [beq_iff_eq.2 e, List.find?_eq_none.2 fun x hx => by have := hp'.1 x hx; simp; omega]
        have := (hpos s.f0 hs q).2 e
        rw [this]
        simp [hy]
      · rw [beq_eq_false_iff_ne.2 e]
        have : pos s.f0 ≠ p := fun h => e ((hpos s.f0 hs q).1 h)
        cases r.find? (fun s => s.f0 == c) with
        | some x => rfl
        | none => simp [List.getElem?_set_ne this]
    · rw [if_neg q]
      have ih := yF_get n pos f p c hc hpos r y hp'.2 (fun x hx => h1 x (by simp [hx])) hy
      refine ⟨?_, ih.2⟩
      rw [ih.1, List.find?_cons, beq_eq_false_iff_ne.2 (show s.f0 ≠ c by omega)]
/-- What stands outside, stop by stop. -/
def oF (n : Int) (back : Bool) (f : S54 → ByteArray) : List S54 → List ByteArray → List ByteArray
  | [], o => o
  | s :: r, o => oF n back f r (if s.f0 ≤ n then o else if back = true then o ++ [f s] else f s :: o)
theorem oF_eq (n : Int) (back : Bool) (f : S54 → ByteArray) : ∀ (l : List S54) (o : List ByteArray), oF n back f l o = if back = true then o ++ l.filterMap (fun s => if s.f0 ≤ n then none else some (f s)) else (l.filterMap (fun s => if s.f0 ≤ n then none else some (f s))).reverse ++ o
  | [], o => by cases back <;> simp [oF]
  | s :: r, o => by
    unfold oF
    rw [oF_eq n back f r]
    cases back <;> by_cases q : s.f0 ≤ n <;> simp [q]
theorem yF_length (n : Int) (pos : Int → Nat) (f : S54 → ByteArray) : ∀ (l : List S54) (y : List ByteArray), (yF n pos f l y).length = y.length
  | [], y => rfl
  | s :: r, y => by
    unfold yF
    rw [yF_length n pos f r]
    split <;> simp
theorem oF_length (n : Int) (back : Bool) (f : S54 → ByteArray) : ∀ (l : List S54) (o : List ByteArray), (oF n back f l o).length ≤ o.length + l.length
  | [], o => by simp [oF]
  | s :: r, o => by
    unfold oF
    have := oF_length n back f r (if s.f0 ≤ n then o else if back = true then o ++ [f s] else f s :: o)
    refine Nat.le_trans this ?_
    rw [List.length_cons]
    split
    · omega
    · split <;> simp <;> omega
theorem flat_stf (n : Int) (G : Int → List UInt8) (N m : Nat) (hm : (m : Int) = if (N : Int) ≤ n then (N : Int) else n) (hn : 0 ≤ n) : (crs 1 N).flatMap (stf1 n G) = (crs 1 m).flatMap (fun c => 32 :: G c) ∧ (crs 1 N).reverse.flatMap (stf1 n G) = (crs 1 m).reverse.flatMap (fun c => 32 :: G c) := by
  obtain ⟨k, rfl⟩ : ∃ k, N = m + k := ⟨N - m, by split at hm <;> omega⟩
  have a : ∀ c ∈ crs 1 m, stf1 n G c = 32 :: G c := fun c hc => by
    have := crs_mem hc
    unfold stf1
    rw [if_pos (by split at hm <;> omega)]
  have b : ∀ c ∈ crs (1 + m) k, stf1 n G c = [] := fun c hc => by
    have := crs_mem hc
    unfold stf1
    rw [if_neg (by split at hm <;> omega)]
  have a1 : ∀ l : List Int, (∀ c ∈ l, stf1 n G c = 32 :: G c) → l.flatMap (stf1 n G) = l.flatMap (fun c => 32 :: G c) := by
    intro l
    induction l with
    | nil => intro _; rfl
    | cons x r ih => intro h; rw [List.flatMap_cons, List.flatMap_cons, h x (by simp), ih fun c hc => h c (by simp [hc])]
  have b1 : ∀ l : List Int, (∀ c ∈ l, stf1 n G c = []) → l.flatMap (stf1 n G) = [] := by
    intro l
    induction l with
    | nil => intro _; rfl
    | cons x r ih => intro h; rw [List.flatMap_cons, h x (by simp), ih fun c hc => h c (by simp [hc])]; rfl
  constructor
  · rw [crs_append, List.flatMap_append, a1 _ a, b1 _ b, List.append_nil]
  · rw [crs_append, List.reverse_append, List.flatMap_append, b1 _ (fun c hc => b c (List.mem_reverse.1 hc)), a1 _ (fun c hc => a c (List.mem_reverse.1 hc)), List.nil_append]
end Go.Proofs.YtocpcofihlcnoaaGreat.Pure
