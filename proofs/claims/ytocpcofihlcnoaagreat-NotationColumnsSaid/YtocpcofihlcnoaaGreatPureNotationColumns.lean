/- NotationColumns: Column returns the text and the errors that the document specifies, for every event and one before and behind them. No condition. -/
import Derived.Test.YtocpcofihlcnoaaGreatPureCCol3
import Derived.Test.YtocpcofihlcnoaaGreatPNCxPureNotationColumns
namespace Go.Proofs.YtocpcofihlcnoaaGreat.Pure
open Go.RowKit Go.Proofs.YtocpcofihlcnoaaGreat.PNC Go.Proofs.YtocpcofihlcnoaaGreatW.PrintWords Go.Proofs.YtocpcofihlcnoaaGreatW.PrintLast Go.Proofs.YtocpcofihlcnoaaGreatW.PrintMore
set_option linter.unusedSimpArgs false
set_option linter.unusedVariables false
set_option linter.unusedSectionVars false
/-- Column, as both tell it. -/
def CS (l0 : List S99) (l1 : List Int) (l2 : List S46) (t i : Int) : ByteArray × Int :=
  if 1 ≤ t ∧ t ≤ 4 then (if chE l0 l1 l2 = 0 then (if i < 0 ∨ i ≥ (l2.length : Int) then (⟨#[]⟩, 1) else if evL t l2 i (rd_T46 l2 i) = [] then (colB t l2 i.toNat l0.length (rd_T46 l2 i), 0) else (⟨#[]⟩, 31)) else (⟨#[]⟩, chE l0 l1 l2)) else (⟨#[]⟩, 30)
section
variable (l0 : List S99) (l1 : List Int) (l2 : List S46) (h0 : l0.length ≤ 64) (h1 : l1.length ≤ 64) (h2 : l2.length ≤ 420) (hs : ∀ e ∈ l2, e.f3.length ≤ 20) (t : Int)
include h0 h1 h2 hs
theorem no_lacks {i : Nat} {e : S46} (h : evL t l2 (i : Int) e = []) : (∀ s ∈ e.f3, wantsL t s (longS l2 (i : Int) s.f0) = []) ∧ (t = 4 → e.f1.f0 ≠ 0 ∧ e.f1.f2 = false) := by
  unfold evL at h
  simp only [List.append_eq_nil_iff] at h
  obtain ⟨⟨⟨⟨a, b⟩, _⟩, _⟩, d⟩ := h
  refine ⟨fun s hs => ?_, fun q => ⟨fun z => ?_, ?_⟩⟩
  · have := List.flatMap_eq_nil_iff.1 d s hs
    unfold stopL at this
    exact List.map_eq_nil_iff.1 this
  · rw [if_pos ⟨q, z⟩] at b; cases b
  · cases hz : e.f1.f2 with
    | false => rfl
    | true => rw [if_pos ⟨q, hz⟩] at a; cases a
theorem Column_impl (i : Int) : Ev (fun k => notation_Column.f k t l0 l1 l2 i) (CS l0 l1 l2 t i) := by
  unfold CS
  by_cases a : 1 ≤ t ∧ t ≤ 4
  · rw [if_pos a]
    refine Ev.congr (f := fun k => (piece_Check.f k l0 l1 l2).bind fun c => if c = 0 then notation_Column.j0 k t i t (decide (i < 0 ∨ i ≥ (l2.length : Int))) l0 l1 l2 else some (⟨#[]⟩, c)) (fun k => ?_) (Ev.bd (check_impl l0 l1 l2 h0 h1 h2 hs) ?_)
    · simp only [notation_Column.f]
      rw [of_ok a.1 a.2]
      simp only [Option.bind_some, if_true]
      simp only [orj (fun b => notation_Column.j0 k t i t b l0 l1 l2)]
    · by_cases b : chE l0 l1 l2 = 0
      · refine Ev.pos b ?_
        rw [if_pos b]
        obtain ⟨_, _, V⟩ := valid_of b
        by_cases c : i < 0 ∨ i ≥ (l2.length : Int)
        · rw [if_pos c]
          refine Ev.step (f := fun _ => some (⟨#[]⟩, 1)) (fun k => ?_) (Ev.now _)
          simp only [notation_Column.j0]
          rw [if_pos (decide_eq_true c)]
        · rw [if_neg c]
          obtain ⟨n, rfl⟩ : ∃ n : Nat, i = n := ⟨i.toNat, by omega⟩
          have hn : n < l2.length := by omega
          obtain ⟨e, he⟩ : ∃ e, l2[n]? = some e := ⟨_, List.getElem?_eq_getElem hn⟩
          have me := List.mem_of_getElem? he
          have ⟨v, vs⟩ := V e me
          have ⟨g, hp⟩ := event_at b n e he
          have hl := lacks_impl l0 l1 l2 h0 h1 h2 hs t a.1 a.2 n e he v (fun s h => (vs s h).1)
          rw [rd46 he, show ((n : Int)).toNat = n from rfl]
          refine Ev.step (f := fun k => (notation_lacks.f k t l0 l1 l2 (n : Int)).bind fun y => if (y.length : Int) > 0 then some (⟨#[]⟩, 31) else (notation_column.f k t t l0 l1 l2 (n : Int)).bind fun r => some (r, 0)) (fun k => ?_) (Ev.bd hl ?_)
          · simp only [notation_Column.j0]
            rw [if_neg (by simpa using c)]
          · by_cases d : evL t l2 (n : Int) e = []
            · rw [if_pos d, d]
              have ⟨w, h4⟩ := no_lacks l0 l1 l2 h0 h1 h2 hs t d
              exact Ev.neg (by simp) (Ev.bd (column_impl l0 l1 l2 h0 h1 h2 hs t a.1 a.2 n e he (fun s h => (vs s h).1) g w hp v h4) (Ev.now _))
            · rw [if_neg d]
              refine Ev.pos ?_ (Ev.now _)
              have := List.length_pos_iff.2 d
              omega
      · refine Ev.neg b (Ev.some ?_)
        rw [if_neg b]
  · rw [if_neg a]
    refine Ev.congr (f := fun _ => some (⟨#[]⟩, 30)) (fun k => ?_) (Ev.now _)
    simp only [notation_Column.f]
    rw [of_bad (by omega)]
    simp
theorem Column_ref (i : Int) : Ev (fun k => theorboref03_Column.f k t l0 l1 l2 i) (CS l0 l1 l2 t i) := by
  unfold CS
  by_cases a : 1 ≤ t ∧ t ≤ 4
  · rw [if_pos a]
    refine Ev.congr (f := fun k => (theorboref02_Check.f k l0 l1 l2).bind fun c => if c = 0 then theorboref03_Column.j0 k t i (decide (i < 0 ∨ i ≥ (l2.length : Int))) l0 l1 l2 else some (⟨#[]⟩, c)) (fun k => ?_) (Ev.bd (check_ref l0 l1 l2 h0 h1 h2 hs) ?_)
    · simp only [theorboref03_Column.f]
      rw [known, decide_eq_true a]
      simp only [Option.bind_some, if_true]
      simp only [orj (fun b => theorboref03_Column.j0 k t i b l0 l1 l2)]
    · by_cases b : chE l0 l1 l2 = 0
      · refine Ev.pos b ?_
        rw [if_pos b]
        obtain ⟨_, _, V⟩ := valid_of b
        by_cases c : i < 0 ∨ i ≥ (l2.length : Int)
        · rw [if_pos c]
          refine Ev.step (f := fun _ => some (⟨#[]⟩, 1)) (fun k => ?_) (Ev.now _)
          simp only [theorboref03_Column.j0]
          rw [if_pos (decide_eq_true c)]
        · rw [if_neg c]
          obtain ⟨n, rfl⟩ : ∃ n : Nat, i = n := ⟨i.toNat, by omega⟩
          have hn : n < l2.length := by omega
          obtain ⟨e, he⟩ : ∃ e, l2[n]? = some e := ⟨_, List.getElem?_eq_getElem hn⟩
          have me := List.mem_of_getElem? he
          have ⟨v, vs⟩ := V e me
          have ⟨g, hp⟩ := event_at b n e he
          have hl := lacks_ref l0 l1 l2 h0 h1 h2 hs t a.1 a.2 n e he (fun s h => (vs s h).1)
          rw [rd46 he, show ((n : Int)).toNat = n from rfl]
          refine Ev.step (f := fun k => (theorboref03_lacks.f k t l0 l1 l2 (n : Int)).bind fun y => if (y.length : Int) > 0 then some (⟨#[]⟩, 31) else (theorboref03_column.f k t l0 l1 l2 (n : Int)).bind fun r => some (r, 0)) (fun k => ?_) (Ev.bd hl ?_)
          · simp only [theorboref03_Column.j0]
            rw [if_neg (by simpa using c)]
          · by_cases d : evL t l2 (n : Int) e = []
            · rw [if_pos d, d]
              have ⟨w, h4⟩ := no_lacks l0 l1 l2 h0 h1 h2 hs t d
              exact Ev.neg (by simp) (Ev.bd (column_ref l0 l1 l2 h0 h1 h2 hs t a.1 a.2 n e he (fun s h => (vs s h).1) g w hp v h4) (Ev.now _))
            · rw [if_neg d]
              refine Ev.pos ?_ (Ev.now _)
              have := List.length_pos_iff.2 d
              omega
      · refine Ev.neg b (Ev.some ?_)
        rw [if_neg b]
  · rw [if_neg a]
    refine Ev.congr (f := fun _ => some (⟨#[]⟩, 30)) (fun k => ?_) (Ev.now _)
    simp only [theorboref03_Column.f]
    rw [known, decide_eq_false a]
    simp
theorem cols_l : ∀ (m : Nat) (i : Int), -1 ≤ i → i + m = (l2.length : Int) + 1 → Ev (fun k => theorbolaw03_NotationColumns.l0 k t i l0 l1 l2) true
  | 0, i, hi, hm => by
    refine Ev.step (f := fun k => (theorbolaw03_works.f k).bind fun b => some b) (fun k => ?_) (Ev.bd works_ev (Ev.now _))
    simp only [theorbolaw03_NotationColumns.l0]
    rw [if_neg (by omega)]
  | m + 1, i, hi, hm => by
    have ih := cols_l m (i + 1) (by omega) (by omega)
    have hC := copy_ev l0 l1 l2 h0 h1 h2 hs
    have hI := Column_impl l0 l1 l2 h0 h1 h2 hs t i
    have hR := Column_ref l0 l1 l2 h0 h1 h2 hs t i
    refine Ev.step (f := fun k => (theorboref02_Copy.f k l0 l1 l2).bind fun c => (notation_Column.f k t c.1 c.2.1 c.2.2 i).bind fun x => (theorboref03_Column.f k t l0 l1 l2 i).bind fun y => if x.1.toList = y.1.toList then (if x.2 = y.2 then theorbolaw03_NotationColumns.l0 k t (i + 1) l0 l1 l2 else some false) else some false) (fun k => ?_) (Ev.bd hC (Ev.bd hI (Ev.bd hR (Ev.pos rfl (Ev.pos rfl ih)))))
    simp only [theorbolaw03_NotationColumns.l0]
    rw [if_pos (by omega), wrap_small (i := i + 1) (by omega) (by omega)]
end
theorem NotationColumns : theorbolaw03_NotationColumns.Pure := by
  intro t l0 l1 l2 _ hg
  have hm : l2.length ≤ maxLen := hg.2.1
  refine Ev.rounds ?_
  have hB := big_ev l0 l1 l2 hm
  have hL : Ev (fun k => theorbolaw02_Long.f k l0 l1 l2) (if bigB l0 l1 l2 = true then true else decide ((l2.length : Int) > 60)) :=
    Ev.congr (f := fun k => (theorbolaw02_Big.f k l0 l1 l2).bind fun b => if b = true then some true else some (decide ((l2.length : Int) > 60))) (fun k => rfl) (Ev.bd hB (Ev.ite (fun _ => Ev.now _) fun _ => Ev.now _))
  unfold theorbolaw03_NotationColumns.f
  by_cases b : (if bigB l0 l1 l2 = true then true else decide ((l2.length : Int) > 60)) = true
  · rw [b] at hL
    exact Ev.bd hL (Ev.pos rfl (Ev.bd works_ev (Ev.now _)))
  · refine Ev.bd hL (Ev.neg b ?_)
    have b1 : bigB l0 l1 l2 = false := by
      cases h : bigB l0 l1 l2 with
      | false => rfl
      | true => rw [h] at b; simp at b
    obtain ⟨h0, h1, h2, hs⟩ := big_of b1
    exact cols_l l0 l1 l2 h0 h1 h2 hs t (l2.length + 2) (-1) (by omega) (by omega)
end Go.Proofs.YtocpcofihlcnoaaGreat.Pure
