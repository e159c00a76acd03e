/- NotationCells: Cell returns the cell and the errors that the document specifies, and ParseCell reads it as this stop. No condition. -/
import Derived.Test.YtocpcofihlcnoaaPNCellsxPureNotationCells
import Derived.Test.YtocpcofihlcnoaaPureCells
namespace Go.Proofs.Ytocpcofihlcnoaa.Pure
open Go.RowKit Go.Proofs.Ytocpcofihlcnoaa.PNCells Go.Proofs.YtocpcofihlcnoaaW.PrintWords Go.Proofs.YtocpcofihlcnoaaW.PrintLast
theorem works_up (k : Nat) (hk : 600 ≤ k) : theorbolaw03_works.f k = some true := at_rounds (g := fun k => theorbolaw03_works.f k) (fun k => theorbolaw03_works.mono k) hk works_k
theorem spot_law (t c : Int) : theorbolaw03_spot.f t c = some (if t = 4 ∨ 6 < c then 0 else c) := by
  unfold theorbolaw03_spot.f
  by_cases h : t = 4
  · simp [h]
  · by_cases h' : 6 < c <;> simp [h, h']
theorem NotationCells : theorbolaw03_NotationCells.Pure := by
  intro t c f r g h l _ _ _
  have hw := works_up
  have q : ∀ k, 40 ≤ k → theorbolaw03_NotationCells.f k t c f r g h l = theorbolaw03_NotationCells.j0 k t l (CellS t c f r g h l).1 (CellS t c f r g h l).2 false c f r g h := by
    intro k hk
    unfold theorbolaw03_NotationCells.f
    rw [Cell_impl _ _ _ _ _ _ _ _ (by omega)]
    simp only [Option.bind_some]
    rw [Cell_ref _ _ _ _ _ _ _ _ (by omega)]
    simp
  by_cases he : (CellS t c f r g h l).2 = 0
  · have hin : InR t c f r g h l ∧ ¬ (0 < h ∧ f = 0) ∧ okV t c f r g h l = true ∧ CellS t c f r g h l = (cellV t c f r g h l, 0) := by
      unfold CellS at he ⊢
      by_cases h1 : t < 1 ∨ 4 < t
      · rw [if_pos h1] at he
        cases he
      by_cases h2 : c < 1 ∨ 14 < c
      · rw [if_neg h1, if_pos h2] at he
        cases he
      by_cases h3 : f < 0 ∨ 18 < f
      · rw [if_neg h1, if_neg h2, if_pos h3] at he
        cases he
      by_cases h4 : r < 0 ∨ 3 < r ∨ g < 0 ∨ 4 < g
      · rw [if_neg h1, if_neg h2, if_neg h3, if_pos h4] at he
        cases he
      by_cases h5 : l < 0 ∨ 15 < l ∨ h < 0 ∨ l < h ∨ (0 < h ∧ f = 0)
      · rw [if_neg h1, if_neg h2, if_neg h3, if_neg h4, if_pos h5] at he
        cases he
      by_cases h6 : okV t c f r g h l = true
      · rw [if_neg h1, if_neg h2, if_neg h3, if_neg h4, if_neg h5, if_pos h6]
        exact ⟨⟨by omega, by omega, by omega, by omega, by omega, by omega, by omega, by omega, by omega, by omega, by omega, by omega, by omega, by omega⟩, by omega, h6, rfl⟩
      · rw [if_neg h1, if_neg h2, if_neg h3, if_neg h4, if_neg h5, if_neg h6] at he
        cases he
    obtain ⟨R, hz, ho, hS⟩ := hin
    have r0 := R.c0
    have r1 := R.t0
    have r2 := R.t1
    have r3 := R.l0
    have r4 := R.l1
    have hst : St t (if t = 4 ∨ 6 < c then 0 else c) c = true := by
      unfold St
      by_cases h1 : t = 4 ∨ 6 < c
      · rw [if_pos h1]
        simpa using h1
      · rw [if_neg h1, if_pos (by omega)]
        simp
    obtain ⟨x, ⟨K, hK⟩, hx⟩ := Parse_impl t (if t = 4 ∨ 6 < c then 0 else c) l (cellV t c f r g h l)
    have hy : PO t (if t = 4 ∨ 6 < c then 0 else c) l (cellV t c f r g h l) (c, f, r, g, h, 0) := by
      unfold PO
      rw [if_neg (by omega), if_neg (by split <;> omega), if_neg (by omega)]
      exact .inl ⟨c, f, r, g, h, hst, ⟨R, hz, ho, rfl⟩, rfl⟩
    obtain rfl := PO_unique hx hy
    refine ⟨K + 700, ?_⟩
    rw [q _ (by omega), hS]
    simp only [theorbolaw03_NotationCells.j0, Bool.false_eq_true, if_false, if_true]
    rw [spot_law]
    simp only [Option.bind_some]
    rw [show notation_ParseCell.f (K + 699) t (if t = 4 ∨ 6 < c then 0 else c) (cellV t c f r g h l) l = _ from hK _ (by omega)]
    simp [hw (K + 699) (by omega)]
  · refine ⟨700, ?_⟩
    rw [q _ (by omega)]
    simp only [theorbolaw03_NotationCells.j0, Bool.false_eq_true, if_false]
    rw [if_neg he, hw 699 (by omega)]
    rfl
end Go.Proofs.Ytocpcofihlcnoaa.Pure
