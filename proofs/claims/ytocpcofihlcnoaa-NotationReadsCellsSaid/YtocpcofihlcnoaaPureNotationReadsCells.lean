/- NotationReadsCells: ParseCell returns the stop and the errors that the document specifies, for any text. No condition. -/
import Derived.Test.YtocpcofihlcnoaaPNCellsxPureNotationReadsCells
import Derived.Test.YtocpcofihlcnoaaPureCells
namespace Go.Proofs.Ytocpcofihlcnoaa.Pure
open Go.RowKit Go.Proofs.Ytocpcofihlcnoaa.PNCells Go.Proofs.YtocpcofihlcnoaaW.PrintWords Go.Proofs.YtocpcofihlcnoaaW.PrintLast
/-- What the document's Place tells of a text within. -/
def PlOut (t course : Int) (s : ByteArray) (Q : Int → Int → Prop) (x : Int × Int × Int) : Prop :=
  (∃ c f, 1 ≤ c ∧ c ≤ 14 ∧ 0 ≤ f ∧ f ≤ 18 ∧ St t course c = true ∧ (symV t c f).2 = true ∧ (symV t c f).1.data.toList = s.data.toList ∧ x = (c, f, 0)) ∨
    (x = (0, 0, 4) ∧ ∀ c f, 1 ≤ c → c ≤ 14 → 0 ≤ f → f ≤ 18 → Q c f → St t course c = true → (symV t c f).2 = true → (symV t c f).1.data.toList ≠ s.data.toList)
section
variable {t course : Int} {s : ByteArray} (t0 : 1 ≤ t) (t1 : t ≤ 4)
include t0 t1
theorem place_l1 (c : Int) (c0 : 1 ≤ c) (c1 : c ≤ 14)
    (C : ∃ x, Ev (fun k => theorboref03_Place.l0 k t course s (c + 1)) x ∧ PlOut t course s (fun c' _ => c < c') x) (n : Nat) :
    ∀ f : Int, 0 ≤ f → f + n = 19 → ∃ x, Ev (fun k => theorboref03_Place.l1 k t course s c f) x ∧ PlOut t course s (fun c' f' => c < c' ∨ (c = c' ∧ f ≤ f')) x := by
  induction n with
  | zero =>
    intro f f0 hn
    obtain ⟨x, ⟨K, hK⟩, hx⟩ := C
    refine ⟨x, ⟨K + 1, fun k hk => ?_⟩, hx.imp_right fun hq => ⟨hq.1, fun c' f' a b d e q => hq.2 c' f' a b d e (by omega)⟩⟩
    obtain ⟨k, rfl⟩ : ∃ m, k = m + 1 := ⟨k - 1, by omega⟩
    simp only [theorboref03_Place.l1]
    rw [if_neg (by omega), wrap_small (by omega) (by omega)]
    exact hK k (by omega)
  | succ n ih =>
    intro f f0 hn
    obtain ⟨x, ⟨K, hK⟩, hx⟩ := ih (f + 1) (by omega) (by omega)
    have skip : ∀ (_ : St t course c = true → (symV t c f).2 = true → (symV t c f).1.data.toList ≠ s.data.toList), PlOut t course s (fun c' f' => c < c' ∨ (c = c' ∧ f ≤ f')) x := fun hno => hx.imp_right fun hq => ⟨hq.1, fun c' f' a b d e q hs ho => by
      by_cases g : c = c' ∧ f = f'
      · obtain ⟨rfl, rfl⟩ := g
        exact hno hs ho
      · exact hq.2 c' f' a b d e (by omega) hs ho⟩
    obtain ⟨_, _, _, _, a2, _⟩ := sym_facts t0 t1 c0 c1 f0 (by omega : f ≤ 18)
    by_cases he : s.data.toList = []
    · refine ⟨x, ⟨K + 1, fun k hk => ?_⟩, skip fun _ ho => by rw [he]; exact (a2 ho).2.1⟩
      obtain ⟨k, rfl⟩ : ∃ m, k = m + 1 := ⟨k - 1, by omega⟩
      simp only [theorboref03_Place.l1]
      rw [if_pos (by omega), if_pos (ba_ne.2 he), wrap_small (by omega) (by omega)]
      exact hK k (by omega)
    cases hs : St t course c with
    | false =>
      refine ⟨x, ⟨K + 1, fun k hk => ?_⟩, skip fun h => by rw [hs] at h; cases h⟩
      obtain ⟨k, rfl⟩ : ∃ m, k = m + 1 := ⟨k - 1, by omega⟩
      simp only [theorboref03_Place.l1]
      rw [if_pos (by omega), if_neg (fun h => he (ba_ne.1 h)), stands_ref, hs]
      simp only [Option.bind_some, Bool.false_eq_true, if_false]
      rw [wrap_small (by omega) (by omega)]
      exact hK k (by omega)
    | true =>
      have rs := ref_symbol_at t0 t1 c0 c1 f0 (by omega : f ≤ 18)
      obtain ⟨s', b1, b2, b3⟩ := rs 20 (by omega)
      have b1 : ∀ q, 20 ≤ q → theorboref03_symbol.f q t c f = some s' := fun q hq => at_rounds (g := fun k => theorboref03_symbol.f k t c f) (fun k => theorboref03_symbol.mono t c f k) hq b1
      by_cases e : s'.data.toList = s.data.toList
      · have ho : (symV t c f).2 = true := by
          cases h : (symV t c f).2
          · rw [b3 h] at e
            exact absurd e.symm he
          · rfl
        refine ⟨(c, f, 0), ⟨40, fun k hk => ?_⟩, .inl ⟨c, f, c0, c1, f0, by omega, hs, ho, by rw [← (b2 ho).1]; exact e, rfl⟩⟩
        obtain ⟨k, rfl⟩ : ∃ m, k = m + 1 := ⟨k - 1, by omega⟩
        simp only [theorboref03_Place.l1]
        rw [if_pos (by omega), if_neg (fun h => he (ba_ne.1 h)), stands_ref, hs]
        simp only [Option.bind_some, if_true]
        rw [b1 k (by omega)]
        simp only [Option.bind_some]
        rw [if_pos (by rw [Lib.toList_data, Lib.toList_data]; exact e)]
      · refine ⟨x, ⟨K + 40, fun k hk => ?_⟩, skip fun _ ho => by rw [← (b2 ho).1]; exact e⟩
        obtain ⟨k, rfl⟩ : ∃ m, k = m + 1 := ⟨k - 1, by omega⟩
        simp only [theorboref03_Place.l1]
        rw [if_pos (by omega), if_neg (fun h => he (ba_ne.1 h)), stands_ref, hs]
        simp only [Option.bind_some, if_true]
        rw [b1 k (by omega)]
        simp only [Option.bind_some]
        rw [if_neg (by rw [Lib.toList_data, Lib.toList_data]; exact e), wrap_small (by omega) (by omega)]
        exact hK k (by omega)
theorem place_l0 (n : Nat) : ∀ c : Int, 1 ≤ c → c + n = 15 → ∃ x, Ev (fun k => theorboref03_Place.l0 k t course s c) x ∧ PlOut t course s (fun c' _ => c ≤ c') x := by
  induction n with
  | zero =>
    intro c c0 hn
    refine ⟨(0, 0, 4), ⟨1, fun k hk => ?_⟩, .inr ⟨rfl, fun c' f' a b d e q => by omega⟩⟩
    obtain ⟨k, rfl⟩ : ∃ m, k = m + 1 := ⟨k - 1, by omega⟩
    simp only [theorboref03_Place.l0]
    rw [if_neg (by omega)]
  | succ n ih =>
    intro c c0 hn
    obtain ⟨x, hK, hx⟩ := ih (c + 1) (by omega) (by omega)
    obtain ⟨y, ⟨K2, hK2⟩, hy⟩ := place_l1 (s := s) t0 t1 c c0 (by omega) ⟨x, hK, hx.imp_right fun hq => ⟨hq.1, fun c' f' a b d e q => hq.2 c' f' a b d e (by omega)⟩⟩ 19 0 (by omega) (by omega)
    refine ⟨y, ⟨K2 + 1, fun k hk => ?_⟩, hy.imp_right fun hq => ⟨hq.1, fun c' f' a b d e q => hq.2 c' f' a b d e (by omega)⟩⟩
    obtain ⟨k, rfl⟩ : ∃ m, k = m + 1 := ⟨k - 1, by omega⟩
    simp only [theorboref03_Place.l0]
    rw [if_pos (by omega)]
    exact hK2 k (by omega)
end
theorem spot_ref (t course : Int) : theorboref03_spot.f t course = some (if t < 1 ∨ 4 < t then 30 else if course < 0 ∨ 6 < course ∨ (t = 4 ∧ course ≠ 0) then 12 else 0) := by
  unfold theorboref03_spot.f
  rw [known]
  simp only [Option.bind_some]
  by_cases ht : t < 1 ∨ 4 < t
  · rw [if_neg (by simp; omega), if_pos ht]
  rw [if_pos (by simp; omega), if_neg ht]
  by_cases a : course < 0
  · simp [a]
  · by_cases b : 6 < course
    · simp [a, b]
    · by_cases d : t = 4
      · by_cases e : course = 0 <;> simp [a, b, d, e]
      · simp [a, b, d]
theorem Place_ref {t course : Int} {s : ByteArray} (t0 : 1 ≤ t) (t1 : t ≤ 4) (hc : ¬ (course < 0 ∨ 6 < course ∨ (t = 4 ∧ course ≠ 0))) : ∃ x, Ev (fun k => theorboref03_Place.f k t course s) x ∧ PlOut t course s (fun _ _ => True) x := by
  obtain ⟨x, ⟨K, hK⟩, hx⟩ := place_l0 (course := course) (s := s) t0 t1 14 1 (by omega) (by omega)
  refine ⟨x, ⟨K, fun k hk => ?_⟩, hx.imp_right fun hq => ⟨hq.1, fun c f a b d e _ => hq.2 c f a b d e (by omega)⟩⟩
  show theorboref03_Place.f k t course s = some x
  unfold theorboref03_Place.f
  rw [spot_ref, if_neg (by omega), if_neg hc]
  simp only [Option.bind_some, if_true]
  exact hK k hk

theorem CellS_zero {t c f r g h l : Int} (he : (CellS t c f r g h l).2 = 0) : InR t c f r g h l ∧ ¬ (0 < h ∧ f = 0) ∧ okV t c f r g h l = true ∧ CellS t c f r g h l = (cellV t c f r g h l, 0) := by
  unfold CellS at he ⊢
  by_cases h1 : t < 1 ∨ 4 < t
  · rw [if_pos h1] at he
    cases he
  by_cases h2 : c < 1 ∨ 14 < c
  · rw [if_neg h1, if_pos h2] at he
    cases he
  by_cases h3 : f < 0 ∨ 18 < f
  · rw [if_neg h1, if_neg h2, if_pos h3] at he
    cases he
  by_cases h4 : r < 0 ∨ 3 < r ∨ g < 0 ∨ 4 < g
  · rw [if_neg h1, if_neg h2, if_neg h3, if_pos h4] at he
    cases he
  by_cases h5 : l < 0 ∨ 15 < l ∨ h < 0 ∨ l < h ∨ (0 < h ∧ f = 0)
  · rw [if_neg h1, if_neg h2, if_neg h3, if_neg h4, if_pos h5] at he
    cases he
  by_cases h6 : okV t c f r g h l = true
  · rw [if_neg h1, if_neg h2, if_neg h3, if_neg h4, if_neg h5, if_pos h6]
    exact ⟨⟨by omega, by omega, by omega, by omega, by omega, by omega, by omega, by omega, by omega, by omega, by omega, by omega, by omega, by omega⟩, by omega, h6, rfl⟩
  · rw [if_neg h1, if_neg h2, if_neg h3, if_neg h4, if_neg h5, if_neg h6] at he
    cases he
theorem CellS_hit {t c f r g h l : Int} {T : ByteArray} (H : Hit t c f l T r g h) : (CellS t c f r g h l).2 = 0 ∧ (CellS t c f r g h l).1.data.toList = T.data.toList := by
  obtain ⟨⟨a1, a2, a3, a4, a5, a6, a7, a8, a9, a10, a11, a12, a13, a14⟩, hz, ho, he⟩ := H
  unfold CellS
  rw [if_neg (by omega), if_neg (by omega), if_neg (by omega), if_neg (by omega), if_neg (by omega), if_pos ho]
  exact ⟨rfl, he⟩
def POut2 (t course l : Int) (T : ByteArray) (Q : Int → Int → Int → Int → Int → Prop) (x : R6) : Prop :=
  (∃ c f r g h, St t course c = true ∧ Hit t c f l T r g h ∧ x = (c, f, r, g, h, 0)) ∨ (x = (0, 0, 0, 0, 0, 4) ∧ ∀ c f r g h, St t course c = true → Q c f r g h → ¬ Hit t c f l T r g h)
section
variable {t course l : Int} {T : ByteArray} (t0 : 1 ≤ t) (t1 : t ≤ 4) (l0 : 0 ≤ l) (l1 : l ≤ 15) (hc : ¬ (course < 0 ∨ 6 < course ∨ (t = 4 ∧ course ≠ 0)))
include t0 t1 l0 l1
omit t0 t1 in
theorem rparse_l1 (n c f : Int) (n0 : 0 ≤ n) (n1 : n ≤ 64) (hs : St t course c = true)
    (C : ∃ x, Ev (fun k => theorboref03_ParseCell.l0 k t course T l (n + 1)) x ∧ POut2 t course l T (fun c' f' _ _ _ => n < ((symV t c' f').1.size : Int)) x) (m : Nat) :
    ∀ i : Int, 0 ≤ i → i + m = 20 * (l + 1) → ∃ x, Ev (fun k => theorboref03_ParseCell.l1 k t course T l n i c f) x ∧
      POut2 t course l T (fun c' f' r g h => n < ((symV t c' f').1.size : Int) ∨ (c = c' ∧ f = f' ∧ i ≤ r + 4 * g + 20 * h)) x := by
  have w1 : wrap64 (20 * wrap64 (l + 1)) = 20 * (l + 1) := by rw [wrap_small (i := l + 1) (by omega) (by omega), wrap_small (by omega) (by omega)]
  induction m with
  | zero =>
    intro i i0 hm
    obtain ⟨x, ⟨K, hK⟩, hx⟩ := C
    refine ⟨x, ⟨K + 1, fun k hk => ?_⟩, hx.imp_right fun hq => ⟨hq.1, fun c' f' r g h s q hh => ?_⟩⟩
    · obtain ⟨k, rfl⟩ : ∃ m, k = m + 1 := ⟨k - 1, by omega⟩
      simp only [theorboref03_ParseCell.l1]
      rw [w1, if_neg (by omega), wrap_small (by omega) (by omega)]
      exact hK k (by omega)
    · have e1 := hh.inr.r1
      have e2 := hh.inr.g1
      have e3 := hh.inr.h1
      exact hq.2 c' f' r g h s (by omega) hh
  | succ m ih =>
    intro i i0 hm
    obtain ⟨x, ⟨K, hK⟩, hx⟩ := ih (i + 1) (by omega) (by omega)
    have d1 : Int.tmod i 4 = i % 4 := Int.tmod_eq_emod_of_nonneg i0
    have d2 : wrap64 (Int.tdiv i 4) = i / 4 := by rw [Int.tdiv_eq_ediv_of_nonneg i0, wrap_small (by omega) (by omega)]
    have d3 : Int.tmod (i / 4) 5 = i / 4 % 5 := Int.tmod_eq_emod_of_nonneg (by omega)
    have d4 : wrap64 (Int.tdiv i 20) = i / 20 := by rw [Int.tdiv_eq_ediv_of_nonneg i0, wrap_small (by omega) (by omega)]
    by_cases hit : (CellS t c f (i % 4) (i / 4 % 5) (i / 20) l).2 = 0 ∧ (CellS t c f (i % 4) (i / 4 % 5) (i / 20) l).1.data.toList = T.data.toList
    · obtain ⟨R, hz, ho, e⟩ := CellS_zero hit.1
      refine ⟨(c, f, i % 4, i / 4 % 5, i / 20, 0), ⟨60, fun k hk => ?_⟩, .inl ⟨c, f, i % 4, i / 4 % 5, i / 20, hs, ⟨R, hz, ho, by rw [← hit.2, e]⟩, rfl⟩⟩
      obtain ⟨k, rfl⟩ : ∃ m, k = m + 1 := ⟨k - 1, by omega⟩
      simp only [theorboref03_ParseCell.l1]
      rw [w1, if_pos (by omega), d1, d2, d3, d4, Cell_ref _ _ _ _ _ _ _ _ (by omega)]
      simp only [Option.bind_some]
      rw [if_pos hit.1, if_pos (by rw [Lib.toList_data, Lib.toList_data]; exact hit.2)]
    · refine ⟨x, ⟨K + 60, fun k hk => ?_⟩, hx.imp_right fun hq => ⟨hq.1, fun c' f' r g h s q hh => ?_⟩⟩
      · obtain ⟨k, rfl⟩ : ∃ m, k = m + 1 := ⟨k - 1, by omega⟩
        simp only [theorboref03_ParseCell.l1]
        rw [w1, if_pos (by omega), d1, d2, d3, d4, Cell_ref _ _ _ _ _ _ _ _ (by omega)]
        simp only [Option.bind_some]
        rw [wrap_small (by omega) (by omega)]
        by_cases h1 : (CellS t c f (i % 4) (i / 4 % 5) (i / 20) l).2 = 0
        · rw [if_pos h1, if_neg (by rw [Lib.toList_data, Lib.toList_data]; exact fun e => hit ⟨h1, e⟩)]
          exact hK k (by omega)
        · rw [if_neg h1]
          exact hK k (by omega)
      · by_cases e : c = c' ∧ f = f' ∧ i = r + 4 * g + 20 * h
        · obtain ⟨rfl, rfl, rfl⟩ := e
          have e1 := hh.inr.r0
          have e2 := hh.inr.r1
          have e3 := hh.inr.g0
          have e4 := hh.inr.g1
          rw [show (r + 4 * g + 20 * h) % 4 = r by omega, show (r + 4 * g + 20 * h) / 4 % 5 = g by omega, show (r + 4 * g + 20 * h) / 20 = h by omega] at hit
          exact hit (CellS_hit hh)
        · exact hq.2 c' f' r g h s (by omega) hh
include hc
theorem rparse_l0 (hT : T.size ≤ 64) (m : Nat) : ∀ n : Int, 1 ≤ n → n + m = (T.size : Int) + 1 → ∃ x, Ev (fun k => theorboref03_ParseCell.l0 k t course T l n) x ∧ POut2 t course l T (fun c' f' _ _ _ => n ≤ ((symV t c' f').1.size : Int)) x := by
  induction m with
  | zero =>
    intro n n0 hm
    refine ⟨(0, 0, 0, 0, 0, 4), ⟨1, fun k hk => ?_⟩, .inr ⟨rfl, fun c' f' r g h s q hh => ?_⟩⟩
    · obtain ⟨k, rfl⟩ : ∃ m, k = m + 1 := ⟨k - 1, by omega⟩
      simp only [theorboref03_ParseCell.l0]
      rw [if_neg (by omega)]
    · have e := congrArg List.length hh.eq
      unfold cellV at e
      simp only [ba_app, List.length_append] at e
      rw [← Lib.size_eq, ← Lib.size_eq T] at e
      omega
  | succ m ih =>
    intro n n0 hm
    obtain ⟨x, ⟨K, hK⟩, hx⟩ := ih (n + 1) (by omega) (by omega)
    obtain ⟨y, ⟨K2, hK2⟩, hy⟩ := Place_ref (t := t) (course := course) (s := T.extract 0 n.toNat) t0 t1 hc
    have cut : ∀ {c' f' r g h}, Hit t c' f' l T r g h → n = ((symV t c' f').1.size : Int) → (symV t c' f').1.data.toList = (T.extract 0 n.toNat).data.toList := fun hh e => by
      rw [Lib.extract_data, ← hh.eq, e]
      unfold cellV
      simp only [ba_app, List.append_assoc]
      rw [Lib.size_eq]
      simp
    rcases hy with ⟨c, f, c0, c1, f0, f1, s, ho, e, rfl⟩ | ⟨rfl, hno⟩
    · obtain ⟨z, ⟨K3, hK3⟩, hz⟩ := rparse_l1 (T := T) l0 l1 n c f (by omega) (by omega) s ⟨x, ⟨K, hK⟩, hx.imp_right fun hq => ⟨hq.1, fun c' f' r g h s q => hq.2 c' f' r g h s (by omega)⟩⟩ (20 * (l + 1)).toNat 0 (by omega) (by omega)
      refine ⟨z, ⟨K2 + K3 + 1, fun k hk => ?_⟩, hz.imp_right fun hq => ⟨hq.1, fun c' f' r g h s' q hh => ?_⟩⟩
      · obtain ⟨k, rfl⟩ : ∃ m, k = m + 1 := ⟨k - 1, by omega⟩
        simp only [theorboref03_ParseCell.l0]
        rw [if_pos (by omega), if_pos (by omega), show theorboref03_Place.f k t course (T.extract 0 n.toNat) = _ from hK2 k (by omega)]
        simp only [Option.bind_some, if_true]
        exact hK3 k (by omega)
      · have e1 := hh.inr.r0
        have e3 := hh.inr.g0
        have e5 := hh.inr.h0
        by_cases q' : n < ((symV t c' f').1.size : Int)
        · exact hq.2 c' f' r g h s' (.inl q') hh
        · have ok' := hh.ok
          unfold okV at ok'
          simp only [Bool.and_eq_true] at ok'
          obtain ⟨rfl, rfl⟩ := sym_inj t0 t1 c0 c1 f0 f1 hh.inr.c0 hh.inr.c1 hh.inr.f0 hh.inr.f1 (may_of_St s s') ho ok'.1 (e.trans (cut hh (by omega)).symm)
          exact hq.2 c f r g h s' (.inr ⟨rfl, rfl, by omega⟩) hh
    · refine ⟨x, ⟨K2 + K + 1, fun k hk => ?_⟩, hx.imp_right fun hq => ⟨hq.1, fun c' f' r g h s' q hh => ?_⟩⟩
      · obtain ⟨k, rfl⟩ : ∃ m, k = m + 1 := ⟨k - 1, by omega⟩
        simp only [theorboref03_ParseCell.l0]
        rw [if_pos (by omega), if_pos (by omega), show theorboref03_Place.f k t course (T.extract 0 n.toNat) = _ from hK2 k (by omega)]
        simp only [Option.bind_some]
        rw [if_neg (by decide), wrap_small (by omega) (by omega)]
        exact hK k (by omega)
      · by_cases q' : n < ((symV t c' f').1.size : Int)
        · exact hq.2 c' f' r g h s' (by omega) hh
        · have ok' := hh.ok
          unfold okV at ok'
          simp only [Bool.and_eq_true] at ok'
          exact hno c' f' hh.inr.c0 hh.inr.c1 hh.inr.f0 hh.inr.f1 trivial s' ok'.1 (cut hh (by omega))
end
theorem Parse_ref (t course l : Int) (T : ByteArray) (hT : T.size ≤ 64) : ∃ x, Ev (fun k => theorboref03_ParseCell.f k t course T l) x ∧ PO t course l T x := by
  unfold PO
  by_cases ht : t < 1 ∨ 4 < t
  · refine ⟨(0, 0, 0, 0, 0, 30), ⟨0, fun k _ => ?_⟩, by rw [if_pos ht]⟩
    unfold theorboref03_ParseCell.f
    rw [spot_ref, if_pos ht]
    rfl
  by_cases hc : course < 0 ∨ 6 < course ∨ (t = 4 ∧ course ≠ 0)
  · refine ⟨(0, 0, 0, 0, 0, 12), ⟨0, fun k _ => ?_⟩, by rw [if_neg ht, if_pos hc]⟩
    unfold theorboref03_ParseCell.f
    rw [spot_ref, if_neg ht, if_pos hc]
    rfl
  have j : ∀ k, (if l < 0 then theorboref03_ParseCell.j0 k t course T l true else theorboref03_ParseCell.j0 k t course T l (decide (l > 15))) = theorboref03_ParseCell.j0 k t course T l (decide (l < 0 ∨ 15 < l)) := fun k => by
    by_cases x1 : l < 0 <;> simp [x1]
  by_cases hl : l < 0 ∨ 15 < l
  · refine ⟨(0, 0, 0, 0, 0, 24), ⟨1, fun k hk => ?_⟩, by rw [if_neg ht, if_neg hc, if_pos hl]⟩
    obtain ⟨k, rfl⟩ : ∃ m, k = m + 1 := ⟨k - 1, by omega⟩
    unfold theorboref03_ParseCell.f
    rw [spot_ref, if_neg ht, if_neg hc]
    simp only [Option.bind_some, if_true]
    rw [j, decide_eq_true hl]
    rfl
  obtain ⟨x, ⟨K, hK⟩, hx⟩ := rparse_l0 (t := t) (course := course) (l := l) (T := T) (by omega) (by omega) (by omega) (by omega) hc hT T.size 1 (by omega) (by omega)
  refine ⟨x, ⟨K + 1, fun k hk => ?_⟩, ?_⟩
  · obtain ⟨k, rfl⟩ : ∃ m, k = m + 1 := ⟨k - 1, by omega⟩
    unfold theorboref03_ParseCell.f
    rw [spot_ref, if_neg ht, if_neg hc]
    simp only [Option.bind_some, if_true]
    rw [j, decide_eq_false hl]
    simp only [theorboref03_ParseCell.j0, Bool.false_eq_true, if_false]
    exact hK k (by omega)
  · rw [if_neg ht, if_neg hc, if_neg hl]
    refine hx.imp_right fun hq => ⟨hq.1, fun c f r g h s _ hh => hq.2 c f r g h s ?_ hh⟩
    obtain ⟨_, _, _, _, a2, _⟩ := sym_facts hh.inr.t0 hh.inr.t1 hh.inr.c0 hh.inr.c1 hh.inr.f0 hh.inr.f1
    have ok' := hh.ok
    unfold okV at ok'
    simp only [Bool.and_eq_true] at ok'
    have := List.length_pos_iff.2 (a2 ok'.1).2.1
    rw [← Lib.size_eq] at this
    omega
theorem works_up (k : Nat) (hk : 600 ≤ k) : theorbolaw03_works.f k = some true := at_rounds (g := fun k => theorbolaw03_works.f k) (fun k => theorbolaw03_works.mono k) hk works_k
theorem NotationReadsCells : theorbolaw03_NotationReadsCells.Pure := by
  intro t course l T _
  by_cases hT : (T.size : Int) > 64
  · refine ⟨600, ?_⟩
    unfold theorbolaw03_NotationReadsCells.f
    rw [if_pos hT, works_up _ (by omega)]
    rfl
  · obtain ⟨x, ⟨K, hK⟩, hx⟩ := Parse_impl t course l T
    obtain ⟨y, ⟨K2, hK2⟩, hy⟩ := Parse_ref t course l T (by omega)
    obtain rfl := PO_unique hx hy
    refine ⟨K + K2 + 600, ?_⟩
    unfold theorbolaw03_NotationReadsCells.f
    rw [if_neg hT, show notation_ParseCell.f (K + K2 + 600) t course T l = _ from hK _ (by omega)]
    simp only [Option.bind_some]
    rw [show theorboref03_ParseCell.f (K + K2 + 600) t course T l = _ from hK2 _ (by omega)]
    simp [works_up (K + K2 + 600) (by omega)]
end Go.Proofs.Ytocpcofihlcnoaa.Pure
