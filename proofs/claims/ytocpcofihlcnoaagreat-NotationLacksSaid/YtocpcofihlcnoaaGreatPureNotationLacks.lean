/- NotationLacks: Lacks and Can say what the document specifies, for any system and piece. No condition. -/
import Derived.Test.YtocpcofihlcnoaaGreatPureCopy
import Derived.Test.YtocpcofihlcnoaaGreatPNLxPureNotationLacks
namespace Go.Proofs.YtocpcofihlcnoaaGreat.Pure
open Go.RowKit Go.Proofs.YtocpcofihlcnoaaGreat.PNL Go.Proofs.YtocpcofihlcnoaaGreatW.PrintWords Go.Proofs.YtocpcofihlcnoaaGreatW.PrintLast Go.Proofs.YtocpcofihlcnoaaGreatW.PrintMore
set_option linter.unusedSimpArgs false
set_option linter.unusedVariables false
set_option linter.unusedSectionVars false
theorem rd65 {l : List S65} {j : Nat} {x : S65} (h : l[j]? = some x) : rd_T65 l (j : Int) = x := by simp [rd_T65, h]
theorem sameL_l (l : List S65) (hl : l.length ≤ 100000) : ∀ (suf : List S65) (j : Nat), l.drop j = suf → Ev (fun k => theorbolaw03_SameLacks.l0 k l l (j : Int)) true
  | [], j, h => by
    have := drop_nil h
    refine Ev.step (f := fun _ => some true) (fun k => ?_) (Ev.now _)
    simp only [theorbolaw03_SameLacks.l0]
    rw [if_neg (by omega)]
  | x :: r, j, h => by
    obtain ⟨hj, hx, hr⟩ := drop_cons h
    have ih := sameL_l l hl r (j + 1) hr
    refine Ev.step (fun k => ?_) ih
    simp only [theorbolaw03_SameLacks.l0]
    rw [if_pos (by omega), if_pos (by omega), if_pos (by omega), if_neg (by simp), next hj (by omega)]
theorem sameL_ev (l : List S65) (hl : l.length ≤ 100000) : Ev (fun k => theorbolaw03_SameLacks.f k l l) true := by
  refine Ev.congr (fun k => ?_) (sameL_l l hl l 0 (by simp))
  simp [theorbolaw03_SameLacks.f]
theorem allL_le (t : Int) (l2 : List S46) : ∀ (l : List S46) (i : Nat), (∀ e ∈ l, e.f3.length ≤ 20) → (allL t l2 l i).length ≤ 64 * l.length
  | [], i, _ => by simp [allL]
  | e :: r, i, h => by
    have := evL_le t l2 (i : Int) e (h e (by simp))
    have := allL_le t l2 r (i + 1) (fun e he => h e (by simp [he]))
    unfold allL
    rw [List.length_append, List.length_cons]
    omega
theorem NotationLacks : theorbolaw03_NotationLacks.Pure := by
  intro t l0 l1 l2 _ hg
  have hm : l2.length ≤ maxLen := hg.2.1
  refine Ev.rounds ?_
  have hB := big_ev l0 l1 l2 hm
  by_cases b : bigB l0 l1 l2 = true
  · rw [b] at hB
    exact Ev.bd (f := fun k t746 => if t746 = true then ((theorbolaw03_works.f k).bind fun t747 => (some t747)) else _) hB (Ev.pos rfl (Ev.bd works_ev (Ev.now _)))
  · rw [show bigB l0 l1 l2 = false by simpa using b] at hB
    obtain ⟨h0, h1, h2, hs⟩ := big_of (show bigB l0 l1 l2 = false by simpa using b)
    have hC := copy_ev l0 l1 l2 h0 h1 h2 hs
    have hI := Lacks_impl l0 l1 l2 h0 h1 h2 hs t
    have hR := Lacks_ref l0 l1 l2 h0 h1 h2 hs t
    have hS := sameL_ev (LS l0 l1 l2 t).1 (by
      unfold LS
      split
      · split
        · have := allL_le t l2 l2 0 hs
          show (allL t l2 l2 0).length ≤ _
          omega
        · simp
      · simp)
    have hN := same_ev l0 l1 l2 h0 h1 h2 hs
    have cI : Ev (fun k => notation_Can.f k t l0 l1 l2) (if (LS l0 l1 l2 t).2 = 0 then ((LS l0 l1 l2 t).1.length : Int) == 0 else false) :=
      Ev.congr (f := fun k => (notation_Lacks.f k t l0 l1 l2).bind fun b => if b.2 = 0 then some ((b.1.length : Int) == 0) else some false) (fun k => rfl) (Ev.bd (f := fun k (b : List S65 × Int) => if b.2 = 0 then some ((b.1.length : Int) == 0) else some false) hI (Ev.ite (fun _ => Ev.now _) fun _ => Ev.now _))
    have cR : Ev (fun k => theorboref03_Can.f k t l0 l1 l2) (if (LS l0 l1 l2 t).2 = 0 then ((LS l0 l1 l2 t).1.length : Int) == 0 else false) :=
      Ev.congr (f := fun k => (theorboref03_Lacks.f k t l0 l1 l2).bind fun b => if b.2 = 0 then some ((b.1.length : Int) == 0) else some false) (fun k => rfl) (Ev.bd (f := fun k (b : List S65 × Int) => if b.2 = 0 then some ((b.1.length : Int) == 0) else some false) hR (Ev.ite (fun _ => Ev.now _) fun _ => Ev.now _))
    unfold theorbolaw03_NotationLacks.f
    refine Ev.bd hB (Ev.neg (by simp) (Ev.bd hC ?_))
    refine Ev.bd hI (Ev.bd hR (Ev.bd hS (Ev.pos rfl (Ev.pos rfl ?_))))
    refine Ev.bd cI (Ev.bd cR (Ev.pos (by simp) (Ev.bd hN (Ev.pos rfl (Ev.bd works_ev (Ev.now _))))))
end Go.Proofs.YtocpcofihlcnoaaGreat.Pure
