/- Columns: the program's and the document's, loop by loop. No condition. -/
import Derived.Test.YtocpcofihlcnoaaGreatPureCCol1
import Derived.Lib.Join
namespace Go.Proofs.YtocpcofihlcnoaaGreat.Pure
open Go.RowKit Go.Proofs.YtocpcofihlcnoaaGreat.PNC Go.Proofs.YtocpcofihlcnoaaGreatW.PrintWords Go.Proofs.YtocpcofihlcnoaaGreatW.PrintLast Go.Proofs.YtocpcofihlcnoaaGreatW.PrintMore
set_option linter.unusedSimpArgs false
set_option linter.unusedVariables false
set_option linter.unusedSectionVars false
/-! ### words -/
def bit (n : Int) : Bool := n == 1
def ckW (t v d h : Int) : Bool := (t == 0) || (bit d && bit h) || (v == 0 && (bit d || bit h)) || (t == 4 && (v == 0 || bit h)) || match notation_timeWord.f t v (bit d) (bit h), theorboref03_word.f t v (bit d) (bit h) with
  | some (a, _), some b => a.data.toList == b.data.toList && decide (a.data.toList.length ≤ 9)
  | _, _ => false
theorem ckW_all : (upto 5).all (fun t => (upto 8).all fun v => (upto 2).all fun d => (upto 2).all fun h => ckW t v d h) = true := by decide +kernel
def wordV (t : Int) (s : S43) : ByteArray := (theorboref03_word.f t s.f0 s.f1 s.f2).getD ⟨#[]⟩
theorem word_facts {t : Int} (t0 : 1 ≤ t) (t1 : t ≤ 4) {s : S43} (v : sv s = true) (h4 : t = 4 → s.f0 ≠ 0 ∧ s.f2 = false) : (∃ b, notation_timeWord.f t s.f0 s.f1 s.f2 = some (wordV t s, b)) ∧ theorboref03_word.f t s.f0 s.f1 s.f2 = some (wordV t s) ∧ (wordV t s).data.toList.length ≤ 9 := by
  have hv : 0 ≤ s.f0 ∧ s.f0 ≤ 7 ∧ ¬ (s.f1 = true ∧ s.f2 = true) ∧ (s.f0 = 0 → s.f1 = false ∧ s.f2 = false) := by
    unfold sv at v
    by_cases a : s.f0 = 0
    · rw [if_pos a] at v
      cases h1 : s.f1 <;> cases h2 : s.f2 <;> simp_all
    · rw [if_neg a] at v
      simp only [Bool.and_eq_true, decide_eq_true_eq] at v
      refine ⟨by omega, by omega, ?_, fun h => absurd h a⟩
      rintro ⟨h1, h2⟩
      rw [h1, h2] at v
      simp at v
  have h := all_upto (all_upto ckW_all t (by omega) (by omega)) s.f0 (by omega) (by omega)
  have h := all_upto (all_upto h (if s.f1 = true then 1 else 0) (by split <;> omega) (by split <;> omega)) (if s.f2 = true then 1 else 0) (by split <;> omega) (by split <;> omega)
  have b1 : bit (if s.f1 = true then 1 else 0) = s.f1 := by cases s.f1 <;> rfl
  have b2 : bit (if s.f2 = true then 1 else 0) = s.f2 := by cases s.f2 <;> rfl
  unfold ckW at h
  rw [b1, b2] at h
  have g0 : (t == 0) = false := beq_eq_false_iff_ne.2 (by omega)
  have g1 : (s.f1 && s.f2) = false := by
    have := hv.2.2.1
    cases h1 : s.f1 <;> cases h2 : s.f2 <;> simp_all
  have g2 : (s.f0 == 0 && (s.f1 || s.f2)) = false := by
    by_cases a : s.f0 = 0
    · obtain ⟨h1, h2⟩ := hv.2.2.2 a
      simp [h1, h2]
    · simp [a]
  have g3 : (t == 4 && (s.f0 == 0 || s.f2)) = false := by
    by_cases a : t = 4
    · obtain ⟨h1, h2⟩ := h4 a
      simp [h1, h2]
    · simp [a]
  rw [g0, g1, g2, g3] at h
  simp only [Bool.false_or] at h
  unfold wordV
  rcases h1 : notation_timeWord.f t s.f0 s.f1 s.f2 with _ | ⟨a, ok⟩
  · simp [h1] at h
  · rcases h2 : theorboref03_word.f t s.f0 s.f1 s.f2 with _ | b
    · simp [h1, h2] at h
    · simp only [h1, h2, Bool.and_eq_true, beq_iff_eq, decide_eq_true_eq] at h
      obtain rfl : a = b := ba_ext h.1
      exact ⟨⟨ok, rfl⟩, rfl, h.2⟩
/-! ### cells -/
def ck45 (t c f : Int) : Bool := (t == 0) || (c == 0) || (symV t c f).1.data.toList.head? != some 45
theorem ck45_all : (upto 5).all (fun t => (upto 15).all fun c => (upto 19).all fun f => ck45 t c f) = true := by decide +kernel
def cellT (t : Int) (l2 : List S46) (i : Int) (s : S54) : ByteArray := cellV t s.f0 s.f1 s.f2 s.f3 s.f4 (longS l2 i s.f0)
def tx (t : Int) (l2 : List S46) (i : Int) (s : S54) : List UInt8 := (cellT t l2 i s).data.toList
theorem cell_facts {t : Int} (t0 : 1 ≤ t) (t1 : t ≤ 4) {l0 : List S99} {l2 : List S46} {i : Int} {s : S54} (v : VS s) (g : GS l0 (longS l2 i) s) (hw : wantsL t s (longS l2 i s.f0) = []) :
    okV t s.f0 s.f1 s.f2 s.f3 s.f4 (longS l2 i s.f0) = true ∧ CellS t s.f0 s.f1 s.f2 s.f3 s.f4 (longS l2 i s.f0) = (cellT t l2 i s, 0) ∧ (tx t l2 i s).length ≤ 36 ∧ tx t l2 i s ≠ [45] := by
  have hl := long_le l2 i s.f0
  have ok : okV t s.f0 s.f1 s.f2 s.f3 s.f4 (longS l2 i s.f0) = true := by
    unfold wantsL at hw
    by_cases h : (symV t s.f0 s.f1).2 = true
    · rw [if_pos h] at hw
      simp only [List.append_eq_nil_iff] at hw
      unfold okV
      cases h1 : (rightV t s.f2).2 <;> cases h2 : (graceV t s.f3).2 <;> cases h3 : (holdV t s.f4 (longS l2 i s.f0)).2 <;> simp_all
    · rw [if_neg h] at hw; cases hw
  obtain ⟨_, _, _, a2, a3, _⟩ := sym_facts t0 t1 v.c0 v.c1 v.f0 v.f1
  obtain ⟨_, _, _, b2, _⟩ := right_facts t0 t1 v.r0 v.r1
  obtain ⟨_, _, _, d2, _⟩ := grace_facts t0 t1 v.g0 v.g1
  obtain ⟨_, _, _, e2, _⟩ := hold_facts t0 t1 v.h0 v.h1 hl.1 hl.2
  refine ⟨ok, ?_, ?_, ?_⟩
  · unfold CellS
    have := g.h0
    have := g.h1
    have := g.h2
    rw [if_neg (by omega), if_neg (by have := v.c0; have := v.c1; omega), if_neg (by have := v.f0; have := v.f1; omega), if_neg (by have := v.r0; have := v.r1; have := v.g0; have := v.g1; omega), if_neg (by omega), if_pos ok]
    rfl
  · unfold tx cellT cellV
    rw [ba_app, ba_app, ba_app]
    have q : ∀ (b : ByteArray), b.size ≤ 9 → b.data.toList.length ≤ 9 := fun b h => by simpa using h
    have := q _ a2
    have := q _ b2
    have := q _ d2
    have := q _ e2
    simp only [List.length_append]
    omega
  · have hs : (symV t s.f0 s.f1).2 = true := by
      unfold okV at ok
      simp only [Bool.and_eq_true] at ok
      exact ok.1
    have hne := (a3 hs).2.1
    have h45 := all_upto (all_upto (all_upto ck45_all t (by omega) (by omega)) s.f0 (by have := v.c0; omega) (by have := v.c1; omega)) s.f1 v.f0 (by have := v.f1; omega)
    unfold ck45 at h45
    rw [beq_eq_false_iff_ne.2 (show t ≠ 0 by omega), beq_eq_false_iff_ne.2 (show s.f0 ≠ 0 by have := v.c0; omega)] at h45
    simp only [Bool.false_or, bne_iff_ne, ne_eq] at h45
    unfold tx cellT cellV
    rw [ba_app, ba_app, ba_app]
    cases hd : (symV t s.f0 s.f1).1.data.toList with
    | nil => exact absurd hd hne
    | cons x r =>
      rw [hd] at h45
      intro h
      simp only [List.cons_append, List.cons.injEq] at h
      exact h45 (by simp [h.1])
/-! ### join -/
theorem join_eq (w : ByteArray) (l : List ByteArray) (hw : w.data.toList.length ≤ 100) (hl : ∀ b ∈ l, b.data.toList.length ≤ 100) (hn : l.length ≤ 1000) : strings_Join.f (w :: l) (⟨#[32]⟩ : ByteArray) = some (B (w.data.toList ++ l.flatMap (fun b => 32 :: b.data.toList))) := by
  have e : Lib.join ((w :: l).map (·.data.toList)) ((⟨#[32]⟩ : ByteArray).data.toList) = w.data.toList ++ l.flatMap (fun b => 32 :: b.data.toList) := by
    rw [List.map_cons, Lib.join_cons]
    congr 1
    unfold Lib.joinTail
    rw [List.map_map, List.flatMap_def]
    rfl
  have len : ∀ l : List ByteArray, (∀ b ∈ l, b.data.toList.length ≤ 100) → (l.flatMap (fun b => 32 :: b.data.toList)).length ≤ 101 * l.length := by
    intro l
    induction l with
    | nil => intro _; simp
    | cons x r ih =>
      intro h
      have h1 := h x (by simp)
      have h2 := ih fun b hb => h b (by simp [hb])
      rw [List.flatMap_cons, List.length_append, List.length_cons, List.length_cons]
      omega
  have := len l hl
  unfold strings_Join.f
  rw [e, if_pos (by rw [List.length_cons]; omega), if_pos (by rw [List.length_append]; omega)]
  rfl
theorem fmc_flat (f : Int → Option (List UInt8)) (c : Int) (r : List Int) : ((c :: r).filterMap f).flatten = (f c).getD [] ++ (r.filterMap f).flatten ∧ ((c :: r).filterMap f).reverse.flatten = (r.filterMap f).reverse.flatten ++ (f c).getD [] := by
  rw [List.filterMap_cons]
  cases f c <;> simp
/-! ### the document's column -/
section
variable (l0 : List S99) (l1 : List Int) (l2 : List S46) (h0 : l0.length ≤ 64) (h1 : l1.length ≤ 64) (h2 : l2.length ≤ 420) (hs : ∀ e ∈ l2, e.f3.length ≤ 20) (t : Int) (t0 : 1 ≤ t) (t1 : t ≤ 4) (i : Nat) (e : S46) (hi : l2[i]? = some e)
  (V : ∀ s ∈ e.f3, VS s) (g : ∀ s ∈ e.f3, GS l0 (longS l2 (i : Int)) s) (hW : ∀ s ∈ e.f3, wantsL t s (longS l2 (i : Int) s.f0) = []) (hp : e.f3.Pairwise (fun a b => a.f0 < b.f0))
include h0 h1 h2 hs t0 t1 hi V g hW hp
theorem cellOf_l (c : Int) : ∀ (suf : List S54) (j : Nat), e.f3.drop j = suf → Ev (fun k => theorboref03_cellOf.l0 k t (i : Int) c (j : Int) l0 l1 l2 e.f0 e.f1.f0 e.f1.f1 e.f1.f2 e.f2 e.f3) (B (at_ (tx t l2 (i : Int)) suf c))
  | [], j, h => by
    have := drop_nil h
    refine Ev.step (f := fun _ => some (⟨#[45]⟩ : ByteArray)) (fun k => ?_) (Ev.some rfl)
    simp only [theorboref03_cellOf.l0]
    rw [if_neg (by omega)]
  | s :: r, j, h => by
    obtain ⟨hj, hx, hr⟩ := drop_cons h
    have he := hs e (List.mem_of_getElem? hi)
    have ih := cellOf_l c r (j + 1) hr
    have ms := List.mem_of_getElem? hx
    have hL := long_ref l0 l1 l2 h2 hs (i : Int) c
    obtain ⟨_, hC, _, _⟩ := cell_facts t0 t1 (V s ms) (g s ms) (hW s ms)
    refine Ev.step (f := fun k => if s.f0 = c then ((theorboref02_Longest.f k l0 l1 l2 (i : Int) c).bind fun n => (theorboref03_Cell.f k t s.f0 s.f1 s.f2 s.f3 s.f4 n).bind fun b => some b.1) else theorboref03_cellOf.l0 k t (i : Int) c ((j + 1 : Nat) : Int) l0 l1 l2 e.f0 e.f1.f0 e.f1.f1 e.f1.f2 e.f2 e.f3) (fun k => ?_) ?_
    · simp only [theorboref03_cellOf.l0]
      rw [if_pos (by omega), if_pos (by omega), rd54 hx, next hj (by omega)]
    · by_cases q : s.f0 = c
      · refine Ev.pos q ?_
        rw [at_cons_eq _ q]
        refine Ev.bd hL (Ev.bd (a := CellS t s.f0 s.f1 s.f2 s.f3 s.f4 (longS l2 (i : Int) c)) ⟨40, fun k hk => Cell_ref t s.f0 s.f1 s.f2 s.f3 s.f4 _ k hk⟩ (Ev.some ?_))
        rw [← q, hC]
        rfl
      · refine Ev.neg q ?_
        rw [at_cons_ne _ q]
        exact ih
theorem cellOf_ev (c : Int) : Ev (fun k => theorboref03_cellOf.f k t l0 l1 l2 (i : Int) c) (B (at_ (tx t l2 (i : Int)) e.f3 c)) := by
  have hj : i < l2.length := (List.getElem?_eq_some_iff.1 hi).1
  refine Ev.congr (fun k => ?_) (cellOf_l l0 l1 l2 h0 h1 h2 hs t t0 t1 i e hi V g hW hp c e.f3 0 (by simp))
  simp only [theorboref03_cellOf.f]
  rw [if_pos (by omega), if_pos (by omega), rd46 hi]
  rfl
omit h0 h1 h2 hs hi hp in
theorem at_le (c : Int) : (at_ (tx t l2 (i : Int)) e.f3 c).length ≤ 36 := by
  unfold at_
  cases h : e.f3.find? (fun s => s.f0 == c) with
  | none => simp
  | some s =>
    have ms := List.mem_of_find?_eq_some h
    exact (cell_facts t0 t1 (V s ms) (g s ms) (hW s ms)).2.2.1
/-- One course. -/
theorem col_step (x sl bl al : List UInt8) (n : Int) (c : Nat) (hc : 1 ≤ c) (hcl : c ≤ l0.length) (R : ByteArray) (hx : x.length ≤ 100) (h3 : sl.length ≤ 100 * c) (h4 : bl.length ≤ 100 * c) (h5 : al.length ≤ 100 * c)
    (nx : Ev (fun k => theorboref03_column.l0 k t (i : Int) (B x) n
      (B (if t = 2 then stf1 n (at_ (tx t l2 (i : Int)) e.f3) (c : Int) ++ sl else sl ++ stf1 n (at_ (tx t l2 (i : Int)) e.f3) (c : Int)))
      (B (if t = 2 then bl else bl ++ (out1 n (at_ (tx t l2 (i : Int)) e.f3) (c : Int)).getD []))
      (B (if t = 2 then (out1 n (at_ (tx t l2 (i : Int)) e.f3) (c : Int)).getD [] ++ al else al)) ((c + 1 : Nat) : Int) l0 l1 l2) R) :
    Ev (fun k => theorboref03_column.l0 k t (i : Int) (B x) n (B sl) (B bl) (B al) (c : Int) l0 l1 l2) R := by
  have hC := cellOf_ev l0 l1 l2 h0 h1 h2 hs t t0 t1 i e hi V g hW hp (c : Int)
  have hle := at_le l0 l2 t t0 t1 i e V g hW (c : Int)
  revert nx hC hle
  generalize at_ (tx t l2 (i : Int)) e.f3 = G
  intro nx hC hle
  have e1 : (⟨#[32]⟩ : ByteArray) ++ B (G (c : Int)) = B (32 :: G (c : Int)) := B_app [32] _
  have go : ∀ b : Bool, b = (if (c : Int) ≤ n then t == 2 else false) → Ev (fun k => theorboref03_column.j3 k t (i : Int) (B x) n (B sl) (B bl) (B al) (c : Int) (B (32 :: G (c : Int))) b l0 l1 l2) R := by
    intro b hb
    by_cases a : (c : Int) ≤ n
    · have s1 : stf1 n G (c : Int) = 32 :: G (c : Int) := by unfold stf1; rw [if_pos a]
      have o1 : out1 n G (c : Int) = none := by unfold out1; rw [if_pos (.inl a)]
      rw [s1, o1] at nx
      simp only [Option.getD_none, List.append_nil, List.nil_append, ite_self] at nx
      rw [if_pos a] at hb
      by_cases q : t = 2
      · rw [if_pos q] at nx
        refine Ev.step (fun k => ?_) nx
        simp only [theorboref03_column.j3]
        rw [hb, if_pos (by simp [q]), if_pos (by rw [B_size, B_size, List.length_cons]; omega), next (n := 65) (by omega) (by omega), B_app]
      · rw [if_neg q] at nx
        refine Ev.step (fun k => ?_) nx
        simp only [theorboref03_column.j3]
        rw [hb, if_neg (by simp [q]), if_pos a, if_pos (by rw [B_size, B_size, List.length_cons]; omega), next (n := 65) (by omega) (by omega), B_app]
    · have s1 : stf1 n G (c : Int) = [] := by unfold stf1; rw [if_neg a]
      rw [s1] at nx
      simp only [List.append_nil, List.nil_append, ite_self] at nx
      rw [if_neg a] at hb
      by_cases z : G (c : Int) = [45]
      · have o1 : out1 n G (c : Int) = none := by unfold out1; rw [if_pos (.inr z)]
        rw [o1] at nx
        simp only [Option.getD_none, List.append_nil, List.nil_append, ite_self] at nx
        refine Ev.step (f := fun k => theorboref03_column.j4 k t (i : Int) (B x) n (B sl) (B bl) (B al) (c : Int) (B (32 :: G (c : Int))) false l0 l1 l2) (fun k => ?_) (Ev.step (fun k => ?_) nx)
        · simp only [theorboref03_column.j3]
          rw [hb, if_neg (by simp), if_neg a, if_pos (by rw [B_toList, z])]
        · simp only [theorboref03_column.j4]
          rw [if_neg (by simp), if_pos (by rw [B_toList, z]), next (n := 65) (by omega) (by omega)]
      · have o1 : out1 n G (c : Int) = some (32 :: G (c : Int)) := by unfold out1; rw [if_neg (fun h => h.elim a z)]
        rw [o1] at nx
        simp only [Option.getD_some] at nx
        have zz : ¬ ((B (32 :: G (c : Int))).toList = ([32, 45] : List UInt8)) := by rw [B_toList]; intro h; injection h with _ h; exact z h
        refine Ev.step (f := fun k => theorboref03_column.j4 k t (i : Int) (B x) n (B sl) (B bl) (B al) (c : Int) (B (32 :: G (c : Int))) (t == 2) l0 l1 l2) (fun k => ?_) ?_
        · simp only [theorboref03_column.j3]
          rw [hb, if_neg (by simp), if_neg a, if_neg zz]
        · by_cases q : t = 2
          · rw [if_pos q, if_pos q] at nx
            refine Ev.step (fun k => ?_) nx
            simp only [theorboref03_column.j4]
            rw [if_pos (by simp [q]), if_pos (by rw [B_size, B_size, List.length_cons]; omega), next (n := 65) (by omega) (by omega), B_app]
          · rw [if_neg q, if_neg q] at nx
            refine Ev.step (fun k => ?_) nx
            simp only [theorboref03_column.j4]
            rw [if_neg (by simp [q]), if_neg zz, if_pos (by rw [B_size, B_size, List.length_cons]; omega), next (n := 65) (by omega) (by omega), B_app]
  refine Ev.step (f := fun k => (theorboref03_cellOf.f k t l0 l1 l2 (i : Int) (c : Int)).bind fun b => if 1 + b.size ≤ 9223372036854775807 then (if (c : Int) ≤ n then theorboref03_column.j3 k t (i : Int) (B x) n (B sl) (B bl) (B al) (c : Int) ((⟨#[32]⟩ : ByteArray) ++ b) (t == 2) l0 l1 l2 else theorboref03_column.j3 k t (i : Int) (B x) n (B sl) (B bl) (B al) (c : Int) ((⟨#[32]⟩ : ByteArray) ++ b) false l0 l1 l2) else none) (fun k => ?_) (Ev.bd hC (Ev.pos (by rw [B_size]; omega) ?_))
  · simp only [theorboref03_column.l0]
    rw [if_pos (by omega)]
  · rw [e1]
    by_cases a : (c : Int) ≤ n
    · exact Ev.pos a (go _ (by rw [if_pos a]))
    · exact Ev.neg a (go _ (by rw [if_neg a]))
theorem col_ref (x : List UInt8) (n : Int) (hx : x.length ≤ 100) : ∀ (m c : Nat) (sl bl al : List UInt8), 1 ≤ c → c + m = l0.length + 1 → sl.length ≤ 100 * c → bl.length ≤ 100 * c → al.length ≤ 100 * c →
    Ev (fun k => theorboref03_column.l0 k t (i : Int) (B x) n (B sl) (B bl) (B al) (c : Int) l0 l1 l2)
      (B (if t = 2 then x ++ (((crs (c : Int) m).filterMap (out1 n (at_ (tx t l2 (i : Int)) e.f3))).reverse.flatten ++ al) ++ ((crs (c : Int) m).reverse.flatMap (stf1 n (at_ (tx t l2 (i : Int)) e.f3)) ++ sl) ++ bl
        else x ++ al ++ (sl ++ (crs (c : Int) m).flatMap (stf1 n (at_ (tx t l2 (i : Int)) e.f3))) ++ (bl ++ ((crs (c : Int) m).filterMap (out1 n (at_ (tx t l2 (i : Int)) e.f3))).flatten)))
  | 0, c, sl, bl, al, hc, hm, h3, h4, h5 => by
    refine Ev.step (f := fun _ => some (B (x ++ al ++ sl ++ bl))) (fun k => ?_) (Ev.some ?_)
    · simp only [theorboref03_column.l0]
      rw [if_neg (by omega), if_pos (by rw [B_size, B_size]; omega), B_app, if_pos (by rw [B_size, B_size, List.length_append]; omega), B_app, if_pos (by rw [B_size, B_size, List.length_append, List.length_append]; omega), B_app]
    · simp [crs]
  | m + 1, c, sl, bl, al, hc, hm, h3, h4, h5 => by
    have hle := at_le l0 l2 t t0 t1 i e V g hW (c : Int)
    have ls : (stf1 n (at_ (tx t l2 (i : Int)) e.f3) (c : Int)).length ≤ 100 := by
      unfold stf1
      split
      · rw [List.length_cons]; omega
      · simp
    have lo : ((out1 n (at_ (tx t l2 (i : Int)) e.f3) (c : Int)).getD []).length ≤ 100 := by
      unfold out1
      split
      · simp
      · simp only [Option.getD_some, List.length_cons]; omega
    have ih := col_ref x n hx m (c + 1) (if t = 2 then stf1 n (at_ (tx t l2 (i : Int)) e.f3) (c : Int) ++ sl else sl ++ stf1 n (at_ (tx t l2 (i : Int)) e.f3) (c : Int)) (if t = 2 then bl else bl ++ (out1 n (at_ (tx t l2 (i : Int)) e.f3) (c : Int)).getD []) (if t = 2 then (out1 n (at_ (tx t l2 (i : Int)) e.f3) (c : Int)).getD [] ++ al else al) (by omega) (by omega)
      (by split <;> rw [List.length_append] <;> omega) (by split <;> (try rw [List.length_append]) <;> omega) (by split <;> (try rw [List.length_append]) <;> omega)
    refine col_step l0 l1 l2 h0 h1 h2 hs t t0 t1 i e hi V g hW hp x sl bl al n c hc (by omega) _ hx h3 h4 h5 ?_
    have q1 := fmc_flat (out1 n (at_ (tx t l2 (i : Int)) e.f3)) (c : Int) (crs ((c + 1 : Nat) : Int) m)
    have ec : crs (c : Int) (m + 1) = (c : Int) :: crs ((c + 1 : Nat) : Int) m := rfl
    rw [ec]
    by_cases a : t = 2
    · simp only [if_pos a] at ih ⊢
      rw [q1.2, List.reverse_cons, List.flatMap_append, List.flatMap_cons, List.flatMap_nil, List.append_nil]
      simpa only [List.append_assoc] using ih
    · simp only [if_neg a] at ih ⊢
      rw [q1.1, List.flatMap_cons]
      simpa only [List.append_assoc] using ih
end
end Go.Proofs.YtocpcofihlcnoaaGreat.Pure
