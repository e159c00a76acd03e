/- The steps through a drawing region, each on one line: what they need is proved by their default arguments. No condition. -/
import Derived.Test.YtocpcofihlcnoaaGreatXWords
import Derived.Test.YtocpcofihlcnoaaGreatVWords
namespace Go.Proofs.YtocpcofihlcnoaaGreatW.PrintMore
open Go.RowKit Go.Proofs.YtocpcofihlcnoaaGreatW.PrintWords Go.Proofs.YtocpcofihlcnoaaGreatW.PrintLast
set_option linter.unusedVariables false
set_option linter.unusedSimpArgs false
section
variable {P : Program} {md : Region.Mode} {ops : Array Oper} {Q : Exit → Act → World → Prop} {S : World → Prop} {ds : List Nat} {T : Bool × List (List Nat × List Nat)} {fuel : Nat} {l : Array Bool} {a a' : Act} {w : World}
theorem pS_ (i : Nat) (N : Option Tmp) {oi : Oper} {v : Value} (HT : Aside0 (rtab md ops = T)) (h : wpAnyLast P md ops Q S ds fuel (l.setIfInBounds i true) a' w)
    (hi : ops[i]? = some oi := by rfl) (hN : oi.dst = N := by rfl) (hc : anyT T l.toList (l.setIfInBounds i true).toList i = true := by kernel_rfl)
    (hQ : ∀ c a w, Q (.panic c) (a.put oi.dst v) w → Q (.panic c) a w := by exact fun _ _ _ h => h) (hw : Region.wanted oi (yielded ops a.tmps) = true := by rfl)
    (hv : ∀ w', (execOp a.eval oi).run P w' = .ok (.value v) w' := by (intro w'; go_simp; with_reducible rfl))
    (ha : a.put N v = a' := by (simp only [Act.put, sA_, sB_, sC_, i64_w, i32_w]; first | done | rfl)) : wpAnyLast P md ops Q S ds (fuel + 1) l a w :=
  pure_ _ hi hN (any_of HT.out hc) hQ (Or.inl ⟨hw, hv⟩) ha h
theorem uS_ (i : Nat) (N : Option Tmp) {oi : Oper} (HT : Aside0 (rtab md ops = T)) (h : wpAnyLast P md ops Q S ds fuel (l.setIfInBounds i true) a' w)
    (hi : ops[i]? = some oi := by rfl) (hN : oi.dst = N := by rfl) (hc : anyT T l.toList (l.setIfInBounds i true).toList i = true := by kernel_rfl)
    (hQ : ∀ c a w, Q (.panic c) (a.put oi.dst undef) w → Q (.panic c) a w := by exact fun _ _ _ h => h) (hw : Region.wanted oi (yielded ops a.tmps) = false := by rfl)
    (ha : a.put N undef = a' := by (simp only [Act.put, sA_, sB_, sC_, i64_w, i32_w]; first | done | rfl)) : wpAnyLast P md ops Q S ds (fuel + 1) l a w :=
  pure_ _ hi hN (any_of HT.out hc) hQ (Or.inr ⟨hw, rfl⟩) ha h
theorem tS_ (i : Nat) (N : Option Tmp) {oi : Oper} {v : Value} {B : List Nat} (HT : Aside0 (rtab md ops = T)) (HW : Aside0 (waitsOk T.2 B = true)) (hS : S w) (h : wpAnyLast P md ops Q S ds fuel (l.setIfInBounds i true) a' w)
    (hi : ops[i]? = some oi := by rfl) (hN : oi.dst = N := by rfl) (hc : takeW T B ds l.toList (l.setIfInBounds i true).toList i = true := by kernel_rfl)
    (hQ : ∀ c a w, Q (.panic c) (a.put oi.dst v) w → Q (.panic c) a w := by exact fun _ _ _ h => h) (hw : Region.wanted oi (yielded ops a.tmps) = true := by rfl)
    (hv : ∀ w', S w' → (execOp a.eval oi).run P w' = .ok (.value v) w' := by (intro w' hS_; go_simp; with_reducible rfl))
    (ha : a.put N v = a' := by (simp only [Act.put, sA_, sB_, sC_, i64_w, i32_w]; first | done | rfl)) : wpAnyLast P md ops Q S ds (fuel + 1) l a w :=
  take_ _ hi hN (take_ofW HT.out HW.out hc) hQ (Or.inl ⟨hw, hv⟩) hS ha h
theorem oS_ (i : Nat) (N : Option Tmp) {oi : Oper} (HT : Aside0 (rtab md ops = T))
    (h : ∀ K : Act → World → Prop, Shut (∀ a' w', S w' → (S w' → wpAnyLast P md ops Q S ds fuel (l.setIfInBounds i true) a' w') → K a' w') → if Region.wanted oi (yielded ops a.tmps) = true then Oper.wp P oi a w K Q else K (a.put N undef) w)
    (hi : ops[i]? = some oi := by rfl) (hN : oi.dst = N := by rfl) (hc : (readyT T.2 l.toList == [i] && l.toList.set i true == (l.setIfInBounds i true).toList) = true := by kernel_rfl) (hd : i ∉ ds := by decide) : wpAnyLast P md ops Q S ds (fuel + 1) l a w :=
  one_ _ hi hN (one_of HT.out hc) hd h
theorem nS_ (N : Option Tmp) {v : Value} (h : wpAnyLast P md ops Q S ds fuel l a' w) (ha : a.put N v = a' := by (simp only [Act.put, sA_, sB_, sC_, i64_w, i32_w]; first | done | rfl)) : wpAnyLast P md ops Q S ds fuel l (a.put N v) w := norm_ ha h
end
/-! Side facts, each by a script in a default argument. -/
section
variable {w W W0 W2 : World} {g g' n B : Nat} {o o' : Obj} {row : Option Nat}
theorem bl_ (HB : Aside0 (Below w.heap.size w W0)) (h : Below w.heap.size w W0 → Below w.heap.size w W := by (intro h_; repeat (first | (with_reducible first | exact h_ | apply below_alloc | apply pw_below_drewN | apply below_drew1 | refine below_set ?_ (Aside0.out (by assumption))) | exact h_))) : Below w.heap.size w W := h HB.out
theorem bs_ (HB : Aside0 (Below w.heap.size w W0)) (hb : Below W.heap.size W W2) (h : Below w.heap.size w W0 → Below w.heap.size w W := by (intro h_; repeat (first | (with_reducible first | exact h_ | apply below_alloc | apply pw_below_drewN | apply below_drew1 | refine below_set ?_ (Aside0.out (by assumption))) | exact h_))) : Aside0 (Below w.heap.size w W2) := ⟨below_step (h HB.out) hb⟩
theorem ge_ (HB : Aside0 (Below w.heap.size w W0)) (hg : g = W.heap.size) (h : Below w.heap.size w W0 → Below w.heap.size w W := by (intro h_; repeat (first | (with_reducible first | exact h_ | apply below_alloc | apply pw_below_drewN | apply below_drew1 | refine below_set ?_ (Aside0.out (by assumption))) | exact h_))) : Aside0 (w.heap.size ≤ g) := ⟨by rw [hg]; exact below_size (h HB.out)⟩
theorem bk_ (BK : Aside0 (W0.heap[g]? = some o)) (h : W0.heap[g]? = some o → W.heap[g]? = some o' := by (intro h_; repeat (first | (with_reducible first | exact h_ | refine blk_drewN ?_ _ | refine blk_drew ?_ | refine blk_alloc ?_ _) | refine blk_far ?_ (Aside0.out (by assumption)) _ | apply blk_put | exact h_ | rfl))) : W.heap[g]? = some o' := h BK.out
theorem bb_ (BK : Aside0 (W0.heap[g]? = some o)) (hb : Below W.heap.size W W2) (h : W0.heap[g]? = some o → W.heap[g]? = some o := by (intro h_; repeat (first | (with_reducible first | exact h_ | refine blk_drewN ?_ _ | refine blk_drew ?_ | refine blk_alloc ?_ _) | refine blk_far ?_ (Aside0.out (by assumption)) _ | exact h_))) : Aside0 (W2.heap[g]? = some o) := ⟨blk_below (h BK.out) hb⟩
theorem bg_ (BK : Aside0 (W0.heap[g]? = some o)) (hg : W.grownBy W2 row) (hne : some g ≠ row) (h : W0.heap[g]? = some o → W.heap[g]? = some o := by (intro h_; repeat (first | (with_reducible first | exact h_ | refine blk_drewN ?_ _ | refine blk_drew ?_ | refine blk_alloc ?_ _) | refine blk_far ?_ (Aside0.out (by assumption)) _ | exact h_))) : Aside0 (W2.heap[g]? = some o) := ⟨blk_grown (h BK.out) hg hne⟩
theorem nl_ (BK : Aside0 (W0.heap[g]? = some o)) (hg : g' = W.heap.size) (h : W0.heap[g]? = some o → W.heap[g]? = some o := by (intro h_; repeat (first | (with_reducible first | exact h_ | refine blk_drewN ?_ _ | refine blk_drew ?_ | refine blk_alloc ?_ _) | refine blk_far ?_ (Aside0.out (by assumption)) _ | exact h_))) : Aside0 (g ≠ g') := ⟨by rw [hg]; exact Nat.ne_of_lt (blk_lt (h BK.out))⟩
theorem ng_ (BK : Aside0 (W0.heap[g]? = some o)) (hg : g' = W.heap.size) (h : W0.heap[g]? = some o → W.heap[g]? = some o := by (intro h_; repeat (first | (with_reducible first | exact h_ | refine blk_drewN ?_ _ | refine blk_drew ?_ | refine blk_alloc ?_ _) | refine blk_far ?_ (Aside0.out (by assumption)) _ | exact h_))) : Aside0 (g' ≠ g) := ⟨by rw [hg]; exact Nat.ne_of_gt (blk_lt (h BK.out))⟩
theorem rv_ {α : Sort _} {a b : α} (h : a = b := by first | rfl | (simp [errW_none, errW_some] <;> rfl) | (simp [*, errW_none, errW_some] <;> rfl)) : a = b := h
theorem rs_ {α : Sort _} {a b : α} (h : a = b := by first | rfl | (simp; done) | (simp [*]; done)) : a = b := h
theorem dr_ (h : Drawn0 w W := by repeat (first | exact Drawn0.refl _ | apply Drawn0.step)) : Drawn0 w W := h
theorem om_ {p : Prop} (h : p := by first | omega | exact Nat.le_refl _) : p := h
theorem ce_ {a : Addr} {v : Value} (HB : Aside0 (Below w.heap.size w W0)) (hc : w.cell? a = some v) (h : Below w.heap.size w W0 → Below w.heap.size w W := by (intro h_; repeat (first | (with_reducible first | exact h_ | apply below_alloc | apply pw_below_drewN | apply below_drew1 | refine below_set ?_ (Aside0.out (by assumption))) | exact h_))) : W.cell? a = some v := pw_cell_below (h HB.out) hc
theorem eqT_ {a b : Int} (h : a = b) : (a == b) = true ∧ (a != b) = false := ⟨beq_iff_eq.mpr h, bne_eq_false_iff_eq.mpr h⟩
theorem eqF_ {a b : Int} (h : ¬ a = b) : (a == b) = false ∧ (a != b) = true := ⟨beq_eq_false_iff_ne.mpr h, bne_iff_ne.mpr h⟩
end
section
variable {α : Type} {d : Kd α} {e base n c : Nat} {ok : Nat → Prop} {w W W0 W2 : World} {v : Value} {xs : List α} {A : Option Addr}
theorem kr_ (HO : Aside0 (d.R e W0 base ok v xs)) (h : d.R e W0 base ok v xs → d.R e W base ok v xs := by (intro h_; (with_reducible repeat (first | apply Kd.R_alloc | apply Kd.R_drewN | apply Kd.R_drew)); exact h_)) : d.R e W base ok v xs := h HO.out
theorem ks_ (HO : Aside0 (d.S e W0 base ok v xs)) (h : d.S e W0 base ok v xs → d.S e W base ok v xs := by (intro h_; (with_reducible repeat (first | apply Kd.S_alloc | apply Kd.S_drewN | apply Kd.S_drew)); exact h_)) : d.S e W base ok v xs := h HO.out
theorem rb_ (HO : Aside0 (d.R e W0 base ok v xs)) (hb : Below W.heap.size W W2) (h : d.R e W0 base ok v xs → d.R e W base ok v xs := by (intro h_; (with_reducible repeat (first | apply Kd.R_alloc | apply Kd.R_drewN | apply Kd.R_drew)); exact h_)) : Aside0 (d.R e W2 base ok v xs) := ⟨Kd.R_below (h HO.out) hb⟩
theorem sb_ (HO : Aside0 (d.S e W0 base ok v xs)) (hb : Below W.heap.size W W2) (h : d.S e W0 base ok v xs → d.S e W base ok v xs := by (intro h_; (with_reducible repeat (first | apply Kd.S_alloc | apply Kd.S_drewN | apply Kd.S_drew)); exact h_)) : Aside0 (d.S e W2 base ok v xs) := ⟨Kd.S_below (h HO.out) hb⟩
theorem rl_ (ho : d.R e W2 W.heap.size ok v xs) (HB : Aside0 (Below w.heap.size w W0)) (h : Below w.heap.size w W0 → Below w.heap.size w W := by (intro h_; repeat (first | (with_reducible first | exact h_ | apply below_alloc | apply pw_below_drewN | apply below_drew1 | refine below_set ?_ (Aside0.out (by assumption))) | exact h_))) : Aside0 (d.R e W2 w.heap.size ok v xs) := ⟨Kd.R_lower ho (below_size (h HB.out))⟩
theorem sl_ (ho : d.S e W2 W.heap.size ok v xs) (HB : Aside0 (Below w.heap.size w W0)) (h : Below w.heap.size w W0 → Below w.heap.size w W := by (intro h_; repeat (first | (with_reducible first | exact h_ | apply below_alloc | apply pw_below_drewN | apply below_drew1 | refine below_set ?_ (Aside0.out (by assumption))) | exact h_))) : Aside0 (d.S e W2 w.heap.size ok v xs) := ⟨Kd.S_lower ho (below_size (h HB.out))⟩
theorem kc_ (HR : Aside0 (d.C w A n xs)) (HB : Aside0 (Below w.heap.size w W0)) (h : Below w.heap.size w W0 → Below w.heap.size w W := by (intro h_; repeat (first | (with_reducible first | exact h_ | apply below_alloc | apply pw_below_drewN | apply below_drew1 | refine below_set ?_ (Aside0.out (by assumption))) | exact h_))) : d.C W A n xs := Kd.C_below HR.out (h HB.out)
theorem kq_ (HO : Aside0 (d.R e W0 base ok (.slice A n c) xs)) (h : d.C W0 A xs.length xs → d.C W A xs.length xs := by (intro h_; (with_reducible repeat (first | refine Kd.C_alloc ?_ _ | refine Kd.C_drewN ?_ _ | refine Kd.C_drew ?_)); exact h_)) : d.C W A xs.length xs := h (Kd.R_reads' HO.out).2.2
theorem kt_ (HO : Aside0 (d.S e W0 base ok (.slice A n c) xs)) (h : d.C W0 A xs.length xs → d.C W A xs.length xs := by (intro h_; (with_reducible repeat (first | refine Kd.C_alloc ?_ _ | refine Kd.C_drewN ?_ _ | refine Kd.C_drew ?_)); exact h_)) : d.C W A xs.length xs := h (Kd.S_reads' HO.out).2.2
end
section
variable {P : Program} {ops : Array Oper} {rest : List Oper} {oi : Oper} {a : Act} {Q : Exit → Act → World → Prop} {w w0 W0 : World} {K : Act → World → Prop}
/-- A call in a plain region, by its contract. -/
theorem cl_ (f : FuncId) (N : Option Tmp) {fn : Func} (hf : P.funcs[f]? = some fn) {args : Array Value} {R : Ending → World → Prop} (hc : Calls P f args w R) (h : ∀ e w', R e w' → ∃ v, e = .returned v ∧ wpList P ops Q rest (a.put N v) w') {as1_ : Array Operand} {ts : Array TypeId}
    (hop : oi.op = .call { callee := .value (.func f), args := as1_, argTypes := ts } := by rfl) (hd : oi.dst = N := by rfl) (hg : oi.guard = none := by rfl) (hname : (fn.name == "runtime.NumGoroutine") = false := by kernel_rfl) (hb : fn.body.isSome = true := by rfl)
    (hargs : as1_.map a.eval = args := by (try simp only [mA_, mB_, mC_]); first | done | rfl | (simp only [List.length_drop, List.length_take]; rfl)) : wpList P ops Q (oi :: rest) a w :=
  goesL_ N hd hg hf hname hb args hop hargs (hc.mono h)
/-- The same within a region that draws. -/
theorem cr_ (f : FuncId) (N : Option Tmp) {fn : Func} (hf : P.funcs[f]? = some fn) {args : Array Value} {R : Ending → World → Prop} (hc : Calls P f args w R) (h : ∀ e w', R e w' → ∃ v, e = .returned v ∧ K (a.put N v) w') {as1_ : Array Operand} {ts : Array TypeId}
    (hop : oi.op = .call { callee := .value (.func f), args := as1_, argTypes := ts } := by rfl) (hN : oi.dst = N := by rfl) (hw : Region.wanted oi (yielded ops a.tmps) = true := by rfl) (hname : (fn.name == "runtime.NumGoroutine") = false := by kernel_rfl) (hb : fn.body.isSome = true := by rfl)
    (hargs : as1_.map a.eval = args := by (try simp only [mA_, mB_, mC_]); first | done | rfl | (simp only [List.length_drop, List.length_take]; rfl)) : if Region.wanted oi (yielded ops a.tmps) = true then Oper.wp P oi a w K Q else K (a.put N undef) w :=
  goes_ hf hname hb args hw hN hop hargs (hc.mono h)
/-- A variable of its own memory. -/
theorem bx_ (N : Tmp) (cs : Array Value) (t : TypeId) (HB : Aside0 (Below w0.heap.size w0 W0))
    (h : ∀ g w1, g = w.heap.size → Below w.heap.size w w1 → Aside0 (w1.heap[g]? = some (.cells cs t (0, 0))) → Aside0 (Below w0.heap.size w0 w1) → Aside0 (w0.heap.size ≤ g) → wpList P ops Q rest (a.put oi.dst (.pointer (some ⟨g, 0, none⟩))) w1)
    (hd : oi.dst = some N := by rfl) (hgd : oi.guard = none := by rfl)
    (hrun : (execOp a.eval oi).run P w = .ok (.value (.pointer (some ⟨w.heap.size, 0, none⟩))) (w.alloc (.cells cs t (0, 0))) := by first | (go_simp; done) | (go_simp; rfl))
    (hB : Below w0.heap.size w0 W0 → Below w0.heap.size w0 w := by (intro h_; repeat (first | (with_reducible first | exact h_ | apply below_alloc | apply pw_below_drewN | apply below_drew1 | refine below_set ?_ (Aside0.out (by assumption))) | exact h_))) : wpList P ops Q (oi :: rest) a w :=
  box_event hgd hd hrun (fun g hg w1 hbox hb => h g w1 hg hb ⟨hbox⟩ ⟨below_step (hB HB.out) hb⟩ ⟨by rw [hg]; exact below_size (hB HB.out)⟩)
end
end Go.Proofs.YtocpcofihlcnoaaGreatW.PrintMore
