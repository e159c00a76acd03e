/- What the print of ours uses beside the kit's words: a method called through an interface value, by a contract. No condition. -/
import Derived.Test.YtocpcofihlcnoaaGreatVWords
namespace Go.Proofs.YtocpcofihlcnoaaGreatW.PrintMore
open Go.RowKit Go.Proofs.YtocpcofihlcnoaaGreatW.PrintWords Go.Proofs.YtocpcofihlcnoaaGreatW.PrintLast
set_option linter.unusedVariables false
set_option linter.unusedSimpArgs false
theorem sA_ {α : Type _} (l : List α) (i : Nat) (a : α) : l.toArray.setIfInBounds i a = (l.set i a).toArray := List.setIfInBounds_toArray ..
theorem sB_ {α : Type _} {x a : α} {xs : List α} : (x :: xs).set 0 a = a :: xs := List.set_cons_zero
theorem sC_ {α : Type _} {x a : α} {xs : List α} {n : Nat} : (x :: xs).set (n + 1) a = x :: xs.set n a := List.set_cons_succ
theorem mA_ {α β : Type _} {f : α → β} {l : List α} : l.toArray.map f = (l.map f).toArray := List.map_toArray
theorem mB_ {α β : Type _} {f : α → β} {a : α} {l : List α} : (a :: l).map f = f a :: l.map f := List.map_cons
theorem mC_ {α β : Type _} {f : α → β} : ([] : List α).map f = [] := List.map_nil
/-- A call of method m of the interface value R comes to a function whose contract ends in Q. -/
def Invokes (P : Program) (R : Value) (m : String) (args : Array Value) (w : World) (Q : Ending → World → Prop) : Prop :=
  ∃ f as2, (callMethod R m args).run P w = .ok (.enter f as2) w ∧ Calls P f as2 w Q
theorem Invokes.mono {P : Program} {R : Value} {m : String} {args : Array Value} {w : World} {Q Q' : Ending → World → Prop} (h : Invokes P R m args w Q) (hh : ∀ e w', Q e w' → Q' e w') : Invokes P R m args w Q' := by
  obtain ⟨f, as2, h1, h2⟩ := h
  exact ⟨f, as2, h1, h2.mono hh⟩
section
variable {P : Program} {ops : Array Oper} {rest : List Oper} {o : Oper} {a : Act} {Q : Exit → Act → World → Prop} {W : World}
theorem gate_invoke_ {m : String} {x : Operand} {as1_ : Array Operand} {ts : Array TypeId} (_ho : o.op = .call { callee := .invoke x m, args := as1_, argTypes := ts }) (h : wpList P ops Q (o :: rest) a W) : wpList P ops Q (o :: rest) a W := h
theorem run_invoke_ {oi : Oper} {x : Operand} {m : String} {as1_ : Array Operand} {ts : Array TypeId} {R : Value} {args as2 : Array Value} {f : FuncId} {w : World} (hop : oi.op = .call { callee := .invoke x m, args := as1_, argTypes := ts }) (hR : a.eval x = R) (hargs : as1_.map a.eval = args)
    (h : (callMethod R m args).run P w = .ok (.enter f as2) w) : (execOp a.eval oi).run P w = .ok (.enter f as2) w := by
  unfold execOp
  have he : (#[R] ++ args).extract 1 (#[R] ++ args).size = args := by
    apply Array.ext'
    simp
  have h0 : (#[R] ++ args)[0]? = some R := by
    rw [Array.getElem?_append_left (by simp)]
    rfl
  simp only [hop, resolve, hR, hargs, pure_bind]
  show (Go.invoke (.fn (.method m) #[]) (#[R] ++ args)).run P w = _
  unfold Go.invoke
  simp only [h0, he]
  exact h
theorem goesI_ {rest : List Oper} {oi : Oper} {a : Act} {w : World} (N : Option Tmp) (hd : oi.dst = N) (hg : oi.guard = none) {x : Operand} {m : String} {as1_ : Array Operand} {ts : Array TypeId} (R : Value) (args : Array Value)
    (hop : oi.op = .call { callee := .invoke x m, args := as1_, argTypes := ts }) (hR : a.eval x = R) (hargs : as1_.map a.eval = args)
    (h : Invokes P R m args w fun e w' => ∃ v, e = .returned v ∧ wpList P ops Q rest (a.put N v) w') : wpList P ops Q (oi :: rest) a w := by
  refine wpList_plain hg fun K hK => ?_
  obtain ⟨f, as2, h1, h2⟩ := h
  have hrun := run_invoke_ (P := P) (w := w) hop hR hargs h1
  unfold Oper.wp
  rw [hrun, Oper.upon_enter]
  refine h2.mono fun e w'' hh => ?_
  obtain ⟨v, rfl, hk⟩ := hh
  subst hd
  exact hK _ _ hk
theorem goesIR_ {oi : Oper} {N : Option Tmp} {a : Act} {w : World} {K : Act → World → Prop} {x : Operand} {m : String} {as1_ : Array Operand} {ts : Array TypeId} (R : Value) (args : Array Value)
    (hw : Region.wanted oi (yielded ops a.tmps) = true) (hN : oi.dst = N) (hop : oi.op = .call { callee := .invoke x m, args := as1_, argTypes := ts }) (hR : a.eval x = R) (hargs : as1_.map a.eval = args)
    (h : Invokes P R m args w fun e w' => ∃ v, e = .returned v ∧ K (a.put N v) w') : if Region.wanted oi (yielded ops a.tmps) = true then Oper.wp P oi a w K Q else K (a.put N undef) w := by
  obtain ⟨f, as2, h1, h2⟩ := h
  exact call_ f as2 hw hN (run_invoke_ hop hR hargs h1) h2
end
/-- The place of a field without cells in a variable without cells. -/
theorem partAt_zero_ {P : Program} {w : World} {g e : Nat} {cs : Array Value} {fr : Nat × Nat} (h : w.heap[g]? = some (.cells cs e fr)) (hz : P.cellsOf e = 0) : (partAt ⟨g, 0, none⟩ 0 0).run P w = .ok ⟨g, 0, none⟩ w := by
  have hs : w.shape? g = some (e, cs.size) := by
    unfold World.shape?
    simp [h]
  have hv : (viewAt g).run P w = .ok none w := by simp [viewAt, hs, go_sem]
  simp [partAt, byteOf, noView, hs, hz, hv, go_sem]
end Go.Proofs.YtocpcofihlcnoaaGreatW.PrintMore
