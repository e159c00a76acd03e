/- From the reading of an argument (the row's own) to what the printed contracts ask: kind by kind. No condition. -/
import Derived.Test.YtocpcofihlcnoaaGreatVWords
import Derived.ChangeArms
import Derived.ChangeSlices
import Derived.Deep.Slices
namespace Go.Proofs.YtocpcofihlcnoaaGreatW.PrintMore
open Go.RowKit Go.Proofs.YtocpcofihlcnoaaGreatW.PrintWords Go.Proofs.YtocpcofihlcnoaaGreatW.PrintLast
set_option linter.unusedVariables false
set_option linter.unusedSimpArgs false
/-- Whatever reads at type t has cells of the kind d, its numbers in range (good). -/
def Reads (P : Program) (t : TypeId) {α : Type} (d : Kd α) (good : α → Prop) : Prop :=
  ∀ (H : Type) (enc : TypeId × Value → H) (w : World) (fuel : Nat) (cs : List Value) (x : DataW H × List MemPlace), DataW.trod enc P w 0 (fun _ => true) true fuel t cs = some x → ∃ v : α, d.K w v cs ∧ good v
theorem Reads.int {P : Program} {t : TypeId} {k : IntKind} (ht : P.underlying t = some (.int k)) : Reads P t (Kd.int k) (fun n => (Lit.int k n).wf = true) := by
  intro H enc w fuel cs x h
  obtain ⟨n, rfl, _, hw⟩ := DataW.trod_int ht h
  exact ⟨n, rfl, hw⟩
theorem Reads.bool {P : Program} {t : TypeId} (ht : P.underlying t = some .bool) : Reads P t Kd.bool (fun _ => True) := by
  intro H enc w fuel cs x h
  obtain ⟨n, rfl, _⟩ := DataW.trod_bool ht h
  exact ⟨n, rfl, trivial⟩
theorem Reads.string {P : Program} {t : TypeId} (ht : P.underlying t = some .string) : Reads P t Kd.string (fun s => s.size ≤ maxLen) := by
  intro H enc w fuel cs x h
  obtain ⟨n, rfl, _, hs⟩ := DataW.trod_string ht h
  exact ⟨n, rfl, hs⟩
theorem Reads.iso {P : Program} {t : TypeId} {α β : Type} {d : Kd α} {good : α → Prop} (h : Reads P t d good) (f : β → α) (g : α → β) (hfg : ∀ a, f (g a) = a) : Reads P t (Kd.iso d f) (fun b => good (f b)) := by
  intro H enc w fuel cs x hx
  obtain ⟨v, hk, hg⟩ := h H enc w fuel cs x hx
  refine ⟨g v, ?_, ?_⟩
  · show d.K w (f (g v)) cs
    rw [hfg]
    exact hk
  · show good (f (g v))
    rw [hfg]
    exact hg
theorem Reads.slice {P : Program} {t e : TypeId} {α : Type} {d : Kd α} {good : α → Prop} (ht : P.underlying t = some (.slice e)) (hc : P.cellsOf e = d.sz) (hd : Reads P e d good) :
    Reads P t (Kd.slice e d) (fun l => l.length ≤ maxLen ∧ ∀ x ∈ l, good x) := by
  intro H enc w fuel cs x h
  rcases Go.Deep.open_slice ht h with ⟨rfl, _⟩ | ⟨a, len, cap, m, n, D, Pl, rfl, _, hl, hm, hmm, _, hx⟩
  · exact ⟨[], ⟨none, 0, rfl, Nat.le_refl _, rfl, by simp, fun hn => absurd hn (by simp)⟩, by simp [maxLen], by simp⟩
  · simp only [if_true] at hmm
    subst hmm
    classical
    have hv : ∀ i, i < len → ∃ v : α, ∃ cs', w.cells? 0 (a.add (i * P.cellsOf e)) (P.cellsOf e) = some cs' ∧ d.K w v cs' ∧ good v := by
      intro i hi
      obtain ⟨cs', h1, h2⟩ := hx i (by omega)
      obtain ⟨v, hk, hg⟩ := hd H enc w n cs' _ h2
      exact ⟨v, cs', h1, hk, hg⟩
    have hne : 0 < len → Nonempty α := fun h0 => by obtain ⟨v, _⟩ := hv 0 h0; exact ⟨v⟩
    obtain ⟨l, hll, hle⟩ : ∃ l : List α, l.length = len ∧ ∀ i v, l[i]? = some v → ∃ cs', w.cells? 0 (a.add (i * P.cellsOf e)) (P.cellsOf e) = some cs' ∧ d.K w v cs' ∧ good v := by
      have : ∀ q, q ≤ len → ∃ l : List α, l.length = q ∧ ∀ i v, l[i]? = some v → ∃ cs', w.cells? 0 (a.add (i * P.cellsOf e)) (P.cellsOf e) = some cs' ∧ d.K w v cs' ∧ good v := by
        intro q
        induction q with
        | zero => exact fun _ => ⟨[], rfl, fun i v h => by simp at h⟩
        | succ q ih =>
          intro hq
          obtain ⟨l, h1, h2⟩ := ih (by omega)
          obtain ⟨v, hvv⟩ := hv q (by omega)
          refine ⟨l ++ [v], by simp [h1], fun i u hu => ?_⟩
          rcases Nat.lt_or_ge i l.length with hi | hi
          · rw [List.getElem?_append_left hi] at hu
            exact h2 i u hu
          · have hi' : i = q := by
              have := (List.getElem?_eq_some_iff.1 hu).1
              simp at this
              omega
            subst hi'
            rw [← h1, List.getElem?_concat_length] at hu
            obtain rfl := Option.some.inj hu
            exact hvv
      exact this len (Nat.le_refl _)
    refine ⟨l, ⟨some a, m, by rw [hll], by omega, rfl, by rw [hll]; unfold maxLen at hm; omega, fun _ => ⟨a, rfl, fun j p hj => ?_⟩⟩, by rw [hll]; omega, fun v hv' => ?_⟩
    · obtain ⟨cs', h1, hk, _⟩ := hle j p hj
      refine ⟨cs', d.K_len hk, hk, fun i u hu => ?_⟩
      obtain ⟨_, hlen, hcell⟩ := World.cells?_some h1
      have hi : i < cs'.length := (List.getElem?_eq_some_iff.1 hu).1
      have := hcell i (by omega)
      rw [Go.Deep.add_add, hc] at this
      rw [this]
      exact hu
    · obtain ⟨i, hi, rfl⟩ := List.getElem_of_mem hv'
      obtain ⟨_, _, _, hg⟩ := hle i _ (List.getElem?_eq_getElem hi)
      exact hg
/-- The fields of a struct from one on. -/
def ReadsF (P : Program) (fs : List Field) (off : Nat) {α : Type} (d : Kd α) (good : α → Prop) : Prop :=
  ∀ (H : Type) (enc : TypeId × Value → H) (w : World) (n : Nat) (cs : List Value), cs.length = off + d.sz →
    (∀ f ∈ fs, ∃ x, DataW.trod enc P w 0 (fun _ => true) true n f.type ((cs.drop f.offset).take (P.cellsOf f.type)) = some x) → ∃ v : α, d.K w v (cs.drop off) ∧ good v
theorem ReadsF.one {P : Program} {f : Field} {off : Nat} {α : Type} {d : Kd α} {good : α → Prop} (ho : f.offset = off) (hc : P.cellsOf f.type = d.sz) (hd : Reads P f.type d good) : ReadsF P [f] off d good := by
  intro H enc w n cs hl hx
  obtain ⟨x, h⟩ := hx f (by simp)
  obtain ⟨v, hk, hg⟩ := hd H enc w n _ _ h
  rw [ho, hc, List.take_of_length_le (by rw [List.length_drop]; omega)] at hk
  exact ⟨v, hk, hg⟩
theorem ReadsF.cons {P : Program} {f : Field} {fs : List Field} {off : Nat} {α β : Type} {d : Kd α} {d2 : Kd β} {good : α → Prop} {good2 : β → Prop} (ho : f.offset = off) (hc : P.cellsOf f.type = d.sz) (hd : Reads P f.type d good)
    (hr : ReadsF P fs (off + d.sz) d2 good2) : ReadsF P (f :: fs) off (Kd.pair d d2) (fun x => good x.1 ∧ good2 x.2) := by
  intro H enc w n cs hl hx
  have hl' : cs.length = off + (d.sz + d2.sz) := hl
  obtain ⟨x, h⟩ := hx f (by simp)
  obtain ⟨v, hk, hg⟩ := hd H enc w n _ _ h
  obtain ⟨v2, hk2, hg2⟩ := hr H enc w n cs (by omega) (fun g hgm => hx g (by simp [hgm]))
  rw [ho, hc] at hk
  refine ⟨(v, v2), ⟨_, _, ?_, hk, hk2⟩, hg, hg2⟩
  rw [← List.drop_drop, List.take_append_drop]
theorem Reads.struct {P : Program} {t : TypeId} {fs : Array Field} {α : Type} {d : Kd α} {good : α → Prop} (ht : P.underlying t = some (.struct fs)) (hc : P.cellsOf t = d.sz) (h : ReadsF P fs.toList 0 d good) : Reads P t d good := by
  intro H enc w fuel cs x hx
  obtain ⟨xs, n, _, _, hl, hxl, hf⟩ := DataW.trod_struct ht hx
  have hall : ∀ f ∈ fs.toList, ∃ x, DataW.trod enc P w 0 (fun _ => true) true n f.type ((cs.drop f.offset).take (P.cellsOf f.type)) = some x := by
    intro f hfm
    obtain ⟨i, hi, he⟩ := List.getElem_of_mem hfm
    have h1 : fs[i]? = some f := by
      rw [← he]
      simp
    have h2 := hf i f h1
    have h3 : i < xs.length := by rw [hxl]; simpa using hi
    rw [List.getElem?_eq_getElem h3] at h2
    exact ⟨_, h2⟩
  obtain ⟨v, hk, hg⟩ := h H enc w n cs (by omega) hall
  exact ⟨v, by simpa using hk, hg⟩
end Go.Proofs.YtocpcofihlcnoaaGreatW.PrintMore
