/- Arguments opened to rows that are read (Kd.C), kind by kind, with what the bound on their bulk says of lengths. -/
import Derived.Test.YtdllpgeagdckmaaRows
import Derived.Test.YtdllpgeagdckmaaWWords
import Derived.Deep.Slices
import Derived.ChangeSlices
namespace Go.Proofs.Ytdllpgeagdckmaa.Opens
open Go.ChangeShapes Go.WideShapes Go.Deep Go.RowKit Go.Proofs.YtdllpgeagdckmaaW.PrintWords
section
variable {H : Type} {enc : TypeId × Value → H} {P : Program} {w : World} {base : Nat} {spare : Nat → Bool} {held : Bool}

theorem bulkAll_append (l r : List (DataW H)) : Rows.uptoBulkAll (l ++ r) = Rows.uptoBulkAll l + Rows.uptoBulkAll r := by
  induction l with
  | nil => simp [Rows.uptoBulkAll]
  | cons x l ih => simp only [List.cons_append, Rows.uptoBulkAll, ih]; omega

theorem bulk_sum {α : Type} (wt : α → Nat) (D : Nat → DataW H) (g : Nat → α) : ∀ n, (∀ i, i < n → wt (g i) ≤ Rows.uptoBulk (D i)) → ((((List.range n).map g).map wt)).sum ≤ Rows.uptoBulkAll ((List.range n).map D)
  | 0, _ => by simp
  | n + 1, h => by
    have ih := bulk_sum wt D g n (fun i hi => h i (by omega))
    have h1 := h n (by omega)
    simp only [List.range_succ, List.map_append, List.map_cons, List.map_nil, List.sum_append, List.sum_cons, List.sum_nil, bulkAll_append, Rows.uptoBulkAll]
    omega

theorem open_C {α : Type} (d : Kd α) (wt : α → Nat) (Q : α → Prop) {t e : TypeId} {fuel : Nat} {cs : List Value} {x : DataW H × List MemPlace} (ht : P.underlying t = some (.slice e)) (hsz : P.cellsOf e = d.sz)
    (hel : ∀ n cs y, DataW.trod enc P w base spare held n e cs = some y → ∃ p : α, d.K w p cs ∧ Q p ∧ wt p ≤ Rows.uptoBulk y.1) (h : DataW.trod enc P w base spare held fuel t cs = some x) :
    ∃ (A : Option Addr) (cap : Nat) (xs : List α), cs = [.slice A xs.length cap] ∧ xs.length ≤ cap ∧ cap ≤ maxLen ∧ d.C w A xs.length xs ∧ (∀ p ∈ xs, Q p) ∧ (xs.map wt).sum + 1 ≤ Rows.uptoBulk x.1 := by
  rcases open_slice ht h with ⟨rfl, rfl⟩ | ⟨a, len, cap, m, n, D, Pl, rfl, hb, hl, hm, hmm, rfl, hi⟩
  · refine ⟨none, 0, [], rfl, by simp, by simp [maxLen], ⟨rfl, by simp, fun h => by simp at h⟩, by simp, by simp [Rows.uptoBulk]⟩
  · have hle : len ≤ m := by rw [hmm]; split <;> omega
    have h1 : ∀ i, i < len → ∃ p : α, (∃ cs', w.cells? base (a.add (i * P.cellsOf e)) (P.cellsOf e) = some cs' ∧ d.K w p cs') ∧ Q p ∧ wt p ≤ Rows.uptoBulk (D i) := fun i hil => by
      obtain ⟨cs', hc, ht'⟩ := hi i (by omega)
      obtain ⟨p, hk, hq, hw⟩ := hel _ _ _ ht'
      exact ⟨p, ⟨cs', hc, hk⟩, hq, hw⟩
    by_cases hz : len = 0
    · subst hz
      refine ⟨some a, cap, [], rfl, by simp, hm, ⟨rfl, by simp, fun h => by simp at h⟩, by simp, by simp [Rows.uptoBulk]⟩
    · obtain ⟨p0, _⟩ := h1 0 (by omega)
      have : Nonempty α := ⟨p0⟩
      have h2 : ∀ i, ∃ p : α, i < len → (∃ cs', w.cells? base (a.add (i * P.cellsOf e)) (P.cellsOf e) = some cs' ∧ d.K w p cs') ∧ Q p ∧ wt p ≤ Rows.uptoBulk (D i) := fun i => by
        by_cases hil : i < len
        · obtain ⟨p, hp⟩ := h1 i hil
          exact ⟨p, fun _ => hp⟩
        · exact ⟨p0, fun h => absurd h hil⟩
      obtain ⟨g, hg⟩ := Classical.axiomOfChoice h2
      have hlen : ((List.range len).map g).length = len := by simp
      refine ⟨some a, cap, (List.range len).map g, by rw [hlen], by rw [hlen]; exact hl, hm, ⟨rfl, by rw [hlen]; unfold maxLen at hm; omega, fun _ => ⟨a, rfl, fun j p hj => ?_⟩⟩, ?_, ?_⟩
      · have hjl : j < len := by
          have := (List.getElem?_eq_some_iff.1 hj).1
          rwa [hlen] at this
        have hp : p = g j := by
          rw [List.getElem?_map, List.getElem?_range hjl] at hj
          simpa using hj.symm
        subst hp
        obtain ⟨⟨cs', hc, hk⟩, _, _⟩ := hg j hjl
        obtain ⟨_, hcl, hat⟩ := World.cells?_some hc
        refine ⟨cs', d.K_len hk, hk, fun i u hu => ?_⟩
        have hil : i < cs'.length := (List.getElem?_eq_some_iff.1 hu).1
        have := hat (i := i) (by omega)
        rw [← hsz, ← Go.Deep.add_add, this, hu]
      · intro p hp
        obtain ⟨i, hir, rfl⟩ := List.mem_map.1 hp
        exact (hg i (List.mem_range.1 hir)).2.1
      · have := bulk_sum wt D g len (fun i hi => (hg i hi).2.2)
        simp only [Rows.uptoBulk]
        omega

theorem one_le (d : DataW H) : 1 ≤ Rows.uptoBulk d := by
  cases d with
  | lit l => cases l <;> simp [Rows.uptoBulk]
  | nil => simp [Rows.uptoBulk]
  | ptr d => simp [Rows.uptoBulk]
  | slice elems spare => simp [Rows.uptoBulk]
  | agg parts => simp [Rows.uptoBulk]
  | iface t d => simp [Rows.uptoBulk]
  | map entries => simp [Rows.uptoBulk]
  | held h => simp [Rows.uptoBulk]

/-- Elements that are whole numbers. -/
theorem el_int {e : TypeId} {k : IntKind} (he : P.underlying e = some (.int k)) : ∀ n cs y, DataW.trod enc P w base spare held n e cs = some y → ∃ p : Int, (Kd.int k).K w p cs ∧ (Lit.int k p).wf = true ∧ (fun _ : Int => 1) p ≤ Rows.uptoBulk y.1 := by
  intro n cs y h
  obtain ⟨a, e0, rfl, wa⟩ := DataW.trod_int he h
  exact ⟨a, e0, wa, one_le _⟩

theorem sum_one {α : Type} (xs : List α) : (xs.map (fun _ => 1)).sum = xs.length := by
  induction xs with
  | nil => rfl
  | cons x xs ih => simp [ih]; omega

/-- A slice of whole numbers. -/
theorem open_C_int {t e : TypeId} {k : IntKind} (ht : P.underlying t = some (.slice e)) (he : P.underlying e = some (.int k)) (hc : P.cellsOf e = 1) : ∀ n cs y, DataW.trod enc P w base spare held n t cs = some y →
    ∃ (A : Option Addr) (cap : Nat) (xs : List Int), cs = [.slice A xs.length cap] ∧ xs.length ≤ cap ∧ cap ≤ maxLen ∧ (Kd.int k).C w A xs.length xs ∧ (∀ p ∈ xs, (Lit.int k p).wf = true) ∧ xs.length + 1 ≤ Rows.uptoBulk y.1 := by
  intro n cs y h
  obtain ⟨A, cap, xs, h1, h2, h3, h4, h5, h6⟩ := open_C (Kd.int k) (fun _ => 1) (fun p => (Lit.int k p).wf = true) ht hc (el_int he) h
  rw [sum_one] at h6
  exact ⟨A, cap, xs, h1, h2, h3, h4, h5, h6⟩

/-- A slice of slices of whole numbers. -/
theorem open_C_ints {t t1 e : TypeId} {k : IntKind} (ht : P.underlying t = some (.slice t1)) (hc1 : P.cellsOf t1 = 1) (ht1 : P.underlying t1 = some (.slice e)) (he : P.underlying e = some (.int k)) (hc : P.cellsOf e = 1) (n : Nat) (cs : List Value) (y : DataW H × List MemPlace) (h : DataW.trod enc P w base spare held n t cs = some y) :
    ∃ (A : Option Addr) (cap : Nat) (xs : List (List Int)), cs = [.slice A xs.length cap] ∧ xs.length ≤ cap ∧ cap ≤ maxLen ∧ (Kd.slice e (Kd.int k)).C w A xs.length xs ∧ (∀ x ∈ xs, ∀ p ∈ x, (Lit.int k p).wf = true) ∧ (xs.map (fun x => x.length + 1)).sum + 1 ≤ Rows.uptoBulk y.1 := by
  refine open_C (Kd.slice e (Kd.int k)) (fun x => x.length + 1) (fun x => ∀ p ∈ x, (Lit.int k p).wf = true) ht hc1 (fun n cs y h => ?_) h
  obtain ⟨A, cap, xs, h1, h2, h3, h4, h5, h6⟩ := open_C_int ht1 he hc n cs y h
  exact ⟨xs, ⟨A, cap, h1, h2, h4⟩, h5, h6⟩
end
end Go.Proofs.Ytdllpgeagdckmaa.Opens
