/- There is always an answer; and what an order has that is one. Plain lists, no program. -/
import Derived.Test.YtdllpgeagdckmaaOTheory
namespace Go.Proofs.Ytdllpgeagdckmaa.Ord
set_option linter.unusedVariables false
set_option linter.unusedSimpArgs false
set_option linter.unusedSectionVars false
section
variable {N : Type} [DecidableEq N]

theorem sieve (P : N → Prop) : ∀ C : List N, ∃ D : List N, D.Nodup ∧ ∀ x, x ∈ D ↔ x ∈ C ∧ P x
  | [] => ⟨[], List.nodup_nil, by simp⟩
  | a :: C => by
    obtain ⟨D, hn, hm⟩ := sieve P C
    rcases Classical.em (P a ∧ a ∉ D) with h | h
    · refine ⟨a :: D, List.nodup_cons.2 ⟨h.2, hn⟩, fun x => ?_⟩
      rw [List.mem_cons, List.mem_cons, hm]
      constructor
      · rintro (rfl | ⟨h1, h2⟩)
        · exact ⟨.inl rfl, h.1⟩
        · exact ⟨.inr h1, h2⟩
      · rintro ⟨rfl | h1, h2⟩
        · exact .inl rfl
        · exact .inr ⟨h1, h2⟩
    · refine ⟨D, hn, fun x => ?_⟩
      rw [List.mem_cons, hm]
      constructor
      · rintro ⟨h1, h2⟩
        exact ⟨.inr h1, h2⟩
      · rintro ⟨rfl | h1, h2⟩
        · have h3 : x ∈ D := Classical.not_not.1 fun hx => h ⟨h2, hx⟩
          exact (hm x).1 h3
        · exact ⟨h1, h2⟩

theorem least_exists {lt : N → N → Bool} (T : Tot lt) {P : N → Prop} (C : List N) (hC : ∀ x, P x → x ∈ C) (h : ∃ x, P x) : ∃ m, IsLeast lt P m := by
  obtain ⟨D, _, hm⟩ := sieve P C
  obtain ⟨x, hx⟩ := h
  cases D with
  | nil => have := (hm x).2 ⟨hC x hx, hx⟩; simp at this
  | cons a D => exact ⟨_, (leastO_is T D a).congr fun y => (hm y).trans ⟨fun h => h.2, fun h => ⟨hC y h, h⟩⟩⟩

theorem usesOf_sub {list : Net N} {x : N} {us : List N} (h : usesOf list x = some us) : ∃ v ∈ list, v.2 = us := by
  unfold usesOf at h
  obtain ⟨v, hv, e⟩ := Option.map_eq_some_iff.1 h
  exact ⟨v, List.mem_of_find?_eq_some hv, e⟩
theorem Reach.cand {list : Net N} {hv from_ : List N} {x : N} (h : Reach list hv from_ x) : x ∈ from_ ++ list.flatMap (·.2) := by
  cases h with
  | base x h hn => exact List.mem_append_left _ h
  | step y x us hy hu h hn =>
    obtain ⟨v, hv, rfl⟩ := usesOf_sub hu
    exact List.mem_append_right _ (List.mem_flatMap.2 ⟨v, hv, h⟩)

theorem greedy_exists {lt : N → N → Bool} (T : Tot lt) {list : Net N} {hv want : List N} (h1 : ∀ x, Reach list hv want x → usesOf list x ≠ none) (h2 : ∀ x, Reach list hv want x → ¬ Cyc list hv x) : ∃ l, Greedy lt list hv want l := by
  obtain ⟨all, hn, hm⟩ := sieve (Reach list hv want) (want ++ list.flatMap (·.2))
  have hall : ∀ x, x ∈ all ↔ Reach list hv want x := fun x => (hm x).trans ⟨fun h => h.2, fun h => ⟨h.cand, h⟩⟩
  have key : ∀ n, n ≤ all.length → ∃ l : List N, l.length = n ∧ l.Nodup ∧ (∀ x ∈ l, x ∈ all) ∧ ∀ i x, l[i]? = some x → IsLeast lt (Next list hv want (l.take i)) x := by
    intro n
    induction n with
    | zero => exact fun _ => ⟨[], rfl, List.nodup_nil, by simp, by simp⟩
    | succ n ih =>
      intro hle
      obtain ⟨l, hl, hln, hls, hlg⟩ := ih (by omega)
      have : ∃ x0, x0 ∈ all ∧ x0 ∉ l := by
        apply Classical.byContradiction
        intro hc
        have hs : ∀ x ∈ all, x ∈ l := fun x hx => Classical.not_not.1 fun hx2 => hc ⟨x, hx, hx2⟩
        have := subset_length hn hs
        omega
      obtain ⟨x0, hx0, hx1⟩ := this
      obtain ⟨m, hmm⟩ := least_exists T (P := Next list hv want l) all (fun x hx => (hall x).2 hx.1) (exists_next h1 h2 all l hall hx0 hx1)
      refine ⟨l ++ [m], by simp [hl], ?_, ?_, ?_⟩
      · rw [List.nodup_append]
        exact ⟨hln, by simp, fun a ha b hb e => hmm.1.2.1 (by rw [← List.mem_singleton.1 hb, ← e]; exact ha)⟩
      · intro x hx
        rcases List.mem_append.1 hx with hx | hx
        · exact hls x hx
        · rw [List.mem_singleton.1 hx]; exact (hall m).2 hmm.1.1
      · intro i x hx
        rcases Nat.lt_or_ge i l.length with hi | hi
        · rw [List.getElem?_append_left hi] at hx
          rw [List.take_append_of_le_length (by omega)]
          exact hlg i x hx
        · rw [List.getElem?_append_right hi] at hx
          have hi0 : i - l.length = 0 := by
            have := (List.getElem?_eq_some_iff.1 hx).1
            simp at this
            omega
          rw [hi0] at hx
          have e : m = x := by simpa using hx
          have ei : i = l.length := by omega
          subst ei
          rw [List.take_left, ← e]
          exact hmm
  obtain ⟨l, hl, hln, hls, hlg⟩ := key all.length (Nat.le_refl _)
  exact ⟨l, fun x => ⟨fun hx => (hall x).1 (hls x hx), fun hx => subset_full hln hls (by omega) x ((hall x).2 hx)⟩, hln, hlg⟩

theorem sorts_exists {lt : N → N → Bool} (T : Tot lt) (emp : N) (list : Net N) (want hv : List N) : ∃ l m e, Sorts lt emp list want hv l m e := by
  by_cases h0 : bads list = []
  · by_cases h1 : ∃ x, Reach list hv want x ∧ usesOf list x = none
    · obtain ⟨m, hm⟩ := least_exists T (want ++ list.flatMap (·.2)) (fun x hx => hx.1.cand) h1
      exact ⟨_, _, _, .none_ m h0 hm⟩
    · have h1' : ∀ x, Reach list hv want x → usesOf list x ≠ none := fun x hx e => h1 ⟨x, hx, e⟩
      by_cases h2 : ∃ x, Reach list hv want x ∧ Cyc list hv x
      · obtain ⟨m, hm⟩ := least_exists T (want ++ list.flatMap (·.2)) (fun x hx => hx.1.cand) h2
        exact ⟨_, _, _, .cycle m h0 h1' hm⟩
      · have h2' : ∀ x, Reach list hv want x → ¬ Cyc list hv x := fun x hx e => h2 ⟨x, hx, e⟩
        obtain ⟨l, hl⟩ := greedy_exists T h1' h2'
        exact ⟨_, _, _, .ok l h0 h1' h2' hl⟩
  · have : ∃ x, x ∈ bads list := by
      cases hb : bads list with
      | nil => exact absurd hb h0
      | cons a l => exact ⟨a, by simp⟩
    obtain ⟨m, hm⟩ := least_exists T (bads list) (fun x hx => hx) this
    exact ⟨_, _, _, .twice m hm⟩

/-! ### What an order is -/
variable {lt : N → N → Bool} {list : Net N} {hv want l : List N}
theorem Greedy.wanted (h : Greedy lt list hv want l) {x : N} (hx : x ∈ want) : x ∈ l ∨ x ∈ hv :=
  (Classical.em (x ∈ hv)).symm.imp (fun hn => (h.mem x).2 (.base x hx hn)) id
theorem Greedy.apart (h : Greedy lt list hv want l) {x : N} (hx : x ∈ l) : x ∉ hv := ((h.mem x).1 hx).not_have
/-- What it uses was there, or came ahead of it. -/
theorem Greedy.behind (h : Greedy lt list hv want l) {i : Nat} {x : N} (hx : l[i]? = some x) {us : List N} (hus : usesOf list x = some us) {u : N} (hu : u ∈ us) : u ∈ hv ∨ u ∈ l.take i := (h.least i x hx).1.2.2 us hus u hu
/-- Who could have come a place earlier is greater. -/
theorem Greedy.early (h : Greedy lt list hv want l) {i : Nat} {x y : N} (hx : l[i + 1]? = some x) (hy : l[i]? = some y) (hr : ∀ us, usesOf list x = some us → ∀ u ∈ us, u ∈ hv ∨ u ∈ l.take i) : lt x y = false := by
  refine (h.least i y hy).2 x ⟨(h.mem x).1 (List.mem_of_getElem? hx), fun hm => ?_, hr⟩
  have e : l.take i = (l.take (i + 1)).take i := by rw [List.take_take, Nat.min_eq_left (by omega)]
  rw [e] at hm
  exact (h.least (i + 1) x hx).1.2.1 (List.mem_of_mem_take hm)
end
end Go.Proofs.Ytdllpgeagdckmaa.Ord
