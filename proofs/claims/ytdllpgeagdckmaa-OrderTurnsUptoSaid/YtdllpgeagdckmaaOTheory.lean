/- Names that need one another: who is reached, who lies on a circle, and in which order they come. Plain lists, no program. -/
namespace Go.Proofs.Ytdllpgeagdckmaa.Ord
set_option linter.unusedVariables false
set_option linter.unusedSimpArgs false
set_option linter.unusedSectionVars false
section
variable {N : Type} [DecidableEq N]

/-- A strict total order. -/
structure Tot (lt : N → N → Bool) : Prop where
  irr : ∀ a, lt a a = false
  tr : ∀ a b c, lt a b = true → lt b c = true → lt a c = true
  tri : ∀ a b, lt a b = true ∨ a = b ∨ lt b a = true

def IsLeast (lt : N → N → Bool) (P : N → Prop) (m : N) : Prop := P m ∧ ∀ x, P x → lt x m = false

theorem IsLeast.unique {lt : N → N → Bool} (T : Tot lt) {P : N → Prop} {a b : N} (ha : IsLeast lt P a) (hb : IsLeast lt P b) : a = b := by
  rcases T.tri a b with h | h | h
  · rw [hb.2 a ha.1] at h; cases h
  · exact h
  · rw [ha.2 b hb.1] at h; cases h
theorem IsLeast.congr {lt : N → N → Bool} {P Q : N → Prop} {a : N} (h : IsLeast lt P a) (e : ∀ x, P x ↔ Q x) : IsLeast lt Q a := ⟨(e a).1 h.1, fun x hx => h.2 x ((e x).2 hx)⟩

def mnO (lt : N → N → Bool) (a b : N) : N := if lt b a then b else a
def leastO (lt : N → N → Bool) : N → List N → N
  | a, [] => a
  | a, b :: l => leastO lt (mnO lt a b) l

theorem leastO_is {lt : N → N → Bool} (T : Tot lt) : ∀ (l : List N) (a : N), IsLeast lt (· ∈ a :: l) (leastO lt a l)
  | [], a => ⟨by simp [leastO], fun x hx => by
      rw [List.mem_singleton.1 hx]
      exact T.irr _⟩
  | b :: l, a => by
    have h := leastO_is T l (mnO lt a b)
    have hm : mnO lt a b = a ∨ mnO lt a b = b := by unfold mnO; split <;> simp
    have ha : ∀ z, lt z (mnO lt a b) = false → lt (mnO lt a b) z = true ∨ mnO lt a b = z := fun z hz => by
      rcases T.tri (mnO lt a b) z with h1 | h1 | h1
      · exact .inl h1
      · exact .inr h1
      · rw [hz] at h1; cases h1
    refine ⟨?_, fun x hx => ?_⟩
    · show leastO lt (mnO lt a b) l ∈ _
      rcases List.mem_cons.1 h.1 with h1 | h1
      · rw [h1]
        rcases hm with e | e <;> rw [e] <;> simp
      · exact List.mem_cons_of_mem _ (List.mem_cons_of_mem _ h1)
    · show lt x (leastO lt (mnO lt a b) l) = false
      have hk : lt (mnO lt a b) (leastO lt (mnO lt a b) l) = false := h.2 _ List.mem_cons_self
      have key : ∀ z, lt z (mnO lt a b) = false → lt z (leastO lt (mnO lt a b) l) = false := fun z hz => by
        cases hc : lt z (leastO lt (mnO lt a b) l) with
        | false => rfl
        | true =>
          rcases ha z hz with h1 | h1
          · rw [T.tr _ _ _ h1 hc] at hk; cases hk
          · rw [h1] at hk hc; rw [hk] at hc; cases hc
      rcases List.mem_cons.1 hx with rfl | hx
      · refine key _ ?_
        unfold mnO
        split
        · rename_i h1
          cases hc : lt x b with
          | false => rfl
          | true => have := T.irr x; rw [T.tr _ _ _ hc h1] at this; cases this
        · exact T.irr _
      rcases List.mem_cons.1 hx with rfl | hx
      · refine key _ ?_
        unfold mnO
        split
        · exact T.irr _
        · rename_i h1
          simpa using h1
      · exact h.2 x (List.mem_cons_of_mem _ hx)

/-! ### The net -/
abbrev Net (N : Type) := List (N × List N)

def usesOf (list : Net N) (x : N) : Option (List N) := (list.find? (fun v => v.1 == x)).map (·.2)

inductive Reach (list : Net N) (hv from_ : List N) : N → Prop
  | base (x : N) (h : x ∈ from_) (hn : x ∉ hv) : Reach list hv from_ x
  | step (y x : N) (us : List N) (hy : Reach list hv from_ y) (hu : usesOf list y = some us) (h : x ∈ us) (hn : x ∉ hv) : Reach list hv from_ x

theorem Reach.not_have {list : Net N} {hv from_ : List N} {x : N} (h : Reach list hv from_ x) : x ∉ hv := by
  cases h <;> assumption

def Cyc (list : Net N) (hv : List N) (x : N) : Prop := ∃ us, usesOf list x = some us ∧ Reach list hv us x

/-- What is reached from what is reached is reached. -/
theorem Reach.trans {list : Net N} {hv from_ us : List N} {x y : N} (hx : Reach list hv from_ x) (hu : usesOf list x = some us) (hy : Reach list hv us y) : Reach list hv from_ y := by
  induction hy with
  | base z h hn => exact .step x z us hx hu h hn
  | step a z vs ha hv' h hn ih => exact .step a z vs ih hv' h hn

/-! ### What stands twice -/
def dupUses (name : N) : List N → List N → List N
  | _, [] => []
  | s, u :: us => (if u ∈ s then [name] else []) ++ dupUses name (s ++ [u]) us
def badsFrom : List N → Net N → List N
  | _, [] => []
  | s, v :: l => ((if v.1 ∈ s then [v.1] else []) ++ dupUses v.1 [] v.2) ++ badsFrom (s ++ [v.1]) l
def bads (list : Net N) : List N := badsFrom [] list

theorem mem_dupUses {name x : N} : ∀ (us s : List N), x ∈ dupUses name s us ↔ x = name ∧ ¬ (us.Nodup ∧ ∀ u ∈ us, u ∉ s)
  | [], s => by simp [dupUses]
  | u :: us, s => by
    rw [dupUses, List.mem_append, mem_dupUses us]
    by_cases hu : u ∈ s
    · simp only [hu, if_true, List.nodup_cons, List.mem_cons, List.not_mem_nil, or_false]
      constructor
      · rintro (rfl | ⟨rfl, _⟩)
        · exact ⟨rfl, fun ⟨_, h⟩ => h u (.inl rfl) hu⟩
        · exact ⟨rfl, fun ⟨_, h⟩ => h u (.inl rfl) hu⟩
      · exact fun ⟨e, _⟩ => .inl e
    · simp only [hu, if_false, List.not_mem_nil, false_or, List.nodup_cons, List.mem_cons, List.mem_append, List.mem_singleton, List.not_mem_nil, or_false]
      refine and_congr_right fun _ => not_congr ⟨fun ⟨h1, h2⟩ => ⟨⟨fun hc => ?_, h1⟩, fun a ha => ?_⟩, fun ⟨⟨h0, h1⟩, h2⟩ => ⟨h1, fun a ha hc => ?_⟩⟩
      · exact h2 u hc (.inr rfl)
      · rcases ha with rfl | ha
        · exact hu
        · exact fun hc => h2 a ha (.inl hc)
      · rcases hc with hc | rfl
        · exact h2 a (.inr ha) hc
        · exact h0 ha

theorem mem_badsFrom {x : N} : ∀ (l : Net N) (s : List N), x ∈ badsFrom s l ↔ (x ∈ s ∧ x ∈ l.map (·.1)) ∨ 2 ≤ (l.map (·.1)).count x ∨ ∃ v ∈ l, v.1 = x ∧ ¬ v.2.Nodup
  | [], s => by simp [badsFrom]
  | v :: l, s => by
    rw [badsFrom, List.mem_append, List.mem_append, mem_badsFrom l, mem_dupUses]
    have hc : ∀ y, 1 ≤ (l.map (·.1)).count y ↔ y ∈ l.map (·.1) := fun y => by
      rw [Nat.one_le_iff_ne_zero, ← Nat.pos_iff_ne_zero, List.count_pos_iff]
    by_cases hx : x = v.1
    · subst hx
      have e1 : ((v :: l).map (·.1)).count v.1 = (l.map (·.1)).count v.1 + 1 := by simp
      rw [e1, show 2 ≤ (l.map (·.1)).count v.1 + 1 ↔ v.1 ∈ l.map (·.1) by rw [← hc]; omega]
      constructor
      · rintro ((h | ⟨_, h⟩) | ⟨_, h⟩ | h | ⟨a, ha, e, h⟩)
        · refine .inl ⟨?_, by simp⟩
          by_cases hs : v.1 ∈ s
          · exact hs
          · rw [if_neg hs] at h; simp at h
        · exact .inr (.inr ⟨v, List.mem_cons_self, rfl, fun hn => h ⟨hn, by simp⟩⟩)
        · exact .inr (.inl h)
        · exact .inr (.inl ((hc _).1 (by omega)))
        · exact .inr (.inr ⟨a, List.mem_cons_of_mem _ ha, e, h⟩)
      · rintro (⟨h, _⟩ | h | ⟨a, ha, e, h⟩)
        · exact .inl (.inl (by rw [if_pos h]; simp))
        · exact .inr (.inl ⟨by simp, h⟩)
        · rcases List.mem_cons.1 ha with rfl | ha
          · exact .inl (.inr ⟨rfl, fun ⟨h1, _⟩ => h h1⟩)
          · exact .inr (.inr (.inr ⟨a, ha, e, h⟩))
    · have e1 : ((v :: l).map (·.1)).count x = (l.map (·.1)).count x := by simp [Ne.symm hx]
      rw [e1]
      have e2 : (x ∈ s ++ [v.1]) ↔ x ∈ s := by simp [hx]
      rw [e2]
      have e3 : x ∈ (v :: l).map (·.1) ↔ x ∈ l.map (·.1) := by simp [hx]
      rw [e3]
      have e4 : (∃ a ∈ v :: l, a.1 = x ∧ ¬ a.2.Nodup) ↔ ∃ a ∈ l, a.1 = x ∧ ¬ a.2.Nodup := by
        constructor
        · rintro ⟨a, ha, e, h⟩
          rcases List.mem_cons.1 ha with rfl | ha
          · exact absurd e.symm hx
          · exact ⟨a, ha, e, h⟩
        · rintro ⟨a, ha, e, h⟩
          exact ⟨a, List.mem_cons_of_mem _ ha, e, h⟩
      rw [e4]
      have e5 : ¬ (x ∈ if v.1 ∈ s then [v.1] else []) := by split <;> simp [hx]
      simp [e5, hx]

theorem mem_bads {x : N} {list : Net N} : x ∈ bads list ↔ 2 ≤ (list.map (·.1)).count x ∨ ∃ v ∈ list, v.1 = x ∧ ¬ v.2.Nodup := by
  rw [bads, mem_badsFrom]
  simp

theorem bads_nil {list : Net N} (h : bads list = []) : (list.map (·.1)).Nodup ∧ ∀ v ∈ list, v.2.Nodup := by
  have hx : ∀ x, x ∉ bads list := by simp [h]
  refine ⟨List.nodup_iff_count.2 fun a => ?_, fun v hv => ?_⟩
  · have := hx a
    rw [mem_bads] at this
    omega
  · have := hx v.1
    rw [mem_bads] at this
    exact Classical.not_not.1 fun hn => this (.inr ⟨v, hv, rfl, hn⟩)

theorem usesOf_mem {list : Net N} (h : (list.map (·.1)).Nodup) {x : N} {us : List N} : usesOf list x = some us ↔ (x, us) ∈ list := by
  induction list with
  | nil => simp [usesOf]
  | cons v l ih =>
    simp only [List.map_cons, List.nodup_cons] at h
    have ih := ih h.2
    unfold usesOf at ih ⊢
    by_cases hx : v.1 = x
    · subst hx
      simp only [List.find?_cons, beq_self_eq_true, Option.map_some, Option.some.injEq, List.mem_cons]
      constructor
      · rintro rfl
        exact .inl rfl
      · rintro (e | e)
        · rw [← e]
        · exact absurd (List.mem_map_of_mem (f := (·.1)) e) h.1
    · simp only [List.find?_cons, beq_eq_false_iff_ne.2 hx, List.mem_cons]
      rw [ih]
      constructor
      · exact .inr
      · rintro (e | e)
        · exact absurd (by rw [← e]) hx
        · exact e
theorem usesOf_none {list : Net N} {x : N} : usesOf list x = none ↔ x ∉ list.map (·.1) := by
  simp only [usesOf, Option.map_eq_none_iff, List.find?_eq_none, List.mem_map, not_exists, not_and, beq_iff_eq]

theorem usesOf_snoc {l : Net N} {v : N × List N} (hn : v.1 ∉ l.map (·.1)) (x : N) : usesOf (l ++ [v]) x = if x = v.1 then some v.2 else usesOf l x := by
  unfold usesOf
  rw [List.find?_append]
  by_cases hx : x = v.1
  · subst hx
    have : l.find? (fun y => y.1 == v.1) = none := by
      rw [List.find?_eq_none]
      intro y hy
      simp only [beq_iff_eq]
      exact fun e => hn (by rw [← e]; exact List.mem_map_of_mem (f := (·.1)) hy)
    rw [this]
    simp
  · rw [if_neg hx]
    have : [v].find? (fun y => y.1 == x) = none := by
      rw [List.find?_eq_none]
      intro y hy
      rw [List.mem_singleton.1 hy]
      simp only [beq_iff_eq]
      exact fun e => hx e.symm
    rw [this, Option.or_none]

/-! ### The answer -/
/-- Who could come now. -/
def Next (list : Net N) (hv want out : List N) (x : N) : Prop := Reach list hv want x ∧ x ∉ out ∧ ∀ us, usesOf list x = some us → ∀ u ∈ us, u ∈ hv ∨ u ∈ out

structure Greedy (lt : N → N → Bool) (list : Net N) (hv want l : List N) : Prop where
  mem : ∀ x, x ∈ l ↔ Reach list hv want x
  nodup : l.Nodup
  least : ∀ i x, l[i]? = some x → IsLeast lt (Next list hv want (l.take i)) x

theorem Greedy.unique {lt : N → N → Bool} (T : Tot lt) {list : Net N} {hv want l l' : List N} (h : Greedy lt list hv want l) (h' : Greedy lt list hv want l') : l = l' := by
  have hlen : l.length = l'.length := ((List.perm_ext_iff_of_nodup h.nodup h'.nodup).2 fun x => (h.mem x).trans (h'.mem x).symm).length_eq
  have key : ∀ i, i ≤ l.length → l.take i = l'.take i := by
    intro i
    induction i with
    | zero => intro _; simp
    | succ i ih =>
      intro hi
      have e := ih (by omega)
      have h1 := h.least i _ (List.getElem?_eq_getElem (show i < l.length by omega))
      have h2 := h'.least i _ (List.getElem?_eq_getElem (show i < l'.length by omega))
      rw [e] at h1
      rw [List.take_succ_eq_append_getElem (by omega), List.take_succ_eq_append_getElem (by omega), e, h1.unique T h2]
  have := key l.length (Nat.le_refl _)
  rw [List.take_length] at this
  rw [this, hlen, List.take_length]

inductive Sorts (lt : N → N → Bool) (emp : N) (list : Net N) (want hv : List N) : List N → N → Int → Prop
  | twice (m : N) (h : IsLeast lt (· ∈ bads list) m) : Sorts lt emp list want hv [] m 14
  | none_ (m : N) (h0 : bads list = []) (h : IsLeast lt (fun x => Reach list hv want x ∧ usesOf list x = none) m) : Sorts lt emp list want hv [] m 6
  | cycle (m : N) (h0 : bads list = []) (h1 : ∀ x, Reach list hv want x → usesOf list x ≠ none) (h : IsLeast lt (fun x => Reach list hv want x ∧ Cyc list hv x) m) : Sorts lt emp list want hv [] m 15
  | ok (l : List N) (h0 : bads list = []) (h1 : ∀ x, Reach list hv want x → usesOf list x ≠ none) (h2 : ∀ x, Reach list hv want x → ¬ Cyc list hv x) (h : Greedy lt list hv want l) : Sorts lt emp list want hv l emp 0

theorem Sorts.unique {lt : N → N → Bool} (T : Tot lt) {emp : N} {list : Net N} {want hv l l' : List N} {m m' : N} {e e' : Int} (h : Sorts lt emp list want hv l m e) (h' : Sorts lt emp list want hv l' m' e') : l = l' ∧ m = m' ∧ e = e' := by
  cases h with
  | twice m h =>
    cases h' with
    | twice m' h' => exact ⟨rfl, h.unique T h', rfl⟩
    | none_ m' h0 h' => have := h.1; rw [h0] at this; simp at this
    | cycle m' h0 h1 h' => have := h.1; rw [h0] at this; simp at this
    | ok l' h0 h1 h2 h' => have := h.1; rw [h0] at this; simp at this
  | none_ m h0 h =>
    cases h' with
    | twice m' h' => have := h'.1; rw [h0] at this; simp at this
    | none_ m' h0 h' => exact ⟨rfl, h.unique T h', rfl⟩
    | cycle m' h0 h1 h' => exact absurd h.1.2 (h1 _ h.1.1)
    | ok l' h0 h1 h2 h' => exact absurd h.1.2 (h1 _ h.1.1)
  | cycle m h0 h1 h =>
    cases h' with
    | twice m' h' => have := h'.1; rw [h0] at this; simp at this
    | none_ m' h0 h' => exact absurd h'.1.2 (h1 _ h'.1.1)
    | cycle m' h0 h1 h' => exact ⟨rfl, h.unique T h', rfl⟩
    | ok l' h0 h1 h2 h' => exact absurd h.1.2 (h2 _ h.1.1)
  | ok l h0 h1 h2 h =>
    cases h' with
    | twice m' h' => have := h'.1; rw [h0] at this; simp at this
    | none_ m' h0 h' => exact absurd h'.1.2 (h1 _ h'.1.1)
    | cycle m' h0 h1 h' => exact absurd h'.1.2 (h2 _ h'.1.1)
    | ok l' h0 h1 h2 h' => exact ⟨h.unique T h', rfl, rfl⟩

/-- Only who is in the list, what they use, who is wanted and there matters. -/
theorem Sorts.turned {lt : N → N → Bool} {emp : N} {list list' : Net N} {want want' hv l : List N} {m : N} {e : Int} (h : Sorts lt emp list want hv l m e) (hp : list.Perm list') (hw : ∀ x, x ∉ hv → (x ∈ want ↔ x ∈ want')) : Sorts lt emp list' want' hv l m e := by
  have hb : ∀ x, x ∈ bads list ↔ x ∈ bads list' := fun x => by
    rw [mem_bads, mem_bads, (hp.map (·.1)).count_eq]
    refine or_congr Iff.rfl ⟨fun ⟨v, hv, r⟩ => ⟨v, hp.mem_iff.1 hv, r⟩, fun ⟨v, hv, r⟩ => ⟨v, hp.mem_iff.2 hv, r⟩⟩
  have hb0 : bads list = [] → bads list' = [] := fun h0 => List.eq_nil_iff_forall_not_mem.2 fun x hx => by rw [← hb, h0] at hx; simp at hx
  have hu : bads list = [] → ∀ x, usesOf list x = usesOf list' x := fun h0 x => by
    have n1 := (bads_nil h0).1
    have n2 := (bads_nil (hb0 h0)).1
    cases hx : usesOf list' x with
    | none => rw [usesOf_none] at hx ⊢; rw [(hp.map (·.1)).mem_iff]; exact hx
    | some us => rw [usesOf_mem n2] at hx; rw [usesOf_mem n1, hp.mem_iff]; exact hx
  have hr : ∀ (a b : List N), bads list = [] → (∀ x, x ∉ hv → (x ∈ a ↔ x ∈ b)) → ∀ x, Reach list hv a x ↔ Reach list' hv b x := fun a b h0 hab x => by
    constructor
    · intro h
      induction h with
      | base z h hn => exact .base z ((hab z hn).1 h) hn
      | step y z us hy hus h hn ih => exact .step y z us ih (by rw [← hu h0]; exact hus) h hn
    · intro h
      induction h with
      | base z h hn => exact .base z ((hab z hn).2 h) hn
      | step y z us hy hus h hn ih => exact .step y z us ih (by rw [hu h0]; exact hus) h hn
  have hc : bads list = [] → ∀ x, Cyc list hv x ↔ Cyc list' hv x := fun h0 x => by
    unfold Cyc
    rw [hu h0 x]
    exact ⟨fun ⟨us, a, b⟩ => ⟨us, a, (hr us us h0 (fun _ _ => Iff.rfl) x).1 b⟩, fun ⟨us, a, b⟩ => ⟨us, a, (hr us us h0 (fun _ _ => Iff.rfl) x).2 b⟩⟩
  cases h with
  | twice m h => exact .twice m (h.congr hb)
  | none_ m h0 h => exact .none_ m (hb0 h0) (h.congr fun x => by rw [hr _ _ h0 hw, hu h0])
  | cycle m h0 h1 h => exact .cycle m (hb0 h0) (fun x hx => by rw [← hu h0]; exact h1 x ((hr _ _ h0 hw x).2 hx)) (h.congr fun x => by rw [hr _ _ h0 hw, hc h0])
  | ok l h0 h1 h2 h =>
    refine .ok l (hb0 h0) (fun x hx => by rw [← hu h0]; exact h1 x ((hr _ _ h0 hw x).2 hx)) (fun x hx => by rw [← hc h0]; exact h2 x ((hr _ _ h0 hw x).2 hx)) ⟨fun x => (h.mem x).trans (hr _ _ h0 hw x), h.nodup, fun i x hi => (h.least i x hi).congr fun y => ?_⟩
    unfold Next
    rw [hr _ _ h0 hw, hu h0]

/-! ### Somebody can always come -/
theorem countP_lt {α : Type} {p q : α → Bool} : ∀ {l : List α}, (∀ x ∈ l, p x = true → q x = true) → (∃ x ∈ l, q x = true ∧ p x = false) → l.countP p < l.countP q
  | [], _, ⟨x, hx, _⟩ => by simp at hx
  | a :: l, h, ⟨x, hx, hq, hp⟩ => by
    have hle : l.countP p ≤ l.countP q := List.countP_mono_left fun x hx => h x (List.mem_cons_of_mem _ hx)
    rw [List.countP_cons, List.countP_cons]
    rcases List.mem_cons.1 hx with rfl | hx
    · simp [hq, hp]; omega
    · have := countP_lt (fun x hx => h x (List.mem_cons_of_mem _ hx)) ⟨x, hx, hq, hp⟩
      have ha := h a List.mem_cons_self
      cases hpa : p a with
      | false => simp; split <;> omega
      | true => simp [ha hpa]; omega

theorem exists_next {list : Net N} {hv want : List N} (h1 : ∀ x, Reach list hv want x → usesOf list x ≠ none) (h2 : ∀ x, Reach list hv want x → ¬ Cyc list hv x)
    (all out : List N) (hall : ∀ x, x ∈ all ↔ Reach list hv want x) {x0 : N} (hx0 : x0 ∈ all) (hn0 : x0 ∉ out) : ∃ x, Next list hv want out x := by
  classical
  let desc : N → N → Bool := fun x y => decide (y ∉ out ∧ ∃ us, usesOf list x = some us ∧ Reach list hv us y)
  suffices H : ∀ n x, x ∈ all → x ∉ out → all.countP (desc x) = n → ∃ x, Next list hv want out x from H _ x0 hx0 hn0 rfl
  intro n
  induction n using Nat.strongRecOn with
  | _ n ih =>
    intro x hx hn hcnt
    have hrx := (hall x).1 hx
    obtain ⟨us, hus⟩ := Option.ne_none_iff_exists'.1 (h1 x hrx)
    by_cases hu : ∀ u ∈ us, u ∈ hv ∨ u ∈ out
    · exact ⟨x, hrx, hn, fun us' e => by rw [hus] at e; cases e; exact hu⟩
    · have ⟨u, hu⟩ := Classical.not_forall.1 hu
      have ⟨hm, hu⟩ := Classical.not_imp.1 hu
      have hnh : u ∉ hv := fun e => hu (.inl e)
      have hno : u ∉ out := fun e => hu (.inr e)
      have hru : Reach list hv want u := .step x u us hrx hus hm hnh
      have hxu : Reach list hv us u := .base u hm hnh
      refine ih (all.countP (desc u)) ?_ u ((hall u).2 hru) hno rfl
      rw [← hcnt]
      refine countP_lt (fun y _ hy => ?_) ⟨u, (hall u).2 hru, ?_, ?_⟩
      · have ⟨ho, vs, hvs, hy⟩ := of_decide_eq_true hy
        exact decide_eq_true ⟨ho, us, hus, hxu.trans hvs hy⟩
      · exact decide_eq_true ⟨hno, us, hus, hxu⟩
      · exact decide_eq_false fun ⟨_, vs, hvs, hy⟩ => h2 u hru ⟨vs, hvs, hy⟩

theorem subset_length : ∀ {l m : List N}, l.Nodup → (∀ x ∈ l, x ∈ m) → l.length ≤ m.length
  | [], m, _, _ => Nat.zero_le _
  | a :: l, m, hn, hs => by
    rw [List.nodup_cons] at hn
    have ha : a ∈ m := hs a List.mem_cons_self
    have h1 := subset_length (m := m.erase a) hn.2 (fun x hx => (List.mem_erase_of_ne (fun e => hn.1 (by rw [← e]; exact hx))).2 (hs x (List.mem_cons_of_mem _ hx)))
    have h2 := List.length_erase_of_mem ha
    have h3 := List.length_pos_of_mem ha
    rw [List.length_cons]
    omega
theorem subset_full {l m : List N} (hn : l.Nodup) (hs : ∀ x ∈ l, x ∈ m) (hl : m.length ≤ l.length) : ∀ x ∈ m, x ∈ l := fun x hx => by
  rcases Classical.em (x ∈ l) with h | h
  · exact h
  · have h1 := subset_length (l := x :: l) (m := m) (List.nodup_cons.2 ⟨h, hn⟩) (fun y hy => by
      rcases List.mem_cons.1 hy with rfl | hy
      · exact hx
      · exact hs y hy)
    rw [List.length_cons] at h1
    omega

/-! ### Who is reached, found step by step -/
structure Dfs (list : Net N) (hv from_ stack seen : List N) : Prop where
  st : ∀ x ∈ stack, x ∈ hv ∨ Reach list hv from_ x
  sn : ∀ x ∈ seen, Reach list hv from_ x
  nd : seen.Nodup
  fr : ∀ x ∈ from_, x ∈ hv ∨ x ∈ seen ∨ x ∈ stack
  cl : ∀ y ∈ seen, ∀ us, usesOf list y = some us → ∀ u ∈ us, u ∈ hv ∨ u ∈ seen ∨ u ∈ stack

theorem Dfs.start (list : Net N) (hv from_ : List N) : Dfs list hv from_ from_ [] :=
  ⟨fun x hx => (Classical.em (x ∈ hv)).imp id fun hn => .base x hx hn, by simp, List.nodup_nil, fun x hx => .inr (.inr hx), by simp⟩
theorem Dfs.skip {list : Net N} {hv from_ stack seen : List N} {x : N} (h : Dfs list hv from_ (stack ++ [x]) seen) (hx : x ∈ hv ∨ x ∈ seen) : Dfs list hv from_ stack seen := by
  have key : ∀ u, (u ∈ hv ∨ u ∈ seen ∨ u ∈ stack ++ [x]) → u ∈ hv ∨ u ∈ seen ∨ u ∈ stack := fun u hu => by
    rcases hu with hu | hu | hu
    · exact .inl hu
    · exact .inr (.inl hu)
    · rcases List.mem_append.1 hu with hu | hu
      · exact .inr (.inr hu)
      · rw [List.mem_singleton.1 hu]
        exact hx.imp id .inl
  exact ⟨fun y hy => h.st y (List.mem_append_left _ hy), h.sn, h.nd, fun y hy => key y (h.fr y hy), fun y hy us hus u hu => key u (h.cl y hy us hus u hu)⟩
theorem Dfs.top {list : Net N} {hv from_ stack seen : List N} {x : N} (h : Dfs list hv from_ (stack ++ [x]) seen) (hx : x ∉ hv) : Reach list hv from_ x := (h.st x (by simp)).resolve_left hx
theorem Dfs.push {list : Net N} {hv from_ stack seen : List N} {x : N} (h : Dfs list hv from_ (stack ++ [x]) seen) (hx : x ∉ hv) (hs : x ∉ seen) : Dfs list hv from_ (stack ++ (usesOf list x).getD []) (seen ++ [x]) := by
  have hr := h.top hx
  have key : ∀ u, (u ∈ hv ∨ u ∈ seen ∨ u ∈ stack ++ [x]) → u ∈ hv ∨ u ∈ seen ++ [x] ∨ u ∈ stack ++ (usesOf list x).getD [] := fun u hu => by
    rcases hu with hu | hu | hu
    · exact .inl hu
    · exact .inr (.inl (List.mem_append_left _ hu))
    · rcases List.mem_append.1 hu with hu | hu
      · exact .inr (.inr (List.mem_append_left _ hu))
      · exact .inr (.inl (List.mem_append_right _ hu))
  refine ⟨fun y hy => ?_, fun y hy => ?_, ?_, fun y hy => key y (h.fr y hy), fun y hy us hus u hu => ?_⟩
  · rcases List.mem_append.1 hy with hy | hy
    · exact h.st y (List.mem_append_left _ hy)
    · cases hu : usesOf list x with
      | none => rw [hu] at hy; simp at hy
      | some us =>
        rw [hu] at hy
        exact (Classical.em (y ∈ hv)).imp id fun hn => .step x y us hr hu hy hn
  · rcases List.mem_append.1 hy with hy | hy
    · exact h.sn y hy
    · rw [List.mem_singleton.1 hy]; exact hr
  · rw [List.nodup_append]
    exact ⟨h.nd, by simp, fun a ha b hb e => hs (by rw [← List.mem_singleton.1 hb, ← e]; exact ha)⟩
  · rcases List.mem_append.1 hy with hy | hy
    · exact key u (h.cl y hy us hus u hu)
    · rw [List.mem_singleton.1 hy] at hus
      exact .inr (.inr (List.mem_append_right _ (by rw [hus]; exact hu)))
theorem Dfs.done {list : Net N} {hv from_ seen : List N} (h : Dfs list hv from_ [] seen) (x : N) : x ∈ seen ↔ Reach list hv from_ x := by
  refine ⟨h.sn x, fun hr => ?_⟩
  induction hr with
  | base z hz hn => exact ((h.fr z hz).resolve_left hn).resolve_right (by simp)
  | step y z us hy hus hz hn ih => exact ((h.cl y ih us hus z hz).resolve_left hn).resolve_right (by simp)

/-- What may still be laid onto the list of what is to be looked at. -/
def pot : Net N → List N → Nat
  | [], _ => 0
  | v :: l, seen => (if v.1 ∈ seen then 0 else v.2.length) + pot l seen
theorem pot_out : ∀ {list : Net N} {seen : List N} {x : N}, x ∉ list.map (·.1) → pot list (seen ++ [x]) = pot list seen
  | [], _, _, _ => rfl
  | v :: l, seen, x, h => by
    simp only [List.map_cons, List.mem_cons, not_or] at h
    rw [pot, pot, pot_out h.2]
    simp [Ne.symm h.1]
theorem pot_push : ∀ {list : Net N} {seen : List N} {x : N}, (list.map (·.1)).Nodup → x ∉ seen → pot list (seen ++ [x]) + ((usesOf list x).getD []).length = pot list seen
  | [], _, _, _, _ => rfl
  | v :: l, seen, x, h, hs => by
    simp only [List.map_cons, List.nodup_cons] at h
    by_cases hx : v.1 = x
    · subst hx
      have e : (usesOf (v :: l) v.1).getD [] = v.2 := by simp [usesOf]
      rw [e, pot, pot, pot_out h.1]
      simp [hs]
      omega
    · have e : usesOf (v :: l) x = usesOf l x := by simp [usesOf, List.find?_cons, beq_eq_false_iff_ne.2 hx]
      rw [e, pot, pot, ← pot_push h.2 hs]
      simp [hx]
      omega
theorem pot_le (list : Net N) (seen : List N) : pot list seen ≤ pot list [] := by
  induction list with
  | nil => simp [pot]
  | cons v l ih =>
    rw [pot, pot]
    split <;> simp <;> omega
end
end Go.Proofs.Ytdllpgeagdckmaa.Ord
