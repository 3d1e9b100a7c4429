/- What comes stands behind all that it uses, each once: the printed law over the order's own answer. -/
import Derived.Test.YtdllpgeagdckmaaQ4
import Derived.Test.YtdllpgeagdckmaaOExist
namespace Go.Proofs.Ytdllpgeagdckmaa.Q
open Go.RowKit Go.Proofs.YtdllpgeagdckmaaW.PrintWords Go.Proofs.YtdllpgeagdckmaaW.PrintLast Go.Proofs.YtdllpgeagdckmaaW.PrintMore Go.Proofs.Ytdllpgeagdckmaa.Ord
set_option linter.unusedVariables false
set_option linter.unusedSimpArgs false
set_option linter.unusedSectionVars false

theorem w64 {x : Int} (h0 : -9223372036854775808 ≤ x) (h1 : x ≤ 9223372036854775807) : wrap64 x = x := by unfold wrap64; omega
theorem rd_at {l : List ByteArray} {i : Nat} (h : i < l.length) : rdOf ByteArray.empty l (i : Int) = l[i] := by
  unfold rdOf
  rw [Int.toNat_natCast, List.getD_eq_getElem?_getD, List.getElem?_eq_getElem h]
  rfl
theorem rd33_at {l : List S33} {i : Nat} (h : i < l.length) : rd_T33 l (i : Int) = l[i] := by
  unfold rd_T33
  rw [Int.toNat_natCast, List.getD_eq_getElem?_getD, List.getElem?_eq_getElem h]
  rfl
theorem toList_eq {a b : ByteArray} : a.toList = b.toList ↔ a = b := ⟨fun h => bytes_ext (by rw [← toList_data, ← toList_data]; exact h), fun h => by rw [h]⟩

/-- The place of a text in a list: the first; -1: there is none. -/
def Pl (l : List ByteArray) (s : ByteArray) (v : Int) : Prop := (v = -1 ∧ s ∉ l) ∨ ∃ j : Nat, v = (j : Int) ∧ l[j]? = some s ∧ s ∉ l.take j

theorem Pl.at {l : List ByteArray} {s : ByteArray} {v : Int} (h : Pl l s v) (hn : l.Nodup) {i : Nat} (hi : l[i]? = some s) : v = (i : Int) := by
  have hil := (List.getElem?_eq_some_iff.1 hi).1
  rcases h with ⟨_, h⟩ | ⟨j, rfl, hj, hm⟩
  · exact absurd (List.mem_of_getElem? hi) h
  · have h1 : ¬ i < j := fun hlt => hm (List.mem_take_iff_getElem.2 ⟨i, by have := (List.getElem?_eq_some_iff.1 hj).1; omega, (List.getElem?_eq_some_iff.1 hi).2⟩)
    have h2 : ¬ j < i := fun hlt => by
      obtain ⟨hjl, ej⟩ := List.getElem?_eq_some_iff.1 hj
      obtain ⟨_, ei⟩ := List.getElem?_eq_some_iff.1 hi
      have := List.pairwise_iff_getElem.1 hn j i hjl hil hlt
      exact this (ej.trans ei.symm)
    omega

theorem at_l0 (l : List ByteArray) (s : ByteArray) (hl : l.length ≤ 10000000) : ∀ n i : Nat, i + n = l.length → s ∉ l.take i → ∃ v, Ev (fun k => quirelaw15_at.l0 k l s (i : Int)) v ∧ Pl l s v
  | 0, i, hi, hm => ⟨-1, Ev.step (f := fun _ => some (-1)) (fun k => by
      unfold quirelaw15_at.l0
      rw [if_neg (by omega)]) (Ev.now _), .inl ⟨rfl, by rwa [List.take_of_length_le (by omega)] at hm⟩⟩
  | n + 1, i, hi, hm => by
    have hlt : i < l.length := by omega
    by_cases he : l[i] = s
    · refine ⟨(i : Int), Ev.step (f := fun _ => some (i : Int)) (fun k => ?_) (Ev.now _), .inr ⟨i, rfl, by rw [List.getElem?_eq_getElem hlt, he], hm⟩⟩
      unfold quirelaw15_at.l0
      rw [if_pos (by omega), if_pos (by omega), rd_at hlt, if_pos (by rw [he])]
    · obtain ⟨v, hv, hp⟩ := at_l0 l s hl n (i + 1) (by omega) (by
        rw [List.take_succ_eq_append_getElem hlt, List.mem_append, List.mem_singleton]
        rintro (h | h)
        · exact hm h
        · exact he h.symm)
      refine ⟨v, Ev.step (fun k => ?_) hv, hp⟩
      conv => lhs; unfold quirelaw15_at.l0
      rw [if_pos (by omega), if_pos (by omega), rd_at hlt, if_neg (fun h => he (toList_eq.1 h)), w64 (by omega) (by omega)]
      rfl
theorem at_ev (l : List ByteArray) (s : ByteArray) (hl : l.length ≤ 10000000) : ∃ v, Ev (fun k => quirelaw15_at.f k l s) v ∧ Pl l s v := at_l0 l s hl l.length 0 (by omega) (by simp)

/-! ### A program that does nothing does not answer this -/
def nmA : ByteArray := ⟨#[97]⟩
theorem awake_fit : Fit ([(⟨(⟨#[97]⟩ : ByteArray), ([] : List ByteArray)⟩ : S41)]) [(⟨#[97]⟩ : ByteArray)] [] := by
  refine ⟨by simp [netOf, tot], by simp, by simp, ?_, ?_, ?_, by simp⟩
  · intro v hv
    rw [List.mem_singleton.1 hv]
    decide
  · intro v hv u hu
    rw [List.mem_singleton.1 hv] at hu
    simp at hu
  · intro u hu
    rw [List.mem_singleton.1 hu]
    decide
theorem awake_true : quirelaw15_awake.f = some true := by
  obtain ⟨l, m, e, hs⟩ := sorts_exists totN noName (netOf [(⟨(⟨#[97]⟩ : ByteArray), ([] : List ByteArray)⟩ : S41)]) [(⟨#[97]⟩ : ByteArray)] []
  have hf := order_Sort.of awake_fit (r := (l, m, e)) hs
  have hcand : ∀ x, Ord.Reach (netOf [(⟨(⟨#[97]⟩ : ByteArray), ([] : List ByteArray)⟩ : S41)]) [] [(⟨#[97]⟩ : ByteArray)] x → x = ⟨#[97]⟩ := fun x hx => by
    have := hx.cand
    simpa [netOf] using this
  have hu : ∀ us, usesOf (netOf [(⟨(⟨#[97]⟩ : ByteArray), ([] : List ByteArray)⟩ : S41)]) ⟨#[97]⟩ = some us → us = [] := fun us h => by
    obtain ⟨v, hv, e⟩ := usesOf_sub h
    simp [netOf] at hv
    rw [← e, hv]
  have hun : usesOf (netOf [(⟨(⟨#[97]⟩ : ByteArray), ([] : List ByteArray)⟩ : S41)]) ⟨#[97]⟩ ≠ none := fun h => by
    rw [usesOf_none] at h
    exact h (by simp [netOf])
  have hb : bads (netOf [(⟨(⟨#[97]⟩ : ByteArray), ([] : List ByteArray)⟩ : S41)]) = [] := by simp [bads, badsFrom, dupUses, netOf]
  unfold quirelaw15_awake.f
  rw [hf]
  cases hs with
  | twice m h => have := h.1; rw [hb] at this; simp at this
  | none_ m h0 h => have h1 := h.1.2; rw [hcand _ h.1.1] at h1; exact absurd h1 hun
  | cycle m h0 h1 h =>
    obtain ⟨us, h2, h3⟩ := h.1.2
    rw [hcand _ h.1.1] at h2
    rw [hu _ h2] at h3
    have := h3.cand
    simp [netOf] at this
  | ok l h0 h1 h2 h =>
    have hm : (⟨#[97]⟩ : ByteArray) ∈ l := (h.mem _).2 (.base _ (by simp) (by simp))
    have h3 := subset_length (l := l) (m := [(⟨#[97]⟩ : ByteArray)]) h.nodup (fun x hx => by rw [hcand x ((h.mem x).1 hx)]; simp)
    have h4 := List.length_pos_of_mem hm
    have h5 : l.length = 1 := by simp at h3; omega
    simp [h5]

/-! ### The law -/
theorem netOf_conv (list : List S33) : netOf (list.map conv) = list.map fun v => (v.f0, v.f1) := by simp [netOf, conv]
theorem tot_flat : ∀ l : Net ByteArray, (l.flatMap (·.2)).length ≤ tot l
  | [] => by simp [tot]
  | v :: l => by
    have := tot_flat l
    simp only [List.flatMap_cons, List.length_append, tot]
    omega
theorem order_length {list : Net ByteArray} {hv want l : List ByteArray} (h : Greedy ltN list hv want l) (h1 : want.length ≤ 3000000) (h2 : tot list ≤ 3000000) : l.length ≤ 6000000 := by
  have h3 := subset_length (m := want ++ list.flatMap (·.2)) h.nodup (fun x hx => ((h.mem x).1 hx).cand)
  have h4 := tot_flat list
  rw [List.length_append] at h3
  omega

/-- Who stands ready a place ahead of i. -/
def Rdy (hv l : List ByteArray) (i : Nat) (us : List ByteArray) : Prop := ∀ u ∈ us, u ∈ hv ∨ u ∈ l.take (i - 1)

section
variable (list : List S33) (want hv l : List ByteArray) (hL : l.length ≤ 6000000) (hH : hv.length ≤ 3000000) (hN : list.length ≤ 3000000) (hU : ∀ v ∈ list, v.f1.length ≤ 3000000)
  (hnd : ((list.map fun v => (v.f0, v.f1)).map (·.1)).Nodup) (G : Greedy ltN (list.map fun v => (v.f0, v.f1)) hv want l)
include hL hH hN hU hnd G

theorem uses_at {m : Nat} (hm : m < list.length) : usesOf (list.map fun v => (v.f0, v.f1)) list[m].f0 = some list[m].f1 := by
  rw [usesOf_mem hnd]
  exact List.mem_map.2 ⟨list[m], List.getElem_mem hm, rfl⟩

theorem l3_ev (i : Nat) (hi : i < l.length) (m : Nat) (hm : m < list.length) (hx : list[m].f0 = l[i])
    (hnext : ∀ b' : Bool, (b' = true → 0 < i → Rdy hv l i list[m].f1) → Ev (fun k => quirelaw15_OrderStands.l2 k list hv l noName (i : Int) b' ((m + 1 : Nat) : Int)) true) :
    ∀ n q : Nat, q + n = list[m].f1.length → ∀ b : Bool, (b = true → 0 < i → Rdy hv l i (list[m].f1.take q)) → Ev (fun k => quirelaw15_OrderStands.l3 k list hv l noName (i : Int) b (m : Int) (q : Int)) true
  | 0, q, hq, b, hb => by
    refine Ev.step (fun k => ?_) (hnext b (by rwa [List.take_of_length_le (by omega)] at hb))
    conv => lhs; unfold quirelaw15_OrderStands.l3
    rw [if_pos (by omega), if_pos (by omega), rd33_at hm, if_neg (by omega), w64 (by omega) (by omega)]
    rfl
  | n + 1, q, hq, b, hb => by
    have hql : q < list[m].f1.length := by omega
    have hqu := hU _ (List.getElem_mem hm)
    obtain ⟨v, hv1, hp⟩ := at_ev l list[m].f1[q] (by omega)
    have hbe : list[m].f1[q] ∈ hv ∨ list[m].f1[q] ∈ l.take i := G.behind (List.getElem?_eq_getElem hi) (by rw [← hx]; exact uses_at list want hv l hL hH hN hU hnd G hm) (List.getElem_mem hql)
    have hsn : ∀ b' : Bool, (b' = true → b = true ∧ (0 < i → list[m].f1[q] ∈ hv ∨ list[m].f1[q] ∈ l.take (i - 1))) → Ev (fun k => quirelaw15_OrderStands.l3 k list hv l noName (i : Int) b' (m : Int) ((q + 1 : Nat) : Int)) true := fun b' hb' => by
      refine l3_ev i hi m hm hx hnext n (q + 1) (by omega) b' (fun h0 h1 u hu => ?_)
      rw [List.take_succ_eq_append_getElem hql, List.mem_append, List.mem_singleton] at hu
      rcases hu with hu | rfl
      · exact hb (hb' h0).1 h1 u hu
      · exact (hb' h0).2 h1
    have hq1 : wrap64 ((q : Int) + 1) = ((q + 1 : Nat) : Int) := by rw [w64 (by omega) (by omega)]; rfl
    rcases hp with ⟨rfl, hno⟩ | ⟨j, rfl, hj, hjm⟩
    · have hhv : list[m].f1[q] ∈ hv := hbe.resolve_right fun h => hno (List.mem_of_mem_take h)
      obtain ⟨v2, hv2, hp2⟩ := at_ev hv list[m].f1[q] (by omega)
      have h2 : ¬ v2 < 0 := by
        rcases hp2 with ⟨rfl, h⟩ | ⟨j, rfl, _, _⟩
        · exact absurd hhv h
        · omega
      obtain ⟨K1, g1⟩ := hv1
      obtain ⟨K2, g2⟩ := hv2
      have fin : ∀ b' : Bool, (b' = true → b = true) → (∀ k, quirelaw15_OrderStands.l3 (k + 1) list hv l noName (i : Int) b (m : Int) (q : Int) = if quirelaw15_at.f k l list[m].f1[q] = some (-1) ∧ quirelaw15_at.f k hv list[m].f1[q] = some v2 then quirelaw15_OrderStands.l3 k list hv l noName (i : Int) b' (m : Int) ((q + 1 : Nat) : Int) else quirelaw15_OrderStands.l3 (k + 1) list hv l noName (i : Int) b (m : Int) (q : Int)) → Ev (fun k => quirelaw15_OrderStands.l3 k list hv l noName (i : Int) b (m : Int) (q : Int)) true := fun b' hb' he => by
        obtain ⟨K3, g3⟩ := hsn b' (fun h => ⟨hb' h, fun _ => .inl hhv⟩)
        refine ⟨K1 + K2 + K3 + 1, fun k hk => ?_⟩
        obtain ⟨k', rfl⟩ : ∃ k', k = k' + 1 := ⟨k - 1, by omega⟩
        dsimp only
        rw [he k', if_pos ⟨g1 k' (by omega), g2 k' (by omega)⟩]
        exact g3 k' (by omega)
      cases b with
      | false =>
        refine fin false (fun h => h) (fun k => ?_)
        split
        · rename_i hc
          conv => lhs; unfold quirelaw15_OrderStands.l3
          rw [if_pos (by omega), if_pos (by omega), rd33_at hm, if_pos (by omega), if_pos (by omega), rd_at hql, hc.1, Option.bind_some, if_neg (by omega), if_pos (by omega), hc.2, Option.bind_some, if_neg h2, if_neg (by simp), hq1]
        · rfl
      | true =>
        rcases Nat.eq_zero_or_pos i with h0 | h0
        · refine fin true (fun h => h) (fun k => ?_)
          split
          · rename_i hc
            conv => lhs; unfold quirelaw15_OrderStands.l3
            rw [if_pos (by omega), if_pos (by omega), rd33_at hm, if_pos (by omega), if_pos (by omega), rd_at hql, hc.1, Option.bind_some, if_neg (by omega), if_pos (by omega), hc.2, Option.bind_some, if_neg h2, if_pos rfl, if_pos (by omega), hq1]
          · rfl
        · refine fin (decide ((-1 : Int) < wrap64 ((i : Int) - 1))) (fun h => rfl) (fun k => ?_)
          split
          · rename_i hc
            conv => lhs; unfold quirelaw15_OrderStands.l3
            rw [if_pos (by omega), if_pos (by omega), rd33_at hm, if_pos (by omega), if_pos (by omega), rd_at hql, hc.1, Option.bind_some, if_neg (by omega), if_pos (by omega), hc.2, Option.bind_some, if_neg h2, if_pos rfl, if_neg (by omega), hq1]
          · rfl
    · have hjl := (List.getElem?_eq_some_iff.1 hj).1
      have hul : list[m].f1[q] ∈ l := List.mem_of_getElem? hj
      have htk : list[m].f1[q] ∈ l.take i := hbe.resolve_left (G.apart hul)
      have hji : j < i := by
        obtain ⟨j', hj', e⟩ := List.mem_take_iff_getElem.1 htk
        rcases Nat.lt_or_ge j' j with h | h
        · exact absurd (List.mem_take_iff_getElem.2 ⟨j', by omega, e⟩) hjm
        · omega
      obtain ⟨K1, g1⟩ := hv1
      have fin : ∀ b' : Bool, (b' = true → b = true ∧ (0 < i → j < i - 1)) → (∀ k, quirelaw15_OrderStands.l3 (k + 1) list hv l noName (i : Int) b (m : Int) (q : Int) = if quirelaw15_at.f k l list[m].f1[q] = some (j : Int) then quirelaw15_OrderStands.l3 k list hv l noName (i : Int) b' (m : Int) ((q + 1 : Nat) : Int) else quirelaw15_OrderStands.l3 (k + 1) list hv l noName (i : Int) b (m : Int) (q : Int)) → Ev (fun k => quirelaw15_OrderStands.l3 k list hv l noName (i : Int) b (m : Int) (q : Int)) true := fun b' hb' he => by
        obtain ⟨K3, g3⟩ := hsn b' (fun h => ⟨(hb' h).1, fun h0 => .inr (List.mem_take_iff_getElem.2 ⟨j, by have := (hb' h).2 h0; omega, (List.getElem?_eq_some_iff.1 hj).2⟩)⟩)
        refine ⟨K1 + K3 + 1, fun k hk => ?_⟩
        obtain ⟨k', rfl⟩ : ∃ k', k = k' + 1 := ⟨k - 1, by omega⟩
        dsimp only
        rw [he k', if_pos (g1 k' (by omega))]
        exact g3 k' (by omega)
      cases b with
      | false =>
        refine fin false (fun h => by cases h) (fun k => ?_)
        split
        · rename_i hc
          conv => lhs; unfold quirelaw15_OrderStands.l3
          rw [if_pos (by omega), if_pos (by omega), rd33_at hm, if_pos (by omega), if_pos (by omega), rd_at hql, hc, Option.bind_some, if_neg (by omega), if_neg (by omega), if_neg (by simp), hq1]
        · rfl
      | true =>
        rcases Nat.eq_zero_or_pos i with h0 | h0
        · omega
        · have hw : wrap64 ((i : Int) - 1) = (i : Int) - 1 := w64 (by omega) (by omega)
          refine fin (decide ((j : Int) < wrap64 ((i : Int) - 1))) (fun h => ⟨rfl, fun _ => by have := of_decide_eq_true h; omega⟩) (fun k => ?_)
          split
          · rename_i hc
            conv => lhs; unfold quirelaw15_OrderStands.l3
            rw [if_pos (by omega), if_pos (by omega), rd33_at hm, if_pos (by omega), if_pos (by omega), rd_at hql, hc, Option.bind_some, if_neg (by omega), if_neg (by omega), if_pos rfl, if_neg (by omega), hq1]
          · rfl

theorem l2_ev (i : Nat) (hi : i < l.length) (hnext : Ev (fun k => quirelaw15_OrderStands.l1 k list hv l noName ((i + 1 : Nat) : Int)) true) :
    ∀ n m : Nat, m + n = list.length → ∀ b : Bool, (b = true → 0 < i → ∀ v ∈ list.take m, v.f0 = l[i] → Rdy hv l i v.f1) → Ev (fun k => quirelaw15_OrderStands.l2 k list hv l noName (i : Int) b (m : Int)) true
  | 0, m, hm, b, hb => by
    have hi1 : wrap64 ((i : Int) + 1) = ((i + 1 : Nat) : Int) := by rw [w64 (by omega) (by omega)]; rfl
    refine Ev.step (fun k => ?_) hnext
    conv => lhs; unfold quirelaw15_OrderStands.l2
    rw [if_neg (by omega), hi1]
    rcases Nat.eq_zero_or_pos i with h0 | h0
    · rw [if_neg (by omega)]
    · rw [if_pos (by omega)]
      cases b with
      | false => rw [if_neg (by simp)]
      | true =>
        have hw : wrap64 ((i : Int) - 1) = ((i - 1 : Nat) : Int) := by rw [w64 (by omega) (by omega)]; omega
        have hlt : ltN l[i] l[i - 1] = false := by
          refine G.early (i := i - 1) (by rw [show i - 1 + 1 = i by omega]; exact List.getElem?_eq_getElem hi) (List.getElem?_eq_getElem (by omega)) (fun us hus u hu => ?_)
          rw [usesOf_mem hnd] at hus
          obtain ⟨v, hv1, he⟩ := List.mem_map.1 hus
          have e1 : v.f0 = l[i] := congrArg Prod.fst he
          have e2 : v.f1 = us := congrArg Prod.snd he
          refine hb rfl h0 v (by rwa [List.take_of_length_le (by omega)]) e1 u (by rw [e2]; exact hu)
        rw [if_pos rfl, if_pos (by omega), if_pos (by omega), hw, if_pos (by omega), if_pos (by omega), rd_at hi, rd_at (show i - 1 < l.length by omega), if_neg (by unfold ltN at hlt; rw [hlt]; simp)]
  | n + 1, m, hm, b, hb => by
    have hml : m < list.length := by omega
    have hm1 : wrap64 ((m : Int) + 1) = ((m + 1 : Nat) : Int) := by rw [w64 (by omega) (by omega)]; rfl
    have ih := l2_ev i hi hnext n (m + 1) (by omega)
    by_cases hx : list[m].f0 = l[i]
    · have h3 := l3_ev list want hv l hL hH hN hU hnd G i hi m hml hx (fun b' hb' => ih b' (fun h1 h0 v hv1 he => ?_)) list[m].f1.length 0 (by omega) b (fun _ _ u hu => by simp at hu)
      · refine Ev.step (fun k => ?_) h3
        conv => lhs; unfold quirelaw15_OrderStands.l2
        rw [if_pos (by omega), if_pos (by omega), if_pos (by omega), if_pos (by omega), rd33_at hml, rd_at hi, if_pos (by rw [hx])]
        rfl
      · rw [List.take_succ_eq_append_getElem hml, List.mem_append, List.mem_singleton] at hv1
        rcases hv1 with hv1 | rfl
        · obtain ⟨j, hj, e⟩ := List.mem_take_iff_getElem.1 hv1
          have h4 := List.pairwise_iff_getElem.1 hnd j m (by simp; omega) (by simp; omega) (by omega)
          simp only [List.getElem_map] at h4
          exact absurd (by rw [e, he, hx]) h4
        · exact hb' h1 h0
    · refine Ev.step (fun k => ?_) (ih b (fun h1 h0 v hv1 he => ?_))
      · conv => lhs; unfold quirelaw15_OrderStands.l2
        rw [if_pos (by omega), if_pos (by omega), if_pos (by omega), if_pos (by omega), rd33_at hml, rd_at hi, if_neg (fun h => hx (toList_eq.1 h)), hm1]
      · rw [List.take_succ_eq_append_getElem hml, List.mem_append, List.mem_singleton] at hv1
        rcases hv1 with hv1 | rfl
        · exact hb h1 h0 v hv1 he
        · exact absurd he hx

theorem l1_ev : ∀ n i : Nat, i + n = l.length → Ev (fun k => quirelaw15_OrderStands.l1 k list hv l noName (i : Int)) true
  | 0, i, hi => by
    refine Ev.step (f := fun _ => some true) (fun k => ?_) (Ev.now _)
    unfold quirelaw15_OrderStands.l1
    rw [if_neg (by omega), toList_data]
    rfl
  | n + 1, i, hi => by
    have hil : i < l.length := by omega
    obtain ⟨K4, g4⟩ := l2_ev list want hv l hL hH hN hU hnd G i hil (l1_ev n (i + 1) (by omega)) list.length 0 (by omega) true (fun _ _ v hv1 => by simp at hv1)
    obtain ⟨v, ⟨K1, g1⟩, hp⟩ := at_ev l l[i] (by omega)
    have hv := hp.at G.nodup (List.getElem?_eq_getElem hil)
    subst hv
    obtain ⟨v2, ⟨K2, g2⟩, hp2⟩ := at_ev hv l[i] (by omega)
    have h2 : v2 = -1 := by
      rcases hp2 with ⟨h, _⟩ | ⟨j, _, h, _⟩
      · exact h
      · exact absurd (List.mem_of_getElem? h) (G.apart (List.getElem_mem hil))
    subst h2
    refine ⟨K1 + K2 + K4 + 2, fun k hk => ?_⟩
    obtain ⟨k', rfl⟩ : ∃ k', k = k' + 2 := ⟨k - 2, by omega⟩
    have h1 := g1 (k' + 1) (by omega)
    have h2 := g2 (k' + 1) (by omega)
    dsimp only at h1 h2 ⊢
    unfold quirelaw15_OrderStands.l1
    rw [if_pos (by omega), if_pos (by omega), rd_at hil, h1, Option.bind_some, if_pos rfl, h2, Option.bind_some]
    unfold quirelaw15_OrderStands.j2
    rw [if_neg (by simp)]
    exact g4 k' (by omega)

theorem l0_ev : ∀ n i : Nat, i + n = want.length → want.length ≤ 3000000 → Ev (fun k => quirelaw15_OrderStands.l0 k list want hv l noName (i : Int)) true
  | 0, i, hi, hw => by
    refine Ev.step (fun k => ?_) (l1_ev list want hv l hL hH hN hU hnd G l.length 0 (by omega))
    conv => lhs; unfold quirelaw15_OrderStands.l0
    rw [if_neg (by omega)]
    rfl
  | n + 1, i, hi, hw => by
    have hil : i < want.length := by omega
    obtain ⟨K4, g4⟩ := l0_ev n (i + 1) (by omega) hw
    obtain ⟨v, ⟨K1, g1⟩, hp⟩ := at_ev l want[i] (by omega)
    obtain ⟨v2, ⟨K2, g2⟩, hp2⟩ := at_ev hv want[i] (by omega)
    have hi1 : wrap64 ((i : Int) + 1) = ((i + 1 : Nat) : Int) := by rw [w64 (by omega) (by omega)]; rfl
    refine ⟨K1 + K2 + K4 + 1, fun k hk => ?_⟩
    obtain ⟨k', rfl⟩ : ∃ k', k = k' + 1 := ⟨k - 1, by omega⟩
    have h1 := g1 k' (by omega)
    have h2 := g2 k' (by omega)
    have h4 := g4 k' (by omega)
    dsimp only at h1 h2 h4 ⊢
    unfold quirelaw15_OrderStands.l0
    rw [if_pos (by omega), if_pos (by omega), rd_at hil, h1, Option.bind_some]
    by_cases hv0 : v < 0
    · have h3 : ¬ v2 < 0 := by
        rcases hp with ⟨_, h⟩ | ⟨j, rfl, _, _⟩
        · rcases hp2 with ⟨_, h'⟩ | ⟨j, rfl, _, _⟩
          · rcases G.wanted (List.getElem_mem hil) with h5 | h5
            · exact absurd h5 h
            · exact absurd h5 h'
          · omega
        · omega
      rw [if_pos hv0, h2, Option.bind_some, if_neg h3, hi1]
      exact h4
    · rw [if_neg hv0, hi1]
      exact h4
end

theorem stands_pure (list : List S33) (want hv : List ByteArray) (hf : Fit (list.map conv) want hv) (hN : list.length ≤ 3000000) (hU : ∀ v ∈ list, v.f1.length ≤ 3000000) : Ev (fun k => quirelaw15_OrderStands.f k list want hv) true := by
  obtain ⟨l, m, e, hs⟩ := sorts_exists totN noName (netOf (list.map conv)) want hv
  have ho := order_Sort.of hf (r := (l, m, e)) hs
  have hw1 : quirelaw15_own.f want = some want := by
    unfold quirelaw15_own.f
    rw [Option.bind_some, if_pos (by have := hf.want_; simp; omega)]
    rfl
  have hw2 : quirelaw15_own.f hv = some hv := by
    unfold quirelaw15_own.f
    rw [Option.bind_some, if_pos (by have := hf.hv_; simp; omega)]
    rfl
  have hv1 : quirelaw15_vocabs.f list = some (list.map conv) := by
    unfold quirelaw15_vocabs.f
    rw [if_pos ⟨hN, hU⟩]
  have hfun : ∀ k, quirelaw15_OrderStands.f k list want hv = (if e = 0 then (quirelaw15_OrderStands.l0 k list want hv l m 0) else (if (l.length : Int) = 0 then (if e = 14 then (some true) else (if e = 6 then (some true) else (some (e == 15)))) else (some false))) := fun k => by
    unfold quirelaw15_OrderStands.f
    rw [awake_true, Option.bind_some, if_pos rfl, hv1, Option.bind_some, hw1, Option.bind_some, hw2, Option.bind_some, ho, Option.bind_some]
  cases hs with
  | twice m h => exact Ev.congr hfun (Ev.now _)
  | none_ m h0 h => exact Ev.congr hfun (Ev.now _)
  | cycle m h0 h1 h => exact Ev.congr hfun (Ev.now _)
  | ok l h0 h1 h2 h =>
    have htot := hf.tot_
    have hnd := (bads_nil h0).1
    rw [netOf_conv] at h hnd htot
    refine Ev.congr (fun k => (hfun k).trans (if_pos rfl)) ?_
    exact l0_ev list want hv l (order_length h hf.want_ htot) hf.hv_ hN hU hnd h want.length 0 (by omega) hf.want_
end Go.Proofs.Ytdllpgeagdckmaa.Q
