/- A set's names, sorted; a set, cloned: the library's contracts at this dump. -/
import Derived.Test.YtdllpgeagdckmaaShelf
import Derived.Test.YtdllpgeagdckmaaOKit
import Derived.Maps.Ext
import Derived.Sort.KeysCollected
namespace Go.Proofs.Ytdllpgeagdckmaa.Q
open Go.RowKit Go.Maps Go.Sort Go.Shelf Go.Proofs.YtdllpgeagdckmaaW.PrintWords Go.Proofs.Ytdllpgeagdckmaa.MapKit Go.Proofs.Ytdllpgeagdckmaa.Ord
set_option linter.unusedVariables false
set_option linter.unusedSimpArgs false

theorem sorts37 (m : Nat) : AnyZ.SortsIn Try.prog Try.sorted37_ren Fence.wide m :=
  ⟨fun blk off cap ss W hH hblk hsz => callsIn_wide.2 (AnyM.slices_Sort_string Try.sort30 blk off cap ss W hH hblk hsz),
   fun p cap W => callsIn_wide.2 (AnyM.slices_Sort_string_none Try.sort30 p cap W)⟩

/-- maps.Keys. -/
theorem keys_calls (mb : Option Nat) (W : World) : Calls Try.prog 38 #[.map mb] W fun e w' => e = .returned (.func (.func 45) #[] #[.pointer (some ⟨W.heap.size, 0, none⟩)]) ∧ w' = W.alloc (.cells #[.map mb] 69) :=
  (callsIn_wide (n := 5)).1 (AnyZ.keys_in Try.keys38 Fence.wide 5 trivial rfl mb W)

set_option maxHeartbeats 1000000 in
/-- slices.Sorted at what maps.Keys handed back. -/
theorem sorted_owns {H : Type} (b nn : Nat) (D0 : DataW H) (R : Value → Option (DataW H × List MemPlace)) (w : World) (hown : w.ownsMap Try.prog 9 R b nn D0) (hmax : Maps.size D0 ≤ maxLen) (hbytes : Maps.size D0 * 16 ≤ 140737488355328) :
    Calls Try.prog 37 #[.func (.func 45) #[] #[.pointer (some ⟨w.heap.size, 0, none⟩)]] (w.alloc (.cells #[.map (some b)] 69)) fun e w' => ∃ (v : Value) (ss : List (List UInt8)), e = .returned v ∧ ss.Perm (strKeys D0) ∧
      w'.ownsRow (w.alloc (.cells #[.map (some b)] 69)).heap.size 9 1 v ss.length ((ss.mergeSort (fun x y => decide (x ≤ y))).map encStr) ∧ (v = .slice none 0 0 ↔ ss = []) ∧ Below (w.alloc (.cells #[.map (some b)] 69)).heap.size (w.alloc (.cells #[.map (some b)] 69)) w' := by
  have hbl := hown.lt
  have hseq : SeqGives Fence.wide 2 Try.prog 45 #[.pointer (some ⟨w.heap.size, 0, none⟩)] encStr (fun ss => ss.Perm (strKeys D0)) (Maps.size D0) (w.alloc (.cells #[.map (some b)] 69)) :=
    AnyZ.keys_gives (ρ := Try.keys38_ren) { Try.keys38 with } Fence.wide _ trivial rfl (by omega) w.heap.size b nn D0 _ (by simp) (by simp) (by
      obtain ⟨es, clock, hb, Ft, hs, hD⟩ := hown
      exact ⟨es, clock, (Below.heap_alloc _ _ b hbl).trans hb, Ft, hs, hD⟩)
  exact (callsIn_wide (n := 5)).1 (AnyZ.sorted_in Try.sorted37 Fence.wide 5 trivial trivial trivial trivial rfl (by omega) (sorts37 _) (enters_of Try.func30 (by kernel_rfl) rfl) 45 #[.pointer (some ⟨w.heap.size, 0, none⟩)] trivial (enters_of Try.func45 (by kernel_rfl) rfl) _ _ hmax hbytes _ hseq)

def sortL (S : List ByteArray) : List (List UInt8) := (S.map (·.data.toList)).mergeSort leB
/-- The names of a list, rising. -/
def sortB (S : List ByteArray) : List ByteArray := (sortL S).map fun l => ⟨l.toArray⟩
theorem mem_sortB {S : List ByteArray} {x : ByteArray} : x ∈ sortB S ↔ x ∈ S := by
  unfold sortB sortL
  rw [List.mem_map]
  constructor
  · rintro ⟨l, hl, rfl⟩
    rw [List.mem_mergeSort, List.mem_map] at hl
    obtain ⟨s, hs, rfl⟩ := hl
    rwa [Array.toArray_toList]
  · intro h
    exact ⟨x.data.toList, by rw [List.mem_mergeSort, List.mem_map]; exact ⟨x, h, rfl⟩, by rw [Array.toArray_toList]⟩
theorem sortB_length (S : List ByteArray) : (sortB S).length = S.length := by simp [sortB, sortL]
theorem sortB_rising {S : List ByteArray} (h : S.Nodup) : (sortB S).Pairwise (fun a b => ltN a b = true) := by
  have tr : ∀ a b c : List UInt8, leB a b = true → leB b c = true → leB a c = true := fun a b c h1 h2 => by simp only [leB, decide_eq_true_eq] at *; exact List.le_trans h1 h2
  have tl : ∀ a b : List UInt8, (leB a b || leB b a) = true := fun a b => by simp only [leB, Bool.or_eq_true, decide_eq_true_eq]; exact List.le_total a b
  have h1 := List.pairwise_mergeSort tr tl (S.map (·.data.toList))
  have h2 : ((S.map (·.data.toList)).mergeSort leB).Nodup := (List.mergeSort_perm _ _).nodup_iff.2 (List.pairwise_map.2 (h.imp fun hne e => hne (bytes_ext e)))
  refine List.pairwise_map.2 ((h1.and h2).imp fun {a b} ⟨hle, hne⟩ => ?_)
  rw [ltN_iff]
  refine decide_eq_true ?_
  simp only [leB, decide_eq_true_eq] at hle
  rcases Classical.em (a < b) with hlt | hlt
  · simpa using hlt
  · exact absurd (List.le_antisymm hle (List.not_lt.1 hlt)) hne
theorem sortB_nodup {S : List ByteArray} (h : S.Nodup) : (sortB S).Nodup := (sortB_rising h).imp fun {a b} hl e => by rw [e, totN.irr] at hl; cases hl

/-- slices.Sorted(maps.Keys(set)). -/
theorem sorted_set (w : World) (g n : Nat) (S : List ByteArray) (h : SetIs w g n S) (hnd : S.Nodup) (hn : n ≤ 8000000) :
    Calls Try.prog 37 #[.func (.func 45) #[] #[.pointer (some ⟨w.heap.size, 0, none⟩)]] (w.alloc (.cells #[.map (some g)] 69)) fun e w' => ∃ v, e = .returned v ∧ SRow w' w.heap.size v (sortB S) ∧ Below w.heap.size w w' := by
  obtain ⟨D, ho, hD⟩ := h
  have hsz := ho.size_le
  refine (sorted_owns g n D _ w ho (by unfold maxLen; omega) (by omega)).mono ?_
  rintro e w' ⟨v, ss, rfl, hp, hr, _, hb⟩
  obtain ⟨es, hDe, hpw, _⟩ := ho.entries key9
  obtain ⟨es', hDe', hko⟩ := ho.keysOf
  obtain rfl : es = es' := by rw [hDe] at hDe'; simpa using hDe'
  have hperm : (S.map (·.data.toList)).Perm (strKeys D) := by
    subst hDe
    refine perm_strKeys hpw (fun p hp => by obtain ⟨v, hv⟩ := hko p hp; obtain ⟨x, _, hx, _⟩ := Maps.keyOf_str Try.underlying9 hv; exact ⟨x, hx⟩) (List.pairwise_map.2 (hnd.imp fun hne e => hne (bytes_ext e))) (fun x => ?_)
    rw [hD.2, keyB, ofStr, setB, List.mem_map]
    by_cases hx : (⟨x.toArray⟩ : ByteArray) ∈ S
    · simp only [hx, if_true, Option.isSome_some, iff_true]
      exact ⟨_, hx, rfl⟩
    · simp only [hx, if_false, Option.isSome_none, Bool.false_eq_true, iff_false]
      rintro ⟨s, hs, rfl⟩
      exact hx (by rwa [Array.toArray_toList])
  have hss : ss.mergeSort leB = sortL S := mergeSort_of_perm (hp.trans hperm.symm)
  have hlen : ss.length = (sortB S).length := by rw [sortB_length, (hp.trans hperm.symm).length_eq, List.length_map]
  refine ⟨v, rfl, ?_, (below_alloc (Below.refl _ _) _).trans (hb.mono (by simp))⟩
  have e1 : (ss.mergeSort (fun x y => decide (x ≤ y))).map encStr = (sortB S).map Value.string := by
    rw [show ss.mergeSort (fun x y => decide (x ≤ y)) = sortL S from hss, sortB, List.map_map]
    rfl
  rw [e1, hlen] at hr
  exact own_weaken hr (by simp)

/-- maps.Clone(set). -/
theorem clone_set (w : World) (g n : Nat) (S : List ByteArray) (h : SetIs w g n S) :
    Calls Try.prog 39 #[.map (some g)] w fun e w' => e = .returned (.map (some w.heap.size)) ∧ SetIs w' w.heap.size n S ∧ Below w.heap.size w w' := by
  obtain ⟨D, ho, hD⟩ := h
  exact (AnyW.maps_Clone_owns Try.clone39 9 _ g n D w ho).mono fun e w' ⟨he, h1, _, hb⟩ => ⟨he, ⟨D, h1, hD⟩, hb⟩

theorem plain_of_cell {w : World} {a : Addr} {v : Value} (h : w.cell? a = some v) : a = ⟨a.block, a.off, none⟩ := by
  obtain ⟨b, o, s⟩ := a
  cases s with
  | none => rfl
  | some s =>
    unfold World.cell? at h
    simp only [Option.isSome_some, if_true] at h
    split at h <;> cases h

theorem names_cells {w : World} {A : Option Addr} {xs : List ByteArray} (h : Kd.string.C w A xs.length xs) (hn : 0 < xs.length) : ∃ b off, A = some ⟨b, off, none⟩ ∧ ∀ j, j < xs.length → w.cell? ⟨b, off + j, none⟩ = some (.string (xs.getD j ByteArray.empty)) := by
  obtain ⟨ad, rfl, hc⟩ := h.2.2 hn
  have hcell : ∀ j, j < xs.length → w.cell? (ad.add j) = some (.string (xs.getD j ByteArray.empty)) := fun j hj => by
    obtain ⟨c, hl, hR, hu⟩ := hc j _ (List.getElem?_eq_getElem hj)
    have hsz : Kd.string.sz = 1 := rfl
    have hR' : c = [.string xs[j]] := hR
    subst hR'
    have := hu 0 _ rfl
    rw [hsz, Nat.mul_one, Nat.add_zero] at this
    rw [this, List.getD_eq_getElem?_getD, List.getElem?_eq_getElem hj, Option.getD_some]
  have h0 := hcell 0 hn
  have e0 : ad.add 0 = ad := by simp [Addr.add]
  rw [e0] at h0
  have hp := plain_of_cell h0
  refine ⟨ad.block, ad.off, by rw [← hp], fun j hj => ?_⟩
  have := hcell j hj
  rw [hp] at this
  unfold Addr.add at this
  split at this
  · rename_i hj0
    subst hj0
    exact this
  · exact this

/-- slices.Clone of names. -/
theorem clone_names (w : World) (A : Option Addr) (c : Nat) (xs : List ByteArray) (h : Kd.string.C w A xs.length xs) (hl : xs.length ≤ 3000000) :
    Calls Try.prog 36 #[.slice A xs.length c] w fun e w' => ∃ v, e = .returned v ∧ SRow w' w.heap.size v xs ∧ Below w.heap.size w w' := by
  rcases Nat.eq_zero_or_pos xs.length with h0 | h0
  · obtain rfl := List.eq_nil_of_length_eq_zero h0
    cases A with
    | none => exact (Try.slices_Clone_string_nil 0 c w).mono fun e w' ⟨he, hw⟩ => ⟨_, he, SRow.nil _ _, by rw [hw]; exact Below.refl _ _⟩
    | some ad => exact (Try.slices_Clone_string_zero ad c w).mono fun e w' ⟨v, he, ho, _, hb⟩ => ⟨v, he, ho, hb⟩
  · obtain ⟨b, off, rfl, hc⟩ := names_cells h h0
    refine (Try.slices_Clone_string b off xs.length c xs w (Nat.le_refl _) (by omega) hc).mono ?_
    rintro e w' ⟨v, rfl, ho, _, hb⟩
    rw [List.take_length] at ho
    exact ⟨v, rfl, ho, hb⟩

theorem minS_mn (x y : ByteArray) : Lib.minS x y = mnO ltN x y := by
  unfold Lib.minS mnO
  rw [ltN_iff]
  by_cases h1 : y.data.toList < x.data.toList
  · have h2 : ¬ x.data.toList < y.data.toList := fun h => List.lt_irrefl _ (List.lt_trans h h1)
    have h3 : ¬ x.data.toList = y.data.toList := fun h => List.lt_irrefl _ (by rw [h] at h1; exact h1)
    rw [if_neg (by rintro (h | h); exact h2 h; exact h3 h), if_pos (decide_eq_true h1)]
  · have h2 : x.data.toList < y.data.toList ∨ x.data.toList = y.data.toList := by
      rcases Classical.em (x.data.toList < y.data.toList) with h | h
      · exact .inl h
      · exact .inr (List.le_antisymm (List.not_lt.1 h1) (List.not_lt.1 h))
    rw [if_pos h2, if_neg (by simpa using h1)]
theorem foldl_leastO : ∀ (xs : List ByteArray) (a : ByteArray), xs.foldl Lib.minS a = leastO ltN a xs
  | [], a => rfl
  | x :: xs, a => by rw [List.foldl_cons, foldl_leastO xs, leastO, minS_mn]
theorem minOf_is (xs : List ByteArray) (a : ByteArray) : IsLeast ltN (· ∈ a :: xs) (Lib.minOfS (a :: xs)) := by
  have e : Lib.minOfS (a :: xs) = leastO ltN a xs := by
    unfold Lib.minOfS
    rw [List.foldl_cons, List.headD_cons, minS_mn, foldl_leastO]
    congr 1
    unfold mnO
    rw [totN.irr]
    rfl
  rw [e]
  exact leastO_is totN xs a

/-- slices.Min of names. -/
theorem min_names (w : World) (A : Option Addr) (c : Nat) (xs : List ByteArray) (h : Kd.string.C w A xs.length xs) (hl : xs.length ≤ 9000000) (hn : 0 < xs.length) :
    Calls Try.prog 20 #[.slice A xs.length c] w fun e w' => ∃ m, e = .returned (.string m) ∧ IsLeast ltN (· ∈ xs) m ∧ w = w' := by
  obtain ⟨b, off, rfl, hc⟩ := names_cells h hn
  refine (Try.slices_Min_string b off xs.length c xs w hn (Nat.le_refl _) (by omega) hc).mono ?_
  rintro e w' ⟨rfl, rfl⟩
  rw [List.take_length]
  cases xs with
  | nil => simp at hn
  | cons x xs => exact ⟨_, rfl, minOf_is xs x, rfl⟩
end Go.Proofs.Ytdllpgeagdckmaa.Q
