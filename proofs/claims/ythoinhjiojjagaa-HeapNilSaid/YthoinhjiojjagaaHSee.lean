/- What reached's closure does: a word is looked at, and its address put into the list if it is new. -/
import Derived.Test.YthoinhjiojjagaaHAwake
namespace Go.Proofs.Ythoinhjiojjagaa.Hp
open Go.RowKit Go.Proofs.YthoinhjiojjagaaW.PrintWords Go.Proofs.YthoinhjiojjagaaW.PrintLast Go.Proofs.YthoinhjiojjagaaW.PrintMore Go.Proofs.Ythoinhjiojjagaa.MapKit Go.Maps
attribute [local go_sem] max2_int min2_int max_two min_two max_three min_three max_four min_four
set_option linter.unusedVariables false
set_option linter.unusedSimpArgs false

/-- An address's place in the list. -/
def idx (xs : List Int) (a : Int) : Option Value := if a ∈ xs then some (.int .i64 (xs.idxOf a : Nat)) else none

structure SeenAt (w : World) (base bm bl g : Nat) (xs : List Int) : Prop where
  mb : w.heap[bm]? = some (.cells #[.map (some g)] 97 (0, 0))
  lst : ∃ v, w.heap[bl]? = some (.cells #[v] 91 (0, 0)) ∧ w.ownsRow base 31 1 v xs.length (xs.map (Value.int .u64))
  mp : MapIs Try.prog 31 w g xs.length (ofInt .u64 (idx xs))
  bm_ : base ≤ bm
  bl_ : base ≤ bl
  g_ : base ≤ g

theorem key31 : Keyed Try.prog 31 := int_keyed Try.underlying31
theorem zero3 (w : World) : (zeroValue 3).run Try.prog w = .ok (.int .i64 0) w := by kernel_rfl
theorem info31 : (Try.prog.info? 31).map (fun i => (i.zero, i.size, i.bytes)) = some (some (.int .u64 0), 1, 8) := by kernel_rfl

theorem idx_snoc (xs : List Int) (a : Int) (ha : a ∉ xs) : (fun y => if y = a then some (Value.int .i64 (xs.length : Nat)) else idx xs y) = idx (xs ++ [a]) := by
  funext y
  unfold idx
  by_cases hy : y = a
  · subst hy
    simp only [if_true, List.mem_append, List.mem_singleton, or_true]
    rw [List.idxOf_append, if_neg ha]
    simp
  · simp only [hy, if_false, List.mem_append, List.mem_singleton, or_false]
    by_cases hx : y ∈ xs
    · simp only [hx, if_true]
      rw [List.idxOf_append, if_pos hx]
    · simp [hx]

theorem SeenAt.below {w w' : World} {base bm bl g : Nat} {xs : List Int} (h : SeenAt w base bm bl g xs) (hb : Below w.heap.size w w') : SeenAt w' base bm bl g xs :=
  ⟨blk_below h.mb hb, by
    obtain ⟨v, h1, h2⟩ := h.lst
    exact ⟨v, blk_below h1 hb, pw_own_below h2 hb⟩, h.mp.below hb, h.bm_, h.bl_, h.g_⟩

set_option maxHeartbeats 1000000 in
set_option maxRecDepth 100000 in
theorem see_old (w : World) (base bm bl g : Nat) (xs : List Int) (r : Bool) (a : Int) (h : SeenAt w base bm bl g xs) (hwf : (Lit.int .u64 a).wf = true) (hbase : base ≤ w.heap.size) (hn : xs.length ≤ 1000000) (hold : r = false ∨ a ∈ xs) :
    Calls Try.prog 62 #[.agg #[.bool r, .int .u64 a], .pointer (some ⟨bm, 0, none⟩), .pointer (some ⟨bl, 0, none⟩)] w fun e w' => e = .returned (.tuple #[]) ∧ SeenAt w' base bm bl g xs ∧ Below base w w' := by
  by_cases hm : a ∈ xs
  · have hi : ofInt .u64 (idx xs) (.int .u64 a) = some (.int .i64 (xs.idxOf a : Nat)) := by simp [ofInt, idx, hm]
    have HI := Aside0.mk hi
    clear hi hold hm
    cases r with
    | true =>
      have H := Aside0.mk h
      have HWF := Aside0.mk hwf
      have HN := Aside0.mk hn
      clear h hwf hn
      go_enter Try.func62, Try.ntmps62
      go_upto_region 1 with fail
      have hB1 : Below w.heap.size w (w.alloc (.cells #[.bool true, .int .u64 a] 76)) := below_alloc (Below.refl _ _) _
      have hX1 : (w.alloc (.cells #[.bool true, .int .u64 a] 76)).heap[w.heap.size]? = some (.cells #[.bool true, .int .u64 a] 76 (0, 0)) := heap_alloc_new w _
      generalize w.alloc (.cells #[.bool true, .int .u64 a] 76) = w1 at *
      have HB1 := Aside0.mk hB1
      have H1 := Aside0.mk (H.out.below hB1)
      have hbs1 : base ≤ w1.heap.size := Nat.le_trans hbase hB1.size
      have x0 : w1.cell? ⟨w.heap.size, 0, none⟩ = some (.bool true) := by simp [World.cell?, hX1]
      have x1 : w1.cell? ⟨w.heap.size, 1, none⟩ = some (.int .u64 a) := by simp [World.cell?, hX1]
      have m0 : w1.cell? ⟨bm, 0, none⟩ = some (.map (some g)) := (blk_cell H1.out.mb 0).trans rfl
      have HX1 := Aside0.mk hX1
      clear hB1 hX1
      obtain ⟨v, hl, ho⟩ := H1.out.lst
      obtain ⟨Av, cv, rfl⟩ := own_slice ho
      have l0 : w1.cell? ⟨bl, 0, none⟩ = some (.slice Av xs.length cv) := (blk_cell hl 0).trans rfl
      have HL := Aside0.mk hl
      have HO := Aside0.mk ho
      clear hl ho
      go_wp2_with (at_lookup; refine wpList_look_ok rfl _ _ 97 rfl 3 key31 Try.underlying97 (zero3 _) rfl H1.out.mp _ _ rfl (keyOf_int_mk Try.underlying31 HWF.out) ?_; rw [HI.out])
      exact bodyPost_end (results_none rfl _ _ _) rfl ⟨rfl, H1.out, HB1.out.mono hbase⟩
    | false =>
      have H := Aside0.mk h
      have HWF := Aside0.mk hwf
      have HN := Aside0.mk hn
      clear h hwf hn
      go_enter Try.func62, Try.ntmps62
      go_upto_region 1 with fail
      have hB1 : Below w.heap.size w (w.alloc (.cells #[.bool false, .int .u64 a] 76)) := below_alloc (Below.refl _ _) _
      have hX1 : (w.alloc (.cells #[.bool false, .int .u64 a] 76)).heap[w.heap.size]? = some (.cells #[.bool false, .int .u64 a] 76 (0, 0)) := heap_alloc_new w _
      generalize w.alloc (.cells #[.bool false, .int .u64 a] 76) = w1 at *
      have HB1 := Aside0.mk hB1
      have H1 := Aside0.mk (H.out.below hB1)
      have hbs1 : base ≤ w1.heap.size := Nat.le_trans hbase hB1.size
      have x0 : w1.cell? ⟨w.heap.size, 0, none⟩ = some (.bool false) := by simp [World.cell?, hX1]
      have x1 : w1.cell? ⟨w.heap.size, 1, none⟩ = some (.int .u64 a) := by simp [World.cell?, hX1]
      have m0 : w1.cell? ⟨bm, 0, none⟩ = some (.map (some g)) := (blk_cell H1.out.mb 0).trans rfl
      have HX1 := Aside0.mk hX1
      clear hB1 hX1
      obtain ⟨v, hl, ho⟩ := H1.out.lst
      obtain ⟨Av, cv, rfl⟩ := own_slice ho
      have l0 : w1.cell? ⟨bl, 0, none⟩ = some (.slice Av xs.length cv) := (blk_cell hl 0).trans rfl
      have HL := Aside0.mk hl
      have HO := Aside0.mk ho
      clear hl ho
      go_wp2_with (at_lookup; refine wpList_look_ok rfl _ _ 97 rfl 3 key31 Try.underlying97 (zero3 _) rfl H1.out.mp _ _ rfl (keyOf_int_mk Try.underlying31 HWF.out) ?_; rw [HI.out])
      exact bodyPost_end (results_none rfl _ _ _) rfl ⟨rfl, H1.out, HB1.out.mono hbase⟩
  · obtain rfl : r = false := hold.resolve_right hm
    have hi : ofInt .u64 (idx xs) (.int .u64 a) = none := by simp [ofInt, idx, hm]
    have HI := Aside0.mk hi
    clear hi hold hm
    have H := Aside0.mk h
    have HWF := Aside0.mk hwf
    have HN := Aside0.mk hn
    clear h hwf hn
    go_enter Try.func62, Try.ntmps62
    go_upto_region 1 with fail
    have hB1 : Below w.heap.size w (w.alloc (.cells #[.bool false, .int .u64 a] 76)) := below_alloc (Below.refl _ _) _
    have hX1 : (w.alloc (.cells #[.bool false, .int .u64 a] 76)).heap[w.heap.size]? = some (.cells #[.bool false, .int .u64 a] 76 (0, 0)) := heap_alloc_new w _
    generalize w.alloc (.cells #[.bool false, .int .u64 a] 76) = w1 at *
    have HB1 := Aside0.mk hB1
    have H1 := Aside0.mk (H.out.below hB1)
    have hbs1 : base ≤ w1.heap.size := Nat.le_trans hbase hB1.size
    have x0 : w1.cell? ⟨w.heap.size, 0, none⟩ = some (.bool false) := by simp [World.cell?, hX1]
    have x1 : w1.cell? ⟨w.heap.size, 1, none⟩ = some (.int .u64 a) := by simp [World.cell?, hX1]
    have m0 : w1.cell? ⟨bm, 0, none⟩ = some (.map (some g)) := (blk_cell H1.out.mb 0).trans rfl
    have HX1 := Aside0.mk hX1
    clear hB1 hX1
    obtain ⟨v, hl, ho⟩ := H1.out.lst
    obtain ⟨Av, cv, rfl⟩ := own_slice ho
    have l0 : w1.cell? ⟨bl, 0, none⟩ = some (.slice Av xs.length cv) := (blk_cell hl 0).trans rfl
    have HL := Aside0.mk hl
    have HO := Aside0.mk ho
    clear hl ho
    go_wp2_with (at_lookup; refine wpList_look_ok rfl _ _ 97 rfl 3 key31 Try.underlying97 (zero3 _) rfl H1.out.mp _ _ rfl (keyOf_int_mk Try.underlying31 HWF.out) ?_; rw [HI.out])
    exact bodyPost_end (results_none rfl _ _ _) rfl ⟨rfl, H1.out, HB1.out.mono hbase⟩

/-- Behind the map's store. -/
theorem see_put {w1 w2 : World} {base bm bl g bx : Nat} {xs : List Int} {a : Int} {Av : Option Addr} {cv : Nat} {r : Bool} (h : SeenAt w1 base bm bl g xs) (hl : w1.heap[bl]? = some (.cells #[.slice Av xs.length cv] 91 (0, 0))) (ho : w1.ownsRow base 31 1 (.slice Av xs.length cv) xs.length (xs.map (Value.int .u64)))
    (hx : w1.heap[bx]? = some (.cells #[.bool r, .int .u64 a] 76 (0, 0))) (hm : a ∉ xs) (hm2 : MapIs Try.prog 31 w2 g (xs.length + 1) (upd (ofInt .u64 (idx xs)) (.int .u64 a) (some (.int .i64 (xs.length : Nat))))) (hg2 : w1.grownBy w2 (some g)) :
    Aside0 ((w2.heap[bm]? = some (.cells #[.map (some g)] 97 (0, 0)) ∧ MapIs Try.prog 31 w2 g (xs.length + 1) (ofInt .u64 (idx (xs ++ [a])))) ∧ w2.heap[bl]? = some (.cells #[.slice Av xs.length cv] 91 (0, 0)) ∧ w2.ownsRow base 31 1 (.slice Av xs.length cv) xs.length (xs.map (Value.int .u64)) ∧ w1.grownBy w2 (some g)) ∧
      w2.cell? ⟨bl, 0, none⟩ = some (.slice Av xs.length cv) ∧ w2.frozen? ⟨bl, 0, none⟩ = false ∧ w2.cell? ⟨bx, 1, none⟩ = some (.int .u64 a) := by
  obtain ⟨D, ⟨es, clock, hgm, _⟩, _⟩ := h.mp
  have hne : ∀ {b : Nat} {cs : Array Value} {t : TypeId} {fr : Nat × Nat}, w1.heap[b]? = some (.cells cs t fr) → b ≠ g := fun hb e => by
    rw [e, hgm] at hb
    cases hb
  have hl2 := blk_grown hl hg2 (fun e => hne hl (Option.some.inj e))
  have hx2 := blk_grown hx hg2 (fun e => hne hx (Option.some.inj e))
  refine ⟨⟨⟨blk_grown h.mb hg2 (fun e => hne h.mb (Option.some.inj e)), ?_⟩, hl2, own_other ho hg2 ?_, hg2⟩, (blk_cell hl2 0).trans rfl, blk_frozen hl2 0, (blk_cell hx2 1).trans rfl⟩
  · rw [← idx_snoc xs a hm, ← upd_int]
    exact hm2
  · refine .inr fun e => ?_
    obtain ⟨cs, hc⟩ := own_typed ho g e
    rw [hgm] at hc
    cases hc
/-- Behind the append. -/
theorem see_far {w2 w3 : World} {base bl : Nat} {o : Obj} {v u : Value} {n : Nat} {cs : List Value} (hl : w2.heap[bl]? = some (.cells #[u] 91 (0, 0))) (hg : (w2.alloc o).grownBy w3 v.ownBlock) (ho : (w2.alloc o).ownsRow base 31 1 v n cs) : w3.cell? ⟨bl, 0, none⟩ = some u ∧ w3.frozen? ⟨bl, 0, none⟩ = false := by
  have h1 := blk_alloc hl o
  have hne : some bl ≠ v.ownBlock := fun e => by
    obtain ⟨c, hc⟩ := own_typed ho bl e.symm
    rw [h1] at hc
    simp at hc
  have h3 := blk_grown h1 hg hne
  exact ⟨(blk_cell h3 0).trans rfl, blk_frozen h3 0⟩

theorem see_end {w w1 w2 w3 : World} {base bm bl g gg cap : Nat} {xs : List Int} {a : Int} {v : Value} {o : Obj} (hbase : base ≤ w.heap.size) (h : SeenAt w base bm bl g xs) (hb1 : Below w.heap.size w w1) (hm2 : w2.heap[bm]? = some (.cells #[.map (some g)] 97 (0, 0))) (hp2 : MapIs Try.prog 31 w2 g (xs.length + 1) (ofInt .u64 (idx (xs ++ [a]))))
    (hl2 : w2.heap[bl]? = some (.cells #[v] 91 (0, 0))) (ho2 : w2.ownsRow base 31 1 v xs.length (xs.map (Value.int .u64))) (hg2 : w1.grownBy w2 (some g)) (ho3 : w3.ownsRow base 31 1 (.slice (some ⟨gg, 0, none⟩) (xs.length + 1) cap) (xs.length + 1) (xs.map (Value.int .u64) ++ [.int .u64 a])) (hg3 : (w2.alloc o).grownBy w3 v.ownBlock) (hat : v.ownBlock = some gg ∨ gg = (w2.alloc o).heap.size) :
    SeenAt (w3.setCell ⟨bl, 0, none⟩ (.slice (some ⟨gg, 0, none⟩) (xs.length + 1) cap)) base bm bl g (xs ++ [a]) ∧ Below base w (w3.setCell ⟨bl, 0, none⟩ (.slice (some ⟨gg, 0, none⟩) (xs.length + 1) cap)) := by
  have hne : ∀ {b t : Nat} {cs : Array Value}, w2.heap[b]? = some (.cells cs t (0, 0)) → t ≠ 31 → some b ≠ v.ownBlock := fun hb ht e => by
    obtain ⟨c, hc⟩ := own_typed ho2 _ e.symm
    rw [hb] at hc
    simp at hc
    exact ht hc.2
  have hbl3 : w3.heap[bl]? = some (.cells #[v] 91 (0, 0)) := blk_grown (blk_alloc hl2 o) hg3 (hne hl2 (by decide))
  have hmne : bm ≠ bl := blk_ne hm2 hl2 (by decide)
  have hgne : bl ≠ gg := fun e => by
    obtain ⟨c, hc⟩ := own_typed ho3 gg rfl
    rw [← e, hbl3] at hc
    simp at hc
  obtain ⟨D, ⟨es, clock, hgm, hr⟩, hh⟩ := hp2
  have hgl : g ≠ bl := fun e => by
    rw [e, hl2] at hgm
    cases hgm
  have hgv : some g ≠ v.ownBlock := fun e => by
    obtain ⟨c, hc⟩ := own_typed ho2 _ e.symm
    rw [hgm] at hc
    cases hc
  have hgm3 := blk_grown (blk_alloc hgm o) hg3 hgv
  refine ⟨⟨?_, ⟨_, blk_put (cs := #[v]) hbl3 0 _ rfl, ?_⟩, ?_, h.bm_, h.bl_, h.g_⟩, ?_⟩
  · exact blk_far (blk_grown (blk_alloc hm2 o) hg3 (hne hm2 (by decide))) hmne _
  · have := own_setCell ho3 (p := ⟨bl, 0, none⟩) (fun e => hgne (by simpa [Value.ownBlock] using e)) (.slice (some ⟨gg, 0, none⟩) (xs.length + 1) cap)
    simpa using this
  · refine ⟨D, ⟨es, clock, ?_, ?_⟩, hh⟩
    · exact (Below.heap_setCell _ _ _ _ hgl).trans hgm3
    · simpa using hr
  · have k1 : Below base w w1 := hb1.mono hbase
    have s1 := hb1.size
    have k2 : Below base w w2 := pw_below_grown k1 _ (Nat.le_trans hbase s1) hg2 (fun k e => by cases e; exact h.g_)
    have s2 := hg2.size
    have k3 : Below base w (w2.alloc o) := k2.alloc (by omega) o
    have k4 : Below base w w3 := pw_below_grown k3 _ (by simp; omega) hg3 (own_base ho2)
    exact k4.setCell h.bl_ _

set_option maxHeartbeats 1000000 in
set_option maxRecDepth 100000 in
theorem see_new (w : World) (base bm bl g : Nat) (xs : List Int) (a : Int) (h : SeenAt w base bm bl g xs) (hwf : (Lit.int .u64 a).wf = true) (hbase : base ≤ w.heap.size) (hn : xs.length ≤ 1000000) (hm : a ∉ xs) :
    Calls Try.prog 62 #[.agg #[.bool true, .int .u64 a], .pointer (some ⟨bm, 0, none⟩), .pointer (some ⟨bl, 0, none⟩)] w fun e w' => e = .returned (.tuple #[]) ∧ SeenAt w' base bm bl g (xs ++ [a]) ∧ Below base w w' := by
  have hi : ofInt .u64 (idx xs) (.int .u64 a) = none := by simp [ofInt, idx, hm]
  have HI := Aside0.mk hi
  have HM := Aside0.mk hm
  clear hi hm
  have H := Aside0.mk h
  have HWF := Aside0.mk hwf
  have HN := Aside0.mk hn
  clear h hwf hn
  go_enter Try.func62, Try.ntmps62
  go_upto_region 1 with fail
  have hB1 : Below w.heap.size w (w.alloc (.cells #[.bool true, .int .u64 a] 76)) := below_alloc (Below.refl _ _) _
  have hX1 : (w.alloc (.cells #[.bool true, .int .u64 a] 76)).heap[w.heap.size]? = some (.cells #[.bool true, .int .u64 a] 76 (0, 0)) := heap_alloc_new w _
  generalize w.alloc (.cells #[.bool true, .int .u64 a] 76) = w1 at *
  have HB1 := Aside0.mk hB1
  have H1 := Aside0.mk (H.out.below hB1)
  have hbs1 : base ≤ w1.heap.size := Nat.le_trans hbase hB1.size
  have x0 : w1.cell? ⟨w.heap.size, 0, none⟩ = some (.bool true) := by simp [World.cell?, hX1]
  have x1 : w1.cell? ⟨w.heap.size, 1, none⟩ = some (.int .u64 a) := by simp [World.cell?, hX1]
  have m0 : w1.cell? ⟨bm, 0, none⟩ = some (.map (some g)) := (blk_cell H1.out.mb 0).trans rfl
  have HX1 := Aside0.mk hX1
  clear hB1 hX1
  obtain ⟨v, hl, ho⟩ := H1.out.lst
  obtain ⟨Av, cv, rfl⟩ := own_slice ho
  have l0 : w1.cell? ⟨bl, 0, none⟩ = some (.slice Av xs.length cv) := (blk_cell hl 0).trans rfl
  have HL := Aside0.mk hl
  have HO := Aside0.mk ho
  clear hl ho
  obtain ⟨i0, hi, hzz⟩ := Option.map_eq_some_iff.1 info31
  simp only [Prod.mk.injEq] at hzz
  obtain ⟨hz0, hz1, hz2⟩ := hzz
  have hmx : xs.length + 1 ≤ maxLen := by
    have := HN.out
    unfold maxLen
    omega
  have hby : (xs.length + 1) * 8 ≤ 140737488355328 := by
    have := HN.out
    omega
  have HMX := Aside0.mk hmx
  have HBY := Aside0.mk hby
  clear hmx hby
  go_wp2_with (first | (at_lookup; refine wpList_look_ok rfl _ _ 97 rfl 3 key31 Try.underlying97 (zero3 _) rfl H1.out.mp _ _ rfl (keyOf_int_mk Try.underlying31 HWF.out) ?_; rw [HI.out]) | (at_mapUpdate; refine wpList_put rfl _ _ _ 97 rfl 3 key31 Try.underlying97 rfl H1.out.mp (by have := HN.out; unfold maxLen; omega) _ _ (key_int _ _) (.int .i64 (xs.length : Nat)) rfl rfl (keyOf_int_mk Try.underlying31 HWF.out) ?_; intro w2 hm2 hg2; obtain ⟨H2, l2, f2, x12⟩ := see_put H1.out HL.out HO.out HX1.out HM.out hm2 hg2; clear hm2 hg2) | ((with_reducible refine gate_builtin (b := .append) (xs := #[.tmp 24, .tmp 27]) rfl ?_); refine wpList_append_lies _ rfl (.tmp 24) (.tmp 27) 91 rfl base 31 i0 (.int .u64 0) 1 8 Try.underlying91 hi hz0 hz1 hz2 rfl (by decide) (.slice Av xs.length cv) xs.length (xs.map (Value.int .u64)) rfl (pw_own_below H2.out.2.2.1 (below_alloc (Below.refl _ _) _)) ⟨w2.heap.size, 0, none⟩ 1 1 [.int .u64 a] rfl rfl (World.news_of_block (cs := #[.int .u64 a]) (t := 31) (fr := (0, 0)) (heap_alloc_new w2 _)) (by intro u hu; rw [List.mem_singleton.1 hu]; rfl) (by decide) HMX.out HBY.out ?hbase _ rfl ?_; (case hbase => exact Nat.le_trans hbs1 (Nat.le_trans H2.out.2.2.2.size (by simp))); intro gg cap w3 ho hg hat hlt; have HO3 := Aside0.mk ho; have HG3 := Aside0.mk hg; have HAT := Aside0.mk hat; obtain ⟨l3, f3⟩ := see_far H2.out.2.1 hg (pw_own_below H2.out.2.2.1 (below_alloc (Below.refl _ _) _)); clear ho hg hat hlt))
  refine bodyPost_end (results_none rfl _ _ _) rfl ⟨rfl, ?_⟩
  exact see_end hbase H.out HB1.out H2.out.1.1 H2.out.1.2 H2.out.2.1 H2.out.2.2.1 H2.out.2.2.2 HO3.out HG3.out HAT.out
end Go.Proofs.Ythoinhjiojjagaa.Hp
