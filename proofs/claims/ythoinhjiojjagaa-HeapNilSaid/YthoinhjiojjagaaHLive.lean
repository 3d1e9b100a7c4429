/- What is reached in the heap that awake makes, and how many words are live. -/
import Derived.Test.YthoinhjiojjagaaHObj
namespace Go.Proofs.Ythoinhjiojjagaa.Hp
open Go.RowKit Go.Proofs.YthoinhjiojjagaaW.PrintWords Go.Proofs.YthoinhjiojjagaaW.PrintLast Go.Proofs.YthoinhjiojjagaaW.PrintMore Go.Proofs.Ythoinhjiojjagaa.MapKit Go.Maps
attribute [local go_sem] max2_int min2_int max_two min_two max_three min_three max_four min_four
set_option linter.unusedVariables false
set_option linter.unusedSimpArgs false

theorem row_cell {w : World} {base E b cap n m : Nat} {xs : List Value} {u : Value} {j : Nat} (h : w.ownsRow base E 1 (.slice (some ⟨b, 0, none⟩) m cap) n xs) (hu : xs[j]? = some u) : w.cell? ⟨b, j, none⟩ = some u := by
  have := h.cells (g := b) rfl j u hu
  rwa [add_plain] at this

theorem WRow.cells {w : World} {base g n c : Nat} {xs : List (Bool × Int)} (h : WRow w base (.slice (some ⟨g, 0, none⟩) n c) xs) (j : Nat) (u : Value) (hj : (cellsOf xs)[j]? = some u) : w.cell? ⟨g, j, none⟩ = some u := by
  have := World.ownsRow.cells h (g := g) rfl j u hj
  rwa [add_plain] at this
theorem WRow.form {w : World} {base : Nat} {v : Value} {xs : List (Bool × Int)} (h : WRow w base v xs) (hn : 0 < xs.length) : ∃ g c, v = .slice (some ⟨g, 0, none⟩) xs.length c ∧ xs.length ≤ c ∧ c ≤ maxLen := by
  rcases h.2 with ⟨_, h0⟩ | ⟨g, cap, cur, rfl, hb, hg, h1, h2, _⟩
  · omega
  · exact ⟨g, cap, rfl, h1, h2⟩

theorem see_new' (w0 w : World) (base bm bl g : Nat) (xs : List Int) (a : Int) (h : SeenAt w base bm bl g xs) (hwf : (Lit.int .u64 a).wf = true) (hbase : base ≤ w.heap.size) (hn : xs.length ≤ 1000000) (hm : a ∉ xs) (hb : Below base w0 w) :
    Calls Try.prog 62 #[.agg #[.bool true, .int .u64 a], .pointer (some ⟨bm, 0, none⟩), .pointer (some ⟨bl, 0, none⟩)] (w.alloc (.cells #[.bool true, .int .u64 a] 76)) fun e w' => e = .returned (.tuple #[]) ∧ SeenAt w' base bm bl g (xs ++ [a]) ∧ Below base w0 w' :=
  (see_new (w.alloc (.cells #[.bool true, .int .u64 a] 76)) base bm bl g xs a (h.below (below_alloc (Below.refl _ _) _)) hwf (by simp; omega) hn hm).mono fun e w' ⟨he, hs, hb'⟩ => ⟨he, hs, (hb.alloc hbase _).trans hb'⟩
theorem see_old' (w0 w : World) (base bm bl g : Nat) (xs : List Int) (r : Bool) (a : Int) (h : SeenAt w base bm bl g xs) (hwf : (Lit.int .u64 a).wf = true) (hbase : base ≤ w.heap.size) (hn : xs.length ≤ 1000000) (hm : r = false ∨ a ∈ xs) (hb : Below base w0 w) :
    Calls Try.prog 62 #[.agg #[.bool r, .int .u64 a], .pointer (some ⟨bm, 0, none⟩), .pointer (some ⟨bl, 0, none⟩)] (w.alloc (.cells #[.bool r, .int .u64 a] 76)) fun e w' => e = .returned (.tuple #[]) ∧ SeenAt w' base bm bl g xs ∧ Below base w0 w' :=
  (see_old (w.alloc (.cells #[.bool r, .int .u64 a] 76)) base bm bl g xs r a (h.below (below_alloc (Below.refl _ _) _)) hwf (by simp; omega) hn hm).mono fun e w' ⟨he, hs, hb'⟩ => ⟨he, hs, (hb.alloc hbase _).trans hb'⟩

theorem seen_start (w : World) : SeenAt (((w.alloc (.cells #[.slice none 0 0] 91)).alloc (.map #[] 0)).alloc (.cells #[.map (some (w.heap.size + 1))] 97)) w.heap.size (w.heap.size + 1 + 1) w.heap.size (w.heap.size + 1) [] where
  mb := by
    have := heap_alloc_new ((w.alloc (.cells #[.slice none 0 0] 91)).alloc (.map #[] 0)) (.cells #[.map (some (w.heap.size + 1))] 97)
    simpa using this
  lst := ⟨.slice none 0 0, blk_alloc (blk_alloc (heap_alloc_new w _) _) _, own_nil _ _ _ _⟩
  mp := by
    have h1 := MapIs.made (w.alloc (.cells #[.slice none 0 0] 91)) Try.prog 31
    have h2 := h1.below (below_alloc (Below.refl _ _) (.cells #[.map (some (w.heap.size + 1))] 97))
    have e : (fun _ => none : Lit → Option Value) = ofInt .u64 (idx []) := by
      funext x
      cases x <;> simp [ofInt, idx]
    rw [e] at h2
    simpa using h2
  bm_ := by omega
  bl_ := Nat.le_refl _
  g_ := by omega

set_option maxHeartbeats 2000000 in
set_option maxRecDepth 100000 in
theorem reached_one (w : World) (base b g gy cy gr cr : Nat) (hb : HBlk w b (.slice (some ⟨gy, 0, none⟩) 3 cy) (.slice none 0 0) g (.slice (some ⟨gr, 0, none⟩) 1 cr) (.slice none 0 0) 9 16) (hy : WRow w base (.slice (some ⟨gy, 0, none⟩) 3 cy) [(false, 131073), (false, 0), (false, 0)]) (hr : WRow w base (.slice (some ⟨gr, 0, none⟩) 1 cr) [(true, 0)]) (hcy : 3 ≤ cy) :
    Calls Try.prog 49 #[.pointer (some ⟨b, 0, none⟩)] w fun e w' => ∃ A c m, e = .returned (.tuple #[.slice (some A) 1 c, m]) ∧ w'.cell? A = some (.int .u64 0) ∧ Below w.heap.size w w' := by
  have y0 := hy.cells 0 (.bool false) rfl
  have y1 := hy.cells 1 (.int .u64 131073) rfl
  have y2 := hy.cells 2 (.bool false) rfl
  have y3 := hy.cells 3 (.int .u64 0) rfl
  have y4 := hy.cells 4 (.bool false) rfl
  have y5 := hy.cells 5 (.int .u64 0) rfl
  have r0 := hr.cells 0 (.bool true) rfl
  have r1 := hr.cells 1 (.int .u64 0) rfl
  have c0 : w.cell? ⟨b, 0, none⟩ = some (.slice (some ⟨gy, 0, none⟩) 3 cy) := (blk_cell hb 0).trans rfl
  have c3 : w.cell? ⟨b, 3, none⟩ = some (.slice (some ⟨gr, 0, none⟩) 1 cr) := (blk_cell hb 3).trans rfl
  have c4 : w.cell? ⟨b, 4, none⟩ = some (.slice none 0 0) := (blk_cell hb 4).trans rfl
  have HW := Aside0.mk (And.intro y0 (And.intro y1 (And.intro y2 (And.intro y3 (And.intro y4 (And.intro y5 (And.intro r0 (And.intro r1 (And.intro c0 (And.intro c3 c4))))))))))
  clear y0 y1 y2 y3 y4 y5 r0 r1 c0 c3 c4 hb hy hr
  have hmm := @run_makeMap Try.prog
  go_enter Try.func49, Try.ntmps49
  go_upto_region 3 with fail
  have hB3 : Below w.heap.size w (((w.alloc (.cells #[.slice none 0 0] 91)).alloc (.map #[] 0)).alloc (.cells #[.map (some (w.heap.size + 1))] 97)) := below_alloc (below_alloc (below_alloc (Below.refl _ _) _) _) _
  have hS3 : SeenAt (((w.alloc (.cells #[.slice none 0 0] 91)).alloc (.map #[] 0)).alloc (.cells #[.map (some (w.heap.size + 1))] 97)) w.heap.size (w.heap.size + 1 + 1) w.heap.size (w.heap.size + 1) [] := seen_start w
  have hs3 : (((w.alloc (.cells #[.slice none 0 0] 91)).alloc (.map #[] 0)).alloc (.cells #[.map (some (w.heap.size + 1))] 97)).heap.size = w.heap.size + 3 := by simp
  generalize (((w.alloc (.cells #[.slice none 0 0] 91)).alloc (.map #[] 0)).alloc (.cells #[.map (some (w.heap.size + 1))] 97)) = w3 at *
  have HB3 := Aside0.mk hB3
  have HS3 := Aside0.mk hS3
  have HZ3 := Aside0.mk hs3
  clear hB3 hS3 hs3
  obtain ⟨bm, hbm⟩ : ∃ x, x = w.heap.size + 1 + 1 := ⟨_, rfl⟩
  rw [← hbm] at HS3 ⊢
  obtain ⟨bl, hbl⟩ : ∃ x, x = w.heap.size := ⟨_, rfl⟩
  rw [← hbl] at HS3 ⊢
  have HBM := Aside0.mk hbm
  have HBL := Aside0.mk hbl
  clear hbm hbl
  have c3 := pw_cell_below HB3.out HW.out.2.2.2.2.2.2.2.2.2.1
  have r0 := pw_cell_below HB3.out HW.out.2.2.2.2.2.2.1
  have r1 := pw_cell_below HB3.out HW.out.2.2.2.2.2.2.2.1
  go_wp2_with fail
  refine wp_loop_rounds 2 ?_
  rw [rounds_succ]
  go_wp2_with (go_at_call 62; refine (see_new' w w3 bl bm bl (bl + 1) [] 0 HS3.out (by decide) (by have := HBL.out; have := HB3.out.size; omega) (by simp) (by simp) (by rw [HBL.out]; exact HB3.out)).mono ?_; rintro e w4 ⟨rfl, hs4, hb4⟩; have HS4 := Aside0.mk hs4; have HB4 := Aside0.mk hb4; clear hs4 hb4 c3 r0 r1)
  rw [rounds_succ]
  have hbw : w.heap.size = bl := HBL.out.symm
  have c4 := pw_cell_below (by rw [hbw]; exact HB4.out) HW.out.2.2.2.2.2.2.2.2.2.2
  clear hbw
  go_wp2_with fail
  clear c4
  refine wp_loop_rounds 1 ?_
  rw [rounds_succ]
  go_wp2_with fail
  obtain ⟨vl, hl, ho⟩ := HS4.out.lst
  obtain ⟨gl, cl, rfl, hgl, hgl2⟩ := ho.form (by decide)
  have e0 : w4.cell? ⟨gl, 0, none⟩ = some (.int .u64 0) := row_cell ho rfl
  have l0 : w4.cell? ⟨bl, 0, none⟩ = some (.slice (some ⟨gl, 0, none⟩) 1 cl) := (blk_cell hl 0).trans rfl
  clear hl ho
  refine wp_loop_rounds 2 ?_
  rw [rounds_succ]
  go_wp2_with fail
  have hobj : ∀ n, Calls Try.prog 44 #[.pointer (some ⟨b, 0, none⟩), .int .u64 0] (w4.drewN n) fun e w' => e = .returned (.tuple #[.int .u64 131073, .slice (some ⟨gy, 2, none⟩) 2 2]) ∧ ∃ k, w' = (w4.drewN n).drewN k := fun n => by
    have hbw : w.heap.size = bl := HBL.out.symm
    have hbelow : Below w.heap.size w (w4.drewN n) := by rw [hbw]; exact pw_below_drewN HB4.out n
    exact object_of (w4.drewN n) b gy 3 cy 0 2 0 131073 (at_young (w4.drewN n) b gy 3 cy 0 0 (pw_cell_below hbelow HW.out.2.2.2.2.2.2.2.2.1) rfl (by omega) hcy (by omega)) (pw_cell_below hbelow HW.out.2.1) (by omega) (by omega) (by omega) (by omega) hcy
  have HOBJ := Aside0.mk hobj
  clear hobj
  go_quiet ((go_at_call 44; exact Calls.quiet_of (HOBJ.out _)))
  go_wp2_with fail
  have hs5 : SeenAt (w4.drewN nq) bl bm bl (bl + 1) [0] := HS4.out.below (pw_below_drewN (Below.refl _ _) _)
  have hb5 : Below bl w (w4.drewN nq) := pw_below_drewN HB4.out nq
  clear e0 l0
  generalize w4.drewN nq = w5 at *
  have HS5 := Aside0.mk hs5
  have HB5 := Aside0.mk hb5
  clear hs5 hb5
  have y2 := pw_cell_below (by rw [← HBL.out]; exact HB5.out) HW.out.2.2.1
  have y3 := pw_cell_below (by rw [← HBL.out]; exact HB5.out) HW.out.2.2.2.1
  refine wp_loop_rounds 3 ?_
  rw [rounds_succ]
  go_wp2_with (go_at_call 62; refine (see_old' w w5 bl bm bl (bl + 1) [0] false 0 HS5.out (by decide) (by have := HBL.out; have := HB5.out.size; omega) (by simp) (by simp) HB5.out).mono ?_; rintro e w6 ⟨rfl, hs6, hb6⟩; have HS6 := Aside0.mk hs6; have HB6 := Aside0.mk hb6; clear hs6 hb6 y2 y3)
  have y4 := pw_cell_below (by rw [← HBL.out]; exact HB6.out) HW.out.2.2.2.2.1
  have y5 := pw_cell_below (by rw [← HBL.out]; exact HB6.out) HW.out.2.2.2.2.2.1
  rw [rounds_succ]
  go_wp2_with (go_at_call 62; refine (see_old' w w6 bl bm bl (bl + 1) [0] false 0 HS6.out (by decide) (by have := HBL.out; have := HB6.out.size; omega) (by simp) (by simp) HB6.out).mono ?_; rintro e w7 ⟨rfl, hs7, hb7⟩; have HS7 := Aside0.mk hs7; have HB7 := Aside0.mk hb7; clear hs7 hb7 y4 y5)
  rw [rounds_succ]
  go_wp2_with fail
  obtain ⟨vl2, hl2, ho2⟩ := HS7.out.lst
  obtain ⟨gl2, cl2, rfl, hgl3, hgl4⟩ := ho2.form (by decide)
  have e0 : w7.cell? ⟨gl2, 0, none⟩ = some (.int .u64 0) := row_cell ho2 rfl
  have l0 : w7.cell? ⟨bl, 0, none⟩ = some (.slice (some ⟨gl2, 0, none⟩) 1 cl2) := (blk_cell hl2 0).trans rfl
  have m0 : w7.cell? ⟨bm, 0, none⟩ = some (.map (some (bl + 1))) := (blk_cell HS7.out.mb 0).trans rfl
  clear hl2 ho2
  rw [rounds_succ]
  go_wp2_with fail
  go_quiet (fail)
  have HE0 := Aside0.mk e0
  clear e0 l0 m0
  go_wp2_with fail
  go_ret2
  refine ⟨_, _, _, rfl, HE0.out, ?_⟩
  have h7 := HB7.out
  have e7 := HBL.out
  clear HBL
  subst e7
  exact pw_below_drewN h7 _

set_option maxHeartbeats 1000000 in
set_option maxRecDepth 100000 in
theorem live_one (w : World) (base b g gy cy gr cr : Nat) (hb : HBlk w b (.slice (some ⟨gy, 0, none⟩) 3 cy) (.slice none 0 0) g (.slice (some ⟨gr, 0, none⟩) 1 cr) (.slice none 0 0) 9 16) (hy : WRow w base (.slice (some ⟨gy, 0, none⟩) 3 cy) [(false, 131073), (false, 0), (false, 0)]) (hr : WRow w base (.slice (some ⟨gr, 0, none⟩) 1 cr) [(true, 0)]) (hcy : 3 ≤ cy) :
    Calls Try.prog 27 #[.pointer (some ⟨b, 0, none⟩)] w fun e w' => e = .returned (.int .i64 3) ∧ Below w.heap.size w w' := by
  have HR := Aside0.mk (reached_one w base b g gy cy gr cr hb hy hr hcy)
  have HY1 := Aside0.mk (hy.cells 1 (.int .u64 131073) rfl)
  have HC0 := Aside0.mk (show w.cell? ⟨b, 0, none⟩ = some (.slice (some ⟨gy, 0, none⟩) 3 cy) from (blk_cell hb 0).trans rfl)
  clear hb hy hr
  go_enter Try.func27, Try.ntmps27
  go_wp2_with (go_at_call 49; refine HR.out.mono ?_; rintro e w1 ⟨A, c, m, rfl, hA, hb1⟩; have HB1 := Aside0.mk hb1; clear hb1)
  refine wp_loop_rounds 2 ?_
  rw [rounds_succ]
  go_wp2_with (go_at_call 44; refine (object_of w1 b gy 3 cy 0 2 0 131073 (at_young w1 b gy 3 cy 0 0 (pw_cell_below HB1.out HC0.out) rfl (by omega) hcy (by omega)) (pw_cell_below HB1.out HY1.out) (by omega) (by omega) (by omega) (by omega) hcy).mono ?_; rintro e w2 ⟨rfl, n2, rfl⟩)
  rw [rounds_succ]
  go_wp2_with fail
  go_ret
  exact ⟨rfl, pw_below_drewN HB1.out _⟩
end Go.Proofs.Ythoinhjiojjagaa.Hp
