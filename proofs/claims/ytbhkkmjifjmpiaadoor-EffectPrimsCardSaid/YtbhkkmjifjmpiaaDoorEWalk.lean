/- The walk of EffectPrims. -/
import Derived.Test.YtbhkkmjifjmpiaaDoorELaw
namespace Go.Proofs.YtbhkkmjifjmpiaaDoor.E
open Go.RowKit Go.Proofs.YtbhkkmjifjmpiaaDoorW.PrintWords Go.Proofs.YtbhkkmjifjmpiaaDoorW.PrintLast Go.Proofs.YtbhkkmjifjmpiaaDoorW.PrintMore Go.Proofs.YtbhkkmjifjmpiaaDoor.Q
set_option linter.unusedVariables false
set_option linter.unusedSimpArgs false

theorem dup_list : (⟨#[100, 117, 112]⟩ : ByteArray).toList = [100, 117, 112] := by decide +kernel
theorem dup_at : lookP words (⟨#[100, 117, 112]⟩ : ByteArray).toList = (1, 2, true) := by rw [dup_list]; decide +kernel

set_option maxHeartbeats 4000000 in
set_option maxRecDepth 100000 in
theorem awake_walk (w : World) (m : Int) (hm : w.cell? ⟨2, 0, none⟩ = some (.int .i64 m)) (htab : Lib.TabIs Tryd.prog w "strings.asciiSpace" .u8 Lib.asciiSpaceTab) :
    Calls Tryd.prog 4 #[] w fun e w' => e = .returned (.bool true) ∧ Below w.heap.size w w' := by
  have hp := prim_walk w ⟨#[100, 117, 112]⟩ m hm htab
  rw [dup_at] at hp
  have HP := Lib.hid hp
  clear hp hm htab
  go_enter Tryd.func4, Tryd.ntmps4
  go_wp2_with fail
  refine HP.out.mono ?_
  rintro e w1 ⟨rfl, hb⟩
  have HB := Aside0.mk hb
  clear hb
  go_wp2
  go_ret
  exact ⟨rfl, by repeat (first | (with_reducible first | exact HB.out | apply below_alloc | apply pw_below_drewN | apply below_drew1) | exact HB.out)⟩

set_option maxHeartbeats 4000000 in
set_option maxRecDepth 100000 in
theorem effectPrims_walk (w : World) (s : ByteArray) (a0 a1 b0 b1 : Int) (m : Int) (hm : w.cell? ⟨2, 0, none⟩ = some (.int .i64 m)) (htab : Lib.TabIs Tryd.prog w "strings.asciiSpace" .u8 Lib.asciiSpaceTab) :
    Calls Tryd.prog 3 #[.string s, .agg #[.int .i64 a0, .int .i64 a1], .agg #[.int .i64 b0, .int .i64 b1]] w fun e w' => e = .returned (.bool true) ∧ Below w.heap.size w w' := by
  obtain ⟨r1, r2, r3, ht1, ht2⟩ := then_eq a0 a1 b0 b1
  have hpe := prim_eq s
  obtain ⟨⟨x1, x2, x3⟩, hx⟩ : ∃ x, x = lookP words s.toList := ⟨_, rfl⟩
  rw [← hx] at hpe
  have hlt : 2 < w.heap.size := World.block_lt_of_cell? _ _ hm
  have HM := Aside0.mk hm
  have HT := Aside0.mk htab
  have HX := Aside0.mk hx
  have HPE := Aside0.mk hpe
  have HT1 := Aside0.mk ht1
  have HT2 := Aside0.mk ht2
  clear hm htab hx hpe ht1 ht2
  go_enter Tryd.func3, Tryd.ntmps3
  go_wp2_with fail
  have hb1 : Below w.heap.size w ((w.alloc (.cells #[.int .i64 a0, .int .i64 a1] 23)).alloc (.cells #[.int .i64 b0, .int .i64 b1] 23)) := below_alloc (below_alloc (Below.refl _ _) _) _
  have hA : ((w.alloc (.cells #[.int .i64 a0, .int .i64 a1] 23)).alloc (.cells #[.int .i64 b0, .int .i64 b1] 23)).heap[w.heap.size]? = some (.cells #[.int .i64 a0, .int .i64 a1] 23 (0, 0)) := (Below.heap_alloc _ _ _ (by simp)).trans (heap_alloc_new _ _)
  have hBk : ((w.alloc (.cells #[.int .i64 a0, .int .i64 a1] 23)).alloc (.cells #[.int .i64 b0, .int .i64 b1] 23)).heap[w.heap.size + 1]? = some (.cells #[.int .i64 b0, .int .i64 b1] 23 (0, 0)) := by
    have := heap_alloc_new (w.alloc (.cells #[.int .i64 a0, .int .i64 a1] 23)) (.cells #[.int .i64 b0, .int .i64 b1] 23)
    simpa using this
  generalize (w.alloc (.cells #[.int .i64 a0, .int .i64 a1] 23)).alloc (.cells #[.int .i64 b0, .int .i64 b1] 23) = w1 at *
  have HB1 := Aside0.mk hb1
  have HA := Aside0.mk hA
  have HBK := Aside0.mk hBk
  clear hb1 hA hBk
  refine (awake_walk w1 m (pw_cell_below HB1.out HM.out) (tab_below HT.out HB1.out)).mono ?_
  rintro e w2 ⟨rfl, hb2⟩
  have HB2 := Aside0.mk (below_step HB1.out hb2)
  have HA2 := Aside0.mk (blk_below HA.out hb2)
  have HBK2 := Aside0.mk (blk_below HBK.out hb2)
  clear hb2
  go_wp2_with fail
  refine (prim_walk w2 s m (pw_cell_below HB2.out HM.out) (tab_below HT.out HB2.out)).mono ?_
  rintro e w3 ⟨rfl, hb3⟩
  rw [← HX.out]
  have HB3 := Aside0.mk (below_step HB2.out hb3)
  have HA3 := Aside0.mk (blk_below HA2.out hb3)
  have HBK3 := Aside0.mk (blk_below HBK2.out hb3)
  clear hb3
  go_wp2_with fail
  have hb4 : Below w3.heap.size w3 (w3.alloc (.cells #[.int .i64 x1, .int .i64 x2] 23)) := below_alloc (Below.refl _ _) _
  have hX4 : (w3.alloc (.cells #[.int .i64 x1, .int .i64 x2] 23)).heap[w3.heap.size]? = some (.cells #[.int .i64 x1, .int .i64 x2] 23 (0, 0)) := heap_alloc_new _ _
  generalize w3.alloc (.cells #[.int .i64 x1, .int .i64 x2] 23) = w4 at *
  have HB4 := Aside0.mk (below_step HB3.out hb4)
  have HA4 := Aside0.mk (blk_below HA3.out hb4)
  have HBK4 := Aside0.mk (blk_below HBK3.out hb4)
  have HX4 := Aside0.mk hX4
  clear hb4 hX4
  refine (quireref08_Prim.calls 20 s x1 x2 x3 w4 HPE.out).mono ?_
  rintro e w5 ⟨rfl, hb5⟩
  have HB5 := Aside0.mk (below_step HB4.out hb5)
  have HA5 := Aside0.mk (blk_below HA4.out hb5)
  have HBK5 := Aside0.mk (blk_below HBK4.out hb5)
  have HX5 := Aside0.mk (blk_below HX4.out hb5)
  clear hb5
  have c0 : w5.cell? ⟨w.heap.size, 0, none⟩ = some (.int .i64 a0) := by simp [World.cell?, HA5.out]
  have c1 : w5.cell? ⟨w.heap.size, 1, none⟩ = some (.int .i64 a1) := by simp [World.cell?, HA5.out]
  have c2 : w5.cell? ⟨w.heap.size + 1, 0, none⟩ = some (.int .i64 b0) := by simp [World.cell?, HBK5.out]
  have c3 : w5.cell? ⟨w.heap.size + 1, 1, none⟩ = some (.int .i64 b1) := by simp [World.cell?, HBK5.out]
  go_wp2_with fail
  clear c0 c1 c2 c3
  refine (effect_Then.calls 5 a0 a1 b0 b1 r1 r2 r3 w5 HT1.out).mono ?_
  rintro e w6 ⟨rfl, hb6⟩
  have HB6 := Aside0.mk (below_step HB5.out hb6)
  have HA6 := Aside0.mk (blk_below HA5.out hb6)
  have HBK6 := Aside0.mk (blk_below HBK5.out hb6)
  have HX6 := Aside0.mk (blk_below HX5.out hb6)
  clear hb6
  have d0 : ∀ o, (w6.alloc o).cell? ⟨w.heap.size, 0, none⟩ = some (.int .i64 a0) := fun o => by
    have := blk_below HA6.out (below_alloc (Below.refl w6.heap.size w6) o)
    simp [World.cell?, this]
  have d1 : ∀ o, (w6.alloc o).cell? ⟨w.heap.size, 1, none⟩ = some (.int .i64 a1) := fun o => by
    have := blk_below HA6.out (below_alloc (Below.refl w6.heap.size w6) o)
    simp [World.cell?, this]
  have d2 : ∀ o, (w6.alloc o).cell? ⟨w.heap.size + 1, 0, none⟩ = some (.int .i64 b0) := fun o => by
    have := blk_below HBK6.out (below_alloc (Below.refl w6.heap.size w6) o)
    simp [World.cell?, this]
  have d3 : ∀ o, (w6.alloc o).cell? ⟨w.heap.size + 1, 1, none⟩ = some (.int .i64 b1) := fun o => by
    have := blk_below HBK6.out (below_alloc (Below.refl w6.heap.size w6) o)
    simp [World.cell?, this]
  go_wp2_with fail
  clear d0 d1 d2 d3
  have hb7 : Below w6.heap.size w6 (w6.alloc (.cells #[.int .i64 r1, .int .i64 r2] 23)) := below_alloc (Below.refl _ _) _
  have hY7 : (w6.alloc (.cells #[.int .i64 r1, .int .i64 r2] 23)).heap[w6.heap.size]? = some (.cells #[.int .i64 r1, .int .i64 r2] 23 (0, 0)) := heap_alloc_new _ _
  generalize w6.alloc (.cells #[.int .i64 r1, .int .i64 r2] 23) = w7 at *
  have HB7 := Aside0.mk (below_step HB6.out hb7)
  have HX7 := Aside0.mk (blk_below HX6.out hb7)
  have HY7 := Aside0.mk hY7
  clear hb7 hY7
  refine (quireref08_Then.calls 5 a0 a1 b0 b1 r1 r2 r3 w7 HT2.out).mono ?_
  rintro e w8 ⟨rfl, hb8⟩
  have HB8 := Aside0.mk (below_step HB7.out hb8)
  have HX8 := Aside0.mk (blk_below HX7.out hb8)
  have HY8 := Aside0.mk (blk_below HY7.out hb8)
  clear hb8
  have f0 : ∀ o, (w8.alloc o).cell? ⟨w3.heap.size, 0, none⟩ = some (.int .i64 x1) := fun o => by
    have := blk_below HX8.out (below_alloc (Below.refl w8.heap.size w8) o)
    simp [World.cell?, this]
  have f1 : ∀ o, (w8.alloc o).cell? ⟨w3.heap.size, 1, none⟩ = some (.int .i64 x2) := fun o => by
    have := blk_below HX8.out (below_alloc (Below.refl w8.heap.size w8) o)
    simp [World.cell?, this]
  have f2 : ∀ o, (w8.alloc o).cell? ⟨w6.heap.size, 0, none⟩ = some (.int .i64 r1) := fun o => by
    have := blk_below HY8.out (below_alloc (Below.refl w8.heap.size w8) o)
    simp [World.cell?, this]
  have f3 : ∀ o, (w8.alloc o).cell? ⟨w6.heap.size, 1, none⟩ = some (.int .i64 r2) := fun o => by
    have := blk_below HY8.out (below_alloc (Below.refl w8.heap.size w8) o)
    simp [World.cell?, this]
  go_wp2_with fail
  go_ret
  exact ⟨rfl, by repeat (first | (with_reducible first | exact HB8.out | apply below_alloc | apply pw_below_drewN | apply below_drew1) | exact HB8.out)⟩
end Go.Proofs.YtbhkkmjifjmpiaaDoor.E
