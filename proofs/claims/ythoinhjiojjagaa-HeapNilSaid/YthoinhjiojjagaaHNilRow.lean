/- What HeapNil comes to: true, and nothing that was there has changed. -/
import Derived.Test.YthoinhjiojjagaaHLive
namespace Go.Proofs.Ythoinhjiojjagaa.Hp
open Go.RowKit Go.Proofs.YthoinhjiojjagaaW.PrintWords Go.Proofs.YthoinhjiojjagaaW.PrintLast Go.Proofs.YthoinhjiojjagaaW.PrintMore Go.Proofs.Ythoinhjiojjagaa.MapKit Go.Maps
attribute [local go_sem] max2_int min2_int max_two min_two max_three min_three max_four min_four
set_option linter.unusedVariables false
set_option linter.unusedSimpArgs false

set_option maxRecDepth 100000 in
theorem roots_calls (w : World) (b g n cr : Nat) (A : Option Addr) (vy vo vp : Value) (wd sm : Int) (hb : HBlk w b vy vo g (.slice A n cr) vp wd sm) :
    Calls Try.prog 26 #[.pointer (some ⟨b, 0, none⟩)] w fun e w' => e = .returned (.int .i64 (n : Int)) ∧ w = w' := by
  have c3 : w.cell? ⟨b, 3, none⟩ = some (.slice A n cr) := (blk_cell hb 3).trans rfl
  clear hb
  go_enter Try.func26, Try.ntmps26
  go_wp2
  go_ret
  exact ⟨rfl, rfl⟩

set_option maxHeartbeats 1000000 in
set_option maxRecDepth 100000 in
theorem awake_calls (w : World) : Calls Try.prog 8 #[] w fun e w' => e = .returned (.bool true) ∧ Below w.heap.size w w' := by
  go_enter Try.func8, Try.ntmps8
  go_wp2_with (go_at_call 9; refine (new_nine w).mono ?_; rintro e w1 ⟨rfl, hb1, hB1⟩; have HB1 := Aside0.mk hB1; have HBb1 := Aside0.mk hb1; clear hB1 hb1)
  refine (alloc_first w1 w.heap.size (w.heap.size + 1) w.heap.size HBb1.out HB1.out.size).mono ?_
  rintro e w2 ⟨rfl, vy, vr, hb2, hy2, hr2, hk2⟩
  obtain ⟨gy, cy, rfl, hcy, _⟩ := hy2.form (by decide)
  obtain ⟨gr, cr, rfl, hcr, _⟩ := hr2.form (by decide)
  have HB2 := Aside0.mk (hk2.to_below HB1.out HB1.out.size (fun k hk => by omega))
  have HBb2 := Aside0.mk hb2
  have HY2 := Aside0.mk hy2
  have HR2 := Aside0.mk hr2
  have HCY := Aside0.mk hcy
  clear hb2 hy2 hr2 hk2 hcy hcr
  go_wp2_with (first | (go_at_call 26; refine (roots_calls _ _ _ _ _ _ _ _ _ _ _ HBb2.out).mono ?_; rintro e w3 ⟨rfl, rfl⟩) | (go_at_call 27; refine (live_one w2 w.heap.size _ _ _ _ _ _ HBb2.out HY2.out HR2.out HCY.out).mono ?_; rintro e w3 ⟨rfl, hb3⟩; have HB3 := Aside0.mk hb3; clear hb3))
  go_ret
  exact ⟨rfl, below_step HB2.out HB3.out⟩
set_option maxHeartbeats 2000000 in
set_option maxRecDepth 100000 in
theorem heapNil_walk (w : World) : Calls Try.prog 4 #[] w fun e w' => e = .returned (.bool true) ∧ Below w.heap.size w w' := by
  go_enter Try.func4, Try.ntmps4
  go_wp2_with (first | (go_at_call 14; refine (info_nil _).mono ?_; rintro e w1 ⟨rfl, hb⟩; have HB1 := Aside0.mk hb; clear hb) | (go_at_call 15; refine (word_nil _).mono ?_; rintro e w2 ⟨rfl, hb⟩; have HB2 := Aside0.mk (below_step HB1.out hb); clear hb) | (go_at_call 16; refine (same_nil _).mono ?_; rintro e w3 ⟨rfl, hb⟩; have HB3 := Aside0.mk (below_step HB2.out hb); clear hb) | (go_at_call 19; refine (walk_nil _).mono ?_; rintro e w4 ⟨rfl, hb⟩; have HB4 := Aside0.mk (below_step HB3.out hb); clear hb) | (go_at_call 22; refine (dup_nil _).mono ?_; rintro e w5 ⟨rfl, hb⟩; have HB5 := Aside0.mk (below_step HB4.out hb); clear hb) | (go_at_call 24; refine (get_nil _).mono ?_; rintro e w6 ⟨rfl, hb⟩; have HB6 := Aside0.mk (below_step HB5.out hb); clear hb) | (go_at_call 25; refine (set_nil _).mono ?_; rintro e w7 ⟨rfl, hb⟩; have HB7 := Aside0.mk (below_step HB6.out hb); clear hb) | (go_at_call 8; refine (awake_calls _).mono ?_; rintro e w8 ⟨rfl, hb⟩; have HB8 := Aside0.mk (below_step HB7.out hb); clear hb) | (go_at_call 17; refine (minor_nil _).mono ?_; rintro e w' ⟨rfl, rfl⟩) | (go_at_call 18; refine (major_nil _).mono ?_; rintro e w' ⟨rfl, rfl⟩) | (go_at_call 20; refine (alloc_nil _).mono ?_; rintro e w' ⟨rfl, rfl⟩) | (go_at_call 21; refine (num_nil _).mono ?_; rintro e w' ⟨rfl, rfl⟩) | (go_at_call 23; refine (slide_nil _).mono ?_; rintro e w' ⟨rfl, rfl⟩) | (go_at_call 26; refine (roots_nil _).mono ?_; rintro e w' ⟨rfl, rfl⟩) | (go_at_call 27; refine (live_nil _).mono ?_; rintro e w' ⟨rfl, rfl⟩) | (go_at_call 28; refine (used_nil _).mono ?_; rintro e w' ⟨rfl, rfl⟩) | (go_at_call 11; refine (copy_nil _).mono ?_; rintro e w' ⟨rfl, rfl⟩))
  go_ret
  exact ⟨rfl, HB8.out⟩
end Go.Proofs.Ythoinhjiojjagaa.Hp
