/- The first allocation of a heap: what awake comes to. -/
import Derived.Test.YthoinhjiojjagaaHPush
namespace Go.Proofs.Ythoinhjiojjagaa.Hp
open Go.RowKit Go.Proofs.YthoinhjiojjagaaW.PrintWords Go.Proofs.YthoinhjiojjagaaW.PrintLast Go.Proofs.YthoinhjiojjagaaW.PrintMore Go.Proofs.Ythoinhjiojjagaa.MapKit Go.Maps
attribute [local go_sem] max2_int min2_int max_two min_two max_three min_three max_four min_four
set_option linter.unusedVariables false
set_option linter.unusedSimpArgs false

set_option maxRecDepth 100000 in
theorem new_nine (w : World) : Calls Try.prog 9 #[.int .i64 9] w fun e w' => e = .returned (.tuple #[.pointer (some ⟨w.heap.size + 1, 0, none⟩), .int .i64 0]) ∧ HBlk w' (w.heap.size + 1) (.slice none 0 0) (.slice none 0 0) w.heap.size (.slice none 0 0) (.slice none 0 0) 9 16 ∧ Below w.heap.size w w' := by
  have hmm := @run_makeMap Try.prog
  go_enter Try.func9, Try.ntmps9
  go_wp2
  go_ret2
  refine ⟨rfl, ?_, below_alloc (below_alloc (Below.refl _ _) _) _⟩
  have := heap_alloc_new (w.alloc (.map #[] 0)) (.cells #[.slice none 0 0, .slice none 0 0, .map (some w.heap.size), .slice none 0 0, .slice none 0 0, .int .i64 9, .int .i64 16] 71)
  simpa [HBlk] using this

set_option maxRecDepth 100000 in
theorem used_calls (w : World) (b : Nat) (A0 A1 : Option Addr) (n0 n1 c0 c1 g : Nat) (vr vp : Value) (wd sm : Int) (hb : HBlk w b (.slice A0 n0 c0) (.slice A1 n1 c1) g vr vp wd sm) (h0 : n0 ≤ 1000000) (h1 : n1 ≤ 1000000) :
    Calls Try.prog 28 #[.pointer (some ⟨b, 0, none⟩)] w fun e w' => e = .returned (.int .i64 ((n0 : Int) + (n1 : Int))) ∧ ∃ n, w' = w.drewN n := by
  have c0' : w.cell? ⟨b, 0, none⟩ = some (.slice A0 n0 c0) := (blk_cell hb 0).trans rfl
  have c1' : w.cell? ⟨b, 1, none⟩ = some (.slice A1 n1 c1) := (blk_cell hb 1).trans rfl
  clear hb
  go_enter Try.func28, Try.ntmps28
  go_wp2
  go_quiet (fail)
  go_wp2
  go_ret
  exact ⟨rfl, _, rfl⟩

theorem WRow.kept {w w' : World} {base : Nat} {v : Value} {xs : List (Bool × Int)} {S : Nat → Prop} (h : WRow w base v xs) (hk : Kept w w' S) (hne : ∀ k, v.ownBlock = some k → ¬ S k) : WRow w' base v xs :=
  own_move h (fun k hv => hk.2 k (own_lt h k hv) (hne k hv))

theorem used_zero (w : World) (b : Nat) (g : Nat) (vr vp : Value) (wd sm : Int) (hb : HBlk w b (.slice none 0 0) (.slice none 0 0) g vr vp wd sm) :
    Calls Try.prog 28 #[.pointer (some ⟨b, 0, none⟩)] w fun e w' => e = .returned (.int .i64 0) ∧ ∃ n, w' = w.drewN n := used_calls w b none none 0 0 0 0 g vr vp wd sm hb (by omega) (by omega)

set_option maxHeartbeats 1000000 in
set_option maxRecDepth 100000 in
theorem alloc_first (w : World) (base b g : Nat) (hb : HBlk w b (.slice none 0 0) (.slice none 0 0) g (.slice none 0 0) (.slice none 0 0) 9 16) (hbase : base ≤ w.heap.size) :
    Calls Try.prog 20 #[.pointer (some ⟨b, 0, none⟩), .int .i64 1, .int .i64 2, .bool false] w fun e w' => e = .returned (.int .i64 0) ∧ ∃ vy vr, HBlk w' b vy (.slice none 0 0) g vr (.slice none 0 0) 9 16 ∧ WRow w' base vy [(false, 131073), (false, 0), (false, 0)] ∧ WRow w' base vr [(true, 0)] ∧ KS w w' (fun k => k = b) := by
  have HB := Aside0.mk hb
  have c0 : w.cell? ⟨b, 0, none⟩ = some (.slice none 0 0) := (blk_cell hb 0).trans rfl
  have c3 : w.cell? ⟨b, 3, none⟩ = some (.slice none 0 0) := (blk_cell hb 3).trans rfl
  have c6 : w.cell? ⟨b, 6, none⟩ = some (.int .i64 16) := (blk_cell hb 6).trans rfl
  clear hb
  have hmk : ∀ w, (Instr.makeSlice 67 (.int .i64 3) (.int .i64 3)).run Try.prog w = .ok (.slice (some ⟨w.heap.size, 0, none⟩) 3 3) (w.alloc (.cells #[.bool false, .int .u64 0, .bool false, .int .u64 0, .bool false, .int .u64 0] 76)) := fun _ => by kernel_rfl
  have HMK := Aside0.mk hmk
  clear hmk
  go_enter Try.func20, Try.ntmps20
  go_wp2
  go_quiet (fail)
  clear c0 c3 c6
  have hB1 : Below w.heap.size w (w.drewN nq) := pw_below_drewN (Below.refl _ _) _
  generalize w.drewN nq = w1 at *
  have HB1 := Aside0.mk hB1
  have HBb := Aside0.mk (show HBlk w1 b _ _ _ _ _ _ _ from blk_below HB.out hB1)
  clear hB1
  have c5 : w1.cell? ⟨b, 5, none⟩ = some (.int .i64 9) := (blk_cell HBb.out 5).trans rfl
  go_wp2_with fail
  go_quiet ((go_at_call 28; exact Calls.quiet_of (used_zero _ b g _ _ _ _ HBb.out)))
  have hB2 : Below w.heap.size w (w1.drewN nq) := pw_below_drewN HB1.out _
  clear c5
  generalize w1.drewN nq = w2 at *
  have HB2 := Aside0.mk hB2
  have HBb2 := Aside0.mk (show HBlk w2 b _ _ _ _ _ _ _ from blk_below HB.out hB2)
  clear hB2
  have c5 : w2.cell? ⟨b, 5, none⟩ = some (.int .i64 9) := (blk_cell HBb2.out 5).trans rfl
  go_wp2_with fail
  go_quiet ((go_at_call 28; exact Calls.quiet_of (used_zero _ b g _ _ _ _ HBb2.out)))
  have hB3 : Below w.heap.size w (w2.drewN nq) := pw_below_drewN HB2.out _
  clear c5
  generalize w2.drewN nq = w3 at *
  have HB3 := Aside0.mk hB3
  have HBb3 := Aside0.mk (show HBlk w3 b _ _ _ _ _ _ _ from blk_below HB.out hB3)
  clear hB3
  have hmk := HMK.out
  go_upto_region 17 with fail
  have hbits : bits BinOp.or IntKind.u64 1 131072 = 131073 := by kernel_rfl
  have hB4 : Below w.heap.size w (w3.alloc (.cells #[.bool false, .int .u64 (bits BinOp.or IntKind.u64 1 131072), .bool false, .int .u64 0, .bool false, .int .u64 0] 76)) := below_alloc HB3.out _
  have hY4 : (w3.alloc (.cells #[.bool false, .int .u64 (bits BinOp.or IntKind.u64 1 131072), .bool false, .int .u64 0, .bool false, .int .u64 0] 76)).heap[w3.heap.size]? = some (.cells #[.bool false, .int .u64 131073, .bool false, .int .u64 0, .bool false, .int .u64 0] 76 (0, 0)) := by rw [hbits]; exact heap_alloc_new w3 _
  clear hmk hbits
  generalize w3.alloc (.cells #[.bool false, .int .u64 (bits BinOp.or IntKind.u64 1 131072), .bool false, .int .u64 0, .bool false, .int .u64 0] 76) = w4 at *
  have HB4 := Aside0.mk hB4
  have HBb4 := Aside0.mk (show HBlk w4 b _ _ _ _ _ _ _ from blk_below HB.out hB4)
  have HY4 := Aside0.mk hY4
  clear hB4 hY4
  have c0 : w4.cell? ⟨b, 0, none⟩ = some (.slice none 0 0) := (blk_cell HBb4.out 0).trans rfl
  have c6 : w4.cell? ⟨b, 6, none⟩ = some (.int .i64 16) := (blk_cell HBb4.out 6).trans rfl
  go_wp2_with fail
  go_quiet (fail)
  clear c0 c6
  have hB5 : Below w.heap.size w (w4.drewN nq) := pw_below_drewN HB4.out _
  have hY5 := blk_drewN HY4.out nq
  generalize w4.drewN nq = w5 at *
  have HB5 := Aside0.mk hB5
  have HBb5 := Aside0.mk (show HBlk w5 b _ _ _ _ _ _ _ from blk_below HB.out hB5)
  have HY5 := Aside0.mk hY5
  clear hB5 hY5
  obtain ⟨i0, hi, hzz⟩ := Option.map_eq_some_iff.1 info76
  simp only [Prod.mk.injEq] at hzz
  obtain ⟨hz0, hz1, hz2⟩ := hzz
  have c0 : w5.cell? ⟨b, 0, none⟩ = some (.slice none 0 0) := (blk_cell HBb5.out 0).trans rfl
  have hone : ∀ u ∈ cellsOf [(false, 131073), (false, 0), (false, 0)], u.oneCell' = true := fun u hu => by
    simp only [cellsOf, List.flatMap_cons, List.flatMap_nil, List.cons_append, List.nil_append, List.mem_cons, List.not_mem_nil, or_false] at hu
    rcases hu with rfl | rfl | rfl | rfl | rfl | rfl <;> rfl
  have HONE := Aside0.mk hone
  clear hone
  go_wp2_with ((with_reducible refine gate_builtin (b := .append) (xs := #[.tmp 145, .tmp 146]) rfl ?_); refine wpList_append_lies w5 rfl (.tmp 145) (.tmp 146) 67 rfl base 76 i0 (.agg #[.bool false, .int .u64 0]) 2 16 Try.underlying67 hi hz0 hz1 hz2 rfl (by decide) (.slice none 0 0) 0 [] rfl (own_nil _ _ _ _) ⟨w3.heap.size, 0, none⟩ 3 3 (cellsOf [(false, 131073), (false, 0), (false, 0)]) rfl rfl (World.news_of_block HY5.out) HONE.out (by decide) (by decide) (by decide) (Nat.le_trans hbase HB5.out.size) _ rfl ?_; intro gg cap w6 ho hg hat hlt; have HO := Aside0.mk ho; have HG := Aside0.mk hg; have HAT := Aside0.mk hat; have hb6 : HBlk w6 b (.slice none 0 0) (.slice none 0 0) g (.slice none 0 0) (.slice none 0 0) 9 16 := blk_grown HBb5.out hg (by simp [Value.ownBlock]); have c6 : w6.cell? ⟨b, 0, none⟩ = some (.slice none 0 0) := (blk_cell hb6 0).trans rfl; have f6 : w6.frozen? ⟨b, 0, none⟩ = false := blk_frozen hb6 0; have HBb6 := Aside0.mk hb6; clear ho hg hat hb6 c0)
  have hgg : gg = w5.heap.size := (HAT.out).resolve_left (by simp [Value.ownBlock])
  have hbg : b ≠ gg := by
    have := blk_lt HBb5.out
    omega
  have hb7 : HBlk (w6.setCell ⟨b, 0, none⟩ (.slice (some ⟨gg, 0, none⟩) 3 cap)) b (.slice (some ⟨gg, 0, none⟩) 3 cap) (.slice none 0 0) g (.slice none 0 0) (.slice none 0 0) 9 16 := blk_put (cs := #[.slice none 0 0, .slice none 0 0, .map (some g), .slice none 0 0, .slice none 0 0, .int .i64 9, .int .i64 16]) HBb6.out 0 _ rfl
  have hy7 : WRow (w6.setCell ⟨b, 0, none⟩ (.slice (some ⟨gg, 0, none⟩) 3 cap)) base (.slice (some ⟨gg, 0, none⟩) 3 cap) [(false, 131073), (false, 0), (false, 0)] := own_setCell HO.out (fun e => hbg (by simpa [Value.ownBlock] using e)) _
  have hk7 : KS w (w6.setCell ⟨b, 0, none⟩ (.slice (some ⟨gg, 0, none⟩) 3 cap)) (fun k => k = b) := KS.setCell (S := fun k => k = b) (KS.of_grown HG.out (KS.of_below HB5.out _) (fun k hk => by simp [Value.ownBlock] at hk)) (.inl rfl) _
  clear c6 f6
  generalize w6.setCell ⟨b, 0, none⟩ (.slice (some ⟨gg, 0, none⟩) 3 cap) = w7 at *
  have HK7 := Aside0.mk hk7
  have HY7 := Aside0.mk hy7
  have HBG := Aside0.mk hbg
  have hs7 := hk7.size
  clear hgg hbg hk7 hy7
  refine (push_calls w7 base b _ _ g (.slice none 0 0) _ 9 16 [] true 0 hb7 (own_nil _ _ _ _) (by simp) (by omega) (by simp [Value.ownBlock])).mono ?_
  rintro e w8 ⟨rfl, vr, hb8, hr8, hat8, hk8⟩
  have HB8 := Aside0.mk hb8
  have HR8 := Aside0.mk hr8
  have HK8 := Aside0.mk hk8
  clear hb8 hr8 hat8 hk8 hb7
  go_wp2
  go_ret
  refine ⟨rfl, _, vr, HB8.out, ?_, HR8.out, ?_⟩
  · exact HY7.out.kept HK8.out.kept (fun k hk hs => by
      rcases hs with hs | hs
      · exact HBG.out (hs.symm.trans (by simpa [Value.ownBlock] using hk.symm))
      · simp [Value.ownBlock] at hs)
  · exact HK7.out.then_ HK8.out (fun k hk => by
      rcases hk with hk | hk
      · exact .inl hk
      · simp [Value.ownBlock] at hk)
end Go.Proofs.Ythoinhjiojjagaa.Hp
