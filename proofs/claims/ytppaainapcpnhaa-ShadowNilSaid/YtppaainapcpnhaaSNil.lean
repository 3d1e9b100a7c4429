/- A nil store, and one on no disk, are refused. -/
import Derived.Test.YtppaainapcpnhaaSIter
namespace Go.Proofs.Ytppaainapcpnhaa.Sh
open Go Go.RowKit Go.Proofs.YtppaainapcpnhaaW.PrintWords Go.Proofs.YtppaainapcpnhaaW.PrintLast Go.Proofs.YtppaainapcpnhaaW.PrintMore Go.Proofs.Ytppaainapcpnhaa.MapKit Go.Maps Go.Proofs.Ytppaainapcpnhaa.ApartKit Go.Proofs.Ytppaainapcpnhaa.Q
attribute [local go_sem] max2_int min2_int max_two min_two max_three min_three max_four min_four
set_option linter.unusedVariables false
set_option linter.unusedSimpArgs false

theorem format_nil (w : World) : Calls Try.prog 28 #[.pointer none] w fun e w' => e = .returned (.tuple #[.pointer none, .int .i64 2]) ∧ w = w' := by
  go_enter Try.func28, Try.ntmps28
  go_wp2
  go_ret2
  exact ⟨rfl, rfl⟩
theorem open_nil (w : World) : Calls Try.prog 26 #[.pointer none] w fun e w' => e = .returned (.tuple #[.pointer none, .int .i64 2]) ∧ w = w' := by
  go_enter Try.func26, Try.ntmps26
  go_wp2
  go_ret2
  exact ⟨rfl, rfl⟩
theorem get_nil (w : World) : Calls Try.prog 11 #[.pointer none, .int .i64 0] w fun e w' => e = .returned (.tuple #[.slice none 0 0, .int .i64 2]) ∧ w = w' := by
  go_enter Try.func11, Try.ntmps11
  go_wp2_with fail
  refine (scheck_nil w 0).mono ?_
  rintro e w' ⟨rfl, rfl⟩
  go_wp2
  go_ret2
  exact ⟨rfl, rfl⟩
theorem put_nil (w : World) (v : Value) : Calls Try.prog 12 #[.pointer none, .int .i64 0, v] w fun e w' => e = .returned (.int .i64 2) ∧ w = w' := by
  go_enter Try.func12, Try.ntmps12
  go_wp2_with fail
  refine (scheck_nil w 0).mono ?_
  rintro e w' ⟨rfl, rfl⟩
  go_wp2
  go_ret
  exact ⟨rfl, rfl⟩
theorem drop_nil (w : World) : Calls Try.prog 15 #[.pointer none, .int .i64 0] w fun e w' => e = .returned (.int .i64 2) ∧ w = w' := by
  go_enter Try.func15, Try.ntmps15
  go_wp2_with fail
  refine (scheck_nil w 0).mono ?_
  rintro e w' ⟨rfl, rfl⟩
  go_wp2
  go_ret
  exact ⟨rfl, rfl⟩
theorem commit_nil (w : World) : Calls Try.prog 23 #[.pointer none] w fun e w' => e = .returned (.int .i64 2) ∧ w = w' := by
  go_enter Try.func23, Try.ntmps23
  go_wp2_with fail
  refine (scheck_nil w 0).mono ?_
  rintro e w' ⟨rfl, rfl⟩
  go_wp2
  go_ret
  exact ⟨rfl, rfl⟩
theorem rollback_nil (w : World) : Calls Try.prog 27 #[.pointer none] w fun e w' => e = .returned (.int .i64 2) ∧ w = w' := by
  go_enter Try.func27, Try.ntmps27
  go_wp2_with fail
  refine (scheck_nil w 0).mono ?_
  rintro e w' ⟨rfl, rfl⟩
  go_wp2
  go_ret
  exact ⟨rfl, rfl⟩
theorem room_nil (w : World) : Calls Try.prog 20 #[.pointer none] w fun e w' => e = .returned (.tuple #[.int .i64 0, .int .i64 0]) ∧ w = w' := by
  go_enter Try.func20, Try.ntmps20
  go_wp2
  go_ret2
  exact ⟨rfl, rfl⟩

set_option maxHeartbeats 2000000 in
set_option maxRecDepth 100000 in
theorem awake_calls (w : World) : Calls Try.prog 10 #[] w fun e w' => e = .returned (.bool true) ∧ Below w.heap.size w w' := by
  go_enter Try.func10, Try.ntmps10
  go_wp2_with fail
  refine (new_calls w 16 (by omega) (by omega)).mono ?_
  rintro e w1 ⟨b, kb, sb, rfl, hd1, hb1⟩
  have HD1 := Aside0.mk hd1
  have HB1 := Aside0.mk hb1
  clear hd1 hb1
  go_wp2_with fail
  refine (format_calls w1 w.heap.size b kb sb _ (disk0 16) HD1.out HB1.out.size 16 (by simp [disk0]) (by omega) (by simp [disk0]) rfl (by omega)).mono ?_
  rintro e w2 ⟨s, km, nm, vp', rfl, hd2, hs2, hk2, hv2⟩
  generalize formatted (disk0 16) = D2 at hd2
  have HD2 := Aside0.mk hd2
  have HS2 := Aside0.mk hs2
  have HB2 := Aside0.mk (hk2.to_below HB1.out HB1.out.size (fun k hk => DF_base HD1.out hk))
  clear hd2 hs2 hk2 hv2 HD1 HB1
  go_upto_region 5 with fail
  have hrow : BRow (w2.alloc (.cells #[.int .u8 9] 5)) 0 (.slice (some ⟨w2.heap.size, 0, none⟩) 1 1) [9] := ⟨rfl, .inr ⟨w2.heap.size, 1, _, rfl, Nat.zero_le _, heap_alloc_new _ _, Nat.le_refl _, by unfold maxLen; omega, rfl, rfl⟩⟩
  obtain ⟨A2, c2, e2, _, hC⟩ := hrow.reads
  injection e2 with e3 e5 e4
  subst e3 e4
  clear e5
  have hbb := below_alloc (Below.refl w2.heap.size w2) (.cells #[.int .u8 9] 5)
  have hput := put_calls (w2.alloc (.cells #[.int .u8 9] 5)) w.heap.size s b kb sb km nm _ 0 0 sto0 (HS2.out.below hbb) (by have := blk_lt HD2.out.kept; simp; omega) (by have := blk_lt HD2.out.seen; simp; omega) (Nat.le_trans HB2.out.size hbb.size) rfl 3 (by omega) (by omega) (some ⟨w2.heap.size, 0, none⟩) 1 [9] hC (by simp) (by omega)
  obtain ⟨T3, hT3⟩ : ∃ T, T = putT sto0 3 [9] := ⟨_, rfl⟩
  rw [← hT3] at hput
  obtain ⟨T0, hT0⟩ : ∃ T, T = sto0 := ⟨_, rfl⟩
  rw [← hT0] at HS2
  have HPUT := Aside0.mk hput
  have HBB := Aside0.mk hbb
  have HT3 := Aside0.mk hT3
  clear hput hC hrow hbb hT3 hT0
  go_wp2_with fail
  refine HPUT.out.mono ?_
  rintro e w3 ⟨rfl, hs3, hk3⟩
  have HS3 := Aside0.mk hs3
  have HB3 := Aside0.mk (hk3.to_below (below_step HB2.out HBB.out) (Nat.le_trans HB2.out.size HBB.out.size) (fun k hk => by rw [hk]; exact HS2.out.bn))
  clear hs3 hk3
  go_wp2_with fail
  refine (get_some w3 w.heap.size s b kb sb km nm _ 0 1 _ HS3.out (by rw [HT3.out]; rfl) 3 (by omega) (by omega) 0 [9] (by rw [HT3.out]; rfl) (by simp)).mono ?_
  rintro e w4 ⟨A', c', rfl, hr, hb⟩
  obtain ⟨A2, c2, e2, _, hC⟩ := hr.reads
  injection e2 with e3 e5 e4
  subst e3 e4
  clear e5
  obtain ⟨ad, rfl, hcell⟩ := hC.2.2 (by simp)
  obtain ⟨cs, h3, h4, h5⟩ := hcell 0 9 rfl
  have h6 : cs = [.int .u8 9] := h4
  have h7 := h5 0 (.int .u8 9) (by rw [h6]; rfl)
  have hc4 : w4.cell? ad = some (.int .u8 9) := by
    have hsz : (Kd.int .u8).sz = 1 := rfl
    rw [hsz, Nat.mul_one, Nat.add_zero] at h7
    simpa [Addr.add] using h7
  have hs4 := HS3.out.below hb
  have HEP := Aside0.mk (epoch_calls w4 s 1 ((blk_cell hs4.blk 6).trans (by rw [HT3.out]; rfl)) ((blk_cell hs4.blk 2).trans (by rw [HT3.out]; rfl)))
  have HB4 := Aside0.mk (below_step HB3.out hb)
  clear hr hb hC hcell h3 h4 h5 h6 h7 hs4
  go_wp2_with fail
  refine HEP.out.mono ?_
  rintro e w5 ⟨rfl, rfl⟩
  go_wp2
  go_ret
  exact ⟨rfl, HB4.out⟩

set_option maxHeartbeats 2000000 in
set_option maxRecDepth 100000 in
theorem shadowNil_holds (w : World) : Calls Try.prog 7 #[] w fun e w' => e = .returned (.bool true) ∧ Below w.heap.size w w' := by
  go_enter Try.func7, Try.ntmps7
  go_wp2_with fail
  refine (format_nil w).mono ?_
  rintro e w1 ⟨rfl, rfl⟩
  go_wp2_with fail
  refine (open_nil w).mono ?_
  rintro e w1 ⟨rfl, rfl⟩
  go_wp2_with fail
  refine (get_nil w).mono ?_
  rintro e w1 ⟨rfl, rfl⟩
  go_wp2_with fail
  refine (room_nil w).mono ?_
  rintro e w1 ⟨rfl, rfl⟩
  go_wp2_with fail
  refine (listed_nil w).mono ?_
  rintro e w1 ⟨rfl, hb1⟩
  have HB1 := Aside0.mk hb1
  clear hb1
  go_wp2_with fail
  refine (awake_calls w1).mono ?_
  rintro e w2 ⟨rfl, hb2⟩
  have HB2 := Aside0.mk (below_step HB1.out hb2)
  clear hb2
  go_wp2_with fail
  refine (put_nil w2 _).mono ?_
  rintro e w3 ⟨rfl, rfl⟩
  go_wp2_with fail
  refine (drop_nil w2).mono ?_
  rintro e w3 ⟨rfl, rfl⟩
  go_wp2_with fail
  refine (commit_nil w2).mono ?_
  rintro e w3 ⟨rfl, rfl⟩
  go_wp2_with fail
  refine (rollback_nil w2).mono ?_
  rintro e w3 ⟨rfl, rfl⟩
  go_wp2_with fail
  refine (epoch_nil w2).mono ?_
  rintro e w3 ⟨rfl, rfl⟩
  go_wp2
  go_ret
  exact ⟨rfl, HB2.out⟩
end Go.Proofs.Ytppaainapcpnhaa.Sh
