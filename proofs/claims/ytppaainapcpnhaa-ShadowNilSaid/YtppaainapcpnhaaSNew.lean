/- disk.New, pages.Count. -/
import Derived.Test.YtppaainapcpnhaaSDisk
import Derived.Laws.MakeOwn
import Derived.RegionTactic
namespace Go.Proofs.Ytppaainapcpnhaa.Sh
open Go Go.RowKit Go.Proofs.YtppaainapcpnhaaW.PrintWords Go.Proofs.YtppaainapcpnhaaW.PrintLast Go.Proofs.YtppaainapcpnhaaW.PrintMore Go.Proofs.Ytppaainapcpnhaa.MapKit Go.Maps Go.Proofs.Ytppaainapcpnhaa.ApartKit Go.Proofs.Ytppaainapcpnhaa.Q
attribute [local go_sem] max2_int min2_int max_two min_two max_three min_three max_four min_four
set_option linter.unusedVariables false
set_option linter.unusedSimpArgs false

theorem made_bytes (n : Nat) : madeCells (Value.int .u8 0).cells n = bts (List.replicate n 0) := by
  apply Array.ext'
  simp only [madeCells, bts, Value.cells, List.map_replicate]
  apply List.ext_getElem?
  intro i
  by_cases h : i < n
  · simp [h, List.getElem?_replicate, Nat.mod_one]
  · simp [h, List.getElem?_replicate]
theorem make_bytes (n : Nat) (hn : n ≤ 300000) (W : World) : (Instr.makeSlice 23 (.int .i64 (n : Int)) (.int .i64 (n : Int))).run Try.prog W = .ok (.slice (some ⟨W.heap.size, 0, none⟩) n n) (W.alloc (.cells (bts (List.replicate n 0)) 5)) := by
  obtain ⟨i0, hi, hzz⟩ := Option.map_eq_some_iff.1 info5
  simp only [Prod.mk.injEq] at hzz
  obtain ⟨hz0, hz1, hz2⟩ := hzz
  have := run_makeSlice (P := Try.prog) W 23 5 i0 (.int .u8 0) Try.underlying23 hi hz0 .i64 .i64 (n : Int) (n : Int) (by omega) (Int.le_refl _) (by rw [hz1]; simp; omega) (by rw [hz2]; omega) (by omega)
  rw [this, hz1, Int.toNat_natCast, Nat.mul_one, made_bytes]

def disk0 (n : Nat) : Dsk := ⟨List.replicate (32 * n) 0, List.replicate (32 * n) 0, [], -1⟩

theorem new_at (w : World) (n N : Nat) (hN : N = 32 * n) (kb sb : Nat) (hk : (kb = w.heap.size ∧ sb = w.heap.size + 1) ∨ (kb = w.heap.size + 1 ∧ sb = w.heap.size)) :
    DskAt (((w.alloc (.cells (bts (List.replicate N 0)) 5)).alloc (.cells (bts (List.replicate N 0)) 5)).alloc (.cells #[.slice (some ⟨kb, 0, none⟩) N N, .slice (some ⟨sb, 0, none⟩) N N, .slice none 0 0, .int .i64 (-1)] 93)) w.heap.size (w.heap.size + 1 + 1) kb sb (.slice none 0 0) (disk0 n) := by
  subst hN
  have h0 := heap_alloc_new w (.cells (bts (List.replicate (32 * n) 0)) 5)
  have h1 := heap_alloc_new (w.alloc (.cells (bts (List.replicate (32 * n) 0)) 5)) (.cells (bts (List.replicate (32 * n) 0)) 5)
  have h2 := heap_alloc_new ((w.alloc (.cells (bts (List.replicate (32 * n) 0)) 5)).alloc (.cells (bts (List.replicate (32 * n) 0)) 5)) (.cells #[.slice (some ⟨kb, 0, none⟩) (32 * n) (32 * n), .slice (some ⟨sb, 0, none⟩) (32 * n) (32 * n), .slice none 0 0, .int .i64 (-1)] 93)
  have h0' := blk_alloc (blk_alloc h0 (.cells (bts (List.replicate (32 * n) 0)) 5)) (.cells #[.slice (some ⟨kb, 0, none⟩) (32 * n) (32 * n), .slice (some ⟨sb, 0, none⟩) (32 * n) (32 * n), .slice none 0 0, .int .i64 (-1)] 93)
  have h1' := blk_alloc h1 (.cells #[.slice (some ⟨kb, 0, none⟩) (32 * n) (32 * n), .slice (some ⟨sb, 0, none⟩) (32 * n) (32 * n), .slice none 0 0, .int .i64 (-1)] 93)
  have e1 : (w.alloc (.cells (bts (List.replicate (32 * n) 0)) 5)).heap.size = w.heap.size + 1 := by simp
  have e2 : ((w.alloc (.cells (bts (List.replicate (32 * n) 0)) 5)).alloc (.cells (bts (List.replicate (32 * n) 0)) 5)).heap.size = w.heap.size + 1 + 1 := by simp
  rw [e1] at h1'
  rw [e2] at h2
  have hz : (disk0 n).kept.length = 32 * n := by simp [disk0]
  have hz2 : (disk0 n).seen.length = 32 * n := by simp [disk0]
  refine ⟨by rw [hz, hz2]; exact h2, ?_, ?_, by omega, by omega, by omega, by omega, by rw [hz, hz2], ⟨[], own_nil _ _ _ _, rfl, fun i s v hi => by simp at hi⟩⟩
  · rcases hk with ⟨rfl, rfl⟩ | ⟨rfl, rfl⟩
    · exact h0'
    · exact h1'
  · rcases hk with ⟨rfl, rfl⟩ | ⟨rfl, rfl⟩
    · exact h1'
    · exact h0'

set_option maxHeartbeats 2000000 in
set_option maxRecDepth 100000 in
theorem new_calls (w : World) (n : Nat) (h1 : 1 ≤ n) (hn : n ≤ 8192) : Calls Try.prog 31 #[.int .i64 (n : Int)] w fun e w' => ∃ b kb sb, e = .returned (.tuple #[.pointer (some ⟨b, 0, none⟩), .int .i64 0]) ∧ DskAt w' w.heap.size b kb sb (.slice none 0 0) (disk0 n) ∧ Below w.heap.size w w' := by
  obtain ⟨N, hN⟩ : ∃ N, N = 32 * n := ⟨_, rfl⟩
  have hmul : (n : Int) * 32 = (N : Int) := by omega
  have hmk := make_bytes N (by omega)
  have HN := Aside0.mk hN
  clear hN
  go_enter Try.func31, Try.ntmps31
  go_upto_region 4 with fail
  go_region
  all_goals
    go_wp2
    go_ret2
    have hb : Below w.heap.size w ((w.alloc (.cells (bts (List.replicate N 0)) 5)).alloc (.cells (bts (List.replicate N 0)) 5)) := below_alloc (below_alloc (Below.refl _ _) _) _
    first
      | exact ⟨_, _, _, rfl, new_at w n N HN.out w.heap.size (w.heap.size + 1) (.inl ⟨rfl, rfl⟩) |>.below (below_drew (Below.refl _ _)), below_drew (below_alloc hb _)⟩
      | exact ⟨_, _, _, rfl, new_at w n N HN.out (w.heap.size + 1) w.heap.size (.inr ⟨rfl, rfl⟩) |>.below (below_drew (Below.refl _ _)), below_drew (below_alloc hb _)⟩

theorem count_calls (w : World) (base b kb sb : Nat) (vp : Value) (D : Dsk) (h : DskAt w base b kb sb vp D) (n : Nat) (hn : D.seen.length = 32 * n) (hl : n ≤ 8192) : Calls Try.prog 45 #[.pointer (some ⟨b, 0, none⟩)] w fun e w' => e = .returned (.int .i64 ((n / 4 : Nat) : Int)) ∧ w = w' := by
  have HLEN := Aside0.mk (len_calls w base b kb sb vp D h n hn hl)
  clear h hn
  go_enter Try.func45, Try.ntmps45
  go_wp2_with fail
  refine HLEN.out.mono ?_
  rintro e w' ⟨rfl, rfl⟩
  go_wp2
  go_ret
  exact ⟨by show Ending.returned (.int .i64 ((n : Int) / 4)) = _; rw [show ((n / 4 : Nat) : Int) = (n : Int) / 4 from by omega], rfl⟩
end Go.Proofs.Ytppaainapcpnhaa.Sh
