/- What a page's bytes hold: pages.Unpack; awake. -/
import Derived.Test.YtbhiepfejlhbnaaHPack
import Derived.Deep.QuietTactic
import Derived.BigQuiet
namespace Go.Proofs.Ytbhiepfejlhbnaa.Q
open Go.RowKit Go.Proofs.YtbhiepfejlhbnaaW.PrintWords Go.Proofs.YtbhiepfejlhbnaaW.PrintLast Go.Proofs.YtbhiepfejlhbnaaW.PrintMore Go.Proofs.Ytbhiepfejlhbnaa.ApartKit Go.Proofs.Ytbhiepfejlhbnaa.HApart
set_option linter.unusedVariables false
set_option linter.unusedSimpArgs false

theorem get32_le4 (a : Int) (r : List Int) (h0 : 0 ≤ a) (h1 : a ≤ 4294967295) : pages_get32.f (le4 a ++ r) = some a := by
  have hl : ((le4 a ++ r).length : Int) = 4 + (r.length : Int) := by simp [le4]; omega
  have e0 : rd (le4 a ++ r) 0 = a % 256 := rfl
  have e1 : rd (le4 a ++ r) 1 = a / 256 % 256 := rfl
  have e2 : rd (le4 a ++ r) 2 = a / 65536 % 256 := rfl
  have e3 : rd (le4 a ++ r) 3 = a / 16777216 % 256 := rfl
  unfold pages_get32.f
  rw [hl, if_pos (by omega), if_pos (by omega), if_pos (by omega), if_pos (by omega), e0, e1, e2, e3]
  have f1 : Go.bits .or .u32 (a % 256 % 4294967296) (a / 256 % 256 % 4294967296 * 256 % 4294967296) = a % 65536 := by rw [u32_or8 _ _ (by omega) (by omega) (by omega) (by omega) (by omega)]; omega
  have f2 : Go.bits .or .u32 (a % 65536) (a / 65536 % 256 % 4294967296 * 65536 % 4294967296) = a % 16777216 := by rw [u32_or16 _ _ (by omega) (by omega) (by omega) (by omega) (by omega)]; omega
  have f3 : Go.bits .or .u32 (a % 16777216) (a / 16777216 % 256 % 4294967296 * 16777216 % 4294967296) = a := by rw [u32_or24 _ _ (by omega) (by omega) (by omega) (by omega) (by omega)]; omega
  rw [f1, f2, f3]

theorem C_zero {w : World} {k : IntKind} {A : Option Addr} {xs : List Int} (h : xs.length = 0) : (Kd.int k).C w A xs.length xs := ⟨rfl, by omega, fun hp => by omega⟩
theorem splice_all {L cs : List Value} (h : L.length = cs.length) : splice L 0 cs = cs := by
  simp [splice, List.drop_eq_nil_of_le (Nat.le_of_eq h)]

theorem sum_range : ∀ (k : Nat), (∀ (x : Int) (l : List Int) (n i r : Int), sum_Sum.l0 k x l n i = some r → 0 ≤ r ∧ r ≤ 4294967295) ∧ (∀ (x : Int) (l : List Int) (n i j r : Int), sum_Sum.l1 k x l n i j = some r → 0 ≤ r ∧ r ≤ 4294967295)
  | 0 => ⟨fun x l n i r h => by simp [sum_Sum.l0] at h, fun x l n i j r h => by simp [sum_Sum.l1] at h⟩
  | k + 1 => by
    obtain ⟨ih0, ih1⟩ := sum_range k
    refine ⟨fun x l n i r h => ?_, fun x l n i j r h => ?_⟩
    · unfold sum_Sum.l0 at h
      split at h
      · split at h
        · split at h
          · exact ih1 _ _ _ _ _ _ h
          · cases h
        · cases h
      · cases h
        have := bits_within .xor .u32 4294967295 x
        exact this
    · unfold sum_Sum.l1 at h
      split at h
      · split at h
        · exact ih1 _ _ _ _ _ _ h
        · exact ih1 _ _ _ _ _ _ h
      · exact ih0 _ _ _ _ _ h

set_option maxHeartbeats 4000000 in
set_option maxRecDepth 100000 in
theorem awake_walk (w : World) (k : Nat) (s : Int) (hs : sum_Sum.f k (restS 7 [1]) = some s) : Calls Try.prog 20 #[] w fun e w' => e = .returned (.bool true) ∧ Below w.heap.size w w' := by
  go_enter Try.func20, Try.ntmps20
  go_wp2_with fail
  have hc : (Kd.int .u8).C (w.alloc (.cells #[.int .u8 1] 5)) (some ⟨w.heap.size, 0, none⟩) 1 [1] := C_of_own (own_lit w w.heap.size #[.int .u8 1] 5 (Nat.le_refl _) (by decide)) (fun j x hj => by
    cases j with
    | zero => simpa using hj
    | succ j => simp at hj) (by decide) (by decide)
  refine (pack_small (w.alloc (.cells #[.int .u8 1] 5)) 7 (some ⟨w.heap.size, 0, none⟩) 1 [1] (by decide) hc (by decide) k s hs).mono ?_
  rintro e w1 ⟨b, rfl, h1, hb1⟩
  have c4 : w1.cell? ⟨b, 4, none⟩ = some (.int .u8 7) := own_cell h1 rfl
  have HB := Aside0.mk (below_step (below_alloc (Below.refl w.heap.size w) (.cells #[.int .u8 1] 5)) hb1)
  clear h1 hb1 hc hs
  go_wp2
  go_ret
  exact ⟨rfl, HB.out⟩

set_option maxHeartbeats 4000000 in
set_option maxRecDepth 100000 in
theorem unpack_walk (w : World) (base b : Nat) (id s : Int) (d : List Int) (hl : d.length ≤ 116) (h : w.ownsRow base 5 1 (.slice (some ⟨b, 0, none⟩) 128 128) 128 ((pageS s id d).map (.int .u8))) (k : Nat) (hs : sum_Sum.f k (restS id d) = some s) :
    Calls Try.prog 24 #[.slice (some ⟨b, 0, none⟩) 128 128] w fun e w' => ∃ v i, e = .returned (.tuple #[i, v, .int .i64 0]) ∧ w'.ownsRow w.heap.size 5 1 v d.length (d.map (.int .u8)) ∧ Below w.heap.size w w' := by
  have hsr := (sum_range k).1 _ _ _ _ _ hs
  have hn : pages_get32.f (le4 d.length ++ (d ++ List.replicate (116 - d.length) 0)) = some (d.length : Int) := get32_le4 _ _ (by omega) (by omega)
  have hs1 : pages_get32.f (pageS s id d) = some s := get32_le4 _ _ hsr.1 hsr.2
  obtain ⟨i4, hi4⟩ : ∃ r, pages_get32.f (restS id d) = some r := by
    have : (restS id d).length = 124 := restS_len hl
    unfold pages_get32.f
    rw [if_pos (by omega), if_pos (by omega), if_pos (by omega), if_pos (by omega)]
    exact ⟨_, rfl⟩
  have l8 : (le4 d.length ++ (d ++ List.replicate (116 - d.length) 0)).length = 120 := by simp [le4]; omega
  have l4 : (restS id d).length = 124 := restS_len hl
  have l0 : (pageS s id d).length = 128 := pageS_len hl
  have c0 : (Kd.int .u8).C w (some ⟨b, 0, none⟩) (pageS s id d).length (pageS s id d) := C_off h (fun j x hj => by rw [List.getElem?_map, Nat.zero_add, hj]; rfl) (by omega) (by omega)
  have c4 : (Kd.int .u8).C w (some ⟨b, 4, none⟩) (restS id d).length (restS id d) := C_off h (fun j x hj => by
    rw [List.getElem?_map, Nat.add_comm 4 j]
    show ((restS id d)[j]?).map _ = _
    rw [hj]; rfl) (by omega) (by omega)
  have c8 : (Kd.int .u8).C w (some ⟨b, 8, none⟩) (le4 d.length ++ (d ++ List.replicate (116 - d.length) 0)).length (le4 d.length ++ (d ++ List.replicate (116 - d.length) 0)) := C_off h (fun j x hj => by
    rw [List.getElem?_map, Nat.add_comm 8 j]
    show ((le4 d.length ++ (d ++ List.replicate (116 - d.length) 0))[j]?).map _ = _
    rw [hj]; rfl) (by omega) (by omega)
  have c12 : (Kd.int .u8).C w (some ⟨b, 12, none⟩) d.length d := C_off h (fun j x hj => by
    rw [List.getElem?_map, Nat.add_comm 12 j]
    show ((d ++ List.replicate (116 - d.length) 0)[j]?).map _ = _
    rw [List.getElem?_append_left (List.getElem?_eq_some_iff.1 hj).1, hj]; rfl) (by omega) (by omega)
  have cz : ∀ j : Nat, j < 116 - d.length → w.cell? ⟨b, 12 + d.length + j, none⟩ = some (.int .u8 0) := fun j hj => own_cell h (by
    rw [List.getElem?_map, show 12 + d.length + j = (d.length + j) + 12 by omega]
    show ((d ++ List.replicate (116 - d.length) 0)[d.length + j]?).map _ = _
    rw [List.getElem?_append_right (by omega), List.getElem?_replicate, if_pos (by omega)]; rfl)
  have hget8 := pages_get32.calls (some ⟨b, 8, none⟩) 120 _ _ w c8 (by omega) hn
  rw [l8] at hget8
  have HG8 := Lib.hid hget8
  have HC0 := Aside0.mk c0
  have HC4 := Aside0.mk c4
  have HC12 := Aside0.mk c12
  have HCZ := Aside0.mk cz
  have HN := Aside0.mk hn
  have HS1 := Aside0.mk hs1
  have HI4 := Aside0.mk hi4
  have HS := Aside0.mk hs
  have HO := Aside0.mk h
  clear c0 c4 c8 c12 cz hn hs1 hi4 hs h hget8
  obtain ⟨iB, hiB, hzB, hsB, hbB⟩ := info_parts infoB
  have HI := Aside0.mk hiB
  have HZ := Aside0.mk hzB
  have HSS := Aside0.mk hsB
  have HBB := Aside0.mk hbB
  clear hiB hzB hsB hbB
  go_enter Try.func24, Try.ntmps24
  go_wp2_with fail
  refine HG8.out.mono ?_
  rintro e w1 ⟨rfl, ⟨⟨n1, rfl⟩⟩⟩
  have hg0 : ∀ m, Calls Try.prog 35 #[.slice (some ⟨b, 0, none⟩) 128 128] (w.drewN (n1 + m)) fun e w' => e = .returned (.int .u32 s) ∧ ∃ m2, w' = w.drewN (n1 + m2) := fun m => by
    have := pages_get32.calls (some ⟨b, 0, none⟩) 128 _ _ (w.drewN (n1 + m)) (Kd.C_drewN HC0.out _) (by omega) HS1.out
    rw [l0] at this
    exact this.mono fun e w' ⟨he, hd⟩ => ⟨he, by obtain ⟨x, hx⟩ := hd.out; exact ⟨m + x, by rw [hx, World.drewN_drewN, Nat.add_assoc]⟩⟩
  have hg4 : ∀ m, Calls Try.prog 18 #[.slice (some ⟨b, 4, none⟩) 124 124] (w.drewN (n1 + m)) fun e w' => e = .returned (.int .u32 s) ∧ ∃ m2, w' = w.drewN (n1 + m2) := fun m => by
    have := sum_Sum.calls k (some ⟨b, 4, none⟩) 124 _ _ (w.drewN (n1 + m)) (Kd.C_drewN HC4.out _) (by omega) HS.out
    rw [l4] at this
    exact this.mono fun e w' ⟨he, hd⟩ => ⟨he, by obtain ⟨x, hx⟩ := hd.out; exact ⟨m + x, by rw [hx, World.drewN_drewN, Nat.add_assoc]⟩⟩
  have HG0 := Lib.hid hg0
  have HG4 := Lib.hid hg4
  clear hg0 hg4
  have hgt : decide ((d.length : Int) > 116) = false := decide_eq_false (by omega)
  go_wp2_with fail
  go_quiet ((first | exact HG0.out _ | exact HG4.out _))
  go_wp2
  case inl =>
    have H116 := Aside0.mk h
    rw [← h]
    clear h
    refine wp_loop_rounds 1 ?_
    rw [rounds_succ]
    go_wp2_with (first | (at_make; refine wpList_make_full _ rfl _ _ 23 rfl w.heap.size 5 iB (.int .u8 0) 1 Try.underlying23 HI.out HZ.out HSS.out .u32 .u32 _ _ d.length rfl rfl rfl rfl ?aB ?aM ?aS ?_; (case aB => (rw [HBB.out]; omega)); (case aM => (simp only [maxLen]; omega)); (case aS => simp); intro w5 ho hg; have HO5 := Aside0.mk ho; have HG5 := Aside0.mk (show Below w.heap.size w w5 from pw_below_grown (pw_below_drewN (Below.refl _ _) _) _ (by simp) hg (fun k e => by cases e)); clear ho hg) | ((with_reducible refine gate_builtin (b := .copy) (xs := #[.tmp 38, .tmp 44]) rfl ?_); (first | (refine wpList_copy_into rfl (.tmp 38) (.tmp 44) _ _ rfl 5 Try.underlying23 sizeB .u8 w.heap.size w.heap.size d.length d.length 0 d.length d.length (12 + d.length - 12) (if 12 + d.length = 12 then some ⟨b, 0, none⟩ else some ⟨b, 12, none⟩) d _ rfl (congrArg (fun n => Value.slice (if 12 + d.length = 12 then some ⟨b, 0, none⟩ else some ⟨b, 12, none⟩) n (12 + d.length - 12)) (Nat.add_sub_cancel_left (n := 12) (m := d.length))) HO5.out (by (split <;> first | exact C_zero (by omega) | exact Kd.C_below HC12.out HG5.out)) (Nat.le_refl _) (by omega) ?_) | (refine wpList_copy_into rfl (.tmp 38) (.tmp 44) _ _ rfl 5 Try.underlying23 sizeB .u8 w.heap.size w.heap.size d.length d.length 0 d.length d.length (12 + d.length - 12) (some ⟨b, 12, none⟩) d _ rfl (congrArg (fun n => Value.slice (some ⟨b, 12, none⟩) n (12 + d.length - 12)) (Nat.add_sub_cancel_left (n := 12) (m := d.length))) HO5.out (Kd.C_below HC12.out HG5.out) (Nat.le_refl _) (by omega) ?_) | (refine wpList_copy_into rfl (.tmp 38) (.tmp 44) _ _ rfl 5 Try.underlying23 sizeB .u8 w.heap.size w.heap.size d.length d.length 0 d.length d.length (d.length) (some ⟨b, 12, none⟩) d _ rfl rfl HO5.out (Kd.C_below HC12.out HG5.out) (Nat.le_refl _) (by omega) ?_)); intro w6 ho hg; rw [splice_all (by simp [size_madeCells])] at ho; have HO6 := Aside0.mk ho; have HB6 := Aside0.mk (pw_below_grown HG5.out _ HG5.out.size hg (fun k e => by cases e; exact Nat.le_refl _)); clear ho hg))
    all_goals
      have hget4 := pages_get32.calls (some ⟨b, 4, none⟩) 124 _ _ w6 (Kd.C_below HC4.out HB6.out) (by omega) HI4.out
      rw [l4] at hget4
      refine hget4.mono ?_
      rintro e7 w7 ⟨rfl, hd7⟩
      have HO7 := Aside0.mk (own_below HO6.out hd7.below)
      have HB7 := Aside0.mk (below_step HB6.out hd7.below)
      clear hd7 hget4
      go_wp2_with fail
      go_ret3
      first | exact ⟨_, _, rfl, HO7.out, HB7.out⟩ | (have h0 : d.length = 0 := (by first | omega | (have h9 : d = [] := (by assumption); rw [h9]; rfl)); exact ⟨.slice (some ⟨w.heap.size, 0, none⟩) d.length d.length, _, by rw [h0]; rfl, HO7.out, HB7.out⟩)
  go_loopg [29] (129 - (12 + d.length)) (fun kq u29 w' => ∃ j : Nat, u29 = .int .i64 (j : Int) ∧ j ≤ 128 - (12 + d.length) ∧ kq + j = 129 - (12 + d.length) ∧ ∃ m, w' = w.drewN m)
  case atStart => exact ⟨0, rfl, by omega, by omega, _, rfl⟩
  · obtain ⟨j, rfl, hj, hkj, m, rfl⟩ := hrel
    by_cases hlt : j < 128 - (12 + d.length)
    · have hz := HCZ.out j (by omega)
      have hjz : decide ((j : Int) < ((128 - (12 + d.length) : Nat) : Int)) = true := decide_eq_true (by omega)
      have hz2 : (w.drewN m).cell? ⟨b, 12 + d.length + j, none⟩ = some (.int .u8 0) := hz
      cases gk with
      | zero => omega
      | succ g2 =>
        go_wp2_with fail
        go_roundg g2
        case measure => omega
        case rel => exact ⟨j + 1, by push_cast; rfl, by omega, by omega, _, rfl⟩
    · have hjz : decide ((j : Int) < ((128 - (12 + d.length) : Nat) : Int)) = false := decide_eq_false (by omega)
      go_wp2_with (first | (at_make; refine wpList_make_full _ rfl _ _ 23 rfl w.heap.size 5 iB (.int .u8 0) 1 Try.underlying23 HI.out HZ.out HSS.out .u32 .u32 _ _ d.length rfl rfl rfl rfl ?aB ?aM ?aS ?_; (case aB => (rw [HBB.out]; omega)); (case aM => (simp only [maxLen]; omega)); (case aS => simp); intro w5 ho hg; have HO5 := Aside0.mk ho; have HG5 := Aside0.mk (show Below w.heap.size w w5 from pw_below_grown (pw_below_drewN (Below.refl _ _) _) _ (by simp) hg (fun k e => by cases e)); clear ho hg) | ((with_reducible refine gate_builtin (b := .copy) (xs := #[.tmp 38, .tmp 44]) rfl ?_); (first | (refine wpList_copy_into rfl (.tmp 38) (.tmp 44) _ _ rfl 5 Try.underlying23 sizeB .u8 w.heap.size w.heap.size d.length d.length 0 d.length d.length (12 + d.length - 12) (if 12 + d.length = 12 then some ⟨b, 0, none⟩ else some ⟨b, 12, none⟩) d _ rfl (congrArg (fun n => Value.slice (if 12 + d.length = 12 then some ⟨b, 0, none⟩ else some ⟨b, 12, none⟩) n (12 + d.length - 12)) (Nat.add_sub_cancel_left (n := 12) (m := d.length))) HO5.out (by (split <;> first | exact C_zero (by omega) | exact Kd.C_below HC12.out HG5.out)) (Nat.le_refl _) (by omega) ?_) | (refine wpList_copy_into rfl (.tmp 38) (.tmp 44) _ _ rfl 5 Try.underlying23 sizeB .u8 w.heap.size w.heap.size d.length d.length 0 d.length d.length (12 + d.length - 12) (some ⟨b, 12, none⟩) d _ rfl (congrArg (fun n => Value.slice (some ⟨b, 12, none⟩) n (12 + d.length - 12)) (Nat.add_sub_cancel_left (n := 12) (m := d.length))) HO5.out (Kd.C_below HC12.out HG5.out) (Nat.le_refl _) (by omega) ?_) | (refine wpList_copy_into rfl (.tmp 38) (.tmp 44) _ _ rfl 5 Try.underlying23 sizeB .u8 w.heap.size w.heap.size d.length d.length 0 d.length d.length (d.length) (some ⟨b, 12, none⟩) d _ rfl rfl HO5.out (Kd.C_below HC12.out HG5.out) (Nat.le_refl _) (by omega) ?_)); intro w6 ho hg; rw [splice_all (by simp [size_madeCells])] at ho; have HO6 := Aside0.mk ho; have HB6 := Aside0.mk (pw_below_grown HG5.out _ HG5.out.size hg (fun k e => by cases e; exact Nat.le_refl _)); clear ho hg))
      all_goals
        have hget4 := pages_get32.calls (some ⟨b, 4, none⟩) 124 _ _ w6 (Kd.C_below HC4.out HB6.out) (by omega) HI4.out
        rw [l4] at hget4
        refine hget4.mono ?_
        rintro e7 w7 ⟨rfl, hd7⟩
        have HO7 := Aside0.mk (own_below HO6.out hd7.below)
        have HB7 := Aside0.mk (below_step HB6.out hd7.below)
        clear hd7 hget4
        go_wp2_with fail
        go_ret3
        first | exact ⟨_, _, rfl, HO7.out, HB7.out⟩ | (have h0 : d.length = 0 := (by first | omega | (have h9 : d = [] := (by assumption); rw [h9]; rfl)); exact ⟨.slice (some ⟨w.heap.size, 0, none⟩) d.length d.length, _, by rw [h0]; rfl, HO7.out, HB7.out⟩)
end Go.Proofs.Ytbhiepfejlhbnaa.Q
