/- Format: a store without data. -/
import Derived.Test.YtppaainapcpnhaaSRoot
namespace Go.Proofs.Ytppaainapcpnhaa.Sh
open Go Go.RowKit Go.Proofs.YtppaainapcpnhaaW.PrintWords Go.Proofs.YtppaainapcpnhaaW.PrintLast Go.Proofs.YtppaainapcpnhaaW.PrintMore Go.Proofs.Ytppaainapcpnhaa.MapKit Go.Maps Go.Proofs.Ytppaainapcpnhaa.ApartKit Go.Proofs.Ytppaainapcpnhaa.Q
attribute [local go_sem] max2_int min2_int max_two min_two max_three min_three max_four min_four
set_option linter.unusedVariables false
set_option linter.unusedSimpArgs false

theorem DF_next {w0 : World} {b kb sb : Nat} {vp vp' : Value} (hv : (vp'.ownBlock = vp.ownBlock ∨ vp'.ownBlock = none ∨ ∃ k, vp'.ownBlock = some k ∧ w0.heap.size ≤ k)) {k : Nat} (hk : DF b kb sb vp' k) : DF b kb sb vp k ∨ w0.heap.size ≤ k := by
  rcases hk with hk | hk | hk | hk
  · exact .inl (.inl hk)
  · exact .inl (.inr (.inl hk))
  · exact .inl (.inr (.inr (.inl hk)))
  · rcases hv with h | h | ⟨j, h, h2⟩
    · exact .inl (.inr (.inr (.inr (by rw [← h]; exact hk))))
    · rw [h] at hk; cases hk
    · rw [h] at hk
      cases hk
      exact .inr h2
theorem DF_after {w0 w : World} {vp vp' vp2 : Value} (hv : (vp'.ownBlock = vp.ownBlock ∨ vp'.ownBlock = none ∨ ∃ k, vp'.ownBlock = some k ∧ w0.heap.size ≤ k)) (h2 : (vp2.ownBlock = vp'.ownBlock ∨ vp2.ownBlock = none ∨ ∃ k, vp2.ownBlock = some k ∧ w.heap.size ≤ k)) (hs : w0.heap.size ≤ w.heap.size) :
    (vp2.ownBlock = vp.ownBlock ∨ vp2.ownBlock = none ∨ ∃ k, vp2.ownBlock = some k ∧ w0.heap.size ≤ k) := by
  rcases h2 with h | h | ⟨k, h, h3⟩
  · rw [h]; exact hv
  · exact .inr (.inl h)
  · exact .inr (.inr ⟨k, h, Nat.le_trans hs h3⟩)

def sto0 : Sto := { root := 0, epoch := 1, tables := [], kept := fun _ => none, now := fun _ => none, dead := false }
def zero32 : List Int := List.replicate 32 0
def formatted (D : Dsk) : Dsk := synced (wrote (synced (wrote D 4 zero32)) 0 (rootOf sto0))
theorem spent_neg : spent (-1) = -1 := rfl

def FormatPost (w : World) (base b kb sb : Nat) (vp : Value) (D : Dsk) (e : Ending) (w' : World) : Prop :=
  ∃ s km nm vp', e = .returned (.tuple #[.pointer (some ⟨s, 0, none⟩), .int .i64 0]) ∧ DskAt w' base b kb sb vp' (formatted D) ∧ StoAt w' base s b kb sb km nm (.slice none 0 0) 0 0 sto0 ∧ KS w w' (DF b kb sb vp) ∧ (vp'.ownBlock = vp.ownBlock ∨ vp'.ownBlock = none ∨ ∃ k, vp'.ownBlock = some k ∧ w.heap.size ≤ k)

theorem sto0_at (w : World) (base b kb sb : Nat) (hbase : base ≤ w.heap.size) :
    StoAt (((w.alloc (.map #[] 0)).alloc (.map #[] 0)).alloc (.cells #[.pointer (some ⟨b, 0, none⟩), .int .i64 0, .int .u64 1, .slice none 0 0, .map (some w.heap.size), .map (some (w.heap.size + 1)), .bool false] 76)) base (w.heap.size + 1 + 1) b kb sb w.heap.size (w.heap.size + 1) (.slice none 0 0) 0 0 sto0 := by
  have e1 : (w.alloc (.map #[] 0)).heap.size = w.heap.size + 1 := by simp
  have h2 := heap_alloc_new ((w.alloc (.map #[] 0)).alloc (.map #[] 0)) (.cells #[.pointer (some ⟨b, 0, none⟩), .int .i64 0, .int .u64 1, .slice none 0 0, .map (some w.heap.size), .map (some (w.heap.size + 1)), .bool false] 76)
  have e2 : ((w.alloc (.map #[] 0)).alloc (.map #[] 0)).heap.size = w.heap.size + 1 + 1 := by simp
  rw [e2] at h2
  have k0 := PMap.made w base kb sb
  have k1 := PMap.made (w.alloc (.map #[] 0)) base kb sb
  rw [e1] at k1
  have bel : ∀ {W : World} {m : Nat} {F} (o : Obj), PMap W base kb sb m 0 F → PMap (W.alloc o) base kb sb m 0 F := fun {W m F} o h => h.keep (KS.of_below (below_alloc (Below.refl _ _) o) (fun _ => False)) id (fun k cs hs => hs.elim)
  exact ⟨h2, own_nil _ _ _ _, bel _ (bel _ k0), bel _ k1, by omega, by omega, by omega, by omega⟩

set_option maxHeartbeats 4000000 in
set_option maxRecDepth 100000 in
theorem format_calls (w : World) (base b kb sb : Nat) (vp : Value) (D : Dsk) (hD : DskAt w base b kb sb vp D) (hbase : base ≤ w.heap.size) (n : Nat) (hn : D.seen.length = 32 * n) (hl : n ≤ 8192) (hp : D.pend.length ≤ 4000000) (hlf : D.life = -1) (hn12 : 12 ≤ n) :
    Calls Try.prog 28 #[.pointer (some ⟨b, 0, none⟩)] w (FormatPost w base b kb sb vp D) := by
  have L1 := Aside0.mk (show (wrote D 4 zero32).seen.length = 32 * n from putS_length hn (by omega) (by simp [zero32]))
  have L2 := Aside0.mk (show (synced (wrote D 4 zero32)).seen.length = 32 * n from L1.out)
  have L3 := Aside0.mk (show (wrote (synced (wrote D 4 zero32)) 0 (rootOf sto0)).seen.length = 32 * n from putS_length L2.out (by omega) (rootB_length _ _ _))
  have E1 := Aside0.mk (show (wrote D 4 zero32).life = -1 by show spent D.life = -1; rw [hlf]; rfl)
  have E2 := Aside0.mk (show (synced (wrote D 4 zero32)).life = -1 by show spent (wrote D 4 zero32).life = -1; rw [E1.out]; rfl)
  have E3 := Aside0.mk (show (wrote (synced (wrote D 4 zero32)) 0 (rootOf sto0)).life = -1 by show spent (synced (wrote D 4 zero32)).life = -1; rw [E2.out]; rfl)
  have hcnt := count_calls w base b kb sb vp D hD n hn hl
  obtain ⟨m, hm⟩ : ∃ m, m = n / 4 := ⟨_, rfl⟩
  rw [← hm] at hcnt
  have HCNT := Aside0.mk hcnt
  have hm3 : 3 ≤ m := by omega
  have hdm : decide ((m : Int) < 3) = false := decide_eq_false (by omega)
  have HD := Aside0.mk hD
  have HN := Aside0.mk hn
  have HPL := Aside0.mk hp
  have HLF := Aside0.mk hlf
  have hmk : ∀ W : World, (Instr.makeSlice 23 (.int .i64 32) (.int .i64 32)).run Try.prog W = .ok (.slice (some ⟨W.heap.size, 0, none⟩) 32 32) (W.alloc (.cells (bts zero32) 5)) := fun W => make_bytes 32 (by omega) W
  have hmm := @run_makeMap Try.prog
  clear hD hn hp hlf hcnt hm
  go_enter Try.func28, Try.ntmps28
  go_wp2_with fail
  refine HCNT.out.mono ?_
  rintro e w' ⟨rfl, rfl⟩
  go_upto_region 6 with fail
  have hst := sto0_at w base b kb sb hbase
  have hb1 : Below w.heap.size w (((w.alloc (.map #[] 0)).alloc (.map #[] 0)).alloc (.cells #[.pointer (some ⟨b, 0, none⟩), .int .i64 0, .int .u64 1, .slice none 0 0, .map (some w.heap.size), .map (some (w.heap.size + 1)), .bool false] 76)) := below_alloc (below_alloc (below_alloc (Below.refl _ _) _) _) _
  generalize ((w.alloc (.map #[] 0)).alloc (.map #[] 0)).alloc (.cells #[.pointer (some ⟨b, 0, none⟩), .int .i64 0, .int .u64 1, .slice none 0 0, .map (some w.heap.size), .map (some (w.heap.size + 1)), .bool false] 76) = w1 at *
  obtain ⟨s, hs⟩ : ∃ s, s = w.heap.size + 1 + 1 := ⟨_, rfl⟩
  obtain ⟨nm, hnm⟩ : ∃ s, s = w.heap.size + 1 := ⟨_, rfl⟩
  rw [← hs, ← hnm] at hst
  rw [← hs, ← hnm]
  obtain ⟨km, hkm⟩ : ∃ s, s = w.heap.size := ⟨_, rfl⟩
  rw [← hkm] at hst
  rw [← hkm]
  clear hs hnm hkm
  have hbA : Below w1.heap.size w1 (w1.drew.alloc (.cells (bts (zero32)) 5)) := below_alloc (below_drew (Below.refl _ _)) _
  have hbwA : Below w.heap.size w (w1.drew.alloc (.cells (bts (zero32)) 5)) := below_step hb1 hbA
  have hwA : w1.heap.size ≤ (w1.drew.alloc (.cells (bts (zero32)) 5)).heap.size := hbA.size
  have hnew : (w1.drew.alloc (.cells (bts (zero32)) 5)).heap[w1.heap.size]? = some (.cells (bts zero32) 5 (0, 0)) := heap_alloc_new w1.drew _
  have HWS := Aside0.mk hbwA
  have HDA := Aside0.mk (HD.out.below hbwA)
  have HTA := Aside0.mk (hst.below hbA)
  have HKA := Aside0.mk (show KS w (w1.drew.alloc (.cells (bts (zero32)) 5)) (DF b kb sb vp) from KS.of_below hbwA _)
  have HVA := Aside0.mk (show (vp.ownBlock = vp.ownBlock ∨ vp.ownBlock = none ∨ ∃ k, vp.ownBlock = some k ∧ w.heap.size ≤ k) from .inl rfl)
  have hwr := write_calls (w1.drew.alloc (.cells (bts (zero32)) 5)) base b kb sb vp D HDA.out (Nat.le_trans hbase hbwA.size) n HN.out hl HPL.out (by rw [HLF.out]; omega) (by rw [HLF.out]; omega) 4 (by omega) (by rw [HLF.out]; omega) (some ⟨w1.heap.size, 0, none⟩) 32 zero32 (by simp [zero32]) (fun W hk => by
    have hne : ¬ DF b kb sb vp w1.heap.size := fun hd => by
      have h3 := DF_lt HD.out hd
      have h4 := hb1.size
      omega
    have hW : W.heap[w1.heap.size]? = some (.cells (bts zero32) 5 (0, 0)) := (hk.block (blk_lt hnew) hne).trans hnew
    have hbr : BRow W 0 (.slice (some ⟨w1.heap.size, 0, none⟩) 32 32) zero32 := ⟨rfl, .inr ⟨w1.heap.size, 32, _, rfl, Nat.zero_le _, hW, Nat.le_refl _, by unfold maxLen; omega, rfl, rfl⟩⟩
    obtain ⟨A2, c2', e, _, hC⟩ := hbr.reads
    injection e with e1 _ _
    rw [e1]
    exact hC)
  have HWR := Aside0.mk hwr
  have cs0 : w1.cell? ⟨s, 0, none⟩ = some (.pointer (some ⟨b, 0, none⟩)) := (blk_cell hst.blk 0).trans rfl
  have cs0d : w1.drew.cell? ⟨s, 0, none⟩ = some (.pointer (some ⟨b, 0, none⟩)) := cs0
  clear hwr hnew hwA hbwA hbA hst hb1
  refine start_ (n := 28) (S := (fun w' => w'.cell? ⟨s, 0, none⟩ = some (.pointer (some ⟨b, 0, none⟩)))) (ds := []) #[false, false, false, false, false, false, false, false, false, false, false, false, false, false, false, false, false, false, false, false, false, false, false, false, false, false, false, false] (by kernel_rfl) rfl rfl cs0d (fun hHeld => ?_)
  refine pure_ (i := 0) (N := some 17) (v := ?_) (a' := ?_) #[true, false, false, false, false, false, false, false, false, false, false, false, false, false, false, false, false, false, false, false, false, false, false, false, false, false, false, false] rfl rfl (by kernel_rfl) (fun _ _ _ h => h) (Or.inl ⟨by rfl, ?_⟩) ?_ ?_
  rotate_left
  · intro w'
    go_simp
    with_reducible rfl
  rotate_left
  · simp only [Act.put, List.setIfInBounds_toArray, List.set_cons_zero, List.set_cons_succ]
    rfl
  refine pure_ (i := 1) (N := some 18) (v := ?_) (a' := ?_) #[true, true, false, false, false, false, false, false, false, false, false, false, false, false, false, false, false, false, false, false, false, false, false, false, false, false, false, false] rfl rfl (by kernel_rfl) (fun _ _ _ h => h) (Or.inl ⟨by rfl, ?_⟩) ?_ ?_
  rotate_left
  · intro w'
    go_simp
    with_reducible rfl
  rotate_left
  · simp only [Act.put, List.setIfInBounds_toArray, List.set_cons_zero, List.set_cons_succ]
    rfl
  refine pure_ (i := 2) (N := some 19) (v := ?_) (a' := ?_) #[true, true, true, false, false, false, false, false, false, false, false, false, false, false, false, false, false, false, false, false, false, false, false, false, false, false, false, false] rfl rfl (by kernel_rfl) (fun _ _ _ h => h) (Or.inl ⟨by rfl, ?_⟩) ?_ ?_
  rotate_left
  · intro w'
    go_simp
    with_reducible rfl
  rotate_left
  · simp only [Act.put, List.setIfInBounds_toArray, List.set_cons_zero, List.set_cons_succ]
    rfl
  refine take_ (i := 3) (N := some 20) (v := ?_) (a' := ?_) #[true, true, true, true, false, false, false, false, false, false, false, false, false, false, false, false, false, false, false, false, false, false, false, false, false, false, false, false] rfl rfl (by kernel_rfl) (fun _ _ _ h => h) (Or.inl ⟨by rfl, ?_⟩) hHeld ?_ ?_
  rotate_left
  · rintro w' s0
    go_simp
    with_reducible rfl
  rotate_left
  · simp only [Act.put, List.setIfInBounds_toArray, List.set_cons_zero, List.set_cons_succ]
    rfl
  refine one_ (i := 4) (N := some 21) #[true, true, true, true, true, false, false, false, false, false, false, false, false, false, false, false, false, false, false, false, false, false, false, false, false, false, false, false] rfl rfl (by kernel_rfl) (by decide) (fun K hK => ?_)
  refine value_ (v := .slice (some ⟨w1.heap.size, 0, none⟩) 32 32) (w1 := w1.drew.alloc (.cells (bts (zero32)) 5)) (by rfl) rfl (by go_simp) ?_
  refine hK.out _ _ (pw_cell_below (below_alloc (below_drew (Below.refl _ _)) _) cs0) (fun hHeld => ?_)
  clear hK K
  refine norm_ (a' := ?_) ?_ ?_
  rotate_left
  · show Act.put _ (some 21) _ = _
    simp only [Act.put, List.setIfInBounds_toArray, List.set_cons_zero, List.set_cons_succ]
    rfl
  refine one_ (i := 5) (N := some 22) #[true, true, true, true, true, true, false, false, false, false, false, false, false, false, false, false, false, false, false, false, false, false, false, false, false, false, false, false] rfl rfl (by kernel_rfl) (by decide) (fun K hK => ?_)
  refine goes_ Try.func48 (by kernel_rfl) rfl #[.pointer (some ⟨b, 0, none⟩), .int .i64 ((4 : Nat) : Int), .slice (some ⟨w1.heap.size, 0, none⟩) 32 32] (by rfl) rfl rfl (by first | rfl | simp [Act.eval]) ?_
  refine (HWR.out).mono ?_
  rintro e wB ⟨rfl, vpB, hdB, hkB, hvB⟩
  refine ⟨_, rfl, ?_⟩
  have HTB := Aside0.mk (HTA.out.disk HDA.out hkB)
  have HDB := Aside0.mk hdB
  have HKB := Aside0.mk (HKA.out.then_ hkB (fun k hk => DF_next HVA.out hk))
  have HVB := Aside0.mk (DF_after HVA.out hvB HKA.out.size)
  clear hdB hkB hvB
  refine hK.out _ _ ((blk_cell HTB.out.blk 0).trans rfl) (fun hHeld => ?_)
  clear hK K
  refine norm_ (a' := ?_) ?_ ?_
  rotate_left
  · show Act.put _ (some 22) _ = _
    simp only [Act.put, List.setIfInBounds_toArray, List.set_cons_zero, List.set_cons_succ]
    rfl
  refine pure_ (i := 6) (N := some 23) (v := .bool false) (a' := ?_) #[true, true, true, true, true, true, true, false, false, false, false, false, false, false, false, false, false, false, false, false, false, false, false, false, false, false, false, false] rfl rfl (by kernel_rfl) (fun _ _ _ h => h) (Or.inl ⟨by rfl, fun w' => ?_⟩) ?_ ?_
  · go_simp
  rotate_left
  · simp only [Act.put, List.setIfInBounds_toArray, List.set_cons_zero, List.set_cons_succ]
    rfl
  refine pure_ (i := 7) (N := some 24) (v := ?_) (a' := ?_) #[true, true, true, true, true, true, true, true, false, false, false, false, false, false, false, false, false, false, false, false, false, false, false, false, false, false, false, false] rfl rfl (by kernel_rfl) (fun _ _ _ h => h) (Or.inl ⟨by rfl, ?_⟩) ?_ ?_
  rotate_left
  · intro w'
    go_simp
    with_reducible rfl
  rotate_left
  · simp only [Act.put, List.setIfInBounds_toArray, List.set_cons_zero, List.set_cons_succ]
    rfl
  refine pure_ (i := 8) (N := some 25) (v := ?_) (a' := ?_) #[true, true, true, true, true, true, true, true, true, false, false, false, false, false, false, false, false, false, false, false, false, false, false, false, false, false, false, false] rfl rfl (by kernel_rfl) (fun _ _ _ h => h) (Or.inl ⟨by rfl, ?_⟩) ?_ ?_
  rotate_left
  · intro w'
    go_simp
    with_reducible rfl
  rotate_left
  · simp only [Act.put, List.setIfInBounds_toArray, List.set_cons_zero, List.set_cons_succ]
    rfl
  refine pure_ (i := 9) (N := some 26) (v := ?_) (a' := ?_) #[true, true, true, true, true, true, true, true, true, true, false, false, false, false, false, false, false, false, false, false, false, false, false, false, false, false, false, false] rfl rfl (by kernel_rfl) (fun _ _ _ h => h) (Or.inl ⟨by rfl, ?_⟩) ?_ ?_
  rotate_left
  · intro w'
    go_simp
    with_reducible rfl
  rotate_left
  · simp only [Act.put, List.setIfInBounds_toArray, List.set_cons_zero, List.set_cons_succ]
    rfl
  refine pure_ (i := 10) (N := some 27) (v := ?_) (a' := ?_) #[true, true, true, true, true, true, true, true, true, true, true, false, false, false, false, false, false, false, false, false, false, false, false, false, false, false, false, false] rfl rfl (by kernel_rfl) (fun _ _ _ h => h) (Or.inl ⟨by rfl, ?_⟩) ?_ ?_
  rotate_left
  · intro w'
    go_simp
    with_reducible rfl
  rotate_left
  · simp only [Act.put, List.setIfInBounds_toArray, List.set_cons_zero, List.set_cons_succ]
    rfl
  refine take_ (i := 11) (N := some 28) (v := ?_) (a' := ?_) #[true, true, true, true, true, true, true, true, true, true, true, true, false, false, false, false, false, false, false, false, false, false, false, false, false, false, false, false] rfl rfl (by kernel_rfl) (fun _ _ _ h => h) (Or.inl ⟨by rfl, ?_⟩) hHeld ?_ ?_
  rotate_left
  · rintro w' s0
    go_simp
    with_reducible rfl
  rotate_left
  · simp only [Act.put, List.setIfInBounds_toArray, List.set_cons_zero, List.set_cons_succ]
    rfl
  refine one_ (i := 12) (N := some 29) #[true, true, true, true, true, true, true, true, true, true, true, true, true, false, false, false, false, false, false, false, false, false, false, false, false, false, false, false] rfl rfl (by kernel_rfl) (by decide) (fun K hK => ?_)
  refine goes_ Try.func49 (by kernel_rfl) rfl #[.pointer (some ⟨b, 0, none⟩)] (by rfl) rfl rfl (by first | rfl | simp [Act.eval]) ?_
  refine (barrier_calls wB base b kb sb vpB _ HDB.out n (L1.out) (by omega) hl (by rw [E1.out]; omega) (by rw [E1.out]; omega) (by rw [E1.out]; omega)).mono ?_
  rintro e wC ⟨rfl, vpC, hdC, hkC, hvC⟩
  refine ⟨_, rfl, ?_⟩
  have HTC := Aside0.mk (HTB.out.disk HDB.out hkC)
  have HDC := Aside0.mk hdC
  have HKC := Aside0.mk (HKB.out.then_ hkC (fun k hk => DF_next HVB.out hk))
  have HVC := Aside0.mk (DF_after HVB.out hvC HKB.out.size)
  clear hdC hkC hvC
  refine hK.out _ _ ((blk_cell HTC.out.blk 0).trans rfl) (fun hHeld => ?_)
  clear hK K
  refine norm_ (a' := ?_) ?_ ?_
  rotate_left
  · show Act.put _ (some 29) _ = _
    simp only [Act.put, List.setIfInBounds_toArray, List.set_cons_zero, List.set_cons_succ]
    rfl
  refine pure_ (i := 13) (N := some 30) (v := .bool false) (a' := ?_) #[true, true, true, true, true, true, true, true, true, true, true, true, true, true, false, false, false, false, false, false, false, false, false, false, false, false, false, false] rfl rfl (by kernel_rfl) (fun _ _ _ h => h) (Or.inl ⟨by rfl, fun w' => ?_⟩) ?_ ?_
  · go_simp
  rotate_left
  · simp only [Act.put, List.setIfInBounds_toArray, List.set_cons_zero, List.set_cons_succ]
    rfl
  refine pure_ (i := 14) (N := some 31) (v := ?_) (a' := ?_) #[true, true, true, true, true, true, true, true, true, true, true, true, true, true, true, false, false, false, false, false, false, false, false, false, false, false, false, false] rfl rfl (by kernel_rfl) (fun _ _ _ h => h) (Or.inl ⟨by rfl, ?_⟩) ?_ ?_
  rotate_left
  · intro w'
    go_simp
    with_reducible rfl
  rotate_left
  · simp only [Act.put, List.setIfInBounds_toArray, List.set_cons_zero, List.set_cons_succ]
    rfl
  refine pure_ (i := 15) (N := some 32) (v := ?_) (a' := ?_) #[true, true, true, true, true, true, true, true, true, true, true, true, true, true, true, true, false, false, false, false, false, false, false, false, false, false, false, false] rfl rfl (by kernel_rfl) (fun _ _ _ h => h) (Or.inl ⟨by rfl, ?_⟩) ?_ ?_
  rotate_left
  · intro w'
    go_simp
    with_reducible rfl
  rotate_left
  · simp only [Act.put, List.setIfInBounds_toArray, List.set_cons_zero, List.set_cons_succ]
    rfl
  refine pure_ (i := 16) (N := some 33) (v := ?_) (a' := ?_) #[true, true, true, true, true, true, true, true, true, true, true, true, true, true, true, true, true, false, false, false, false, false, false, false, false, false, false, false] rfl rfl (by kernel_rfl) (fun _ _ _ h => h) (Or.inl ⟨by rfl, ?_⟩) ?_ ?_
  rotate_left
  · intro w'
    go_simp
    with_reducible rfl
  rotate_left
  · simp only [Act.put, List.setIfInBounds_toArray, List.set_cons_zero, List.set_cons_succ]
    rfl
  refine one_ (i := 17) (N := some 34) #[true, true, true, true, true, true, true, true, true, true, true, true, true, true, true, true, true, true, false, false, false, false, false, false, false, false, false, false] rfl rfl (by kernel_rfl) (by decide) (fun K hK => ?_)
  refine goes_ Try.func50 (by kernel_rfl) rfl #[.pointer (some ⟨s, 0, none⟩), .int .i64 ((0 : Nat) : Int)] (by rfl) rfl rfl (by first | rfl | simp [Act.eval]) ?_
  refine (root_calls wC base s b kb sb _ _ _ vpC 0 0 sto0 _ HDC.out HTC.out (Nat.le_trans hbase HKC.out.size) n L2.out hl (by show (0 : Nat) ≤ 4000000; omega) (by rw [E2.out]; omega) (by rw [E2.out]; omega) (by rw [E2.out]; omega) 0 0 rfl (by omega) hn12 (by show (0 : Nat) ≤ 4000; omega) (by intro t ht; cases ht)).mono ?_
  rintro e wD ⟨rfl, vpD, hdD, hkD, hvD⟩
  refine ⟨_, rfl, ?_⟩
  have HTD := Aside0.mk (HTC.out.disk HDC.out hkD)
  have HDD := Aside0.mk hdD
  have HKD := Aside0.mk (HKC.out.then_ hkD (fun k hk => DF_next HVC.out hk))
  have HVD := Aside0.mk (DF_after HVC.out hvD HKC.out.size)
  clear hdD hkD hvD
  refine hK.out _ _ ((blk_cell HTD.out.blk 0).trans rfl) (fun hHeld => ?_)
  clear hK K
  refine norm_ (a' := ?_) ?_ ?_
  rotate_left
  · show Act.put _ (some 34) _ = _
    simp only [Act.put, List.setIfInBounds_toArray, List.set_cons_zero, List.set_cons_succ]
    rfl
  refine pure_ (i := 18) (N := some 35) (v := .bool false) (a' := ?_) #[true, true, true, true, true, true, true, true, true, true, true, true, true, true, true, true, true, true, true, false, false, false, false, false, false, false, false, false] rfl rfl (by kernel_rfl) (fun _ _ _ h => h) (Or.inl ⟨by rfl, fun w' => ?_⟩) ?_ ?_
  · go_simp
  rotate_left
  · simp only [Act.put, List.setIfInBounds_toArray, List.set_cons_zero, List.set_cons_succ]
    rfl
  refine pure_ (i := 19) (N := some 36) (v := ?_) (a' := ?_) #[true, true, true, true, true, true, true, true, true, true, true, true, true, true, true, true, true, true, true, true, false, false, false, false, false, false, false, false] rfl rfl (by kernel_rfl) (fun _ _ _ h => h) (Or.inl ⟨by rfl, ?_⟩) ?_ ?_
  rotate_left
  · intro w'
    go_simp
    with_reducible rfl
  rotate_left
  · simp only [Act.put, List.setIfInBounds_toArray, List.set_cons_zero, List.set_cons_succ]
    rfl
  refine pure_ (i := 20) (N := some 37) (v := ?_) (a' := ?_) #[true, true, true, true, true, true, true, true, true, true, true, true, true, true, true, true, true, true, true, true, true, false, false, false, false, false, false, false] rfl rfl (by kernel_rfl) (fun _ _ _ h => h) (Or.inl ⟨by rfl, ?_⟩) ?_ ?_
  rotate_left
  · intro w'
    go_simp
    with_reducible rfl
  rotate_left
  · simp only [Act.put, List.setIfInBounds_toArray, List.set_cons_zero, List.set_cons_succ]
    rfl
  refine pure_ (i := 21) (N := some 38) (v := ?_) (a' := ?_) #[true, true, true, true, true, true, true, true, true, true, true, true, true, true, true, true, true, true, true, true, true, true, false, false, false, false, false, false] rfl rfl (by kernel_rfl) (fun _ _ _ h => h) (Or.inl ⟨by rfl, ?_⟩) ?_ ?_
  rotate_left
  · intro w'
    go_simp
    with_reducible rfl
  rotate_left
  · simp only [Act.put, List.setIfInBounds_toArray, List.set_cons_zero, List.set_cons_succ]
    rfl
  refine pure_ (i := 22) (N := some 39) (v := ?_) (a' := ?_) #[true, true, true, true, true, true, true, true, true, true, true, true, true, true, true, true, true, true, true, true, true, true, true, false, false, false, false, false] rfl rfl (by kernel_rfl) (fun _ _ _ h => h) (Or.inl ⟨by rfl, ?_⟩) ?_ ?_
  rotate_left
  · intro w'
    go_simp
    with_reducible rfl
  rotate_left
  · simp only [Act.put, List.setIfInBounds_toArray, List.set_cons_zero, List.set_cons_succ]
    rfl
  refine pure_ (i := 23) (N := some 40) (v := ?_) (a' := ?_) #[true, true, true, true, true, true, true, true, true, true, true, true, true, true, true, true, true, true, true, true, true, true, true, true, false, false, false, false] rfl rfl (by kernel_rfl) (fun _ _ _ h => h) (Or.inl ⟨by rfl, ?_⟩) ?_ ?_
  rotate_left
  · intro w'
    go_simp
    with_reducible rfl
  rotate_left
  · simp only [Act.put, List.setIfInBounds_toArray, List.set_cons_zero, List.set_cons_succ]
    rfl
  refine take_ (i := 24) (N := some 41) (v := ?_) (a' := ?_) #[true, true, true, true, true, true, true, true, true, true, true, true, true, true, true, true, true, true, true, true, true, true, true, true, true, false, false, false] rfl rfl (by kernel_rfl) (fun _ _ _ h => h) (Or.inl ⟨by rfl, ?_⟩) hHeld ?_ ?_
  rotate_left
  · rintro w' s0
    go_simp
    with_reducible rfl
  rotate_left
  · simp only [Act.put, List.setIfInBounds_toArray, List.set_cons_zero, List.set_cons_succ]
    rfl
  refine one_ (i := 25) (N := some 42) #[true, true, true, true, true, true, true, true, true, true, true, true, true, true, true, true, true, true, true, true, true, true, true, true, true, true, false, false] rfl rfl (by kernel_rfl) (by decide) (fun K hK => ?_)
  refine goes_ Try.func49 (by kernel_rfl) rfl #[.pointer (some ⟨b, 0, none⟩)] (by rfl) rfl rfl (by first | rfl | simp [Act.eval]) ?_
  refine (barrier_calls wD base b kb sb vpD _ HDD.out n (L3.out) (by omega) hl (by rw [E3.out]; omega) (by rw [E3.out]; omega) (by rw [E3.out]; omega)).mono ?_
  rintro e wE ⟨rfl, vpE, hdE, hkE, hvE⟩
  refine ⟨_, rfl, ?_⟩
  have HTE := Aside0.mk (HTD.out.disk HDD.out hkE)
  have HDE := Aside0.mk hdE
  have HKE := Aside0.mk (HKD.out.then_ hkE (fun k hk => DF_next HVD.out hk))
  have HVE := Aside0.mk (DF_after HVD.out hvE HKD.out.size)
  clear hdE hkE hvE
  refine hK.out _ _ ((blk_cell HTE.out.blk 0).trans rfl) (fun hHeld => ?_)
  clear hK K
  refine norm_ (a' := ?_) ?_ ?_
  rotate_left
  · show Act.put _ (some 42) _ = _
    simp only [Act.put, List.setIfInBounds_toArray, List.set_cons_zero, List.set_cons_succ]
    rfl
  refine pure_ (i := 26) (N := some 43) (v := .bool false) (a' := ?_) #[true, true, true, true, true, true, true, true, true, true, true, true, true, true, true, true, true, true, true, true, true, true, true, true, true, true, true, false] rfl rfl (by kernel_rfl) (fun _ _ _ h => h) (Or.inl ⟨by rfl, fun w' => ?_⟩) ?_ ?_
  · go_simp
  rotate_left
  · simp only [Act.put, List.setIfInBounds_toArray, List.set_cons_zero, List.set_cons_succ]
    rfl
  refine pure_ (i := 27) (N := some 44) (v := ?_) (a' := ?_) #[true, true, true, true, true, true, true, true, true, true, true, true, true, true, true, true, true, true, true, true, true, true, true, true, true, true, true, true] rfl rfl (by kernel_rfl) (fun _ _ _ h => h) (Or.inl ⟨by rfl, ?_⟩) ?_ ?_
  rotate_left
  · intro w'
    go_simp
    with_reducible rfl
  rotate_left
  · simp only [Act.put, List.setIfInBounds_toArray, List.set_cons_zero, List.set_cons_succ]
    rfl
  refine done_ (by kernel_rfl) ?_
  clear hmk hmm
  go_wp2_with fail
  go_ret2
  exact ⟨s, km, nm, vpE, rfl, HDE.out, HTE.out, HKE.out, HVE.out⟩
end Go.Proofs.Ytppaainapcpnhaa.Sh
