/- The root is written. -/
import Derived.Test.YtppaainapcpnhaaSPut
namespace Go.Proofs.Ytppaainapcpnhaa.Sh
open Go Go.RowKit Go.Proofs.YtppaainapcpnhaaW.PrintWords Go.Proofs.YtppaainapcpnhaaW.PrintLast Go.Proofs.YtppaainapcpnhaaW.PrintMore Go.Proofs.Ytppaainapcpnhaa.MapKit Go.Maps Go.Proofs.Ytppaainapcpnhaa.ApartKit Go.Proofs.Ytppaainapcpnhaa.Q
attribute [local go_sem] max2_int min2_int max_two min_two max_three min_three max_four min_four
set_option linter.unusedVariables false
set_option linter.unusedSimpArgs false

/-- A number in so many bytes, the low ones first. -/
def le (n : Int) : Nat → List Int
  | 0 => []
  | k + 1 => n % 256 :: le (n / 256) k
theorem le_length : ∀ (n : Int) (k : Nat), (le n k).length = k
  | _, 0 => rfl
  | n, k + 1 => by rw [le, List.length_cons, le_length]
theorem lay_l0 : ∀ (m : Nat) (x0 : List Int) (x1 x7 x8 : Int), x8 + m = x7 → 0 ≤ x8 → x7 ≤ 100 → x0.length + m ≤ 1000 → shadow_lay.l0 (m + 1) x0 x1 x7 x8 = some (x0 ++ le x1 m)
  | 0, x0, x1, x7, x8, h, h0, h1, h2 => by
    unfold shadow_lay.l0
    rw [if_neg (by omega), le, List.append_nil]
  | m + 1, x0, x1, x7, x8, h, h0, h1, h2 => by
    unfold shadow_lay.l0
    rw [if_pos (by omega), if_pos (by omega)]
    have hw : wrap64 (x8 + 1) = x8 + 1 := by unfold wrap64; omega
    rw [hw, lay_l0 m _ _ _ _ (by omega) (by omega) h1 (by simp; omega), le, List.append_assoc]
    rfl
theorem lay_f (l0 : List Int) (a : Int) (n : Nat) (hn : n ≤ 100) (hl : l0.length ≤ 900) : shadow_lay.f (n + 1) l0 a (n : Int) = some (l0 ++ le a n) := lay_l0 n l0 a n 0 (by omega) (by omega) (by omega) (by omega)

/-- 'lay' onto a row of the call's own (fresh from w0 on). -/
theorem lay_step (w0 w : World) (hB : Below w0.heap.size w0 w) (v : Value) (l0 : List Int) (a : Int) (n : Nat) (hn : n ≤ 100) (ho : Kd.R (Kd.int .u8) 5 w w0.heap.size (fun _ => True) v l0) (hl : l0.length ≤ 900) :
    Calls Try.prog 62 #[v, .int .u64 a, .int .i64 (n : Int)] w fun e w' => ∃ v', e = .returned v' ∧ Kd.R (Kd.int .u8) 5 w' w0.heap.size (fun _ => True) v' (l0 ++ le a n) ∧ Below w0.heap.size w0 w' :=
  (shadow_lay.calls (n + 1) (fun _ => True) v l0 a n _ w0 w hB ho (lay_f l0 a n hn hl)).mono fun e w' ⟨v', h1, h2, h3, _⟩ => ⟨v', h1, Kd.R_mono h2 (fun _ _ => trivial), h3⟩

/-- The root's bytes. -/
def rootB (ep first cnt : Int) : List Int := le ep 8 ++ le first 4 ++ le cnt 4 ++ le 0 8 ++ le ep 8
theorem rootB_length (ep first cnt : Int) : (rootB ep first cnt).length = 32 := by simp [rootB, le_length]
def rootOf (T : Sto) : List Int := rootB T.epoch (T.tables.headD 0) T.tables.length

theorem DF_lt {w : World} {base b kb sb : Nat} {vp : Value} {D : Dsk} (h : DskAt w base b kb sb vp D) {k : Nat} (hk : DF b kb sb vp k) : k < w.heap.size := by
  rcases hk with rfl | rfl | rfl | hk
  · exact blk_lt h.blk
  · exact blk_lt h.kept
  · exact blk_lt h.seen
  · obtain ⟨PV, ho, _⟩ := h.pend
    exact own_lt ho k hk
theorem DiskPost.from_ {w w1 : World} {base b kb sb : Nat} {vp : Value} {D : Dsk} {r : Int} {e : Ending} {w' : World} (h : DiskPost w1 base b kb sb vp D r e w') (hb : Below w.heap.size w w1) : DiskPost w base b kb sb vp D r e w' := by
  obtain ⟨h1, vp', h2, h3, h4⟩ := h
  refine ⟨h1, vp', h2, (KS.of_below hb _).then_ h3 (fun k hk => .inl hk), ?_⟩
  rcases h4 with h4 | h4 | ⟨k, h4, h5⟩
  · exact .inl h4
  · exact .inr (.inl h4)
  · exact .inr (.inr ⟨k, h4, Nat.le_trans hb.size h5⟩)

set_option maxHeartbeats 4000000 in
set_option maxRecDepth 100000 in
theorem root_calls (w : World) (base s b kb sb km nm : Nat) (vt vp : Value) (nk nn : Nat) (T : Sto) (D : Dsk) (hD : DskAt w base b kb sb vp D) (h : StoAt w base s b kb sb km nm vt nk nn T) (hbase : base ≤ w.heap.size) (n : Nat) (hn : D.seen.length = 32 * n) (hl : n ≤ 8192) (hp : D.pend.length ≤ 4000000) (hf0 : -1 ≤ D.life) (hf : D.life ≤ 1000000000000) (hlf : D.life ≠ 0)
    (p m : Nat) (hm : m = 4 * p) (hp1 : p ≤ 1) (hn12 : 12 ≤ n) (htl : T.tables.length ≤ 4000) (hth : ∀ t ∈ T.tables, 0 ≤ t ∧ t ≤ 10000) :
    Calls Try.prog 50 #[.pointer (some ⟨s, 0, none⟩), .int .i64 (p : Int)] w (DiskPost w base b kb sb vp (wrote D m (rootOf T)) 0) := by
  obtain ⟨nt, hnt⟩ : ∃ nt, nt = T.tables.length := ⟨_, rfl⟩
  have htabs := h.tabs
  obtain ⟨At, ct, hvt⟩ := own_slice htabs
  rw [← hnt] at hvt
  subst hvt
  have c0 : w.cell? ⟨s, 0, none⟩ = some (.pointer (some ⟨b, 0, none⟩)) := (blk_cell h.blk 0).trans rfl
  have c2 : w.cell? ⟨s, 2, none⟩ = some (.int .u64 T.epoch) := (blk_cell h.blk 2).trans rfl
  have c3 : w.cell? ⟨s, 3, none⟩ = some (.slice At nt ct) := (blk_cell h.blk 3).trans rfl
  obtain ⟨fst_, hfst⟩ : ∃ z, z = T.tables.headD 0 := ⟨_, rfl⟩
  have hfb : 0 ≤ fst_ ∧ fst_ ≤ 10000 := by
    rw [hfst]
    cases hT : T.tables with
    | nil => simp
    | cons a l => exact hth a (by rw [hT]; exact List.mem_cons_self)
  have hfb0 := hfb.1
  have hfb1 := hfb.2
  have hu1 : IntKind.u64.wrap fst_ = fst_ := by rw [IntKind.wrap_u64]; omega
  have hu2 : IntKind.u64.wrap (nt : Int) = (nt : Int) := by rw [IntKind.wrap_u64]; omega
  have HU1 := Aside0.mk hu1
  have HU2 := Aside0.mk hu2
  have HFST := Aside0.mk hfst
  have HNT := Aside0.mk hnt
  have HD := Aside0.mk hD
  have H := Aside0.mk h
  have HTB := Aside0.mk htabs
  have HTH := Aside0.mk hth
  have hntl : nt ≤ 4000 := by omega
  have HNN := Aside0.mk hn
  have HM := Aside0.mk hm
  have HPL := Aside0.mk hp
  clear hu1 hu2 hfb hD h htabs hth htl hn hp hm
  have hcase : (nt = 0 ∧ fst_ = 0) ∨ (0 < nt ∧ ∃ g, At = some ⟨g, 0, none⟩ ∧ w.cell? ⟨g, 0, none⟩ = some (.int .i64 fst_)) := by
    rcases Nat.eq_zero_or_pos nt with h0 | h0
    · left
      refine ⟨h0, ?_⟩
      have : T.tables = [] := List.eq_nil_of_length_eq_zero (by omega)
      rw [HFST.out, this]; rfl
    · right
      refine ⟨h0, ?_⟩
      obtain ⟨g, cap, hv, _, _⟩ := own_head HTB.out (by omega)
      injection hv with e1 _ _
      refine ⟨g, e1, ?_⟩
      subst e1
      refine own_cell HTB.out ?_
      rw [HFST.out]
      cases hT : T.tables with
      | nil => rw [hT] at hnt; simp at hnt; omega
      | cons a l => rfl
  clear hnt hfst
  rcases hcase with ⟨h0, h1⟩ | ⟨h0, g, h1, h2⟩
  · have H0 := Aside0.mk h0
    have hdt : decide ((0 : Int) < (nt : Int)) = false := decide_eq_false (by omega)
    have hdt2 : decide (0 < nt) = false := decide_eq_false (by omega)
    have H1 := Aside0.mk h1
    clear h0 h1
    go_enter Try.func50, Try.ntmps50
    go_wp2_with fail
    refine (lay_step w w (Below.refl _ _) (.slice none 0 0) [] T.epoch 8 (by omega) (Kd.R_nil _ _ _ _ _) (by simp)).mono ?_
    rintro e wa ⟨vd, rfl, hrd, hba⟩
    obtain ⟨Ad, cd, hvd⟩ := Kd.R_slice hrd
    obtain ⟨nd, hnd⟩ : ∃ z, z = ([] ++ le T.epoch 8).length := ⟨_, rfl⟩
    rw [← hnd] at hvd
    subst hvd
    obtain ⟨Ld, hld⟩ : ∃ z, z = [] ++ le T.epoch 8 := ⟨_, rfl⟩
    rw [← hld] at hrd hnd
    have c3a := pw_cell_below hba c3
    have HLd := Aside0.mk hnd
    have HEd := Aside0.mk hld
    have HRd := Aside0.mk (Kd.R_below hrd (below_drew (Below.refl _ _)))
    have HBa := Aside0.mk hba
    have HBd := Aside0.mk (below_drew hba)
    have HQd := Aside0.mk (show nd = 8 by rw [hnd, hld, List.nil_append, le_length])
    have hqd : nd ≤ 100 := by have := HQd.out; omega
    clear hnd hld hrd hba
    go_upto_region 5 with fail
    have hu1 := HU1.out
    have hu2 := HU2.out
    have hu0 : IntKind.u64.wrap 0 = 0 := rfl
    refine start_ (n := 18) (S := (fun w' => w'.cell? ⟨s, 3, none⟩ = some (.slice At nt ct) ∧ w'.cell? ⟨s, 2, none⟩ = some (.int .u64 T.epoch))) (ds := []) #[false, false, false, false, false, false, false, false, false, false, false, false, false, false, false, false, false, false] (by kernel_rfl) rfl rfl ⟨pw_cell_below (below_drew HBa.out) c3, pw_cell_below (below_drew HBa.out) c2⟩ (fun hHeld => ?_)
    refine pure_ (i := 0) (N := some 24) (v := ?_) (a' := ?_) #[true, false, false, false, false, false, false, false, false, false, false, false, false, false, false, false, false, false] rfl rfl (by kernel_rfl) (fun _ _ _ h => h) (Or.inl ⟨by rfl, ?_⟩) ?_ ?_
    rotate_left
    · intro w'
      go_simp
      with_reducible rfl
    rotate_left
    · simp only [Act.put, List.setIfInBounds_toArray, List.set_cons_zero, List.set_cons_succ]
      rfl
    refine pure_ (i := 1) (N := some 25) (v := ?_) (a' := ?_) #[true, true, false, false, false, false, false, false, false, false, false, false, false, false, false, false, false, false] rfl rfl (by kernel_rfl) (fun _ _ _ h => h) (Or.inl ⟨by rfl, ?_⟩) ?_ ?_
    rotate_left
    · intro w'
      go_simp
      with_reducible rfl
    rotate_left
    · simp only [Act.put, List.setIfInBounds_toArray, List.set_cons_zero, List.set_cons_succ]
      rfl
    refine pure_ (i := 2) (N := some 26) (v := .int .u64 0) (a' := ?_) #[true, true, true, false, false, false, false, false, false, false, false, false, false, false, false, false, false, false] rfl rfl (by kernel_rfl) (fun _ _ _ h => h) (Or.inl ⟨by rfl, fun w' => ?_⟩) ?_ ?_
    · go_simp
    rotate_left
    · simp only [Act.put, List.setIfInBounds_toArray, List.set_cons_zero, List.set_cons_succ]
      rfl
    refine pure_ (i := 4) (N := some 28) (v := ?_) (a' := ?_) #[true, true, true, false, true, false, false, false, false, false, false, false, false, false, false, false, false, false] rfl rfl (by kernel_rfl) (fun _ _ _ h => h) (Or.inl ⟨by rfl, ?_⟩) ?_ ?_
    rotate_left
    · intro w'
      go_simp
      with_reducible rfl
    rotate_left
    · simp only [Act.put, List.setIfInBounds_toArray, List.set_cons_zero, List.set_cons_succ]
      rfl
    refine pure_ (i := 5) (N := some 29) (v := ?_) (a' := ?_) #[true, true, true, false, true, true, false, false, false, false, false, false, false, false, false, false, false, false] rfl rfl (by kernel_rfl) (fun _ _ _ h => h) (Or.inl ⟨by rfl, ?_⟩) ?_ ?_
    rotate_left
    · intro w'
      go_simp
      with_reducible rfl
    rotate_left
    · simp only [Act.put, List.setIfInBounds_toArray, List.set_cons_zero, List.set_cons_succ]
      rfl
    refine pure_ (i := 6) (N := some 30) (v := ?_) (a' := ?_) #[true, true, true, false, true, true, true, false, false, false, false, false, false, false, false, false, false, false] rfl rfl (by kernel_rfl) (fun _ _ _ h => h) (Or.inl ⟨by rfl, ?_⟩) ?_ ?_
    rotate_left
    · intro w'
      go_simp
      with_reducible rfl
    rotate_left
    · simp only [Act.put, List.setIfInBounds_toArray, List.set_cons_zero, List.set_cons_succ]
      rfl
    refine take_ (i := 7) (N := some 31) (v := ?_) (a' := ?_) #[true, true, true, false, true, true, true, true, false, false, false, false, false, false, false, false, false, false] rfl rfl (by kernel_rfl) (fun _ _ _ h => h) (Or.inl ⟨by rfl, ?_⟩) hHeld ?_ ?_
    rotate_left
    · rintro w' ⟨s0, s1⟩
      go_simp
      with_reducible rfl
    rotate_left
    · simp only [Act.put, List.setIfInBounds_toArray, List.set_cons_zero, List.set_cons_succ]
      rfl
    refine pure_ (i := 8) (N := some 32) (v := ?_) (a' := ?_) #[true, true, true, false, true, true, true, true, true, false, false, false, false, false, false, false, false, false] rfl rfl (by kernel_rfl) (fun _ _ _ h => h) (Or.inl ⟨by rfl, ?_⟩) ?_ ?_
    rotate_left
    · intro w'
      go_simp
      with_reducible rfl
    rotate_left
    · simp only [Act.put, List.setIfInBounds_toArray, List.set_cons_zero, List.set_cons_succ]
      rfl
    refine pure_ (i := 9) (N := some 33) (v := .int .u64 (nt : Int)) (a' := ?_) #[true, true, true, false, true, true, true, true, true, true, false, false, false, false, false, false, false, false] rfl rfl (by kernel_rfl) (fun _ _ _ h => h) (Or.inl ⟨by rfl, fun w' => ?_⟩) ?_ ?_
    · go_simp
    rotate_left
    · simp only [Act.put, List.setIfInBounds_toArray, List.set_cons_zero, List.set_cons_succ]
      rfl
    refine pure_ (i := 12) (N := some 36) (v := ?_) (a' := ?_) #[true, true, true, false, true, true, true, true, true, true, false, false, true, false, false, false, false, false] rfl rfl (by kernel_rfl) (fun _ _ _ h => h) (Or.inl ⟨by rfl, ?_⟩) ?_ ?_
    rotate_left
    · intro w'
      go_simp
      with_reducible rfl
    rotate_left
    · simp only [Act.put, List.setIfInBounds_toArray, List.set_cons_zero, List.set_cons_succ]
      rfl
    refine pure_ (i := 13) (N := some 37) (v := ?_) (a' := ?_) #[true, true, true, false, true, true, true, true, true, true, false, false, true, true, false, false, false, false] rfl rfl (by kernel_rfl) (fun _ _ _ h => h) (Or.inl ⟨by rfl, ?_⟩) ?_ ?_
    rotate_left
    · intro w'
      go_simp
      with_reducible rfl
    rotate_left
    · simp only [Act.put, List.setIfInBounds_toArray, List.set_cons_zero, List.set_cons_succ]
      rfl
    refine pure_ (i := 14) (N := some 38) (v := ?_) (a' := ?_) #[true, true, true, false, true, true, true, true, true, true, false, false, true, true, true, false, false, false] rfl rfl (by kernel_rfl) (fun _ _ _ h => h) (Or.inl ⟨by rfl, ?_⟩) ?_ ?_
    rotate_left
    · intro w'
      go_simp
      with_reducible rfl
    rotate_left
    · simp only [Act.put, List.setIfInBounds_toArray, List.set_cons_zero, List.set_cons_succ]
      rfl
    refine take_ (i := 15) (N := some 39) (v := ?_) (a' := ?_) #[true, true, true, false, true, true, true, true, true, true, false, false, true, true, true, true, false, false] rfl rfl (by kernel_rfl) (fun _ _ _ h => h) (Or.inl ⟨by rfl, ?_⟩) hHeld ?_ ?_
    rotate_left
    · rintro w' ⟨s0, s1⟩
      go_simp
      with_reducible rfl
    rotate_left
    · simp only [Act.put, List.setIfInBounds_toArray, List.set_cons_zero, List.set_cons_succ]
      rfl
    refine one_ (i := 3) (N := some 27) #[true, true, true, true, true, true, true, true, true, true, false, false, true, true, true, true, false, false] rfl rfl (by kernel_rfl) (by decide) (fun K hK => ?_)
    refine goes_ Try.func62 (by kernel_rfl) rfl #[.slice Ad nd cd, .int .u64 0, .int .i64 4] (by rfl) rfl rfl (by first | rfl | simp [Act.eval]) ?_
    refine (lay_step _ _ (HBd.out) (.slice Ad nd cd) _ 0 4 (by omega) HRd.out (by rw [← HLd.out]; omega)).mono ?_
    rintro e we ⟨ve, rfl, hre, hbe⟩
    obtain ⟨Ae, ce, hve⟩ := Kd.R_slice hre
    obtain ⟨ne, hne⟩ : ∃ z, z = (Ld ++ le 0 4).length := ⟨_, rfl⟩
    rw [← hne] at hve
    subst hve
    obtain ⟨Le, hle⟩ : ∃ z, z = Ld ++ le 0 4 := ⟨_, rfl⟩
    rw [← hle] at hre hne
    have HLe := Aside0.mk hne
    have HEe := Aside0.mk hle
    have HRe := Aside0.mk hre
    have HBe := Aside0.mk hbe
    have HQe := Aside0.mk (show ne = 12 by have h1 := HLd.out; have h2 := HQd.out; rw [hne, hle, List.length_append, le_length]; omega)
    have hqe : ne ≤ 100 := by have h1 := HQe.out; omega
    clear hne hle hre hbe
    refine ⟨_, rfl, ?_⟩
    refine hK.out _ _ ⟨pw_cell_below HBe.out c3, pw_cell_below HBe.out c2⟩ (fun hHeld => ?_)
    clear hK K
    refine norm_ (a' := ?_) ?_ ?_
    rotate_left
    · show Act.put _ (some 27) _ = _
      simp only [Act.put, List.setIfInBounds_toArray, List.set_cons_zero, List.set_cons_succ]
      rfl
    refine one_ (i := 10) (N := some 34) #[true, true, true, true, true, true, true, true, true, true, true, false, true, true, true, true, false, false] rfl rfl (by kernel_rfl) (by decide) (fun K hK => ?_)
    refine goes_ Try.func62 (by kernel_rfl) rfl #[.slice Ae ne ce, .int .u64 (nt : Int), .int .i64 4] (by rfl) rfl rfl (by first | rfl | simp [Act.eval]) ?_
    refine (lay_step _ _ (HBe.out) (.slice Ae ne ce) _ (nt : Int) 4 (by omega) HRe.out (by rw [← HLe.out]; omega)).mono ?_
    rintro e wf ⟨vf, rfl, hrf, hbf⟩
    obtain ⟨Af, cf, hvf⟩ := Kd.R_slice hrf
    obtain ⟨nf, hnf⟩ : ∃ z, z = (Le ++ le (nt : Int) 4).length := ⟨_, rfl⟩
    rw [← hnf] at hvf
    subst hvf
    obtain ⟨Lf, hlf⟩ : ∃ z, z = Le ++ le (nt : Int) 4 := ⟨_, rfl⟩
    rw [← hlf] at hrf hnf
    have HLf := Aside0.mk hnf
    have HEf := Aside0.mk hlf
    have HRf := Aside0.mk hrf
    have HBf := Aside0.mk hbf
    have HQf := Aside0.mk (show nf = 16 by have h1 := HLe.out; have h2 := HQe.out; rw [hnf, hlf, List.length_append, le_length]; omega)
    have hqf : nf ≤ 100 := by have h1 := HQf.out; omega
    clear hnf hlf hrf hbf
    refine ⟨_, rfl, ?_⟩
    refine hK.out _ _ ⟨pw_cell_below HBf.out c3, pw_cell_below HBf.out c2⟩ (fun hHeld => ?_)
    clear hK K
    refine norm_ (a' := ?_) ?_ ?_
    rotate_left
    · show Act.put _ (some 34) _ = _
      simp only [Act.put, List.setIfInBounds_toArray, List.set_cons_zero, List.set_cons_succ]
      rfl
    refine one_ (i := 11) (N := some 35) #[true, true, true, true, true, true, true, true, true, true, true, true, true, true, true, true, false, false] rfl rfl (by kernel_rfl) (by decide) (fun K hK => ?_)
    refine goes_ Try.func62 (by kernel_rfl) rfl #[.slice Af nf cf, .int .u64 0, .int .i64 8] (by rfl) rfl rfl (by first | rfl | simp [Act.eval]) ?_
    refine (lay_step _ _ (HBf.out) (.slice Af nf cf) _ 0 8 (by omega) HRf.out (by rw [← HLf.out]; omega)).mono ?_
    rintro e wg ⟨vg, rfl, hrg, hbg⟩
    obtain ⟨Ag, cg, hvg⟩ := Kd.R_slice hrg
    obtain ⟨ng, hng⟩ : ∃ z, z = (Lf ++ le 0 8).length := ⟨_, rfl⟩
    rw [← hng] at hvg
    subst hvg
    obtain ⟨Lg, hlg⟩ : ∃ z, z = Lf ++ le 0 8 := ⟨_, rfl⟩
    rw [← hlg] at hrg hng
    have HLg := Aside0.mk hng
    have HEg := Aside0.mk hlg
    have HRg := Aside0.mk hrg
    have HBg := Aside0.mk hbg
    have HQg := Aside0.mk (show ng = 24 by have h1 := HLf.out; have h2 := HQf.out; rw [hng, hlg, List.length_append, le_length]; omega)
    have hqg : ng ≤ 100 := by have h1 := HQg.out; omega
    clear hng hlg hrg hbg
    refine ⟨_, rfl, ?_⟩
    refine hK.out _ _ ⟨pw_cell_below HBg.out c3, pw_cell_below HBg.out c2⟩ (fun hHeld => ?_)
    clear hK K
    refine norm_ (a' := ?_) ?_ ?_
    rotate_left
    · show Act.put _ (some 35) _ = _
      simp only [Act.put, List.setIfInBounds_toArray, List.set_cons_zero, List.set_cons_succ]
      rfl
    refine one_ (i := 16) (N := some 40) #[true, true, true, true, true, true, true, true, true, true, true, true, true, true, true, true, true, false] rfl rfl (by kernel_rfl) (by decide) (fun K hK => ?_)
    refine goes_ Try.func62 (by kernel_rfl) rfl #[.slice Ag ng cg, .int .u64 T.epoch, .int .i64 8] (by rfl) rfl rfl (by first | rfl | simp [Act.eval]) ?_
    refine (lay_step _ _ (HBg.out) (.slice Ag ng cg) _ T.epoch 8 (by omega) HRg.out (by rw [← HLg.out]; omega)).mono ?_
    rintro e wh ⟨vh, rfl, hrh, hbh⟩
    obtain ⟨Ah, ch, hvh⟩ := Kd.R_slice hrh
    obtain ⟨nh, hnh⟩ : ∃ z, z = (Lg ++ le T.epoch 8).length := ⟨_, rfl⟩
    rw [← hnh] at hvh
    subst hvh
    obtain ⟨Lh, hlh⟩ : ∃ z, z = Lg ++ le T.epoch 8 := ⟨_, rfl⟩
    rw [← hlh] at hrh hnh
    have HLh := Aside0.mk hnh
    have HEh := Aside0.mk hlh
    have HRh := Aside0.mk hrh
    have HBh := Aside0.mk hbh
    have HQh := Aside0.mk (show nh = 32 by have h1 := HLg.out; have h2 := HQg.out; rw [hnh, hlh, List.length_append, le_length]; omega)
    have hqh : nh ≤ 100 := by have h1 := HQh.out; omega
    clear hnh hlh hrh hbh
    refine ⟨_, rfl, ?_⟩
    refine hK.out _ _ ⟨pw_cell_below HBh.out c3, pw_cell_below HBh.out c2⟩ (fun hHeld => ?_)
    clear hK K
    refine norm_ (a' := ?_) ?_ ?_
    rotate_left
    · show Act.put _ (some 40) _ = _
      simp only [Act.put, List.setIfInBounds_toArray, List.set_cons_zero, List.set_cons_succ]
      rfl
    refine pure_ (i := 17) (N := some 5) (v := ?_) (a' := ?_) #[true, true, true, true, true, true, true, true, true, true, true, true, true, true, true, true, true, true] rfl rfl (by kernel_rfl) (fun _ _ _ h => h) (Or.inl ⟨by rfl, ?_⟩) ?_ ?_
    rotate_left
    · intro w'
      go_simp
      with_reducible rfl
    rotate_left
    · simp only [Act.put, List.setIfInBounds_toArray, List.set_cons_zero, List.set_cons_succ]
      rfl
    refine done_ (by kernel_rfl) ?_
    clear hu0 hu1 hu2
    have hroot : Lh = rootOf T := by
      rw [HEh.out, HEg.out, HEf.out, HEe.out, HEd.out, rootOf, rootB, ← HNT.out, ← HFST.out, List.nil_append]; rw [H1.out]
    obtain rfl : nh = 32 := HQh.out
    have hbr : BRow wh w.heap.size (.slice Ah 32 ch) (rootOf T) := by
      have h1 := Kd.own_of_R HRh.out
      rw [hroot] at h1
      exact h1
    have hwr := write_calls wh base b kb sb vp D (HD.out.below HBh.out) (Nat.le_trans hbase HBh.out.size) n HNN.out hl HPL.out hf0 hf m (by have := HM.out; omega) hlf Ah ch (rootOf T) (rootB_length _ _ _) (fun W hk => by
      have h2 := hbr.stay (w' := W) fun k hk' => hk.block (hbr.lt hk') fun hd => by
        have h3 := hbr.base_le k hk'
        have h4 := DF_lt HD.out hd
        omega
      obtain ⟨A2, c2', e, _, hC⟩ := h2.reads
      injection e with e1 _ _
      rw [e1]
      exact hC)
    have HWR := Aside0.mk (hwr.mono fun e w' hh => hh.from_ HBh.out)
    have hp4 : (4 : Int) * (p : Int) = (m : Int) := by have := HM.out; omega
    have c0h := pw_cell_below HBh.out c0
    clear hwr hbr hroot c3a
    go_wp2_with fail
    refine HWR.out.mono ?_
    rintro e w9 ⟨rfl, hpost⟩
    have HPOST := Aside0.mk hpost
    clear hpost
    go_wp2_with fail
    go_ret
    exact ⟨rfl, HPOST.out⟩
  · have hdt : decide ((0 : Int) < (nt : Int)) = true := decide_eq_true (by omega)
    subst h1
    go_enter Try.func50, Try.ntmps50
    go_wp2_with fail
    refine (lay_step w w (Below.refl _ _) (.slice none 0 0) [] T.epoch 8 (by omega) (Kd.R_nil _ _ _ _ _) (by simp)).mono ?_
    rintro e wa ⟨vd, rfl, hrd, hba⟩
    obtain ⟨Ad, cd, hvd⟩ := Kd.R_slice hrd
    obtain ⟨nd, hnd⟩ : ∃ z, z = ([] ++ le T.epoch 8).length := ⟨_, rfl⟩
    rw [← hnd] at hvd
    subst hvd
    obtain ⟨Ld, hld⟩ : ∃ z, z = [] ++ le T.epoch 8 := ⟨_, rfl⟩
    rw [← hld] at hrd hnd
    have c3a := pw_cell_below hba c3
    have HLd := Aside0.mk hnd
    have HEd := Aside0.mk hld
    have HRd := Aside0.mk (Kd.R_below hrd (below_drew (Below.refl _ _)))
    have HBa := Aside0.mk hba
    have HBd := Aside0.mk (below_drew hba)
    have HQd := Aside0.mk (show nd = 8 by rw [hnd, hld, List.nil_append, le_length])
    have hqd : nd ≤ 100 := by have := HQd.out; omega
    clear hnd hld hrd hba
    have h2a := pw_cell_below HBa.out h2
    go_upto_region 5 with fail
    have hu1 := HU1.out
    have hu2 := HU2.out
    have hu0 : IntKind.u64.wrap 0 = 0 := rfl
    refine start_ (n := 18) (S := (fun w' => w'.cell? ⟨s, 3, none⟩ = some (.slice (some ⟨g, 0, none⟩) nt ct) ∧ w'.cell? ⟨s, 2, none⟩ = some (.int .u64 T.epoch))) (ds := []) #[false, false, false, false, false, false, false, false, false, false, false, false, false, false, false, false, false, false] (by kernel_rfl) rfl rfl ⟨pw_cell_below (below_drew HBa.out) c3, pw_cell_below (below_drew HBa.out) c2⟩ (fun hHeld => ?_)
    refine pure_ (i := 0) (N := some 24) (v := ?_) (a' := ?_) #[true, false, false, false, false, false, false, false, false, false, false, false, false, false, false, false, false, false] rfl rfl (by kernel_rfl) (fun _ _ _ h => h) (Or.inl ⟨by rfl, ?_⟩) ?_ ?_
    rotate_left
    · intro w'
      go_simp
      with_reducible rfl
    rotate_left
    · simp only [Act.put, List.setIfInBounds_toArray, List.set_cons_zero, List.set_cons_succ]
      rfl
    refine pure_ (i := 1) (N := some 25) (v := ?_) (a' := ?_) #[true, true, false, false, false, false, false, false, false, false, false, false, false, false, false, false, false, false] rfl rfl (by kernel_rfl) (fun _ _ _ h => h) (Or.inl ⟨by rfl, ?_⟩) ?_ ?_
    rotate_left
    · intro w'
      go_simp
      with_reducible rfl
    rotate_left
    · simp only [Act.put, List.setIfInBounds_toArray, List.set_cons_zero, List.set_cons_succ]
      rfl
    refine pure_ (i := 2) (N := some 26) (v := .int .u64 fst_) (a' := ?_) #[true, true, true, false, false, false, false, false, false, false, false, false, false, false, false, false, false, false] rfl rfl (by kernel_rfl) (fun _ _ _ h => h) (Or.inl ⟨by rfl, fun w' => ?_⟩) ?_ ?_
    · go_simp
    rotate_left
    · simp only [Act.put, List.setIfInBounds_toArray, List.set_cons_zero, List.set_cons_succ]
      rfl
    refine pure_ (i := 4) (N := some 28) (v := ?_) (a' := ?_) #[true, true, true, false, true, false, false, false, false, false, false, false, false, false, false, false, false, false] rfl rfl (by kernel_rfl) (fun _ _ _ h => h) (Or.inl ⟨by rfl, ?_⟩) ?_ ?_
    rotate_left
    · intro w'
      go_simp
      with_reducible rfl
    rotate_left
    · simp only [Act.put, List.setIfInBounds_toArray, List.set_cons_zero, List.set_cons_succ]
      rfl
    refine pure_ (i := 5) (N := some 29) (v := ?_) (a' := ?_) #[true, true, true, false, true, true, false, false, false, false, false, false, false, false, false, false, false, false] rfl rfl (by kernel_rfl) (fun _ _ _ h => h) (Or.inl ⟨by rfl, ?_⟩) ?_ ?_
    rotate_left
    · intro w'
      go_simp
      with_reducible rfl
    rotate_left
    · simp only [Act.put, List.setIfInBounds_toArray, List.set_cons_zero, List.set_cons_succ]
      rfl
    refine pure_ (i := 6) (N := some 30) (v := ?_) (a' := ?_) #[true, true, true, false, true, true, true, false, false, false, false, false, false, false, false, false, false, false] rfl rfl (by kernel_rfl) (fun _ _ _ h => h) (Or.inl ⟨by rfl, ?_⟩) ?_ ?_
    rotate_left
    · intro w'
      go_simp
      with_reducible rfl
    rotate_left
    · simp only [Act.put, List.setIfInBounds_toArray, List.set_cons_zero, List.set_cons_succ]
      rfl
    refine take_ (i := 7) (N := some 31) (v := ?_) (a' := ?_) #[true, true, true, false, true, true, true, true, false, false, false, false, false, false, false, false, false, false] rfl rfl (by kernel_rfl) (fun _ _ _ h => h) (Or.inl ⟨by rfl, ?_⟩) hHeld ?_ ?_
    rotate_left
    · rintro w' ⟨s0, s1⟩
      go_simp
      with_reducible rfl
    rotate_left
    · simp only [Act.put, List.setIfInBounds_toArray, List.set_cons_zero, List.set_cons_succ]
      rfl
    refine pure_ (i := 8) (N := some 32) (v := ?_) (a' := ?_) #[true, true, true, false, true, true, true, true, true, false, false, false, false, false, false, false, false, false] rfl rfl (by kernel_rfl) (fun _ _ _ h => h) (Or.inl ⟨by rfl, ?_⟩) ?_ ?_
    rotate_left
    · intro w'
      go_simp
      with_reducible rfl
    rotate_left
    · simp only [Act.put, List.setIfInBounds_toArray, List.set_cons_zero, List.set_cons_succ]
      rfl
    refine pure_ (i := 9) (N := some 33) (v := .int .u64 (nt : Int)) (a' := ?_) #[true, true, true, false, true, true, true, true, true, true, false, false, false, false, false, false, false, false] rfl rfl (by kernel_rfl) (fun _ _ _ h => h) (Or.inl ⟨by rfl, fun w' => ?_⟩) ?_ ?_
    · go_simp
    rotate_left
    · simp only [Act.put, List.setIfInBounds_toArray, List.set_cons_zero, List.set_cons_succ]
      rfl
    refine pure_ (i := 12) (N := some 36) (v := ?_) (a' := ?_) #[true, true, true, false, true, true, true, true, true, true, false, false, true, false, false, false, false, false] rfl rfl (by kernel_rfl) (fun _ _ _ h => h) (Or.inl ⟨by rfl, ?_⟩) ?_ ?_
    rotate_left
    · intro w'
      go_simp
      with_reducible rfl
    rotate_left
    · simp only [Act.put, List.setIfInBounds_toArray, List.set_cons_zero, List.set_cons_succ]
      rfl
    refine pure_ (i := 13) (N := some 37) (v := ?_) (a' := ?_) #[true, true, true, false, true, true, true, true, true, true, false, false, true, true, false, false, false, false] rfl rfl (by kernel_rfl) (fun _ _ _ h => h) (Or.inl ⟨by rfl, ?_⟩) ?_ ?_
    rotate_left
    · intro w'
      go_simp
      with_reducible rfl
    rotate_left
    · simp only [Act.put, List.setIfInBounds_toArray, List.set_cons_zero, List.set_cons_succ]
      rfl
    refine pure_ (i := 14) (N := some 38) (v := ?_) (a' := ?_) #[true, true, true, false, true, true, true, true, true, true, false, false, true, true, true, false, false, false] rfl rfl (by kernel_rfl) (fun _ _ _ h => h) (Or.inl ⟨by rfl, ?_⟩) ?_ ?_
    rotate_left
    · intro w'
      go_simp
      with_reducible rfl
    rotate_left
    · simp only [Act.put, List.setIfInBounds_toArray, List.set_cons_zero, List.set_cons_succ]
      rfl
    refine take_ (i := 15) (N := some 39) (v := ?_) (a' := ?_) #[true, true, true, false, true, true, true, true, true, true, false, false, true, true, true, true, false, false] rfl rfl (by kernel_rfl) (fun _ _ _ h => h) (Or.inl ⟨by rfl, ?_⟩) hHeld ?_ ?_
    rotate_left
    · rintro w' ⟨s0, s1⟩
      go_simp
      with_reducible rfl
    rotate_left
    · simp only [Act.put, List.setIfInBounds_toArray, List.set_cons_zero, List.set_cons_succ]
      rfl
    refine one_ (i := 3) (N := some 27) #[true, true, true, true, true, true, true, true, true, true, false, false, true, true, true, true, false, false] rfl rfl (by kernel_rfl) (by decide) (fun K hK => ?_)
    refine goes_ Try.func62 (by kernel_rfl) rfl #[.slice Ad nd cd, .int .u64 fst_, .int .i64 4] (by rfl) rfl rfl (by first | rfl | simp [Act.eval]) ?_
    refine (lay_step _ _ (HBd.out) (.slice Ad nd cd) _ fst_ 4 (by omega) HRd.out (by rw [← HLd.out]; omega)).mono ?_
    rintro e we ⟨ve, rfl, hre, hbe⟩
    obtain ⟨Ae, ce, hve⟩ := Kd.R_slice hre
    obtain ⟨ne, hne⟩ : ∃ z, z = (Ld ++ le fst_ 4).length := ⟨_, rfl⟩
    rw [← hne] at hve
    subst hve
    obtain ⟨Le, hle⟩ : ∃ z, z = Ld ++ le fst_ 4 := ⟨_, rfl⟩
    rw [← hle] at hre hne
    have HLe := Aside0.mk hne
    have HEe := Aside0.mk hle
    have HRe := Aside0.mk hre
    have HBe := Aside0.mk hbe
    have HQe := Aside0.mk (show ne = 12 by have h1 := HLd.out; have h2 := HQd.out; rw [hne, hle, List.length_append, le_length]; omega)
    have hqe : ne ≤ 100 := by have h1 := HQe.out; omega
    clear hne hle hre hbe
    refine ⟨_, rfl, ?_⟩
    refine hK.out _ _ ⟨pw_cell_below HBe.out c3, pw_cell_below HBe.out c2⟩ (fun hHeld => ?_)
    clear hK K
    refine norm_ (a' := ?_) ?_ ?_
    rotate_left
    · show Act.put _ (some 27) _ = _
      simp only [Act.put, List.setIfInBounds_toArray, List.set_cons_zero, List.set_cons_succ]
      rfl
    refine one_ (i := 10) (N := some 34) #[true, true, true, true, true, true, true, true, true, true, true, false, true, true, true, true, false, false] rfl rfl (by kernel_rfl) (by decide) (fun K hK => ?_)
    refine goes_ Try.func62 (by kernel_rfl) rfl #[.slice Ae ne ce, .int .u64 (nt : Int), .int .i64 4] (by rfl) rfl rfl (by first | rfl | simp [Act.eval]) ?_
    refine (lay_step _ _ (HBe.out) (.slice Ae ne ce) _ (nt : Int) 4 (by omega) HRe.out (by rw [← HLe.out]; omega)).mono ?_
    rintro e wf ⟨vf, rfl, hrf, hbf⟩
    obtain ⟨Af, cf, hvf⟩ := Kd.R_slice hrf
    obtain ⟨nf, hnf⟩ : ∃ z, z = (Le ++ le (nt : Int) 4).length := ⟨_, rfl⟩
    rw [← hnf] at hvf
    subst hvf
    obtain ⟨Lf, hlf⟩ : ∃ z, z = Le ++ le (nt : Int) 4 := ⟨_, rfl⟩
    rw [← hlf] at hrf hnf
    have HLf := Aside0.mk hnf
    have HEf := Aside0.mk hlf
    have HRf := Aside0.mk hrf
    have HBf := Aside0.mk hbf
    have HQf := Aside0.mk (show nf = 16 by have h1 := HLe.out; have h2 := HQe.out; rw [hnf, hlf, List.length_append, le_length]; omega)
    have hqf : nf ≤ 100 := by have h1 := HQf.out; omega
    clear hnf hlf hrf hbf
    refine ⟨_, rfl, ?_⟩
    refine hK.out _ _ ⟨pw_cell_below HBf.out c3, pw_cell_below HBf.out c2⟩ (fun hHeld => ?_)
    clear hK K
    refine norm_ (a' := ?_) ?_ ?_
    rotate_left
    · show Act.put _ (some 34) _ = _
      simp only [Act.put, List.setIfInBounds_toArray, List.set_cons_zero, List.set_cons_succ]
      rfl
    refine one_ (i := 11) (N := some 35) #[true, true, true, true, true, true, true, true, true, true, true, true, true, true, true, true, false, false] rfl rfl (by kernel_rfl) (by decide) (fun K hK => ?_)
    refine goes_ Try.func62 (by kernel_rfl) rfl #[.slice Af nf cf, .int .u64 0, .int .i64 8] (by rfl) rfl rfl (by first | rfl | simp [Act.eval]) ?_
    refine (lay_step _ _ (HBf.out) (.slice Af nf cf) _ 0 8 (by omega) HRf.out (by rw [← HLf.out]; omega)).mono ?_
    rintro e wg ⟨vg, rfl, hrg, hbg⟩
    obtain ⟨Ag, cg, hvg⟩ := Kd.R_slice hrg
    obtain ⟨ng, hng⟩ : ∃ z, z = (Lf ++ le 0 8).length := ⟨_, rfl⟩
    rw [← hng] at hvg
    subst hvg
    obtain ⟨Lg, hlg⟩ : ∃ z, z = Lf ++ le 0 8 := ⟨_, rfl⟩
    rw [← hlg] at hrg hng
    have HLg := Aside0.mk hng
    have HEg := Aside0.mk hlg
    have HRg := Aside0.mk hrg
    have HBg := Aside0.mk hbg
    have HQg := Aside0.mk (show ng = 24 by have h1 := HLf.out; have h2 := HQf.out; rw [hng, hlg, List.length_append, le_length]; omega)
    have hqg : ng ≤ 100 := by have h1 := HQg.out; omega
    clear hng hlg hrg hbg
    refine ⟨_, rfl, ?_⟩
    refine hK.out _ _ ⟨pw_cell_below HBg.out c3, pw_cell_below HBg.out c2⟩ (fun hHeld => ?_)
    clear hK K
    refine norm_ (a' := ?_) ?_ ?_
    rotate_left
    · show Act.put _ (some 35) _ = _
      simp only [Act.put, List.setIfInBounds_toArray, List.set_cons_zero, List.set_cons_succ]
      rfl
    refine one_ (i := 16) (N := some 40) #[true, true, true, true, true, true, true, true, true, true, true, true, true, true, true, true, true, false] rfl rfl (by kernel_rfl) (by decide) (fun K hK => ?_)
    refine goes_ Try.func62 (by kernel_rfl) rfl #[.slice Ag ng cg, .int .u64 T.epoch, .int .i64 8] (by rfl) rfl rfl (by first | rfl | simp [Act.eval]) ?_
    refine (lay_step _ _ (HBg.out) (.slice Ag ng cg) _ T.epoch 8 (by omega) HRg.out (by rw [← HLg.out]; omega)).mono ?_
    rintro e wh ⟨vh, rfl, hrh, hbh⟩
    obtain ⟨Ah, ch, hvh⟩ := Kd.R_slice hrh
    obtain ⟨nh, hnh⟩ : ∃ z, z = (Lg ++ le T.epoch 8).length := ⟨_, rfl⟩
    rw [← hnh] at hvh
    subst hvh
    obtain ⟨Lh, hlh⟩ : ∃ z, z = Lg ++ le T.epoch 8 := ⟨_, rfl⟩
    rw [← hlh] at hrh hnh
    have HLh := Aside0.mk hnh
    have HEh := Aside0.mk hlh
    have HRh := Aside0.mk hrh
    have HBh := Aside0.mk hbh
    have HQh := Aside0.mk (show nh = 32 by have h1 := HLg.out; have h2 := HQg.out; rw [hnh, hlh, List.length_append, le_length]; omega)
    have hqh : nh ≤ 100 := by have h1 := HQh.out; omega
    clear hnh hlh hrh hbh
    refine ⟨_, rfl, ?_⟩
    refine hK.out _ _ ⟨pw_cell_below HBh.out c3, pw_cell_below HBh.out c2⟩ (fun hHeld => ?_)
    clear hK K
    refine norm_ (a' := ?_) ?_ ?_
    rotate_left
    · show Act.put _ (some 40) _ = _
      simp only [Act.put, List.setIfInBounds_toArray, List.set_cons_zero, List.set_cons_succ]
      rfl
    refine pure_ (i := 17) (N := some 5) (v := ?_) (a' := ?_) #[true, true, true, true, true, true, true, true, true, true, true, true, true, true, true, true, true, true] rfl rfl (by kernel_rfl) (fun _ _ _ h => h) (Or.inl ⟨by rfl, ?_⟩) ?_ ?_
    rotate_left
    · intro w'
      go_simp
      with_reducible rfl
    rotate_left
    · simp only [Act.put, List.setIfInBounds_toArray, List.set_cons_zero, List.set_cons_succ]
      rfl
    refine done_ (by kernel_rfl) ?_
    clear hu0 hu1 hu2
    have hroot : Lh = rootOf T := by
      rw [HEh.out, HEg.out, HEf.out, HEe.out, HEd.out, rootOf, rootB, ← HNT.out, ← HFST.out, List.nil_append]
    obtain rfl : nh = 32 := HQh.out
    have hbr : BRow wh w.heap.size (.slice Ah 32 ch) (rootOf T) := by
      have h1 := Kd.own_of_R HRh.out
      rw [hroot] at h1
      exact h1
    have hwr := write_calls wh base b kb sb vp D (HD.out.below HBh.out) (Nat.le_trans hbase HBh.out.size) n HNN.out hl HPL.out hf0 hf m (by have := HM.out; omega) hlf Ah ch (rootOf T) (rootB_length _ _ _) (fun W hk => by
      have h2 := hbr.stay (w' := W) fun k hk' => hk.block (hbr.lt hk') fun hd => by
        have h3 := hbr.base_le k hk'
        have h4 := DF_lt HD.out hd
        omega
      obtain ⟨A2, c2', e, _, hC⟩ := h2.reads
      injection e with e1 _ _
      rw [e1]
      exact hC)
    have HWR := Aside0.mk (hwr.mono fun e w' hh => hh.from_ HBh.out)
    have hp4 : (4 : Int) * (p : Int) = (m : Int) := by have := HM.out; omega
    have c0h := pw_cell_below HBh.out c0
    clear hwr hbr hroot c3a
    go_wp2_with fail
    refine HWR.out.mono ?_
    rintro e w9 ⟨rfl, hpost⟩
    have HPOST := Aside0.mk hpost
    clear hpost
    go_wp2_with fail
    go_ret
    exact ⟨rfl, HPOST.out⟩
end Go.Proofs.Ytppaainapcpnhaa.Sh
