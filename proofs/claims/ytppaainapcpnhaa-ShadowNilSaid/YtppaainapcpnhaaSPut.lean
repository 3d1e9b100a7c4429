/- Get and Put: what each does. -/
import Derived.Test.YtppaainapcpnhaaSStore
import Derived.Deep.RegionHeld3
namespace Go.Proofs.Ytppaainapcpnhaa.Sh
open Go Go.RowKit Go.Proofs.YtppaainapcpnhaaW.PrintWords Go.Proofs.YtppaainapcpnhaaW.PrintLast Go.Proofs.YtppaainapcpnhaaW.PrintMore Go.Proofs.Ytppaainapcpnhaa.MapKit Go.Maps Go.Proofs.Ytppaainapcpnhaa.ApartKit Go.Proofs.Ytppaainapcpnhaa.Q
attribute [local go_sem] max2_int min2_int max_two min_two max_three min_three max_four min_four
set_option linter.unusedVariables false
set_option linter.unusedSimpArgs false

theorem key3 : Keyed Try.prog 3 := int_keyed Try.underlying3
theorem zero72 (w : World) : (zeroValue 72).run Try.prog w = .ok (.agg #[.int .i64 0, .slice none 0 0]) w := by kernel_rfl
theorem wf_i64 {i : Int} (h0 : -9223372036854775808 ≤ i) (h1 : i ≤ 9223372036854775807) : (Lit.int .i64 i).wf = true := by
  have e1 : IntKind.i64.min = -9223372036854775808 := rfl
  have e2 : IntKind.i64.max = 9223372036854775807 := rfl
  show (decide (IntKind.i64.min ≤ i) && decide (i ≤ IntKind.i64.max)) = true
  rw [e1, e2, decide_eq_true h0, decide_eq_true h1]
  rfl
/-- 'm[k] = v' at a step of a region that draws. -/
theorem step_put {P : Program} {k : TypeId} {w : World} {b n : Nat} {f : Lit → Option Value} {ops : Array Oper} {o : Oper} {a : Act} {K : Act → World → Prop} {Q : Exit → Act → World → Prop} {E : Prop} (hg : o.guard = none) (m x v : Operand) (t : TypeId) (hop : o.op = Op.mapUpdate t m x v)
    (e : TypeId) (KK : Keyed P k) (ht : P.underlying t = some (.map k e)) (hm : a.eval m = .map (some b)) (h : MapIs P k w b n f) (hn : n < maxLen) (key : Value) (s : Lit) (hs : WideAt.IsKeyLit s) (val : Value) (hx : a.eval x = key) (hv : a.eval v = val) (hkey : keyOf P k key = some s)
    (hK : ∀ w', MapIs P k w' b (n + 1) (upd f s (some val)) → w.grownBy w' (some b) → K (a.put o.dst undef) w') : if Region.wanted o (yielded ops a.tmps) = true then Oper.wp P o a w K Q else E := by
  rw [if_pos (by simp [Region.wanted, hg])]
  obtain ⟨D, h1, h2⟩ := h
  obtain ⟨w', hrun, r1, r2⟩ := h1.update KK ht hn hkey (d := .held val) (ps := []) rfl
  unfold Oper.wp
  simp [execOp, hop, hm, hx, hv, hrun, Result.andThen]
  exact hK w' ⟨_, r1, h2.put h1.isMap _ hs _⟩ r2

/-- One page more, or anew. -/
def putF (F : Int → Option (Int × List Int)) (i : Int) (p : Option (Int × List Int)) : Int → Option (Int × List Int) := fun j => if j = i then p else F j

/-! ### Get -/
set_option maxHeartbeats 1000000 in
set_option maxRecDepth 100000 in
theorem get_none (w : World) (base s b kb sb km nm : Nat) (vt : Value) (nk nn : Nat) (T : Sto) (h : StoAt w base s b kb sb km nm vt nk nn T) (hd : T.dead = false) (i : Int) (h0 : 0 ≤ i) (h1 : i < 728) (hF : T.now i = none) :
    Calls Try.prog 11 #[.pointer (some ⟨s, 0, none⟩), .int .i64 i] w fun e w' => e = .returned (.tuple #[.slice none 0 0, .int .i64 6]) ∧ Below w.heap.size w w' := by
  have hc := scheck_calls w s T.dead ((blk_cell h.blk 6).trans rfl) i
  rw [hd] at hc
  have e0 : chkS false i = 0 := by unfold chkS; rw [if_neg (by decide), if_neg (by omega)]
  rw [e0] at hc
  have HCHK := Aside0.mk hc
  have c5 : w.cell? ⟨s, 5, none⟩ = some (.map (some nm)) := (blk_cell h.blk 5).trans rfl
  obtain ⟨G, hG, hGF⟩ := h.now
  have hgi : (ofInt .i64 G) (.int .i64 i) = none := by show (if IntKind.i64 = IntKind.i64 then G i else none) = none; rw [if_pos rfl]; exact (hGF i).1 hF
  have HG := Aside0.mk hG
  have HGI := Aside0.mk hgi
  have HWF := Aside0.mk (wf_i64 (i := i) (by omega) (by omega))
  clear hc e0 h hG hGF hgi hF
  go_enter Try.func11, Try.ntmps11
  go_wp2_with fail
  refine HCHK.out.mono ?_
  rintro e w' ⟨rfl, rfl⟩
  go_wp2_with (at_lookup; refine wpList_look_ok rfl _ _ 74 rfl 72 key3 Try.underlying74 (zero72 _) rfl HG.out _ _ rfl (keyOf_int_mk Try.underlying3 HWF.out) ?_; rw [HGI.out, Option.getD_none, Option.isSome_none])
  go_ret2
  exact ⟨rfl, below_alloc (Below.refl _ _) _⟩
set_option maxHeartbeats 1000000 in
set_option maxRecDepth 100000 in
theorem get_some (w : World) (base s b kb sb km nm : Nat) (vt : Value) (nk nn : Nat) (T : Sto) (h : StoAt w base s b kb sb km nm vt nk nn T) (hd : T.dead = false) (i : Int) (h0 : 0 ≤ i) (h1 : i < 728) (at_ : Int) (xs : List Int) (hF : T.now i = some (at_, xs)) (hxl : xs.length ≤ 116) :
    Calls Try.prog 11 #[.pointer (some ⟨s, 0, none⟩), .int .i64 i] w fun e w' => ∃ A' c', e = .returned (.tuple #[.slice A' xs.length c', .int .i64 0]) ∧ BRow w' w.heap.size (.slice A' xs.length c') xs ∧ Below w.heap.size w w' := by
  have hc := scheck_calls w s T.dead ((blk_cell h.blk 6).trans rfl) i
  rw [hd] at hc
  have e0 : chkS false i = 0 := by unfold chkS; rw [if_neg (by decide), if_neg (by omega)]
  rw [e0] at hc
  have HCHK := Aside0.mk hc
  have c5 : w.cell? ⟨s, 5, none⟩ = some (.map (some nm)) := (blk_cell h.blk 5).trans rfl
  obtain ⟨G, hG, hGF⟩ := h.now
  obtain ⟨v, hGi, hdat⟩ := (hGF i).2 _ hF
  obtain ⟨A, c, rfl, hle, hC⟩ := hdat.row.reads
  have hgi : (ofInt .i64 G) (.int .i64 i) = some (.agg #[.int .i64 at_, .slice A xs.length c]) := by show (if IntKind.i64 = IntKind.i64 then G i else none) = _; rw [if_pos rfl]; exact hGi
  have HG := Aside0.mk hG
  have HGI := Aside0.mk hgi
  have HWF := Aside0.mk (wf_i64 (i := i) (by omega) (by omega))
  have HCL := Aside0.mk (clone_calls (w.alloc (.cells #[.int .i64 at_, .slice A xs.length c] 72)) A c xs (Kd.C_below hC (below_alloc (Below.refl _ _) _)) (by omega))
  clear hc e0 h hG hGF hgi hF hdat hC hGi
  go_enter Try.func11, Try.ntmps11
  go_wp2_with fail
  refine HCHK.out.mono ?_
  rintro e w' ⟨rfl, rfl⟩
  go_wp2_with (at_lookup; refine wpList_look_ok rfl _ _ 74 rfl 72 key3 Try.underlying74 (zero72 _) rfl HG.out _ _ rfl (keyOf_int_mk Try.underlying3 HWF.out) ?_; rw [HGI.out, Option.getD_some, Option.isSome_some])
  refine HCL.out.mono ?_
  rintro e w2 ⟨A', c', rfl, hr, hb⟩
  have HR := Aside0.mk hr
  have HB := Aside0.mk hb
  clear hr hb
  go_wp2_with fail
  go_ret2
  exact ⟨A', c', rfl, HR.out.weak (by simp), below_step (below_alloc (Below.refl w.heap.size w) _) HB.out⟩

/-! ### Put -/
/-- What is put. -/
def putT (T : Sto) (i : Int) (xs : List Int) : Sto := { T with now := putF T.now i (some (0, xs)) }
theorem put_large (w : World) (base s b kb sb km nm : Nat) (vt : Value) (nk nn : Nat) (T : Sto) (h : StoAt w base s b kb sb km nm vt nk nn T) (hd : T.dead = false) (i : Int) (h0 : 0 ≤ i) (h1 : i < 728) (A : Option Addr) (n c : Nat) (hl : 116 < n) (hl2 : n ≤ 10000000) :
    Calls Try.prog 12 #[.pointer (some ⟨s, 0, none⟩), .int .i64 i, .slice A n c] w fun e w' => e = .returned (.int .i64 11) ∧ w = w' := by
  have hc := scheck_calls w s T.dead ((blk_cell h.blk 6).trans rfl) i
  rw [hd] at hc
  have e0 : chkS false i = 0 := by unfold chkS; rw [if_neg (by decide), if_neg (by omega)]
  rw [e0] at hc
  have HCHK := Aside0.mk hc
  have hd1 : decide (116 < (n : Int)) = true := decide_eq_true (by omega)
  clear hc e0 h
  go_enter Try.func12, Try.ntmps12
  go_wp2_with fail
  refine HCHK.out.mono ?_
  rintro e w' ⟨rfl, rfl⟩
  go_wp2
  go_ret
  exact ⟨rfl, rfl⟩
theorem put_bad (w : World) (base s b kb sb km nm : Nat) (vt : Value) (nk nn : Nat) (T : Sto) (h : StoAt w base s b kb sb km nm vt nk nn T) (i : Int) (v : Value) (hb : chkS T.dead i ≠ 0) :
    Calls Try.prog 12 #[.pointer (some ⟨s, 0, none⟩), .int .i64 i, v] w fun e w' => e = .returned (.int .i64 (chkS T.dead i)) ∧ w = w' := by
  have hc := scheck_calls w s T.dead ((blk_cell h.blk 6).trans rfl) i
  have HCHK := Aside0.mk hc
  generalize chkS T.dead i = r at *
  have hd1 : (r == 0) = false := by simp [hb]
  clear hc h
  go_enter Try.func12, Try.ntmps12
  go_wp2_with fail
  refine HCHK.out.mono ?_
  rintro e w' ⟨rfl, rfl⟩
  go_wp2
  go_ret
  exact ⟨rfl, rfl⟩

theorem StoAt.put {w w3 w5 : World} {base s b kb sb km nm : Nat} {vt : Value} {nk nn : Nat} {T : Sto} (h : StoAt w base s b kb sb km nm vt nk nn T) (hkb : kb < w.heap.size) (hsb : sb < w.heap.size) (hbase : base ≤ w.heap.size) {i : Int} {v : Value} {xs : List Int} {G : Int → Option Value} (hGF : ∀ i, (T.now i = none → G i = none) ∧ ∀ p, T.now i = some p → ∃ v, G i = some (.agg #[.int .i64 p.1, v]) ∧ Dat w base kb sb v p.2)
    (hb : Below w.heap.size w w3) (hv : BRow w3 w.heap.size v xs) (hm : MapIs Try.prog 3 w5 nm (nn + 1) (upd (ofInt .i64 G) (.int .i64 i) (some (.agg #[.int .i64 0, v])))) (hg : w3.grownBy w5 (some nm)) :
    StoAt w5 base s b kb sb km nm vt nk (nn + 1) (putT T i xs) ∧ KS w w5 (· = nm) := by
  have hk : KS w w5 (· = nm) := (KS.of_below hb _).of_grown hg fun k hk => .inl (Option.some.inj hk).symm
  have hsn : s ≠ nm := h.now.ne_cells h.blk
  have hno : ∀ (k : Nat) (cs : Array Value), k = nm → w.heap[k]? = some (Obj.cells cs 5 (0, 0)) → k = kb ∨ k = sb := fun k cs e hc => absurd e (h.now.ne_cells hc)
  refine ⟨⟨(hk.block (blk_lt h.blk) hsn).trans h.blk, own_move h.tabs fun k hk' => hk.block (own_lt h.tabs k hk') fun e => ?_, h.kept.keep hk h.ne hno, ?_, h.ne, h.bs, h.bk, h.bn⟩, hk⟩
  · obtain ⟨cs, hc⟩ := own_typed h.tabs k hk'
    exact h.now.ne_cells hc e
  · refine ⟨fun j => if j = i then some (.agg #[.int .i64 0, v]) else G j, by rw [← upd_int]; exact hm, fun j => ?_⟩
    show (putF T.now i (some (0, xs)) j = none → _) ∧ ∀ p, putF T.now i (some (0, xs)) j = some p → _
    unfold putF
    dsimp only
    by_cases hj : j = i
    · rw [if_pos hj, if_pos hj]
      refine ⟨fun h => (by cases h), fun p hp => ?_⟩
      obtain rfl := Option.some.inj hp
      refine ⟨v, rfl, ?_, fun e => ?_, fun e => ?_⟩
      · refine (hv.stay fun k hk' => hg.block k (hv.lt hk') fun e => ?_).weak hbase
        have h5 := hv.base_le k hk'
        have h6 := h.now.lt
        have := Option.some.inj e
        omega
      · have := hv.base_le _ e; omega
      · have := hv.base_le _ e; omega
    · rw [if_neg hj, if_neg hj]
      refine ⟨(hGF j).1, fun p hp => ?_⟩
      obtain ⟨u, h3, h4⟩ := (hGF j).2 p hp
      exact ⟨u, h3, h4.keep hk hno⟩

set_option maxHeartbeats 2000000 in
set_option maxRecDepth 100000 in
theorem put_calls (w : World) (base s b kb sb km nm : Nat) (vt : Value) (nk nn : Nat) (T : Sto) (h : StoAt w base s b kb sb km nm vt nk nn T) (hkb : kb < w.heap.size) (hsb : sb < w.heap.size) (hbase : base ≤ w.heap.size) (hd : T.dead = false) (i : Int) (h0 : 0 ≤ i) (h1 : i < 728) (A : Option Addr) (c : Nat) (xs : List Int) (hC : (Kd.int .u8).C w A xs.length xs) (hl : xs.length ≤ 116) (hnn : nn ≤ 1000000000) :
    Calls Try.prog 12 #[.pointer (some ⟨s, 0, none⟩), .int .i64 i, .slice A xs.length c] w fun e w' => e = .returned (.int .i64 0) ∧ StoAt w' base s b kb sb km nm vt nk (nn + 1) (putT T i xs) ∧ KS w w' (· = nm) := by
  have hc := scheck_calls w s T.dead ((blk_cell h.blk 6).trans rfl) i
  rw [hd] at hc
  have e0 : chkS false i = 0 := by unfold chkS; rw [if_neg (by decide), if_neg (by omega)]
  rw [e0] at hc
  have HCHK := Aside0.mk hc
  have c5 : w.cell? ⟨s, 5, none⟩ = some (.map (some nm)) := (blk_cell h.blk 5).trans rfl
  have c5d : w.drew.cell? ⟨s, 5, none⟩ = some (.map (some nm)) := c5
  obtain ⟨G, hG, hGF⟩ := h.now
  obtain ⟨n, hn⟩ : ∃ n, n = xs.length := ⟨_, rfl⟩
  have hcl := clone_calls w.drew A c xs (Kd.C_below hC (below_drew (Below.refl _ _))) (by omega)
  rw [← hn] at hcl ⊢
  have HCLONE := Aside0.mk hcl
  have hd1 : decide (116 < (n : Int)) = false := decide_eq_false (by omega)
  have HN := Aside0.mk hn
  have H := Aside0.mk h
  have HG := Aside0.mk hG
  have HGF := Aside0.mk hGF
  have HWF := Aside0.mk (wf_i64 (i := i) (by omega) (by omega))
  have HNM := Aside0.mk (show nn < maxLen by unfold maxLen; omega)
  clear hc e0 h hG hGF hC hn hcl
  go_enter Try.func12, Try.ntmps12
  go_wp2_with fail
  refine HCHK.out.mono ?_
  rintro e w' ⟨rfl, rfl⟩
  go_upto_region 6 with fail
  refine start_ (n := 9) (S := (fun w' => w'.cell? ⟨s, 5, none⟩ = some (.map (some nm)))) (ds := [8]) #[false, false, false, false, false, false, false, false, false] (by kernel_rfl) rfl rfl c5d (fun hHeld => ?_)
  refine pure_ (i := 0) (N := some 17) (v := ?_) (a' := ?_) #[true, false, false, false, false, false, false, false, false] rfl rfl (by kernel_rfl) (fun _ _ _ h => h) (Or.inl ⟨by rfl, ?_⟩) ?_ ?_
  rotate_left
  · intro w'
    go_simp
    with_reducible rfl
  rotate_left
  · simp only [Act.put, List.setIfInBounds_toArray, List.set_cons_zero, List.set_cons_succ]
    rfl
  refine pure_ (i := 1) (N := some 18) (v := ?_) (a' := ?_) #[true, true, false, false, false, false, false, false, false] rfl rfl (by kernel_rfl) (fun _ _ _ h => h) (Or.inl ⟨by rfl, ?_⟩) ?_ ?_
  rotate_left
  · intro w'
    go_simp
    with_reducible rfl
  rotate_left
  · simp only [Act.put, List.setIfInBounds_toArray, List.set_cons_zero, List.set_cons_succ]
    rfl
  refine pure_ (i := 2) (N := some 19) (v := ?_) (a' := ?_) #[true, true, true, false, false, false, false, false, false] rfl rfl (by kernel_rfl) (fun _ _ _ h => h) (Or.inl ⟨by rfl, ?_⟩) ?_ ?_
  rotate_left
  · intro w'
    go_simp
    with_reducible rfl
  rotate_left
  · simp only [Act.put, List.setIfInBounds_toArray, List.set_cons_zero, List.set_cons_succ]
    rfl
  refine take_ (i := 3) (N := some 20) (v := ?_) (a' := ?_) #[true, true, true, true, false, false, false, false, false] rfl rfl (by kernel_rfl) (fun _ _ _ h => h) (Or.inl ⟨by rfl, ?_⟩) hHeld ?_ ?_
  rotate_left
  · rintro w' s0
    go_simp
    with_reducible rfl
  rotate_left
  · simp only [Act.put, List.setIfInBounds_toArray, List.set_cons_zero, List.set_cons_succ]
    rfl
  refine pure_ (i := 4) (N := some 21) (v := ?_) (a' := ?_) #[true, true, true, true, true, false, false, false, false] rfl rfl (by kernel_rfl) (fun _ _ _ h => h) (Or.inl ⟨by rfl, ?_⟩) ?_ ?_
  rotate_left
  · intro w'
    go_simp
    with_reducible rfl
  rotate_left
  · simp only [Act.put, List.setIfInBounds_toArray, List.set_cons_zero, List.set_cons_succ]
    rfl
  refine pure_ (i := 5) (N := some 22) (v := ?_) (a' := ?_) #[true, true, true, true, true, true, false, false, false] rfl rfl (by kernel_rfl) (fun _ _ _ h => h) (Or.inl ⟨by rfl, ?_⟩) ?_ ?_
  rotate_left
  · intro w'
    go_simp
    with_reducible rfl
  rotate_left
  · simp only [Act.put, List.setIfInBounds_toArray, List.set_cons_zero, List.set_cons_succ]
    rfl
  refine one_ (i := 6) (N := some 23) #[true, true, true, true, true, true, true, false, false] rfl rfl (by kernel_rfl) (by decide) (fun K hK => ?_)
  refine goes_ Try.func33 (by kernel_rfl) rfl #[.slice A n c] (by rfl) rfl rfl (by first | rfl | simp [Act.eval]) ?_
  refine HCLONE.out.mono ?_
  rintro e w3 ⟨A', c', rfl, hr3, hb3⟩
  refine ⟨_, rfl, ?_⟩
  have HR3 := Aside0.mk hr3
  have HB3 := Aside0.mk (below_step (below_drew (Below.refl w.heap.size w)) hb3)
  clear hr3 hb3
  refine hK.out _ _ (pw_cell_below HB3.out c5) (fun hHeld => ?_)
  clear hK K
  refine norm_ (a' := ?_) ?_ ?_
  rotate_left
  · show Act.put _ (some 23) _ = _
    simp only [Act.put, List.setIfInBounds_toArray, List.set_cons_zero, List.set_cons_succ]
    rfl
  refine pure_ (i := 7) (N := some 24) (v := ?_) (a' := ?_) #[true, true, true, true, true, true, true, true, false] rfl rfl (by kernel_rfl) (fun _ _ _ h => h) (Or.inl ⟨by rfl, ?_⟩) ?_ ?_
  rotate_left
  · intro w'
    go_simp
    with_reducible rfl
  rotate_left
  · simp only [Act.put, List.setIfInBounds_toArray, List.set_cons_zero, List.set_cons_succ]
    rfl
  refine last_ (i := 8) (N := none) #[true, true, true, true, true, true, true, true, true] rfl rfl (by kernel_rfl) (by decide) (fun K hK => ?_)
  refine step_put rfl (.tmp 20) (.tmp 21) (.tmp 24) 74 rfl 72 key3 Try.underlying74 rfl (HG.out.below HB3.out) HNM.out (.int .i64 i) (.int .i64 i) (key_int _ _) (.agg #[.int .i64 0, .slice A' n c']) rfl rfl (keyOf_int_mk Try.underlying3 HWF.out) ?_
  intro w5 hm5 hg5
  refine hK.out _ _ ?_
  clear hK K
  refine done_ (by kernel_rfl) ?_
  obtain ⟨hst, hks⟩ := H.out.put hkb hsb hbase HGF.out HB3.out HR3.out hm5 hg5
  have HST := Aside0.mk hst
  have HKS := Aside0.mk hks
  clear hst hks hm5 hg5
  go_wp2_with fail
  go_ret
  exact ⟨rfl, HST.out, HKS.out⟩
end Go.Proofs.Ytppaainapcpnhaa.Sh
