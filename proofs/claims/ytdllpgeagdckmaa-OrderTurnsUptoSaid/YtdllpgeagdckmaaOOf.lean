/- order.of: the net of a list: who uses whom, who is there already. -/
import Derived.Test.YtdllpgeagdckmaaOTwice
import Derived.StillTailTactics
namespace Go.Proofs.Ytdllpgeagdckmaa.Q
open Go.RowKit Go.Proofs.YtdllpgeagdckmaaW.PrintWords Go.Proofs.YtdllpgeagdckmaaW.PrintLast Go.Proofs.YtdllpgeagdckmaaW.PrintMore Go.Proofs.Ytdllpgeagdckmaa.MapKit Go.Maps Go.Proofs.Ytdllpgeagdckmaa.Ord
attribute [local go_sem] max2_int min2_int max_two min_two max_three min_three max_four min_four
set_option linter.unusedVariables false
set_option linter.unusedSimpArgs false

/-- What the map of uses holds: of each name a slice that reads as its uses. -/
def UsesF (w : World) (F : ByteArray → Option Value) (l : Net ByteArray) : Prop :=
  (∀ x, usesOf l x = none → F x = none) ∧ ∀ x us, usesOf l x = some us → ∃ A c, F x = some (.slice A us.length c) ∧ us.length ≤ c ∧ Kd.string.C w A us.length us
theorem UsesF.below {w w' : World} {F : ByteArray → Option Value} {l : Net ByteArray} (h : UsesF w F l) (hb : Below w.heap.size w w') : UsesF w' F l :=
  ⟨h.1, fun x us hx => by
    obtain ⟨A, c, h1, h2, h3⟩ := h.2 x us hx
    exact ⟨A, c, h1, h2, Kd.C_below h3 hb⟩⟩

/-- The net in memory. -/
structure NetAt (w : World) (b gu gh : Nat) (l : List S41) (hv : List ByteArray) : Prop where
  blk : w.heap[b]? = some (.cells #[.map (some gu), .map (some gh)] 71 (0, 0))
  uses : ∃ F n, MapIs Try.prog 9 w gu n (keyB F) ∧ UsesF w F (netOf l)
  have_ : ∃ n, n ≤ 3000000 ∧ SetIs w gh n hv
theorem NetAt.below {w w' : World} {b gu gh : Nat} {l : List S41} {hv : List ByteArray} (h : NetAt w b gu gh l hv) (hb : Below w.heap.size w w') : NetAt w' b gu gh l hv :=
  ⟨blk_below h.blk hb, by
    obtain ⟨F, n, h1, h2⟩ := h.uses
    exact ⟨F, n, h1.below hb, h2.below hb⟩, by
    obtain ⟨n, h0, h1⟩ := h.have_
    exact ⟨n, h0, h1.below hb⟩⟩

/-- What is known while the net is made. -/
structure OfRel (w w' : World) (b gu gh : Nat) (F : ByteArray → Option Value) (i j : Nat) (hv : List ByteArray) : Prop where
  blk : w'.heap[b]? = some (.cells #[.map (some gu), .map (some gh)] 71 (0, 0))
  uses : MapIs Try.prog 9 w' gu i (keyB F)
  have_ : SetIs w' gh j hv
  below : Below w.heap.size w w'
  gu_ : w.heap.size ≤ gu
  gh_ : w.heap.size ≤ gh
  ne : gu ≠ gh

theorem OfRel.alloc {w w2 : World} {b gu gh : Nat} {F : ByteArray → Option Value} {i j : Nat} {hv : List ByteArray} (h : OfRel w w2 b gu gh F i j hv) (o : Obj) : OfRel w (w2.alloc o) b gu gh F i j hv :=
  ⟨blk_alloc h.blk o, h.uses.below (below_alloc (Below.refl _ _) o), h.have_.below (below_alloc (Below.refl _ _) o), below_alloc h.below o, h.gu_, h.gh_, h.ne⟩
theorem OfRel.drew {w w2 : World} {b gu gh : Nat} {F : ByteArray → Option Value} {i j : Nat} {hv : List ByteArray} (h : OfRel w w2 b gu gh F i j hv) : OfRel w w2.drew b gu gh F i j hv :=
  ⟨h.blk, h.uses.below (below_drew (Below.refl _ _)), h.have_.below (below_drew (Below.refl _ _)), below_drew h.below, h.gu_, h.gh_, h.ne⟩
theorem OfRel.putU {w w2 w3 : World} {b gu gh : Nat} {F F' : ByteArray → Option Value} {i i' j : Nat} {hv : List ByteArray} (h : OfRel w w2 b gu gh F i j hv) (hm : MapIs Try.prog 9 w3 gu i' (keyB F')) (hg : w2.grownBy w3 (some gu)) : OfRel w w3 b gu gh F' i' j hv :=
  ⟨blk_grown h.blk hg (fun e => map_ne_cells h.uses h.blk (Option.some.inj e)), hm, h.have_.kept hg (fun e => h.ne (Option.some.inj e)), pw_below_grown h.below _ h.below.size hg (fun k e => by cases e; exact h.gu_), h.gu_, h.gh_, h.ne⟩
theorem OfRel.putH {w w2 w3 : World} {b gu gh : Nat} {F : ByteArray → Option Value} {i j j' : Nat} {hv hv' : List ByteArray} (h : OfRel w w2 b gu gh F i j hv) (hm : SetIs w3 gh j' hv') (hg : w2.grownBy w3 (some gh)) : OfRel w w3 b gu gh F i j' hv' :=
  ⟨blk_grown h.blk hg (fun e => map_ne_cells h.have_ h.blk (Option.some.inj e)), h.uses.kept hg (fun e => h.ne (Option.some.inj e).symm), hm, pw_below_grown h.below _ h.below.size hg (fun k e => by cases e; exact h.gh_), h.gu_, h.gh_, h.ne⟩

def OfP (l : List S41) (hv : List ByteArray) (w : World) (e : Ending) (w' : World) : Prop :=
  ∃ b gu gh, e = .returned (.pointer (some ⟨b, 0, none⟩)) ∧ NetAt w' b gu gh l hv ∧ Below w.heap.size w w'

set_option maxHeartbeats 4000000 in
set_option maxRecDepth 100000 in
theorem of_calls (w : World) (A Ah : Option Addr) (c ch : Nat) (l : List S41) (hv : List ByteArray) (hC : Kd.C k41 w A l.length l) (hCh : Kd.string.C w Ah hv.length hv) (htot : tot (netOf l) ≤ 3000000) (hhl : hv.length ≤ 3000000) (hnm : ∀ v ∈ l, v.f0.size ≤ maxLen) (hhv : ∀ u ∈ hv, u.size ≤ maxLen) (hnd : ((netOf l).map (·.1)).Nodup) :
    Calls Try.prog 18 #[.slice A l.length c, .slice Ah hv.length ch] w (OfP l hv w) := by
  have HC := Aside0.mk hC
  have HCH := Aside0.mk hCh
  have HNM := Aside0.mk hnm
  have HHV := Aside0.mk hhv
  have HTOT := Aside0.mk htot
  have HND := Aside0.mk hnd
  have hll : l.length ≤ 3000000 := by
    have h1 := tot_ge (netOf l)
    have h2 : (netOf l).length = l.length := by simp [netOf]
    omega
  clear hC hCh hnm hhv htot hnd
  have hmm := @run_makeMap Try.prog
  go_enter Try.func18, Try.ntmps18
  go_upto_region 2 with fail
  have h0 : OfRel w (((w.alloc (.map #[] 0)).alloc (.map #[] 0)).alloc (.cells #[.map (some w.heap.size), .map (some (w.heap.size + 1))] 71)) (w.heap.size + 1 + 1) w.heap.size (w.heap.size + 1) (fun _ => none) 0 0 [] := by
    refine ⟨?_, ?_, ?_, below_alloc (below_alloc (below_alloc (Below.refl _ _) _) _) _, Nat.le_refl _, by omega, by omega⟩
    · have := heap_alloc_new ((w.alloc (.map #[] 0)).alloc (.map #[] 0)) (.cells #[.map (some w.heap.size), .map (some (w.heap.size + 1))] 71)
      simpa using this
    · have h1 := MapIs.made w Try.prog 9
      have h2 := (h1.below (below_alloc (Below.refl _ _) (.map #[] 0))).below (below_alloc (Below.refl _ _) (.cells #[.map (some w.heap.size), .map (some (w.heap.size + 1))] 71))
      refine h2.congr fun s => ?_
      cases s <;> rfl
    · have h1 := SetIs.made (w.alloc (.map #[] 0))
      have h2 := h1.below (below_alloc (Below.refl _ _) (.cells #[.map (some w.heap.size), .map (some (w.heap.size + 1))] 71))
      simpa using h2
  generalize ((w.alloc (.map #[] 0)).alloc (.map #[] 0)).alloc (.cells #[.map (some w.heap.size), .map (some (w.heap.size + 1))] 71) = w1 at *
  obtain ⟨b, hb⟩ : ∃ b, b = w.heap.size + 1 + 1 := ⟨_, rfl⟩
  obtain ⟨gh, hgh⟩ : ∃ b, b = w.heap.size + 1 := ⟨_, rfl⟩
  rw [← hb, ← hgh] at h0
  rw [← hb]
  obtain ⟨gu, hgu⟩ : ∃ b, b = w.heap.size := ⟨_, rfl⟩
  have H0 : Aside0 (OfRel w w1 b gu gh (fun _ => none) 0 0 []) := ⟨by rw [hgu]; exact h0⟩
  clear hb hgh hgu h0
  go_wp2
  go_loopg [16] (l.length + 1) (fun kq v16 w' => ∃ i : Nat, v16 = .int .i64 (i : Int) ∧ Aside0 (i ≤ l.length) ∧ Aside0 (kq + i = l.length + 1) ∧ Aside0 (∃ F, OfRel w w' b gu gh F i 0 [] ∧ UsesF w F ((netOf l).take i)))
  case atStart => exact ⟨0, rfl, ⟨Nat.zero_le _⟩, ⟨by omega⟩, ⟨_, H0.out, fun x _ => rfl, fun x us hx => by simp [usesOf] at hx⟩⟩
  case round =>
    clear H0
    obtain ⟨i, rfl, HI, HK, HT⟩ := hrel
    have hi := HI.out
    have hk := HK.out
    obtain ⟨F, hR, hF⟩ := HT.out
    have HR := Aside0.mk hR
    have HF := Aside0.mk hF
    clear HT hR hF
    by_cases hlt : i < l.length
    · have hz : decide ((i : Int) < (l.length : Int)) = true := decide_eq_true (by omega)
      obtain ⟨k1, rfl⟩ : ∃ k1, gk = k1 + 1 := ⟨gk - 1, by omega⟩
      obtain ⟨ad, A1, c1, rfl, z0, z1, hc1, hC1⟩ := vocab_at HC.out i hlt
      obtain ⟨v, hv'⟩ : ∃ v, v = l[i] := ⟨_, rfl⟩
      rw [← hv'] at z0 z1 hc1 hC1
      have x0 := pw_cell_below HR.out.below z0
      have x1 := pw_cell_below HR.out.below z1
      have hmem : v ∈ l := by rw [hv']; exact List.getElem_mem hlt
      have hnet : (netOf l)[i]'(by simpa [netOf] using hlt) = (v.f0, v.f1) := by simp [netOf, hv']
      have hti : (netOf l).take (i + 1) = (netOf l).take i ++ [(v.f0, v.f1)] := by rw [List.take_succ_eq_append_getElem (by simpa [netOf] using hlt), hnet]
      have hnn : v.f0 ∉ ((netOf l).take i).map (·.1) := by
        have h1 := HND.out
        have h2 : (((netOf l).take (i + 1)).map (·.1)).Nodup := h1.sublist ((List.take_sublist _ _).map _)
        rw [hti, List.map_append, List.nodup_append] at h2
        exact fun hm => h2.2.2 _ hm v.f0 (by simp) rfl
      have HN0 := Aside0.mk (HNM.out v hmem)
      have HTI := Aside0.mk hti
      have HNN := Aside0.mk hnn
      have HC1 := Aside0.mk hC1
      have HCL := Aside0.mk hc1
      have hib : i + 1 ≤ 3000000 := by omega
      clear z0 z1 hmem hnet hti hnn hC1 hc1 hv' hi
      go_upto_region 5 with fail
      have hT2 := HR.out.alloc (.cells #[.string v.f0, .slice A1 v.f1.length c1] 41)
      have hb7 : (wr.alloc (.cells #[.string v.f0, .slice A1 v.f1.length c1] 41)).heap[wr.heap.size]? = some (.cells #[.string v.f0, .slice A1 v.f1.length c1] 41 (0, 0)) := heap_alloc_new _ _
      generalize wr.alloc (.cells #[.string v.f0, .slice A1 v.f1.length c1] 41) = w2 at *
      obtain ⟨b7, hb7'⟩ : ∃ b7, b7 = wr.heap.size := ⟨_, rfl⟩
      rw [← hb7'] at hb7 ⊢
      clear hb7'
      have y0 : w2.cell? ⟨b7, 0, none⟩ = some (.string v.f0) := (blk_cell hb7 0).trans rfl
      have y1 : w2.cell? ⟨b7, 1, none⟩ = some (.slice A1 v.f1.length c1) := (blk_cell hb7 1).trans rfl
      have n0 : w2.cell? ⟨b, 0, none⟩ = some (.map (some gu)) := (blk_cell hT2.blk 0).trans rfl
      have HT2 := Aside0.mk hT2
      clear hT2 hb7 x0 x1
      go_still_tail 8, (by kernel_rfl)
      change wpList _ _ _ _ _ w2.drew
      refine wpList_put rfl _ _ _ 68 rfl 23 key9 Try.underlying68 rfl HT2.out.drew.uses (by unfold maxLen; omega) (.string v.f0) (.string v.f0.data.toList) (key_lit _) (.slice A1 v.f1.length c1) rfl rfl (Go.WideMaps.keyOf_string_mk Try.underlying9 HN0.out) ?_
      intro w3 hm3 hg3
      rw [upd_keyB] at hm3
      have HR3 := Aside0.mk (HT2.out.drew.putU hm3 hg3)
      clear hm3 hg3 y0 y1 n0
      go_wp2_with fail
      go_roundg k1
      case measure => omega
      case rel =>
        refine ⟨i + 1, by push_cast; rfl, ⟨by omega⟩, ⟨by omega⟩, ⟨_, HR3.out, ?_, ?_⟩⟩
        · intro x hx
          rw [HTI.out, usesOf_snoc HNN.out] at hx
          by_cases he : x = v.f0
          · rw [if_pos he] at hx; cases hx
          · rw [if_neg he] at hx
            simp only [if_neg he]
            exact HF.out.1 x hx
        · intro x us hx
          rw [HTI.out, usesOf_snoc HNN.out] at hx
          by_cases he : x = v.f0
          · rw [if_pos he] at hx
            cases hx
            simp only [if_pos he]
            exact ⟨A1, c1, rfl, HCL.out, HC1.out⟩
          · rw [if_neg he] at hx
            simp only [if_neg he]
            exact HF.out.2 x us hx
    · have hz : decide ((i : Int) < (l.length : Int)) = false := decide_eq_false (by omega)
      have hF : UsesF w F (netOf l) := by
        have h1 := HF.out
        rwa [List.take_of_length_le (by simp [netOf]; omega)] at h1
      have HF2 := Aside0.mk hF
      clear HF hF
      go_wp2_with fail
      go_loopg [31] (hv.length + 1) (fun kq v31 w' => ∃ j : Nat, v31 = .int .i64 (j : Int) ∧ Aside0 (j ≤ hv.length) ∧ Aside0 (kq + j = hv.length + 1) ∧ Aside0 (OfRel w w' b gu gh F i j (hv.take j)))
      case atStart => exact ⟨0, rfl, ⟨Nat.zero_le _⟩, ⟨by omega⟩, HR⟩
      clear HR
      obtain ⟨j, rfl, HJ, HKJ, HR⟩ := hrel
      have hj := HJ.out
      have hkj := HKJ.out
      by_cases hltj : j < hv.length
      · have hzj : decide ((j : Int) < (hv.length : Int)) = true := decide_eq_true (by omega)
        obtain ⟨k2, rfl⟩ : ∃ k2, gk = k2 + 1 := ⟨gk - 1, by omega⟩
        obtain ⟨ad2, rfl, z0⟩ := name_at (Kd.C_below HCH.out HR.out.below) j hltj
        obtain ⟨u, hu⟩ : ∃ u, u = hv[j] := ⟨_, rfl⟩
        rw [← hu] at z0
        have hut : hv.take (j + 1) = hv.take j ++ [u] := by rw [List.take_succ_eq_append_getElem hltj, ← hu]
        have hul : u.size ≤ maxLen := HHV.out u (by rw [hu]; exact List.getElem_mem hltj)
        have HUT := Aside0.mk hut
        have HUL := Aside0.mk hul
        have n1 : wr.cell? ⟨b, 1, none⟩ = some (.map (some gh)) := (blk_cell HR.out.blk 1).trans rfl
        clear hut hul hu hj
        go_wp2_with (at_mapUpdate; refine set_put rfl _ _ _ rfl rfl HR.out.have_ (by unfold maxLen; omega) u rfl rfl (HUL.out) ?_; intro w7 hs7 hg7; have HR7 := Aside0.mk (HR.out.putH hs7 hg7); clear hs7 hg7)
        go_roundg k2
        case measure => omega
        case rel => exact ⟨j + 1, by push_cast; rfl, ⟨by omega⟩, ⟨by omega⟩, ⟨by rw [HUT.out]; exact HR7.out⟩⟩
      · have hzj : decide ((j : Int) < (hv.length : Int)) = false := decide_eq_false (by omega)
        have hR9 := HR.out
        rw [List.take_of_length_le (by omega)] at hR9
        have HR9 := Aside0.mk hR9
        clear hR9 HR
        go_wp2_with fail
        go_ret
        exact ⟨b, gu, gh, rfl, ⟨HR9.out.blk, ⟨F, i, HR9.out.uses, HF2.out.below HR9.out.below⟩, ⟨j, by omega, HR9.out.have_⟩⟩, HR9.out.below⟩
end Go.Proofs.Ytdllpgeagdckmaa.Q
