/- Put together out of the texts OLevels, OpenStr, Q2, OBase, OOpen, Q5, Q3, OTurns, Q9: what each proves stands at its head. -/
import Derived.Test.YtdllpgeagdckmaaKM2
import Derived.Outline
import Derived.Test.YtdllpgeagdckmaaKM1
import Derived.ChangeArms
import Derived.ChangeSame
import Derived.Deep.LoopGhost
import Derived.Deep.Cut

/- order.Levels: its answer is the one that the theory of levels gives. DRAFT: the walk is only begun. -/
namespace Go.Proofs.Ytdllpgeagdckmaa.Q
open Go.RowKit Go.Proofs.YtdllpgeagdckmaaW.PrintWords Go.Proofs.YtdllpgeagdckmaaW.PrintLast Go.Proofs.YtdllpgeagdckmaaW.PrintMore Go.Proofs.Ytdllpgeagdckmaa.MapKit Go.Maps Go.Proofs.Ytdllpgeagdckmaa.Ord Go.Proofs.Ytdllpgeagdckmaa.ApartKit
attribute [local go_sem] max2_int min2_int max_two min_two max_three min_three max_four min_four
set_option linter.unusedVariables false
set_option linter.unusedSimpArgs false


set_option maxHeartbeats 4000000 in
set_option maxRecDepth 100000 in
theorem levels_walk (w : World) (A : Option Addr) (c : Nat) (l : List S41) (hC : Kd.C k41 w A l.length l) (hc : l.length ≤ c) (hfit : Fit l (l.map (·.f0)) []) (s : List ByteArray) (m : ByteArray) (e : Int) (hs : order_Sort.f l (l.map (·.f0)) [] = some (s, m, e)) :
    Calls Try.prog 14 #[.slice A l.length c] w (LevQ l w) := by
  have HC := Aside0.mk hC
  have HF := Aside0.mk hfit
  have HS := Aside0.mk hs
  clear hC hfit hs
  have hN : (l.length : Int) ≤ 3000000 := by
    have h1 := tot_ge (netOf l)
    have h2 := HF.out.tot_
    have h3 : (netOf l).length = l.length := by simp [netOf]
    omega
  have hmm := @run_makeMap Try.prog
  go_enter Try.func14, Try.ntmps14
  go_wp2_with fail
  go_loopg [4, 22] (l.length + 1) (fun kq v4 v22 w' => ∃ i : Nat, v22 = .int .i64 (i : Int) ∧ Aside0 (i ≤ l.length) ∧ Aside0 (kq + i = l.length + 1) ∧ Aside0 (SRow w' w.heap.size v4 ((l.take i).map (·.f0))) ∧ Aside0 (Below w.heap.size w w'))
  case atStart => exact ⟨0, rfl, ⟨Nat.zero_le _⟩, ⟨by omega⟩, ⟨SRow.nil _ _⟩, ⟨Below.refl _ _⟩⟩
  obtain ⟨i, rfl, HI, HK, HR, HB⟩ := hrel
  have hi := HI.out
  have hk := HK.out
  obtain ⟨A4, c4, hv4⟩ := HR.out.shape
  obtain ⟨n4, hn4⟩ : ∃ n, n = ((l.take i).map (·.f0)).length := ⟨_, rfl⟩
  rw [← hn4] at hv4
  subst hv4
  have hle : ((l.take i).map (·.f0)).length ≤ 8000000 := by rw [List.length_map, List.length_take]; omega
  have HLE := Aside0.mk hle
  have HN4 := Aside0.mk hn4
  clear hn4 hle
  by_cases hlt : i < l.length
  · have hz : decide ((i : Int) < (l.length : Int)) = true := decide_eq_true (by omega)
    obtain ⟨k1, rfl⟩ : ∃ k1, gk = k1 + 1 := ⟨gk - 1, by omega⟩
    obtain ⟨ad, A1, c1, rfl, z0, z1, hc1, hC1⟩ := vocab_at HC.out i hlt
    obtain ⟨v, hv'⟩ : ∃ v, v = l[i] := ⟨_, rfl⟩
    rw [← hv'] at z0 z1 hc1 hC1
    have x0 := pw_cell_below HB.out z0
    have x1 := pw_cell_below HB.out z1
    have hsn : (l.take (i + 1)).map (·.f0) = (l.take i).map (·.f0) ++ [v.f0] := by rw [List.take_succ_eq_append_getElem hlt, List.map_append, ← hv']; rfl
    have HSN := Aside0.mk hsn
    clear hsn hv' z0 z1 hc1 hC1 hi hk
    go_upto_region 5 with fail
    have hR2 := HR.out.alloc (.cells #[.string v.f0, .slice A1 v.f1.length c1] 41)
    have hB2 : Below w.heap.size w (wr.alloc (.cells #[.string v.f0, .slice A1 v.f1.length c1] 41)) := below_alloc HB.out _
    have hb7 : (wr.alloc (.cells #[.string v.f0, .slice A1 v.f1.length c1] 41)).heap[wr.heap.size]? = some (.cells #[.string v.f0, .slice A1 v.f1.length c1] 41 (0, 0)) := heap_alloc_new _ _
    generalize wr.alloc (.cells #[.string v.f0, .slice A1 v.f1.length c1] 41) = w2 at *
    obtain ⟨b7, hb7'⟩ : ∃ b7, b7 = wr.heap.size := ⟨_, rfl⟩
    rw [← hb7'] at hb7 ⊢
    clear hb7'
    have y0 : w2.cell? ⟨b7, 0, none⟩ = some (.string v.f0) := (blk_cell hb7 0).trans rfl
    have HR2 := Aside0.mk hR2
    have HB2 := Aside0.mk hB2
    clear hR2 hB2 hb7 x0 x1
    go_wp2_with (at_builtin; refine srow_append w.heap.size rfl (.tmp 26) (.tmp 29) rfl (v := .slice A4 n4 c4) (xs := (l.take i).map (·.f0)) rfl v.f0 rfl HR2.out HLE.out HB2.out.size ?_; intro A6 c6 w6 hr6 hg6 hat6; obtain ⟨n6, hn6⟩ : ∃ n, n = ((l.take i).map (·.f0)).length + 1 := ⟨_, rfl⟩; rw [← hn6] at hr6 ⊢; rw [← HSN.out] at hr6; have HR6 := Aside0.mk hr6; have HB6 := Aside0.mk (pw_below_grown HB2.out _ HB2.out.size hg6 (fun k e => HR2.out.base_le k e)); clear hr6 hg6 hat6 hn6)
    go_roundg k1
    case measure => have := HK.out; omega
    case rel => exact ⟨i + 1, by push_cast; rfl, ⟨by have := HI.out; omega⟩, ⟨by have := HK.out; omega⟩, HR6, HB6⟩
  · have hz : decide ((i : Int) < (l.length : Int)) = false := decide_eq_false (by omega)
    have hR1 := HR.out
    rw [List.take_of_length_le (show l.length ≤ i by omega)] at hR1 HN4
    obtain ⟨A4', c4', he4, hl4, hC4⟩ := hR1.reads
    rw [← HN4.out] at he4
    injection he4 with e1 e2 e3
    subst e1 e3
    have hcall := order_Sort.calls A c l A4 c4 (l.map (·.f0)) none 0 [] s m e wr (Kd.C_below HC.out HB.out) hc hC4 hl4 (Kd.C_nil Kd.string wr) (Nat.le_refl _) HS.out
    rw [← HN4.out] at hcall
    have HCALL := Aside0.mk hcall
    clear hcall hR1 hl4 hC4 hi hk
    go_wp2_with fail
    refine HCALL.out.mono ?_
    rintro e' w2 ⟨v7, rfl, hs7, hb⟩
    obtain ⟨A7, c7, rfl, hl7, hC7⟩ := Kd.R_reads hs7
    have HB2 := Aside0.mk (below_step HB.out hb)
    have HC7 := Aside0.mk hC7
    have HL7 := Aside0.mk hl7
    clear hs7 hb hC7 hl7 HCALL
    obtain ⟨hfit, hsorts⟩ := order_Sort.spec HS.out
    have HSO := Aside0.mk hsorts
    clear hsorts hfit
    by_cases he0 : e = 0
    · subst he0
      go_wp2_with fail
      have hok : bads (netOf l) = [] ∧ Greedy ltN (netOf l) [] (l.map (·.f0)) s ∧ (∀ x ∈ s, usesOf (netOf l) x ≠ none) := by
        have h := HSO.out
        unfold SortsB at h
        dsimp only at h
        generalize hz : (0 : Int) = z at h
        cases h with
        | twice m h => cases hz
        | none_ m h0 h => cases hz
        | cycle m h0 h1 h => cases hz
        | ok s h0 h1 h2 h => exact ⟨h0, h, fun x hx => h1 x ((h.mem x).1 hx)⟩
      have HOK := Aside0.mk hok
      refine (of_calls w2 A none c 0 l [] (Kd.C_below HC.out HB2.out) (Kd.C_nil Kd.string w2) HF.out.tot_ (by simp) HF.out.names (by simp) (bads_nil hok.1).1).mono ?_
      rintro e' w3 ⟨b, gu, gh, rfl, hN3, hb3⟩
      have HN3 := Aside0.mk hN3
      have HB3 := Aside0.mk (below_step HB2.out hb3)
      have HB23 := Aside0.mk hb3
      clear hN3 hb3 hok
      have hms : s.length ≤ 3000000 := by
        have h1 := HOK.out.2.1
        have h2 : ∀ x ∈ s, x ∈ l.map (·.f0) := fun x hx => by
          have h3 := HOK.out.2.2 x hx
          rw [Ne, usesOf_none, Classical.not_not] at h3
          simpa [netOf] using h3
        have h4 := subset_length h1.nodup h2
        simp at h4
        omega
      have htopo := HOK.out.2.1.topo
      obtain ⟨F, hF⟩ := lv_exists HOK.out.2.1.nodup htopo
      have HTO := Aside0.mk htopo
      have HFF := Aside0.mk hF
      clear htopo hF
      go_upto_region 13 with fail
      obtain ⟨gm, hgm⟩ : ∃ g, g = w3.heap.size := ⟨_, rfl⟩
      have h4 : LvRel w3 (w3.alloc (.map #[] 0)) gm F [] (.slice none 0 0) [] [] (fun _ => 0) := ⟨own_nil _ _ _ _, LRows.nil _ _ _, by
        rw [hgm]
        refine (MapIs.made w3 Try.prog 9).congr fun s => ?_
        cases s <;> simp [keyB, ofStr, levF], below_alloc (Below.refl _ _) _, by omega⟩
      rw [← hgm]
      generalize w3.alloc (.map #[] 0) = w4 at *
      have H4 := Aside0.mk h4
      clear h4 hgm
      go_wp2_with fail
      go_loopg [12, 47] (s.length + 1) (fun kq v12 v47 w' => ∃ i : Nat, v47 = .int .i64 (i : Int) ∧ Aside0 (i ≤ s.length) ∧ Aside0 (kq + i = s.length + 1) ∧ Aside0 (∃ VL rows f, LvRel w3 w' gm F (s.take i) v12 VL rows f ∧ LPure F (s.take i) rows))
      case atStart => exact ⟨0, rfl, ⟨Nat.zero_le _⟩, ⟨by omega⟩, ⟨[], [], _, H4.out, LPure.nil F⟩⟩
      clear H4
      obtain ⟨i, rfl, HI, HK, HX⟩ := hrel
      have hi := HI.out
      have hk := HK.out
      obtain ⟨VL, rows, f, hL, hP⟩ := HX.out
      have HL := Aside0.mk hL
      have HP := Aside0.mk hP
      clear HX hL hP
      obtain ⟨A12, c12, hv12⟩ := own_slice HL.out.out
      obtain ⟨n12, hn12⟩ : ∃ n, n = VL.length := ⟨_, rfl⟩
      rw [← hn12] at hv12
      subst hv12
      have hcnt : n12 ≤ i := by have h1 := HP.out.cnt; have h2 := HL.out.rows.len; rw [List.length_take] at h1; omega
      have HN12 := Aside0.mk hn12
      have HNR := Aside0.mk (show n12 = rows.length by rw [hn12, HL.out.rows.len])
      obtain ⟨n6, hn6⟩ : ∃ n, n = VL.length + 1 := ⟨_, rfl⟩
      have HN6 := Aside0.mk hn6
      have HVS := Aside0.mk (show VL.length ≤ 4000000 by omega)
      clear hn12 hn6
      by_cases hlt : i < s.length
      · have hz : decide ((i : Int) < (s.length : Int)) = true := decide_eq_true (by omega)
        obtain ⟨k1, rfl⟩ : ∃ k1, gk = k1 + 1 := ⟨gk - 1, by omega⟩
        obtain ⟨ad, rfl, z0⟩ := name_at (Kd.C_below HC7.out (below_step HB23.out HL.out.below)) i hlt
        obtain ⟨x, hx⟩ : ∃ x, x = s[i] := ⟨_, rfl⟩
        rw [← hx] at z0
        have hxa : s[i]? = some x := by rw [List.getElem?_eq_getElem hlt, ← hx]
        have hxm : x ∈ s := by rw [hx]; exact List.getElem_mem hlt
        have htk : s.take (i + 1) = s.take i ++ [x] := by rw [List.take_succ_eq_append_getElem hlt, ← hx]
        have hxn : x ∉ s.take i := fun hm => by
          have h1 : (s.take (i + 1)).Nodup := HOK.out.2.1.nodup.sublist (List.take_sublist _ _)
          rw [htk, List.nodup_append] at h1
          exact h1.2.2 _ hm x (by simp) rfl
        obtain ⟨us, hus⟩ := Option.ne_none_iff_exists'.1 (HOK.out.2.2 x hxm)
        have hxl : x ∈ l.map (·.f0) ∧ us.length ≤ 3000000 ∧ (∀ u ∈ us, u.size ≤ maxLen) := by
          have h1 := (usesOf_mem (bads_nil HOK.out.1).1).1 hus
          have h2 : us.length ≤ tot (netOf l) := by
            obtain ⟨j, hj⟩ := List.getElem?_of_mem h1
            obtain ⟨hj1, hj2⟩ := List.getElem?_eq_some_iff.1 hj
            have := tot_uses hj1
            rw [hj2] at this
            simp only at this
            omega
          simp only [netOf, List.mem_map, Prod.mk.injEq] at h1
          obtain ⟨v, hv1, rfl, rfl⟩ := h1
          exact ⟨List.mem_map_of_mem hv1, by have := HF.out.tot_; omega, HF.out.uses v hv1⟩
        have hxs : x.size ≤ maxLen := by
          obtain ⟨v, hv, rfl⟩ := List.mem_map.1 hxl.1
          exact HF.out.names v hv
        obtain ⟨FU, nu, hmu, hFU⟩ := HN3.out.uses
        obtain ⟨Au, cu, hgx, hCu⟩ := uses_get (hFU.below HL.out.below) x
        rw [hus, Option.getD_some] at hgx hCu
        have hut : ∀ u ∈ us, u ∈ s.take i := HTO.out i x hxa us hus
        have HXA := Aside0.mk hxa
        have HXM := Aside0.mk hxm
        have HTK := Aside0.mk htk
        have HXN := Aside0.mk hxn
        have HU := Aside0.mk hus
        have HXS := Aside0.mk hxs
        have hul := hxl.2.1
        have HUZ := Aside0.mk hxl.2.2
        have HMU := Aside0.mk (hmu.below HL.out.below)
        have HGX := Aside0.mk hgx
        have HCU := Aside0.mk hCu
        have HUT := Aside0.mk hut
        have n0 : _ = some (Value.map (some gu)) := (blk_cell (HN3.out.below HL.out.below).blk 0).trans rfl
        clear hxa hxm htk hxn hus hxl hxs hmu hFU hgx hCu hut hx
        go_wp2_with (at_lookup; refine wpList_look rfl _ _ 68 rfl 23 key9 Try.underlying68 (zero23 _) rfl HMU.out _ _ rfl (Go.WideMaps.keyOf_string_mk Try.underlying9 HXS.out) ?_; rw [keyB_at, HGX.out])
        go_loopg [15, 58] (us.length + 1) (fun kq v15 v58 w' => ∃ (m q : Nat), v58 = .int .i64 (m : Int) ∧ v15 = .int .i64 (q : Int) ∧ Aside0 (m ≤ us.length) ∧ Aside0 (kq + m = us.length + 1) ∧ Aside0 (q = (us.take m).foldl (fun k u => max k (F u + 1)) 0) ∧ w' = wr)
        case atStart => exact ⟨0, 0, rfl, rfl, ⟨Nat.zero_le _⟩, ⟨by omega⟩, ⟨rfl⟩, rfl⟩
        obtain ⟨m, q, rfl, rfl, HM, HKM, HQ, rfl⟩ := hrel
        have hm := HM.out
        have hkm := HKM.out
        have hq : q ≤ n12 := by
          rw [HQ.out, HNR.out]
          exact foldl_max_bound _ _ (Nat.zero_le _) fun u hu => by
            have := HP.out.lt_ u (HUT.out u (List.mem_of_mem_take hu))
            omega
        by_cases hltm : m < us.length
        · have hzm : decide ((m : Int) < (us.length : Int)) = true := decide_eq_true (by omega)
          obtain ⟨k3, rfl⟩ : ∃ k3, gk = k3 + 1 := ⟨gk - 1, by omega⟩
          obtain ⟨ad2, rfl, z1⟩ := name_at HCU.out m hltm
          obtain ⟨u, hu⟩ : ∃ u, u = us[m] := ⟨_, rfl⟩
          rw [← hu] at z1
          have hum : u ∈ us := by rw [hu]; exact List.getElem_mem hltm
          have hutk : us.take (m + 1) = us.take m ++ [u] := by rw [List.take_succ_eq_append_getElem hltm, ← hu]
          have hul2 : u.size ≤ maxLen := HUZ.out u hum
          have hFu : F u < n12 := by rw [HNR.out]; exact HP.out.lt_ u (HUT.out u hum)
          have hlev : levF F (s.take i) u = some (.int .i64 (F u : Int)) := by unfold levF; rw [if_pos (HUT.out u hum)]
          have HUTK := Aside0.mk hutk
          have HUS := Aside0.mk hul2
          have HLEV := Aside0.mk hlev
          clear hum hutk hul2 hlev hu hm
          go_wp2_with (at_lookup; refine wpList_look rfl _ _ 67 rfl 3 key9 Try.underlying67 (zero3 _) rfl HL.out.map _ _ rfl (Go.WideMaps.keyOf_string_mk Try.underlying9 HUS.out) ?_; rw [keyB_at, HLEV.out, Option.getD_some])
          all_goals
            go_roundg k3
            case measure => omega
            case rel => first
              | exact ⟨m + 1, q, by push_cast; rfl, rfl, ⟨by omega⟩, ⟨by omega⟩, ⟨by rw [HUTK.out, List.foldl_append, ← HQ.out]; show q = max q (F u + 1); omega⟩, rfl⟩
              | exact ⟨m + 1, F u + 1, by push_cast; rfl, by push_cast; rfl, ⟨by omega⟩, ⟨by omega⟩, ⟨by rw [HUTK.out, List.foldl_append, ← HQ.out]; show F u + 1 = max q (F u + 1); omega⟩, rfl⟩
        · have hzm : decide ((m : Int) < (us.length : Int)) = false := decide_eq_false (by omega)
          have hqF : q = F x := by
            rw [HQ.out, List.take_of_length_le (by omega), HFF.out x HXM.out, lvl, HU.out]
            rfl
          subst hqF
          have hxtk : i ≤ s.length := hi
          clear HQ HM HKM HUZ HUT HMU HGX HCU hm hkm n0
          have hFx : F x ≤ n12 := hq
          by_cases hke : F x = n12
          case' pos =>
            have hd1 : ((F x : Int) == (n12 : Int)) = true := by simp [hke]
            have HKE := Aside0.mk hke
            clear hke
            go_upto_region 25 with (first | (at_mapUpdate; refine wpList_put rfl _ _ _ 67 rfl 3 key9 Try.underlying67 rfl HL.out.map (by rw [List.length_take]; unfold maxLen; omega) (.string x) (.string x.data.toList) (key_lit _) (.int .i64 (F x : Int)) rfl rfl (Go.WideMaps.keyOf_string_mk Try.underlying9 HXS.out) ?_; intro w5 hm5 hg5; rw [upd_keyB] at hm5; have HL5 := Aside0.mk (HL.out.putM hm5 hg5); clear hm5 hg5) | (at_builtin; refine rows_append w3.heap.size rfl (.tmp 76) (.tmp 77) rfl (v := .slice A12 n12 c12) (VL := VL) rfl rfl HL5.out.out n6 HN6.out HVS.out HL5.out.below.size ?_; intro g cap w6 ho6 hg6; have HL6 := Aside0.mk (HL5.out.more ho6 hg6); clear ho6 hg6))
            have hz9 : ∃ (VL' : List Value) (rows' : List (List ByteArray)) (f' : Nat → Nat) (v : Value) (r : List ByteArray), LvRel w3 w6 gm F (s.take i ++ [x]) (.slice (some ⟨g, 0, none⟩) n6 cap) VL' rows' f' ∧ VL'.length = n6 ∧ VL'[F x]? = some v ∧ rows'[F x]? = some r ∧ r.length ≤ i ∧ LPure F (s.take i ++ [x]) (rows'.set (F x) (r ++ [x])) := by
              have e1 : F x = rows.length := HKE.out.trans HNR.out
              have e2 : F x = VL.length := HKE.out.trans HN12.out
              refine ⟨_, _, _, .slice none 0 0, [], HL6.out, by rw [List.length_append, HN6.out]; rfl, by rw [e2, List.getElem?_append_right (Nat.le_refl _)]; simp, by rw [e1, List.getElem?_append_right (Nat.le_refl _)]; simp, Nat.zero_le _, ?_⟩
              have h1 := HP.out.new HXN.out e1
              rw [e1, List.set_append_right _ _ (Nat.le_refl _)]
              simpa using h1
            have hlt9 : F x < n6 := by have h1 := HKE.out; have h2 := HN6.out; have h3 := HN12.out; omega
            have HZ9 := Aside0.mk hz9
            clear hz9 HL5 HL6 HKE
            obtain ⟨n9, rfl⟩ : ∃ z, z = n6 := ⟨_, rfl⟩
            obtain ⟨w9, rfl⟩ : ∃ z, z = w6 := ⟨_, rfl⟩
          case' neg =>
            have hd1 : ((F x : Int) == (n12 : Int)) = false := by simp; exact_mod_cast hke
            have hke2 : F x < n12 := by omega
            clear hke
            obtain ⟨g, cap, hv12, _, _⟩ := own_head HL.out.out (by rw [← HN12.out]; omega)
            rw [← HN12.out] at hv12
            injection hv12 with e1 _ e2
            subst e1 e2
            go_upto_region 25 with (at_mapUpdate; refine wpList_put rfl _ _ _ 67 rfl 3 key9 Try.underlying67 rfl HL.out.map (by rw [List.length_take]; unfold maxLen; omega) (.string x) (.string x.data.toList) (key_lit _) (.int .i64 (F x : Int)) rfl rfl (Go.WideMaps.keyOf_string_mk Try.underlying9 HXS.out) ?_; intro w5 hm5 hg5; rw [upd_keyB] at hm5; have HL5 := Aside0.mk (HL.out.putM hm5 hg5); clear hm5 hg5)
            have hz9 : ∃ (VL' : List Value) (rows' : List (List ByteArray)) (f' : Nat → Nat) (v : Value) (r : List ByteArray), LvRel w3 w5 gm F (s.take i ++ [x]) (.slice (some ⟨g, 0, none⟩) n12 c12) VL' rows' f' ∧ VL'.length = n12 ∧ VL'[F x]? = some v ∧ rows'[F x]? = some r ∧ r.length ≤ i ∧ LPure F (s.take i ++ [x]) (rows'.set (F x) (r ++ [x])) := by
              obtain ⟨v, r, e1, e2, _⟩ := HL.out.rows.get (k := F x) (by rw [← HNR.out]; exact hke2)
              exact ⟨_, _, _, v, r, HL5.out, HN12.out.symm, e1, e2, by have h1 := HP.out.short (List.mem_of_getElem? e2); rw [List.length_take] at h1; omega, HP.out.put HXN.out e2⟩
            have hlt9 : F x < n12 := hke2
            have HZ9 := Aside0.mk hz9
            clear hz9 HL5 hke2
            obtain ⟨n9, hn9⟩ : ∃ z, z = n12 := ⟨_, rfl⟩
            have HN9 := Aside0.mk hn9
            rw [← hn9] at HZ9 hlt9 ⊢
            clear hn9
            obtain ⟨cap, rfl⟩ : ∃ z, z = c12 := ⟨_, rfl⟩
            obtain ⟨w9, rfl⟩ : ∃ z, z = w5 := ⟨_, rfl⟩
          all_goals
            obtain ⟨VL', rows', f', v, r, hL9, hVn, hv, hr, hrl, hP9⟩ := HZ9.out
            have hsr := hL9.rows.row _ _ _ hv hr
            obtain ⟨A5, c5, hv5⟩ := hsr.shape
            obtain ⟨n5, hn5⟩ : ∃ z, z = r.length := ⟨_, rfl⟩
            rw [← hn5] at hv5 hrl
            subst hv5
            obtain ⟨cs9, hcs9⟩ := own_typed hL9.out g rfl
            have hgl := blk_lt hcs9
            have hgv : some g ≠ (Value.slice A5 n5 c5).ownBlock := fun e => by
              obtain ⟨cs, hc⟩ := hsr.block e.symm
              rw [hc] at hcs9
              simp at hcs9
            have y0 : w9.cell? ⟨g, F x, none⟩ = some (.slice A5 n5 c5) := own_cell hL9.out hv
            have hfar : ∀ w8, w9.grownBy w8 (Value.slice A5 n5 c5).ownBlock → w8.cell? ⟨g, F x, none⟩ = some (.slice A5 n5 c5) ∧ w8.frozen? ⟨g, F x, none⟩ = false := fun w8 hg8 =>
              ⟨(hg8.cell_far ⟨g, F x, none⟩ hgl hgv).trans y0, (hg8.frozen_far ⟨g, F x, none⟩ hgl hgv).trans (own_free hL9.out _)⟩
            have HFAR := Aside0.mk hfar
            have HL9 := Aside0.mk hL9
            have HVN := Aside0.mk hVn
            have HV := Aside0.mk hv
            have HP9 := Aside0.mk hP9
            have HSR := Aside0.mk hsr
            have HRL := Aside0.mk (show r.length ≤ 8000000 by omega)
            have HN5 := Aside0.mk hn5
            clear HZ9 hL9 hVn hv hr hP9 hsr hn5 hcs9 hgl hgv hfar
            go_wp2_with (at_builtin; refine srow_append w3.heap.size rfl (.tmp 84) (.tmp 86) rfl (v := .slice A5 n5 c5) (xs := r) rfl x rfl HSR.out HRL.out HL9.out.below.size ?_; intro A8 c8 w8 hr8 hg8 hat8; obtain ⟨y2, y3⟩ := HFAR.out w8 hg8; have HR8 := Aside0.mk hr8; have HG8 := Aside0.mk hg8; have HAT8 := Aside0.mk hat8; clear hr8 hg8 hat8)
            go_roundg k1
            case measure => omega
            case rel =>
              obtain ⟨f'', h9⟩ := HL9.out.put HVN.out HV.out HR8.out HG8.out HAT8.out
              exact ⟨i + 1, by push_cast; rfl, ⟨by omega⟩, ⟨by omega⟩, ⟨_, _, f'', by rw [HTK.out]; exact h9, by rw [HTK.out]; exact HP9.out⟩⟩
      · have hz : decide ((i : Int) < (s.length : Int)) = false := decide_eq_false (by omega)
        have hL := HL.out
        have hP := HP.out
        rw [List.take_of_length_le (show s.length ≤ i by omega)] at hL hP
        rw [← sortAt_zero rows] at hL
        have HL0 := Aside0.mk hL
        have HP0 := Aside0.mk hP
        have hn12 : (n12 : Int) ≤ 3000000 := by omega
        clear hL hP HL HP HC7 hi hk
        go_wp2_with fail
        go_loopg [92] (n12 + 1) (fun kq v92 w' => ∃ j : Nat, v92 = .int .i64 (j : Int) ∧ Aside0 (j ≤ n12) ∧ Aside0 (kq + j = n12 + 1) ∧ Aside0 (∃ f', LvRel w3 w' gm F s (.slice A12 n12 c12) VL (sortAt rows j) f'))
        case atStart => exact ⟨0, rfl, ⟨Nat.zero_le _⟩, ⟨by omega⟩, ⟨_, HL0.out⟩⟩
        clear HL0
        obtain ⟨j, rfl, HJ, HKJ, HX⟩ := hrel
        have hj := HJ.out
        have hkj := HKJ.out
        obtain ⟨f', hL⟩ := HX.out
        have HL := Aside0.mk hL
        clear HX hL
        by_cases hltj : j < n12
        · have hzj : decide ((j : Int) < (n12 : Int)) = true := decide_eq_true (by omega)
          obtain ⟨k2, rfl⟩ : ∃ k2, gk = k2 + 1 := ⟨gk - 1, by omega⟩
          obtain ⟨g, cap, hv12, _, _⟩ := own_head HL.out.out (by rw [← HN12.out]; omega)
          rw [← HN12.out] at hv12
          injection hv12 with e1 _ e2
          subst e1 e2
          obtain ⟨v, r, e1, e2, hsr⟩ := HL.out.rows.get (k := j) (by rw [sortAt_length, ← HNR.out]; exact hltj)
          have y0 := own_cell HL.out.out e1
          obtain ⟨A5, c5, hv5⟩ := hsr.shape
          obtain ⟨n5, hn5⟩ : ∃ z, z = r.length := ⟨_, rfl⟩
          rw [← hn5] at hv5
          subst hv5
          have hr0 : rows[j]? = some r := by
            obtain ⟨r0, h0⟩ : ∃ r0, rows[j]? = some r0 := ⟨_, List.getElem?_eq_getElem (by rw [← HNR.out]; exact hltj)⟩
            rw [(sortAt_get h0).1] at e2
            cases e2
            exact h0
          have HR0 := Aside0.mk hr0
          have hrl : r.length ≤ 8000000 := by
            have := HP0.out.short (List.mem_of_getElem? hr0)
            omega
          have HCALL := Aside0.mk (sort_row wr w3.heap.size (.slice A5 n5 c5) r hsr hrl)
          have HE1 := Aside0.mk e1
          clear e1 e2 hsr hn5 hr0 hrl hj
          go_wp2_with fail
          refine HCALL.out.mono ?_
          rintro e8 w8 ⟨rfl, hr8, hg8⟩
          have HR8 := Aside0.mk hr8
          have HG8 := Aside0.mk hg8
          clear hr8 hg8
          go_wp2_with fail
          go_roundg k2
          case measure => omega
          case rel =>
            obtain ⟨f'', h9⟩ := HL.out.sorted HE1.out HR8.out HG8.out
            exact ⟨j + 1, by push_cast; rfl, ⟨by omega⟩, ⟨by omega⟩, ⟨f'', by rw [(sortAt_get HR0.out).2]; exact h9⟩⟩
        · have hzj : decide ((j : Int) < (n12 : Int)) = false := decide_eq_false (by omega)
          go_wp2_with fail
          go_ret2
          have hL9 := HL.out
          rw [sortAt_full (by rw [← HNR.out]; omega)] at hL9
          have hB3 := HB3.out
          have hnm : (netOf l).map (·.1) = l.map (·.f0) := by rw [netOf, List.map_map]; rfl
          exact ⟨_, VL, rows.map sortN, 0, f', rfl, ⟨s, m, 0, by rw [hnm]; exact HSO.out, rfl, .inr ⟨rfl, F, HP0.out.lev HFF.out⟩⟩, own_weak hL9.out hB3.size, hL9.rows.weak hB3.size, below_step hB3 hL9.below⟩
    · have hz0 : decide (e = 0) = false := decide_eq_false he0
      go_wp2_with fail
      go_ret2
      have hnm : (netOf l).map (·.1) = l.map (·.f0) := by rw [netOf, List.map_map]; rfl
      exact ⟨_, [], [], e, fun _ => 0, rfl, ⟨s, m, e, by rw [hnm]; exact HSO.out, rfl, .inl ⟨he0, rfl⟩⟩, own_nil _ _ _ _, LRows.nil _ _ _, HB2.out⟩
end Go.Proofs.Ytdllpgeagdckmaa.Q

/- Arguments that are lists of texts, opened to rows that are read, with what the bound on their bulk says of lengths. -/
namespace Go.Proofs.Ytdllpgeagdckmaa.Opens
open Go.ChangeShapes Go.WideShapes Go.Deep Go.RowKit Go.Proofs.YtdllpgeagdckmaaW.PrintWords
section
variable {H : Type} {enc : TypeId × Value → H} {P : Program} {w : World} {base : Nat} {spare : Nat → Bool} {held : Bool}

/-- Elements that are texts. -/
theorem el_str {e : TypeId} (he : P.underlying e = some .string) : ∀ n cs y, DataW.trod enc P w base spare held n e cs = some y → ∃ p : ByteArray, Kd.string.K w p cs ∧ p.size ≤ maxLen ∧ (fun p : ByteArray => p.size + 1) p ≤ Rows.uptoBulk y.1 := by
  intro n cs y h
  obtain ⟨s, rfl, rfl, hs⟩ := DataW.trod_string he h
  exact ⟨s, rfl, hs, by simp [Rows.uptoBulk]⟩

/-- A slice of texts. -/
theorem open_C_str {t e : TypeId} (ht : P.underlying t = some (.slice e)) (he : P.underlying e = some .string) (hc : P.cellsOf e = 1) (n : Nat) (cs : List Value) (y : DataW H × List MemPlace) (h : DataW.trod enc P w base spare held n t cs = some y) :
    ∃ (A : Option Addr) (cap : Nat) (xs : List ByteArray), cs = [.slice A xs.length cap] ∧ xs.length ≤ cap ∧ cap ≤ maxLen ∧ Kd.string.C w A xs.length xs ∧ (∀ p ∈ xs, p.size ≤ maxLen) ∧ (xs.map (fun p => p.size + 1)).sum + 1 ≤ Rows.uptoBulk y.1 :=
  open_C Kd.string (fun p => p.size + 1) (fun p => p.size ≤ maxLen) ht hc (el_str he) h
theorem strs_length (xs : List ByteArray) : xs.length ≤ (xs.map (fun p => p.size + 1)).sum := by
  induction xs with
  | nil => simp
  | cons x xs ih => simp only [List.length_cons, List.map_cons, List.sum_cons]; omega
end
end Go.Proofs.Ytdllpgeagdckmaa.Opens

-- Made by a program of this session (turnprint.py), after the manner of the kit's print.
namespace Go.Proofs.Ytdllpgeagdckmaa.Q
open Go.RowKit Go.Proofs.YtdllpgeagdckmaaW.PrintWords Go.Proofs.YtdllpgeagdckmaaW.PrintLast Go.Proofs.YtdllpgeagdckmaaW.PrintMore
attribute [local go_sem] max2_int min2_int max_two min_two max_three min_three max_four min_four   -- for this text's walks alone
set_option linter.unusedVariables false
set_option linter.unusedSimpArgs false

/-! ### quirelaw15_awake: function 7 -/
noncomputable def quirelaw15_awake.f  : Option (Bool) := (order_Sort.f (([(⟨(⟨#[97]⟩ : ByteArray), ([] : List ByteArray)⟩ : S41)] : List (S41))) (([(⟨#[97]⟩ : ByteArray)] : List ByteArray)) ([] : List ByteArray)).bind fun bt107 => (if bt107.2.2 = 0 then (some ((bt107.1.length : Int) == 1)) else (some false))
set_option maxHeartbeats 8000000 in
set_option maxRecDepth 100000 in
theorem quirelaw15_awake.calls  (r : Bool) (w : World) (h : quirelaw15_awake.f  = some r) :
    Calls Try.prog 7 #[] w fun e w' => e = .returned (.bool r) ∧ Below w.heap.size w w' := by
  have hu41 := Try.underlying41
  have HB := Aside0.mk (Below.refl w.heap.size w)
  have H : ((order_Sort.f (([(⟨(⟨#[97]⟩ : ByteArray), ([] : List ByteArray)⟩ : S41)] : List (S41))) (([(⟨#[97]⟩ : ByteArray)] : List ByteArray)) ([] : List ByteArray)).bind fun bt107 => (if bt107.2.2 = 0 then (some ((bt107.1.length : Int) == 1)) else (some false))) = some r := h
  clear h
  obtain ⟨y101, hy101⟩ : ∃ y_ : List (S41), y_ = (([(⟨(⟨#[97]⟩ : ByteArray), ([] : List ByteArray)⟩ : S41)] : List (S41))) := ⟨_, rfl⟩
  replace H : ((order_Sort.f y101 (([(⟨#[97]⟩ : ByteArray)] : List ByteArray)) ([] : List ByteArray)).bind fun bt107 => (if bt107.2.2 = 0 then (some ((bt107.1.length : Int) == 1)) else (some false))) = some r := by first | (rw [hy101]; with_reducible exact H) | (have H2_ := (Option.bind_some _ _).symm.trans H; rw [hy101]; with_reducible exact H2_) | (have H2_ := (Option.bind_some _ _).symm.trans H; with_reducible exact H2_) | with_reducible exact H | (rw [hy101]; exact H) | exact H
  have Ny101 := Aside0.mk hy101
  clear hy101
  obtain ⟨y104, hy104⟩ : ∃ y_ : List ByteArray, y_ = (([(⟨#[97]⟩ : ByteArray)] : List ByteArray)) := ⟨_, rfl⟩
  replace H : ((order_Sort.f y101 y104 ([] : List ByteArray)).bind fun bt107 => (if bt107.2.2 = 0 then (some ((bt107.1.length : Int) == 1)) else (some false))) = some r := by first | (rw [hy104]; with_reducible exact H) | (have H2_ := (Option.bind_some _ _).symm.trans H; rw [hy104]; with_reducible exact H2_) | (have H2_ := (Option.bind_some _ _).symm.trans H; with_reducible exact H2_) | with_reducible exact H | (rw [hy104]; exact H) | exact H
  have Ny104 := Aside0.mk hy104
  clear hy104
  replace H := Option.bind_eq_some_iff.mp H
  obtain ⟨⟨t107, t108, t109⟩, A10, H⟩ := H
  replace H : (if t109 = 0 then (some ((t107.length : Int) == 1)) else (some false)) = some r := H
  have A1 := Aside0.mk A10
  clear A10
  by_cases c2 : t109 = 0
  · rw [if_pos c2] at H
    have c2b0 : (t109 == 0) = true := beq_iff_eq.mpr c2
    have c2b1 : (t109 != 0) = false := bne_eq_false_iff_eq.mpr c2
    clear c2
    obtain rfl := Option.some.inj H
    go_enter Try.func7, Try.ntmps7
    go_wp2_with (first | ((with_reducible refine gate_dst (N := 6) rfl ?_); (try (refine gate_guard (by rfl) ?_; dsimp only)); refine Kd.S_lit k41 _ 41 ?hg (N := 6) ?hd (xs := ([(⟨(⟨#[97]⟩ : ByteArray), ([] : List ByteArray)⟩ : S41)] : List (S41))) (inner := [.string (⟨#[97]⟩ : ByteArray), .slice none 0 0]) (ok := fun _ => True) (okp := fun _ => True) ?hr ?hp (fun _ hk => hk) trivial (Below.refl _ _) (Nat.le_refl _) (by simp) ?_; (case hd => rfl); (case hg => rfl); (case hr => first | (go_simp; done) | (go_simp; rfl)); (case hp => exact (Reps.c2 (show Kd.M k41 _ _ _ (⟨(⟨#[97]⟩ : ByteArray), ([] : List ByteArray)⟩ : S41) [.string (⟨#[97]⟩ : ByteArray), .slice none 0 0] from (k41_mkM _ _ _ (⟨(⟨#[97]⟩ : ByteArray), ([] : List ByteArray)⟩ : S41) (Kd.R_nil _ _ _ _ _))) (Reps.none _ _))); intro v102 w3 ho4 hb hg_ hnew_; clear hg_ hnew_; (first | rw [← Ny101.out] at ho4 | (simp only [Int.reduceToNat] at ho4; rw [← Ny101.out] at ho4)); have n0_ := Aside0.mk (Kd.S_lower ho4 (below_size (by repeat (first | (with_reducible first | exact HB.out | apply below_alloc | apply pw_below_drewN | apply below_drew1) | exact HB.out)))); have n1_ := Aside0.mk (below_step (by repeat (first | (with_reducible first | exact HB.out | apply below_alloc | apply pw_below_drewN | apply below_drew1) | exact HB.out)) hb); clear HB; have HO103 := n0_; have HB := n1_; clear n0_ n1_; clear hb ho4) | ((with_reducible refine gate_dst (N := 7) rfl ?_); (try (refine gate_guard (by rfl) ?_; dsimp only)); refine Kd.R_lit Kd.string _ 9 ?hg (N := 7) ?hd (xs := ([(⟨#[97]⟩ : ByteArray)] : List ByteArray)) (inner := [.string (⟨#[97]⟩ : ByteArray)]) (ok := fun _ => True) (okp := fun _ => True) ?hr ?hp (fun _ hk => hk) trivial (Below.refl _ _) (Nat.le_refl _) (by simp) ?_; (case hd => rfl); (case hg => rfl); (case hr => first | (go_simp; done) | (go_simp; rfl)); (case hp => exact (Reps.one (show Kd.M Kd.string _ _ _ (⟨#[97]⟩ : ByteArray) [.string (⟨#[97]⟩ : ByteArray)] from rfl) (Reps.none _ _))); intro v105 w5 ho6 hb hg_ hnew_; clear hg_ hnew_; (first | rw [← Ny104.out] at ho6 | (simp only [Int.reduceToNat] at ho6; rw [← Ny104.out] at ho6)); have n0_ := Aside0.mk (Kd.S_elder' (by (with_reducible repeat (first | apply Kd.S_alloc | apply Kd.S_drewN | apply Kd.S_drew)); exact HO103.out) (Kd.R_base ho6) hb); have n1_ := Aside0.mk (Kd.R_lower ho6 (below_size (by repeat (first | (with_reducible first | exact HB.out | apply below_alloc | apply pw_below_drewN | apply below_drew1) | exact HB.out)))); have n2_ := Aside0.mk (below_step (by repeat (first | (with_reducible first | exact HB.out | apply below_alloc | apply pw_below_drewN | apply below_drew1) | exact HB.out)) hb); clear HO103; clear HB; have HO103 := n0_; have HO106 := n1_; have HB := n2_; clear n0_ n1_ n2_; clear hb ho6; obtain ⟨Ao7, co7, eo7⟩ := Kd.S_slice HO103.out; subst eo7; obtain ⟨Ao8, co8, eo8⟩ := Kd.R_slice HO106.out; subst eo8) | ((with_reducible refine gate_callee (f := 8) rfl ?_); refine goesL_ (some 8) rfl rfl Try.func8 (by kernel_rfl) rfl #[.slice Ao7 y101.length co7, .slice Ao8 y104.length co8, .slice none 0 0] rfl (by (try simp only [List.map_toArray, List.map_cons, List.map_nil]); first | done | rfl | (simp only [List.length_drop, List.length_take]; rfl)) ?_; (refine (order_Sort.calls _ _ y101 _ _ y104 _ _ ([] : List ByteArray) t107 t108 t109 _ ?side1 ?side2 ?side3 ?side4 ?side5 ?side6 A1.out).mono ?_); (case side1 => repeat (first | exact (Kd.S_reads' HO103.out).2.2 | (with_reducible refine Kd.C_alloc ?_ _) | (with_reducible refine Kd.C_drewN ?_ _) | (with_reducible refine Kd.C_drew ?_))); (case side2 => exact (Kd.S_reads' HO103.out).2.1); (case side3 => repeat (first | exact (Kd.R_reads' HO106.out).2.2 | (with_reducible refine Kd.C_alloc ?_ _) | (with_reducible refine Kd.C_drewN ?_ _) | (with_reducible refine Kd.C_drew ?_))); (case side4 => exact (Kd.R_reads' HO106.out).2.1); (case side5 => exact Kd.C_nil _ _); (case side6 => exact Nat.le_refl _); rintro e w9 ⟨v110, rfl, ho0, hb⟩; refine ⟨_, rfl, ?_⟩; have n0_ := Aside0.mk (Kd.S_elder' (by (with_reducible repeat (first | apply Kd.S_alloc | apply Kd.S_drewN | apply Kd.S_drew)); exact HO103.out) (Kd.R_base ho0) hb); have n1_ := Aside0.mk (Kd.R_elder' (by (with_reducible repeat (first | apply Kd.R_alloc | apply Kd.R_drewN | apply Kd.R_drew)); exact HO106.out) (Kd.R_base ho0) hb); have n2_ := Aside0.mk (Kd.R_lower (Kd.R_new' ho0 (Kd.R_lt (by (with_reducible repeat (first | apply Kd.R_alloc | apply Kd.R_drewN | apply Kd.R_drew)); exact HO106.out))) (below_size (by repeat (first | (with_reducible first | exact HB.out | apply below_alloc | apply pw_below_drewN | apply below_drew1) | exact HB.out)))); have n3_ := Aside0.mk (below_step (by repeat (first | (with_reducible first | exact HB.out | apply below_alloc | apply pw_below_drewN | apply below_drew1) | exact HB.out)) hb); clear HO103; clear HO106; clear HB; have HO103 := n0_; have HO106 := n1_; have HO111 := n2_; have HB := n3_; clear n0_ n1_ n2_ n3_; (try clear hb); (try clear hb2); (try clear hk); (try clear hi); (try clear ho0); obtain ⟨Ao10, co10, eo10⟩ := Kd.R_slice HO111.out; subst eo10))
    go_ret
    exact ⟨by first | rfl | (simp [errW_none, errW_some] <;> rfl) | (simp [*, errW_none, errW_some] <;> rfl), by repeat (first | (with_reducible first | exact HB.out | apply below_alloc | apply pw_below_drewN | apply below_drew1) | exact HB.out)⟩
  · rw [if_neg c2] at H
    have c2b0 : (t109 == 0) = false := beq_eq_false_iff_ne.mpr c2
    have c2b1 : (t109 != 0) = true := bne_iff_ne.mpr c2
    obtain rfl := Option.some.inj H
    go_enter Try.func7, Try.ntmps7
    go_wp2_with (first | ((with_reducible refine gate_dst (N := 6) rfl ?_); (try (refine gate_guard (by rfl) ?_; dsimp only)); refine Kd.S_lit k41 _ 41 ?hg (N := 6) ?hd (xs := ([(⟨(⟨#[97]⟩ : ByteArray), ([] : List ByteArray)⟩ : S41)] : List (S41))) (inner := [.string (⟨#[97]⟩ : ByteArray), .slice none 0 0]) (ok := fun _ => True) (okp := fun _ => True) ?hr ?hp (fun _ hk => hk) trivial (Below.refl _ _) (Nat.le_refl _) (by simp) ?_; (case hd => rfl); (case hg => rfl); (case hr => first | (go_simp; done) | (go_simp; rfl)); (case hp => exact (Reps.c2 (show Kd.M k41 _ _ _ (⟨(⟨#[97]⟩ : ByteArray), ([] : List ByteArray)⟩ : S41) [.string (⟨#[97]⟩ : ByteArray), .slice none 0 0] from (k41_mkM _ _ _ (⟨(⟨#[97]⟩ : ByteArray), ([] : List ByteArray)⟩ : S41) (Kd.R_nil _ _ _ _ _))) (Reps.none _ _))); intro v102 w11 ho12 hb hg_ hnew_; clear hg_ hnew_; (first | rw [← Ny101.out] at ho12 | (simp only [Int.reduceToNat] at ho12; rw [← Ny101.out] at ho12)); have n0_ := Aside0.mk (Kd.S_lower ho12 (below_size (by repeat (first | (with_reducible first | exact HB.out | apply below_alloc | apply pw_below_drewN | apply below_drew1) | exact HB.out)))); have n1_ := Aside0.mk (below_step (by repeat (first | (with_reducible first | exact HB.out | apply below_alloc | apply pw_below_drewN | apply below_drew1) | exact HB.out)) hb); clear HB; have HO103 := n0_; have HB := n1_; clear n0_ n1_; clear hb ho12) | ((with_reducible refine gate_dst (N := 7) rfl ?_); (try (refine gate_guard (by rfl) ?_; dsimp only)); refine Kd.R_lit Kd.string _ 9 ?hg (N := 7) ?hd (xs := ([(⟨#[97]⟩ : ByteArray)] : List ByteArray)) (inner := [.string (⟨#[97]⟩ : ByteArray)]) (ok := fun _ => True) (okp := fun _ => True) ?hr ?hp (fun _ hk => hk) trivial (Below.refl _ _) (Nat.le_refl _) (by simp) ?_; (case hd => rfl); (case hg => rfl); (case hr => first | (go_simp; done) | (go_simp; rfl)); (case hp => exact (Reps.one (show Kd.M Kd.string _ _ _ (⟨#[97]⟩ : ByteArray) [.string (⟨#[97]⟩ : ByteArray)] from rfl) (Reps.none _ _))); intro v105 w13 ho14 hb hg_ hnew_; clear hg_ hnew_; (first | rw [← Ny104.out] at ho14 | (simp only [Int.reduceToNat] at ho14; rw [← Ny104.out] at ho14)); have n0_ := Aside0.mk (Kd.S_elder' (by (with_reducible repeat (first | apply Kd.S_alloc | apply Kd.S_drewN | apply Kd.S_drew)); exact HO103.out) (Kd.R_base ho14) hb); have n1_ := Aside0.mk (Kd.R_lower ho14 (below_size (by repeat (first | (with_reducible first | exact HB.out | apply below_alloc | apply pw_below_drewN | apply below_drew1) | exact HB.out)))); have n2_ := Aside0.mk (below_step (by repeat (first | (with_reducible first | exact HB.out | apply below_alloc | apply pw_below_drewN | apply below_drew1) | exact HB.out)) hb); clear HO103; clear HB; have HO103 := n0_; have HO106 := n1_; have HB := n2_; clear n0_ n1_ n2_; clear hb ho14; obtain ⟨Ao15, co15, eo15⟩ := Kd.S_slice HO103.out; subst eo15; obtain ⟨Ao16, co16, eo16⟩ := Kd.R_slice HO106.out; subst eo16) | ((with_reducible refine gate_callee (f := 8) rfl ?_); refine goesL_ (some 8) rfl rfl Try.func8 (by kernel_rfl) rfl #[.slice Ao15 y101.length co15, .slice Ao16 y104.length co16, .slice none 0 0] rfl (by (try simp only [List.map_toArray, List.map_cons, List.map_nil]); first | done | rfl | (simp only [List.length_drop, List.length_take]; rfl)) ?_; (refine (order_Sort.calls _ _ y101 _ _ y104 _ _ ([] : List ByteArray) t107 t108 t109 _ ?side1 ?side2 ?side3 ?side4 ?side5 ?side6 A1.out).mono ?_); (case side1 => repeat (first | exact (Kd.S_reads' HO103.out).2.2 | (with_reducible refine Kd.C_alloc ?_ _) | (with_reducible refine Kd.C_drewN ?_ _) | (with_reducible refine Kd.C_drew ?_))); (case side2 => exact (Kd.S_reads' HO103.out).2.1); (case side3 => repeat (first | exact (Kd.R_reads' HO106.out).2.2 | (with_reducible refine Kd.C_alloc ?_ _) | (with_reducible refine Kd.C_drewN ?_ _) | (with_reducible refine Kd.C_drew ?_))); (case side4 => exact (Kd.R_reads' HO106.out).2.1); (case side5 => exact Kd.C_nil _ _); (case side6 => exact Nat.le_refl _); rintro e w17 ⟨v110, rfl, ho0, hb⟩; refine ⟨_, rfl, ?_⟩; have n0_ := Aside0.mk (Kd.S_elder' (by (with_reducible repeat (first | apply Kd.S_alloc | apply Kd.S_drewN | apply Kd.S_drew)); exact HO103.out) (Kd.R_base ho0) hb); have n1_ := Aside0.mk (Kd.R_elder' (by (with_reducible repeat (first | apply Kd.R_alloc | apply Kd.R_drewN | apply Kd.R_drew)); exact HO106.out) (Kd.R_base ho0) hb); have n2_ := Aside0.mk (Kd.R_lower (Kd.R_new' ho0 (Kd.R_lt (by (with_reducible repeat (first | apply Kd.R_alloc | apply Kd.R_drewN | apply Kd.R_drew)); exact HO106.out))) (below_size (by repeat (first | (with_reducible first | exact HB.out | apply below_alloc | apply pw_below_drewN | apply below_drew1) | exact HB.out)))); have n3_ := Aside0.mk (below_step (by repeat (first | (with_reducible first | exact HB.out | apply below_alloc | apply pw_below_drewN | apply below_drew1) | exact HB.out)) hb); clear HO103; clear HO106; clear HB; have HO103 := n0_; have HO106 := n1_; have HO111 := n2_; have HB := n3_; clear n0_ n1_ n2_ n3_; (try clear hb); (try clear hb2); (try clear hk); (try clear hi); (try clear ho0)))
    go_ret
    exact ⟨by first | rfl | (simp [errW_none, errW_some] <;> rfl) | (simp [*, errW_none, errW_some] <;> rfl), by repeat (first | (with_reducible first | exact HB.out | apply below_alloc | apply pw_below_drewN | apply below_drew1) | exact HB.out)⟩

-- NOT PRINTED: function 69 (quirelaw07_Values)

-- NOT PRINTED: function 67 (quirelaw07_Value)

-- NOT PRINTED: function 60 (quirelaw07_ItemOf)

-- NOT PRINTED: function 47 (quirelaw07_ItemsOf)

-- NOT PRINTED: function 40 (quirelaw07_DefOf)

-- NOT PRINTED: function 23 (quirelaw14_Api)

end Go.Proofs.Ytdllpgeagdckmaa.Q

/- What the laws on orders need beside the walks: the awake check, sizes of orders. -/
namespace Go.Proofs.Ytdllpgeagdckmaa.Q
open Go.RowKit Go.Proofs.YtdllpgeagdckmaaW.PrintWords Go.Proofs.YtdllpgeagdckmaaW.PrintLast Go.Proofs.YtdllpgeagdckmaaW.PrintMore Go.Proofs.Ytdllpgeagdckmaa.Ord
set_option linter.unusedVariables false
set_option linter.unusedSimpArgs false
set_option linter.unusedSectionVars false

theorem w64 {x : Int} (h0 : -9223372036854775808 ≤ x) (h1 : x ≤ 9223372036854775807) : wrap64 x = x := by unfold wrap64; omega
theorem rd_at {l : List ByteArray} {i : Nat} (h : i < l.length) : rdOf ByteArray.empty l (i : Int) = l[i] := by
  unfold rdOf
  rw [Int.toNat_natCast, List.getD_eq_getElem?_getD, List.getElem?_eq_getElem h]
  rfl
theorem rd33_at {l : List S33} {i : Nat} (h : i < l.length) : rd_T33 l (i : Int) = l[i] := by
  unfold rd_T33
  rw [Int.toNat_natCast, List.getD_eq_getElem?_getD, List.getElem?_eq_getElem h]
  rfl
theorem toList_eq {a b : ByteArray} : a.toList = b.toList ↔ a = b := ⟨fun h => bytes_ext (by rw [← toList_data, ← toList_data]; exact h), fun h => by rw [h]⟩

def nmA : ByteArray := ⟨#[97]⟩
theorem awake_fit : Fit ([(⟨(⟨#[97]⟩ : ByteArray), ([] : List ByteArray)⟩ : S41)]) [(⟨#[97]⟩ : ByteArray)] [] := by
  refine ⟨by simp [netOf, tot], by simp, by simp, ?_, ?_, ?_, by simp⟩
  · intro v hv
    rw [List.mem_singleton.1 hv]
    decide
  · intro v hv u hu
    rw [List.mem_singleton.1 hv] at hu
    simp at hu
  · intro u hu
    rw [List.mem_singleton.1 hu]
    decide
theorem awake_true : quirelaw15_awake.f = some true := by
  obtain ⟨l, m, e, hs⟩ := sorts_exists totN noName (netOf [(⟨(⟨#[97]⟩ : ByteArray), ([] : List ByteArray)⟩ : S41)]) [(⟨#[97]⟩ : ByteArray)] []
  have hf := order_Sort.of awake_fit (r := (l, m, e)) hs
  have hcand : ∀ x, Ord.Reach (netOf [(⟨(⟨#[97]⟩ : ByteArray), ([] : List ByteArray)⟩ : S41)]) [] [(⟨#[97]⟩ : ByteArray)] x → x = ⟨#[97]⟩ := fun x hx => by
    have := hx.cand
    simpa [netOf] using this
  have hu : ∀ us, usesOf (netOf [(⟨(⟨#[97]⟩ : ByteArray), ([] : List ByteArray)⟩ : S41)]) ⟨#[97]⟩ = some us → us = [] := fun us h => by
    obtain ⟨v, hv, e⟩ := usesOf_sub h
    simp [netOf] at hv
    rw [← e, hv]
  have hun : usesOf (netOf [(⟨(⟨#[97]⟩ : ByteArray), ([] : List ByteArray)⟩ : S41)]) ⟨#[97]⟩ ≠ none := fun h => by
    rw [usesOf_none] at h
    exact h (by simp [netOf])
  have hb : bads (netOf [(⟨(⟨#[97]⟩ : ByteArray), ([] : List ByteArray)⟩ : S41)]) = [] := by simp [bads, badsFrom, dupUses, netOf]
  unfold quirelaw15_awake.f
  rw [hf]
  cases hs with
  | twice m h => have := h.1; rw [hb] at this; simp at this
  | none_ m h0 h => have h1 := h.1.2; rw [hcand _ h.1.1] at h1; exact absurd h1 hun
  | cycle m h0 h1 h =>
    obtain ⟨us, h2, h3⟩ := h.1.2
    rw [hcand _ h.1.1] at h2
    rw [hu _ h2] at h3
    have := h3.cand
    simp [netOf] at this
  | ok l h0 h1 h2 h =>
    have hm : (⟨#[97]⟩ : ByteArray) ∈ l := (h.mem _).2 (.base _ (by simp) (by simp))
    have h3 := subset_length (l := l) (m := [(⟨#[97]⟩ : ByteArray)]) h.nodup (fun x hx => by rw [hcand x ((h.mem x).1 hx)]; simp)
    have h4 := List.length_pos_of_mem hm
    have h5 : l.length = 1 := by simp at h3; omega
    simp [h5]

/-! ### The law -/
theorem netOf_conv (list : List S33) : netOf (list.map conv) = list.map fun v => (v.f0, v.f1) := by simp [netOf, conv]
theorem tot_flat : ∀ l : Net ByteArray, (l.flatMap (·.2)).length ≤ tot l
  | [] => by simp [tot]
  | v :: l => by
    have := tot_flat l
    simp only [List.flatMap_cons, List.length_append, tot]
    omega
theorem order_length {list : Net ByteArray} {hv want l : List ByteArray} (h : Greedy ltN list hv want l) (h1 : want.length ≤ 3000000) (h2 : tot list ≤ 3000000) : l.length ≤ 6000000 := by
  have h3 := subset_length (m := want ++ list.flatMap (·.2)) h.nodup (fun x hx => ((h.mem x).1 hx).cand)
  have h4 := tot_flat list
  rw [List.length_append] at h3
  omega

end Go.Proofs.Ytdllpgeagdckmaa.Q

/- The list of names and uses as an argument, opened. -/
namespace Go.Proofs.Ytdllpgeagdckmaa.Q
open Go.ChangeShapes Go.WideShapes Go.Deep Go.RowKit Go.Proofs.YtdllpgeagdckmaaW.PrintWords Go.Proofs.Ytdllpgeagdckmaa.Opens
section
variable {H : Type} {enc : TypeId × Value → H} {w : World} {base : Nat} {spare : Nat → Bool} {held : Bool}

/-- A name and its uses are of sizes that memory bears. -/
def Okv (v : S33) : Prop := v.f0.size ≤ maxLen ∧ ∀ u ∈ v.f1, u.size ≤ maxLen
def wtv (v : S33) : Nat := v.f0.size + 1 + ((v.f1.map (fun p => p.size + 1)).sum + 1)

set_option maxRecDepth 100000 in
theorem el_voc : ∀ n cs y, DataW.trod enc Try.prog w base spare held n 33 cs = some y → ∃ p : S33, k33.K w p cs ∧ Okv p ∧ wtv p ≤ Rows.uptoBulk y.1 := by
  intro n cs y h
  obtain ⟨y0, y1, m, rfl, hl, h0, h1⟩ := trod_struct2 Try.underlying33 h
  have hc33 : Try.prog.cellsOf 33 = 2 := by kernel_rfl
  have hc9 : Try.prog.cellsOf 9 = 1 := by kernel_rfl
  have hc23 : Try.prog.cellsOf 23 = 1 := by kernel_rfl
  obtain ⟨c0, c1, rfl⟩ : ∃ c0 c1, cs = [c0, c1] := by
    rw [hc33] at hl
    match cs, hl with
    | [c0, c1], _ => exact ⟨c0, c1, rfl⟩
  simp only [hc9, hc23, List.drop_zero, List.drop_succ_cons, List.take_succ_cons, List.take_zero] at h0 h1
  obtain ⟨s, hs, rfl, hsz⟩ := DataW.trod_string Try.underlying9 h0
  obtain ⟨A, cap, us, hus, hle, hmx, hC, hQ, hB⟩ := open_C_str Try.underlying23 Try.underlying9 hc9 _ _ _ h1
  cases hs
  cases hus
  refine ⟨⟨s, us⟩, k33_mk w ⟨s, us⟩ hle hC, ⟨hsz, hQ⟩, ?_⟩
  have e : s.data.size = s.size := rfl
  simp only [wtv, Rows.uptoBulk, Rows.uptoBulkAll, Array.length_toList, e]
  omega

theorem open_voc (n : Nat) (cs : List Value) (y : DataW H × List MemPlace) (h : DataW.trod enc Try.prog w base spare held n 22 cs = some y) :
    ∃ (A : Option Addr) (cap : Nat) (xs : List S33), cs = [.slice A xs.length cap] ∧ xs.length ≤ cap ∧ cap ≤ maxLen ∧ k33.C w A xs.length xs ∧ (∀ p ∈ xs, Okv p) ∧ (xs.map wtv).sum + 1 ≤ Rows.uptoBulk y.1 :=
  open_C k33 wtv Okv Try.underlying22 (by kernel_rfl) el_voc h
theorem vocs_sum (xs : List S33) : tot (netOf (xs.map conv)) ≤ (xs.map wtv).sum ∧ xs.length ≤ (xs.map wtv).sum ∧ ∀ v ∈ xs, v.f1.length ≤ (xs.map wtv).sum := by
  rw [netOf_conv]
  induction xs with
  | nil => simp [tot]
  | cons x xs ih =>
    have h1 := strs_length x.f1
    have hw : wtv x = x.f0.size + 1 + ((x.f1.map (fun p => p.size + 1)).sum + 1) := rfl
    simp only [List.map_cons, List.sum_cons, tot, List.length_cons]
    refine ⟨by omega, by omega, fun v hv => ?_⟩
    rcases List.mem_cons.1 hv with rfl | hv
    · omega
    · have := ih.2.2 v hv
      omega
theorem fit_of {list : List S33} {want hv : List ByteArray} (q0 : ∀ v ∈ list, Okv v) (q1 : ∀ p ∈ want, p.size ≤ maxLen) (q2 : ∀ p ∈ hv, p.size ≤ maxLen)
    (hB : (list.map wtv).sum + (want.map (fun p => p.size + 1)).sum + (hv.map (fun p => p.size + 1)).sum ≤ 1048576) : Fit (list.map conv) want hv := by
  have h0 := vocs_sum list
  have h1 := strs_length want
  have h2 := strs_length hv
  refine ⟨by omega, by omega, by omega, fun v hv1 => ?_, fun v hv1 => ?_, q1, q2⟩
  · obtain ⟨v', hv2, rfl⟩ := List.mem_map.1 hv1
    exact (q0 v' hv2).1
  · obtain ⟨v', hv2, rfl⟩ := List.mem_map.1 hv1
    exact (q0 v' hv2).2
end
end Go.Proofs.Ytdllpgeagdckmaa.Q

-- Made by a program of this session (turnprint.py), after the manner of the kit's print.
namespace Go.Proofs.Ytdllpgeagdckmaa.Q
open Go.RowKit Go.Proofs.YtdllpgeagdckmaaW.PrintWords Go.Proofs.YtdllpgeagdckmaaW.PrintLast Go.Proofs.YtdllpgeagdckmaaW.PrintMore
attribute [local go_sem] max2_int min2_int max_two min_two max_three min_three max_four min_four   -- for this text's walks alone
set_option linter.unusedVariables false
set_option linter.unusedSimpArgs false

/-! ### quireref01_SameTexts: function 12 -/
noncomputable def quireref01_SameTexts.l0 : Nat → List ByteArray → List ByteArray → Int → Option (Bool)
  | 0, _, _, _ => none
  | k + 1, x0, x1, x5 => if x5 < (x0.length : Int) then (if 0 ≤ x5 then (if x5 < (x1.length : Int) then (if (rdOf ByteArray.empty x0 x5).toList = (rdOf ByteArray.empty x1 x5).toList then (quireref01_SameTexts.l0 k x0 x1 (wrap64 (x5 + 1))) else (some false)) else (none)) else (none)) else (some true)
noncomputable def quireref01_SameTexts.f (k : Nat) (l0 : List ByteArray) (l1 : List ByteArray) : Option (Bool) := if (l0.length : Int) = (l1.length : Int) then (quireref01_SameTexts.l0 k l0 l1 0) else (some false)
theorem quireref01_SameTexts.mono_l : ∀ k, (∀ y0 y1 y2, LeO (quireref01_SameTexts.l0 k y0 y1 y2) (quireref01_SameTexts.l0 (k + 1) y0 y1 y2))
  | 0 => fun _ _ _ r h => by simp [quireref01_SameTexts.l0] at h
  | k + 1 => by
    have ih0 := quireref01_SameTexts.mono_l k
    · intro y0 y1 y2
      unfold quireref01_SameTexts.l0
      repeat' first
      | (with_reducible exact ih0 _ _ _)
      | (with_reducible exact LeO.refl _)
      | (with_reducible exact LeO.none _)
      | (with_reducible refine LeO.ite ?_ ?_)
      | (with_reducible refine LeO.bind ?_ (fun _ => ?_))
      | exact ih0 _ _ _
      | exact LeO.none _
      | refine LeO.ite ?_ ?_
      | refine LeO.bind ?_ (fun _ => ?_)
theorem quireref01_SameTexts.mono : ∀ a0 a1 k, LeO (quireref01_SameTexts.f k a0 a1) (quireref01_SameTexts.f (k + 1) a0 a1) := by
  intro a0 a1 k
  have ih0 := quireref01_SameTexts.mono_l k
  unfold quireref01_SameTexts.f
  repeat' first
      | (with_reducible exact ih0 _ _ _)
      | (with_reducible exact LeO.refl _)
      | (with_reducible exact LeO.none _)
      | (with_reducible refine LeO.ite ?_ ?_)
      | (with_reducible refine LeO.bind ?_ (fun _ => ?_))
      | exact ih0 _ _ _
      | exact LeO.none _
      | refine LeO.ite ?_ ?_
      | refine LeO.bind ?_ (fun _ => ?_)
set_option maxHeartbeats 8000000 in
set_option maxRecDepth 100000 in
theorem quireref01_SameTexts.calls (k : Nat) (A0 : Option Addr) (c0 : Nat) (l0 : List ByteArray) (A1 : Option Addr) (c1 : Nat) (l1 : List ByteArray) (r : Bool) (w : World) (hr0 : Kd.C Kd.string w A0 l0.length l0) (hc0 : l0.length ≤ c0) (hr1 : Kd.C Kd.string w A1 l1.length l1) (hc1 : l1.length ≤ c1) (h : quireref01_SameTexts.f k l0 l1 = some r) :
    Calls Try.prog 12 #[.slice A0 l0.length c0, .slice A1 l1.length c1] w fun e w' => e = .returned (.bool r) ∧ Drawn0 w w' := by
  have HR0 := Aside0.mk hr0
  have HC0 := Aside0.mk hc0
  clear hr0 hc0
  have HR1 := Aside0.mk hr1
  have HC1 := Aside0.mk hc1
  clear hr1 hc1
  have H : (if (l0.length : Int) = (l1.length : Int) then (quireref01_SameTexts.l0 k l0 l1 0) else (some false)) = some r := h
  clear h
  by_cases c3 : (l0.length : Int) = (l1.length : Int)
  · rw [if_pos c3] at H
    have c3b0 : ((l0.length : Int) == (l1.length : Int)) = true := beq_iff_eq.mpr c3
    have c3b1 : ((l0.length : Int) != (l1.length : Int)) = false := bne_eq_false_iff_eq.mpr c3
    have c3b2 : (l0.length == l1.length) = true := by first | simpa using c3 | (simp at c3 ⊢; omega)
    clear c3
    have H' := Aside0.mk H
    clear H
    go_enter Try.func12, Try.ntmps12
    go_wp2
    repeat (go_quiet (fail); try go_wp2)
    go_loopg [5] k (fun kq v5 w' => ∃ (x5_1 : Int), v5 = .int .i64 x5_1 ∧ Aside0 (quireref01_SameTexts.l0 kq l0 l1 x5_1 = some r) ∧ Aside0 (kq ≤ k) ∧ Drawn0 w w')
    case atStart => exact ⟨(0), (by first | rfl | (simp; done) | (simp [*]; done)), H', ⟨Nat.le_refl _⟩, by repeat (first | exact Drawn0.refl _ | apply Drawn0.step)⟩
    case round =>
      clear H'
      try clear c1
      try clear p2
      try clear c3
      try clear c3b0
      try clear c3b1
      try clear c3b2
      obtain ⟨x5_1, rfl, HA, HK1, ⟨m1, rfl⟩⟩ := hrel
      cases gk with
      | zero => exact absurd HA.out (by simp [quireref01_SameTexts.l0])
      | succ k1 =>
        have H := HA.out
        clear HA
        simp only [quireref01_SameTexts.l0] at H
        by_cases c4 : x5_1 < (l0.length : Int)
        · rw [if_pos c4] at H
          have c4b0 : decide (x5_1 < (l0.length : Int)) = true := decide_eq_true c4
          clear c4
          by_cases c5 : 0 ≤ x5_1
          · rw [if_pos c5] at H
            have c5b0 : decide (0 ≤ x5_1) = true := decide_eq_true c5
            clear c5
            by_cases c6 : x5_1 < (l1.length : Int)
            · rw [if_pos c6] at H
              have c6b0 : decide (x5_1 < (l1.length : Int)) = true := decide_eq_true c6
              clear c6
              by_cases c7 : (rdOf ByteArray.empty l0 x5_1).toList = (rdOf ByteArray.empty l1 x5_1).toList
              · rw [if_pos c7] at H
                have c7b0 : ((rdOf ByteArray.empty l0 x5_1).toList == (rdOf ByteArray.empty l1 x5_1).toList) = true := beq_iff_eq.mpr c7
                have c7b1 : ((rdOf ByteArray.empty l0 x5_1).toList != (rdOf ByteArray.empty l1 x5_1).toList) = false := bne_eq_false_iff_eq.mpr c7
                clear c7
                have H' := Aside0.mk H
                clear H
                have p153 : 0 ≤ (x5_1 : Int) := of_decide_eq_true (by first | (with_reducible assumption) | assumption)
                have q153 : x5_1 < (l0.length : Int) := of_decide_eq_true (by first | (with_reducible assumption) | assumption)
                obtain ⟨ad153, e153, hx153_0⟩ := Kd.at_string HR0.out x5_1 p153 q153
                cases e153
                replace p153 := eq_true p153
                replace q153 := eq_true q153
                have p154 : 0 ≤ (x5_1 : Int) := of_decide_eq_true (by first | (with_reducible assumption) | assumption)
                have q154 : x5_1 < (l1.length : Int) := of_decide_eq_true (by first | (with_reducible assumption) | assumption)
                obtain ⟨ad154, e154, hx154_0⟩ := Kd.at_string HR1.out x5_1 p154 q154
                cases e154
                replace p154 := eq_true p154
                replace q154 := eq_true q154
                go_wp2
                repeat (go_quiet (fail); try go_wp2)
                go_roundg k1
                case measure => have := HK1.out; omega
                case rel => exact ⟨(wrap64 (x5_1 + 1)), (by first | rfl | (simp; done) | (simp [*]; done)), H', ⟨by have := HK1.out; omega⟩, by repeat (first | exact Drawn0.refl _ | apply Drawn0.step)⟩
              · rw [if_neg c7] at H
                have c7b0 : ((rdOf ByteArray.empty l0 x5_1).toList == (rdOf ByteArray.empty l1 x5_1).toList) = false := beq_eq_false_iff_ne.mpr c7
                have c7b1 : ((rdOf ByteArray.empty l0 x5_1).toList != (rdOf ByteArray.empty l1 x5_1).toList) = true := bne_iff_ne.mpr c7
                obtain rfl := Option.some.inj H
                have p153 : 0 ≤ (x5_1 : Int) := of_decide_eq_true (by first | (with_reducible assumption) | assumption)
                have q153 : x5_1 < (l0.length : Int) := of_decide_eq_true (by first | (with_reducible assumption) | assumption)
                obtain ⟨ad153, e153, hx153_0⟩ := Kd.at_string HR0.out x5_1 p153 q153
                cases e153
                replace p153 := eq_true p153
                replace q153 := eq_true q153
                have p154 : 0 ≤ (x5_1 : Int) := of_decide_eq_true (by first | (with_reducible assumption) | assumption)
                have q154 : x5_1 < (l1.length : Int) := of_decide_eq_true (by first | (with_reducible assumption) | assumption)
                obtain ⟨ad154, e154, hx154_0⟩ := Kd.at_string HR1.out x5_1 p154 q154
                cases e154
                replace p154 := eq_true p154
                replace q154 := eq_true q154
                go_wp2
                repeat (go_quiet (fail); try go_wp2)
                go_ret
                exact ⟨by first | rfl | (simp; done) | (simp [*]; done), by repeat (first | exact Drawn0.refl _ | apply Drawn0.step)⟩
            · rw [if_neg c6] at H
              exact absurd H (by simp)
          · rw [if_neg c5] at H
            exact absurd H (by simp)
        · rw [if_neg c4] at H
          have c4b0 : decide (x5_1 < (l0.length : Int)) = false := decide_eq_false c4
          clear c4
          obtain rfl := Option.some.inj H
          go_wp2
          repeat (go_quiet (fail); try go_wp2)
          go_ret
          exact ⟨by first | rfl | (simp; done) | (simp [*]; done), by repeat (first | exact Drawn0.refl _ | apply Drawn0.step)⟩
  · rw [if_neg c3] at H
    have c3b0 : ((l0.length : Int) == (l1.length : Int)) = false := beq_eq_false_iff_ne.mpr c3
    have c3b1 : ((l0.length : Int) != (l1.length : Int)) = true := bne_iff_ne.mpr c3
    have c3b2 : (l0.length == l1.length) = false := by first | simpa using c3 | (simp at c3 ⊢; omega)
    obtain rfl := Option.some.inj H
    go_enter Try.func12, Try.ntmps12
    go_wp2
    repeat (go_quiet (fail); try go_wp2)
    go_ret
    exact ⟨by first | rfl | (simp; done) | (simp [*]; done), by repeat (first | exact Drawn0.refl _ | apply Drawn0.step)⟩

-- NOT PRINTED: function 4 (quirelaw15_OrderTurns)

/-! ### quireref15_find: function 27 -/
noncomputable def quireref15_find.l0 : Nat → List (S33) → ByteArray → Int → Option (Int)
  | 0, _, _, _ => none
  | k + 1, x0, x1, x5 => if x5 < (x0.length : Int) then (if 0 ≤ x5 then (if ((rd_T33 x0 x5).f0).toList = x1.toList then (some x5) else (quireref15_find.l0 k x0 x1 (wrap64 (x5 + 1)))) else (none)) else (some (-1))
noncomputable def quireref15_find.f (k : Nat) (l0 : List (S33)) (a1 : ByteArray) : Option (Int) := quireref15_find.l0 k l0 a1 0
theorem quireref15_find.mono_l : ∀ k, (∀ y0 y1 y2, LeO (quireref15_find.l0 k y0 y1 y2) (quireref15_find.l0 (k + 1) y0 y1 y2))
  | 0 => fun _ _ _ r h => by simp [quireref15_find.l0] at h
  | k + 1 => by
    have ih0 := quireref15_find.mono_l k
    · intro y0 y1 y2
      unfold quireref15_find.l0
      repeat' first
      | (with_reducible exact ih0 _ _ _)
      | (with_reducible exact LeO.refl _)
      | (with_reducible exact LeO.none _)
      | (with_reducible refine LeO.ite ?_ ?_)
      | (with_reducible refine LeO.bind ?_ (fun _ => ?_))
      | exact ih0 _ _ _
      | exact LeO.none _
      | refine LeO.ite ?_ ?_
      | refine LeO.bind ?_ (fun _ => ?_)
theorem quireref15_find.mono : ∀ a0 a1 k, LeO (quireref15_find.f k a0 a1) (quireref15_find.f (k + 1) a0 a1) := by
  intro a0 a1 k
  have ih0 := quireref15_find.mono_l k
  unfold quireref15_find.f
  repeat' first
      | (with_reducible exact ih0 _ _ _)
      | (with_reducible exact LeO.refl _)
      | (with_reducible exact LeO.none _)
      | (with_reducible refine LeO.ite ?_ ?_)
      | (with_reducible refine LeO.bind ?_ (fun _ => ?_))
      | exact ih0 _ _ _
      | exact LeO.none _
      | refine LeO.ite ?_ ?_
      | refine LeO.bind ?_ (fun _ => ?_)
set_option maxHeartbeats 8000000 in
set_option maxRecDepth 100000 in
theorem quireref15_find.calls (k : Nat) (A0 : Option Addr) (c0 : Nat) (l0 : List (S33)) (a1 : ByteArray) (r : Int) (w : World) (hr0 : Kd.C k33 w A0 l0.length l0) (hc0 : l0.length ≤ c0) (h : quireref15_find.f k l0 a1 = some r) :
    Calls Try.prog 27 #[.slice A0 l0.length c0, .string a1] w fun e w' => e = .returned (.int .i64 r) ∧ Drawn0 w w' := by
  have HR0 := Aside0.mk hr0
  have HC0 := Aside0.mk hc0
  clear hr0 hc0
  have H : (quireref15_find.l0 k l0 a1 0) = some r := h
  clear h
  have H' := Aside0.mk H
  clear H
  go_enter Try.func27, Try.ntmps27
  go_wp2
  go_loopg [5] k (fun kq v5 w' => ∃ (x5_1 : Int), v5 = .int .i64 x5_1 ∧ Aside0 (quireref15_find.l0 kq l0 a1 x5_1 = some r) ∧ Aside0 (kq ≤ k) ∧ Drawn0 w w')
  case atStart => exact ⟨(0), (by first | rfl | (simp; done) | (simp [*]; done)), H', ⟨Nat.le_refl _⟩, by repeat (first | exact Drawn0.refl _ | apply Drawn0.step)⟩
  case round =>
    clear H'
    try clear c2
    try clear p2
    obtain ⟨x5_1, rfl, HA, HK1, ⟨m1, rfl⟩⟩ := hrel
    cases gk with
    | zero => exact absurd HA.out (by simp [quireref15_find.l0])
    | succ k1 =>
      have H := HA.out
      clear HA
      simp only [quireref15_find.l0] at H
      by_cases c3 : x5_1 < (l0.length : Int)
      · rw [if_pos c3] at H
        have c3b0 : decide (x5_1 < (l0.length : Int)) = true := decide_eq_true c3
        clear c3
        by_cases c4 : 0 ≤ x5_1
        · rw [if_pos c4] at H
          have c4b0 : decide (0 ≤ x5_1) = true := decide_eq_true c4
          clear c4
          by_cases c5 : ((rd_T33 l0 x5_1).f0).toList = a1.toList
          · rw [if_pos c5] at H
            have c5b0 : (((rd_T33 l0 x5_1).f0).toList == a1.toList) = true := beq_iff_eq.mpr c5
            have c5b1 : (((rd_T33 l0 x5_1).f0).toList != a1.toList) = false := bne_eq_false_iff_eq.mpr c5
            clear c5
            obtain rfl := Option.some.inj H
            have p171 : 0 ≤ (x5_1 : Int) := of_decide_eq_true (by first | (with_reducible assumption) | assumption)
            have q171 : x5_1 < (l0.length : Int) := of_decide_eq_true (by first | (with_reducible assumption) | assumption)
            obtain ⟨ad171, A171_1, c171_1, e171, hx171_0, hx171_1, hl171_1, hi171_1⟩ := at_T33 HR0.out x5_1 p171 q171
            cases e171
            have HR171_1 := Aside0.mk hi171_1
            have HC171_1 := Aside0.mk hl171_1
            clear hi171_1 hl171_1
            replace p171 := eq_true p171
            replace q171 := eq_true q171
            go_wp2
            go_ret
            exact ⟨by first | rfl | (simp; done) | (simp [*]; done), by repeat (first | exact Drawn0.refl _ | apply Drawn0.step)⟩
          · rw [if_neg c5] at H
            have c5b0 : (((rd_T33 l0 x5_1).f0).toList == a1.toList) = false := beq_eq_false_iff_ne.mpr c5
            have c5b1 : (((rd_T33 l0 x5_1).f0).toList != a1.toList) = true := bne_iff_ne.mpr c5
            have H' := Aside0.mk H
            clear H
            have p171 : 0 ≤ (x5_1 : Int) := of_decide_eq_true (by first | (with_reducible assumption) | assumption)
            have q171 : x5_1 < (l0.length : Int) := of_decide_eq_true (by first | (with_reducible assumption) | assumption)
            obtain ⟨ad171, A171_1, c171_1, e171, hx171_0, hx171_1, hl171_1, hi171_1⟩ := at_T33 HR0.out x5_1 p171 q171
            cases e171
            have HR171_1 := Aside0.mk hi171_1
            have HC171_1 := Aside0.mk hl171_1
            clear hi171_1 hl171_1
            replace p171 := eq_true p171
            replace q171 := eq_true q171
            go_wp2
            go_roundg k1
            case measure => have := HK1.out; omega
            case rel => exact ⟨(wrap64 (x5_1 + 1)), (by first | rfl | (simp; done) | (simp [*]; done)), H', ⟨by have := HK1.out; omega⟩, by repeat (first | exact Drawn0.refl _ | apply Drawn0.step)⟩
        · rw [if_neg c4] at H
          exact absurd H (by simp)
      · rw [if_neg c3] at H
        have c3b0 : decide (x5_1 < (l0.length : Int)) = false := decide_eq_false c3
        clear c3
        obtain rfl := Option.some.inj H
        go_wp2
        go_ret
        exact ⟨by first | rfl | (simp; done) | (simp [*]; done), by repeat (first | exact Drawn0.refl _ | apply Drawn0.step)⟩

/-! ### quireref15_has: function 28 -/
noncomputable def quireref15_has.l0 : Nat → List ByteArray → ByteArray → Int → Option (Bool)
  | 0, _, _, _ => none
  | k + 1, x0, x1, x5 => if x5 < (x0.length : Int) then (if 0 ≤ x5 then (if (rdOf ByteArray.empty x0 x5).toList = x1.toList then (some true) else (quireref15_has.l0 k x0 x1 (wrap64 (x5 + 1)))) else (none)) else (some false)
noncomputable def quireref15_has.f (k : Nat) (l0 : List ByteArray) (a1 : ByteArray) : Option (Bool) := quireref15_has.l0 k l0 a1 0
theorem quireref15_has.mono_l : ∀ k, (∀ y0 y1 y2, LeO (quireref15_has.l0 k y0 y1 y2) (quireref15_has.l0 (k + 1) y0 y1 y2))
  | 0 => fun _ _ _ r h => by simp [quireref15_has.l0] at h
  | k + 1 => by
    have ih0 := quireref15_has.mono_l k
    · intro y0 y1 y2
      unfold quireref15_has.l0
      repeat' first
      | (with_reducible exact ih0 _ _ _)
      | (with_reducible exact LeO.refl _)
      | (with_reducible exact LeO.none _)
      | (with_reducible refine LeO.ite ?_ ?_)
      | (with_reducible refine LeO.bind ?_ (fun _ => ?_))
      | exact ih0 _ _ _
      | exact LeO.none _
      | refine LeO.ite ?_ ?_
      | refine LeO.bind ?_ (fun _ => ?_)
theorem quireref15_has.mono : ∀ a0 a1 k, LeO (quireref15_has.f k a0 a1) (quireref15_has.f (k + 1) a0 a1) := by
  intro a0 a1 k
  have ih0 := quireref15_has.mono_l k
  unfold quireref15_has.f
  repeat' first
      | (with_reducible exact ih0 _ _ _)
      | (with_reducible exact LeO.refl _)
      | (with_reducible exact LeO.none _)
      | (with_reducible refine LeO.ite ?_ ?_)
      | (with_reducible refine LeO.bind ?_ (fun _ => ?_))
      | exact ih0 _ _ _
      | exact LeO.none _
      | refine LeO.ite ?_ ?_
      | refine LeO.bind ?_ (fun _ => ?_)
set_option maxHeartbeats 8000000 in
set_option maxRecDepth 100000 in
theorem quireref15_has.calls (k : Nat) (A0 : Option Addr) (c0 : Nat) (l0 : List ByteArray) (a1 : ByteArray) (r : Bool) (w : World) (hr0 : Kd.C Kd.string w A0 l0.length l0) (hc0 : l0.length ≤ c0) (h : quireref15_has.f k l0 a1 = some r) :
    Calls Try.prog 28 #[.slice A0 l0.length c0, .string a1] w fun e w' => e = .returned (.bool r) ∧ Drawn0 w w' := by
  have HR0 := Aside0.mk hr0
  have HC0 := Aside0.mk hc0
  clear hr0 hc0
  have H : (quireref15_has.l0 k l0 a1 0) = some r := h
  clear h
  have H' := Aside0.mk H
  clear H
  go_enter Try.func28, Try.ntmps28
  go_wp2
  go_loopg [5] k (fun kq v5 w' => ∃ (x5_1 : Int), v5 = .int .i64 x5_1 ∧ Aside0 (quireref15_has.l0 kq l0 a1 x5_1 = some r) ∧ Aside0 (kq ≤ k) ∧ Drawn0 w w')
  case atStart => exact ⟨(0), (by first | rfl | (simp; done) | (simp [*]; done)), H', ⟨Nat.le_refl _⟩, by repeat (first | exact Drawn0.refl _ | apply Drawn0.step)⟩
  case round =>
    clear H'
    try clear c2
    try clear p2
    obtain ⟨x5_1, rfl, HA, HK1, ⟨m1, rfl⟩⟩ := hrel
    cases gk with
    | zero => exact absurd HA.out (by simp [quireref15_has.l0])
    | succ k1 =>
      have H := HA.out
      clear HA
      simp only [quireref15_has.l0] at H
      by_cases c3 : x5_1 < (l0.length : Int)
      · rw [if_pos c3] at H
        have c3b0 : decide (x5_1 < (l0.length : Int)) = true := decide_eq_true c3
        clear c3
        by_cases c4 : 0 ≤ x5_1
        · rw [if_pos c4] at H
          have c4b0 : decide (0 ≤ x5_1) = true := decide_eq_true c4
          clear c4
          by_cases c5 : (rdOf ByteArray.empty l0 x5_1).toList = a1.toList
          · rw [if_pos c5] at H
            have c5b0 : ((rdOf ByteArray.empty l0 x5_1).toList == a1.toList) = true := beq_iff_eq.mpr c5
            have c5b1 : ((rdOf ByteArray.empty l0 x5_1).toList != a1.toList) = false := bne_eq_false_iff_eq.mpr c5
            clear c5
            obtain rfl := Option.some.inj H
            have p172 : 0 ≤ (x5_1 : Int) := of_decide_eq_true (by first | (with_reducible assumption) | assumption)
            have q172 : x5_1 < (l0.length : Int) := of_decide_eq_true (by first | (with_reducible assumption) | assumption)
            obtain ⟨ad172, e172, hx172_0⟩ := Kd.at_string HR0.out x5_1 p172 q172
            cases e172
            replace p172 := eq_true p172
            replace q172 := eq_true q172
            go_wp2
            go_ret
            exact ⟨by first | rfl | (simp; done) | (simp [*]; done), by repeat (first | exact Drawn0.refl _ | apply Drawn0.step)⟩
          · rw [if_neg c5] at H
            have c5b0 : ((rdOf ByteArray.empty l0 x5_1).toList == a1.toList) = false := beq_eq_false_iff_ne.mpr c5
            have c5b1 : ((rdOf ByteArray.empty l0 x5_1).toList != a1.toList) = true := bne_iff_ne.mpr c5
            have H' := Aside0.mk H
            clear H
            have p172 : 0 ≤ (x5_1 : Int) := of_decide_eq_true (by first | (with_reducible assumption) | assumption)
            have q172 : x5_1 < (l0.length : Int) := of_decide_eq_true (by first | (with_reducible assumption) | assumption)
            obtain ⟨ad172, e172, hx172_0⟩ := Kd.at_string HR0.out x5_1 p172 q172
            cases e172
            replace p172 := eq_true p172
            replace q172 := eq_true q172
            go_wp2
            go_roundg k1
            case measure => have := HK1.out; omega
            case rel => exact ⟨(wrap64 (x5_1 + 1)), (by first | rfl | (simp; done) | (simp [*]; done)), H', ⟨by have := HK1.out; omega⟩, by repeat (first | exact Drawn0.refl _ | apply Drawn0.step)⟩
        · rw [if_neg c4] at H
          exact absurd H (by simp)
      · rw [if_neg c3] at H
        have c3b0 : decide (x5_1 < (l0.length : Int)) = false := decide_eq_false c3
        clear c3
        obtain rfl := Option.some.inj H
        go_wp2
        go_ret
        exact ⟨by first | rfl | (simp; done) | (simp [*]; done), by repeat (first | exact Drawn0.refl _ | apply Drawn0.step)⟩

end Go.Proofs.Ytdllpgeagdckmaa.Q

-- Made by a program of this session (turnprint.py), after the manner of the kit's print.
namespace Go.Proofs.Ytdllpgeagdckmaa.Q
open Go.RowKit Go.Proofs.YtdllpgeagdckmaaW.PrintWords Go.Proofs.YtdllpgeagdckmaaW.PrintLast Go.Proofs.YtdllpgeagdckmaaW.PrintMore
attribute [local go_sem] max2_int min2_int max_two min_two max_three min_three max_four min_four   -- for this text's walks alone
set_option linter.unusedVariables false
set_option linter.unusedSimpArgs false

/-! ### quirelaw15_own: function 10 -/
noncomputable def quirelaw15_own.f (l0 : List ByteArray) : Option (List ByteArray) := (some (([] : List ByteArray) : List ByteArray)).bind fun y112 => (if y112.length + l0.length < 8796093022208 then (some (y112 ++ l0)) else (none))
set_option maxHeartbeats 8000000 in
set_option maxRecDepth 100000 in
theorem quirelaw15_own.calls (A0 : Option Addr) (c0 : Nat) (l0 : List ByteArray) (r : List ByteArray) (w : World) (hr0 : Kd.C Kd.string w A0 l0.length l0) (hc0 : l0.length ≤ c0) (h : quirelaw15_own.f l0 = some r) :
    Calls Try.prog 10 #[.slice A0 l0.length c0] w fun e w' => ∃ v0_ : Value, e = .returned (v0_) ∧ Kd.R Kd.string 9 w' w.heap.size (fun _ => True) v0_ r ∧ Below w.heap.size w w' := by
  have HR0 := Aside0.mk hr0
  have HC0 := Aside0.mk hc0
  clear hr0 hc0
  have HB := Aside0.mk (Below.refl w.heap.size w)
  have H : ((some (([] : List ByteArray) : List ByteArray)).bind fun y112 => (if y112.length + l0.length < 8796093022208 then (some (y112 ++ l0)) else (none))) = some r := h
  clear h
  obtain ⟨y112, hy112⟩ : ∃ y_ : List ByteArray, y_ = (([] : List ByteArray)) := ⟨_, rfl⟩
  replace H : (if y112.length + l0.length < 8796093022208 then (some (y112 ++ l0)) else (none)) = some r := by first | (rw [hy112]; with_reducible exact H) | (have H2_ := (Option.bind_some _ _).symm.trans H; rw [hy112]; with_reducible exact H2_) | (have H2_ := (Option.bind_some _ _).symm.trans H; with_reducible exact H2_) | with_reducible exact H | (rw [hy112]; exact H) | exact H
  have Ny112 := Aside0.mk hy112
  clear hy112
  by_cases c2 : y112.length + l0.length < 8796093022208
  · rw [if_pos c2] at H
    have LMc2 := Aside0.mk c2
    clear c2
    obtain ⟨y115, hy115⟩ : ∃ y_ : List ByteArray, y_ = (y112 ++ l0) := ⟨_, rfl⟩
    replace H : (some y115) = some r := by first | (rw [hy115]; with_reducible exact H) | (have H2_ := (Option.bind_some _ _).symm.trans H; rw [hy115]; with_reducible exact H2_) | (have H2_ := (Option.bind_some _ _).symm.trans H; with_reducible exact H2_) | with_reducible exact H | (rw [hy115]; exact H) | exact H
    have Ny115 := Aside0.mk hy115
    clear hy115
    obtain rfl := Option.some.inj H
    go_enter Try.func10, Try.ntmps10
    go_wp2_with (first | ((with_reducible refine gate_dst (N := 3) rfl ?_); refine Kd.R_lit Kd.string _ 9 ?hg (N := 3) ?hd (xs := ([] : List ByteArray)) (inner := []) (ok := fun _ => True) (okp := fun _ => True) ?hr ?hp (fun _ hk => hk) trivial (Below.refl _ _) (Nat.le_refl _) (by simp) ?_; (case hd => rfl); (case hg => rfl); (case hr => first | (go_simp; done) | (go_simp; rfl)); (case hp => exact (Reps.none _ _)); intro v113 w3 ho4 hb hg_ hnew_; clear hg_ hnew_; (first | rw [← Ny112.out] at ho4 | (simp only [Int.reduceToNat] at ho4; rw [← Ny112.out] at ho4)); have n0_ := Aside0.mk (Kd.R_lower ho4 (below_size (by repeat (first | (with_reducible first | exact HB.out | apply below_alloc | apply pw_below_drewN | apply below_drew1) | exact HB.out)))); have n1_ := Aside0.mk (below_step (by repeat (first | (with_reducible first | exact HB.out | apply below_alloc | apply pw_below_drewN | apply below_drew1) | exact HB.out)) hb); clear HB; have HO114 := n0_; have HB := n1_; clear n0_ n1_; clear hb ho4) | ((with_reducible refine gate_builtin (b := .append) (xs := #[.tmp 3, .tmp 4]) rfl ?_); at_builtin; refine Kd.R_append_rows Kd.string (w0 := w) w.heap.size rfl (.tmp 3) (.tmp 4) 23 9 (.string ⟨#[]⟩) 16 rfl Try.underlying23 info9 rfl (by decide) (by omega) v113 y112 l0 _ _ _ (fun _ => True) (fun _ => False) rfl rfl ?aO ?aR (fun _ _ h => h) (fun _ h => h.elim) ?aF ?aB ?aS ?aL ?_; (case aR => repeat (first | exact (Kd.C_below HR0.out HB.out) | (with_reducible refine Kd.C_alloc ?_ _) | (with_reducible refine Kd.C_drewN ?_ _) | (with_reducible refine Kd.C_drew ?_))); (case aB => exact (by repeat (first | (with_reducible first | exact HB.out | apply below_alloc | apply pw_below_drewN | apply below_drew1) | exact HB.out))); (case aF => exact (fun _ _ => trivial)); (case aO => exact (by (with_reducible repeat (first | apply Kd.R_alloc | apply Kd.R_drewN | apply Kd.R_drew)); exact HO114.out)); (case aS => exact (below_size (by repeat (first | (with_reducible first | exact HB.out | apply below_alloc | apply pw_below_drewN | apply below_drew1) | exact HB.out)))); (case aL => have := LMc2.out; omega); intro v116 w5 ho hb hg hat; rw [← Ny115.out] at ho; have n0_ := Aside0.mk (hb); have n1_ := Aside0.mk (ho); clear HB; clear HO114; have HB := n0_; have HO117 := n1_; clear n0_ n1_; clear ho hb hg hat))
    go_ret
    exact ⟨_, by first | rfl | (simp [errW_none, errW_some] <;> rfl) | (simp [*, errW_none, errW_some] <;> rfl), by (with_reducible repeat (first | apply Kd.R_alloc | apply Kd.R_drewN | apply Kd.R_drew)); exact HO117.out, by repeat (first | (with_reducible first | exact HB.out | apply below_alloc | apply pw_below_drewN | apply below_drew1) | exact HB.out)⟩
  · rw [if_neg c2] at H
    exact absurd H (by simp)

/-! ### quirelaw15_at: function 11 -/
noncomputable def quirelaw15_at.l0 : Nat → List ByteArray → ByteArray → Int → Option (Int)
  | 0, _, _, _ => none
  | k + 1, x0, x1, x5 => if x5 < (x0.length : Int) then (if 0 ≤ x5 then (if (rdOf ByteArray.empty x0 x5).toList = x1.toList then (some x5) else (quirelaw15_at.l0 k x0 x1 (wrap64 (x5 + 1)))) else (none)) else (some (-1))
noncomputable def quirelaw15_at.f (k : Nat) (l0 : List ByteArray) (a1 : ByteArray) : Option (Int) := quirelaw15_at.l0 k l0 a1 0
theorem quirelaw15_at.mono_l : ∀ k, (∀ y0 y1 y2, LeO (quirelaw15_at.l0 k y0 y1 y2) (quirelaw15_at.l0 (k + 1) y0 y1 y2))
  | 0 => fun _ _ _ r h => by simp [quirelaw15_at.l0] at h
  | k + 1 => by
    have ih0 := quirelaw15_at.mono_l k
    · intro y0 y1 y2
      unfold quirelaw15_at.l0
      repeat' first
      | (with_reducible exact ih0 _ _ _)
      | (with_reducible exact LeO.refl _)
      | (with_reducible exact LeO.none _)
      | (with_reducible refine LeO.ite ?_ ?_)
      | (with_reducible refine LeO.bind ?_ (fun _ => ?_))
      | exact ih0 _ _ _
      | exact LeO.none _
      | refine LeO.ite ?_ ?_
      | refine LeO.bind ?_ (fun _ => ?_)
theorem quirelaw15_at.mono : ∀ a0 a1 k, LeO (quirelaw15_at.f k a0 a1) (quirelaw15_at.f (k + 1) a0 a1) := by
  intro a0 a1 k
  have ih0 := quirelaw15_at.mono_l k
  unfold quirelaw15_at.f
  repeat' first
      | (with_reducible exact ih0 _ _ _)
      | (with_reducible exact LeO.refl _)
      | (with_reducible exact LeO.none _)
      | (with_reducible refine LeO.ite ?_ ?_)
      | (with_reducible refine LeO.bind ?_ (fun _ => ?_))
      | exact ih0 _ _ _
      | exact LeO.none _
      | refine LeO.ite ?_ ?_
      | refine LeO.bind ?_ (fun _ => ?_)
set_option maxHeartbeats 8000000 in
set_option maxRecDepth 100000 in
theorem quirelaw15_at.calls (k : Nat) (A0 : Option Addr) (c0 : Nat) (l0 : List ByteArray) (a1 : ByteArray) (r : Int) (w : World) (hr0 : Kd.C Kd.string w A0 l0.length l0) (hc0 : l0.length ≤ c0) (h : quirelaw15_at.f k l0 a1 = some r) :
    Calls Try.prog 11 #[.slice A0 l0.length c0, .string a1] w fun e w' => e = .returned (.int .i64 r) ∧ Drawn0 w w' := by
  have HR0 := Aside0.mk hr0
  have HC0 := Aside0.mk hc0
  clear hr0 hc0
  have H : (quirelaw15_at.l0 k l0 a1 0) = some r := h
  clear h
  have H' := Aside0.mk H
  clear H
  go_enter Try.func11, Try.ntmps11
  go_wp2
  go_loopg [5] k (fun kq v5 w' => ∃ (x5_1 : Int), v5 = .int .i64 x5_1 ∧ Aside0 (quirelaw15_at.l0 kq l0 a1 x5_1 = some r) ∧ Aside0 (kq ≤ k) ∧ Drawn0 w w')
  case atStart => exact ⟨(0), (by first | rfl | (simp; done) | (simp [*]; done)), H', ⟨Nat.le_refl _⟩, by repeat (first | exact Drawn0.refl _ | apply Drawn0.step)⟩
  case round =>
    clear H'
    try clear c1
    try clear p2
    obtain ⟨x5_1, rfl, HA, HK1, ⟨m1, rfl⟩⟩ := hrel
    cases gk with
    | zero => exact absurd HA.out (by simp [quirelaw15_at.l0])
    | succ k1 =>
      have H := HA.out
      clear HA
      simp only [quirelaw15_at.l0] at H
      by_cases c3 : x5_1 < (l0.length : Int)
      · rw [if_pos c3] at H
        have c3b0 : decide (x5_1 < (l0.length : Int)) = true := decide_eq_true c3
        clear c3
        by_cases c4 : 0 ≤ x5_1
        · rw [if_pos c4] at H
          have c4b0 : decide (0 ≤ x5_1) = true := decide_eq_true c4
          clear c4
          by_cases c5 : (rdOf ByteArray.empty l0 x5_1).toList = a1.toList
          · rw [if_pos c5] at H
            have c5b0 : ((rdOf ByteArray.empty l0 x5_1).toList == a1.toList) = true := beq_iff_eq.mpr c5
            have c5b1 : ((rdOf ByteArray.empty l0 x5_1).toList != a1.toList) = false := bne_eq_false_iff_eq.mpr c5
            clear c5
            obtain rfl := Option.some.inj H
            have p118 : 0 ≤ (x5_1 : Int) := of_decide_eq_true (by first | (with_reducible assumption) | assumption)
            have q118 : x5_1 < (l0.length : Int) := of_decide_eq_true (by first | (with_reducible assumption) | assumption)
            obtain ⟨ad118, e118, hx118_0⟩ := Kd.at_string HR0.out x5_1 p118 q118
            cases e118
            replace p118 := eq_true p118
            replace q118 := eq_true q118
            go_wp2
            go_ret
            exact ⟨by first | rfl | (simp; done) | (simp [*]; done), by repeat (first | exact Drawn0.refl _ | apply Drawn0.step)⟩
          · rw [if_neg c5] at H
            have c5b0 : ((rdOf ByteArray.empty l0 x5_1).toList == a1.toList) = false := beq_eq_false_iff_ne.mpr c5
            have c5b1 : ((rdOf ByteArray.empty l0 x5_1).toList != a1.toList) = true := bne_iff_ne.mpr c5
            have H' := Aside0.mk H
            clear H
            have p118 : 0 ≤ (x5_1 : Int) := of_decide_eq_true (by first | (with_reducible assumption) | assumption)
            have q118 : x5_1 < (l0.length : Int) := of_decide_eq_true (by first | (with_reducible assumption) | assumption)
            obtain ⟨ad118, e118, hx118_0⟩ := Kd.at_string HR0.out x5_1 p118 q118
            cases e118
            replace p118 := eq_true p118
            replace q118 := eq_true q118
            go_wp2
            go_roundg k1
            case measure => have := HK1.out; omega
            case rel => exact ⟨(wrap64 (x5_1 + 1)), (by first | rfl | (simp; done) | (simp [*]; done)), H', ⟨by have := HK1.out; omega⟩, by repeat (first | exact Drawn0.refl _ | apply Drawn0.step)⟩
        · rw [if_neg c4] at H
          exact absurd H (by simp)
      · rw [if_neg c3] at H
        have c3b0 : decide (x5_1 < (l0.length : Int)) = false := decide_eq_false c3
        clear c3
        obtain rfl := Option.some.inj H
        go_wp2
        go_ret
        exact ⟨by first | rfl | (simp; done) | (simp [*]; done), by repeat (first | exact Drawn0.refl _ | apply Drawn0.step)⟩

end Go.Proofs.Ytdllpgeagdckmaa.Q

/- OrderTurns: the same order, whichever way the lists are turned. -/
namespace Go.Proofs.Ytdllpgeagdckmaa.Q
open Go.RowKit Go.Proofs.YtdllpgeagdckmaaW.PrintWords Go.Proofs.YtdllpgeagdckmaaW.PrintLast Go.Proofs.YtdllpgeagdckmaaW.PrintMore Go.Proofs.Ytdllpgeagdckmaa.MapKit Go.Maps Go.Proofs.Ytdllpgeagdckmaa.Ord
attribute [local go_sem] max2_int min2_int max_two min_two max_three min_three max_four min_four
set_option linter.unusedVariables false
set_option linter.unusedSimpArgs false

/-- Elements as they read in a world that is fixed. -/
def kfix {α : Type} (d : Kd α) (w0 : World) : Kd α where
  sz := d.sz
  E := []
  K := fun _ x cs => d.K w0 x cs
  M := fun _ _ _ x cs => d.K w0 x cs
  K_len := fun h => d.K_len h
  K_one := fun h => d.K_one h
  K_below := fun _ h => h
  K_of_M := fun h => h
  M_mono := fun _ h => h
  M_bound := fun h => h
  M_move := fun _ h => h
  M_lower := fun _ h => h
theorem kfix_C {α : Type} {d : Kd α} {w0 w : World} {A : Option Addr} {n : Nat} {xs : List α} (h : (kfix d w0).C w A n xs) (hb : Below w0.heap.size w0 w) : d.C w A n xs :=
  ReadsRow.imp_ h (Below.refl _ _) (fun _ _ hp => d.K_below hb hp)

theorem kfix_reads {w w' : World} {base n c : Nat} {ok : Nat → Prop} {A : Option Addr} {l : List S33} (h : (kfix k33 w).R 33 w' base ok (.slice A n c) l) (hb : Below w.heap.size w w') : l.length ≤ c ∧ k33.C w' A l.length l := by
  obtain ⟨A', c', he, hl, hC⟩ := Kd.R_reads h
  injection he with h1 h2 h3
  subst h1 h2 h3
  exact ⟨hl, kfix_C hC hb⟩
theorem own_all {l : List ByteArray} (h : l.length ≤ 3000000) : quirelaw15_own.f l = some l := by
  unfold quirelaw15_own.f
  rw [Option.bind_some, if_pos (by simp; omega)]
  rfl
theorem vocabs_all {l : List S33} (hN : l.length ≤ 3000000) (hU : ∀ v ∈ l, v.f1.length ≤ 3000000) : quirelaw15_vocabs.f l = some (l.map conv) := by
  unfold quirelaw15_vocabs.f
  rw [if_pos ⟨hN, hU⟩]

set_option maxHeartbeats 1000000 in
set_option maxRecDepth 100000 in
theorem turns_walk (w : World) (A0 : Option Addr) (c0 : Nat) (l0 : List S33) (h0 : k33.C w A0 l0.length l0) (hc0 : l0.length ≤ c0) (A1 : Option Addr) (c1 : Nat) (want : List ByteArray) (h1 : Kd.string.C w A1 want.length want) (hc1 : want.length ≤ c1)
    (A2 : Option Addr) (c2 : Nat) (hv : List ByteArray) (h2 : Kd.string.C w A2 hv.length hv) (hc2 : hv.length ≤ c2) (hN : l0.length ≤ 3000000) (hU : ∀ v ∈ l0, v.f1.length ≤ 3000000) (hW : want.length ≤ 3000000) (hH : hv.length ≤ 3000000)
    (r1 : List ByteArray) (r2 : ByteArray) (r3 : Int) (ho1 : order_Sort.f (l0.map conv) want hv = some (r1, r2, r3)) (ho2 : order_Sort.f (l0.reverse.map conv) (want.reverse ++ hv) hv = some (r1, r2, r3)) (k : Nat) (hst : quireref01_SameTexts.f k r1 r1 = some true) :
    Calls Try.prog 4 #[.slice A0 l0.length c0, .slice A1 want.length c1, .slice A2 hv.length c2] w fun e w' => e = .returned (.bool true) ∧ Below w.heap.size w w' := by
  have H0 := Aside0.mk h0
  have H1 := Aside0.mk h1
  have H2 := Aside0.mk h2
  have HU := Aside0.mk hU
  have HO1 := Aside0.mk ho1
  have HO2 := Aside0.mk ho2
  have HST := Aside0.mk hst
  have HC0 := Aside0.mk hc0
  have HC1 := Aside0.mk hc1
  have HC2 := Aside0.mk hc2
  clear h0 h1 h2 hU ho1 ho2 hst hc0 hc1 hc2
  go_enter Try.func4, Try.ntmps4
  go_wp2_with fail
  refine (quirelaw15_awake.calls true _ awake_true).mono ?_
  rintro e w1 ⟨rfl, hb1⟩
  have HB1 := Aside0.mk hb1
  clear hb1
  go_wp2_with fail
  refine (quirelaw15_vocabs.calls A0 c0 l0 _ w1 (Kd.C_below H0.out HB1.out) HC0.out (vocabs_all hN HU.out)).mono ?_
  rintro e w2 ⟨v, rfl, hs, hb⟩
  obtain ⟨Av, cv, rfl, hlv, hCv⟩ := Kd.R_reads (Kd.S_R hs)
  have HB2 := Aside0.mk (below_step HB1.out hb)
  have HCV := Aside0.mk hCv
  have HLV := Aside0.mk hlv
  clear hs hb hCv hlv
  go_wp2_with fail
  refine (quirelaw15_own.calls A1 c1 want _ w2 (Kd.C_below H1.out HB2.out) HC1.out (own_all hW)).mono ?_
  rintro e w3 ⟨v, rfl, hs, hb⟩
  obtain ⟨Aw, cw, rfl, hlw, hCw⟩ := Kd.R_reads hs
  have HB3 := Aside0.mk (below_step HB2.out hb)
  have HCW := Aside0.mk hCw
  have HLW := Aside0.mk hlw
  have HCV3 := Aside0.mk (Kd.C_below HCV.out hb)
  clear hs hb hCw hlw HCV
  go_wp2_with fail
  refine (quirelaw15_own.calls A2 c2 hv _ w3 (Kd.C_below H2.out HB3.out) HC2.out (own_all hH)).mono ?_
  rintro e w4 ⟨v, rfl, hs, hb⟩
  obtain ⟨Ah, ch, rfl, hlh, hCh⟩ := Kd.R_reads hs
  have HB4 := Aside0.mk (below_step HB3.out hb)
  have HCH := Aside0.mk hCh
  have HLH := Aside0.mk hlh
  have HCV4 := Aside0.mk (Kd.C_below HCV3.out hb)
  have HCW4 := Aside0.mk (Kd.C_below HCW.out hb)
  clear hs hb hCh hlh HCV3 HCW
  go_wp2_with fail
  have hcall := order_Sort.calls Av cv (l0.map conv) Aw cw want Ah ch hv r1 r2 r3 w4 HCV4.out HLV.out HCW4.out HLW.out HCH.out HLH.out HO1.out
  rw [List.length_map] at hcall
  refine hcall.mono ?_
  clear hcall
  rintro e w5 ⟨v7, rfl, hs, hb⟩
  obtain ⟨A7, c7, rfl, hl7, hC7⟩ := Kd.R_reads hs
  have HB5 := Aside0.mk (below_step HB4.out hb)
  have HC7 := Aside0.mk hC7
  have HL7 := Aside0.mk hl7
  clear hs hb hC7 hl7 HCV4 HCW4 HCH HLV HLW HLH HO1 HB1 HB2 HB3 HB4
  go_wp2_with fail
  have hN5 : (l0.length : Int) ≤ 3000000 := by omega
  go_loopg [10, 11] (l0.length + 1) (fun kq v10 v11 w' => ∃ j : Nat, v11 = .int .i64 ((j : Int) - 1) ∧ Aside0 (j ≤ l0.length) ∧ Aside0 (kq = j + 1) ∧ Aside0 ((kfix k33 w).R 33 w' w5.heap.size (fun _ => True) v10 (l0.drop j).reverse) ∧ Aside0 (Below w5.heap.size w5 w'))
  case atStart => exact ⟨l0.length, rfl, ⟨Nat.le_refl _⟩, ⟨rfl⟩, ⟨by rw [List.drop_length]; exact Kd.R_nil _ _ _ _ _⟩, ⟨Below.refl _ _⟩⟩
  obtain ⟨j, hv11, HJ, HK, HR, HBE⟩ := hrel
  have hj := HJ.out
  have hk := HK.out
  obtain ⟨A10, c10, hv10⟩ := Kd.R_slice HR.out
  obtain ⟨n10, hn10⟩ : ∃ n, n = (l0.drop j).reverse.length := ⟨_, rfl⟩
  rw [← hn10] at hv10
  subst hv10
  have HN10 := Aside0.mk hn10
  clear hn10
  rcases Nat.eq_zero_or_pos j with hj0 | hj0
  · subst hv11
    subst hj0
    have hz : decide ((0 : Int) ≤ ((0 : Nat) : Int) - 1) = false := rfl
    have hRT := HR.out
    rw [List.drop_zero] at hRT
    have hn10 : n10 = l0.length := by have := HN10.out; simpa using this
    subst hn10
    have HRT := Aside0.mk hRT
    clear hRT HR HN10 hj hk
    obtain ⟨wA, rfl⟩ : ∃ x, x = wr := ⟨_, rfl⟩
    go_wp2_with fail
    have hW5 : (want.length : Int) ≤ 3000000 := by omega
    go_loopg [12, 13] (want.length + 1) (fun kq v12 v13 w' => ∃ j : Nat, v13 = .int .i64 ((j : Int) - 1) ∧ Aside0 (j ≤ want.length) ∧ Aside0 (kq = j + 1) ∧ Aside0 (SRow w' wA.heap.size v12 (want.drop j).reverse) ∧ Aside0 (Below wA.heap.size wA w'))
    case atStart => exact ⟨want.length, rfl, ⟨Nat.le_refl _⟩, ⟨rfl⟩, ⟨by rw [List.drop_length]; exact SRow.nil _ _⟩, ⟨Below.refl _ _⟩⟩
    obtain ⟨j, hv13, HJ2, HK2, HR2, HBE2⟩ := hrel
    have hj2 := HJ2.out
    have hk2 := HK2.out
    obtain ⟨A12, c12, hv12⟩ := HR2.out.shape
    obtain ⟨n12, hn12⟩ : ∃ n, n = (want.drop j).reverse.length := ⟨_, rfl⟩
    rw [← hn12] at hv12
    subst hv12
    have HN12 := Aside0.mk hn12
    clear hn12
    rcases Nat.eq_zero_or_pos j with hj0 | hj0
    · subst hv13
      subst hj0
      have hz2 : decide ((0 : Int) ≤ ((0 : Nat) : Int) - 1) = false := rfl
      have hRT2 := HR2.out
      rw [List.drop_zero] at hRT2
      have hn12 : n12 = want.reverse.length := by have := HN12.out; simpa using this
      have HRT2 := Aside0.mk hRT2
      have HN13 := Aside0.mk hn12
      clear hRT2 HR2 HN12 hj2 hk2 hn12
      have hBw : Below w.heap.size w wr := below_step (below_step HB5.out HBE.out) HBE2.out
      have HBW := Aside0.mk hBw
      have HCh := Aside0.mk (Kd.C_below H2.out hBw)
      have hl14 : want.reverse.length + hv.length ≤ 8000000 := by simp; omega
      have HL14 := Aside0.mk hl14
      have hn12 := HN13.out
      subst hn12
      clear hBw hl14 HN13
      go_wp2_with (at_builtin; refine srow_appendAll wA.heap.size rfl (.tmp 58) (.tmp 59) rfl (v := .slice A12 want.reverse.length c12) (xs := want.reverse) (ys := hv) (A := A2) (c := c2) rfl rfl HRT2.out HCh.out HL14.out HBE2.out.size ?_; intro A14 c14 w6 hr6 hg6 hat6; obtain ⟨n14, hn14⟩ : ∃ n, n = want.reverse.length + hv.length := ⟨_, rfl⟩; rw [← hn14] at hr6 ⊢; have HN14 := Aside0.mk hn14; have HR6 := Aside0.mk hr6; have HB6 := Aside0.mk (pw_below_grown HBE2.out _ HBE2.out.size hg6 (fun k e => HRT2.out.base_le k e)); clear hr6 hg6 hat6 hn14)
      have HBw6 := Aside0.mk (below_step (below_step HB5.out HBE.out) HB6.out)
      have hkr := kfix_reads (Kd.R_below HRT.out HB6.out) HBw6.out
      have HKR := Aside0.mk hkr
      have hcall := quirelaw15_vocabs.calls A10 c10 l0.reverse _ w6 hkr.2 hkr.1 (vocabs_all (by simpa using hN) (fun v hv1 => HU.out v (by simpa using hv1)))
      rw [List.length_reverse] at hcall
      refine hcall.mono ?_
      clear hcall hkr
      rintro e w7 ⟨v, rfl, hs, hb⟩
      obtain ⟨Av2, cv2, rfl, hlv, hCv⟩ := Kd.R_reads (Kd.S_R hs)
      have HB7 := Aside0.mk (below_step HBw6.out hb)
      have HCV := Aside0.mk hCv
      have HLV := Aside0.mk hlv
      have HR7 := Aside0.mk (HR6.out.below hb)
      have HB67 := Aside0.mk (below_step HB6.out hb)
      clear hs hb hCv hlv
      go_wp2_with fail
      refine (quirelaw15_own.calls A2 c2 hv _ w7 (Kd.C_below H2.out HB7.out) HC2.out (own_all hH)).mono ?_
      rintro e w8 ⟨v, rfl, hs, hb⟩
      obtain ⟨Ah2, ch2, rfl, hlh, hCh⟩ := Kd.R_reads hs
      have HB8 := Aside0.mk (below_step HB7.out hb)
      have HCH := Aside0.mk hCh
      have HLH := Aside0.mk hlh
      have HCV8 := Aside0.mk (Kd.C_below HCV.out hb)
      have HR8 := Aside0.mk (HR7.out.below hb)
      have HB68 := Aside0.mk (below_step HB67.out hb)
      clear hs hb hCh hlh HCV
      go_wp2_with fail
      obtain ⟨A14', c14', he14, hl14, hC14⟩ := HR8.out.reads
      have e14 : (want.reverse ++ hv).length = n14 := by rw [HN14.out, List.length_append]
      have hcall := order_Sort.calls Av2 cv2 (l0.reverse.map conv) A14' c14' (want.reverse ++ hv) Ah2 ch2 hv r1 r2 r3 w8 HCV8.out HLV.out hC14 hl14 HCH.out HLH.out HO2.out
      rw [e14, List.length_map, List.length_reverse] at hcall
      rw [e14] at he14
      injection he14 with e1 e2 e3
      subst e1 e3
      refine hcall.mono ?_
      clear hcall
      rintro e w9 ⟨v9, rfl, hs, hb⟩
      obtain ⟨A9, c9, rfl, hl9, hC9⟩ := Kd.R_reads hs
      have HB9 := Aside0.mk (below_step HB8.out hb)
      have HC9 := Aside0.mk hC9
      have HL9 := Aside0.mk hl9
      have HC79 := Aside0.mk (Kd.C_below HC7.out (below_step (below_step HBE.out HB68.out) hb))
      clear hs hb hC9 hl9 hl14 hC14
      go_wp2_with fail
      refine (quireref01_SameTexts.calls k A7 c7 r1 A9 c9 r1 true w9 HC79.out HL7.out HC9.out HL9.out HST.out).mono ?_
      rintro e w10 ⟨rfl, nd, rfl⟩
      go_wp2_with fail
      go_ret
      exact ⟨by simp, pw_below_drewN HB9.out nd⟩
    · obtain ⟨i, rfl⟩ : ∃ i, j = i + 1 := ⟨j - 1, by omega⟩
      rw [show ((i + 1 : Nat) : Int) - 1 = (i : Int) by omega] at hv13
      subst hv13
      obtain ⟨k2, rfl⟩ : ∃ k2, gk = k2 + 1 := ⟨gk - 1, by omega⟩
      obtain ⟨ad, rfl, z0⟩ := name_at H1.out i (by omega)
      obtain ⟨u, hu⟩ : ∃ u, u = want[i] := ⟨_, rfl⟩
      rw [← hu] at z0
      have x0 := pw_cell_below (below_step (below_step HB5.out HBE.out) HBE2.out) z0
      have hdr : (want.drop i).reverse = (want.drop (i + 1)).reverse ++ [u] := by rw [List.drop_eq_getElem_cons (show i < want.length by omega), List.reverse_cons, ← hu]
      have HDR := Aside0.mk hdr
      have hi1 : (i : Int) < (want.length : Int) := by omega
      have hi0 : (0 : Int) ≤ (i : Int) := by omega
      have hlen : (want.drop (i + 1)).reverse.length ≤ 8000000 := by simp; omega
      have HLEN := Aside0.mk hlen
      clear hu hdr z0 hlen hj2 hk2
      go_wp2_with (at_builtin; refine srow_append wA.heap.size rfl (.tmp 51) (.tmp 56) rfl (v := .slice A12 n12 c12) (xs := (want.drop (i + 1)).reverse) rfl u rfl HR2.out HLEN.out HBE2.out.size ?_; intro A6 c6 w6 hr6 hg6 hat6; obtain ⟨n6, hn6⟩ : ∃ n, n = (want.drop (i + 1)).reverse.length + 1 := ⟨_, rfl⟩; rw [← hn6] at hr6 ⊢; rw [← HDR.out] at hr6; have HR6 := Aside0.mk hr6; have HB6 := Aside0.mk (pw_below_grown HBE2.out _ HBE2.out.size hg6 (fun k e => HR2.out.base_le k e)); clear hr6 hg6 hat6 hn6)
      go_roundg k2
      case measure => have := HK2.out; omega
      case rel => exact ⟨i, rfl, ⟨by omega⟩, ⟨by have := HK2.out; omega⟩, HR6, HB6⟩
  · obtain ⟨i, rfl⟩ : ∃ i, j = i + 1 := ⟨j - 1, by omega⟩
    rw [show ((i + 1 : Nat) : Int) - 1 = (i : Int) by omega] at hv11
    subst hv11
    obtain ⟨k1, rfl⟩ : ∃ k1, gk = k1 + 1 := ⟨gk - 1, by omega⟩
    obtain ⟨ad, A1', c1', rfl, z0, z1, hcl, hCl⟩ := voc33_at H0.out i (by omega)
    obtain ⟨u, hu⟩ : ∃ u, u = l0[i] := ⟨_, rfl⟩
    rw [← hu] at z0 z1 hcl hCl
    have HM := Aside0.mk (k33_mk w u hcl hCl)
    have hBw : Below w.heap.size w wr := below_step HB5.out HBE.out
    have x0 := pw_cell_below hBw z0
    have x1 := pw_cell_below hBw z1
    have hdr : (l0.drop i).reverse = (l0.drop (i + 1)).reverse ++ [u] := by rw [List.drop_eq_getElem_cons (show i < l0.length by omega), List.reverse_cons, ← hu]
    have HDR := Aside0.mk hdr
    have hi1 : (i : Int) < (l0.length : Int) := by omega
    have hi0 : (0 : Int) ≤ (i : Int) := by omega
    have hlen : ((l0.drop (i + 1)).reverse.length + 1) * 40 ≤ 140737488355328 := by simp; omega
    have HLEN := Aside0.mk hlen
    clear hcl hCl hu hdr hBw z0 z1 hlen hj hk
    go_wp2_with (at_builtin; refine Kd.R_append (kfix k33 w) (w0 := w5) w5.heap.size rfl (.tmp 37) (.tmp 42) 22 33 (.agg #[(.string ⟨#[]⟩), (.slice none 0 0)]) 40 rfl Try.underlying22 info33 rfl (by show 0 < 2; omega) (by decide) (.slice A10 n10 c10) (l0.drop (i + 1)).reverse u [.string u.f0, .slice A1' u.f1.length c1'] (fun _ => True) (fun _ => False) rfl rfl HM.out (fun _ h => h.elim) (fun _ _ => trivial) HR.out HBE.out HBE.out.size HLEN.out ?_; intro v1 w6 hr6 hb6 hg6 hat6; rw [← HDR.out] at hr6; have HR6 := Aside0.mk hr6; have HB6 := Aside0.mk hb6; clear hr6 hb6 hg6 hat6)
    go_roundg k1
    case measure => have := HK.out; omega
    case rel => exact ⟨i, rfl, ⟨by omega⟩, ⟨by have := HK.out; omega⟩, HR6, HB6⟩

/-! ### The law -/
theorem same_l0 (l : List ByteArray) (hl : l.length ≤ 10000000) : ∀ n i : Nat, i + n = l.length → Ev (fun k => quireref01_SameTexts.l0 k l l (i : Int)) true
  | 0, i, hi => Ev.step (f := fun _ => some true) (fun k => by
      unfold quireref01_SameTexts.l0
      rw [if_neg (by omega)]) (Ev.now _)
  | n + 1, i, hi => by
    refine Ev.step (fun k => ?_) (same_l0 l hl n (i + 1) (by omega))
    conv => lhs; unfold quireref01_SameTexts.l0
    rw [if_pos (by omega), if_pos (by omega), if_pos (by omega), if_pos rfl, w64 (by omega) (by omega)]
    rfl
theorem same_ev (l : List ByteArray) (hl : l.length ≤ 10000000) : Ev (fun k => quireref01_SameTexts.f k l l) true :=
  Ev.congr (fun k => by unfold quireref01_SameTexts.f; rw [if_pos rfl]; rfl) (same_l0 l hl l.length 0 (by omega))
theorem sorts_length {l : List S41} {want hv : List ByteArray} {r1 : List ByteArray} {r2 : ByteArray} {r3 : Int} (hf : Fit l want hv) (h : SortsB l want hv (r1, r2, r3)) : r1.length ≤ 6000000 := by
  have h1 := hf.tot_
  have h2 := hf.want_
  unfold SortsB at h
  dsimp only at h
  cases h with
  | ok l h0 _ _ h => exact order_length h h2 h1
  | _ => simp

theorem orderTurns_holds (w : World) (A0 : Option Addr) (c0 : Nat) (l0 : List S33) (h0 : k33.C w A0 l0.length l0) (hc0 : l0.length ≤ c0) (q0 : ∀ v ∈ l0, Okv v)
    (A1 : Option Addr) (c1 : Nat) (l1 : List ByteArray) (h1 : Kd.string.C w A1 l1.length l1) (hc1 : l1.length ≤ c1) (q1 : ∀ p ∈ l1, p.size ≤ maxLen)
    (A2 : Option Addr) (c2 : Nat) (l2 : List ByteArray) (h2 : Kd.string.C w A2 l2.length l2) (hc2 : l2.length ≤ c2) (q2 : ∀ p ∈ l2, p.size ≤ maxLen)
    (hB : (l0.map wtv).sum + (l1.map (fun p => p.size + 1)).sum + (l2.map (fun p => p.size + 1)).sum ≤ 1048576) :
    Calls Try.prog 4 #[.slice A0 l0.length c0, .slice A1 l1.length c1, .slice A2 l2.length c2] w fun e w' => e = .returned (.bool true) ∧ Below w.heap.size w w' := by
  have h3 := vocs_sum l0
  have h4 := Opens.strs_length l1
  have h5 := Opens.strs_length l2
  have hf := fit_of q0 q1 q2 hB
  obtain ⟨r1, r2, r3, hs⟩ := sorts_exists totN noName (netOf (l0.map conv)) l1 l2
  have hl := sorts_length hf hs
  have hp : (netOf (l0.map conv)).Perm (netOf (l0.reverse.map conv)) := by
    rw [netOf_conv, netOf_conv, List.map_reverse]
    exact (List.reverse_perm _).symm
  have hs2 : SortsB (l0.reverse.map conv) (l1.reverse ++ l2) l2 (r1, r2, r3) := hs.turned hp (fun x hx => by simp [hx])
  have hf2 : Fit (l0.reverse.map conv) (l1.reverse ++ l2) l2 := by
    refine ⟨?_, by simp; omega, hf.hv_, fun v hv1 => hf.names v (by simpa using hv1), fun v hv1 => hf.uses v (by simpa using hv1), fun u hu => ?_, hf.havs⟩
    · have e : tot (netOf (l0.reverse.map conv)) = tot (netOf (l0.map conv)) := by
        have key : ∀ a b : Net ByteArray, a.Perm b → tot a = tot b := fun a b h => by
          induction h with
          | nil => rfl
          | cons x _ ih => simp only [tot, ih]
          | swap x y l => simp only [tot]; omega
          | trans _ _ ih1 ih2 => rw [ih1, ih2]
        exact (key _ _ hp).symm
      rw [e]
      exact hf.tot_
    · rcases List.mem_append.1 hu with hu | hu
      · exact hf.wants u (by simpa using hu)
      · exact hf.havs u hu
  obtain ⟨k, hk⟩ := (same_ev r1 (by omega)).rounds
  exact turns_walk w A0 c0 l0 h0 hc0 A1 c1 l1 h1 hc1 A2 c2 l2 h2 hc2 (by omega) (fun v hv1 => by have := h3.2.2 v hv1; omega) (by omega) (by omega) r1 r2 r3 (order_Sort.of hf hs) (order_Sort.of hf2 hs2) k hk
end Go.Proofs.Ytdllpgeagdckmaa.Q

-- Made by a program of this session (turnprint.py), after the manner of the kit's print.
namespace Go.Proofs.Ytdllpgeagdckmaa.Q
open Go.RowKit Go.Proofs.YtdllpgeagdckmaaW.PrintWords Go.Proofs.YtdllpgeagdckmaaW.PrintLast Go.Proofs.YtdllpgeagdckmaaW.PrintMore
attribute [local go_sem] max2_int min2_int max_two min_two max_three min_three max_four min_four   -- for this text's walks alone
set_option linter.unusedVariables false
set_option linter.unusedSimpArgs false

-- NOT PRINTED: function 32 (quireref01_apartInts)

-- NOT PRINTED: function 33 (quireref01_apartWords)

-- NOT PRINTED: function 34 (quireref01_apartBytes)

/-! ### quireref01_text: function 43 -/
noncomputable def quireref01_text.f (a0 : Int) : Option (ByteArray) := some (strOfNums (([(a0) % 256, (a0 / 256) % 256, (a0 / 65536) % 256] : List Int)))
set_option maxHeartbeats 8000000 in
set_option maxRecDepth 100000 in
theorem quireref01_text.calls (a0 : Int) (r : ByteArray) (w : World) (h : quireref01_text.f a0 = some r) :
    Calls Try.prog 43 #[.int .i64 a0] w fun e w' => e = .returned (.string r) ∧ Below w.heap.size w w' := by
  have HB := Aside0.mk (Below.refl w.heap.size w)
  have H : (some (strOfNums (([(a0) % 256, (a0 / 256) % 256, (a0 / 65536) % 256] : List Int)))) = some r := h
  clear h
  obtain ⟨y273, hy273⟩ : ∃ y_ : List Int, y_ = (([(a0) % 256, (a0 / 256) % 256, (a0 / 65536) % 256] : List Int)) := ⟨_, rfl⟩
  replace H : (some (strOfNums y273)) = some r := by first | (rw [hy273]; with_reducible exact H) | (have H2_ := (Option.bind_some _ _).symm.trans H; rw [hy273]; with_reducible exact H2_) | (have H2_ := (Option.bind_some _ _).symm.trans H; with_reducible exact H2_) | with_reducible exact H | (rw [hy273]; exact H) | exact H
  have Ny273 := Aside0.mk hy273
  clear hy273
  obtain rfl := Option.some.inj H
  go_enter Try.func43, Try.ntmps43
  go_wp2_with (first | ((with_reducible refine gate_dst (N := 11) rfl ?_); refine Kd.R_lit (Kd.int .u8) _ 5 ?hg (N := 11) ?hd (xs := ([(a0) % 256, (a0 / 256) % 256, (a0 / 65536) % 256] : List Int)) (inner := [.int .u8 ((a0) % 256), .int .u8 ((a0 / 256) % 256), .int .u8 ((a0 / 65536) % 256)]) (ok := fun _ => True) (okp := fun _ => True) ?hr ?hp (fun _ hk => hk) trivial (Below.refl _ _) (Nat.le_refl _) (by simp) ?_; (case hd => rfl); (case hg => rfl); (case hr => first | (go_simp; done) | (go_simp; rfl)); (case hp => exact (Reps.one (show Kd.M (Kd.int .u8) _ _ _ ((a0) % 256) [.int .u8 ((a0) % 256)] from rfl) (Reps.one (show Kd.M (Kd.int .u8) _ _ _ ((a0 / 256) % 256) [.int .u8 ((a0 / 256) % 256)] from rfl) (Reps.one (show Kd.M (Kd.int .u8) _ _ _ ((a0 / 65536) % 256) [.int .u8 ((a0 / 65536) % 256)] from rfl) (Reps.none _ _))))); intro v274 w2 ho3 hb hg_ hnew_; clear hg_ hnew_; (first | rw [← Ny273.out] at ho3 | (simp only [Int.reduceToNat] at ho3; rw [← Ny273.out] at ho3)); have n0_ := Aside0.mk (Kd.R_lower ho3 (below_size (by repeat (first | (with_reducible first | exact HB.out | apply below_alloc | apply pw_below_drewN | apply below_drew1) | exact HB.out)))); have n1_ := Aside0.mk (below_step (by repeat (first | (with_reducible first | exact HB.out | apply below_alloc | apply pw_below_drewN | apply below_drew1) | exact HB.out)) hb); clear HB; have HO275 := n0_; have HB := n1_; clear n0_ n1_; clear hb ho3; have hcv4 := own_string (P := Try.prog) Try.underlying104 Try.underlying5 Try.underlying9 (Kd.own_of_R HO275.out)))
  go_ret
  exact ⟨by first | rfl | (simp [errW_none, errW_some] <;> rfl) | (simp [*, errW_none, errW_some] <;> rfl), by repeat (first | (with_reducible first | exact HB.out | apply below_alloc | apply pw_below_drewN | apply below_drew1) | exact HB.out)⟩

-- NOT PRINTED: function 35 (quireref01_apartTexts)

-- NOT PRINTED: function 16 (quireref01_Book_Apart)

-- NOT PRINTED: function 6 (quirelaw15_OrderKeeps)

end Go.Proofs.Ytdllpgeagdckmaa.Q
