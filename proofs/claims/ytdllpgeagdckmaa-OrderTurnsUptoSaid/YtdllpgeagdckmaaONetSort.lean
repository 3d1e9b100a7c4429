/- The net's sort: names, each behind what it uses, the least first. -/
import Derived.Test.YtdllpgeagdckmaaOCircle
namespace Go.Proofs.Ytdllpgeagdckmaa.Q
open Go.RowKit Go.Proofs.YtdllpgeagdckmaaW.PrintWords Go.Proofs.YtdllpgeagdckmaaW.PrintLast Go.Proofs.YtdllpgeagdckmaaW.PrintMore Go.Proofs.Ytdllpgeagdckmaa.MapKit Go.Maps Go.Proofs.Ytdllpgeagdckmaa.Ord
attribute [local go_sem] max2_int min2_int max_two min_two max_three min_three max_four min_four
set_option linter.unusedVariables false
set_option linter.unusedSimpArgs false

/-- What has come so far. -/
structure GPure (l : Net ByteArray) (hv want all out : List ByteArray) : Prop where
  nodup : out.Nodup
  sub : ∀ x ∈ out, x ∈ all
  least : ∀ i x, out[i]? = some x → IsLeast ltN (Ord.Next l hv want (out.take i)) x
theorem GPure.next {l : Net ByteArray} {hv want all out : List ByteArray} {x : ByteArray} (h : GPure l hv want all out) (hall : ∀ x, x ∈ all ↔ Ord.Reach l hv want x) (hx : IsLeast ltN (Ord.Next l hv want out) x) : GPure l hv want all (out ++ [x]) where
  nodup := by
    rw [List.nodup_append]
    exact ⟨h.nodup, by simp, fun a ha b hb e => hx.1.2.1 (by rw [← List.mem_singleton.1 hb, ← e]; exact ha)⟩
  sub := fun y hy => by
    rcases List.mem_append.1 hy with hy | hy
    · exact h.sub y hy
    · rw [List.mem_singleton.1 hy]
      exact (hall x).2 hx.1.1
  least := fun i y hi => by
    rcases Nat.lt_or_ge i out.length with hlt | hge
    · rw [List.getElem?_append_left hlt] at hi
      rw [List.take_append_of_le_length (by omega)]
      exact h.least i y hi
    · rw [List.getElem?_append_right hge] at hi
      have hi0 : i - out.length = 0 := by
        rcases Nat.eq_zero_or_pos (i - out.length) with h0 | h0
        · exact h0
        · rw [List.getElem?_eq_none (by simp; omega)] at hi
          cases hi
      rw [hi0] at hi
      simp at hi
      subst hi
      have : i = out.length := by omega
      rw [this, List.take_left]
      exact hx

def SortP (l : Net ByteArray) (hv want : List ByteArray) (w : World) (e : Ending) (w' : World) : Prop :=
  ∃ v out, e = .returned v ∧ SRow w' w.heap.size v out ∧ Greedy ltN l hv want out ∧ out.length ≤ 6000000 ∧ Below w.heap.size w w'

/-- Between two rounds. -/
structure SRel (w w' : World) (g : Nat) (v5 : Value) (hv out : List ByteArray) (n : Nat) : Prop where
  row : SRow w' w.heap.size v5 out
  set : SetIs w' g n (hv ++ out)
  below : Below w.heap.size w w'

/-- Nobody ahead of i can come. -/
def NotYet (l : Net ByteArray) (hv want all out : List ByteArray) (i : Nat) : Prop := ∀ j x, j < i → all[j]? = some x → ¬ Ord.Next l hv want out x

theorem least_of_first {l : Net ByteArray} {hv want all out : List ByteArray} (hall : ∀ x, x ∈ all ↔ Ord.Reach l hv want x) (hr : all.Pairwise (fun a b => ltN a b = true)) {i : Nat} {x : ByteArray} (hi : all[i]? = some x) (hn : NotYet l hv want all out i) (hx : Ord.Next l hv want out x) : IsLeast ltN (Ord.Next l hv want out) x := by
  refine ⟨hx, fun y hy => ?_⟩
  obtain ⟨j, hj⟩ := List.getElem?_of_mem ((hall y).2 hy.1)
  rcases Nat.lt_trichotomy j i with h | h | h
  · exact absurd hy (hn j y h hj)
  · subst h
    rw [hi] at hj
    cases hj
    exact totN.irr _
  · obtain ⟨hi1, hi2⟩ := List.getElem?_eq_some_iff.1 hi
    obtain ⟨hj1, hj2⟩ := List.getElem?_eq_some_iff.1 hj
    have h1 := List.pairwise_iff_getElem.1 hr i j hi1 hj1 h
    rw [hi2, hj2] at h1
    cases hc : ltN y x with
    | false => rfl
    | true =>
      have := totN.tr _ _ _ h1 hc
      rw [totN.irr] at this
      cases this

set_option maxHeartbeats 4000000 in
set_option maxRecDepth 100000 in
theorem sort_calls (w : World) (b gu gh : Nat) (A : Option Addr) (c : Nat) (l : List S41) (want hv all : List ByteArray) (hN : NetAt w b gu gh l hv) (hCa : Kd.string.C w A all.length all) (hal : all.length ≤ 6000000) (haz : ∀ x ∈ all, x.size ≤ maxLen) (hus : ∀ v ∈ l, ∀ u ∈ v.f1, u.size ≤ maxLen) (htot : tot (netOf l) ≤ 3000000) (hnd : ((netOf l).map (·.1)).Nodup)
    (hall : ∀ x, x ∈ all ↔ Ord.Reach (netOf l) hv want x) (hri : all.Pairwise (fun a b => ltN a b = true)) (h1 : ∀ x, Ord.Reach (netOf l) hv want x → usesOf (netOf l) x ≠ none) (h2 : ∀ x, Ord.Reach (netOf l) hv want x → ¬ Cyc (netOf l) hv x) :
    Calls Try.prog 22 #[.pointer (some ⟨b, 0, none⟩), .slice A all.length c] w (SortP (netOf l) hv want w) := by
  have husz : ∀ x us, usesOf (netOf l) x = some us → us.length ≤ 3000000 ∧ ∀ u ∈ us, u.size ≤ maxLen := fun x us hu => by
    have h1 := (usesOf_mem hnd).1 hu
    have h2 : us.length ≤ tot (netOf l) := by
      obtain ⟨i, hi⟩ := List.getElem?_of_mem h1
      obtain ⟨hi1, hi2⟩ := List.getElem?_eq_some_iff.1 hi
      have := tot_uses hi1
      rw [hi2] at this
      simp only at this
      omega
    simp only [netOf, List.mem_map, Prod.mk.injEq] at h1
    obtain ⟨v, hv1, _, rfl⟩ := h1
    exact ⟨by omega, hus v hv1⟩
  have HUSZ := Aside0.mk husz
  obtain ⟨F, nu, hmu, hF⟩ := hN.uses
  obtain ⟨nh, hnh, hsh⟩ := hN.have_
  have HN := Aside0.mk hN
  have HMU := Aside0.mk hmu
  have HF := Aside0.mk hF
  have HSH := Aside0.mk hsh
  have HCA := Aside0.mk hCa
  have HAZ := Aside0.mk haz
  have HND := Aside0.mk hnd
  have HALL := Aside0.mk hall
  have HRI := Aside0.mk hri
  have HH1 := Aside0.mk h1
  have HH2 := Aside0.mk h2
  have n1 : w.cell? ⟨b, 1, none⟩ = some (.map (some gh)) := (blk_cell hN.blk 1).trans rfl
  clear hN hmu hF hsh hCa haz hnd hall hri h1 h2 husz hus htot
  go_enter Try.func22, Try.ntmps22
  go_wp2_with (go_at_call 39; refine (clone_set w gh nh hv HSH.out).mono ?_; rintro e w1 ⟨rfl, hs1, hb1⟩; have HS1 := Aside0.mk hs1; have HB1 := Aside0.mk hb1; clear hs1 hb1 n1)
  obtain ⟨g, hg⟩ : ∃ g, g = w.heap.size := ⟨_, rfl⟩
  have hs1 := HS1.out
  rw [← hg] at hs1 ⊢
  have HG := Aside0.mk hg
  have H0 : Aside0 (SRel w w1 g (.slice none 0 0) hv [] nh ∧ GPure (netOf l) hv want all []) := ⟨⟨SRow.nil _ _, by simpa using hs1, HB1.out⟩, ⟨List.nodup_nil, by simp, fun i x hi => by simp at hi⟩⟩
  clear hg hs1 HS1 HB1
  go_loopg [5] (all.length + 1) (fun kq v5 w' => Aside0 (∃ out, SRel w w' g v5 hv out (nh + out.length) ∧ GPure (netOf l) hv want all out ∧ kq + out.length = all.length + 1))
  case atStart => exact ⟨⟨[], H0.out.1, H0.out.2, by simp⟩⟩
  case round =>
    clear H0
    obtain ⟨out, hR, hP, hkk⟩ := hrel.out
    have hlo : out.length ≤ all.length := subset_length hP.nodup hP.sub
    obtain ⟨A5, c5, rfl⟩ := hR.row.shape
    obtain ⟨S, hS⟩ : ∃ S, S = hv ++ out := ⟨_, rfl⟩
    have hset := hR.set
    rw [← hS] at hset
    have HSET := Aside0.mk hset
    have HSM := Aside0.mk (show ∀ x, x ∈ S ↔ x ∈ hv ∨ x ∈ out from fun x => by rw [hS, List.mem_append])
    have HSE := Aside0.mk hS
    have HR := Aside0.mk hR
    have HP := Aside0.mk hP
    clear hR hP hrel hS hset
    by_cases hlt : out.length < all.length
    · have hz : decide ((out.length : Int) < (all.length : Int)) = true := decide_eq_true (by omega)
      obtain ⟨k1, rfl⟩ : ∃ k1, gk = k1 + 1 := ⟨gk - 1, by omega⟩
      have hnn : ¬ NotYet (netOf l) hv want all out all.length := fun hn => by
        have hex : ∃ x0, x0 ∈ all ∧ x0 ∉ out := by
          refine Classical.byContradiction fun hno => ?_
          have hsub : ∀ x ∈ all, x ∈ out := fun x hx => Classical.byContradiction fun hxo => hno ⟨x, hx, hxo⟩
          have hna : all.Nodup := HRI.out.imp fun {a b} hl e => by rw [e, totN.irr] at hl; cases hl
          have := subset_length hna hsub
          omega
        obtain ⟨x0, hx0, hxo⟩ := hex
        obtain ⟨x, hx⟩ := exists_next HH1.out HH2.out all out HALL.out hx0 hxo
        obtain ⟨j, hj⟩ := List.getElem?_of_mem ((HALL.out x).2 hx.1)
        exact hn j x (List.getElem?_eq_some_iff.1 hj).1 hj hx
      have HNN := Aside0.mk hnn
      clear hnn
      go_wp2_with fail
      go_step3
      go_wp2_with fail
      go_step3
      go_wp2_with fail
      go_loopg [5, 23] (all.length + 1) (fun kq v5 v23 w' => ∃ i : Nat, v5 = .slice A5 out.length c5 ∧ v23 = .int .i64 (i : Int) ∧ Aside0 (i ≤ all.length) ∧ Aside0 (kq + i = all.length + 1) ∧ Aside0 (NotYet (netOf l) hv want all out i) ∧ w' = wr)
      case atStart => exact ⟨0, rfl, rfl, ⟨Nat.zero_le _⟩, ⟨by omega⟩, ⟨fun j x hj => by omega⟩, rfl⟩
      obtain ⟨i, rfl, rfl, HI, HKI, HNY, rfl⟩ := hrel
      have hi := HI.out
      have hki := HKI.out
      have hlti : i < all.length := by
        rcases Nat.lt_or_ge i all.length with h | h
        · exact h
        · have : i = all.length := by omega
          exact absurd (by rw [← this]; exact HNY.out) HNN.out
      have hzi : decide ((i : Int) < (all.length : Int)) = true := decide_eq_true (by omega)
      obtain ⟨k2, rfl⟩ : ∃ k2, gk = k2 + 1 := ⟨gk - 1, by omega⟩
      obtain ⟨ad, rfl, z0⟩ := name_at (Kd.C_below HCA.out HR.out.below) i hlti
      obtain ⟨x, hx⟩ : ∃ x, x = all[i] := ⟨_, rfl⟩
      rw [← hx] at z0
      have hxa : all[i]? = some x := by rw [List.getElem?_eq_getElem hlti, ← hx]
      have hxm : x ∈ all := by rw [hx]; exact List.getElem_mem hlti
      have hxs : x.size ≤ maxLen := HAZ.out x hxm
      have hxr := (HALL.out x).1 hxm
      have hxh : x ∉ hv := hxr.not_have
      obtain ⟨us, hus⟩ := Option.ne_none_iff_exists'.1 (HH1.out x hxr)
      obtain ⟨Au, cu, hgx, hCu⟩ := uses_get (HF.out.below HR.out.below) x
      rw [hus, Option.getD_some] at hgx hCu
      obtain ⟨hul, huz⟩ := HUSZ.out x us hus
      have HXA := Aside0.mk hxa
      have HXM := Aside0.mk hxm
      have HXS := Aside0.mk hxs
      have HXH := Aside0.mk hxh
      have HXR := Aside0.mk hxr
      have HU := Aside0.mk hus
      have HGX := Aside0.mk hgx
      have HCU := Aside0.mk hCu
      have HUZ := Aside0.mk huz
      have n0 : _ = some (Value.map (some gu)) := (blk_cell (HN.out.below HR.out.below).blk 0).trans rfl
      clear hxa hxm hxs hxr hxh hus hgx hCu huz hx hi
      by_cases hxo : x ∈ out
      · have hxS : x ∈ S := (HSM.out x).2 (.inr hxo)
        have hxd : decide (x ∈ S) = true := decide_eq_true hxS
        go_wp2_with (at_lookup; refine set_look rfl _ _ rfl rfl HSET.out x rfl (HXS.out) ?_)
        go_roundg k2
        case measure => omega
        case rel =>
          refine ⟨i + 1, rfl, by push_cast; rfl, ⟨by omega⟩, ⟨by omega⟩, ⟨fun j y hj hy hny => ?_⟩, rfl⟩
          rcases Nat.lt_or_ge j i with h | h
          · exact HNY.out j y h hy hny
          · obtain rfl : j = i := by omega
            rw [HXA.out] at hy
            cases hy
            exact hny.2.1 hxo
      · have hxS : x ∉ S := fun h => ((HSM.out x).1 h).elim HXH.out hxo
        have hxd : decide (x ∈ S) = false := decide_eq_false hxS
        go_wp2_with (first | (at_lookup; refine set_look rfl _ _ rfl rfl HSET.out x rfl (HXS.out) ?_) | (at_lookup; refine wpList_look rfl _ _ 68 rfl 23 key9 Try.underlying68 (zero23 _) rfl (HMU.out.below HR.out.below) _ _ rfl (Go.WideMaps.keyOf_string_mk Try.underlying9 HXS.out) ?_; rw [keyB_at, HGX.out]))
        go_loopg [37] (us.length + 1) (fun kq v37 w' => ∃ m : Nat, v37 = .int .i64 (m : Int) ∧ Aside0 (m ≤ us.length) ∧ Aside0 (kq + m = us.length + 1) ∧ Aside0 (∀ j y, j < m → us[j]? = some y → y ∈ S) ∧ w' = wr)
        case atStart => exact ⟨0, rfl, ⟨Nat.zero_le _⟩, ⟨by omega⟩, ⟨fun j y hj => by omega⟩, rfl⟩
        obtain ⟨m, rfl, HM, HKM, HYS, rfl⟩ := hrel
        have hm := HM.out
        have hkm := HKM.out
        by_cases hltm : m < us.length
        · have hzm : decide ((m : Int) < (us.length : Int)) = true := decide_eq_true (by omega)
          obtain ⟨k3, rfl⟩ : ∃ k3, gk = k3 + 1 := ⟨gk - 1, by omega⟩
          obtain ⟨ad2, rfl, z1⟩ := name_at HCU.out m hltm
          obtain ⟨u, hu⟩ : ∃ u, u = us[m] := ⟨_, rfl⟩
          rw [← hu] at z1
          have hua : us[m]? = some u := by rw [List.getElem?_eq_getElem hltm, ← hu]
          have hum : u ∈ us := by rw [hu]; exact List.getElem_mem hltm
          have hul2 : u.size ≤ maxLen := HUZ.out u hum
          have HUA := Aside0.mk hua
          have HUM := Aside0.mk hum
          have HUS := Aside0.mk hul2
          clear hua hum hul2 hu hm
          by_cases hud : u ∈ S
          · have hudb : decide (u ∈ S) = true := decide_eq_true hud
            go_wp2_with (at_lookup; refine set_look rfl _ _ rfl rfl HSET.out u rfl (HUS.out) ?_)
            go_roundg k3
            case measure => omega
            case rel =>
              refine ⟨m + 1, by push_cast; rfl, ⟨by omega⟩, ⟨by omega⟩, ⟨fun j y hj hy => ?_⟩, rfl⟩
              rcases Nat.lt_or_ge j m with h | h
              · exact HYS.out j y h hy
              · obtain rfl : j = m := by omega
                rw [HUA.out] at hy
                cases hy
                exact hud
          · have hudb : decide (u ∈ S) = false := decide_eq_false hud
            go_wp2_with (at_lookup; refine set_look rfl _ _ rfl rfl HSET.out u rfl (HUS.out) ?_)
            go_roundg k2
            case measure => omega
            case rel =>
              refine ⟨i + 1, rfl, by push_cast; rfl, ⟨by omega⟩, ⟨by omega⟩, ⟨fun j y hj hy hny => ?_⟩, rfl⟩
              rcases Nat.lt_or_ge j i with h | h
              · exact HNY.out j y h hy hny
              · obtain rfl : j = i := by omega
                rw [HXA.out] at hy
                cases hy
                exact hud ((HSM.out u).2 (hny.2.2 us HU.out u HUM.out))
        · have hzm : decide ((m : Int) < (us.length : Int)) = false := decide_eq_false (by omega)
          have hml : m = us.length := by omega
          have hnx : IsLeast ltN (Ord.Next (netOf l) hv want out) x := least_of_first HALL.out HRI.out HXA.out HNY.out ⟨HXR.out, hxo, fun us' hus' u hu => by
            rw [HU.out] at hus'
            cases hus'
            obtain ⟨j, hj⟩ := List.getElem?_of_mem hu
            have hjl := (List.getElem?_eq_some_iff.1 hj).1
            exact (HSM.out u).1 (HYS.out j u (by omega) hj)⟩
          have HNX := Aside0.mk hnx
          clear hnx hml
          go_wp2_with (first | (at_mapUpdate; refine set_put rfl _ _ _ rfl rfl HSET.out (by unfold maxLen; omega) x rfl rfl (HXS.out) ?_; intro w3 hs3 hg3; have HS3 := Aside0.mk hs3; have HG3 := Aside0.mk hg3; have HR3 := Aside0.mk (HR.out.row.other hg3 (.inr (map_ne_row HSET.out HR.out.row))); have HB3 := Aside0.mk (show Below w.heap.size w w3 from pw_below_grown HR.out.below _ HR.out.below.size hg3 (fun k e => by cases e; have := HG.out; omega)); clear hs3 hg3) | ((with_reducible refine gate_builtin (b := .append) (xs := #[.tmp 48, .tmp 50]) rfl ?_); refine srow_append w.heap.size rfl (.tmp 48) (.tmp 50) rfl rfl x rfl HR3.out (by omega) HB3.out.size ?_; intro A6 c6 w6 hr hg hat; have HR6 := Aside0.mk hr; have HG6 := Aside0.mk hg; clear hr hg hat))
          rw [Exit.noGoto_normal]
          go_wp2_with fail
          go_roundg k1
          case measure => omega
          case rel =>
            refine ⟨⟨out ++ [x], ⟨?_, ?_, ?_⟩, HP.out.next HALL.out HNX.out, by simp; omega⟩⟩
            · exact HR6.out
            · rw [← List.append_assoc, ← HSE.out, List.length_append]
              exact HS3.out.kept HG6.out (map_ne_row HS3.out HR3.out)
            · exact pw_below_grown HB3.out _ HB3.out.size HG6.out HR3.out.base_le
    · have hz : decide ((out.length : Int) < (all.length : Int)) = false := decide_eq_false (by omega)
      go_wp2_with fail
      go_ret
      have hfull := subset_full HP.out.nodup HP.out.sub (by omega)
      exact ⟨_, out, rfl, HR.out.row, ⟨fun x => ⟨fun h => (HALL.out x).1 (HP.out.sub x h), fun h => hfull x ((HALL.out x).2 h)⟩, HP.out.nodup, HP.out.least⟩, by omega, HR.out.below⟩
end Go.Proofs.Ytdllpgeagdckmaa.Q
