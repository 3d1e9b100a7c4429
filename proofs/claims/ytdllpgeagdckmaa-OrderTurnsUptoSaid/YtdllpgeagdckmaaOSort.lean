/- order.Sort: its answer is the one that the theory of nets gives. -/
import Derived.Test.YtdllpgeagdckmaaONetSort
namespace Go.Proofs.Ytdllpgeagdckmaa.Q
open Go.RowKit Go.Proofs.YtdllpgeagdckmaaW.PrintWords Go.Proofs.YtdllpgeagdckmaaW.PrintLast Go.Proofs.YtdllpgeagdckmaaW.PrintMore Go.Proofs.Ytdllpgeagdckmaa.MapKit Go.Maps Go.Proofs.Ytdllpgeagdckmaa.Ord
attribute [local go_sem] max2_int min2_int max_two min_two max_three min_three max_four min_four
set_option linter.unusedVariables false
set_option linter.unusedSimpArgs false

def noName : ByteArray := ⟨#[]⟩
def SortsB (l : List S41) (want hv : List ByteArray) (r : List ByteArray × ByteArray × Int) : Prop := Sorts ltN noName (netOf l) want hv r.1 r.2.1 r.2.2

def SortQ (l : List S41) (want hv : List ByteArray) (w : World) (e : Ending) (w' : World) : Prop :=
  ∃ v r1 r2 r3, e = .returned (.tuple #[v, .string r2, .int .i64 r3]) ∧ SortsB l want hv (r1, r2, r3) ∧ SRow w' w.heap.size v r1 ∧ Below w.heap.size w w'

set_option maxHeartbeats 4000000 in
set_option maxRecDepth 100000 in
theorem sort_walk (w : World) (A A1 A2 : Option Addr) (c c1 c2 : Nat) (l : List S41) (want hv : List ByteArray) (hC : Kd.C k41 w A l.length l) (hc : l.length ≤ c) (hC1 : Kd.string.C w A1 want.length want) (hc1 : want.length ≤ c1) (hC2 : Kd.string.C w A2 hv.length hv) (hc2 : hv.length ≤ c2) (hfit : Fit l want hv) :
    Calls Try.prog 8 #[.slice A l.length c, .slice A1 want.length c1, .slice A2 hv.length c2] w (SortQ l want hv w) := by
  have HC := Aside0.mk hC
  have HC1 := Aside0.mk hC1
  have HC2 := Aside0.mk hC2
  have HF := Aside0.mk hfit
  have HL := Aside0.mk hc
  clear hC hC1 hC2 hfit hc hc1 hc2
  go_enter Try.func8, Try.ntmps8
  go_wp2_with fail
  refine (twice_calls w A c l HC.out HL.out HF.out.tot_ HF.out.names HF.out.uses).mono ?_
  rintro e w1 ⟨⟨hb0, rfl⟩ | ⟨m, hm, rfl⟩, hb1⟩
  · have hnd := (bads_nil hb0).1
    have HB0 := Aside0.mk hb0
    have HND := Aside0.mk hnd
    have HB1 := Aside0.mk hb1
    clear hb0 hnd hb1
    go_wp2_with fail
    refine (of_calls w1 A A2 c c2 l hv (Kd.C_below HC.out HB1.out) (Kd.C_below HC2.out HB1.out) HF.out.tot_ HF.out.hv_ HF.out.names HF.out.havs HND.out).mono ?_
    rintro e w2 ⟨b, gu, gh, rfl, hN2, hb2⟩
    have HN2 := Aside0.mk hN2
    have HB2 := Aside0.mk (below_step HB1.out hb2)
    clear hN2 hb2
    go_wp2_with fail
    refine (wanted_calls w2 b gu gh A1 c1 l want hv HN2.out (Kd.C_below HC1.out HB2.out) HF.out.tot_ HF.out.want_ HF.out.uses HF.out.wants HND.out).mono ?_
    rintro e w3 ⟨va, vm, all, mis, rfl, hra, hrm, hall, hri, hmis, hal, hml, hb3⟩
    have HN3 := Aside0.mk (HN2.out.below hb3)
    have HB3 := Aside0.mk (below_step HB2.out hb3)
    obtain ⟨Aa, ca, rfl, hca, hCa⟩ := hra.reads
    obtain ⟨Am, cm, rfl, hcm, hCm⟩ := hrm.reads
    have HCA := Aside0.mk hCa
    have HCM := Aside0.mk hCm
    have HALL := Aside0.mk hall
    have HRI := Aside0.mk hri
    have HMIS := Aside0.mk hmis
    have HBW := Aside0.mk HB2.out.size
    clear hra hrm hall hri hmis hb3 hCa hCm hca hcm
    rcases Nat.eq_zero_or_pos mis.length with h0 | h0
    · have hm0 := List.eq_nil_of_length_eq_zero h0
      subst hm0
      have hh1 : ∀ x, Ord.Reach (netOf l) hv want x → usesOf (netOf l) x ≠ none := fun x hx hu => by
        have := (HMIS.out x).2 ⟨hx, hu⟩
        simp at this
      have HH1 := Aside0.mk hh1
      have haz : ∀ x ∈ all, x.size ≤ maxLen := fun x hx => by
        have hr := (HALL.out x).1 hx
        obtain ⟨us, hus⟩ := Option.ne_none_iff_exists'.1 (hh1 x hr)
        have h1 := (usesOf_mem HND.out).1 hus
        simp only [netOf, List.mem_map, Prod.mk.injEq] at h1
        obtain ⟨v, hv1, rfl, _⟩ := h1
        exact HF.out.names v hv1
      have HAZ := Aside0.mk haz
      clear hh1 haz h0
      go_wp2_with fail
      go_loopg [39] (all.length + 1) (fun kq v39 w' => ∃ i : Nat, v39 = .int .i64 (i : Int) ∧ Aside0 (i ≤ all.length) ∧ Aside0 (kq + i = all.length + 1) ∧ Aside0 (∀ j x, j < i → all[j]? = some x → ¬ Cyc (netOf l) hv x) ∧ Aside0 (Below w3.heap.size w3 w'))
      case atStart => exact ⟨0, rfl, ⟨Nat.zero_le _⟩, ⟨by omega⟩, ⟨fun j x hj => by omega⟩, ⟨Below.refl _ _⟩⟩
      obtain ⟨i, rfl, HI, HK, HCY, HBE⟩ := hrel
      have hi := HI.out
      have hk := HK.out
      by_cases hlt : i < all.length
      · have hz : decide ((i : Int) < (all.length : Int)) = true := decide_eq_true (by omega)
        obtain ⟨k1, rfl⟩ : ∃ k1, gk = k1 + 1 := ⟨gk - 1, by omega⟩
        obtain ⟨ad, rfl, z0⟩ := name_at (Kd.C_below HCA.out HBE.out) i hlt
        obtain ⟨x, hx⟩ : ∃ x, x = all[i] := ⟨_, rfl⟩
        rw [← hx] at z0
        have hxa : all[i]? = some x := by rw [List.getElem?_eq_getElem hlt, ← hx]
        have hxm : x ∈ all := by rw [hx]; exact List.getElem_mem hlt
        have hxr := (HALL.out x).1 hxm
        obtain ⟨us, hus⟩ := Option.ne_none_iff_exists'.1 (HH1.out x hxr)
        have hul : us.length ≤ 3000000 := by
          have h1 := (usesOf_mem HND.out).1 hus
          obtain ⟨j, hj⟩ := List.getElem?_of_mem h1
          obtain ⟨hj1, hj2⟩ := List.getElem?_eq_some_iff.1 hj
          have h2 := tot_uses hj1
          rw [hj2] at h2
          have h3 := HF.out.tot_
          simp only at h2
          omega
        have HXA := Aside0.mk hxa
        have HXR := Aside0.mk hxr
        have HU := Aside0.mk hus
        have HXS := Aside0.mk (HAZ.out x hxm)
        have HUL := Aside0.mk hul
        clear hxa hxm hxr hus hul hx hi
        go_wp2_with fail
        refine (circle_calls _ b gu gh l hv us x (HN3.out.below HBE.out) HF.out.tot_ HF.out.uses HXS.out HND.out HU.out HUL.out).mono ?_
        rintro e w4 ⟨⟨hr, rfl⟩ | ⟨hr, rfl⟩, hb4⟩
        · have HB4 := Aside0.mk hb4
          have HR := Aside0.mk hr
          clear hb4 hr
          go_wp2_with fail
          go_ret3
          refine ⟨_, [], x, 15, rfl, ?_, SRow.nil _ _, below_step HB3.out (below_step HBE.out HB4.out)⟩
          refine .cycle x HB0.out HH1.out ⟨⟨HXR.out, us, HU.out, HR.out⟩, fun y hy => ?_⟩
          obtain ⟨j, hj⟩ := List.getElem?_of_mem ((HALL.out y).2 hy.1)
          rcases Nat.lt_trichotomy j i with h | h | h
          · exact absurd hy.2 (HCY.out j y h hj)
          · subst h
            rw [HXA.out] at hj
            cases hj
            exact totN.irr _
          · obtain ⟨hi1, hi2⟩ := List.getElem?_eq_some_iff.1 HXA.out
            obtain ⟨hj1, hj2⟩ := List.getElem?_eq_some_iff.1 hj
            have h1 := List.pairwise_iff_getElem.1 HRI.out i j hi1 hj1 h
            rw [hi2, hj2] at h1
            cases hc : ltN y x with
            | false => rfl
            | true =>
              have := totN.tr _ _ _ h1 hc
              rw [totN.irr] at this
              cases this
        · have HB4 := Aside0.mk hb4
          have HR := Aside0.mk hr
          clear hb4 hr
          go_wp2_with fail
          go_roundg k1
          case measure => omega
          case rel =>
            refine ⟨i + 1, by push_cast; rfl, ⟨by omega⟩, ⟨by omega⟩, ⟨fun j y hj hy => ?_⟩, ⟨below_step HBE.out HB4.out⟩⟩
            rcases Nat.lt_or_ge j i with h | h
            · exact HCY.out j y h hy
            · obtain rfl : j = i := by omega
              rw [HXA.out] at hy
              cases hy
              rintro ⟨us', hus', hr'⟩
              rw [HU.out] at hus'
              cases hus'
              exact HR.out hr'
      · have hz : decide ((i : Int) < (all.length : Int)) = false := decide_eq_false (by omega)
        have hh2 : ∀ x, Ord.Reach (netOf l) hv want x → ¬ Cyc (netOf l) hv x := fun x hx => by
          obtain ⟨j, hj⟩ := List.getElem?_of_mem ((HALL.out x).2 hx)
          exact HCY.out j x (by have := (List.getElem?_eq_some_iff.1 hj).1; omega) hj
        have HH2 := Aside0.mk hh2
        clear hh2
        go_wp2_with fail
        refine (sort_calls _ b gu gh Aa ca l want hv all (HN3.out.below HBE.out) (Kd.C_below HCA.out HBE.out) hal HAZ.out HF.out.uses HF.out.tot_ HND.out HALL.out HRI.out HH1.out HH2.out).mono ?_
        rintro e w5 ⟨v, out, rfl, hr5, hg5, hl5, hb5⟩
        have HR5 := Aside0.mk hr5
        have HG5 := Aside0.mk hg5
        have HB5 := Aside0.mk hb5
        clear hr5 hg5 hb5
        go_wp2_with fail
        go_ret3
        exact ⟨_, out, noName, 0, rfl, .ok out HB0.out HH1.out HH2.out HG5.out, own_weaken HR5.out (below_step HB3.out HBE.out).size, below_step HB3.out (below_step HBE.out HB5.out)⟩
    · have h0b : (0 : Int) < (mis.length : Int) := by omega
      go_wp2_with fail
      refine (min_names _ Am cm mis HCM.out (by omega) h0).mono ?_
      rintro e w4 ⟨m, rfl, hm, rfl⟩
      have HM := Aside0.mk hm
      clear hm
      go_wp2_with fail
      go_ret3
      exact ⟨_, [], m, 6, rfl, .none_ m HB0.out (HM.out.congr HMIS.out), SRow.nil _ _, HB3.out⟩
  · have HM := Aside0.mk hm
    have HB1 := Aside0.mk hb1
    clear hm hb1
    go_wp2_with fail
    go_ret3
    exact ⟨_, [], m, 14, rfl, .twice m HM.out, SRow.nil _ _, HB1.out⟩

noncomputable def order_Sort.f (l : List S41) (want hv : List ByteArray) : Option (List ByteArray × ByteArray × Int) := by
  classical
  exact if h : Fit l want hv ∧ ∃ r, SortsB l want hv r then some (Classical.choose h.2) else none
theorem order_Sort.spec {l : List S41} {want hv : List ByteArray} {r : List ByteArray × ByteArray × Int} (h : order_Sort.f l want hv = some r) : Fit l want hv ∧ SortsB l want hv r := by
  unfold order_Sort.f at h
  split at h
  · rename_i hc
    simp only [Option.some.injEq] at h
    rw [← h]
    exact ⟨hc.1, Classical.choose_spec hc.2⟩
  · cases h
theorem order_Sort.of {l : List S41} {want hv : List ByteArray} {r : List ByteArray × ByteArray × Int} (hf : Fit l want hv) (h : SortsB l want hv r) : order_Sort.f l want hv = some r := by
  unfold order_Sort.f
  have hc : Fit l want hv ∧ ∃ r, SortsB l want hv r := ⟨hf, r, h⟩
  rw [dif_pos hc]
  have h2 := Classical.choose_spec hc.2
  obtain ⟨e1, e2, e3⟩ := Sorts.unique totN h h2
  congr 1
  exact (Prod.ext e1 (Prod.ext e2 e3)).symm

theorem order_Sort.calls (A0 : Option Addr) (c0 : Nat) (l0 : List S41) (A1 : Option Addr) (c1 : Nat) (l1 : List ByteArray) (A2 : Option Addr) (c2 : Nat) (l2 : List ByteArray) (r1 : List ByteArray) (r2 : ByteArray) (r3 : Int) (w : World) (hr0 : Kd.C k41 w A0 l0.length l0) (hc0 : l0.length ≤ c0) (hr1 : Kd.C Kd.string w A1 l1.length l1) (hc1 : l1.length ≤ c1) (hr2 : Kd.C Kd.string w A2 l2.length l2) (hc2 : l2.length ≤ c2) (h : order_Sort.f l0 l1 l2 = some (r1, r2, r3)) :
    Calls Try.prog 8 #[.slice A0 l0.length c0, .slice A1 l1.length c1, .slice A2 l2.length c2] w fun e w' => ∃ v0_ : Value, e = .returned (.tuple #[v0_, .string r2, .int .i64 r3]) ∧ Kd.R Kd.string 9 w' w.heap.size (fun _ => True) v0_ r1 ∧ Below w.heap.size w w' := by
  obtain ⟨hf, hs⟩ := order_Sort.spec h
  refine (sort_walk w A0 A1 A2 c0 c1 c2 l0 l1 l2 hr0 hc0 hr1 hc1 hr2 hc2 hf).mono ?_
  rintro e w' ⟨v, q1, q2, q3, rfl, hq, hrow, hb⟩
  obtain ⟨e1, e2, e3⟩ := Sorts.unique totN hq hs
  simp only at e1 e2 e3
  subst e1 e2 e3
  exact ⟨v, rfl, Kd.R_of_own hrow (fun _ _ => trivial), hb⟩
end Go.Proofs.Ytdllpgeagdckmaa.Q
