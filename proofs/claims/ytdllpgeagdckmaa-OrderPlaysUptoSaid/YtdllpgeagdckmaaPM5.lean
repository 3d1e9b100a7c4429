/- Put together out of the texts ORefTwice: what each proves stands at its head. -/
import Derived.Test.YtdllpgeagdckmaaPM4
import Derived.Test.YtdllpgeagdckmaaPM2
import Derived.BigQuiet
import Derived.Deep.QuietTactic
import Derived.Outline
import Derived.Deep.LoopGhost
import Derived.Deep.Cut

/- The document's twice: the names of those that stand twice, or use one twice. -/
namespace Go.Proofs.Ytdllpgeagdckmaa.Q
open Go.RowKit Go.Proofs.YtdllpgeagdckmaaW.PrintWords Go.Proofs.YtdllpgeagdckmaaW.PrintLast Go.Proofs.YtdllpgeagdckmaaW.PrintMore Go.Proofs.Ytdllpgeagdckmaa.MapKit Go.Maps Go.Proofs.Ytdllpgeagdckmaa.Ord
attribute [local go_sem] max2_int min2_int max_two min_two max_three min_three max_four min_four
set_option linter.unusedVariables false
set_option linter.unusedSimpArgs false

def net33 (l : List S33) : Net ByteArray := l.map fun v => (v.f0, v.f1)
def quireref15_twice.f (l : List S33) : Option (List ByteArray) := if tot (net33 l) ≤ 3000000 then some (bads (net33 l)) else none

set_option maxHeartbeats 8000000 in
set_option maxRecDepth 100000 in
theorem quireref15_twice.calls (A0 : Option Addr) (c0 : Nat) (l0 : List S33) (r : List ByteArray) (w : World) (hr0 : Kd.C k33 w A0 l0.length l0) (hc0 : l0.length ≤ c0) (h : quireref15_twice.f l0 = some r) :
    Calls Try.prog 24 #[.slice A0 l0.length c0] w fun e w' => ∃ v0_ : Value, e = .returned v0_ ∧ Kd.R Kd.string 9 w' w.heap.size (fun _ => True) v0_ r ∧ Below w.heap.size w w' := by
  unfold quireref15_twice.f at h
  split at h
  · rename_i htot
    cases h
    have hlen : (net33 l0).length = l0.length := by simp [net33]
    have hN : l0.length ≤ 3000000 := by have := tot_ge (net33 l0); omega
    have H0 := Aside0.mk hr0
    have HC := Aside0.mk hc0
    have HTOT := Aside0.mk htot
    have hN5 : (l0.length : Int) ≤ 3000000 := by omega
    clear hr0 hc0 htot
    go_enter Try.func24, Try.ntmps24
    go_wp2_with fail
    go_loopg [3, 4, 5] (l0.length + 1) (fun kq v3 v4 v5 w' => ∃ i : Nat, v4 = .int .i64 (i : Int) ∧ Aside0 (i ≤ l0.length) ∧ Aside0 (kq + i = l0.length + 1) ∧ Aside0 (SRow w' w.heap.size v3 (badsFrom [] ((net33 l0).take i))) ∧ Aside0 (Below w.heap.size w w'))
    case atStart => exact ⟨0, rfl, ⟨Nat.zero_le _⟩, ⟨by omega⟩, ⟨SRow.nil _ _⟩, ⟨Below.refl _ _⟩⟩
    obtain ⟨i, rfl, HI, HK, HR, HB⟩ := hrel
    have hi := HI.out
    have hk := HK.out
    obtain ⟨bad, hbad⟩ : ∃ x, x = badsFrom [] ((net33 l0).take i) := ⟨_, rfl⟩
    rw [← hbad] at HR
    obtain ⟨A3, c3, hv3⟩ := HR.out.shape
    obtain ⟨n3, hn3⟩ : ∃ n, n = bad.length := ⟨_, rfl⟩
    rw [← hn3] at hv3
    subst hv3
    have hbl : bad.length ≤ 3000000 := by
      have h1 := badsFrom_length ((net33 l0).take i) []
      have h2 := tot_take (net33 l0) i
      have h3 := HTOT.out
      rw [hbad]
      omega
    have HBL := Aside0.mk hbl
    have HBAD := Aside0.mk hbad
    clear hn3 hbl
    by_cases hlt : i < l0.length
    · have hz : decide ((i : Int) < (l0.length : Int)) = true := decide_eq_true (by omega)
      obtain ⟨k1, rfl⟩ : ∃ k1, gk = k1 + 1 := ⟨gk - 1, by omega⟩
      obtain ⟨ad, A1, c1, rfl, z0, z1, hcl, hCl⟩ := voc33_at H0.out i hlt
      obtain ⟨u, hu⟩ : ∃ u, u = l0[i] := ⟨_, rfl⟩
      rw [← hu] at z0 z1 hcl hCl
      have hul : tot ((net33 l0).take i) + 1 + u.f1.length ≤ 3000000 := by
        have h1 := tot_uses (l := net33 l0) (i := i) (by rw [hlen]; exact hlt)
        have h2 := HTOT.out
        have e : (net33 l0)[i]'(by rw [hlen]; exact hlt) = (u.f0, u.f1) := by rw [hu]; simp [net33]
        rw [e] at h1
        simp only at h1
        omega
      have hsn : badsFrom [] ((net33 l0).take (i + 1)) = bad ++ ((if u.f0 ∈ (l0.take i).map (·.f0) then [u.f0] else []) ++ dupUses u.f0 [] u.f1) := by
        have e : (net33 l0)[i]'(by rw [hlen]; exact hlt) = (u.f0, u.f1) := by rw [hu]; simp [net33]
        rw [List.take_succ_eq_append_getElem (by rw [hlen]; exact hlt), badsFrom_snoc, e, ← hbad]
        have e2 : ((net33 l0).take i).map (·.1) = (l0.take i).map (·.f0) := by rw [net33, ← List.map_take, List.map_map]; rfl
        rw [e2]
        rfl
      have HUL := Aside0.mk hul
      have HSN := Aside0.mk hsn
      have HCL := Aside0.mk hCl
      have HCC := Aside0.mk hcl
      have x0 := pw_cell_below HB.out z0
      have x1 := pw_cell_below HB.out z1
      have Z0 := Aside0.mk z0
      have Z1 := Aside0.mk z1
      obtain ⟨t, ⟨K1, g1⟩, hfd⟩ := find_ev (l0.take i) u.f0 (by rw [List.length_take]; omega)
      have G1 := Aside0.mk (g1 K1 (Nat.le_refl _))
      have hcut : ∀ W : World, (Instr.slice 22 (.slice (some ad) l0.length c0) none (some (.int .i64 (i : Int))) none).run Try.prog W = .ok (.slice (some ad) i c0) W := by
        obtain ⟨i0, hi0, _⟩ := info_parts info33
        intro W
        have := cut_to (P := Try.prog) 22 33 .i64 Try.underlying22 hi0 (some ad) l0.length c0 (i : Int) (by omega) (by omega) HC.out W
        simpa using this
      have hti : (l0.take i).length = i := by rw [List.length_take]; omega
      have hCt := Kd.C_take (m := i) H0.out (by omega)
      have hcall : ∀ W : World, Below w.heap.size w W → Calls Try.prog 27 #[.slice (some ad) i c0, .string u.f0] W fun e w' => e = .returned (.int .i64 t) ∧ Drawn0 W w' := fun W hb => by
        have := quireref15_find.calls K1 (some ad) c0 (l0.take i) u.f0 t W (Kd.C_below hCt hb) (by rw [hti]; have := HC.out; omega) G1.out
        rwa [hti] at this
      have HCALL := Aside0.mk hcall
      have HFD := Aside0.mk hfd
      clear g1 hcall hCt hul hsn hCl hcl z0 z1 hu hbad hi hk hfd hti
      go_upto_if 21 with fail
      go_quiet (first | (go_at_call 27; refine (HCALL.out _ (pw_below_drewN HB.out _)).mono ?_; rintro e w' ⟨rfl, ⟨nd, rfl⟩⟩; (try first | exact ⟨rfl, _, World.drewN_drewN _ _ _⟩ | exact ⟨rfl, _, Eq.trans (World.drewN_drewN _ _ _) (congrArg (World.drewN _) (Nat.add_assoc _ _ _))⟩)))
      go_upto_if 21 with fail
      obtain ⟨w2, hw2⟩ : ∃ x, x = wr.drewN nq := ⟨_, rfl⟩
      rw [← hw2]
      have hR2 : SRow w2 w.heap.size (.slice A3 n3 c3) bad := by rw [hw2]; exact HR.out.below (pw_below_drewN (Below.refl _ _) nq)
      have hB2 : Below w.heap.size w w2 := by rw [hw2]; exact pw_below_drewN HB.out nq
      have y0 := pw_cell_below hB2 Z0.out
      have HR2 := Aside0.mk hR2
      have HB2 := Aside0.mk hB2
      clear hR2 hB2 hw2 x0 x1
      go_cut [3] (fun v3 wc => Aside0 (SRow wc w.heap.size v3 (bad ++ if u.f0 ∈ (l0.take i).map (·.f0) then [u.f0] else [])) ∧ Aside0 (Below w.heap.size w wc))
      case first =>
        by_cases hm : u.f0 ∈ (l0.take i).map (·.f0)
        · have ht : 0 ≤ t := by
            rcases HFD.out with ⟨_, h⟩ | ⟨j, rfl, _⟩
            · exact absurd hm h
            · omega
          have ht2 : decide (0 ≤ t) = true := decide_eq_true ht
          go_wp2_with ((with_reducible refine gate_builtin (b := .append) (xs := #[.tmp 22, .tmp 28]) rfl ?_); refine srow_append w.heap.size rfl (.tmp 22) (.tmp 28) rfl (v := .slice A3 n3 c3) (xs := bad) rfl u.f0 rfl HR2.out (by have := HBL.out; omega) HB2.out.size ?_; intro A6 c6 w6 hr6 hg6 hat6; have HR6 := Aside0.mk hr6; have HB6 := Aside0.mk (pw_below_grown HB2.out _ HB2.out.size hg6 (fun k e => HR2.out.base_le k e)); clear hr6 hg6 hat6)
          go_meet
          exact ⟨⟨by rw [if_pos hm]; exact HR6.out⟩, HB6⟩
        · have ht : ¬ 0 ≤ t := by
            rcases HFD.out with ⟨rfl, _⟩ | ⟨j, rfl, hj, he⟩
            · omega
            · exact absurd (List.mem_map.2 ⟨_, List.getElem_mem hj, he⟩) hm
          have ht2 : decide (0 ≤ t) = false := decide_eq_false ht
          go_wp2
          go_meet
          exact ⟨⟨by rw [if_neg hm, List.append_nil]; exact HR2.out⟩, HB2⟩
      case rest =>
        obtain ⟨HR3, HB3⟩ := hcut
        obtain ⟨bad1, hbad1⟩ : ∃ x, x = bad ++ (if u.f0 ∈ (l0.take i).map (·.f0) then [u.f0] else []) := ⟨_, rfl⟩
        rw [← hbad1] at HR3
        have HBAD1 := Aside0.mk hbad1
        have hb1l : bad1.length ≤ bad.length + 1 := by rw [hbad1, List.length_append]; split <;> simp
        have HB1L := Aside0.mk hb1l
        clear hbad1 hb1l
        go_wp2_with fail
        have hul := HUL.out
        have hUl5 : (u.f1.length : Int) ≤ 3000000 := by omega
        go_loopg [3, 5] (u.f1.length + 1) (fun kq v3 v5 w' => ∃ q : Nat, v5 = .int .i64 (q : Int) ∧ Aside0 (q ≤ u.f1.length) ∧ Aside0 (kq + q = u.f1.length + 1) ∧ Aside0 (SRow w' w.heap.size v3 (bad1 ++ dupUses u.f0 [] (u.f1.take q))) ∧ Aside0 (Below w.heap.size w w'))
        case atStart => exact ⟨0, rfl, ⟨Nat.zero_le _⟩, ⟨by omega⟩, ⟨by simpa [dupUses] using HR3.out⟩, HB3⟩
        clear HR3
        obtain ⟨q, rfl, HQ, HKQ, HR4, HB4⟩ := hrel
        have hq := HQ.out
        have hkq := HKQ.out
        obtain ⟨bd, hbd⟩ : ∃ x, x = bad1 ++ dupUses u.f0 [] (u.f1.take q) := ⟨_, rfl⟩
        rw [← hbd] at HR4
        have hbdl : bd.length ≤ 6000001 := by
          have h1 := dupUses_length u.f0 (u.f1.take q) []
          have h2 := HB1L.out
          have h3 := HBL.out
          rw [List.length_take] at h1
          rw [hbd, List.length_append]
          omega
        have HBD := Aside0.mk hbd
        have HBDL := Aside0.mk hbdl
        clear hbd hbdl
        obtain ⟨A4, c4, hv4⟩ := HR4.out.shape
        obtain ⟨n4, hn4⟩ : ∃ n, n = bd.length := ⟨_, rfl⟩
        rw [← hn4] at hv4
        subst hv4
        clear hn4
        obtain ⟨wq, rfl⟩ : ∃ x, x = wr := ⟨_, rfl⟩
        have x0 := pw_cell_below HB4.out Z0.out
        have x1 := pw_cell_below HB4.out Z1.out
        by_cases hqt : q < u.f1.length
        · have hzq : decide ((q : Int) < (u.f1.length : Int)) = true := decide_eq_true (by omega)
          obtain ⟨k2, rfl⟩ : ∃ k2, gk = k2 + 1 := ⟨gk - 1, by omega⟩
          obtain ⟨ad1, rfl, zz⟩ := name_at HCL.out q hqt
          obtain ⟨y, hy⟩ : ∃ y, y = u.f1[q] := ⟨_, rfl⟩
          rw [← hy] at zz
          have xz := pw_cell_below HB4.out zz
          have hdu : dupUses u.f0 [] (u.f1.take (q + 1)) = dupUses u.f0 [] (u.f1.take q) ++ (if y ∈ u.f1.take q then [u.f0] else []) := by rw [List.take_succ_eq_append_getElem hqt, dupUses_snoc, ← hy]; simp
          have HDU := Aside0.mk hdu
          obtain ⟨b, ⟨K2, g2⟩, hbb⟩ := has_ev (u.f1.take q) y (by rw [List.length_take]; omega)
          have G2 := Aside0.mk (g2 K2 (Nat.le_refl _))
          have hcut2 : ∀ W : World, (Instr.slice 23 (.slice (some ad1) u.f1.length c1) none (some (.int .i64 (q : Int))) none).run Try.prog W = .ok (.slice (some ad1) q c1) W := slice_take (some ad1) u.f1.length c1 q (by have := HCC.out; omega)
          have hti : (u.f1.take q).length = q := by rw [List.length_take]; omega
          have hCt := Kd.C_take (m := q) HCL.out (by omega)
          have hcall2 : ∀ W : World, Below w.heap.size w W → Calls Try.prog 28 #[.slice (some ad1) q c1, .string y] W fun e w' => e = .returned (.bool b) ∧ Drawn0 W w' := fun W hb => by
            have := quireref15_has.calls K2 (some ad1) c1 (u.f1.take q) y b W (Kd.C_below hCt hb) (by rw [hti]; have := HCC.out; omega) G2.out
            rwa [hti] at this
          have HCALL2 := Aside0.mk hcall2
          have HBB := Aside0.mk hbb
          clear g2 hcall2 hCt hy hbb hti hdu hq hkq zz
          go_upto_if 55 with fail
          go_quiet (first | (go_at_call 28; refine (HCALL2.out _ (pw_below_drewN HB4.out _)).mono ?_; rintro e w' ⟨rfl, ⟨nd, rfl⟩⟩; (try first | exact ⟨rfl, _, World.drewN_drewN _ _ _⟩ | exact ⟨rfl, _, Eq.trans (World.drewN_drewN _ _ _) (congrArg (World.drewN _) (Nat.add_assoc _ _ _))⟩)))
          go_upto_if 55 with fail
          obtain ⟨w2b, hw2⟩ : ∃ x, x = wq.drewN nq := ⟨_, rfl⟩
          rw [← hw2]
          have hR5 : SRow w2b w.heap.size (.slice A4 n4 c4) bd := by rw [hw2]; exact HR4.out.below (pw_below_drewN (Below.refl _ _) nq)
          have hB5 : Below w.heap.size w w2b := by rw [hw2]; exact pw_below_drewN HB4.out nq
          have y0 := pw_cell_below hB5 Z0.out
          have HR5 := Aside0.mk hR5
          have HB5 := Aside0.mk hB5
          clear hR5 hB5 hw2 x0 x1 xz
          have hq7 := HQ.out
          have hz0 : (q : Int) ≤ 3000000 := by omega
          cases b with
          | true =>
            have hm : y ∈ u.f1.take q := HBB.out.1 rfl
            go_wp2_with ((with_reducible refine gate_builtin (b := .append) (xs := #[.tmp 56, .tmp 62]) rfl ?_); refine srow_append w.heap.size rfl (.tmp 56) (.tmp 62) rfl (v := .slice A4 n4 c4) (xs := bd) rfl u.f0 rfl HR5.out (by have := HBDL.out; omega) HB5.out.size ?_; intro A6 c6 w6 hr6 hg6 hat6; have HR6 := Aside0.mk hr6; have HB6 := Aside0.mk (pw_below_grown HB5.out _ HB5.out.size hg6 (fun k e => HR5.out.base_le k e)); clear hr6 hg6 hat6)
            go_roundg k2
            case measure => have := HKQ.out; omega
            case rel => exact ⟨q + 1, by push_cast; rfl, ⟨by omega⟩, ⟨by have := HKQ.out; omega⟩, ⟨by rw [HDU.out, ← List.append_assoc, ← HBD.out, if_pos hm]; exact HR6.out⟩, HB6⟩
          | false =>
            have hm : y ∉ u.f1.take q := fun h => by have := HBB.out.2 h; cases this
            go_wp2_with fail
            go_roundg k2
            case measure => have := HKQ.out; omega
            case rel => exact ⟨q + 1, by push_cast; rfl, ⟨by omega⟩, ⟨by have := HKQ.out; omega⟩, ⟨by rw [HDU.out, ← List.append_assoc, ← HBD.out, if_neg hm, List.append_nil]; exact HR5.out⟩, HB5⟩
        · have hzq : decide ((q : Int) < (u.f1.length : Int)) = false := decide_eq_false (by omega)
          have hfin : bd = badsFrom [] ((net33 l0).take (i + 1)) := by
            have e : u.f1.take q = u.f1 := List.take_of_length_le (by omega)
            rw [HBD.out, HBAD1.out, HSN.out, e, List.append_assoc]
          rw [hfin] at HR4
          clear hfin
          go_wp2_with fail
          go_roundg k1
          case measure => have := HK.out; omega
          case rel => exact ⟨i + 1, by push_cast; rfl, ⟨by omega⟩, ⟨by have := HK.out; omega⟩, HR4, HB4⟩
    · have hz : decide ((i : Int) < (l0.length : Int)) = false := decide_eq_false (by omega)
      have hfin : bad = bads (net33 l0) := by
        rw [HBAD.out, List.take_of_length_le (by rw [hlen]; omega)]
        rfl
      rw [hfin] at HR
      clear hfin
      go_wp2_with fail
      go_ret
      exact ⟨_, rfl, Kd.R_of_own HR.out (fun _ _ => trivial), HB.out⟩
  · cases h
end Go.Proofs.Ytdllpgeagdckmaa.Q
