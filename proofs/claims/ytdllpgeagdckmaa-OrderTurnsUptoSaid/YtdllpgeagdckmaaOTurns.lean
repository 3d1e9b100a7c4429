/- OrderTurns: the same order, whichever way the lists are turned. -/
import Derived.Test.YtdllpgeagdckmaaOStandsAid
import Derived.Test.YtdllpgeagdckmaaQ5
import Derived.Outline
import Derived.Deep.LoopGhost
import Derived.Deep.Cut
namespace Go.Proofs.Ytdllpgeagdckmaa.Q
open Go.RowKit Go.Proofs.YtdllpgeagdckmaaW.PrintWords Go.Proofs.YtdllpgeagdckmaaW.PrintLast Go.Proofs.YtdllpgeagdckmaaW.PrintMore Go.Proofs.Ytdllpgeagdckmaa.MapKit Go.Maps Go.Proofs.Ytdllpgeagdckmaa.Ord
attribute [local go_sem] max2_int min2_int max_two min_two max_three min_three max_four min_four
set_option linter.unusedVariables false
set_option linter.unusedSimpArgs false

/-- Elements as they read in a world that is fixed. -/
def kfix {α : Type} (d : Kd α) (w0 : World) : Kd α where
  sz := d.sz
  E := []
  K := fun _ x cs => d.K w0 x cs
  M := fun _ _ _ x cs => d.K w0 x cs
  K_len := fun h => d.K_len h
  K_one := fun h => d.K_one h
  K_below := fun _ h => h
  K_of_M := fun h => h
  M_mono := fun _ h => h
  M_bound := fun h => h
  M_move := fun _ h => h
  M_lower := fun _ h => h
theorem kfix_C {α : Type} {d : Kd α} {w0 w : World} {A : Option Addr} {n : Nat} {xs : List α} (h : (kfix d w0).C w A n xs) (hb : Below w0.heap.size w0 w) : d.C w A n xs :=
  ReadsRow.imp_ h (Below.refl _ _) (fun _ _ hp => d.K_below hb hp)

theorem kfix_reads {w w' : World} {base n c : Nat} {ok : Nat → Prop} {A : Option Addr} {l : List S33} (h : (kfix k33 w).R 33 w' base ok (.slice A n c) l) (hb : Below w.heap.size w w') : l.length ≤ c ∧ k33.C w' A l.length l := by
  obtain ⟨A', c', he, hl, hC⟩ := Kd.R_reads h
  injection he with h1 h2 h3
  subst h1 h2 h3
  exact ⟨hl, kfix_C hC hb⟩
theorem own_all {l : List ByteArray} (h : l.length ≤ 3000000) : quirelaw15_own.f l = some l := by
  unfold quirelaw15_own.f
  rw [Option.bind_some, if_pos (by simp; omega)]
  rfl
theorem vocabs_all {l : List S33} (hN : l.length ≤ 3000000) (hU : ∀ v ∈ l, v.f1.length ≤ 3000000) : quirelaw15_vocabs.f l = some (l.map conv) := by
  unfold quirelaw15_vocabs.f
  rw [if_pos ⟨hN, hU⟩]

set_option maxHeartbeats 1000000 in
set_option maxRecDepth 100000 in
theorem turns_walk (w : World) (A0 : Option Addr) (c0 : Nat) (l0 : List S33) (h0 : k33.C w A0 l0.length l0) (hc0 : l0.length ≤ c0) (A1 : Option Addr) (c1 : Nat) (want : List ByteArray) (h1 : Kd.string.C w A1 want.length want) (hc1 : want.length ≤ c1)
    (A2 : Option Addr) (c2 : Nat) (hv : List ByteArray) (h2 : Kd.string.C w A2 hv.length hv) (hc2 : hv.length ≤ c2) (hN : l0.length ≤ 3000000) (hU : ∀ v ∈ l0, v.f1.length ≤ 3000000) (hW : want.length ≤ 3000000) (hH : hv.length ≤ 3000000)
    (r1 : List ByteArray) (r2 : ByteArray) (r3 : Int) (ho1 : order_Sort.f (l0.map conv) want hv = some (r1, r2, r3)) (ho2 : order_Sort.f (l0.reverse.map conv) (want.reverse ++ hv) hv = some (r1, r2, r3)) (k : Nat) (hst : quireref01_SameTexts.f k r1 r1 = some true) :
    Calls Try.prog 4 #[.slice A0 l0.length c0, .slice A1 want.length c1, .slice A2 hv.length c2] w fun e w' => e = .returned (.bool true) ∧ Below w.heap.size w w' := by
  have H0 := Aside0.mk h0
  have H1 := Aside0.mk h1
  have H2 := Aside0.mk h2
  have HU := Aside0.mk hU
  have HO1 := Aside0.mk ho1
  have HO2 := Aside0.mk ho2
  have HST := Aside0.mk hst
  have HC0 := Aside0.mk hc0
  have HC1 := Aside0.mk hc1
  have HC2 := Aside0.mk hc2
  clear h0 h1 h2 hU ho1 ho2 hst hc0 hc1 hc2
  go_enter Try.func4, Try.ntmps4
  go_wp2_with fail
  refine (quirelaw15_awake.calls true _ awake_true).mono ?_
  rintro e w1 ⟨rfl, hb1⟩
  have HB1 := Aside0.mk hb1
  clear hb1
  go_wp2_with fail
  refine (quirelaw15_vocabs.calls A0 c0 l0 _ w1 (Kd.C_below H0.out HB1.out) HC0.out (vocabs_all hN HU.out)).mono ?_
  rintro e w2 ⟨v, rfl, hs, hb⟩
  obtain ⟨Av, cv, rfl, hlv, hCv⟩ := Kd.R_reads (Kd.S_R hs)
  have HB2 := Aside0.mk (below_step HB1.out hb)
  have HCV := Aside0.mk hCv
  have HLV := Aside0.mk hlv
  clear hs hb hCv hlv
  go_wp2_with fail
  refine (quirelaw15_own.calls A1 c1 want _ w2 (Kd.C_below H1.out HB2.out) HC1.out (own_all hW)).mono ?_
  rintro e w3 ⟨v, rfl, hs, hb⟩
  obtain ⟨Aw, cw, rfl, hlw, hCw⟩ := Kd.R_reads hs
  have HB3 := Aside0.mk (below_step HB2.out hb)
  have HCW := Aside0.mk hCw
  have HLW := Aside0.mk hlw
  have HCV3 := Aside0.mk (Kd.C_below HCV.out hb)
  clear hs hb hCw hlw HCV
  go_wp2_with fail
  refine (quirelaw15_own.calls A2 c2 hv _ w3 (Kd.C_below H2.out HB3.out) HC2.out (own_all hH)).mono ?_
  rintro e w4 ⟨v, rfl, hs, hb⟩
  obtain ⟨Ah, ch, rfl, hlh, hCh⟩ := Kd.R_reads hs
  have HB4 := Aside0.mk (below_step HB3.out hb)
  have HCH := Aside0.mk hCh
  have HLH := Aside0.mk hlh
  have HCV4 := Aside0.mk (Kd.C_below HCV3.out hb)
  have HCW4 := Aside0.mk (Kd.C_below HCW.out hb)
  clear hs hb hCh hlh HCV3 HCW
  go_wp2_with fail
  have hcall := order_Sort.calls Av cv (l0.map conv) Aw cw want Ah ch hv r1 r2 r3 w4 HCV4.out HLV.out HCW4.out HLW.out HCH.out HLH.out HO1.out
  rw [List.length_map] at hcall
  refine hcall.mono ?_
  clear hcall
  rintro e w5 ⟨v7, rfl, hs, hb⟩
  obtain ⟨A7, c7, rfl, hl7, hC7⟩ := Kd.R_reads hs
  have HB5 := Aside0.mk (below_step HB4.out hb)
  have HC7 := Aside0.mk hC7
  have HL7 := Aside0.mk hl7
  clear hs hb hC7 hl7 HCV4 HCW4 HCH HLV HLW HLH HO1 HB1 HB2 HB3 HB4
  go_wp2_with fail
  have hN5 : (l0.length : Int) ≤ 3000000 := by omega
  go_loopg [10, 11] (l0.length + 1) (fun kq v10 v11 w' => ∃ j : Nat, v11 = .int .i64 ((j : Int) - 1) ∧ Aside0 (j ≤ l0.length) ∧ Aside0 (kq = j + 1) ∧ Aside0 ((kfix k33 w).R 33 w' w5.heap.size (fun _ => True) v10 (l0.drop j).reverse) ∧ Aside0 (Below w5.heap.size w5 w'))
  case atStart => exact ⟨l0.length, rfl, ⟨Nat.le_refl _⟩, ⟨rfl⟩, ⟨by rw [List.drop_length]; exact Kd.R_nil _ _ _ _ _⟩, ⟨Below.refl _ _⟩⟩
  obtain ⟨j, hv11, HJ, HK, HR, HBE⟩ := hrel
  have hj := HJ.out
  have hk := HK.out
  obtain ⟨A10, c10, hv10⟩ := Kd.R_slice HR.out
  obtain ⟨n10, hn10⟩ : ∃ n, n = (l0.drop j).reverse.length := ⟨_, rfl⟩
  rw [← hn10] at hv10
  subst hv10
  have HN10 := Aside0.mk hn10
  clear hn10
  rcases Nat.eq_zero_or_pos j with hj0 | hj0
  · subst hv11
    subst hj0
    have hz : decide ((0 : Int) ≤ ((0 : Nat) : Int) - 1) = false := rfl
    have hRT := HR.out
    rw [List.drop_zero] at hRT
    have hn10 : n10 = l0.length := by have := HN10.out; simpa using this
    subst hn10
    have HRT := Aside0.mk hRT
    clear hRT HR HN10 hj hk
    obtain ⟨wA, rfl⟩ : ∃ x, x = wr := ⟨_, rfl⟩
    go_wp2_with fail
    have hW5 : (want.length : Int) ≤ 3000000 := by omega
    go_loopg [12, 13] (want.length + 1) (fun kq v12 v13 w' => ∃ j : Nat, v13 = .int .i64 ((j : Int) - 1) ∧ Aside0 (j ≤ want.length) ∧ Aside0 (kq = j + 1) ∧ Aside0 (SRow w' wA.heap.size v12 (want.drop j).reverse) ∧ Aside0 (Below wA.heap.size wA w'))
    case atStart => exact ⟨want.length, rfl, ⟨Nat.le_refl _⟩, ⟨rfl⟩, ⟨by rw [List.drop_length]; exact SRow.nil _ _⟩, ⟨Below.refl _ _⟩⟩
    obtain ⟨j, hv13, HJ2, HK2, HR2, HBE2⟩ := hrel
    have hj2 := HJ2.out
    have hk2 := HK2.out
    obtain ⟨A12, c12, hv12⟩ := HR2.out.shape
    obtain ⟨n12, hn12⟩ : ∃ n, n = (want.drop j).reverse.length := ⟨_, rfl⟩
    rw [← hn12] at hv12
    subst hv12
    have HN12 := Aside0.mk hn12
    clear hn12
    rcases Nat.eq_zero_or_pos j with hj0 | hj0
    · subst hv13
      subst hj0
      have hz2 : decide ((0 : Int) ≤ ((0 : Nat) : Int) - 1) = false := rfl
      have hRT2 := HR2.out
      rw [List.drop_zero] at hRT2
      have hn12 : n12 = want.reverse.length := by have := HN12.out; simpa using this
      have HRT2 := Aside0.mk hRT2
      have HN13 := Aside0.mk hn12
      clear hRT2 HR2 HN12 hj2 hk2 hn12
      have hBw : Below w.heap.size w wr := below_step (below_step HB5.out HBE.out) HBE2.out
      have HBW := Aside0.mk hBw
      have HCh := Aside0.mk (Kd.C_below H2.out hBw)
      have hl14 : want.reverse.length + hv.length ≤ 8000000 := by simp; omega
      have HL14 := Aside0.mk hl14
      have hn12 := HN13.out
      subst hn12
      clear hBw hl14 HN13
      go_wp2_with (at_builtin; refine srow_appendAll wA.heap.size rfl (.tmp 58) (.tmp 59) rfl (v := .slice A12 want.reverse.length c12) (xs := want.reverse) (ys := hv) (A := A2) (c := c2) rfl rfl HRT2.out HCh.out HL14.out HBE2.out.size ?_; intro A14 c14 w6 hr6 hg6 hat6; obtain ⟨n14, hn14⟩ : ∃ n, n = want.reverse.length + hv.length := ⟨_, rfl⟩; rw [← hn14] at hr6 ⊢; have HN14 := Aside0.mk hn14; have HR6 := Aside0.mk hr6; have HB6 := Aside0.mk (pw_below_grown HBE2.out _ HBE2.out.size hg6 (fun k e => HRT2.out.base_le k e)); clear hr6 hg6 hat6 hn14)
      have HBw6 := Aside0.mk (below_step (below_step HB5.out HBE.out) HB6.out)
      have hkr := kfix_reads (Kd.R_below HRT.out HB6.out) HBw6.out
      have HKR := Aside0.mk hkr
      have hcall := quirelaw15_vocabs.calls A10 c10 l0.reverse _ w6 hkr.2 hkr.1 (vocabs_all (by simpa using hN) (fun v hv1 => HU.out v (by simpa using hv1)))
      rw [List.length_reverse] at hcall
      refine hcall.mono ?_
      clear hcall hkr
      rintro e w7 ⟨v, rfl, hs, hb⟩
      obtain ⟨Av2, cv2, rfl, hlv, hCv⟩ := Kd.R_reads (Kd.S_R hs)
      have HB7 := Aside0.mk (below_step HBw6.out hb)
      have HCV := Aside0.mk hCv
      have HLV := Aside0.mk hlv
      have HR7 := Aside0.mk (HR6.out.below hb)
      have HB67 := Aside0.mk (below_step HB6.out hb)
      clear hs hb hCv hlv
      go_wp2_with fail
      refine (quirelaw15_own.calls A2 c2 hv _ w7 (Kd.C_below H2.out HB7.out) HC2.out (own_all hH)).mono ?_
      rintro e w8 ⟨v, rfl, hs, hb⟩
      obtain ⟨Ah2, ch2, rfl, hlh, hCh⟩ := Kd.R_reads hs
      have HB8 := Aside0.mk (below_step HB7.out hb)
      have HCH := Aside0.mk hCh
      have HLH := Aside0.mk hlh
      have HCV8 := Aside0.mk (Kd.C_below HCV.out hb)
      have HR8 := Aside0.mk (HR7.out.below hb)
      have HB68 := Aside0.mk (below_step HB67.out hb)
      clear hs hb hCh hlh HCV
      go_wp2_with fail
      obtain ⟨A14', c14', he14, hl14, hC14⟩ := HR8.out.reads
      have e14 : (want.reverse ++ hv).length = n14 := by rw [HN14.out, List.length_append]
      have hcall := order_Sort.calls Av2 cv2 (l0.reverse.map conv) A14' c14' (want.reverse ++ hv) Ah2 ch2 hv r1 r2 r3 w8 HCV8.out HLV.out hC14 hl14 HCH.out HLH.out HO2.out
      rw [e14, List.length_map, List.length_reverse] at hcall
      rw [e14] at he14
      injection he14 with e1 e2 e3
      subst e1 e3
      refine hcall.mono ?_
      clear hcall
      rintro e w9 ⟨v9, rfl, hs, hb⟩
      obtain ⟨A9, c9, rfl, hl9, hC9⟩ := Kd.R_reads hs
      have HB9 := Aside0.mk (below_step HB8.out hb)
      have HC9 := Aside0.mk hC9
      have HL9 := Aside0.mk hl9
      have HC79 := Aside0.mk (Kd.C_below HC7.out (below_step (below_step HBE.out HB68.out) hb))
      clear hs hb hC9 hl9 hl14 hC14
      go_wp2_with fail
      refine (quireref01_SameTexts.calls k A7 c7 r1 A9 c9 r1 true w9 HC79.out HL7.out HC9.out HL9.out HST.out).mono ?_
      rintro e w10 ⟨rfl, nd, rfl⟩
      go_wp2_with fail
      go_ret
      exact ⟨by simp, pw_below_drewN HB9.out nd⟩
    · obtain ⟨i, rfl⟩ : ∃ i, j = i + 1 := ⟨j - 1, by omega⟩
      rw [show ((i + 1 : Nat) : Int) - 1 = (i : Int) by omega] at hv13
      subst hv13
      obtain ⟨k2, rfl⟩ : ∃ k2, gk = k2 + 1 := ⟨gk - 1, by omega⟩
      obtain ⟨ad, rfl, z0⟩ := name_at H1.out i (by omega)
      obtain ⟨u, hu⟩ : ∃ u, u = want[i] := ⟨_, rfl⟩
      rw [← hu] at z0
      have x0 := pw_cell_below (below_step (below_step HB5.out HBE.out) HBE2.out) z0
      have hdr : (want.drop i).reverse = (want.drop (i + 1)).reverse ++ [u] := by rw [List.drop_eq_getElem_cons (show i < want.length by omega), List.reverse_cons, ← hu]
      have HDR := Aside0.mk hdr
      have hi1 : (i : Int) < (want.length : Int) := by omega
      have hi0 : (0 : Int) ≤ (i : Int) := by omega
      have hlen : (want.drop (i + 1)).reverse.length ≤ 8000000 := by simp; omega
      have HLEN := Aside0.mk hlen
      clear hu hdr z0 hlen hj2 hk2
      go_wp2_with (at_builtin; refine srow_append wA.heap.size rfl (.tmp 51) (.tmp 56) rfl (v := .slice A12 n12 c12) (xs := (want.drop (i + 1)).reverse) rfl u rfl HR2.out HLEN.out HBE2.out.size ?_; intro A6 c6 w6 hr6 hg6 hat6; obtain ⟨n6, hn6⟩ : ∃ n, n = (want.drop (i + 1)).reverse.length + 1 := ⟨_, rfl⟩; rw [← hn6] at hr6 ⊢; rw [← HDR.out] at hr6; have HR6 := Aside0.mk hr6; have HB6 := Aside0.mk (pw_below_grown HBE2.out _ HBE2.out.size hg6 (fun k e => HR2.out.base_le k e)); clear hr6 hg6 hat6 hn6)
      go_roundg k2
      case measure => have := HK2.out; omega
      case rel => exact ⟨i, rfl, ⟨by omega⟩, ⟨by have := HK2.out; omega⟩, HR6, HB6⟩
  · obtain ⟨i, rfl⟩ : ∃ i, j = i + 1 := ⟨j - 1, by omega⟩
    rw [show ((i + 1 : Nat) : Int) - 1 = (i : Int) by omega] at hv11
    subst hv11
    obtain ⟨k1, rfl⟩ : ∃ k1, gk = k1 + 1 := ⟨gk - 1, by omega⟩
    obtain ⟨ad, A1', c1', rfl, z0, z1, hcl, hCl⟩ := voc33_at H0.out i (by omega)
    obtain ⟨u, hu⟩ : ∃ u, u = l0[i] := ⟨_, rfl⟩
    rw [← hu] at z0 z1 hcl hCl
    have HM := Aside0.mk (k33_mk w u hcl hCl)
    have hBw : Below w.heap.size w wr := below_step HB5.out HBE.out
    have x0 := pw_cell_below hBw z0
    have x1 := pw_cell_below hBw z1
    have hdr : (l0.drop i).reverse = (l0.drop (i + 1)).reverse ++ [u] := by rw [List.drop_eq_getElem_cons (show i < l0.length by omega), List.reverse_cons, ← hu]
    have HDR := Aside0.mk hdr
    have hi1 : (i : Int) < (l0.length : Int) := by omega
    have hi0 : (0 : Int) ≤ (i : Int) := by omega
    have hlen : ((l0.drop (i + 1)).reverse.length + 1) * 40 ≤ 140737488355328 := by simp; omega
    have HLEN := Aside0.mk hlen
    clear hcl hCl hu hdr hBw z0 z1 hlen hj hk
    go_wp2_with (at_builtin; refine Kd.R_append (kfix k33 w) (w0 := w5) w5.heap.size rfl (.tmp 37) (.tmp 42) 22 33 (.agg #[(.string ⟨#[]⟩), (.slice none 0 0)]) 40 rfl Try.underlying22 info33 rfl (by show 0 < 2; omega) (by decide) (.slice A10 n10 c10) (l0.drop (i + 1)).reverse u [.string u.f0, .slice A1' u.f1.length c1'] (fun _ => True) (fun _ => False) rfl rfl HM.out (fun _ h => h.elim) (fun _ _ => trivial) HR.out HBE.out HBE.out.size HLEN.out ?_; intro v1 w6 hr6 hb6 hg6 hat6; rw [← HDR.out] at hr6; have HR6 := Aside0.mk hr6; have HB6 := Aside0.mk hb6; clear hr6 hb6 hg6 hat6)
    go_roundg k1
    case measure => have := HK.out; omega
    case rel => exact ⟨i, rfl, ⟨by omega⟩, ⟨by have := HK.out; omega⟩, HR6, HB6⟩

/-! ### The law -/
theorem same_l0 (l : List ByteArray) (hl : l.length ≤ 10000000) : ∀ n i : Nat, i + n = l.length → Ev (fun k => quireref01_SameTexts.l0 k l l (i : Int)) true
  | 0, i, hi => Ev.step (f := fun _ => some true) (fun k => by
      unfold quireref01_SameTexts.l0
      rw [if_neg (by omega)]) (Ev.now _)
  | n + 1, i, hi => by
    refine Ev.step (fun k => ?_) (same_l0 l hl n (i + 1) (by omega))
    conv => lhs; unfold quireref01_SameTexts.l0
    rw [if_pos (by omega), if_pos (by omega), if_pos (by omega), if_pos rfl, w64 (by omega) (by omega)]
    rfl
theorem same_ev (l : List ByteArray) (hl : l.length ≤ 10000000) : Ev (fun k => quireref01_SameTexts.f k l l) true :=
  Ev.congr (fun k => by unfold quireref01_SameTexts.f; rw [if_pos rfl]; rfl) (same_l0 l hl l.length 0 (by omega))
theorem sorts_length {l : List S41} {want hv : List ByteArray} {r1 : List ByteArray} {r2 : ByteArray} {r3 : Int} (hf : Fit l want hv) (h : SortsB l want hv (r1, r2, r3)) : r1.length ≤ 6000000 := by
  have h1 := hf.tot_
  have h2 := hf.want_
  unfold SortsB at h
  dsimp only at h
  cases h with
  | ok l h0 _ _ h => exact order_length h h2 h1
  | _ => simp

theorem orderTurns_holds (w : World) (A0 : Option Addr) (c0 : Nat) (l0 : List S33) (h0 : k33.C w A0 l0.length l0) (hc0 : l0.length ≤ c0) (q0 : ∀ v ∈ l0, Okv v)
    (A1 : Option Addr) (c1 : Nat) (l1 : List ByteArray) (h1 : Kd.string.C w A1 l1.length l1) (hc1 : l1.length ≤ c1) (q1 : ∀ p ∈ l1, p.size ≤ maxLen)
    (A2 : Option Addr) (c2 : Nat) (l2 : List ByteArray) (h2 : Kd.string.C w A2 l2.length l2) (hc2 : l2.length ≤ c2) (q2 : ∀ p ∈ l2, p.size ≤ maxLen)
    (hB : (l0.map wtv).sum + (l1.map (fun p => p.size + 1)).sum + (l2.map (fun p => p.size + 1)).sum ≤ 1048576) :
    Calls Try.prog 4 #[.slice A0 l0.length c0, .slice A1 l1.length c1, .slice A2 l2.length c2] w fun e w' => e = .returned (.bool true) ∧ Below w.heap.size w w' := by
  have h3 := vocs_sum l0
  have h4 := Opens.strs_length l1
  have h5 := Opens.strs_length l2
  have hf := fit_of q0 q1 q2 hB
  obtain ⟨r1, r2, r3, hs⟩ := sorts_exists totN noName (netOf (l0.map conv)) l1 l2
  have hl := sorts_length hf hs
  have hp : (netOf (l0.map conv)).Perm (netOf (l0.reverse.map conv)) := by
    rw [netOf_conv, netOf_conv, List.map_reverse]
    exact (List.reverse_perm _).symm
  have hs2 : SortsB (l0.reverse.map conv) (l1.reverse ++ l2) l2 (r1, r2, r3) := hs.turned hp (fun x hx => by simp [hx])
  have hf2 : Fit (l0.reverse.map conv) (l1.reverse ++ l2) l2 := by
    refine ⟨?_, by simp; omega, hf.hv_, fun v hv1 => hf.names v (by simpa using hv1), fun v hv1 => hf.uses v (by simpa using hv1), fun u hu => ?_, hf.havs⟩
    · have e : tot (netOf (l0.reverse.map conv)) = tot (netOf (l0.map conv)) := by
        have key : ∀ a b : Net ByteArray, a.Perm b → tot a = tot b := fun a b h => by
          induction h with
          | nil => rfl
          | cons x _ ih => simp only [tot, ih]
          | swap x y l => simp only [tot]; omega
          | trans _ _ ih1 ih2 => rw [ih1, ih2]
        exact (key _ _ hp).symm
      rw [e]
      exact hf.tot_
    · rcases List.mem_append.1 hu with hu | hu
      · exact hf.wants u (by simpa using hu)
      · exact hf.havs u hu
  obtain ⟨k, hk⟩ := (same_ev r1 (by omega)).rounds
  exact turns_walk w A0 c0 l0 h0 hc0 A1 c1 l1 h1 hc1 A2 c2 l2 h2 hc2 (by omega) (fun v hv1 => by have := h3.2.2 v hv1; omega) (by omega) (by omega) r1 r2 r3 (order_Sort.of hf hs) (order_Sort.of hf2 hs2) k hk
end Go.Proofs.Ytdllpgeagdckmaa.Q
