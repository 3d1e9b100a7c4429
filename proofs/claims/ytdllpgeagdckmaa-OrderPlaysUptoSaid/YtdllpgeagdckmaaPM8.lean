/- Put together out of the texts OPlays: what each proves stands at its head. -/
import Derived.Test.YtdllpgeagdckmaaPM3
import Derived.Test.YtdllpgeagdckmaaPM4
import Derived.Test.YtdllpgeagdckmaaPM7
import Derived.BigQuiet
import Derived.Deep.QuietTactic

/- OrderPlays: the program's order and levels are the document's. -/
namespace Go.Proofs.Ytdllpgeagdckmaa.Q
open Go.RowKit Go.Proofs.YtdllpgeagdckmaaW.PrintWords Go.Proofs.YtdllpgeagdckmaaW.PrintLast Go.Proofs.YtdllpgeagdckmaaW.PrintMore Go.Proofs.Ytdllpgeagdckmaa.MapKit Go.Maps Go.Proofs.Ytdllpgeagdckmaa.Ord Go.Proofs.Ytdllpgeagdckmaa.ApartKit
attribute [local go_sem] max2_int min2_int max_two min_two max_three min_three max_four min_four
set_option linter.unusedVariables false
set_option linter.unusedSimpArgs false

/-- A slice of rows of names, each where it is read. -/
def RowsAt (w : World) (A : Option Addr) (rows : List (List ByteArray)) : Prop :=
  ∀ (i : Nat) (h : i < rows.length), ∃ ad A1 c1, A = some ad ∧ w.cell? (ad.add i) = some (.slice A1 rows[i].length c1) ∧ rows[i].length ≤ c1 ∧ Kd.string.C w A1 rows[i].length rows[i]
theorem RowsAt.below {w w' : World} {A : Option Addr} {rows : List (List ByteArray)} (h : RowsAt w A rows) (hb : Below w.heap.size w w') : RowsAt w' A rows := fun i hi => by
  obtain ⟨ad, A1, c1, e, h1, h2, h3⟩ := h i hi
  exact ⟨ad, A1, c1, e, pw_cell_below hb h1, h2, Kd.C_below h3 hb⟩
theorem rowsAt_own {w : World} {base n c : Nat} {A : Option Addr} {VL : List Value} {rows : List (List ByteArray)} {f : Nat → Nat} (h : w.ownsRow base 23 1 (.slice A n c) VL.length VL) (hr : LRows w base VL rows f) : n = rows.length ∧ RowsAt w A rows := by
  have hn : n = VL.length := by
    obtain ⟨A', c', e⟩ := own_slice h
    injection e
  refine ⟨hn.trans hr.len, fun i hi => ?_⟩
  obtain ⟨v, r, e1, e2, hs⟩ := hr.get hi
  obtain ⟨g, cap, hv, _, _⟩ := own_head h (by rw [hr.len]; omega)
  injection hv with e3 e4 e5
  subst e3 e5
  have hc := own_cell h e1
  rw [List.getElem?_eq_getElem hi] at e2
  cases e2
  obtain ⟨A1, c1, rfl, hl, hC⟩ := hs.reads
  exact ⟨_, A1, c1, rfl, by rw [Addr.add_lit, Nat.zero_add]; exact hc, hl, hC⟩
theorem rowsAt_C {w : World} {A : Option Addr} {rows : List (List ByteArray)} (h : (Kd.slice 9 Kd.string).C w A rows.length rows) : RowsAt w A rows := fun i hi => by
  obtain ⟨ad, A0, c0, e, h1, h2, h3⟩ := at_L1 h (i : Int) (by omega) (by omega)
  have er : rd_L1 rows (i : Int) = rows[i] := by simp [rd_L1, List.getD_eq_getElem?_getD, List.getElem?_eq_getElem hi]
  rw [er] at h1 h2 h3
  exact ⟨ad, A0, c0, e, by simpa using h1, h2, h3⟩

set_option maxHeartbeats 2000000 in
set_option maxRecDepth 100000 in
theorem plays_walk (w : World) (A0 : Option Addr) (c0 : Nat) (l0 : List S33) (h0 : k33.C w A0 l0.length l0) (hc0 : l0.length ≤ c0) (A1 : Option Addr) (c1 : Nat) (want : List ByteArray) (h1 : Kd.string.C w A1 want.length want) (hc1 : want.length ≤ c1)
    (A2 : Option Addr) (c2 : Nat) (hv : List ByteArray) (h2 : Kd.string.C w A2 hv.length hv) (hc2 : hv.length ≤ c2) (hN : l0.length ≤ 3000000) (hU : ∀ v ∈ l0, v.f1.length ≤ 3000000) (hW : want.length ≤ 3000000) (hH : hv.length ≤ 3000000)
    (r1 : List ByteArray) (r2 : ByteArray) (r3 : Int) (ho1 : order_Sort.f (l0.map conv) want hv = some (r1, r2, r3)) (k1 : Nat) (ho2 : quireref15_Sort.f k1 l0 want hv = some (r1, r2, r3)) (k : Nat) (hst : quireref01_SameTexts.f k r1 r1 = some true)
    (s : List ByteArray) (m : ByteArray) (e : Int) (hfit : Fit (l0.map conv) ((l0.map conv).map (·.f0)) []) (hs : order_Sort.f (l0.map conv) ((l0.map conv).map (·.f0)) [] = some (s, m, e)) (R : List (List ByteArray)) (x : Int) (hR : LevelsB (netOf (l0.map conv)) (R, x)) (k2 : Nat) (ho3 : quireref15_Levels.f k2 l0 = some (R, x))
    (hrows : ∀ r ∈ R, ∃ k, quireref01_SameTexts.f k r r = some true) (hRl : R.length ≤ 6000000) :
    Calls Try.prog 5 #[.slice A0 l0.length c0, .slice A1 want.length c1, .slice A2 hv.length c2] w fun e w' => e = .returned (.bool true) ∧ Below w.heap.size w w' := by
  have H0 := Aside0.mk h0
  have H1 := Aside0.mk h1
  have H2 := Aside0.mk h2
  have HU := Aside0.mk hU
  have HO1 := Aside0.mk ho1
  have HO2 := Aside0.mk ho2
  have HO3 := Aside0.mk ho3
  have HST := Aside0.mk hst
  have HC0 := Aside0.mk hc0
  have HC1 := Aside0.mk hc1
  have HC2 := Aside0.mk hc2
  have HFIT := Aside0.mk hfit
  have HS := Aside0.mk hs
  have HR := Aside0.mk hR
  have HROWS := Aside0.mk hrows
  clear h0 h1 h2 hU ho1 ho2 ho3 hst hc0 hc1 hc2 hfit hs hR hrows
  go_enter Try.func5, Try.ntmps5
  go_wp2_with fail
  refine (quirelaw15_awake.calls true _ awake_true).mono ?_
  rintro e w1 ⟨rfl, hb1⟩
  have HB1 := Aside0.mk hb1
  clear hb1
  go_wp2_with fail
  refine (quirelaw15_vocabs.calls A0 c0 l0 _ w1 (Kd.C_below H0.out HB1.out) HC0.out (vocabs_all hN HU.out)).mono ?_
  rintro e w2 ⟨v, rfl, hs, hb⟩
  obtain ⟨Av, cv, rfl, hlv, hCv⟩ := Kd.R_reads (Kd.S_R hs)
  have HB2 := Aside0.mk (below_step HB1.out hb)
  have HCV := Aside0.mk hCv
  have HLV := Aside0.mk hlv
  clear hs hb hCv hlv
  go_wp2_with fail
  refine (quirelaw15_own.calls A1 c1 want _ w2 (Kd.C_below H1.out HB2.out) HC1.out (own_all hW)).mono ?_
  rintro e w3 ⟨v, rfl, hs, hb⟩
  obtain ⟨Aw, cw, rfl, hlw, hCw⟩ := Kd.R_reads hs
  have HB3 := Aside0.mk (below_step HB2.out hb)
  have HCW := Aside0.mk hCw
  have HLW := Aside0.mk hlw
  have HCV3 := Aside0.mk (Kd.C_below HCV.out hb)
  clear hs hb hCw hlw HCV
  go_wp2_with fail
  refine (quirelaw15_own.calls A2 c2 hv _ w3 (Kd.C_below H2.out HB3.out) HC2.out (own_all hH)).mono ?_
  rintro e w4 ⟨v, rfl, hs, hb⟩
  obtain ⟨Ah, ch, rfl, hlh, hCh⟩ := Kd.R_reads hs
  have HB4 := Aside0.mk (below_step HB3.out hb)
  have HCH := Aside0.mk hCh
  have HLH := Aside0.mk hlh
  have HCV4 := Aside0.mk (Kd.C_below HCV3.out hb)
  have HCW4 := Aside0.mk (Kd.C_below HCW.out hb)
  clear hs hb hCh hlh HCV3 HCW
  go_wp2_with fail
  have hcall := order_Sort.calls Av cv (l0.map conv) Aw cw want Ah ch hv r1 r2 r3 w4 HCV4.out HLV.out HCW4.out HLW.out HCH.out HLH.out HO1.out
  rw [List.length_map] at hcall
  refine hcall.mono ?_
  clear hcall
  rintro e w5 ⟨v7, rfl, hs, hb⟩
  obtain ⟨A7, c7, rfl, hl7, hC7⟩ := Kd.R_reads hs
  have HB5 := Aside0.mk (below_step HB4.out hb)
  have HC7 := Aside0.mk hC7
  have HL7 := Aside0.mk hl7
  clear hs hb hC7 hl7 HCV4 HCW4 HCH HLV HLW HLH HO1 HB1 HB2 HB3 HB4
  go_wp2_with fail
  refine (quireref15_Sort.calls k1 A0 c0 l0 A1 c1 want A2 c2 hv r1 r2 r3 w5 (Kd.C_below H0.out HB5.out) HC0.out (Kd.C_below H1.out HB5.out) HC1.out (Kd.C_below H2.out HB5.out) HC2.out HO2.out).mono ?_
  rintro e w6 ⟨v8, rfl, hs, hb⟩
  obtain ⟨A8, c8, rfl, hl8, hC8⟩ := Kd.R_reads hs
  have HB6 := Aside0.mk (below_step HB5.out hb)
  have HC76 := Aside0.mk (Kd.C_below HC7.out hb)
  have HC8 := Aside0.mk hC8
  have HL8 := Aside0.mk hl8
  clear hs hb hC8 hl8 HC7 HO2 HB5
  go_wp2_with fail
  refine (quirelaw15_vocabs.calls A0 c0 l0 _ w6 (Kd.C_below H0.out HB6.out) HC0.out (vocabs_all hN HU.out)).mono ?_
  rintro e w7 ⟨v, rfl, hs, hb⟩
  obtain ⟨Av, cv, rfl, hlv, hCv⟩ := Kd.R_reads (Kd.S_R hs)
  have HB7 := Aside0.mk (below_step HB6.out hb)
  have HB67 := Aside0.mk hb
  have HCV := Aside0.mk hCv
  have HLV := Aside0.mk hlv
  clear hs hb hCv hlv HB6
  go_wp2_with fail
  have hcall := levels_walk w7 Av cv (l0.map conv) HCV.out HLV.out HFIT.out s m e HS.out
  rw [List.length_map] at hcall
  refine hcall.mono ?_
  clear hcall
  rintro e w8 ⟨vl, VL, R', x', f, rfl, hlev, hown, hlr, hb⟩
  obtain ⟨rfl, rfl⟩ : R' = R ∧ x' = x := by
    have := LevelsB.unique hlev HR.out
    exact ⟨congrArg Prod.fst this, congrArg Prod.snd this⟩
  obtain ⟨Al, cl, rfl⟩ := own_slice hown
  obtain ⟨hnl, hra⟩ := rowsAt_own hown hlr
  have HB8 := Aside0.mk (below_step HB7.out hb)
  have HB68 := Aside0.mk (below_step HB67.out hb)
  have HRA := Aside0.mk hra
  rw [hnl]
  clear hlev hown hlr hb hnl hra HCV HLV HB7 HB67 HS HFIT HR
  go_wp2_with fail
  refine (quireref15_Levels.calls k2 A0 c0 l0 R' x' w8 (Kd.C_below H0.out HB8.out) HC0.out HO3.out).mono ?_
  rintro e w9 ⟨vm, rfl, hs, hb⟩
  obtain ⟨Am, cm, rfl, hlm, hCm⟩ := Kd.R_reads (Kd.S_R hs)
  have HB9 := Aside0.mk (below_step HB8.out hb)
  have HRA9 := Aside0.mk (HRA.out.below hb)
  have HRM := Aside0.mk (rowsAt_C hCm)
  have HC79 := Aside0.mk (Kd.C_below HC76.out (below_step HB68.out hb))
  have HC89 := Aside0.mk (Kd.C_below HC8.out (below_step HB68.out hb))
  clear hs hb hCm hlm HRA HC76 HC8 HB8 HB68 HO3 H0 H1 H2
  go_wp2_with fail
  refine (quireref01_SameTexts.calls k A7 c7 r1 A8 c8 r1 true w9 HC79.out HL7.out HC89.out HL8.out HST.out).mono ?_
  rintro e w10 ⟨rfl, nd, rfl⟩
  have HB10 := Aside0.mk (pw_below_drewN HB9.out nd)
  have HRA10 := Aside0.mk (HRA9.out.below (pw_below_drewN (Below.refl _ _) nd))
  have HRM10 := Aside0.mk (HRM.out.below (pw_below_drewN (Below.refl _ _) nd))
  generalize w9.drewN nd = w10 at *
  clear HRA9 HRM HB9 HC79 HC89
  go_wp2_with fail
  go_loopg [17] (R'.length + 1) (fun kq v17 w' => ∃ i : Nat, v17 = .int .i64 (i : Int) ∧ Aside0 (i ≤ R'.length) ∧ Aside0 (kq + i = R'.length + 1) ∧ Aside0 (Below w10.heap.size w10 w'))
  case atStart => exact ⟨0, rfl, ⟨Nat.zero_le _⟩, ⟨by omega⟩, ⟨Below.refl _ _⟩⟩
  obtain ⟨i, rfl, HI, HK, HBE⟩ := hrel
  have hi := HI.out
  have hk := HK.out
  by_cases hlt : i < R'.length
  · have hz : decide ((i : Int) < (R'.length : Int)) = true := decide_eq_true (by omega)
    obtain ⟨kk, rfl⟩ : ∃ k1, gk = k1 + 1 := ⟨gk - 1, by omega⟩
    obtain ⟨ad, B1, d1, rfl, z0, hd1, hC1⟩ := HRA10.out.below HBE.out i hlt
    obtain ⟨ad2, B2, d2, rfl, z1, hd2, hC2⟩ := HRM10.out.below HBE.out i hlt
    obtain ⟨r, hr⟩ : ∃ r, r = R'[i] := ⟨_, rfl⟩
    rw [← hr] at z0 hd1 hC1 z1 hd2 hC2
    obtain ⟨kr, hkr⟩ := HROWS.out r (by rw [hr]; exact List.getElem_mem hlt)
    have hcall : ∀ W, Below wr.heap.size wr W → Calls Try.prog 12 #[.slice B1 r.length d1, .slice B2 r.length d2] W fun e w' => e = .returned (.bool true) ∧ Drawn0 W w' := fun W hb =>
      quireref01_SameTexts.calls kr B1 d1 r B2 d2 r true W (Kd.C_below hC1 hb) hd1 (Kd.C_below hC2 hb) hd2 hkr
    have HCALL := Aside0.mk hcall
    clear hr hkr hcall hC1 hC2 hd1 hd2 hi hk
    go_wp2_with fail
    go_quiet (first | (go_at_call 12; refine (HCALL.out _ (pw_below_drewN (Below.refl _ _) _)).mono ?_; rintro e w' ⟨rfl, ⟨nd, rfl⟩⟩; (try first | exact ⟨rfl, _, World.drewN_drewN _ _ _⟩ | exact ⟨rfl, _, Eq.trans (World.drewN_drewN _ _ _) (congrArg (World.drewN _) (Nat.add_assoc _ _ _))⟩)))
    go_wp2_with fail
    go_roundg kk
    case measure => have := HK.out; omega
    case rel => exact ⟨i + 1, by push_cast; rfl, ⟨by omega⟩, ⟨by have := HK.out; omega⟩, ⟨pw_below_drewN HBE.out _⟩⟩
  · have hz : decide ((i : Int) < (R'.length : Int)) = false := decide_eq_false (by omega)
    go_wp2_with fail
    go_ret
    exact ⟨rfl, below_step HB10.out HBE.out⟩

/-! ### The law -/
theorem fit_names {l : List S41} {want hv : List ByteArray} (hf : Fit l want hv) : Fit l (l.map (·.f0)) [] := by
  refine ⟨hf.tot_, ?_, by simp, hf.names, hf.uses, fun u hu => ?_, by simp⟩
  · have h1 := tot_ge (netOf l)
    have h2 : (netOf l).length = l.length := by simp [netOf]
    have h3 := hf.tot_
    rw [List.length_map]
    omega
  · obtain ⟨v, hv1, rfl⟩ := List.mem_map.1 hu
    exact hf.names v hv1
theorem levels_sizes {l : List S41} (hf : Fit l (l.map (·.f0)) []) {R : List (List ByteArray)} {x : Int} (h : LevelsB (netOf l) (R, x)) : R.length ≤ 6000000 ∧ ∀ r ∈ R, r.length ≤ 6000000 := by
  obtain ⟨s, m, e, hs, hx, hr⟩ := h
  have hsl : s.length ≤ 6000000 := by
    have hnm : (netOf l).map (·.1) = l.map (·.f0) := by rw [netOf, List.map_map]; rfl
    rw [hnm] at hs
    exact sorts_length hf hs
  rcases hr with ⟨_, h0⟩ | ⟨_, F, hL⟩
  · dsimp only at h0
    subst h0
    simp
  · dsimp only at hL
    constructor
    · have h1 : (List.range R.length).length ≤ (s.map F).length := subset_length List.nodup_range fun k hk => by
        have hk' := List.mem_range.1 hk
        obtain ⟨y, hy⟩ := List.exists_mem_of_ne_nil _ (hL.ne R[k] (List.getElem_mem hk'))
        have h2 := (hL.mem k _ (List.getElem?_eq_getElem hk') y).1 hy
        exact List.mem_map.2 ⟨y, h2.1, h2.2⟩
      simp at h1
      omega
    · intro r hr
      obtain ⟨k, hk⟩ := List.getElem?_of_mem hr
      have h1 : r.Nodup := (hL.ri r hr).imp fun {a b} hl e => by rw [e, totN.irr] at hl; cases hl
      have h2 := subset_length h1 fun y hy => ((hL.mem k r hk y).1 hy).1
      omega

theorem orderPlays_holds (w : World) (A0 : Option Addr) (c0 : Nat) (l0 : List S33) (h0 : k33.C w A0 l0.length l0) (hc0 : l0.length ≤ c0) (q0 : ∀ v ∈ l0, Okv v)
    (A1 : Option Addr) (c1 : Nat) (l1 : List ByteArray) (h1 : Kd.string.C w A1 l1.length l1) (hc1 : l1.length ≤ c1) (q1 : ∀ p ∈ l1, p.size ≤ maxLen)
    (A2 : Option Addr) (c2 : Nat) (l2 : List ByteArray) (h2 : Kd.string.C w A2 l2.length l2) (hc2 : l2.length ≤ c2) (q2 : ∀ p ∈ l2, p.size ≤ maxLen)
    (hB : (l0.map wtv).sum + (l1.map (fun p => p.size + 1)).sum + (l2.map (fun p => p.size + 1)).sum ≤ 1048576) :
    Calls Try.prog 5 #[.slice A0 l0.length c0, .slice A1 l1.length c1, .slice A2 l2.length c2] w fun e w' => e = .returned (.bool true) ∧ Below w.heap.size w w' := by
  have h3 := vocs_sum l0
  have h4 := Opens.strs_length l1
  have h5 := Opens.strs_length l2
  have hf := fit_of q0 q1 q2 hB
  have hnet : netOf (l0.map conv) = net33 l0 := netOf_conv l0
  have htot : tot (net33 l0) ≤ 3000000 := by rw [← hnet]; exact hf.tot_
  obtain ⟨⟨r1, r2, r3⟩, e2, hs⟩ := refSort_ev l0 l1 l2 htot hf.want_ hf.hv_
  dsimp only at hs
  rw [← hnet] at hs
  obtain ⟨k1, hk1⟩ := e2.rounds
  obtain ⟨⟨R, x⟩, e3, hR⟩ := refLevels_ev l0 htot
  obtain ⟨k2, hk2⟩ := e3.rounds
  rw [← hnet] at hR
  have hfit := fit_names hf
  have hsz := levels_sizes hfit hR
  obtain ⟨s, m, e, hs2, _⟩ := id hR
  have hnm : (netOf (l0.map conv)).map (·.1) = (l0.map conv).map (·.f0) := by rw [netOf, List.map_map]; rfl
  rw [hnm] at hs2
  obtain ⟨k, hk⟩ := (same_ev r1 (by have := sorts_length hf hs; omega)).rounds
  exact plays_walk w A0 c0 l0 h0 hc0 A1 c1 l1 h1 hc1 A2 c2 l2 h2 hc2 (by omega) (fun v hv1 => by have := h3.2.2 v hv1; omega) (by omega) (by omega) r1 r2 r3 (order_Sort.of hf hs) k1 hk1 k hk s m e hfit (order_Sort.of hfit hs2) R x hR k2 hk2
    (fun r hr => (same_ev r (by have := hsz.2 r hr; omega)).rounds) hsz.1
end Go.Proofs.Ytdllpgeagdckmaa.Q
