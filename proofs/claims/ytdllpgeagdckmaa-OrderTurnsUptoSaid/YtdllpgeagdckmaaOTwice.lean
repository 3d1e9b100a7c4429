/- order.twice: the least name that stands twice, or uses one twice. -/
import Derived.Test.YtdllpgeagdckmaaOIter
import Derived.Outline
import Derived.Maps.RangeWalk
namespace Go.Proofs.Ytdllpgeagdckmaa.Q
open Go.RowKit Go.Proofs.YtdllpgeagdckmaaW.PrintWords Go.Proofs.YtdllpgeagdckmaaW.PrintLast Go.Proofs.YtdllpgeagdckmaaW.PrintMore Go.Proofs.Ytdllpgeagdckmaa.MapKit Go.Maps Go.Proofs.Ytdllpgeagdckmaa.Ord
attribute [local go_sem] max2_int min2_int max_two min_two max_three min_three max_four min_four
set_option linter.unusedVariables false
set_option linter.unusedSimpArgs false

theorem dupUses_snoc (nm u : ByteArray) : ∀ (us s : List ByteArray), dupUses nm s (us ++ [u]) = dupUses nm s us ++ (if u ∈ s ++ us then [nm] else [])
  | [], s => by simp [dupUses]
  | a :: us, s => by
    rw [List.cons_append, dupUses, dupUses, dupUses_snoc nm u us, List.append_assoc, List.append_assoc]
    simp
theorem badsFrom_snoc (v : ByteArray × List ByteArray) : ∀ (l : Net ByteArray) (s : List ByteArray), badsFrom s (l ++ [v]) = badsFrom s l ++ ((if v.1 ∈ s ++ l.map (·.1) then [v.1] else []) ++ dupUses v.1 [] v.2)
  | [], s => by simp [badsFrom]
  | a :: l, s => by
    rw [List.cons_append, badsFrom, badsFrom, badsFrom_snoc v l, List.map_cons]
    simp only [List.append_assoc, List.cons_append, List.nil_append]
theorem dupUses_length (nm : ByteArray) : ∀ (us s : List ByteArray), (dupUses nm s us).length ≤ us.length
  | [], s => by simp [dupUses]
  | a :: us, s => by
    rw [dupUses, List.length_append, List.length_cons]
    have := dupUses_length nm us (s ++ [a])
    split <;> simp <;> omega
theorem badsFrom_length : ∀ (l : Net ByteArray) (s : List ByteArray), (badsFrom s l).length ≤ tot l
  | [], s => by simp [badsFrom]
  | a :: l, s => by
    rw [badsFrom, List.length_append, List.length_append, tot]
    have h1 := badsFrom_length l (s ++ [a.1])
    have h2 := dupUses_length a.1 a.2 []
    split <;> simp <;> omega
theorem tot_append : ∀ (l l' : Net ByteArray), tot (l ++ l') = tot l + tot l'
  | [], l' => by simp [tot]
  | a :: l, l' => by rw [List.cons_append, tot, tot, tot_append l l']; omega
theorem tot_take (l : Net ByteArray) (i : Nat) : tot (l.take i) ≤ tot l := by
  have := tot_append (l.take i) (l.drop i)
  rw [List.take_append_drop] at this
  omega
theorem tot_uses {l : Net ByteArray} {i : Nat} (h : i < l.length) : tot (l.take i) + 1 + (l[i]).2.length ≤ tot l := by
  have h1 := tot_append (l.take i) (l.drop i)
  rw [List.take_append_drop, List.drop_eq_getElem_cons h, tot] at h1
  omega

theorem tot_ge : ∀ l : Net ByteArray, l.length ≤ tot l
  | [] => Nat.le_refl _
  | a :: l => by
    have := tot_ge l
    rw [tot, List.length_cons]
    omega
/-- The i-th vocabulary's cells. -/
theorem vocab_at {w : World} {A : Option Addr} {l : List S41} (h : Kd.C k41 w A l.length l) (i : Nat) (hi : i < l.length) : ∃ ad A1 c1, A = some ad ∧ w.cell? (ad.add (i * 2)) = some (.string l[i].f0) ∧ w.cell? ⟨(ad.add (i * 2)).block, (ad.add (i * 2)).off + 1, none⟩ = some (.slice A1 l[i].f1.length c1) ∧ l[i].f1.length ≤ c1 ∧ Kd.string.C w A1 l[i].f1.length l[i].f1 := by
  obtain ⟨ad, A1, c1, e, h1, h2, h3, h4⟩ := at_T41 h (i : Int) (by omega) (by omega)
  have er : rd_T41 l (i : Int) = l[i] := by simp [rd_T41, List.getD_eq_getElem?_getD, List.getElem?_eq_getElem hi]
  rw [er] at h1 h2 h3 h4
  exact ⟨ad, A1, c1, e, by simpa using h1, by simpa using h2, h3, h4⟩
/-- The j-th name's cell. -/
theorem name_at {w : World} {A : Option Addr} {l : List ByteArray} (h : Kd.C Kd.string w A l.length l) (j : Nat) (hj : j < l.length) : ∃ ad, A = some ad ∧ w.cell? (ad.add j) = some (.string l[j]) := by
  obtain ⟨ad, e, h1⟩ := Kd.at_string h (j : Int) (by omega) (by omega)
  refine ⟨ad, e, ?_⟩
  have er : rdOf ByteArray.empty l (j : Int) = l[j] := by simp [rdOf, List.getD_eq_getElem?_getD, List.getElem?_eq_getElem hj]
  rw [er] at h1
  simpa using h1

def TwiceP (l : List S41) (w : World) (e : Ending) (w' : World) : Prop :=
  ((bads (netOf l) = [] ∧ e = .returned (.tuple #[.string ⟨#[]⟩, .bool false])) ∨ ∃ m, IsLeast ltN (· ∈ bads (netOf l)) m ∧ e = .returned (.tuple #[.string m, .bool true])) ∧ Below w.heap.size w w'

/-- What is known between two rounds. -/
structure TwRel (w w' : World) (g : Nat) (v5 : Value) (bad names : List ByteArray) (n : Nat) : Prop where
  row : SRow w' w.heap.size v5 bad
  set : SetIs w' g n names
  below : Below w.heap.size w w'

theorem TwRel.appended {w w2 w5 : World} {g : Nat} {v5 v5' : Value} {bad names : List ByteArray} {n : Nat} {x : ByteArray} (h : TwRel w w2 g v5 bad names n) (hr : SRow w5 w.heap.size v5' (bad ++ [x])) (hg : w2.grownBy w5 v5.ownBlock) : TwRel w w5 g v5' (bad ++ [x]) names n :=
  ⟨hr, h.set.kept hg (map_ne_row h.set h.row), pw_below_grown h.below _ h.below.size hg (h.row.base_le)⟩
theorem TwRel.alloc {w w2 : World} {g : Nat} {v5 : Value} {bad names : List ByteArray} {n : Nat} (h : TwRel w w2 g v5 bad names n) (o : Obj) : TwRel w (w2.alloc o) g v5 bad names n :=
  ⟨h.row.alloc o, h.set.below (below_alloc (Below.refl _ _) o), below_alloc h.below o⟩
theorem TwRel.put {w w2 w5 : World} {g : Nat} {v5 : Value} {bad names : List ByteArray} {n : Nat} {x : ByteArray} (h : TwRel w w2 g v5 bad names n) (hs : SetIs w5 g (n + 1) (names ++ [x])) (hg : w2.grownBy w5 (some g)) (hge : w.heap.size ≤ g) : TwRel w w5 g v5 bad (names ++ [x]) (n + 1) :=
  ⟨h.row.other hg (.inr (map_ne_row h.set h.row)), hs, pw_below_grown h.below _ h.below.size hg (fun k e => by cases e; exact hge)⟩
theorem TwRel.far {w w2 w5 : World} {g g8 : Nat} {v5 : Value} {bad names : List ByteArray} {n m : Nat} {S : List ByteArray} (h : TwRel w w2 g v5 bad names n) (hs : SetIs w2 g8 m S) (hg : w2.grownBy w5 (some g8)) (hne : g ≠ g8) (hge : w.heap.size ≤ g8) : TwRel w w5 g v5 bad names n :=
  ⟨h.row.other hg (.inr (map_ne_row hs h.row)), h.set.kept hg (fun e => hne (Option.some.inj e).symm), pw_below_grown h.below _ h.below.size hg (fun k e => by cases e; exact hge)⟩
theorem row_blk {w2 w5 : World} {base b t : Nat} {v : Value} {xs : List ByteArray} {cs : Array Value} (hr : SRow w2 base v xs) (hg : w2.grownBy w5 v.ownBlock) (hb : w2.heap[b]? = some (.cells cs t (0, 0))) (ht : t ≠ 9) : w5.heap[b]? = some (.cells cs t (0, 0)) :=
  blk_grown hb hg (fun e => by
    obtain ⟨cs', hc⟩ := own_typed hr b e.symm
    rw [hb] at hc
    simp at hc
    exact ht hc.2)

set_option maxHeartbeats 4000000 in
set_option maxRecDepth 100000 in
theorem twice_calls (w : World) (A : Option Addr) (c : Nat) (l : List S41) (hC : Kd.C k41 w A l.length l) (hc : l.length ≤ c) (htot : tot (netOf l) ≤ 3000000) (hnm : ∀ v ∈ l, v.f0.size ≤ maxLen) (hus : ∀ v ∈ l, ∀ u ∈ v.f1, u.size ≤ maxLen) :
    Calls Try.prog 17 #[.slice A l.length c] w (TwiceP l w) := by
  have HC := Aside0.mk hC
  have HNM := Aside0.mk hnm
  have HUS := Aside0.mk hus
  have HTOT := Aside0.mk htot
  clear hC hnm hus htot
  have hmm := @run_makeMap Try.prog
  go_enter Try.func17, Try.ntmps17
  go_upto_region 3 with fail
  have h0 : TwRel w (w.alloc (.map #[] 0)) w.heap.size (.slice none 0 0) [] [] 0 := ⟨SRow.nil _ _, SetIs.made w, below_alloc (Below.refl _ _) _⟩
  generalize w.alloc (.map #[] 0) = w1 at *
  obtain ⟨g, hg⟩ : ∃ g, g = w.heap.size := ⟨_, rfl⟩
  rw [← hg] at h0 ⊢
  have HG := Aside0.mk hg
  have H0 := Aside0.mk h0
  clear hg h0
  go_wp2
  go_loopg [5, 14] (l.length + 1) (fun kq v5 v14 w' => ∃ i : Nat, v14 = .int .i64 (i : Int) ∧ Aside0 (i ≤ l.length) ∧ Aside0 (kq + i = l.length + 1) ∧ Aside0 (TwRel w w' g v5 (badsFrom [] ((netOf l).take i)) (((netOf l).take i).map (·.1)) i))
  case atStart => exact ⟨0, rfl, ⟨Nat.zero_le _⟩, ⟨by omega⟩, H0⟩
  case round =>
    clear H0
    obtain ⟨i, rfl, HI, HK, HT⟩ := hrel
    have hi := HI.out
    have hk := HK.out
    by_cases hlt : i < l.length
    · have hz : decide ((i : Int) < (l.length : Int)) = true := decide_eq_true (by omega)
      obtain ⟨k1, rfl⟩ : ∃ k1, gk = k1 + 1 := ⟨gk - 1, by omega⟩
      have hT := HT.out
      obtain ⟨bad, hbad⟩ : ∃ x, x = badsFrom [] ((netOf l).take i) := ⟨_, rfl⟩
      obtain ⟨nm, hnm⟩ : ∃ x, x = ((netOf l).take i).map (·.1) := ⟨_, rfl⟩
      rw [← hbad, ← hnm] at hT
      have hbl : bad.length ≤ tot ((netOf l).take i) := by rw [hbad]; exact badsFrom_length _ _
      have HBAD := Aside0.mk hbad
      have HNMS := Aside0.mk hnm
      clear HT hbad hnm
      obtain ⟨Av, cv, rfl⟩ := hT.row.shape
      have HT := Aside0.mk hT
      clear hT
      obtain ⟨ad, A1, c1, rfl, z0, z1, hc1, hC1⟩ := vocab_at HC.out i hlt
      obtain ⟨v, hv⟩ : ∃ v, v = l[i] := ⟨_, rfl⟩
      rw [← hv] at z0 z1 hc1 hC1
      have x0 := pw_cell_below HT.out.below z0
      have x1 := pw_cell_below HT.out.below z1
      clear z0 z1
      have hmem : v ∈ l := by rw [hv]; exact List.getElem_mem hlt
      have hnet : (netOf l)[i]'(by simpa [netOf] using hlt) = (v.f0, v.f1) := by simp [netOf, hv]
      have hti : (netOf l).take (i + 1) = (netOf l).take i ++ [(v.f0, v.f1)] := by rw [List.take_succ_eq_append_getElem (by simpa [netOf] using hlt), hnet]
      have htu : tot ((netOf l).take i) + 1 + v.f1.length ≤ tot (netOf l) := by
        have := tot_uses (l := netOf l) (i := i) (by simpa [netOf] using hlt)
        rw [hnet] at this
        exact this
      have HN0 := Aside0.mk (HNM.out v hmem)
      have HU0 := Aside0.mk (HUS.out v hmem)
      have HTI := Aside0.mk hti
      have HTU := Aside0.mk htu
      have HC1 := Aside0.mk hC1
      have HCL := Aside0.mk hc1
      clear hmem hnet hti htu hC1 hc1 hv hi
      have HBL := Aside0.mk hbl
      have hil : i + 1 ≤ 3000000 := by
        have h1 := tot_ge (netOf l)
        have h2 : (netOf l).length = l.length := by simp [netOf]
        have := HTOT.out
        omega
      have HIL := Aside0.mk hil
      clear hbl
      go_upto_region 6 with fail
      have hT2 := HT.out.alloc (.cells #[.string v.f0, .slice A1 v.f1.length c1] 41)
      have hb7 : (wr.alloc (.cells #[.string v.f0, .slice A1 v.f1.length c1] 41)).heap[wr.heap.size]? = some (.cells #[.string v.f0, .slice A1 v.f1.length c1] 41 (0, 0)) := heap_alloc_new _ _
      generalize wr.alloc (.cells #[.string v.f0, .slice A1 v.f1.length c1] 41) = w2 at *
      obtain ⟨b7, hb7'⟩ : ∃ b7, b7 = wr.heap.size := ⟨_, rfl⟩
      rw [← hb7'] at hb7 ⊢
      clear hb7'
      have y0 : w2.cell? ⟨b7, 0, none⟩ = some (.string v.f0) := (blk_cell hb7 0).trans rfl
      have HT2 := Aside0.mk hT2
      have HB7 := Aside0.mk hb7
      clear hT2 hb7 x0 x1
      go_upto_if 21 with (at_lookup; refine set_look rfl _ _ rfl rfl HT2.out.set v.f0 rfl (HN0.out) ?_)
      go_frame
      go_cut [5] (fun v5 wx => Aside0 (∃ bad1, bad1 = bad ++ (if v.f0 ∈ nm then [v.f0] else []) ∧ TwRel w wx g v5 bad1 nm i ∧ wx.heap[b7]? = some (.cells #[.string v.f0, .slice A1 v.f1.length c1] 41 (0, 0))))
      case first =>
        by_cases hd : v.f0 ∈ nm
        · have hdb : decide (v.f0 ∈ nm) = true := decide_eq_true hd
          go_wp2_with ((with_reducible refine gate_builtin (b := .append) (xs := #[.tmp 22, .tmp 25]) rfl ?_); refine srow_append w.heap.size rfl (.tmp 22) (.tmp 25) rfl rfl v.f0 rfl HT2.out.row (by have := HBL.out; have := HTU.out; have := HTOT.out; omega) HT2.out.below.size ?_; intro A5 c5 w5 hr hg hat; have HR5 := Aside0.mk hr; have HG5 := Aside0.mk hg; clear hr hg hat)
          go_meet
          exact ⟨_, (by rw [if_pos hd]), HT2.out.appended HR5.out HG5.out, row_blk HT2.out.row HG5.out HB7.out (by decide)⟩
        · have hdb : decide (v.f0 ∈ nm) = false := decide_eq_false hd
          go_wp2
          go_meet
          exact ⟨bad, by rw [if_neg hd, List.append_nil], HT2.out, HB7.out⟩
      case rest =>
        obtain ⟨bad1, hb1, hT3, hb73⟩ := hcut.out
        have HBAD1 := Aside0.mk hb1
        have HT3 := Aside0.mk hT3
        have HB73 := Aside0.mk hb73
        have y0 : wc.cell? ⟨b7, 0, none⟩ = some (.string v.f0) := (blk_cell hb73 0).trans rfl
        clear hcut hb1 hT3 hb73
        go_upto_region 9 with (at_mapUpdate; refine set_put rfl _ _ _ rfl rfl HT3.out.set (by have := HIL.out; unfold maxLen; omega) v.f0 rfl rfl (HN0.out) ?_; intro w4 hs4 hg4; have HS4 := Aside0.mk hs4; have HG4 := Aside0.mk hg4; clear hs4 hg4)
        have hT5 : TwRel w (w4.alloc (.map #[] 0)) g u5 bad1 (nm ++ [v.f0]) (i + 1) := (HT3.out.put HS4.out HG4.out (by rw [HG.out]; exact Nat.le_refl _)).alloc _
        have hb75 : (w4.alloc (.map #[] 0)).heap[b7]? = some (.cells #[.string v.f0, .slice A1 v.f1.length c1] 41 (0, 0)) := blk_alloc (blk_grown HB73.out HG4.out (fun e => map_ne_cells HT3.out.set HB73.out (Option.some.inj e))) _
        have hs5 : SetIs (w4.alloc (.map #[] 0)) w4.heap.size 0 [] := SetIs.made w4
        go_upto_region 10 with fail
        generalize w4.alloc (.map #[] 0) = w5 at *
        obtain ⟨g8, hg8⟩ : ∃ g8, g8 = w4.heap.size := ⟨_, rfl⟩
        have hne8 : g ≠ g8 := by
          have := HS4.out.lt
          omega
        have hge8 : w.heap.size ≤ g8 := by
          have h1 := HT3.out.below.size
          have h2 := HG4.out.size
          omega
        rw [← hg8] at hs5 ⊢
        have HNE8 := Aside0.mk hne8
        have HGE8 := Aside0.mk hge8
        clear hg8 y0 hne8 hge8
        have HT5 := Aside0.mk hT5
        have HB75 := Aside0.mk hb75
        have HS5 := Aside0.mk hs5
        have y1 : w5.cell? ⟨b7, 1, none⟩ = some (.slice A1 v.f1.length c1) := (blk_cell hb75 1).trans rfl
        clear hT5 hb75 hs5
        go_wp2_with fail
        go_loopg [5, 34] (v.f1.length + 1) (fun kq v5 v34 w' => ∃ j : Nat, v34 = .int .i64 (j : Int) ∧ Aside0 (j ≤ v.f1.length) ∧ Aside0 (kq + j = v.f1.length + 1) ∧ Aside0 (TwRel w w' g v5 (bad1 ++ dupUses v.f0 [] (v.f1.take j)) (nm ++ [v.f0]) (i + 1)) ∧ Aside0 (SetIs w' g8 j (v.f1.take j)) ∧ Aside0 (w'.heap[b7]? = some (.cells #[.string v.f0, .slice A1 v.f1.length c1] 41 (0, 0))))
        case atStart => exact ⟨0, rfl, ⟨Nat.zero_le _⟩, ⟨by omega⟩, ⟨by simpa [dupUses] using HT5.out⟩, ⟨by simpa using HS5.out⟩, HB75⟩
        clear HT5 HS5 HB75 y1
        obtain ⟨j, rfl, HJ, HKJ, HTJ, HSJ, HBJ⟩ := hrel
        have hj := HJ.out
        have hkj := HKJ.out
        by_cases hltj : j < v.f1.length
        · have hzj : decide ((j : Int) < (v.f1.length : Int)) = true := decide_eq_true (by omega)
          obtain ⟨k2, rfl⟩ : ∃ k2, gk = k2 + 1 := ⟨gk - 1, by omega⟩
          have hTJ := HTJ.out
          obtain ⟨bad2, hbad2⟩ : ∃ x, x = bad1 ++ dupUses v.f0 [] (v.f1.take j) := ⟨_, rfl⟩
          rw [← hbad2] at hTJ
          obtain ⟨A5, c5, rfl⟩ := hTJ.row.shape
          obtain ⟨ad2, e2, z0⟩ := name_at (Kd.C_below HC1.out hTJ.below) j hltj
          subst e2
          obtain ⟨u, hu⟩ : ∃ u, u = v.f1[j] := ⟨_, rfl⟩
          rw [← hu] at z0
          have hut : v.f1.take (j + 1) = v.f1.take j ++ [u] := by rw [List.take_succ_eq_append_getElem hltj, ← hu]
          have hul : u.size ≤ maxLen := HU0.out u (by rw [hu]; exact List.getElem_mem hltj)
          have hbl2 : bad2.length ≤ 3000000 := by
            have h1 := dupUses_length v.f0 (v.f1.take j) []
            have h2 : (v.f1.take j).length ≤ v.f1.length := by simp; omega
            have h3 : bad1.length ≤ bad.length + 1 := by
              rw [HBAD1.out, List.length_append]
              split <;> simp
            have h4 := HBL.out
            have h5 := HTU.out
            have h6 := HTOT.out
            rw [hbad2, List.length_append]
            omega
          have hj2 : j + 1 ≤ 3000000 := by
            have h5 := HTU.out
            have h6 := HTOT.out
            omega
          have hsn := dupUses_snoc v.f0 u (v.f1.take j) []
          rw [List.nil_append] at hsn
          have HBAD2 := Aside0.mk hbad2
          have HT6 := Aside0.mk hTJ
          have HUT := Aside0.mk hut
          have HUL := Aside0.mk hul
          have HBL2 := Aside0.mk hbl2
          have HJ2 := Aside0.mk hj2
          have HSN := Aside0.mk hsn
          have y0 : wr.cell? ⟨b7, 0, none⟩ = some (.string v.f0) := (blk_cell HBJ.out 0).trans rfl
          clear HTJ hTJ hbad2 hut hul hbl2 hsn hu hj
          by_cases hd : u ∈ v.f1.take j
          · have hdb : decide (u ∈ v.f1.take j) = true := decide_eq_true hd
            go_wp2_with (first | (at_lookup; refine set_look rfl _ _ rfl rfl HSJ.out u rfl (HUL.out) ?_) | ((with_reducible refine gate_builtin (b := .append) (xs := #[.tmp 41, .tmp 44]) rfl ?_); refine srow_append w.heap.size rfl (.tmp 41) (.tmp 44) rfl rfl v.f0 rfl HT6.out.row (by have := HBL2.out; omega) HT6.out.below.size ?_; intro A6 c6 w6 hr hg hat; have HR6 := Aside0.mk hr; have HG6 := Aside0.mk hg; clear hr hg hat) | (at_mapUpdate; refine set_put rfl _ _ _ rfl rfl (HSJ.out.kept HG6.out (map_ne_row HSJ.out HT6.out.row)) (by have := HJ2.out; unfold maxLen; omega) u rfl rfl (HUL.out) ?_; intro w7 hs7 hg7; have HS7 := Aside0.mk hs7; have HG7 := Aside0.mk hg7; clear hs7 hg7))
            go_roundg k2
            case measure => omega
            case rel =>
              refine ⟨j + 1, by push_cast; rfl, ⟨by omega⟩, ⟨by omega⟩, ⟨?_⟩, ⟨by rw [HUT.out]; exact HS7.out⟩, ⟨?_⟩⟩
              · rw [HUT.out, HSN.out, if_pos hd, ← List.append_assoc, ← HBAD2.out]
                exact (HT6.out.appended HR6.out HG6.out).far (HSJ.out.kept HG6.out (map_ne_row HSJ.out HT6.out.row)) HG7.out HNE8.out HGE8.out
              · exact blk_grown (row_blk HT6.out.row HG6.out HBJ.out (by decide)) HG7.out (fun e => map_ne_cells (HSJ.out.kept HG6.out (map_ne_row HSJ.out HT6.out.row)) (row_blk HT6.out.row HG6.out HBJ.out (by decide)) (Option.some.inj e))
          · have hdb : decide (u ∈ v.f1.take j) = false := decide_eq_false hd
            go_wp2_with (first | (at_lookup; refine set_look rfl _ _ rfl rfl HSJ.out u rfl (HUL.out) ?_) | (at_mapUpdate; refine set_put rfl _ _ _ rfl rfl HSJ.out (by have := HJ2.out; unfold maxLen; omega) u rfl rfl (HUL.out) ?_; intro w7 hs7 hg7; have HS7 := Aside0.mk hs7; have HG7 := Aside0.mk hg7; clear hs7 hg7))
            go_roundg k2
            case measure => omega
            case rel =>
              refine ⟨j + 1, by push_cast; rfl, ⟨by omega⟩, ⟨by omega⟩, ⟨?_⟩, ⟨by rw [HUT.out]; exact HS7.out⟩, ⟨?_⟩⟩
              · rw [HUT.out, HSN.out, if_neg hd, List.append_nil, ← HBAD2.out]
                exact HT6.out.far HSJ.out HG7.out HNE8.out HGE8.out
              · exact blk_grown HBJ.out HG7.out (fun e => map_ne_cells HSJ.out HBJ.out (Option.some.inj e))
        · have hzj : decide ((j : Int) < (v.f1.length : Int)) = false := decide_eq_false (by omega)
          have hjl : j = v.f1.length := by omega
          have HTJ2 : Aside0 (TwRel w _ g _ (badsFrom [] ((netOf l).take (i + 1))) (((netOf l).take (i + 1)).map (·.1)) (i + 1)) := ⟨by
            have h1 := HTJ.out
            rw [hjl, List.take_length, HBAD1.out, HBAD.out, HNMS.out, List.append_assoc] at h1
            rw [HTI.out, badsFrom_snoc, List.map_append, List.nil_append]
            exact h1⟩
          clear HTJ hjl
          go_wp2_with fail
          go_roundg k1
          case measure => omega
          case rel => exact ⟨i + 1, by push_cast; rfl, ⟨by omega⟩, ⟨by omega⟩, HTJ2⟩
    · have hz : decide ((i : Int) < (l.length : Int)) = false := decide_eq_false (by omega)
      have hil : i = l.length := by omega
      have HT9 : Aside0 (TwRel w _ g _ (bads (netOf l)) _ i) := ⟨by
        have h1 := HT.out
        rw [List.take_of_length_le (by simp [netOf]; omega)] at h1
        exact h1⟩
      have hbl : (bads (netOf l)).length ≤ 3000000 := Nat.le_trans (badsFrom_length _ _) HTOT.out
      clear HT hil
      obtain ⟨bad, hbad⟩ : ∃ x, x = bads (netOf l) := ⟨_, rfl⟩
      rw [← hbad] at HT9 hbl
      have hT9 := HT9.out
      obtain ⟨A5, c5, rfl⟩ := hT9.row.shape
      obtain ⟨A6, c6, e6, hc6, hC6⟩ := hT9.row.reads
      simp only [Value.slice.injEq, true_and] at e6
      obtain ⟨rfl, rfl⟩ := e6
      have HBAD := Aside0.mk hbad
      have HC6 := Aside0.mk hC6
      have HBE := Aside0.mk hT9.below
      clear hT9 HT9 hC6 hbad hc6
      rcases Nat.eq_zero_or_pos bad.length with h0 | h0
      · have hb0 := List.eq_nil_of_length_eq_zero h0
        subst hb0
        go_wp2_with fail
        go_ret2
        exact ⟨.inl ⟨HBAD.out.symm, rfl⟩, HBE.out⟩
      · have hb0 : ((bad.length : Int) == 0) = false := by simp; intro e; subst e; simp at h0
        have HBL0 := Aside0.mk hbl
        clear hbl
        go_wp2_with (go_at_call 20; refine (min_names _ _ _ bad HC6.out (by have := HBL0.out; omega) h0).mono ?_; rintro e w' ⟨m, rfl, hm, rfl⟩; have HM := Aside0.mk hm; clear hm)
        go_ret2
        exact ⟨.inr ⟨m, by rw [← HBAD.out]; exact HM.out, rfl⟩, HBE.out⟩
end Go.Proofs.Ytdllpgeagdckmaa.Q
