/- Put together out of the texts OTwice, OOf, OWanted, OCircle, ONetSort, OSort, OExist, OLevTheory, OLevSpec: what each proves stands at its head. -/
import Derived.Test.YtdllpgeagdckmaaPM1
import Derived.Outline
import Derived.Maps.RangeWalk
import Derived.StillTailTactics

/- order.twice: the least name that stands twice, or uses one twice. -/
namespace Go.Proofs.Ytdllpgeagdckmaa.Q
open Go.RowKit Go.Proofs.YtdllpgeagdckmaaW.PrintWords Go.Proofs.YtdllpgeagdckmaaW.PrintLast Go.Proofs.YtdllpgeagdckmaaW.PrintMore Go.Proofs.Ytdllpgeagdckmaa.MapKit Go.Maps Go.Proofs.Ytdllpgeagdckmaa.Ord
attribute [local go_sem] max2_int min2_int max_two min_two max_three min_three max_four min_four
set_option linter.unusedVariables false
set_option linter.unusedSimpArgs false

theorem dupUses_snoc (nm u : ByteArray) : ∀ (us s : List ByteArray), dupUses nm s (us ++ [u]) = dupUses nm s us ++ (if u ∈ s ++ us then [nm] else [])
  | [], s => by simp [dupUses]
  | a :: us, s => by
    rw [List.cons_append, dupUses, dupUses, dupUses_snoc nm u us, List.append_assoc, List.append_assoc]
    simp
theorem badsFrom_snoc (v : ByteArray × List ByteArray) : ∀ (l : Net ByteArray) (s : List ByteArray), badsFrom s (l ++ [v]) = badsFrom s l ++ ((if v.1 ∈ s ++ l.map (·.1) then [v.1] else []) ++ dupUses v.1 [] v.2)
  | [], s => by simp [badsFrom]
  | a :: l, s => by
    rw [List.cons_append, badsFrom, badsFrom, badsFrom_snoc v l, List.map_cons]
    simp only [List.append_assoc, List.cons_append, List.nil_append]
theorem dupUses_length (nm : ByteArray) : ∀ (us s : List ByteArray), (dupUses nm s us).length ≤ us.length
  | [], s => by simp [dupUses]
  | a :: us, s => by
    rw [dupUses, List.length_append, List.length_cons]
    have := dupUses_length nm us (s ++ [a])
    split <;> simp <;> omega
theorem badsFrom_length : ∀ (l : Net ByteArray) (s : List ByteArray), (badsFrom s l).length ≤ tot l
  | [], s => by simp [badsFrom]
  | a :: l, s => by
    rw [badsFrom, List.length_append, List.length_append, tot]
    have h1 := badsFrom_length l (s ++ [a.1])
    have h2 := dupUses_length a.1 a.2 []
    split <;> simp <;> omega
theorem tot_append : ∀ (l l' : Net ByteArray), tot (l ++ l') = tot l + tot l'
  | [], l' => by simp [tot]
  | a :: l, l' => by rw [List.cons_append, tot, tot, tot_append l l']; omega
theorem tot_take (l : Net ByteArray) (i : Nat) : tot (l.take i) ≤ tot l := by
  have := tot_append (l.take i) (l.drop i)
  rw [List.take_append_drop] at this
  omega
theorem tot_uses {l : Net ByteArray} {i : Nat} (h : i < l.length) : tot (l.take i) + 1 + (l[i]).2.length ≤ tot l := by
  have h1 := tot_append (l.take i) (l.drop i)
  rw [List.take_append_drop, List.drop_eq_getElem_cons h, tot] at h1
  omega

theorem tot_ge : ∀ l : Net ByteArray, l.length ≤ tot l
  | [] => Nat.le_refl _
  | a :: l => by
    have := tot_ge l
    rw [tot, List.length_cons]
    omega
/-- The i-th vocabulary's cells. -/
theorem vocab_at {w : World} {A : Option Addr} {l : List S41} (h : Kd.C k41 w A l.length l) (i : Nat) (hi : i < l.length) : ∃ ad A1 c1, A = some ad ∧ w.cell? (ad.add (i * 2)) = some (.string l[i].f0) ∧ w.cell? ⟨(ad.add (i * 2)).block, (ad.add (i * 2)).off + 1, none⟩ = some (.slice A1 l[i].f1.length c1) ∧ l[i].f1.length ≤ c1 ∧ Kd.string.C w A1 l[i].f1.length l[i].f1 := by
  obtain ⟨ad, A1, c1, e, h1, h2, h3, h4⟩ := at_T41 h (i : Int) (by omega) (by omega)
  have er : rd_T41 l (i : Int) = l[i] := by simp [rd_T41, List.getD_eq_getElem?_getD, List.getElem?_eq_getElem hi]
  rw [er] at h1 h2 h3 h4
  exact ⟨ad, A1, c1, e, by simpa using h1, by simpa using h2, h3, h4⟩
/-- The j-th name's cell. -/
theorem name_at {w : World} {A : Option Addr} {l : List ByteArray} (h : Kd.C Kd.string w A l.length l) (j : Nat) (hj : j < l.length) : ∃ ad, A = some ad ∧ w.cell? (ad.add j) = some (.string l[j]) := by
  obtain ⟨ad, e, h1⟩ := Kd.at_string h (j : Int) (by omega) (by omega)
  refine ⟨ad, e, ?_⟩
  have er : rdOf ByteArray.empty l (j : Int) = l[j] := by simp [rdOf, List.getD_eq_getElem?_getD, List.getElem?_eq_getElem hj]
  rw [er] at h1
  simpa using h1

def TwiceP (l : List S41) (w : World) (e : Ending) (w' : World) : Prop :=
  ((bads (netOf l) = [] ∧ e = .returned (.tuple #[.string ⟨#[]⟩, .bool false])) ∨ ∃ m, IsLeast ltN (· ∈ bads (netOf l)) m ∧ e = .returned (.tuple #[.string m, .bool true])) ∧ Below w.heap.size w w'

/-- What is known between two rounds. -/
structure TwRel (w w' : World) (g : Nat) (v5 : Value) (bad names : List ByteArray) (n : Nat) : Prop where
  row : SRow w' w.heap.size v5 bad
  set : SetIs w' g n names
  below : Below w.heap.size w w'

theorem TwRel.appended {w w2 w5 : World} {g : Nat} {v5 v5' : Value} {bad names : List ByteArray} {n : Nat} {x : ByteArray} (h : TwRel w w2 g v5 bad names n) (hr : SRow w5 w.heap.size v5' (bad ++ [x])) (hg : w2.grownBy w5 v5.ownBlock) : TwRel w w5 g v5' (bad ++ [x]) names n :=
  ⟨hr, h.set.kept hg (map_ne_row h.set h.row), pw_below_grown h.below _ h.below.size hg (h.row.base_le)⟩
theorem TwRel.alloc {w w2 : World} {g : Nat} {v5 : Value} {bad names : List ByteArray} {n : Nat} (h : TwRel w w2 g v5 bad names n) (o : Obj) : TwRel w (w2.alloc o) g v5 bad names n :=
  ⟨h.row.alloc o, h.set.below (below_alloc (Below.refl _ _) o), below_alloc h.below o⟩
theorem TwRel.put {w w2 w5 : World} {g : Nat} {v5 : Value} {bad names : List ByteArray} {n : Nat} {x : ByteArray} (h : TwRel w w2 g v5 bad names n) (hs : SetIs w5 g (n + 1) (names ++ [x])) (hg : w2.grownBy w5 (some g)) (hge : w.heap.size ≤ g) : TwRel w w5 g v5 bad (names ++ [x]) (n + 1) :=
  ⟨h.row.other hg (.inr (map_ne_row h.set h.row)), hs, pw_below_grown h.below _ h.below.size hg (fun k e => by cases e; exact hge)⟩
theorem TwRel.far {w w2 w5 : World} {g g8 : Nat} {v5 : Value} {bad names : List ByteArray} {n m : Nat} {S : List ByteArray} (h : TwRel w w2 g v5 bad names n) (hs : SetIs w2 g8 m S) (hg : w2.grownBy w5 (some g8)) (hne : g ≠ g8) (hge : w.heap.size ≤ g8) : TwRel w w5 g v5 bad names n :=
  ⟨h.row.other hg (.inr (map_ne_row hs h.row)), h.set.kept hg (fun e => hne (Option.some.inj e).symm), pw_below_grown h.below _ h.below.size hg (fun k e => by cases e; exact hge)⟩
theorem row_blk {w2 w5 : World} {base b t : Nat} {v : Value} {xs : List ByteArray} {cs : Array Value} (hr : SRow w2 base v xs) (hg : w2.grownBy w5 v.ownBlock) (hb : w2.heap[b]? = some (.cells cs t (0, 0))) (ht : t ≠ 9) : w5.heap[b]? = some (.cells cs t (0, 0)) :=
  blk_grown hb hg (fun e => by
    obtain ⟨cs', hc⟩ := own_typed hr b e.symm
    rw [hb] at hc
    simp at hc
    exact ht hc.2)

set_option maxHeartbeats 4000000 in
set_option maxRecDepth 100000 in
theorem twice_calls (w : World) (A : Option Addr) (c : Nat) (l : List S41) (hC : Kd.C k41 w A l.length l) (hc : l.length ≤ c) (htot : tot (netOf l) ≤ 3000000) (hnm : ∀ v ∈ l, v.f0.size ≤ maxLen) (hus : ∀ v ∈ l, ∀ u ∈ v.f1, u.size ≤ maxLen) :
    Calls Try.prog 17 #[.slice A l.length c] w (TwiceP l w) := by
  have HC := Aside0.mk hC
  have HNM := Aside0.mk hnm
  have HUS := Aside0.mk hus
  have HTOT := Aside0.mk htot
  clear hC hnm hus htot
  have hmm := @run_makeMap Try.prog
  go_enter Try.func17, Try.ntmps17
  go_upto_region 3 with fail
  have h0 : TwRel w (w.alloc (.map #[] 0)) w.heap.size (.slice none 0 0) [] [] 0 := ⟨SRow.nil _ _, SetIs.made w, below_alloc (Below.refl _ _) _⟩
  generalize w.alloc (.map #[] 0) = w1 at *
  obtain ⟨g, hg⟩ : ∃ g, g = w.heap.size := ⟨_, rfl⟩
  rw [← hg] at h0 ⊢
  have HG := Aside0.mk hg
  have H0 := Aside0.mk h0
  clear hg h0
  go_wp2
  go_loopg [5, 14] (l.length + 1) (fun kq v5 v14 w' => ∃ i : Nat, v14 = .int .i64 (i : Int) ∧ Aside0 (i ≤ l.length) ∧ Aside0 (kq + i = l.length + 1) ∧ Aside0 (TwRel w w' g v5 (badsFrom [] ((netOf l).take i)) (((netOf l).take i).map (·.1)) i))
  case atStart => exact ⟨0, rfl, ⟨Nat.zero_le _⟩, ⟨by omega⟩, H0⟩
  case round =>
    clear H0
    obtain ⟨i, rfl, HI, HK, HT⟩ := hrel
    have hi := HI.out
    have hk := HK.out
    by_cases hlt : i < l.length
    · have hz : decide ((i : Int) < (l.length : Int)) = true := decide_eq_true (by omega)
      obtain ⟨k1, rfl⟩ : ∃ k1, gk = k1 + 1 := ⟨gk - 1, by omega⟩
      have hT := HT.out
      obtain ⟨bad, hbad⟩ : ∃ x, x = badsFrom [] ((netOf l).take i) := ⟨_, rfl⟩
      obtain ⟨nm, hnm⟩ : ∃ x, x = ((netOf l).take i).map (·.1) := ⟨_, rfl⟩
      rw [← hbad, ← hnm] at hT
      have hbl : bad.length ≤ tot ((netOf l).take i) := by rw [hbad]; exact badsFrom_length _ _
      have HBAD := Aside0.mk hbad
      have HNMS := Aside0.mk hnm
      clear HT hbad hnm
      obtain ⟨Av, cv, rfl⟩ := hT.row.shape
      have HT := Aside0.mk hT
      clear hT
      obtain ⟨ad, A1, c1, rfl, z0, z1, hc1, hC1⟩ := vocab_at HC.out i hlt
      obtain ⟨v, hv⟩ : ∃ v, v = l[i] := ⟨_, rfl⟩
      rw [← hv] at z0 z1 hc1 hC1
      have x0 := pw_cell_below HT.out.below z0
      have x1 := pw_cell_below HT.out.below z1
      clear z0 z1
      have hmem : v ∈ l := by rw [hv]; exact List.getElem_mem hlt
      have hnet : (netOf l)[i]'(by simpa [netOf] using hlt) = (v.f0, v.f1) := by simp [netOf, hv]
      have hti : (netOf l).take (i + 1) = (netOf l).take i ++ [(v.f0, v.f1)] := by rw [List.take_succ_eq_append_getElem (by simpa [netOf] using hlt), hnet]
      have htu : tot ((netOf l).take i) + 1 + v.f1.length ≤ tot (netOf l) := by
        have := tot_uses (l := netOf l) (i := i) (by simpa [netOf] using hlt)
        rw [hnet] at this
        exact this
      have HN0 := Aside0.mk (HNM.out v hmem)
      have HU0 := Aside0.mk (HUS.out v hmem)
      have HTI := Aside0.mk hti
      have HTU := Aside0.mk htu
      have HC1 := Aside0.mk hC1
      have HCL := Aside0.mk hc1
      clear hmem hnet hti htu hC1 hc1 hv hi
      have HBL := Aside0.mk hbl
      have hil : i + 1 ≤ 3000000 := by
        have h1 := tot_ge (netOf l)
        have h2 : (netOf l).length = l.length := by simp [netOf]
        have := HTOT.out
        omega
      have HIL := Aside0.mk hil
      clear hbl
      go_upto_region 6 with fail
      have hT2 := HT.out.alloc (.cells #[.string v.f0, .slice A1 v.f1.length c1] 41)
      have hb7 : (wr.alloc (.cells #[.string v.f0, .slice A1 v.f1.length c1] 41)).heap[wr.heap.size]? = some (.cells #[.string v.f0, .slice A1 v.f1.length c1] 41 (0, 0)) := heap_alloc_new _ _
      generalize wr.alloc (.cells #[.string v.f0, .slice A1 v.f1.length c1] 41) = w2 at *
      obtain ⟨b7, hb7'⟩ : ∃ b7, b7 = wr.heap.size := ⟨_, rfl⟩
      rw [← hb7'] at hb7 ⊢
      clear hb7'
      have y0 : w2.cell? ⟨b7, 0, none⟩ = some (.string v.f0) := (blk_cell hb7 0).trans rfl
      have HT2 := Aside0.mk hT2
      have HB7 := Aside0.mk hb7
      clear hT2 hb7 x0 x1
      go_upto_if 21 with (at_lookup; refine set_look rfl _ _ rfl rfl HT2.out.set v.f0 rfl (HN0.out) ?_)
      go_frame
      go_cut [5] (fun v5 wx => Aside0 (∃ bad1, bad1 = bad ++ (if v.f0 ∈ nm then [v.f0] else []) ∧ TwRel w wx g v5 bad1 nm i ∧ wx.heap[b7]? = some (.cells #[.string v.f0, .slice A1 v.f1.length c1] 41 (0, 0))))
      case first =>
        by_cases hd : v.f0 ∈ nm
        · have hdb : decide (v.f0 ∈ nm) = true := decide_eq_true hd
          go_wp2_with ((with_reducible refine gate_builtin (b := .append) (xs := #[.tmp 22, .tmp 25]) rfl ?_); refine srow_append w.heap.size rfl (.tmp 22) (.tmp 25) rfl rfl v.f0 rfl HT2.out.row (by have := HBL.out; have := HTU.out; have := HTOT.out; omega) HT2.out.below.size ?_; intro A5 c5 w5 hr hg hat; have HR5 := Aside0.mk hr; have HG5 := Aside0.mk hg; clear hr hg hat)
          go_meet
          exact ⟨_, (by rw [if_pos hd]), HT2.out.appended HR5.out HG5.out, row_blk HT2.out.row HG5.out HB7.out (by decide)⟩
        · have hdb : decide (v.f0 ∈ nm) = false := decide_eq_false hd
          go_wp2
          go_meet
          exact ⟨bad, by rw [if_neg hd, List.append_nil], HT2.out, HB7.out⟩
      case rest =>
        obtain ⟨bad1, hb1, hT3, hb73⟩ := hcut.out
        have HBAD1 := Aside0.mk hb1
        have HT3 := Aside0.mk hT3
        have HB73 := Aside0.mk hb73
        have y0 : wc.cell? ⟨b7, 0, none⟩ = some (.string v.f0) := (blk_cell hb73 0).trans rfl
        clear hcut hb1 hT3 hb73
        go_upto_region 9 with (at_mapUpdate; refine set_put rfl _ _ _ rfl rfl HT3.out.set (by have := HIL.out; unfold maxLen; omega) v.f0 rfl rfl (HN0.out) ?_; intro w4 hs4 hg4; have HS4 := Aside0.mk hs4; have HG4 := Aside0.mk hg4; clear hs4 hg4)
        have hT5 : TwRel w (w4.alloc (.map #[] 0)) g u5 bad1 (nm ++ [v.f0]) (i + 1) := (HT3.out.put HS4.out HG4.out (by rw [HG.out]; exact Nat.le_refl _)).alloc _
        have hb75 : (w4.alloc (.map #[] 0)).heap[b7]? = some (.cells #[.string v.f0, .slice A1 v.f1.length c1] 41 (0, 0)) := blk_alloc (blk_grown HB73.out HG4.out (fun e => map_ne_cells HT3.out.set HB73.out (Option.some.inj e))) _
        have hs5 : SetIs (w4.alloc (.map #[] 0)) w4.heap.size 0 [] := SetIs.made w4
        go_upto_region 10 with fail
        generalize w4.alloc (.map #[] 0) = w5 at *
        obtain ⟨g8, hg8⟩ : ∃ g8, g8 = w4.heap.size := ⟨_, rfl⟩
        have hne8 : g ≠ g8 := by
          have := HS4.out.lt
          omega
        have hge8 : w.heap.size ≤ g8 := by
          have h1 := HT3.out.below.size
          have h2 := HG4.out.size
          omega
        rw [← hg8] at hs5 ⊢
        have HNE8 := Aside0.mk hne8
        have HGE8 := Aside0.mk hge8
        clear hg8 y0 hne8 hge8
        have HT5 := Aside0.mk hT5
        have HB75 := Aside0.mk hb75
        have HS5 := Aside0.mk hs5
        have y1 : w5.cell? ⟨b7, 1, none⟩ = some (.slice A1 v.f1.length c1) := (blk_cell hb75 1).trans rfl
        clear hT5 hb75 hs5
        go_wp2_with fail
        go_loopg [5, 34] (v.f1.length + 1) (fun kq v5 v34 w' => ∃ j : Nat, v34 = .int .i64 (j : Int) ∧ Aside0 (j ≤ v.f1.length) ∧ Aside0 (kq + j = v.f1.length + 1) ∧ Aside0 (TwRel w w' g v5 (bad1 ++ dupUses v.f0 [] (v.f1.take j)) (nm ++ [v.f0]) (i + 1)) ∧ Aside0 (SetIs w' g8 j (v.f1.take j)) ∧ Aside0 (w'.heap[b7]? = some (.cells #[.string v.f0, .slice A1 v.f1.length c1] 41 (0, 0))))
        case atStart => exact ⟨0, rfl, ⟨Nat.zero_le _⟩, ⟨by omega⟩, ⟨by simpa [dupUses] using HT5.out⟩, ⟨by simpa using HS5.out⟩, HB75⟩
        clear HT5 HS5 HB75 y1
        obtain ⟨j, rfl, HJ, HKJ, HTJ, HSJ, HBJ⟩ := hrel
        have hj := HJ.out
        have hkj := HKJ.out
        by_cases hltj : j < v.f1.length
        · have hzj : decide ((j : Int) < (v.f1.length : Int)) = true := decide_eq_true (by omega)
          obtain ⟨k2, rfl⟩ : ∃ k2, gk = k2 + 1 := ⟨gk - 1, by omega⟩
          have hTJ := HTJ.out
          obtain ⟨bad2, hbad2⟩ : ∃ x, x = bad1 ++ dupUses v.f0 [] (v.f1.take j) := ⟨_, rfl⟩
          rw [← hbad2] at hTJ
          obtain ⟨A5, c5, rfl⟩ := hTJ.row.shape
          obtain ⟨ad2, e2, z0⟩ := name_at (Kd.C_below HC1.out hTJ.below) j hltj
          subst e2
          obtain ⟨u, hu⟩ : ∃ u, u = v.f1[j] := ⟨_, rfl⟩
          rw [← hu] at z0
          have hut : v.f1.take (j + 1) = v.f1.take j ++ [u] := by rw [List.take_succ_eq_append_getElem hltj, ← hu]
          have hul : u.size ≤ maxLen := HU0.out u (by rw [hu]; exact List.getElem_mem hltj)
          have hbl2 : bad2.length ≤ 3000000 := by
            have h1 := dupUses_length v.f0 (v.f1.take j) []
            have h2 : (v.f1.take j).length ≤ v.f1.length := by simp; omega
            have h3 : bad1.length ≤ bad.length + 1 := by
              rw [HBAD1.out, List.length_append]
              split <;> simp
            have h4 := HBL.out
            have h5 := HTU.out
            have h6 := HTOT.out
            rw [hbad2, List.length_append]
            omega
          have hj2 : j + 1 ≤ 3000000 := by
            have h5 := HTU.out
            have h6 := HTOT.out
            omega
          have hsn := dupUses_snoc v.f0 u (v.f1.take j) []
          rw [List.nil_append] at hsn
          have HBAD2 := Aside0.mk hbad2
          have HT6 := Aside0.mk hTJ
          have HUT := Aside0.mk hut
          have HUL := Aside0.mk hul
          have HBL2 := Aside0.mk hbl2
          have HJ2 := Aside0.mk hj2
          have HSN := Aside0.mk hsn
          have y0 : wr.cell? ⟨b7, 0, none⟩ = some (.string v.f0) := (blk_cell HBJ.out 0).trans rfl
          clear HTJ hTJ hbad2 hut hul hbl2 hsn hu hj
          by_cases hd : u ∈ v.f1.take j
          · have hdb : decide (u ∈ v.f1.take j) = true := decide_eq_true hd
            go_wp2_with (first | (at_lookup; refine set_look rfl _ _ rfl rfl HSJ.out u rfl (HUL.out) ?_) | ((with_reducible refine gate_builtin (b := .append) (xs := #[.tmp 41, .tmp 44]) rfl ?_); refine srow_append w.heap.size rfl (.tmp 41) (.tmp 44) rfl rfl v.f0 rfl HT6.out.row (by have := HBL2.out; omega) HT6.out.below.size ?_; intro A6 c6 w6 hr hg hat; have HR6 := Aside0.mk hr; have HG6 := Aside0.mk hg; clear hr hg hat) | (at_mapUpdate; refine set_put rfl _ _ _ rfl rfl (HSJ.out.kept HG6.out (map_ne_row HSJ.out HT6.out.row)) (by have := HJ2.out; unfold maxLen; omega) u rfl rfl (HUL.out) ?_; intro w7 hs7 hg7; have HS7 := Aside0.mk hs7; have HG7 := Aside0.mk hg7; clear hs7 hg7))
            go_roundg k2
            case measure => omega
            case rel =>
              refine ⟨j + 1, by push_cast; rfl, ⟨by omega⟩, ⟨by omega⟩, ⟨?_⟩, ⟨by rw [HUT.out]; exact HS7.out⟩, ⟨?_⟩⟩
              · rw [HUT.out, HSN.out, if_pos hd, ← List.append_assoc, ← HBAD2.out]
                exact (HT6.out.appended HR6.out HG6.out).far (HSJ.out.kept HG6.out (map_ne_row HSJ.out HT6.out.row)) HG7.out HNE8.out HGE8.out
              · exact blk_grown (row_blk HT6.out.row HG6.out HBJ.out (by decide)) HG7.out (fun e => map_ne_cells (HSJ.out.kept HG6.out (map_ne_row HSJ.out HT6.out.row)) (row_blk HT6.out.row HG6.out HBJ.out (by decide)) (Option.some.inj e))
          · have hdb : decide (u ∈ v.f1.take j) = false := decide_eq_false hd
            go_wp2_with (first | (at_lookup; refine set_look rfl _ _ rfl rfl HSJ.out u rfl (HUL.out) ?_) | (at_mapUpdate; refine set_put rfl _ _ _ rfl rfl HSJ.out (by have := HJ2.out; unfold maxLen; omega) u rfl rfl (HUL.out) ?_; intro w7 hs7 hg7; have HS7 := Aside0.mk hs7; have HG7 := Aside0.mk hg7; clear hs7 hg7))
            go_roundg k2
            case measure => omega
            case rel =>
              refine ⟨j + 1, by push_cast; rfl, ⟨by omega⟩, ⟨by omega⟩, ⟨?_⟩, ⟨by rw [HUT.out]; exact HS7.out⟩, ⟨?_⟩⟩
              · rw [HUT.out, HSN.out, if_neg hd, List.append_nil, ← HBAD2.out]
                exact HT6.out.far HSJ.out HG7.out HNE8.out HGE8.out
              · exact blk_grown HBJ.out HG7.out (fun e => map_ne_cells HSJ.out HBJ.out (Option.some.inj e))
        · have hzj : decide ((j : Int) < (v.f1.length : Int)) = false := decide_eq_false (by omega)
          have hjl : j = v.f1.length := by omega
          have HTJ2 : Aside0 (TwRel w _ g _ (badsFrom [] ((netOf l).take (i + 1))) (((netOf l).take (i + 1)).map (·.1)) (i + 1)) := ⟨by
            have h1 := HTJ.out
            rw [hjl, List.take_length, HBAD1.out, HBAD.out, HNMS.out, List.append_assoc] at h1
            rw [HTI.out, badsFrom_snoc, List.map_append, List.nil_append]
            exact h1⟩
          clear HTJ hjl
          go_wp2_with fail
          go_roundg k1
          case measure => omega
          case rel => exact ⟨i + 1, by push_cast; rfl, ⟨by omega⟩, ⟨by omega⟩, HTJ2⟩
    · have hz : decide ((i : Int) < (l.length : Int)) = false := decide_eq_false (by omega)
      have hil : i = l.length := by omega
      have HT9 : Aside0 (TwRel w _ g _ (bads (netOf l)) _ i) := ⟨by
        have h1 := HT.out
        rw [List.take_of_length_le (by simp [netOf]; omega)] at h1
        exact h1⟩
      have hbl : (bads (netOf l)).length ≤ 3000000 := Nat.le_trans (badsFrom_length _ _) HTOT.out
      clear HT hil
      obtain ⟨bad, hbad⟩ : ∃ x, x = bads (netOf l) := ⟨_, rfl⟩
      rw [← hbad] at HT9 hbl
      have hT9 := HT9.out
      obtain ⟨A5, c5, rfl⟩ := hT9.row.shape
      obtain ⟨A6, c6, e6, hc6, hC6⟩ := hT9.row.reads
      simp only [Value.slice.injEq, true_and] at e6
      obtain ⟨rfl, rfl⟩ := e6
      have HBAD := Aside0.mk hbad
      have HC6 := Aside0.mk hC6
      have HBE := Aside0.mk hT9.below
      clear hT9 HT9 hC6 hbad hc6
      rcases Nat.eq_zero_or_pos bad.length with h0 | h0
      · have hb0 := List.eq_nil_of_length_eq_zero h0
        subst hb0
        go_wp2_with fail
        go_ret2
        exact ⟨.inl ⟨HBAD.out.symm, rfl⟩, HBE.out⟩
      · have hb0 : ((bad.length : Int) == 0) = false := by simp; intro e; subst e; simp at h0
        have HBL0 := Aside0.mk hbl
        clear hbl
        go_wp2_with (go_at_call 20; refine (min_names _ _ _ bad HC6.out (by have := HBL0.out; omega) h0).mono ?_; rintro e w' ⟨m, rfl, hm, rfl⟩; have HM := Aside0.mk hm; clear hm)
        go_ret2
        exact ⟨.inr ⟨m, by rw [← HBAD.out]; exact HM.out, rfl⟩, HBE.out⟩
end Go.Proofs.Ytdllpgeagdckmaa.Q

/- order.of: the net of a list: who uses whom, who is there already. -/
namespace Go.Proofs.Ytdllpgeagdckmaa.Q
open Go.RowKit Go.Proofs.YtdllpgeagdckmaaW.PrintWords Go.Proofs.YtdllpgeagdckmaaW.PrintLast Go.Proofs.YtdllpgeagdckmaaW.PrintMore Go.Proofs.Ytdllpgeagdckmaa.MapKit Go.Maps Go.Proofs.Ytdllpgeagdckmaa.Ord
attribute [local go_sem] max2_int min2_int max_two min_two max_three min_three max_four min_four
set_option linter.unusedVariables false
set_option linter.unusedSimpArgs false

/-- What the map of uses holds: of each name a slice that reads as its uses. -/
def UsesF (w : World) (F : ByteArray → Option Value) (l : Net ByteArray) : Prop :=
  (∀ x, usesOf l x = none → F x = none) ∧ ∀ x us, usesOf l x = some us → ∃ A c, F x = some (.slice A us.length c) ∧ us.length ≤ c ∧ Kd.string.C w A us.length us
theorem UsesF.below {w w' : World} {F : ByteArray → Option Value} {l : Net ByteArray} (h : UsesF w F l) (hb : Below w.heap.size w w') : UsesF w' F l :=
  ⟨h.1, fun x us hx => by
    obtain ⟨A, c, h1, h2, h3⟩ := h.2 x us hx
    exact ⟨A, c, h1, h2, Kd.C_below h3 hb⟩⟩

/-- The net in memory. -/
structure NetAt (w : World) (b gu gh : Nat) (l : List S41) (hv : List ByteArray) : Prop where
  blk : w.heap[b]? = some (.cells #[.map (some gu), .map (some gh)] 71 (0, 0))
  uses : ∃ F n, MapIs Try.prog 9 w gu n (keyB F) ∧ UsesF w F (netOf l)
  have_ : ∃ n, n ≤ 3000000 ∧ SetIs w gh n hv
theorem NetAt.below {w w' : World} {b gu gh : Nat} {l : List S41} {hv : List ByteArray} (h : NetAt w b gu gh l hv) (hb : Below w.heap.size w w') : NetAt w' b gu gh l hv :=
  ⟨blk_below h.blk hb, by
    obtain ⟨F, n, h1, h2⟩ := h.uses
    exact ⟨F, n, h1.below hb, h2.below hb⟩, by
    obtain ⟨n, h0, h1⟩ := h.have_
    exact ⟨n, h0, h1.below hb⟩⟩

/-- What is known while the net is made. -/
structure OfRel (w w' : World) (b gu gh : Nat) (F : ByteArray → Option Value) (i j : Nat) (hv : List ByteArray) : Prop where
  blk : w'.heap[b]? = some (.cells #[.map (some gu), .map (some gh)] 71 (0, 0))
  uses : MapIs Try.prog 9 w' gu i (keyB F)
  have_ : SetIs w' gh j hv
  below : Below w.heap.size w w'
  gu_ : w.heap.size ≤ gu
  gh_ : w.heap.size ≤ gh
  ne : gu ≠ gh

theorem OfRel.alloc {w w2 : World} {b gu gh : Nat} {F : ByteArray → Option Value} {i j : Nat} {hv : List ByteArray} (h : OfRel w w2 b gu gh F i j hv) (o : Obj) : OfRel w (w2.alloc o) b gu gh F i j hv :=
  ⟨blk_alloc h.blk o, h.uses.below (below_alloc (Below.refl _ _) o), h.have_.below (below_alloc (Below.refl _ _) o), below_alloc h.below o, h.gu_, h.gh_, h.ne⟩
theorem OfRel.drew {w w2 : World} {b gu gh : Nat} {F : ByteArray → Option Value} {i j : Nat} {hv : List ByteArray} (h : OfRel w w2 b gu gh F i j hv) : OfRel w w2.drew b gu gh F i j hv :=
  ⟨h.blk, h.uses.below (below_drew (Below.refl _ _)), h.have_.below (below_drew (Below.refl _ _)), below_drew h.below, h.gu_, h.gh_, h.ne⟩
theorem OfRel.putU {w w2 w3 : World} {b gu gh : Nat} {F F' : ByteArray → Option Value} {i i' j : Nat} {hv : List ByteArray} (h : OfRel w w2 b gu gh F i j hv) (hm : MapIs Try.prog 9 w3 gu i' (keyB F')) (hg : w2.grownBy w3 (some gu)) : OfRel w w3 b gu gh F' i' j hv :=
  ⟨blk_grown h.blk hg (fun e => map_ne_cells h.uses h.blk (Option.some.inj e)), hm, h.have_.kept hg (fun e => h.ne (Option.some.inj e)), pw_below_grown h.below _ h.below.size hg (fun k e => by cases e; exact h.gu_), h.gu_, h.gh_, h.ne⟩
theorem OfRel.putH {w w2 w3 : World} {b gu gh : Nat} {F : ByteArray → Option Value} {i j j' : Nat} {hv hv' : List ByteArray} (h : OfRel w w2 b gu gh F i j hv) (hm : SetIs w3 gh j' hv') (hg : w2.grownBy w3 (some gh)) : OfRel w w3 b gu gh F i j' hv' :=
  ⟨blk_grown h.blk hg (fun e => map_ne_cells h.have_ h.blk (Option.some.inj e)), h.uses.kept hg (fun e => h.ne (Option.some.inj e).symm), hm, pw_below_grown h.below _ h.below.size hg (fun k e => by cases e; exact h.gh_), h.gu_, h.gh_, h.ne⟩

def OfP (l : List S41) (hv : List ByteArray) (w : World) (e : Ending) (w' : World) : Prop :=
  ∃ b gu gh, e = .returned (.pointer (some ⟨b, 0, none⟩)) ∧ NetAt w' b gu gh l hv ∧ Below w.heap.size w w'

set_option maxHeartbeats 4000000 in
set_option maxRecDepth 100000 in
theorem of_calls (w : World) (A Ah : Option Addr) (c ch : Nat) (l : List S41) (hv : List ByteArray) (hC : Kd.C k41 w A l.length l) (hCh : Kd.string.C w Ah hv.length hv) (htot : tot (netOf l) ≤ 3000000) (hhl : hv.length ≤ 3000000) (hnm : ∀ v ∈ l, v.f0.size ≤ maxLen) (hhv : ∀ u ∈ hv, u.size ≤ maxLen) (hnd : ((netOf l).map (·.1)).Nodup) :
    Calls Try.prog 18 #[.slice A l.length c, .slice Ah hv.length ch] w (OfP l hv w) := by
  have HC := Aside0.mk hC
  have HCH := Aside0.mk hCh
  have HNM := Aside0.mk hnm
  have HHV := Aside0.mk hhv
  have HTOT := Aside0.mk htot
  have HND := Aside0.mk hnd
  have hll : l.length ≤ 3000000 := by
    have h1 := tot_ge (netOf l)
    have h2 : (netOf l).length = l.length := by simp [netOf]
    omega
  clear hC hCh hnm hhv htot hnd
  have hmm := @run_makeMap Try.prog
  go_enter Try.func18, Try.ntmps18
  go_upto_region 2 with fail
  have h0 : OfRel w (((w.alloc (.map #[] 0)).alloc (.map #[] 0)).alloc (.cells #[.map (some w.heap.size), .map (some (w.heap.size + 1))] 71)) (w.heap.size + 1 + 1) w.heap.size (w.heap.size + 1) (fun _ => none) 0 0 [] := by
    refine ⟨?_, ?_, ?_, below_alloc (below_alloc (below_alloc (Below.refl _ _) _) _) _, Nat.le_refl _, by omega, by omega⟩
    · have := heap_alloc_new ((w.alloc (.map #[] 0)).alloc (.map #[] 0)) (.cells #[.map (some w.heap.size), .map (some (w.heap.size + 1))] 71)
      simpa using this
    · have h1 := MapIs.made w Try.prog 9
      have h2 := (h1.below (below_alloc (Below.refl _ _) (.map #[] 0))).below (below_alloc (Below.refl _ _) (.cells #[.map (some w.heap.size), .map (some (w.heap.size + 1))] 71))
      refine h2.congr fun s => ?_
      cases s <;> rfl
    · have h1 := SetIs.made (w.alloc (.map #[] 0))
      have h2 := h1.below (below_alloc (Below.refl _ _) (.cells #[.map (some w.heap.size), .map (some (w.heap.size + 1))] 71))
      simpa using h2
  generalize ((w.alloc (.map #[] 0)).alloc (.map #[] 0)).alloc (.cells #[.map (some w.heap.size), .map (some (w.heap.size + 1))] 71) = w1 at *
  obtain ⟨b, hb⟩ : ∃ b, b = w.heap.size + 1 + 1 := ⟨_, rfl⟩
  obtain ⟨gh, hgh⟩ : ∃ b, b = w.heap.size + 1 := ⟨_, rfl⟩
  rw [← hb, ← hgh] at h0
  rw [← hb]
  obtain ⟨gu, hgu⟩ : ∃ b, b = w.heap.size := ⟨_, rfl⟩
  have H0 : Aside0 (OfRel w w1 b gu gh (fun _ => none) 0 0 []) := ⟨by rw [hgu]; exact h0⟩
  clear hb hgh hgu h0
  go_wp2
  go_loopg [16] (l.length + 1) (fun kq v16 w' => ∃ i : Nat, v16 = .int .i64 (i : Int) ∧ Aside0 (i ≤ l.length) ∧ Aside0 (kq + i = l.length + 1) ∧ Aside0 (∃ F, OfRel w w' b gu gh F i 0 [] ∧ UsesF w F ((netOf l).take i)))
  case atStart => exact ⟨0, rfl, ⟨Nat.zero_le _⟩, ⟨by omega⟩, ⟨_, H0.out, fun x _ => rfl, fun x us hx => by simp [usesOf] at hx⟩⟩
  case round =>
    clear H0
    obtain ⟨i, rfl, HI, HK, HT⟩ := hrel
    have hi := HI.out
    have hk := HK.out
    obtain ⟨F, hR, hF⟩ := HT.out
    have HR := Aside0.mk hR
    have HF := Aside0.mk hF
    clear HT hR hF
    by_cases hlt : i < l.length
    · have hz : decide ((i : Int) < (l.length : Int)) = true := decide_eq_true (by omega)
      obtain ⟨k1, rfl⟩ : ∃ k1, gk = k1 + 1 := ⟨gk - 1, by omega⟩
      obtain ⟨ad, A1, c1, rfl, z0, z1, hc1, hC1⟩ := vocab_at HC.out i hlt
      obtain ⟨v, hv'⟩ : ∃ v, v = l[i] := ⟨_, rfl⟩
      rw [← hv'] at z0 z1 hc1 hC1
      have x0 := pw_cell_below HR.out.below z0
      have x1 := pw_cell_below HR.out.below z1
      have hmem : v ∈ l := by rw [hv']; exact List.getElem_mem hlt
      have hnet : (netOf l)[i]'(by simpa [netOf] using hlt) = (v.f0, v.f1) := by simp [netOf, hv']
      have hti : (netOf l).take (i + 1) = (netOf l).take i ++ [(v.f0, v.f1)] := by rw [List.take_succ_eq_append_getElem (by simpa [netOf] using hlt), hnet]
      have hnn : v.f0 ∉ ((netOf l).take i).map (·.1) := by
        have h1 := HND.out
        have h2 : (((netOf l).take (i + 1)).map (·.1)).Nodup := h1.sublist ((List.take_sublist _ _).map _)
        rw [hti, List.map_append, List.nodup_append] at h2
        exact fun hm => h2.2.2 _ hm v.f0 (by simp) rfl
      have HN0 := Aside0.mk (HNM.out v hmem)
      have HTI := Aside0.mk hti
      have HNN := Aside0.mk hnn
      have HC1 := Aside0.mk hC1
      have HCL := Aside0.mk hc1
      have hib : i + 1 ≤ 3000000 := by omega
      clear z0 z1 hmem hnet hti hnn hC1 hc1 hv' hi
      go_upto_region 5 with fail
      have hT2 := HR.out.alloc (.cells #[.string v.f0, .slice A1 v.f1.length c1] 41)
      have hb7 : (wr.alloc (.cells #[.string v.f0, .slice A1 v.f1.length c1] 41)).heap[wr.heap.size]? = some (.cells #[.string v.f0, .slice A1 v.f1.length c1] 41 (0, 0)) := heap_alloc_new _ _
      generalize wr.alloc (.cells #[.string v.f0, .slice A1 v.f1.length c1] 41) = w2 at *
      obtain ⟨b7, hb7'⟩ : ∃ b7, b7 = wr.heap.size := ⟨_, rfl⟩
      rw [← hb7'] at hb7 ⊢
      clear hb7'
      have y0 : w2.cell? ⟨b7, 0, none⟩ = some (.string v.f0) := (blk_cell hb7 0).trans rfl
      have y1 : w2.cell? ⟨b7, 1, none⟩ = some (.slice A1 v.f1.length c1) := (blk_cell hb7 1).trans rfl
      have n0 : w2.cell? ⟨b, 0, none⟩ = some (.map (some gu)) := (blk_cell hT2.blk 0).trans rfl
      have HT2 := Aside0.mk hT2
      clear hT2 hb7 x0 x1
      go_still_tail 8, (by kernel_rfl)
      change wpList _ _ _ _ _ w2.drew
      refine wpList_put rfl _ _ _ 68 rfl 23 key9 Try.underlying68 rfl HT2.out.drew.uses (by unfold maxLen; omega) (.string v.f0) (.string v.f0.data.toList) (key_lit _) (.slice A1 v.f1.length c1) rfl rfl (Go.WideMaps.keyOf_string_mk Try.underlying9 HN0.out) ?_
      intro w3 hm3 hg3
      rw [upd_keyB] at hm3
      have HR3 := Aside0.mk (HT2.out.drew.putU hm3 hg3)
      clear hm3 hg3 y0 y1 n0
      go_wp2_with fail
      go_roundg k1
      case measure => omega
      case rel =>
        refine ⟨i + 1, by push_cast; rfl, ⟨by omega⟩, ⟨by omega⟩, ⟨_, HR3.out, ?_, ?_⟩⟩
        · intro x hx
          rw [HTI.out, usesOf_snoc HNN.out] at hx
          by_cases he : x = v.f0
          · rw [if_pos he] at hx; cases hx
          · rw [if_neg he] at hx
            simp only [if_neg he]
            exact HF.out.1 x hx
        · intro x us hx
          rw [HTI.out, usesOf_snoc HNN.out] at hx
          by_cases he : x = v.f0
          · rw [if_pos he] at hx
            cases hx
            simp only [if_pos he]
            exact ⟨A1, c1, rfl, HCL.out, HC1.out⟩
          · rw [if_neg he] at hx
            simp only [if_neg he]
            exact HF.out.2 x us hx
    · have hz : decide ((i : Int) < (l.length : Int)) = false := decide_eq_false (by omega)
      have hF : UsesF w F (netOf l) := by
        have h1 := HF.out
        rwa [List.take_of_length_le (by simp [netOf]; omega)] at h1
      have HF2 := Aside0.mk hF
      clear HF hF
      go_wp2_with fail
      go_loopg [31] (hv.length + 1) (fun kq v31 w' => ∃ j : Nat, v31 = .int .i64 (j : Int) ∧ Aside0 (j ≤ hv.length) ∧ Aside0 (kq + j = hv.length + 1) ∧ Aside0 (OfRel w w' b gu gh F i j (hv.take j)))
      case atStart => exact ⟨0, rfl, ⟨Nat.zero_le _⟩, ⟨by omega⟩, HR⟩
      clear HR
      obtain ⟨j, rfl, HJ, HKJ, HR⟩ := hrel
      have hj := HJ.out
      have hkj := HKJ.out
      by_cases hltj : j < hv.length
      · have hzj : decide ((j : Int) < (hv.length : Int)) = true := decide_eq_true (by omega)
        obtain ⟨k2, rfl⟩ : ∃ k2, gk = k2 + 1 := ⟨gk - 1, by omega⟩
        obtain ⟨ad2, rfl, z0⟩ := name_at (Kd.C_below HCH.out HR.out.below) j hltj
        obtain ⟨u, hu⟩ : ∃ u, u = hv[j] := ⟨_, rfl⟩
        rw [← hu] at z0
        have hut : hv.take (j + 1) = hv.take j ++ [u] := by rw [List.take_succ_eq_append_getElem hltj, ← hu]
        have hul : u.size ≤ maxLen := HHV.out u (by rw [hu]; exact List.getElem_mem hltj)
        have HUT := Aside0.mk hut
        have HUL := Aside0.mk hul
        have n1 : wr.cell? ⟨b, 1, none⟩ = some (.map (some gh)) := (blk_cell HR.out.blk 1).trans rfl
        clear hut hul hu hj
        go_wp2_with (at_mapUpdate; refine set_put rfl _ _ _ rfl rfl HR.out.have_ (by unfold maxLen; omega) u rfl rfl (HUL.out) ?_; intro w7 hs7 hg7; have HR7 := Aside0.mk (HR.out.putH hs7 hg7); clear hs7 hg7)
        go_roundg k2
        case measure => omega
        case rel => exact ⟨j + 1, by push_cast; rfl, ⟨by omega⟩, ⟨by omega⟩, ⟨by rw [HUT.out]; exact HR7.out⟩⟩
      · have hzj : decide ((j : Int) < (hv.length : Int)) = false := decide_eq_false (by omega)
        have hR9 := HR.out
        rw [List.take_of_length_le (by omega)] at hR9
        have HR9 := Aside0.mk hR9
        clear hR9 HR
        go_wp2_with fail
        go_ret
        exact ⟨b, gu, gh, rfl, ⟨HR9.out.blk, ⟨F, i, HR9.out.uses, HF2.out.below HR9.out.below⟩, ⟨j, by omega, HR9.out.have_⟩⟩, HR9.out.below⟩
end Go.Proofs.Ytdllpgeagdckmaa.Q

/- The net's wanted: all that is wanted, rising, and what of it is missing. -/
namespace Go.Proofs.Ytdllpgeagdckmaa.Q
open Go.RowKit Go.Proofs.YtdllpgeagdckmaaW.PrintWords Go.Proofs.YtdllpgeagdckmaaW.PrintLast Go.Proofs.YtdllpgeagdckmaaW.PrintMore Go.Proofs.Ytdllpgeagdckmaa.MapKit Go.Maps Go.Proofs.Ytdllpgeagdckmaa.Ord
attribute [local go_sem] max2_int min2_int max_two min_two max_three min_three max_four min_four
set_option linter.unusedVariables false
set_option linter.unusedSimpArgs false

/-- Between two rounds of the search. -/
structure WRel (w w' : World) (g : Nat) (v5 v7 : Value) (stack seen mis : List ByteArray) : Prop where
  row7 : SRow w' w.heap.size v7 stack
  row5 : SRow w' w.heap.size v5 mis
  apart : v5.ownBlock = none ∨ v5.ownBlock ≠ v7.ownBlock
  set : SetIs w' g seen.length seen
  below : Below w.heap.size w w'

theorem WRel.pop {w w' : World} {g : Nat} {v5 : Value} {A7 : Option Addr} {n c : Nat} {st seen mis : List ByteArray} {x : ByteArray} (h : WRel w w' g v5 (.slice A7 n c) (st ++ [x]) seen mis) : WRel w w' g v5 (.slice A7 st.length c) st seen mis :=
  ⟨by have := h.row7.take (m := st.length) (by simp); rwa [List.take_left] at this, h.row5, by
    have := h.apart
    cases A7 <;> exact this, h.set, h.below⟩
theorem WRel.put {w w' w3 : World} {g : Nat} {v5 v7 : Value} {st seen mis : List ByteArray} {x : ByteArray} (h : WRel w w' g v5 v7 st seen mis) (hs : SetIs w3 g (seen.length + 1) (seen ++ [x])) (hg : w'.grownBy w3 (some g)) (he : g = w.heap.size) : WRel w w3 g v5 v7 st (seen ++ [x]) mis :=
  ⟨h.row7.other hg (.inr (map_ne_row h.set h.row7)), h.row5.other hg (.inr (map_ne_row h.set h.row5)), h.apart, by rw [List.length_append]; exact hs, pw_below_grown h.below _ h.below.size hg (fun k e => by cases e; omega)⟩
theorem apart_new {w3 : World} {v v' u : Value} {base : Nat} {xs : List ByteArray} (ha : v.ownBlock = none ∨ v.ownBlock ≠ u.ownBlock) (hu : SRow w3 base u xs) (hat : v'.ownBlock = v.ownBlock ∨ ∃ k, v'.ownBlock = some k ∧ w3.heap.size ≤ k) : v'.ownBlock = none ∨ v'.ownBlock ≠ u.ownBlock := by
  rcases hat with e | ⟨k, e, hk⟩
  · rw [e]; exact ha
  · refine .inr fun e' => ?_
    rw [e] at e'
    have := own_lt hu k e'.symm
    omega
theorem apart_flip {v u : Value} (ha : v.ownBlock = none ∨ v.ownBlock ≠ u.ownBlock) : u.ownBlock = none ∨ u.ownBlock ≠ v.ownBlock := by
  rcases ha with e | e
  · rw [e]
    cases u.ownBlock <;> simp
  · exact .inr (fun h => e h.symm)
theorem WRel.app5 {w w3 w4 : World} {g : Nat} {v5 v5' v7 : Value} {st seen mis : List ByteArray} {x : ByteArray} (h : WRel w w3 g v5 v7 st seen mis) (hr : SRow w4 w.heap.size v5' (mis ++ [x])) (hg : w3.grownBy w4 v5.ownBlock) (hat : v5'.ownBlock = v5.ownBlock ∨ ∃ k, v5'.ownBlock = some k ∧ w3.heap.size ≤ k) : WRel w w4 g v5' v7 st seen (mis ++ [x]) :=
  ⟨h.row7.other hg (apart_flip h.apart), hr, apart_new h.apart h.row7 hat, h.set.kept hg (map_ne_row h.set h.row5), pw_below_grown h.below _ h.below.size hg h.row5.base_le⟩
theorem WRel.app7 {w w3 w4 : World} {g : Nat} {v5 v7 v7' : Value} {st us seen mis : List ByteArray} (h : WRel w w3 g v5 v7 st seen mis) (hr : SRow w4 w.heap.size v7' (st ++ us)) (hg : w3.grownBy w4 v7.ownBlock) (hat : v7'.ownBlock = v7.ownBlock ∨ ∃ k, v7'.ownBlock = some k ∧ w3.heap.size ≤ k) : WRel w w4 g v5 v7' (st ++ us) seen mis :=
  ⟨hr, h.row5.other hg h.apart, apart_flip (apart_new (apart_flip h.apart) h.row5 hat), h.set.kept hg (map_ne_row h.set h.row7), pw_below_grown h.below _ h.below.size hg h.row7.base_le⟩
theorem uses_after {w w' w3 : World} {gu n g : Nat} {f : Lit → Option Value} (hm : MapIs Try.prog 9 w gu n f) (hb : Below w.heap.size w w') (hg : w'.grownBy w3 (some g)) (he : g = w.heap.size) : MapIs Try.prog 9 w3 gu n f := by
  have h1 := hm.below hb
  have hlt := hm.lt
  exact h1.kept hg (fun e => by cases e; omega)
theorem blk_after {w w' w3 : World} {b gu gh g : Nat} {l : List S41} {hv stack seen mis : List ByteArray} {v5 v7 : Value} (hN : NetAt w b gu gh l hv) (hR : WRel w w' g v5 v7 stack seen mis) (hg : w'.grownBy w3 (some g)) (he : g = w.heap.size) : w3.cell? ⟨b, 0, none⟩ = some (.map (some gu)) := by
  have h1 := (hN.below hR.below).blk
  have hlt := blk_lt hN.blk
  have h2 := blk_grown h1 hg (fun e => by cases e; omega)
  exact (blk_cell h2 0).trans rfl

/-- What is known of the lists. -/
structure WPure (l : Net ByteArray) (hv want stack seen mis : List ByteArray) (k : Nat) : Prop where
  dfs : Dfs l hv want stack seen
  mis_ : ∀ x, x ∈ mis ↔ x ∈ seen ∧ usesOf l x = none
  misl : mis.length ≤ seen.length
  cnt : seen.length + stack.length + pot l seen ≤ want.length + pot l []
  k : k = stack.length + pot l seen + 1
  sz : ∀ x ∈ stack, x.size ≤ maxLen

theorem pot_tot : ∀ (l : Net ByteArray), pot l [] ≤ tot l
  | [] => Nat.le_refl _
  | a :: l => by
    have := pot_tot l
    simp only [pot, tot, List.not_mem_nil, if_false]
    omega

theorem WPure.skip {l : Net ByteArray} {hv want st seen mis : List ByteArray} {x : ByteArray} {k : Nat} (h : WPure l hv want (st ++ [x]) seen mis (k + 1)) (hx : x ∈ hv ∨ x ∈ seen) : WPure l hv want st seen mis k where
  dfs := h.dfs.skip hx
  mis_ := h.mis_
  misl := h.misl
  cnt := by have := h.cnt; simp at this; omega
  k := by have := h.k; simp at this; omega
  sz := fun y hy => h.sz y (List.mem_append_left _ hy)
theorem WPure.there {l : Net ByteArray} {hv want st seen mis us : List ByteArray} {x : ByteArray} {k : Nat} (h : WPure l hv want (st ++ [x]) seen mis (k + 1)) (hx : x ∉ hv) (hs : x ∉ seen) (hu : usesOf l x = some us) (hnd : (l.map (·.1)).Nodup) (hsz : ∀ u ∈ us, u.size ≤ maxLen) : WPure l hv want (st ++ us) (seen ++ [x]) mis k where
  dfs := by have := h.dfs.push hx hs; rwa [hu] at this
  mis_ := fun y => by
    rw [h.mis_, List.mem_append, List.mem_singleton]
    constructor
    · exact fun ⟨a, b⟩ => ⟨.inl a, b⟩
    · rintro ⟨a | rfl, b⟩
      · exact ⟨a, b⟩
      · rw [hu] at b; cases b
  misl := by have := h.misl; simp; omega
  cnt := by
    have h1 := h.cnt
    have h2 := pot_push hnd hs
    rw [hu] at h2
    simp at h1 h2 ⊢
    omega
  k := by
    have h1 := h.k
    have h2 := pot_push hnd hs
    rw [hu] at h2
    simp at h1 h2 ⊢
    omega
  sz := fun y hy => by
    rcases List.mem_append.1 hy with hy | hy
    · exact h.sz y (List.mem_append_left _ hy)
    · exact hsz y hy
theorem WPure.gone {l : Net ByteArray} {hv want st seen mis : List ByteArray} {x : ByteArray} {k : Nat} (h : WPure l hv want (st ++ [x]) seen mis (k + 1)) (hx : x ∉ hv) (hs : x ∉ seen) (hu : usesOf l x = none) (hnd : (l.map (·.1)).Nodup) : WPure l hv want st (seen ++ [x]) (mis ++ [x]) k where
  dfs := by have := h.dfs.push hx hs; rw [hu] at this; simpa using this
  mis_ := fun y => by
    rw [List.mem_append, h.mis_, List.mem_append, List.mem_singleton]
    constructor
    · rintro (⟨a, b⟩ | rfl)
      · exact ⟨.inl a, b⟩
      · exact ⟨.inr rfl, hu⟩
    · rintro ⟨a | rfl, b⟩
      · exact .inl ⟨a, b⟩
      · exact .inr rfl
  misl := by have := h.misl; simp; omega
  cnt := by
    have h1 := h.cnt
    have h2 := pot_push hnd hs
    rw [hu] at h2
    simp at h1 h2 ⊢
    omega
  k := by
    have h1 := h.k
    have h2 := pot_push hnd hs
    rw [hu] at h2
    simp at h1 h2 ⊢
    omega
  sz := fun y hy => h.sz y (List.mem_append_left _ hy)

def WantP (l : Net ByteArray) (want hv : List ByteArray) (w : World) (e : Ending) (w' : World) : Prop :=
  ∃ va vm all mis, e = .returned (.tuple #[va, vm]) ∧ SRow w' w.heap.size va all ∧ SRow w' w.heap.size vm mis ∧ (∀ x, x ∈ all ↔ Ord.Reach l hv want x) ∧ all.Pairwise (fun a b => ltN a b = true) ∧ (∀ x, x ∈ mis ↔ Ord.Reach l hv want x ∧ usesOf l x = none) ∧ all.length ≤ 6000000 ∧ mis.length ≤ 6000000 ∧ Below w.heap.size w w'

set_option maxHeartbeats 4000000 in
set_option maxRecDepth 100000 in
theorem wanted_calls (w : World) (b gu gh : Nat) (Aw : Option Addr) (cw : Nat) (l : List S41) (want hv : List ByteArray) (hN : NetAt w b gu gh l hv) (hCw : Kd.string.C w Aw want.length want) (htot : tot (netOf l) ≤ 3000000) (hwl : want.length ≤ 3000000) (hus : ∀ v ∈ l, ∀ u ∈ v.f1, u.size ≤ maxLen) (hwz : ∀ u ∈ want, u.size ≤ maxLen) (hnd : ((netOf l).map (·.1)).Nodup) :
    Calls Try.prog 19 #[.pointer (some ⟨b, 0, none⟩), .slice Aw want.length cw] w (WantP (netOf l) want hv w) := by
  have HN := Aside0.mk hN
  have HCW := Aside0.mk hCw
  have HUS := Aside0.mk hus
  have HWZ := Aside0.mk hwz
  have HTOT := Aside0.mk htot
  have HND := Aside0.mk hnd
  have HWL := Aside0.mk hwl
  clear hN hCw hus hwz htot hnd hwl
  have hmm := @run_makeMap Try.prog
  go_enter Try.func19, Try.ntmps19
  go_upto_region 2 with fail
  have hs1 := SetIs.made w
  have hb1 : Below w.heap.size w (w.alloc (.map #[] 0)) := below_alloc (Below.refl _ _) _
  generalize w.alloc (.map #[] 0) = w1 at *
  obtain ⟨g, hg⟩ : ∃ g, g = w.heap.size := ⟨_, rfl⟩
  rw [← hg] at hs1 ⊢
  have HG := Aside0.mk hg
  have HS1 := Aside0.mk hs1
  have HB1 := Aside0.mk hb1
  clear hg hs1 hb1
  go_wp2_with (go_at_call 36; refine (clone_names w1 Aw cw want (Kd.C_below HCW.out HB1.out) HWL.out).mono ?_; rintro e w2 ⟨v7, rfl, hr7, hb2⟩; have HR7 := Aside0.mk hr7; have HB2 := Aside0.mk hb2; clear hr7 hb2)
  obtain ⟨A7, c7, rfl⟩ := HR7.out.shape
  have h0 : WRel w w2 g (.slice none 0 0) (.slice A7 want.length c7) want [] [] := ⟨own_weaken HR7.out HB1.out.size, SRow.nil _ _, .inl rfl, HS1.out.below HB2.out, below_step HB1.out HB2.out⟩
  have p0 : WPure (netOf l) hv want want [] [] (want.length + pot (netOf l) [] + 1) := ⟨Dfs.start _ _ _, by simp, Nat.le_refl _, by simp, rfl, HWZ.out⟩
  have H0 := Aside0.mk (And.intro h0 p0)
  clear h0 p0 HS1 HB1 HR7 HB2
  go_loopg [5, 7] (want.length + pot (netOf l) [] + 1) (fun kq v5 v7 w' => Aside0 (∃ stack seen mis, WRel w w' g v5 v7 stack seen mis ∧ WPure (netOf l) hv want stack seen mis kq))
  case atStart => exact ⟨⟨_, _, _, H0.out.1, H0.out.2⟩⟩
  case round =>
    clear H0
    obtain ⟨stack, seen, mis, hR, hP⟩ := hrel.out
    have HP := Aside0.mk hP
    have hsl : seen.length + stack.length ≤ 6000000 := by
      have h1 := hP.cnt
      have h2 := pot_tot (netOf l)
      have h3 := HTOT.out
      have h4 := HWL.out
      omega
    have hml := hP.misl
    obtain ⟨A7', c7', e7⟩ := hR.row7.shape
    obtain ⟨A5', c5', e5⟩ := hR.row5.shape
    rcases stack.eq_nil_or_concat with hst | ⟨st, x, hst⟩
    · subst hst
      rw [List.length_nil] at e7
      subst e7
      subst e5
      have HR := Aside0.mk hR
      clear hR hP hrel
      go_wp2_with (first | (go_at_call 38; refine (keys_calls (some g) _).mono ?_; rintro e w' ⟨rfl, rfl⟩) | (go_at_call 37; refine (sorted_set wr g seen.length seen HR.out.set HP.out.dfs.nd (by omega)).mono ?_; rintro e w4 ⟨va, rfl, hra, hb4⟩; have HRA := Aside0.mk hra; have HB4 := Aside0.mk hb4; clear hra hb4))
      go_ret2
      refine ⟨_, _, sortB seen, mis, rfl, own_weaken HRA.out HR.out.below.size, HR.out.row5.below HB4.out, fun y => by rw [mem_sortB]; exact HP.out.dfs.done y, sortB_rising HP.out.dfs.nd, fun y => by rw [HP.out.mis_, HP.out.dfs.done], ?_, ?_, below_step HR.out.below HB4.out⟩
      · rw [sortB_length]; omega
      · omega
    · rw [List.concat_eq_append] at hst
      subst hst
      obtain ⟨k1, rfl⟩ : ∃ k1, gk = k1 + 1 := ⟨gk - 1, by have := hP.k; omega⟩
      have hl7 : (st ++ [x]).length = st.length + 1 := by simp
      rw [hl7] at e7
      subst e7
      subst e5
      obtain ⟨A7r, c7r, er, hcr, hCr⟩ := hR.row7.reads
      rw [hl7] at er
      simp only [Value.slice.injEq, true_and] at er
      obtain ⟨rfl, rfl⟩ := er
      obtain ⟨ad, rfl, z0⟩ := name_at hCr st.length (by simp)
      have hxe : (st ++ [x])[st.length]'(by simp) = x := by simp
      rw [hxe] at z0
      have hxs : x.size ≤ maxLen := HP.out.sz x (by simp)
      have hsl7 := slice_take (some ad) (st.length + 1) c7' st.length (by omega)
      have hst : seen.length + st.length + 1 ≤ 6000000 := by omega
      have HR := Aside0.mk hR
      have HXS := Aside0.mk hxs
      have n0 : wr.cell? ⟨b, 0, none⟩ = some (.map (some gu)) := (blk_cell (HN.out.below HR.out.below).blk 0).trans rfl
      have n1 : wr.cell? ⟨b, 1, none⟩ = some (.map (some gh)) := (blk_cell (HN.out.below HR.out.below).blk 1).trans rfl
      obtain ⟨nh, _, hsh⟩ := (HN.out.below HR.out.below).have_
      have HSH := Aside0.mk hsh
      clear hR hP hrel hl7 hCr hcr hxe hxs hsh hsl
      by_cases hx : x ∈ hv
      · have hxb : decide (x ∈ hv) = true := decide_eq_true hx
        go_wp2_with (at_lookup; refine set_look rfl _ _ rfl rfl HSH.out x rfl (HXS.out) ?_)
        go_roundg k1
        case measure => omega
        case rel => exact ⟨⟨st, seen, mis, HR.out.pop, HP.out.skip (.inl hx)⟩⟩
      · have hxb : decide (x ∈ hv) = false := decide_eq_false hx
        by_cases hs : x ∈ seen
        · have hsb : decide (x ∈ seen) = true := decide_eq_true hs
          go_wp2_with (first | (at_lookup; refine set_look rfl _ _ rfl rfl HSH.out x rfl (HXS.out) ?_) | (at_lookup; refine set_look_w rfl _ _ rfl rfl HR.out.set x rfl (HXS.out) ?_))
          go_roundg k1
          case measure => omega
          case rel => exact ⟨⟨st, seen, mis, HR.out.pop, HP.out.skip (.inr hs)⟩⟩
        · have hsb : decide (x ∈ seen) = false := decide_eq_false hs
          obtain ⟨F, nu, hmu, hF⟩ := HN.out.uses
          cases hu : usesOf (netOf l) x with
          | none =>
            have hfx := hF.1 x hu
            have HFX := Aside0.mk hfx
            have HU := Aside0.mk hu
            have HMU0 := Aside0.mk hmu
            clear hfx hu hmu hF
            go_wp2_with (first | (at_lookup; refine set_look rfl _ _ rfl rfl HSH.out x rfl (HXS.out) ?_) | (at_lookup; refine set_look_w rfl _ _ rfl rfl HR.out.set x rfl (HXS.out) ?_) | (at_mapUpdate; refine set_put rfl _ _ _ rfl rfl HR.out.set (by unfold maxLen; omega) x rfl rfl (HXS.out) ?_; intro w3 hs3 hg3; have HR3 := Aside0.mk (HR.out.pop.put hs3 hg3 HG.out); have HMU := Aside0.mk (uses_after HMU0.out HR.out.below hg3 HG.out); have n0' : w3.cell? ⟨b, 0, none⟩ = some (.map (some gu)) := blk_after HN.out HR.out hg3 HG.out; clear hs3 hg3 n0 n1) | (at_lookup; refine wpList_look_ok rfl _ _ 68 rfl 23 key9 Try.underlying68 (zero23 _) rfl HMU.out _ _ rfl (Go.WideMaps.keyOf_string_mk Try.underlying9 HXS.out) ?_; rw [keyB_at, HFX.out]) | ((with_reducible refine gate_builtin (b := .append) (xs := #[.tmp 54, .tmp 56]) rfl ?_); refine srow_append w.heap.size rfl (.tmp 54) (.tmp 56) rfl rfl x rfl HR3.out.row5 (by omega) HR3.out.below.size ?_; intro A6 c6 w6 hr hg hat; have HR6 := Aside0.mk (HR3.out.app5 hr hg hat); clear hr hg hat))
            go_roundg k1
            case measure => omega
            case rel => exact ⟨⟨st, seen ++ [x], mis ++ [x], HR6.out, HP.out.gone hx hs HU.out HND.out⟩⟩
          | some us =>
            obtain ⟨Au, cu, hfx, hcu, hCu⟩ := hF.2 x us hu
            have hul : st.length + us.length ≤ 6000000 := by
              have h1 := HP.out.cnt
              have h2 := pot_tot (netOf l)
              have h3 := HTOT.out
              have h4 := HWL.out
              have h5 := pot_push HND.out hs
              rw [hu] at h5
              simp at h1 h5
              omega
            have husz : ∀ u ∈ us, u.size ≤ maxLen := by
              have h1 := (usesOf_mem HND.out).1 hu
              simp only [netOf, List.mem_map, Prod.mk.injEq] at h1
              obtain ⟨v, hv1, _, rfl⟩ := h1
              exact HUS.out v hv1
            have HFX := Aside0.mk hfx
            have HCU := Aside0.mk hCu
            have HU := Aside0.mk hu
            have HMU0 := Aside0.mk hmu
            have HUSZ := Aside0.mk husz
            clear hfx hu hmu hF hCu hcu husz
            go_wp2_with (first | (at_lookup; refine set_look rfl _ _ rfl rfl HSH.out x rfl (HXS.out) ?_) | (at_lookup; refine set_look_w rfl _ _ rfl rfl HR.out.set x rfl (HXS.out) ?_) | (at_mapUpdate; refine set_put rfl _ _ _ rfl rfl HR.out.set (by unfold maxLen; omega) x rfl rfl (HXS.out) ?_; intro w3 hs3 hg3; have HR3 := Aside0.mk (HR.out.pop.put hs3 hg3 HG.out); have HMU := Aside0.mk (uses_after HMU0.out HR.out.below hg3 HG.out); have n0' : w3.cell? ⟨b, 0, none⟩ = some (.map (some gu)) := blk_after HN.out HR.out hg3 HG.out; clear hs3 hg3 n0 n1) | (at_lookup; refine wpList_look_ok rfl _ _ 68 rfl 23 key9 Try.underlying68 (zero23 _) rfl HMU.out _ _ rfl (Go.WideMaps.keyOf_string_mk Try.underlying9 HXS.out) ?_; rw [keyB_at, HFX.out]) | ((with_reducible refine gate_builtin (b := .append) (xs := #[.tmp 51, .tmp 52]) rfl ?_); refine srow_appendAll w.heap.size rfl (.tmp 51) (.tmp 52) rfl rfl rfl HR3.out.row7 (Kd.C_below HCU.out HR3.out.below) (by omega) HR3.out.below.size ?_; intro A6 c6 w6 hr hg hat; have HR6 := Aside0.mk (HR3.out.app7 hr hg hat); clear hr hg hat))
            go_roundg k1
            case measure => omega
            case rel => exact ⟨⟨st ++ us, seen ++ [x], mis, HR6.out, HP.out.there hx hs HU.out HND.out HUSZ.out⟩⟩
end Go.Proofs.Ytdllpgeagdckmaa.Q

/- The net's circle: does a name lie on a circle? -/
namespace Go.Proofs.Ytdllpgeagdckmaa.Q
open Go.RowKit Go.Proofs.YtdllpgeagdckmaaW.PrintWords Go.Proofs.YtdllpgeagdckmaaW.PrintLast Go.Proofs.YtdllpgeagdckmaaW.PrintMore Go.Proofs.Ytdllpgeagdckmaa.MapKit Go.Maps Go.Proofs.Ytdllpgeagdckmaa.Ord
attribute [local go_sem] max2_int min2_int max_two min_two max_three min_three max_four min_four
set_option linter.unusedVariables false
set_option linter.unusedSimpArgs false

structure CPure (l : Net ByteArray) (hv want stack seen : List ByteArray) (x0 : ByteArray) (k : Nat) : Prop where
  dfs : Dfs l hv want stack seen
  nin : x0 ∉ seen
  cnt : seen.length + stack.length + pot l seen ≤ want.length + pot l []
  k : k = stack.length + pot l seen + 1
  sz : ∀ x ∈ stack, x.size ≤ maxLen
theorem CPure.skip {l : Net ByteArray} {hv want st seen : List ByteArray} {x x0 : ByteArray} {k : Nat} (h : CPure l hv want (st ++ [x]) seen x0 (k + 1)) (hx : x ∈ hv ∨ x ∈ seen) : CPure l hv want st seen x0 k where
  dfs := h.dfs.skip hx
  nin := h.nin
  cnt := by have := h.cnt; simp at this; omega
  k := by have := h.k; simp at this; omega
  sz := fun y hy => h.sz y (List.mem_append_left _ hy)
theorem CPure.push {l : Net ByteArray} {hv want st seen us : List ByteArray} {x x0 : ByteArray} {k : Nat} (h : CPure l hv want (st ++ [x]) seen x0 (k + 1)) (hx : x ∉ hv) (hs : x ∉ seen) (hne : x ≠ x0) (hu : (usesOf l x).getD [] = us) (hnd : (l.map (·.1)).Nodup) (hsz : ∀ u ∈ us, u.size ≤ maxLen) : CPure l hv want (st ++ us) (seen ++ [x]) x0 k where
  dfs := by have := h.dfs.push hx hs; rwa [hu] at this
  nin := by
    rw [List.mem_append, List.mem_singleton, not_or]
    exact ⟨h.nin, fun e => hne e.symm⟩
  cnt := by
    have h1 := h.cnt
    have h2 := pot_push hnd hs
    rw [hu] at h2
    simp at h1 h2 ⊢
    omega
  k := by
    have h1 := h.k
    have h2 := pot_push hnd hs
    rw [hu] at h2
    simp at h1 h2 ⊢
    omega
  sz := fun y hy => by
    rcases List.mem_append.1 hy with hy | hy
    · exact h.sz y (List.mem_append_left _ hy)
    · exact hsz y hy

def CircP (l : Net ByteArray) (hv us0 : List ByteArray) (x0 : ByteArray) (w : World) (e : Ending) (w' : World) : Prop :=
  (Ord.Reach l hv us0 x0 ∧ e = .returned (.bool true) ∨ ¬ Ord.Reach l hv us0 x0 ∧ e = .returned (.bool false)) ∧ Below w.heap.size w w'

/-- What the map of uses says of a name. -/
theorem uses_get {w : World} {F : ByteArray → Option Value} {l : Net ByteArray} (h : UsesF w F l) (x : ByteArray) : ∃ A c, (F x).getD (.slice none 0 0) = .slice A ((usesOf l x).getD []).length c ∧ Kd.string.C w A ((usesOf l x).getD []).length ((usesOf l x).getD []) := by
  cases hu : usesOf l x with
  | none =>
    rw [h.1 x hu]
    exact ⟨none, 0, rfl, Kd.C_nil _ _⟩
  | some us =>
    obtain ⟨A, c, e, _, hC⟩ := h.2 x us hu
    rw [e]
    exact ⟨A, c, rfl, hC⟩

set_option maxHeartbeats 4000000 in
set_option maxRecDepth 100000 in
theorem circle_calls (w : World) (b gu gh : Nat) (l : List S41) (hv us0 : List ByteArray) (x0 : ByteArray) (hN : NetAt w b gu gh l hv) (htot : tot (netOf l) ≤ 3000000) (hus : ∀ v ∈ l, ∀ u ∈ v.f1, u.size ≤ maxLen) (hx0 : x0.size ≤ maxLen) (hnd : ((netOf l).map (·.1)).Nodup) (hu0 : usesOf (netOf l) x0 = some us0) (hul : us0.length ≤ 3000000) :
    Calls Try.prog 21 #[.pointer (some ⟨b, 0, none⟩), .string x0] w (CircP (netOf l) hv us0 x0 w) := by
  have husz : ∀ x us, usesOf (netOf l) x = some us → ∀ u ∈ us, u.size ≤ maxLen := fun x us hu => by
    have h1 := (usesOf_mem hnd).1 hu
    simp only [netOf, List.mem_map, Prod.mk.injEq] at h1
    obtain ⟨v, hv1, _, rfl⟩ := h1
    exact hus v hv1
  have HUSZ := Aside0.mk husz
  obtain ⟨F, nu, hmu, hF⟩ := hN.uses
  obtain ⟨A0, c0, hg0, hC0⟩ := uses_get hF x0
  rw [hu0, Option.getD_some] at hg0 hC0
  have HN := Aside0.mk hN
  have HMU := Aside0.mk hmu
  have HF := Aside0.mk hF
  have HG0 := Aside0.mk hg0
  have HC0 := Aside0.mk hC0
  have HTOT := Aside0.mk htot
  have HND := Aside0.mk hnd
  have HX0 := Aside0.mk hx0
  have HUL := Aside0.mk hul
  have HU0 := Aside0.mk hu0
  have n0 : w.cell? ⟨b, 0, none⟩ = some (.map (some gu)) := (blk_cell hN.blk 0).trans rfl
  clear hN hmu hF hg0 hC0 htot hnd hx0 hul husz hus hu0
  have hmm := @run_makeMap Try.prog
  go_enter Try.func21, Try.ntmps21
  go_wp2_with fail
  go_step3
  go_upto_region 2 with fail
  have hs1 := SetIs.made w
  have hb1 : Below w.heap.size w (w.alloc (.map #[] 0)) := below_alloc (Below.refl _ _) _
  have n0' := pw_cell_below hb1 n0
  generalize w.alloc (.map #[] 0) = w1 at *
  obtain ⟨g, hg⟩ : ∃ g, g = w.heap.size := ⟨_, rfl⟩
  rw [← hg] at hs1 ⊢
  have HG := Aside0.mk hg
  have HS1 := Aside0.mk hs1
  have HB1 := Aside0.mk hb1
  clear hg hs1 hb1 n0
  go_wp2_with (first | (at_lookup; refine wpList_look rfl _ _ 68 rfl 23 key9 Try.underlying68 (zero23 _) rfl (HMU.out.below HB1.out) _ _ rfl (Go.WideMaps.keyOf_string_mk Try.underlying9 HX0.out) ?_; rw [keyB_at, HG0.out]) | (go_at_call 36; refine (clone_names w1 A0 c0 us0 (Kd.C_below HC0.out HB1.out) HUL.out).mono ?_; rintro e w2 ⟨v7, rfl, hr7, hb2⟩; have HR7 := Aside0.mk hr7; have HB2 := Aside0.mk hb2; clear hr7 hb2))
  clear n0'
  obtain ⟨A7, c7, rfl⟩ := HR7.out.shape
  have h0 : WRel w w2 g (.slice none 0 0) (.slice A7 us0.length c7) us0 [] [] := ⟨own_weaken HR7.out HB1.out.size, SRow.nil _ _, .inl rfl, HS1.out.below HB2.out, below_step HB1.out HB2.out⟩
  have p0 : CPure (netOf l) hv us0 us0 [] x0 (us0.length + pot (netOf l) [] + 1) := ⟨Dfs.start _ _ _, by simp, by simp, rfl, HUSZ.out x0 us0 HU0.out⟩
  have H0 := Aside0.mk (And.intro h0 p0)
  clear h0 p0 HS1 HB1 HR7 HB2
  go_step3
  go_wp2_with fail
  go_loopg [6] (us0.length + pot (netOf l) [] + 1) (fun kq v6 w' => Aside0 (∃ stack seen, WRel w w' g (.slice none 0 0) v6 stack seen [] ∧ CPure (netOf l) hv us0 stack seen x0 kq))
  case atStart => exact ⟨⟨_, _, H0.out.1, H0.out.2⟩⟩
  case round =>
    clear H0
    obtain ⟨stack, seen, hR, hP⟩ := hrel.out
    have HP := Aside0.mk hP
    have hsl : seen.length + stack.length ≤ 6000000 := by
      have h1 := hP.cnt
      have h2 := pot_tot (netOf l)
      have h3 := HTOT.out
      have h4 := HUL.out
      omega
    obtain ⟨A7', c7', e7⟩ := hR.row7.shape
    rcases stack.eq_nil_or_concat with hst | ⟨st, x, hst⟩
    · subst hst
      rw [List.length_nil] at e7
      subst e7
      have HR := Aside0.mk hR
      clear hR hP hrel
      go_wp2_with fail
      rw [Exit.noGoto_ret]
      go_ret
      exact ⟨.inr ⟨fun h => HP.out.nin ((HP.out.dfs.done x0).2 h), rfl⟩, HR.out.below⟩
    · rw [List.concat_eq_append] at hst
      subst hst
      obtain ⟨k1, rfl⟩ : ∃ k1, gk = k1 + 1 := ⟨gk - 1, by have := hP.k; omega⟩
      have hl7 : (st ++ [x]).length = st.length + 1 := by simp
      rw [hl7] at e7
      subst e7
      obtain ⟨A7r, c7r, er, hcr, hCr⟩ := hR.row7.reads
      rw [hl7] at er
      simp only [Value.slice.injEq, true_and] at er
      obtain ⟨rfl, rfl⟩ := er
      obtain ⟨ad, rfl, z0⟩ := name_at hCr st.length (by simp)
      have hxe : (st ++ [x])[st.length]'(by simp) = x := by simp
      rw [hxe] at z0
      have hxs : x.size ≤ maxLen := HP.out.sz x (by simp)
      have hsl7 := slice_take (some ad) (st.length + 1) c7' st.length (by omega)
      have hst : seen.length + st.length + 1 ≤ 6000000 := by omega
      have HR := Aside0.mk hR
      have HXS := Aside0.mk hxs
      have n0 : wr.cell? ⟨b, 0, none⟩ = some (.map (some gu)) := (blk_cell (HN.out.below HR.out.below).blk 0).trans rfl
      have n1 : wr.cell? ⟨b, 1, none⟩ = some (.map (some gh)) := (blk_cell (HN.out.below HR.out.below).blk 1).trans rfl
      obtain ⟨nh, _, hsh⟩ := (HN.out.below HR.out.below).have_
      have HSH := Aside0.mk hsh
      clear hR hP hrel hl7 hCr hcr hxe hxs hsh hsl
      by_cases hx : x ∈ hv
      · have hxb : decide (x ∈ hv) = true := decide_eq_true hx
        go_wp2_with (at_lookup; refine set_look rfl _ _ rfl rfl HSH.out x rfl (HXS.out) ?_)
        go_roundg k1
        case measure => omega
        case rel => exact ⟨⟨st, seen, HR.out.pop, HP.out.skip (.inl hx)⟩⟩
      · have hxb : decide (x ∈ hv) = false := decide_eq_false hx
        by_cases hs : x ∈ seen
        · have hsb : decide (x ∈ seen) = true := decide_eq_true hs
          go_wp2_with (first | (at_lookup; refine set_look rfl _ _ rfl rfl HSH.out x rfl (HXS.out) ?_) | (at_lookup; refine set_look_w rfl _ _ rfl rfl HR.out.set x rfl (HXS.out) ?_))
          go_roundg k1
          case measure => omega
          case rel => exact ⟨⟨st, seen, HR.out.pop, HP.out.skip (.inr hs)⟩⟩
        · have hsb : decide (x ∈ seen) = false := decide_eq_false hs
          by_cases he : x = x0
          · have heb : (x.toList == x0.toList) = true := by rw [he]; simp
            have HE := Aside0.mk he
            clear he
            go_wp2_with (first | (at_lookup; refine set_look rfl _ _ rfl rfl HSH.out x rfl (HXS.out) ?_) | (at_lookup; refine set_look_w rfl _ _ rfl rfl HR.out.set x rfl (HXS.out) ?_))
            rw [Exit.noGoto_ret]
            go_ret
            refine ⟨.inl ⟨?_, rfl⟩, HR.out.below⟩
            rw [← HE.out]
            exact HP.out.dfs.top hx
          · have heb : (x.toList == x0.toList) = false := by
              rw [beq_eq_false_iff_ne, toList_data, toList_data]
              exact fun e => he (bytes_ext e)
            obtain ⟨Au, cu, hgx, hCu⟩ := uses_get HF.out x
            obtain ⟨us, hus⟩ : ∃ us, us = (usesOf (netOf l) x).getD [] := ⟨_, rfl⟩
            rw [← hus] at hgx hCu
            have hul : st.length + us.length ≤ 6000000 := by
              have h1 := HP.out.cnt
              have h2 := pot_tot (netOf l)
              have h3 := HTOT.out
              have h4 := HUL.out
              have h5 := pot_push HND.out hs
              rw [← hus] at h5
              simp at h1 h5
              omega
            have husz : ∀ u ∈ us, u.size ≤ maxLen := by
              rw [hus]
              cases hu : usesOf (netOf l) x with
              | none => simp
              | some us' => exact HUSZ.out x us' hu
            have HGX := Aside0.mk hgx
            have HCU := Aside0.mk hCu
            have HUS := Aside0.mk hus.symm
            have HUZ := Aside0.mk husz
            clear hgx hus hCu husz
            go_wp2_with (first | (at_lookup; refine set_look rfl _ _ rfl rfl HSH.out x rfl (HXS.out) ?_) | (at_lookup; refine set_look_w rfl _ _ rfl rfl HR.out.set x rfl (HXS.out) ?_) | (at_mapUpdate; refine set_put rfl _ _ _ rfl rfl HR.out.set (by unfold maxLen; omega) x rfl rfl (HXS.out) ?_; intro w3 hs3 hg3; have HR3 := Aside0.mk (HR.out.pop.put hs3 hg3 HG.out); have HMU3 := Aside0.mk (uses_after HMU.out HR.out.below hg3 HG.out); have n0' : w3.cell? ⟨b, 0, none⟩ = some (.map (some gu)) := blk_after HN.out HR.out hg3 HG.out; clear hs3 hg3 n0 n1) | (at_lookup; refine wpList_look rfl _ _ 68 rfl 23 key9 Try.underlying68 (zero23 _) rfl HMU3.out _ _ rfl (Go.WideMaps.keyOf_string_mk Try.underlying9 HXS.out) ?_; rw [keyB_at, HGX.out]) | ((with_reducible refine gate_builtin (b := .append) (xs := #[.tmp 48, .tmp 54]) rfl ?_); refine srow_appendAll w.heap.size rfl (.tmp 48) (.tmp 54) rfl rfl rfl HR3.out.row7 (Kd.C_below HCU.out HR3.out.below) (by omega) HR3.out.below.size ?_; intro A6 c6 w6 hr hg hat; have HR6 := Aside0.mk (HR3.out.app7 hr hg hat); clear hr hg hat))
            go_roundg k1
            case measure => omega
            case rel => exact ⟨⟨st ++ us, seen ++ [x], HR6.out, HP.out.push hx hs he HUS.out HND.out HUZ.out⟩⟩
end Go.Proofs.Ytdllpgeagdckmaa.Q

/- The net's sort: names, each behind what it uses, the least first. -/
namespace Go.Proofs.Ytdllpgeagdckmaa.Q
open Go.RowKit Go.Proofs.YtdllpgeagdckmaaW.PrintWords Go.Proofs.YtdllpgeagdckmaaW.PrintLast Go.Proofs.YtdllpgeagdckmaaW.PrintMore Go.Proofs.Ytdllpgeagdckmaa.MapKit Go.Maps Go.Proofs.Ytdllpgeagdckmaa.Ord
attribute [local go_sem] max2_int min2_int max_two min_two max_three min_three max_four min_four
set_option linter.unusedVariables false
set_option linter.unusedSimpArgs false

/-- What has come so far. -/
structure GPure (l : Net ByteArray) (hv want all out : List ByteArray) : Prop where
  nodup : out.Nodup
  sub : ∀ x ∈ out, x ∈ all
  least : ∀ i x, out[i]? = some x → IsLeast ltN (Ord.Next l hv want (out.take i)) x
theorem GPure.next {l : Net ByteArray} {hv want all out : List ByteArray} {x : ByteArray} (h : GPure l hv want all out) (hall : ∀ x, x ∈ all ↔ Ord.Reach l hv want x) (hx : IsLeast ltN (Ord.Next l hv want out) x) : GPure l hv want all (out ++ [x]) where
  nodup := by
    rw [List.nodup_append]
    exact ⟨h.nodup, by simp, fun a ha b hb e => hx.1.2.1 (by rw [← List.mem_singleton.1 hb, ← e]; exact ha)⟩
  sub := fun y hy => by
    rcases List.mem_append.1 hy with hy | hy
    · exact h.sub y hy
    · rw [List.mem_singleton.1 hy]
      exact (hall x).2 hx.1.1
  least := fun i y hi => by
    rcases Nat.lt_or_ge i out.length with hlt | hge
    · rw [List.getElem?_append_left hlt] at hi
      rw [List.take_append_of_le_length (by omega)]
      exact h.least i y hi
    · rw [List.getElem?_append_right hge] at hi
      have hi0 : i - out.length = 0 := by
        rcases Nat.eq_zero_or_pos (i - out.length) with h0 | h0
        · exact h0
        · rw [List.getElem?_eq_none (by simp; omega)] at hi
          cases hi
      rw [hi0] at hi
      simp at hi
      subst hi
      have : i = out.length := by omega
      rw [this, List.take_left]
      exact hx

def SortP (l : Net ByteArray) (hv want : List ByteArray) (w : World) (e : Ending) (w' : World) : Prop :=
  ∃ v out, e = .returned v ∧ SRow w' w.heap.size v out ∧ Greedy ltN l hv want out ∧ out.length ≤ 6000000 ∧ Below w.heap.size w w'

/-- Between two rounds. -/
structure SRel (w w' : World) (g : Nat) (v5 : Value) (hv out : List ByteArray) (n : Nat) : Prop where
  row : SRow w' w.heap.size v5 out
  set : SetIs w' g n (hv ++ out)
  below : Below w.heap.size w w'

/-- Nobody ahead of i can come. -/
def NotYet (l : Net ByteArray) (hv want all out : List ByteArray) (i : Nat) : Prop := ∀ j x, j < i → all[j]? = some x → ¬ Ord.Next l hv want out x

theorem least_of_first {l : Net ByteArray} {hv want all out : List ByteArray} (hall : ∀ x, x ∈ all ↔ Ord.Reach l hv want x) (hr : all.Pairwise (fun a b => ltN a b = true)) {i : Nat} {x : ByteArray} (hi : all[i]? = some x) (hn : NotYet l hv want all out i) (hx : Ord.Next l hv want out x) : IsLeast ltN (Ord.Next l hv want out) x := by
  refine ⟨hx, fun y hy => ?_⟩
  obtain ⟨j, hj⟩ := List.getElem?_of_mem ((hall y).2 hy.1)
  rcases Nat.lt_trichotomy j i with h | h | h
  · exact absurd hy (hn j y h hj)
  · subst h
    rw [hi] at hj
    cases hj
    exact totN.irr _
  · obtain ⟨hi1, hi2⟩ := List.getElem?_eq_some_iff.1 hi
    obtain ⟨hj1, hj2⟩ := List.getElem?_eq_some_iff.1 hj
    have h1 := List.pairwise_iff_getElem.1 hr i j hi1 hj1 h
    rw [hi2, hj2] at h1
    cases hc : ltN y x with
    | false => rfl
    | true =>
      have := totN.tr _ _ _ h1 hc
      rw [totN.irr] at this
      cases this

set_option maxHeartbeats 4000000 in
set_option maxRecDepth 100000 in
theorem sort_calls (w : World) (b gu gh : Nat) (A : Option Addr) (c : Nat) (l : List S41) (want hv all : List ByteArray) (hN : NetAt w b gu gh l hv) (hCa : Kd.string.C w A all.length all) (hal : all.length ≤ 6000000) (haz : ∀ x ∈ all, x.size ≤ maxLen) (hus : ∀ v ∈ l, ∀ u ∈ v.f1, u.size ≤ maxLen) (htot : tot (netOf l) ≤ 3000000) (hnd : ((netOf l).map (·.1)).Nodup)
    (hall : ∀ x, x ∈ all ↔ Ord.Reach (netOf l) hv want x) (hri : all.Pairwise (fun a b => ltN a b = true)) (h1 : ∀ x, Ord.Reach (netOf l) hv want x → usesOf (netOf l) x ≠ none) (h2 : ∀ x, Ord.Reach (netOf l) hv want x → ¬ Cyc (netOf l) hv x) :
    Calls Try.prog 22 #[.pointer (some ⟨b, 0, none⟩), .slice A all.length c] w (SortP (netOf l) hv want w) := by
  have husz : ∀ x us, usesOf (netOf l) x = some us → us.length ≤ 3000000 ∧ ∀ u ∈ us, u.size ≤ maxLen := fun x us hu => by
    have h1 := (usesOf_mem hnd).1 hu
    have h2 : us.length ≤ tot (netOf l) := by
      obtain ⟨i, hi⟩ := List.getElem?_of_mem h1
      obtain ⟨hi1, hi2⟩ := List.getElem?_eq_some_iff.1 hi
      have := tot_uses hi1
      rw [hi2] at this
      simp only at this
      omega
    simp only [netOf, List.mem_map, Prod.mk.injEq] at h1
    obtain ⟨v, hv1, _, rfl⟩ := h1
    exact ⟨by omega, hus v hv1⟩
  have HUSZ := Aside0.mk husz
  obtain ⟨F, nu, hmu, hF⟩ := hN.uses
  obtain ⟨nh, hnh, hsh⟩ := hN.have_
  have HN := Aside0.mk hN
  have HMU := Aside0.mk hmu
  have HF := Aside0.mk hF
  have HSH := Aside0.mk hsh
  have HCA := Aside0.mk hCa
  have HAZ := Aside0.mk haz
  have HND := Aside0.mk hnd
  have HALL := Aside0.mk hall
  have HRI := Aside0.mk hri
  have HH1 := Aside0.mk h1
  have HH2 := Aside0.mk h2
  have n1 : w.cell? ⟨b, 1, none⟩ = some (.map (some gh)) := (blk_cell hN.blk 1).trans rfl
  clear hN hmu hF hsh hCa haz hnd hall hri h1 h2 husz hus htot
  go_enter Try.func22, Try.ntmps22
  go_wp2_with (go_at_call 39; refine (clone_set w gh nh hv HSH.out).mono ?_; rintro e w1 ⟨rfl, hs1, hb1⟩; have HS1 := Aside0.mk hs1; have HB1 := Aside0.mk hb1; clear hs1 hb1 n1)
  obtain ⟨g, hg⟩ : ∃ g, g = w.heap.size := ⟨_, rfl⟩
  have hs1 := HS1.out
  rw [← hg] at hs1 ⊢
  have HG := Aside0.mk hg
  have H0 : Aside0 (SRel w w1 g (.slice none 0 0) hv [] nh ∧ GPure (netOf l) hv want all []) := ⟨⟨SRow.nil _ _, by simpa using hs1, HB1.out⟩, ⟨List.nodup_nil, by simp, fun i x hi => by simp at hi⟩⟩
  clear hg hs1 HS1 HB1
  go_loopg [5] (all.length + 1) (fun kq v5 w' => Aside0 (∃ out, SRel w w' g v5 hv out (nh + out.length) ∧ GPure (netOf l) hv want all out ∧ kq + out.length = all.length + 1))
  case atStart => exact ⟨⟨[], H0.out.1, H0.out.2, by simp⟩⟩
  case round =>
    clear H0
    obtain ⟨out, hR, hP, hkk⟩ := hrel.out
    have hlo : out.length ≤ all.length := subset_length hP.nodup hP.sub
    obtain ⟨A5, c5, rfl⟩ := hR.row.shape
    obtain ⟨S, hS⟩ : ∃ S, S = hv ++ out := ⟨_, rfl⟩
    have hset := hR.set
    rw [← hS] at hset
    have HSET := Aside0.mk hset
    have HSM := Aside0.mk (show ∀ x, x ∈ S ↔ x ∈ hv ∨ x ∈ out from fun x => by rw [hS, List.mem_append])
    have HSE := Aside0.mk hS
    have HR := Aside0.mk hR
    have HP := Aside0.mk hP
    clear hR hP hrel hS hset
    by_cases hlt : out.length < all.length
    · have hz : decide ((out.length : Int) < (all.length : Int)) = true := decide_eq_true (by omega)
      obtain ⟨k1, rfl⟩ : ∃ k1, gk = k1 + 1 := ⟨gk - 1, by omega⟩
      have hnn : ¬ NotYet (netOf l) hv want all out all.length := fun hn => by
        have hex : ∃ x0, x0 ∈ all ∧ x0 ∉ out := by
          refine Classical.byContradiction fun hno => ?_
          have hsub : ∀ x ∈ all, x ∈ out := fun x hx => Classical.byContradiction fun hxo => hno ⟨x, hx, hxo⟩
          have hna : all.Nodup := HRI.out.imp fun {a b} hl e => by rw [e, totN.irr] at hl; cases hl
          have := subset_length hna hsub
          omega
        obtain ⟨x0, hx0, hxo⟩ := hex
        obtain ⟨x, hx⟩ := exists_next HH1.out HH2.out all out HALL.out hx0 hxo
        obtain ⟨j, hj⟩ := List.getElem?_of_mem ((HALL.out x).2 hx.1)
        exact hn j x (List.getElem?_eq_some_iff.1 hj).1 hj hx
      have HNN := Aside0.mk hnn
      clear hnn
      go_wp2_with fail
      go_step3
      go_wp2_with fail
      go_step3
      go_wp2_with fail
      go_loopg [5, 23] (all.length + 1) (fun kq v5 v23 w' => ∃ i : Nat, v5 = .slice A5 out.length c5 ∧ v23 = .int .i64 (i : Int) ∧ Aside0 (i ≤ all.length) ∧ Aside0 (kq + i = all.length + 1) ∧ Aside0 (NotYet (netOf l) hv want all out i) ∧ w' = wr)
      case atStart => exact ⟨0, rfl, rfl, ⟨Nat.zero_le _⟩, ⟨by omega⟩, ⟨fun j x hj => by omega⟩, rfl⟩
      obtain ⟨i, rfl, rfl, HI, HKI, HNY, rfl⟩ := hrel
      have hi := HI.out
      have hki := HKI.out
      have hlti : i < all.length := by
        rcases Nat.lt_or_ge i all.length with h | h
        · exact h
        · have : i = all.length := by omega
          exact absurd (by rw [← this]; exact HNY.out) HNN.out
      have hzi : decide ((i : Int) < (all.length : Int)) = true := decide_eq_true (by omega)
      obtain ⟨k2, rfl⟩ : ∃ k2, gk = k2 + 1 := ⟨gk - 1, by omega⟩
      obtain ⟨ad, rfl, z0⟩ := name_at (Kd.C_below HCA.out HR.out.below) i hlti
      obtain ⟨x, hx⟩ : ∃ x, x = all[i] := ⟨_, rfl⟩
      rw [← hx] at z0
      have hxa : all[i]? = some x := by rw [List.getElem?_eq_getElem hlti, ← hx]
      have hxm : x ∈ all := by rw [hx]; exact List.getElem_mem hlti
      have hxs : x.size ≤ maxLen := HAZ.out x hxm
      have hxr := (HALL.out x).1 hxm
      have hxh : x ∉ hv := hxr.not_have
      obtain ⟨us, hus⟩ := Option.ne_none_iff_exists'.1 (HH1.out x hxr)
      obtain ⟨Au, cu, hgx, hCu⟩ := uses_get (HF.out.below HR.out.below) x
      rw [hus, Option.getD_some] at hgx hCu
      obtain ⟨hul, huz⟩ := HUSZ.out x us hus
      have HXA := Aside0.mk hxa
      have HXM := Aside0.mk hxm
      have HXS := Aside0.mk hxs
      have HXH := Aside0.mk hxh
      have HXR := Aside0.mk hxr
      have HU := Aside0.mk hus
      have HGX := Aside0.mk hgx
      have HCU := Aside0.mk hCu
      have HUZ := Aside0.mk huz
      have n0 : _ = some (Value.map (some gu)) := (blk_cell (HN.out.below HR.out.below).blk 0).trans rfl
      clear hxa hxm hxs hxr hxh hus hgx hCu huz hx hi
      by_cases hxo : x ∈ out
      · have hxS : x ∈ S := (HSM.out x).2 (.inr hxo)
        have hxd : decide (x ∈ S) = true := decide_eq_true hxS
        go_wp2_with (at_lookup; refine set_look rfl _ _ rfl rfl HSET.out x rfl (HXS.out) ?_)
        go_roundg k2
        case measure => omega
        case rel =>
          refine ⟨i + 1, rfl, by push_cast; rfl, ⟨by omega⟩, ⟨by omega⟩, ⟨fun j y hj hy hny => ?_⟩, rfl⟩
          rcases Nat.lt_or_ge j i with h | h
          · exact HNY.out j y h hy hny
          · obtain rfl : j = i := by omega
            rw [HXA.out] at hy
            cases hy
            exact hny.2.1 hxo
      · have hxS : x ∉ S := fun h => ((HSM.out x).1 h).elim HXH.out hxo
        have hxd : decide (x ∈ S) = false := decide_eq_false hxS
        go_wp2_with (first | (at_lookup; refine set_look rfl _ _ rfl rfl HSET.out x rfl (HXS.out) ?_) | (at_lookup; refine wpList_look rfl _ _ 68 rfl 23 key9 Try.underlying68 (zero23 _) rfl (HMU.out.below HR.out.below) _ _ rfl (Go.WideMaps.keyOf_string_mk Try.underlying9 HXS.out) ?_; rw [keyB_at, HGX.out]))
        go_loopg [37] (us.length + 1) (fun kq v37 w' => ∃ m : Nat, v37 = .int .i64 (m : Int) ∧ Aside0 (m ≤ us.length) ∧ Aside0 (kq + m = us.length + 1) ∧ Aside0 (∀ j y, j < m → us[j]? = some y → y ∈ S) ∧ w' = wr)
        case atStart => exact ⟨0, rfl, ⟨Nat.zero_le _⟩, ⟨by omega⟩, ⟨fun j y hj => by omega⟩, rfl⟩
        obtain ⟨m, rfl, HM, HKM, HYS, rfl⟩ := hrel
        have hm := HM.out
        have hkm := HKM.out
        by_cases hltm : m < us.length
        · have hzm : decide ((m : Int) < (us.length : Int)) = true := decide_eq_true (by omega)
          obtain ⟨k3, rfl⟩ : ∃ k3, gk = k3 + 1 := ⟨gk - 1, by omega⟩
          obtain ⟨ad2, rfl, z1⟩ := name_at HCU.out m hltm
          obtain ⟨u, hu⟩ : ∃ u, u = us[m] := ⟨_, rfl⟩
          rw [← hu] at z1
          have hua : us[m]? = some u := by rw [List.getElem?_eq_getElem hltm, ← hu]
          have hum : u ∈ us := by rw [hu]; exact List.getElem_mem hltm
          have hul2 : u.size ≤ maxLen := HUZ.out u hum
          have HUA := Aside0.mk hua
          have HUM := Aside0.mk hum
          have HUS := Aside0.mk hul2
          clear hua hum hul2 hu hm
          by_cases hud : u ∈ S
          · have hudb : decide (u ∈ S) = true := decide_eq_true hud
            go_wp2_with (at_lookup; refine set_look rfl _ _ rfl rfl HSET.out u rfl (HUS.out) ?_)
            go_roundg k3
            case measure => omega
            case rel =>
              refine ⟨m + 1, by push_cast; rfl, ⟨by omega⟩, ⟨by omega⟩, ⟨fun j y hj hy => ?_⟩, rfl⟩
              rcases Nat.lt_or_ge j m with h | h
              · exact HYS.out j y h hy
              · obtain rfl : j = m := by omega
                rw [HUA.out] at hy
                cases hy
                exact hud
          · have hudb : decide (u ∈ S) = false := decide_eq_false hud
            go_wp2_with (at_lookup; refine set_look rfl _ _ rfl rfl HSET.out u rfl (HUS.out) ?_)
            go_roundg k2
            case measure => omega
            case rel =>
              refine ⟨i + 1, rfl, by push_cast; rfl, ⟨by omega⟩, ⟨by omega⟩, ⟨fun j y hj hy hny => ?_⟩, rfl⟩
              rcases Nat.lt_or_ge j i with h | h
              · exact HNY.out j y h hy hny
              · obtain rfl : j = i := by omega
                rw [HXA.out] at hy
                cases hy
                exact hud ((HSM.out u).2 (hny.2.2 us HU.out u HUM.out))
        · have hzm : decide ((m : Int) < (us.length : Int)) = false := decide_eq_false (by omega)
          have hml : m = us.length := by omega
          have hnx : IsLeast ltN (Ord.Next (netOf l) hv want out) x := least_of_first HALL.out HRI.out HXA.out HNY.out ⟨HXR.out, hxo, fun us' hus' u hu => by
            rw [HU.out] at hus'
            cases hus'
            obtain ⟨j, hj⟩ := List.getElem?_of_mem hu
            have hjl := (List.getElem?_eq_some_iff.1 hj).1
            exact (HSM.out u).1 (HYS.out j u (by omega) hj)⟩
          have HNX := Aside0.mk hnx
          clear hnx hml
          go_wp2_with (first | (at_mapUpdate; refine set_put rfl _ _ _ rfl rfl HSET.out (by unfold maxLen; omega) x rfl rfl (HXS.out) ?_; intro w3 hs3 hg3; have HS3 := Aside0.mk hs3; have HG3 := Aside0.mk hg3; have HR3 := Aside0.mk (HR.out.row.other hg3 (.inr (map_ne_row HSET.out HR.out.row))); have HB3 := Aside0.mk (show Below w.heap.size w w3 from pw_below_grown HR.out.below _ HR.out.below.size hg3 (fun k e => by cases e; have := HG.out; omega)); clear hs3 hg3) | ((with_reducible refine gate_builtin (b := .append) (xs := #[.tmp 48, .tmp 50]) rfl ?_); refine srow_append w.heap.size rfl (.tmp 48) (.tmp 50) rfl rfl x rfl HR3.out (by omega) HB3.out.size ?_; intro A6 c6 w6 hr hg hat; have HR6 := Aside0.mk hr; have HG6 := Aside0.mk hg; clear hr hg hat))
          rw [Exit.noGoto_normal]
          go_wp2_with fail
          go_roundg k1
          case measure => omega
          case rel =>
            refine ⟨⟨out ++ [x], ⟨?_, ?_, ?_⟩, HP.out.next HALL.out HNX.out, by simp; omega⟩⟩
            · exact HR6.out
            · rw [← List.append_assoc, ← HSE.out, List.length_append]
              exact HS3.out.kept HG6.out (map_ne_row HS3.out HR3.out)
            · exact pw_below_grown HB3.out _ HB3.out.size HG6.out HR3.out.base_le
    · have hz : decide ((out.length : Int) < (all.length : Int)) = false := decide_eq_false (by omega)
      go_wp2_with fail
      go_ret
      have hfull := subset_full HP.out.nodup HP.out.sub (by omega)
      exact ⟨_, out, rfl, HR.out.row, ⟨fun x => ⟨fun h => (HALL.out x).1 (HP.out.sub x h), fun h => hfull x ((HALL.out x).2 h)⟩, HP.out.nodup, HP.out.least⟩, by omega, HR.out.below⟩
end Go.Proofs.Ytdllpgeagdckmaa.Q

/- order.Sort: its answer is the one that the theory of nets gives. -/
namespace Go.Proofs.Ytdllpgeagdckmaa.Q
open Go.RowKit Go.Proofs.YtdllpgeagdckmaaW.PrintWords Go.Proofs.YtdllpgeagdckmaaW.PrintLast Go.Proofs.YtdllpgeagdckmaaW.PrintMore Go.Proofs.Ytdllpgeagdckmaa.MapKit Go.Maps Go.Proofs.Ytdllpgeagdckmaa.Ord
attribute [local go_sem] max2_int min2_int max_two min_two max_three min_three max_four min_four
set_option linter.unusedVariables false
set_option linter.unusedSimpArgs false

def noName : ByteArray := ⟨#[]⟩
def SortsB (l : List S41) (want hv : List ByteArray) (r : List ByteArray × ByteArray × Int) : Prop := Sorts ltN noName (netOf l) want hv r.1 r.2.1 r.2.2

def SortQ (l : List S41) (want hv : List ByteArray) (w : World) (e : Ending) (w' : World) : Prop :=
  ∃ v r1 r2 r3, e = .returned (.tuple #[v, .string r2, .int .i64 r3]) ∧ SortsB l want hv (r1, r2, r3) ∧ SRow w' w.heap.size v r1 ∧ Below w.heap.size w w'

set_option maxHeartbeats 4000000 in
set_option maxRecDepth 100000 in
theorem sort_walk (w : World) (A A1 A2 : Option Addr) (c c1 c2 : Nat) (l : List S41) (want hv : List ByteArray) (hC : Kd.C k41 w A l.length l) (hc : l.length ≤ c) (hC1 : Kd.string.C w A1 want.length want) (hc1 : want.length ≤ c1) (hC2 : Kd.string.C w A2 hv.length hv) (hc2 : hv.length ≤ c2) (hfit : Fit l want hv) :
    Calls Try.prog 8 #[.slice A l.length c, .slice A1 want.length c1, .slice A2 hv.length c2] w (SortQ l want hv w) := by
  have HC := Aside0.mk hC
  have HC1 := Aside0.mk hC1
  have HC2 := Aside0.mk hC2
  have HF := Aside0.mk hfit
  have HL := Aside0.mk hc
  clear hC hC1 hC2 hfit hc hc1 hc2
  go_enter Try.func8, Try.ntmps8
  go_wp2_with fail
  refine (twice_calls w A c l HC.out HL.out HF.out.tot_ HF.out.names HF.out.uses).mono ?_
  rintro e w1 ⟨⟨hb0, rfl⟩ | ⟨m, hm, rfl⟩, hb1⟩
  · have hnd := (bads_nil hb0).1
    have HB0 := Aside0.mk hb0
    have HND := Aside0.mk hnd
    have HB1 := Aside0.mk hb1
    clear hb0 hnd hb1
    go_wp2_with fail
    refine (of_calls w1 A A2 c c2 l hv (Kd.C_below HC.out HB1.out) (Kd.C_below HC2.out HB1.out) HF.out.tot_ HF.out.hv_ HF.out.names HF.out.havs HND.out).mono ?_
    rintro e w2 ⟨b, gu, gh, rfl, hN2, hb2⟩
    have HN2 := Aside0.mk hN2
    have HB2 := Aside0.mk (below_step HB1.out hb2)
    clear hN2 hb2
    go_wp2_with fail
    refine (wanted_calls w2 b gu gh A1 c1 l want hv HN2.out (Kd.C_below HC1.out HB2.out) HF.out.tot_ HF.out.want_ HF.out.uses HF.out.wants HND.out).mono ?_
    rintro e w3 ⟨va, vm, all, mis, rfl, hra, hrm, hall, hri, hmis, hal, hml, hb3⟩
    have HN3 := Aside0.mk (HN2.out.below hb3)
    have HB3 := Aside0.mk (below_step HB2.out hb3)
    obtain ⟨Aa, ca, rfl, hca, hCa⟩ := hra.reads
    obtain ⟨Am, cm, rfl, hcm, hCm⟩ := hrm.reads
    have HCA := Aside0.mk hCa
    have HCM := Aside0.mk hCm
    have HALL := Aside0.mk hall
    have HRI := Aside0.mk hri
    have HMIS := Aside0.mk hmis
    have HBW := Aside0.mk HB2.out.size
    clear hra hrm hall hri hmis hb3 hCa hCm hca hcm
    rcases Nat.eq_zero_or_pos mis.length with h0 | h0
    · have hm0 := List.eq_nil_of_length_eq_zero h0
      subst hm0
      have hh1 : ∀ x, Ord.Reach (netOf l) hv want x → usesOf (netOf l) x ≠ none := fun x hx hu => by
        have := (HMIS.out x).2 ⟨hx, hu⟩
        simp at this
      have HH1 := Aside0.mk hh1
      have haz : ∀ x ∈ all, x.size ≤ maxLen := fun x hx => by
        have hr := (HALL.out x).1 hx
        obtain ⟨us, hus⟩ := Option.ne_none_iff_exists'.1 (hh1 x hr)
        have h1 := (usesOf_mem HND.out).1 hus
        simp only [netOf, List.mem_map, Prod.mk.injEq] at h1
        obtain ⟨v, hv1, rfl, _⟩ := h1
        exact HF.out.names v hv1
      have HAZ := Aside0.mk haz
      clear hh1 haz h0
      go_wp2_with fail
      go_loopg [39] (all.length + 1) (fun kq v39 w' => ∃ i : Nat, v39 = .int .i64 (i : Int) ∧ Aside0 (i ≤ all.length) ∧ Aside0 (kq + i = all.length + 1) ∧ Aside0 (∀ j x, j < i → all[j]? = some x → ¬ Cyc (netOf l) hv x) ∧ Aside0 (Below w3.heap.size w3 w'))
      case atStart => exact ⟨0, rfl, ⟨Nat.zero_le _⟩, ⟨by omega⟩, ⟨fun j x hj => by omega⟩, ⟨Below.refl _ _⟩⟩
      obtain ⟨i, rfl, HI, HK, HCY, HBE⟩ := hrel
      have hi := HI.out
      have hk := HK.out
      by_cases hlt : i < all.length
      · have hz : decide ((i : Int) < (all.length : Int)) = true := decide_eq_true (by omega)
        obtain ⟨k1, rfl⟩ : ∃ k1, gk = k1 + 1 := ⟨gk - 1, by omega⟩
        obtain ⟨ad, rfl, z0⟩ := name_at (Kd.C_below HCA.out HBE.out) i hlt
        obtain ⟨x, hx⟩ : ∃ x, x = all[i] := ⟨_, rfl⟩
        rw [← hx] at z0
        have hxa : all[i]? = some x := by rw [List.getElem?_eq_getElem hlt, ← hx]
        have hxm : x ∈ all := by rw [hx]; exact List.getElem_mem hlt
        have hxr := (HALL.out x).1 hxm
        obtain ⟨us, hus⟩ := Option.ne_none_iff_exists'.1 (HH1.out x hxr)
        have hul : us.length ≤ 3000000 := by
          have h1 := (usesOf_mem HND.out).1 hus
          obtain ⟨j, hj⟩ := List.getElem?_of_mem h1
          obtain ⟨hj1, hj2⟩ := List.getElem?_eq_some_iff.1 hj
          have h2 := tot_uses hj1
          rw [hj2] at h2
          have h3 := HF.out.tot_
          simp only at h2
          omega
        have HXA := Aside0.mk hxa
        have HXR := Aside0.mk hxr
        have HU := Aside0.mk hus
        have HXS := Aside0.mk (HAZ.out x hxm)
        have HUL := Aside0.mk hul
        clear hxa hxm hxr hus hul hx hi
        go_wp2_with fail
        refine (circle_calls _ b gu gh l hv us x (HN3.out.below HBE.out) HF.out.tot_ HF.out.uses HXS.out HND.out HU.out HUL.out).mono ?_
        rintro e w4 ⟨⟨hr, rfl⟩ | ⟨hr, rfl⟩, hb4⟩
        · have HB4 := Aside0.mk hb4
          have HR := Aside0.mk hr
          clear hb4 hr
          go_wp2_with fail
          go_ret3
          refine ⟨_, [], x, 15, rfl, ?_, SRow.nil _ _, below_step HB3.out (below_step HBE.out HB4.out)⟩
          refine .cycle x HB0.out HH1.out ⟨⟨HXR.out, us, HU.out, HR.out⟩, fun y hy => ?_⟩
          obtain ⟨j, hj⟩ := List.getElem?_of_mem ((HALL.out y).2 hy.1)
          rcases Nat.lt_trichotomy j i with h | h | h
          · exact absurd hy.2 (HCY.out j y h hj)
          · subst h
            rw [HXA.out] at hj
            cases hj
            exact totN.irr _
          · obtain ⟨hi1, hi2⟩ := List.getElem?_eq_some_iff.1 HXA.out
            obtain ⟨hj1, hj2⟩ := List.getElem?_eq_some_iff.1 hj
            have h1 := List.pairwise_iff_getElem.1 HRI.out i j hi1 hj1 h
            rw [hi2, hj2] at h1
            cases hc : ltN y x with
            | false => rfl
            | true =>
              have := totN.tr _ _ _ h1 hc
              rw [totN.irr] at this
              cases this
        · have HB4 := Aside0.mk hb4
          have HR := Aside0.mk hr
          clear hb4 hr
          go_wp2_with fail
          go_roundg k1
          case measure => omega
          case rel =>
            refine ⟨i + 1, by push_cast; rfl, ⟨by omega⟩, ⟨by omega⟩, ⟨fun j y hj hy => ?_⟩, ⟨below_step HBE.out HB4.out⟩⟩
            rcases Nat.lt_or_ge j i with h | h
            · exact HCY.out j y h hy
            · obtain rfl : j = i := by omega
              rw [HXA.out] at hy
              cases hy
              rintro ⟨us', hus', hr'⟩
              rw [HU.out] at hus'
              cases hus'
              exact HR.out hr'
      · have hz : decide ((i : Int) < (all.length : Int)) = false := decide_eq_false (by omega)
        have hh2 : ∀ x, Ord.Reach (netOf l) hv want x → ¬ Cyc (netOf l) hv x := fun x hx => by
          obtain ⟨j, hj⟩ := List.getElem?_of_mem ((HALL.out x).2 hx)
          exact HCY.out j x (by have := (List.getElem?_eq_some_iff.1 hj).1; omega) hj
        have HH2 := Aside0.mk hh2
        clear hh2
        go_wp2_with fail
        refine (sort_calls _ b gu gh Aa ca l want hv all (HN3.out.below HBE.out) (Kd.C_below HCA.out HBE.out) hal HAZ.out HF.out.uses HF.out.tot_ HND.out HALL.out HRI.out HH1.out HH2.out).mono ?_
        rintro e w5 ⟨v, out, rfl, hr5, hg5, hl5, hb5⟩
        have HR5 := Aside0.mk hr5
        have HG5 := Aside0.mk hg5
        have HB5 := Aside0.mk hb5
        clear hr5 hg5 hb5
        go_wp2_with fail
        go_ret3
        exact ⟨_, out, noName, 0, rfl, .ok out HB0.out HH1.out HH2.out HG5.out, own_weaken HR5.out (below_step HB3.out HBE.out).size, below_step HB3.out (below_step HBE.out HB5.out)⟩
    · have h0b : (0 : Int) < (mis.length : Int) := by omega
      go_wp2_with fail
      refine (min_names _ Am cm mis HCM.out (by omega) h0).mono ?_
      rintro e w4 ⟨m, rfl, hm, rfl⟩
      have HM := Aside0.mk hm
      clear hm
      go_wp2_with fail
      go_ret3
      exact ⟨_, [], m, 6, rfl, .none_ m HB0.out (HM.out.congr HMIS.out), SRow.nil _ _, HB3.out⟩
  · have HM := Aside0.mk hm
    have HB1 := Aside0.mk hb1
    clear hm hb1
    go_wp2_with fail
    go_ret3
    exact ⟨_, [], m, 14, rfl, .twice m HM.out, SRow.nil _ _, HB1.out⟩

noncomputable def order_Sort.f (l : List S41) (want hv : List ByteArray) : Option (List ByteArray × ByteArray × Int) := by
  classical
  exact if h : Fit l want hv ∧ ∃ r, SortsB l want hv r then some (Classical.choose h.2) else none
theorem order_Sort.spec {l : List S41} {want hv : List ByteArray} {r : List ByteArray × ByteArray × Int} (h : order_Sort.f l want hv = some r) : Fit l want hv ∧ SortsB l want hv r := by
  unfold order_Sort.f at h
  split at h
  · rename_i hc
    simp only [Option.some.injEq] at h
    rw [← h]
    exact ⟨hc.1, Classical.choose_spec hc.2⟩
  · cases h
theorem order_Sort.of {l : List S41} {want hv : List ByteArray} {r : List ByteArray × ByteArray × Int} (hf : Fit l want hv) (h : SortsB l want hv r) : order_Sort.f l want hv = some r := by
  unfold order_Sort.f
  have hc : Fit l want hv ∧ ∃ r, SortsB l want hv r := ⟨hf, r, h⟩
  rw [dif_pos hc]
  have h2 := Classical.choose_spec hc.2
  obtain ⟨e1, e2, e3⟩ := Sorts.unique totN h h2
  congr 1
  exact (Prod.ext e1 (Prod.ext e2 e3)).symm

theorem order_Sort.calls (A0 : Option Addr) (c0 : Nat) (l0 : List S41) (A1 : Option Addr) (c1 : Nat) (l1 : List ByteArray) (A2 : Option Addr) (c2 : Nat) (l2 : List ByteArray) (r1 : List ByteArray) (r2 : ByteArray) (r3 : Int) (w : World) (hr0 : Kd.C k41 w A0 l0.length l0) (hc0 : l0.length ≤ c0) (hr1 : Kd.C Kd.string w A1 l1.length l1) (hc1 : l1.length ≤ c1) (hr2 : Kd.C Kd.string w A2 l2.length l2) (hc2 : l2.length ≤ c2) (h : order_Sort.f l0 l1 l2 = some (r1, r2, r3)) :
    Calls Try.prog 8 #[.slice A0 l0.length c0, .slice A1 l1.length c1, .slice A2 l2.length c2] w fun e w' => ∃ v0_ : Value, e = .returned (.tuple #[v0_, .string r2, .int .i64 r3]) ∧ Kd.R Kd.string 9 w' w.heap.size (fun _ => True) v0_ r1 ∧ Below w.heap.size w w' := by
  obtain ⟨hf, hs⟩ := order_Sort.spec h
  refine (sort_walk w A0 A1 A2 c0 c1 c2 l0 l1 l2 hr0 hc0 hr1 hc1 hr2 hc2 hf).mono ?_
  rintro e w' ⟨v, q1, q2, q3, rfl, hq, hrow, hb⟩
  obtain ⟨e1, e2, e3⟩ := Sorts.unique totN hq hs
  simp only at e1 e2 e3
  subst e1 e2 e3
  exact ⟨v, rfl, Kd.R_of_own hrow (fun _ _ => trivial), hb⟩
end Go.Proofs.Ytdllpgeagdckmaa.Q

/- There is always an answer; and what an order has that is one. Plain lists, no program. -/
namespace Go.Proofs.Ytdllpgeagdckmaa.Ord
set_option linter.unusedVariables false
set_option linter.unusedSimpArgs false
set_option linter.unusedSectionVars false
section
variable {N : Type} [DecidableEq N]

theorem sieve (P : N → Prop) : ∀ C : List N, ∃ D : List N, D.Nodup ∧ ∀ x, x ∈ D ↔ x ∈ C ∧ P x
  | [] => ⟨[], List.nodup_nil, by simp⟩
  | a :: C => by
    obtain ⟨D, hn, hm⟩ := sieve P C
    rcases Classical.em (P a ∧ a ∉ D) with h | h
    · refine ⟨a :: D, List.nodup_cons.2 ⟨h.2, hn⟩, fun x => ?_⟩
      rw [List.mem_cons, List.mem_cons, hm]
      constructor
      · rintro (rfl | ⟨h1, h2⟩)
        · exact ⟨.inl rfl, h.1⟩
        · exact ⟨.inr h1, h2⟩
      · rintro ⟨rfl | h1, h2⟩
        · exact .inl rfl
        · exact .inr ⟨h1, h2⟩
    · refine ⟨D, hn, fun x => ?_⟩
      rw [List.mem_cons, hm]
      constructor
      · rintro ⟨h1, h2⟩
        exact ⟨.inr h1, h2⟩
      · rintro ⟨rfl | h1, h2⟩
        · have h3 : x ∈ D := Classical.not_not.1 fun hx => h ⟨h2, hx⟩
          exact (hm x).1 h3
        · exact ⟨h1, h2⟩

theorem least_exists {lt : N → N → Bool} (T : Tot lt) {P : N → Prop} (C : List N) (hC : ∀ x, P x → x ∈ C) (h : ∃ x, P x) : ∃ m, IsLeast lt P m := by
  obtain ⟨D, _, hm⟩ := sieve P C
  obtain ⟨x, hx⟩ := h
  cases D with
  | nil => have := (hm x).2 ⟨hC x hx, hx⟩; simp at this
  | cons a D => exact ⟨_, (leastO_is T D a).congr fun y => (hm y).trans ⟨fun h => h.2, fun h => ⟨hC y h, h⟩⟩⟩

theorem usesOf_sub {list : Net N} {x : N} {us : List N} (h : usesOf list x = some us) : ∃ v ∈ list, v.2 = us := by
  unfold usesOf at h
  obtain ⟨v, hv, e⟩ := Option.map_eq_some_iff.1 h
  exact ⟨v, List.mem_of_find?_eq_some hv, e⟩
theorem Reach.cand {list : Net N} {hv from_ : List N} {x : N} (h : Reach list hv from_ x) : x ∈ from_ ++ list.flatMap (·.2) := by
  cases h with
  | base x h hn => exact List.mem_append_left _ h
  | step y x us hy hu h hn =>
    obtain ⟨v, hv, rfl⟩ := usesOf_sub hu
    exact List.mem_append_right _ (List.mem_flatMap.2 ⟨v, hv, h⟩)

theorem greedy_exists {lt : N → N → Bool} (T : Tot lt) {list : Net N} {hv want : List N} (h1 : ∀ x, Reach list hv want x → usesOf list x ≠ none) (h2 : ∀ x, Reach list hv want x → ¬ Cyc list hv x) : ∃ l, Greedy lt list hv want l := by
  obtain ⟨all, hn, hm⟩ := sieve (Reach list hv want) (want ++ list.flatMap (·.2))
  have hall : ∀ x, x ∈ all ↔ Reach list hv want x := fun x => (hm x).trans ⟨fun h => h.2, fun h => ⟨h.cand, h⟩⟩
  have key : ∀ n, n ≤ all.length → ∃ l : List N, l.length = n ∧ l.Nodup ∧ (∀ x ∈ l, x ∈ all) ∧ ∀ i x, l[i]? = some x → IsLeast lt (Next list hv want (l.take i)) x := by
    intro n
    induction n with
    | zero => exact fun _ => ⟨[], rfl, List.nodup_nil, by simp, by simp⟩
    | succ n ih =>
      intro hle
      obtain ⟨l, hl, hln, hls, hlg⟩ := ih (by omega)
      have : ∃ x0, x0 ∈ all ∧ x0 ∉ l := by
        apply Classical.byContradiction
        intro hc
        have hs : ∀ x ∈ all, x ∈ l := fun x hx => Classical.not_not.1 fun hx2 => hc ⟨x, hx, hx2⟩
        have := subset_length hn hs
        omega
      obtain ⟨x0, hx0, hx1⟩ := this
      obtain ⟨m, hmm⟩ := least_exists T (P := Next list hv want l) all (fun x hx => (hall x).2 hx.1) (exists_next h1 h2 all l hall hx0 hx1)
      refine ⟨l ++ [m], by simp [hl], ?_, ?_, ?_⟩
      · rw [List.nodup_append]
        exact ⟨hln, by simp, fun a ha b hb e => hmm.1.2.1 (by rw [← List.mem_singleton.1 hb, ← e]; exact ha)⟩
      · intro x hx
        rcases List.mem_append.1 hx with hx | hx
        · exact hls x hx
        · rw [List.mem_singleton.1 hx]; exact (hall m).2 hmm.1.1
      · intro i x hx
        rcases Nat.lt_or_ge i l.length with hi | hi
        · rw [List.getElem?_append_left hi] at hx
          rw [List.take_append_of_le_length (by omega)]
          exact hlg i x hx
        · rw [List.getElem?_append_right hi] at hx
          have hi0 : i - l.length = 0 := by
            have := (List.getElem?_eq_some_iff.1 hx).1
            simp at this
            omega
          rw [hi0] at hx
          have e : m = x := by simpa using hx
          have ei : i = l.length := by omega
          subst ei
          rw [List.take_left, ← e]
          exact hmm
  obtain ⟨l, hl, hln, hls, hlg⟩ := key all.length (Nat.le_refl _)
  exact ⟨l, fun x => ⟨fun hx => (hall x).1 (hls x hx), fun hx => subset_full hln hls (by omega) x ((hall x).2 hx)⟩, hln, hlg⟩

theorem sorts_exists {lt : N → N → Bool} (T : Tot lt) (emp : N) (list : Net N) (want hv : List N) : ∃ l m e, Sorts lt emp list want hv l m e := by
  by_cases h0 : bads list = []
  · by_cases h1 : ∃ x, Reach list hv want x ∧ usesOf list x = none
    · obtain ⟨m, hm⟩ := least_exists T (want ++ list.flatMap (·.2)) (fun x hx => hx.1.cand) h1
      exact ⟨_, _, _, .none_ m h0 hm⟩
    · have h1' : ∀ x, Reach list hv want x → usesOf list x ≠ none := fun x hx e => h1 ⟨x, hx, e⟩
      by_cases h2 : ∃ x, Reach list hv want x ∧ Cyc list hv x
      · obtain ⟨m, hm⟩ := least_exists T (want ++ list.flatMap (·.2)) (fun x hx => hx.1.cand) h2
        exact ⟨_, _, _, .cycle m h0 h1' hm⟩
      · have h2' : ∀ x, Reach list hv want x → ¬ Cyc list hv x := fun x hx e => h2 ⟨x, hx, e⟩
        obtain ⟨l, hl⟩ := greedy_exists T h1' h2'
        exact ⟨_, _, _, .ok l h0 h1' h2' hl⟩
  · have : ∃ x, x ∈ bads list := by
      cases hb : bads list with
      | nil => exact absurd hb h0
      | cons a l => exact ⟨a, by simp⟩
    obtain ⟨m, hm⟩ := least_exists T (bads list) (fun x hx => hx) this
    exact ⟨_, _, _, .twice m hm⟩

/-! ### What an order is -/
variable {lt : N → N → Bool} {list : Net N} {hv want l : List N}
theorem Greedy.wanted (h : Greedy lt list hv want l) {x : N} (hx : x ∈ want) : x ∈ l ∨ x ∈ hv :=
  (Classical.em (x ∈ hv)).symm.imp (fun hn => (h.mem x).2 (.base x hx hn)) id
theorem Greedy.apart (h : Greedy lt list hv want l) {x : N} (hx : x ∈ l) : x ∉ hv := ((h.mem x).1 hx).not_have
/-- What it uses was there, or came ahead of it. -/
theorem Greedy.behind (h : Greedy lt list hv want l) {i : Nat} {x : N} (hx : l[i]? = some x) {us : List N} (hus : usesOf list x = some us) {u : N} (hu : u ∈ us) : u ∈ hv ∨ u ∈ l.take i := (h.least i x hx).1.2.2 us hus u hu
/-- Who could have come a place earlier is greater. -/
theorem Greedy.early (h : Greedy lt list hv want l) {i : Nat} {x y : N} (hx : l[i + 1]? = some x) (hy : l[i]? = some y) (hr : ∀ us, usesOf list x = some us → ∀ u ∈ us, u ∈ hv ∨ u ∈ l.take i) : lt x y = false := by
  refine (h.least i y hy).2 x ⟨(h.mem x).1 (List.mem_of_getElem? hx), fun hm => ?_, hr⟩
  have e : l.take i = (l.take (i + 1)).take i := by rw [List.take_take, Nat.min_eq_left (by omega)]
  rw [e] at hm
  exact (h.least (i + 1) x hx).1.2.1 (List.mem_of_mem_take hm)
end
end Go.Proofs.Ytdllpgeagdckmaa.Ord

/- Levels: those that use nothing, those that use only them, and so on. Plain lists, no program. -/
namespace Go.Proofs.Ytdllpgeagdckmaa.Ord
set_option linter.unusedVariables false
set_option linter.unusedSimpArgs false
set_option linter.unusedSectionVars false
section
variable {N : Type} [DecidableEq N]

/-- One more than the highest of those that it uses; 0: it uses none. -/
def lvl (list : Net N) (F : N → Nat) (x : N) : Nat := ((usesOf list x).getD []).foldl (fun k u => max k (F u + 1)) 0
theorem foldl_max_congr {F G : N → Nat} : ∀ (us : List N) (k : Nat), (∀ u ∈ us, F u = G u) → us.foldl (fun k u => max k (F u + 1)) k = us.foldl (fun k u => max k (G u + 1)) k
  | [], k, _ => rfl
  | u :: us, k, h => by
    rw [List.foldl_cons, List.foldl_cons, h u List.mem_cons_self]
    exact foldl_max_congr us _ (fun v hv => h v (List.mem_cons_of_mem _ hv))
theorem lvl_congr {list : Net N} {F G : N → Nat} {x : N} (h : ∀ us, usesOf list x = some us → ∀ u ∈ us, F u = G u) : lvl list F x = lvl list G x := by
  unfold lvl
  cases hu : usesOf list x with
  | none => rfl
  | some us => exact foldl_max_congr us 0 (h us hu)
theorem foldl_max_le {F : N → Nat} : ∀ (us : List N) (k : Nat), k ≤ us.foldl (fun k u => max k (F u + 1)) k
  | [], k => Nat.le_refl _
  | u :: us, k => by
    rw [List.foldl_cons]
    exact Nat.le_trans (Nat.le_max_left _ _) (foldl_max_le us _)
theorem foldl_max_mem {F : N → Nat} : ∀ (us : List N) (k : Nat) (u : N), u ∈ us → F u + 1 ≤ us.foldl (fun k u => max k (F u + 1)) k
  | v :: us, k, u, h => by
    rw [List.foldl_cons]
    rcases List.mem_cons.1 h with rfl | h
    · exact Nat.le_trans (Nat.le_max_right _ _) (foldl_max_le us _)
    · exact foldl_max_mem us _ u h
theorem foldl_max_bound {F : N → Nat} {B : Nat} : ∀ (us : List N) (k : Nat), k ≤ B → (∀ u ∈ us, F u + 1 ≤ B) → us.foldl (fun k u => max k (F u + 1)) k ≤ B
  | [], k, h, _ => h
  | u :: us, k, h, hu => by
    rw [List.foldl_cons]
    exact foldl_max_bound us _ (Nat.max_le.2 ⟨h, hu u List.mem_cons_self⟩) (fun v hv => hu v (List.mem_cons_of_mem _ hv))

/-- Each behind all that it uses. -/
def Topo (list : Net N) (s : List N) : Prop := ∀ i x, s[i]? = some x → ∀ us, usesOf list x = some us → ∀ u ∈ us, u ∈ s.take i
def Rising (lt : N → N → Bool) (l : List N) : Prop := l.Pairwise (fun a b => lt a b = true)

structure Lev (lt : N → N → Bool) (list : Net N) (s : List N) (out : List (List N)) (F : N → Nat) : Prop where
  lv : ∀ x ∈ s, F x = lvl list F x
  lt_ : ∀ x ∈ s, F x < out.length
  ne : ∀ row ∈ out, row ≠ []
  ri : ∀ row ∈ out, Rising lt row
  mem : ∀ k row, out[k]? = some row → ∀ x, x ∈ row ↔ x ∈ s ∧ F x = k

theorem lv_unique {list : Net N} {s : List N} (ht : Topo list s) {F G : N → Nat} (hF : ∀ x ∈ s, F x = lvl list F x) (hG : ∀ x ∈ s, G x = lvl list G x) : ∀ x ∈ s, F x = G x := by
  have key : ∀ i, i ≤ s.length → ∀ x ∈ s.take i, F x = G x := by
    intro i
    induction i with
    | zero => intro _ x hx; simp at hx
    | succ i ih =>
      intro hi x hx
      rw [List.take_succ_eq_append_getElem (by omega), List.mem_append, List.mem_singleton] at hx
      rcases hx with hx | rfl
      · exact ih (by omega) x hx
      · have hm : s[i] ∈ s := List.getElem_mem _
        rw [hF _ hm, hG _ hm]
        exact lvl_congr fun us hus u hu => ih (by omega) u (ht i _ (List.getElem?_eq_getElem (by omega)) us hus u hu)
  intro x hx
  exact key s.length (Nat.le_refl _) x (by rwa [List.take_length])

theorem rising_ext {lt : N → N → Bool} (T : Tot lt) : ∀ {l m : List N}, Rising lt l → Rising lt m → (∀ x, x ∈ l ↔ x ∈ m) → l = m
  | [], [], _, _, _ => rfl
  | [], b :: m, _, _, h => by have := (h b).2 List.mem_cons_self; simp at this
  | a :: l, [], _, _, h => by have := (h a).1 List.mem_cons_self; simp at this
  | a :: l, b :: m, hl, hm, h => by
    obtain ⟨hl1, hl2⟩ := List.pairwise_cons.1 hl
    obtain ⟨hm1, hm2⟩ := List.pairwise_cons.1 hm
    have irr : ∀ x y, lt x y = true → lt y x = true → False := fun x y h1 h2 => by have := T.tr _ _ _ h1 h2; rw [T.irr] at this; cases this
    have hab : a = b := by
      rcases List.mem_cons.1 ((h a).1 List.mem_cons_self) with e | ha
      · exact e
      · rcases List.mem_cons.1 ((h b).2 List.mem_cons_self) with e | hb
        · exact e.symm
        · exact (irr _ _ (hl1 b hb) (hm1 a ha)).elim
    subst hab
    have hx : ∀ x, x ∈ l ↔ x ∈ m := fun x => by
      constructor
      · intro hx
        rcases List.mem_cons.1 ((h x).1 (List.mem_cons_of_mem _ hx)) with rfl | h'
        · have := hl1 x hx; rw [T.irr] at this; cases this
        · exact h'
      · intro hx
        rcases List.mem_cons.1 ((h x).2 (List.mem_cons_of_mem _ hx)) with rfl | h'
        · have := hm1 x hx; rw [T.irr] at this; cases this
        · exact h'
    rw [rising_ext T hl2 hm2 hx]

theorem Lev.unique {lt : N → N → Bool} (T : Tot lt) {list : Net N} {s : List N} (ht : Topo list s) {out out' : List (List N)} {F G : N → Nat} (h : Lev lt list s out F) (h' : Lev lt list s out' G) : out = out' := by
  have e := lv_unique ht h.lv h'.lv
  have key : ∀ {a b : List (List N)} {F G : N → Nat}, Lev lt list s a F → Lev lt list s b G → (∀ x ∈ s, F x = G x) → b.length ≤ a.length := fun {a b F G} ha hb e => by
    apply Classical.byContradiction
    intro hc
    have hlt : a.length < b.length := by omega
    obtain ⟨x, hx⟩ := List.exists_mem_of_ne_nil _ (hb.ne b[a.length] (List.getElem_mem hlt))
    have h1 := (hb.mem a.length _ (List.getElem?_eq_getElem hlt) x).1 hx
    have h2 := ha.lt_ x h1.1
    rw [e x h1.1, h1.2] at h2
    omega
  have hl : out.length = out'.length := Nat.le_antisymm (key h' h (fun x hx => (e x hx).symm)) (key h h' e)
  apply List.ext_getElem hl
  intro k h1 h2
  refine rising_ext T (h.ri _ (List.getElem_mem h1)) (h'.ri _ (List.getElem_mem h2)) (fun x => ?_)
  rw [h.mem k _ (List.getElem?_eq_getElem h1), h'.mem k _ (List.getElem?_eq_getElem h2)]
  constructor
  · rintro ⟨hx, hk⟩
    exact ⟨hx, by rw [← e x hx]; exact hk⟩
  · rintro ⟨hx, hk⟩
    exact ⟨hx, by rw [e x hx]; exact hk⟩

theorem Greedy.topo {lt : N → N → Bool} {list : Net N} {want l : List N} (h : Greedy lt list [] want l) : Topo list l := fun i x hx us hus u hu => (h.behind hx hus hu).resolve_left (by simp)

theorem foldl_max_hit {F : N → Nat} : ∀ (us : List N) (k : Nat), us.foldl (fun k u => max k (F u + 1)) k = k ∨ ∃ u ∈ us, F u + 1 = us.foldl (fun k u => max k (F u + 1)) k
  | [], k => .inl rfl
  | u :: us, k => by
    rw [List.foldl_cons]
    rcases foldl_max_hit (F := F) us (max k (F u + 1)) with h | ⟨v, hv, h⟩
    · rw [h]
      rcases Nat.le_total k (F u + 1) with h1 | h1
      · exact .inr ⟨u, List.mem_cons_self, (Nat.max_eq_right h1).symm⟩
      · exact .inl (Nat.max_eq_left h1)
    · exact .inr ⟨v, List.mem_cons_of_mem _ hv, h⟩

theorem lv_exists {list : Net N} {s : List N} (hn : s.Nodup) (ht : Topo list s) : ∃ F : N → Nat, ∀ x ∈ s, F x = lvl list F x := by
  have key : ∀ i, i ≤ s.length → ∃ F : N → Nat, ∀ x ∈ s.take i, F x = lvl list F x := by
    intro i
    induction i with
    | zero => exact fun _ => ⟨fun _ => 0, by simp⟩
    | succ i ih =>
      intro hi
      obtain ⟨F, hF⟩ := ih (by omega)
      have hni : s[i] ∉ s.take i := fun hm => by
        obtain ⟨j, hj, e⟩ := List.mem_take_iff_getElem.1 hm
        exact List.pairwise_iff_getElem.1 hn j i (by omega) (by omega) (by omega) e
      refine ⟨fun y => if y = s[i] then lvl list F s[i] else F y, fun x hx => ?_⟩
      rw [List.take_succ_eq_append_getElem (by omega), List.mem_append, List.mem_singleton] at hx
      have hsame : ∀ j (hj : j ≤ i) x, s[j]? = some x → lvl list (fun y => if y = s[i] then lvl list F s[i] else F y) x = lvl list F x := fun j hj x hx => by
        refine lvl_congr fun us hus u hu => ?_
        have h1 := ht j x hx us hus u hu
        have h2 : u ≠ s[i] := fun e => by
          rw [e] at h1
          have : s.take j = (s.take i).take j := by rw [List.take_take, Nat.min_eq_left hj]
          rw [this] at h1
          exact hni (List.mem_of_mem_take h1)
        simp [h2]
      rcases hx with hx | rfl
      · obtain ⟨j, hj, e⟩ := List.mem_take_iff_getElem.1 hx
        have hne : x ≠ s[i] := fun e => hni (by rw [← e]; exact hx)
        rw [hsame j (by omega) x (by rw [List.getElem?_eq_getElem (by omega), e])]
        simp only [hne, if_false]
        exact hF x hx
      · rw [hsame i (Nat.le_refl _) _ (List.getElem?_eq_getElem (by omega))]
        simp
  obtain ⟨F, hF⟩ := key s.length (Nat.le_refl _)
  exact ⟨F, fun x hx => hF x (by rwa [List.take_length])⟩

theorem topo_mem {list : Net N} {s : List N} (ht : Topo list s) {x : N} (hx : x ∈ s) {us : List N} (hus : usesOf list x = some us) {u : N} (hu : u ∈ us) : u ∈ s := by
  obtain ⟨i, hi⟩ := List.getElem?_of_mem hx
  exact List.mem_of_mem_take (ht i x hi us hus u hu)
/-- A level is there if a higher one is. -/
theorem level_hit {list : Net N} {s : List N} (ht : Topo list s) {F : N → Nat} (hF : ∀ x ∈ s, F x = lvl list F x) {c : Nat} : ∀ n x, x ∈ s → F x = n → c ≤ n → ∃ y ∈ s, F y = c := by
  intro n
  induction n using Nat.strongRecOn with
  | _ n ih =>
    intro x hx hn hc
    rcases Nat.lt_or_ge c n with h | h
    · have h1 := hF x hx
      unfold lvl at h1
      rcases foldl_max_hit (F := F) ((usesOf list x).getD []) 0 with h2 | ⟨u, hu, h2⟩
      · rw [h2] at h1; omega
      · rw [← h1] at h2
        cases hus : usesOf list x with
        | none => rw [hus] at hu; simp at hu
        | some us =>
          rw [hus] at hu
          exact ih (F u) (by omega) u (topo_mem ht hx hus hu) rfl (by omega)
    · exact ⟨x, hx, by omega⟩
/-- At level c: not below it, and all that it uses is. -/
theorem at_level {list : Net N} {F : N → Nat} {c : Nat} {x : N} (hF : F x = lvl list F x) : F x = c ↔ ¬ F x < c ∧ ∀ us, usesOf list x = some us → ∀ u ∈ us, F u < c := by
  constructor
  · rintro rfl
    refine ⟨by omega, fun us hus u hu => ?_⟩
    have h1 := foldl_max_mem (F := F) us 0 u hu
    have h2 : lvl list F x = us.foldl (fun k u => max k (F u + 1)) 0 := by unfold lvl; rw [hus]; rfl
    omega
  · rintro ⟨h1, h2⟩
    have h3 : lvl list F x ≤ c := by
      unfold lvl
      cases hus : usesOf list x with
      | none => simp
      | some us => exact foldl_max_bound us 0 (Nat.zero_le _) (fun u hu => h2 us hus u hu)
    omega
end
end Go.Proofs.Ytdllpgeagdckmaa.Ord

/- order.Levels: its answer is the one that the theory of levels gives. -/
namespace Go.Proofs.Ytdllpgeagdckmaa.Q
open Go.RowKit Go.Proofs.YtdllpgeagdckmaaW.PrintWords Go.Proofs.YtdllpgeagdckmaaW.PrintLast Go.Proofs.YtdllpgeagdckmaaW.PrintMore Go.Proofs.Ytdllpgeagdckmaa.MapKit Go.Maps Go.Proofs.Ytdllpgeagdckmaa.Ord
attribute [local go_sem] max2_int min2_int max_two min_two max_three min_three max_four min_four
set_option linter.unusedVariables false
set_option linter.unusedSimpArgs false

/-- What Levels answers: the levels of the order of all names; where there is none, its refusal. -/
def LevelsB (l : Net ByteArray) (r : List (List ByteArray) × Int) : Prop :=
  ∃ s m e, Sorts ltN noName l (l.map (·.1)) [] s m e ∧ r.2 = e ∧ ((e ≠ 0 ∧ r.1 = []) ∨ (e = 0 ∧ ∃ F, Lev ltN l s r.1 F))
theorem LevelsB.unique {l : Net ByteArray} {r r' : List (List ByteArray) × Int} (h : LevelsB l r) (h' : LevelsB l r') : r = r' := by
  obtain ⟨s, m, e, hs, he, hr⟩ := h
  obtain ⟨s', m', e', hs', he', hr'⟩ := h'
  obtain ⟨rfl, rfl, rfl⟩ := Sorts.unique totN hs hs'
  refine Prod.ext ?_ (he.trans he'.symm)
  rcases hr with ⟨h0, h1⟩ | ⟨h0, F, h1⟩ <;> rcases hr' with ⟨h0', h1'⟩ | ⟨h0', F', h1'⟩
  · rw [h1, h1']
  · exact absurd h0' h0
  · exact absurd h0 h0'
  · subst h0
    cases hs with
    | ok s hb _ _ hg => exact Lev.unique totN hg.topo h1 h1'
noncomputable def order_Levels.f (l : List S41) : Option (List (List ByteArray) × Int) := by
  classical
  exact if h : Fit l (l.map (·.f0)) [] ∧ ∃ r, LevelsB (netOf l) r then some (Classical.choose h.2) else none
theorem order_Levels.spec {l : List S41} {r : List (List ByteArray) × Int} (h : order_Levels.f l = some r) : Fit l (l.map (·.f0)) [] ∧ LevelsB (netOf l) r := by
  unfold order_Levels.f at h
  split at h
  · rename_i hc
    simp only [Option.some.injEq] at h
    rw [← h]
    exact ⟨hc.1, Classical.choose_spec hc.2⟩
  · cases h
theorem order_Levels.of {l : List S41} {r : List (List ByteArray) × Int} (hf : Fit l (l.map (·.f0)) []) (h : LevelsB (netOf l) r) : order_Levels.f l = some r := by
  unfold order_Levels.f
  have hc : Fit l (l.map (·.f0)) [] ∧ ∃ r, LevelsB (netOf l) r := ⟨hf, r, h⟩
  rw [dif_pos hc]
  exact congrArg some (LevelsB.unique (Classical.choose_spec hc.2) h)
end Go.Proofs.Ytdllpgeagdckmaa.Q
