/- Put together out of the texts OVocabs, ApartKit, OLevRows, OLevels, OpenStr, Q2, OBase, OOpen: what each proves stands at its head. -/
import Derived.Test.YtdllpgeagdckmaaPM1
import Derived.Deep.RegionLaw
import Derived.RegionTactic
import Derived.BigRegion
import Derived.Outline
import Derived.Deep.RegionHeld3
import Derived.Deep.LoopGhost
import Derived.Deep.Cut
import Derived.Maps.AppendAt
import Derived.Below
import Derived.OwnWalk
import Derived.Test.YtdllpgeagdckmaaWWords
import Derived.Test.YtdllpgeagdckmaaWKept
import Derived.Test.YtdllpgeagdckmaaPM2
import Derived.Sort.OwnSorted
import Derived.ChangeArms
import Derived.ChangeSame

/- What vocabs makes of a list: the same names and uses, in memory of its own. -/
namespace Go.Proofs.Ytdllpgeagdckmaa.Q
open Go.RowKit Go.Proofs.YtdllpgeagdckmaaW.PrintWords Go.Proofs.YtdllpgeagdckmaaW.PrintLast Go.Proofs.YtdllpgeagdckmaaW.PrintMore Go.Proofs.Ytdllpgeagdckmaa.MapKit Go.Maps Go.Proofs.Ytdllpgeagdckmaa.Ord
attribute [local go_sem] max2_int min2_int max_two min_two max_three min_three max_four min_four
set_option linter.unusedVariables false
set_option linter.unusedSimpArgs false

def conv (v : S33) : S41 := ⟨v.f0, v.f1⟩

theorem voc33_at {w : World} {A : Option Addr} {l : List S33} (h : Kd.C k33 w A l.length l) (i : Nat) (hi : i < l.length) : ∃ ad A1 c1, A = some ad ∧ w.cell? (ad.add (i * 2)) = some (.string l[i].f0) ∧ w.cell? ⟨(ad.add (i * 2)).block, (ad.add (i * 2)).off + 1, none⟩ = some (.slice A1 l[i].f1.length c1) ∧ l[i].f1.length ≤ c1 ∧ Kd.string.C w A1 l[i].f1.length l[i].f1 := by
  obtain ⟨ad, A1, c1, e, h1, h2, h3, h4⟩ := at_T33 h (i : Int) (by omega) (by omega)
  have er : rd_T33 l (i : Int) = l[i] := by simp [rd_T33, List.getD_eq_getElem?_getD, List.getElem?_eq_getElem hi]
  rw [er] at h1 h2 h3 h4
  exact ⟨ad, A1, c1, e, by simpa using h1, by simpa using h2, h3, h4⟩

theorem results_c {P : Program} {fn : Func} {p : Tmp} {ty : TypeId} (h : fn.results = #[.cell p ty]) (tmps : Array Value) (w : World) (g : Nat) (t : TypeId) (cs : Array Value) (fr : Nat × Nat) (d : TypeDesc)
    (hp : tmps.getD p undef = .pointer (some ⟨g, 0, none⟩)) (hg : w.heap[g]? = some (.cells cs t fr))
    (hu : P.underlying ty = some d) (hd : (match d with | .struct _ | .array _ _ => true | _ => false) = true) (hi : (P.info? ty).map (·.size) = some cs.size) :
    (results fn tmps).run P w = .ok (.agg cs) w := by
  have hp' : tmps[p]?.getD undef = .pointer (some ⟨g, 0, none⟩) := by simpa using hp
  simp [results, h, hp', asAddr, run_loadVar_row w g t ty cs fr d hg hu hd hi]
structure VRel (w w' : World) (b1 b2 b3 : Nat) (A : Option Addr) (n c : Nat) (v : Value) (ys : List S41) : Prop where
  arg : w'.heap[b1]? = some (.cells #[.slice A n c, .slice none 0 0] 61 (0, 0))
  ret : w'.heap[b2]? = some (.cells #[.slice none 0 0, .slice none 0 0] 57 (0, 0))
  out : w'.heap[b3]? = some (.cells #[v, .slice none 0 0] 57 (0, 0))
  row : Kd.S k41 41 w' w.heap.size (fun _ => True) v ys
  below : Below w.heap.size w w'

theorem VRel.below' {w w' w2 : World} {b1 b2 b3 : Nat} {A : Option Addr} {n c : Nat} {v : Value} {ys : List S41} (h : VRel w w' b1 b2 b3 A n c v ys) (hb : Below w'.heap.size w' w2) : VRel w w2 b1 b2 b3 A n c v ys :=
  ⟨blk_below h.arg hb, blk_below h.ret hb, blk_below h.out hb, Kd.S_below h.row hb, h.below.trans (hb.mono h.below.size)⟩
/-- The row of the kept list grows (by one): the blocks of the frame stay. -/
structure VGrown (w w' : World) (b1 b2 b3 : Nat) (A : Option Addr) (n c : Nat) (v v1 : Value) (ys : List S41) : Prop where
  arg : w'.heap[b1]? = some (.cells #[.slice A n c, .slice none 0 0] 61 (0, 0))
  ret : w'.heap[b2]? = some (.cells #[.slice none 0 0, .slice none 0 0] 57 (0, 0))
  out : w'.heap[b3]? = some (.cells #[v, .slice none 0 0] 57 (0, 0))
  row : Kd.S k41 41 w' w.heap.size (fun _ => True) v1 ys
  below : Below w.heap.size w w'
theorem VRel.grown {w w1 w2 : World} {b1 b2 b3 : Nat} {A : Option Addr} {n c : Nat} {v v1 : Value} {ys zs : List S41} (h : VRel w w1 b1 b2 b3 A n c v ys) (hg : w1.grownBy w2 v.ownBlock) (hr : Kd.S k41 41 w2 w.heap.size (fun _ => True) v1 zs) (hb : Below w.heap.size w w2) : VGrown w w2 b1 b2 b3 A n c v v1 zs :=
  ⟨blk_grown h.arg hg (Kd.R_ne (Kd.S_R h.row) h.arg (by decide)), blk_grown h.ret hg (Kd.R_ne (Kd.S_R h.row) h.ret (by decide)), blk_grown h.out hg (Kd.R_ne (Kd.S_R h.row) h.out (by decide)), hr, hb⟩
theorem VGrown.stored {w w' : World} {b1 b2 b3 : Nat} {A : Option Addr} {n c : Nat} {v v1 : Value} {ys : List S41} (h : VGrown w w' b1 b2 b3 A n c v v1 ys) (h3 : w.heap.size ≤ b3) (h13 : b1 ≠ b3) (h23 : b2 ≠ b3) : VRel w (w'.setCell ⟨b3, 0, none⟩ v1) b1 b2 b3 A n c v1 ys :=
  ⟨blk_far h.arg (p := ⟨b3, 0, none⟩) h13 _, blk_far h.ret (p := ⟨b3, 0, none⟩) h23 _, blk_put h.out 0 v1 rfl, Kd.S_set h.row h.out (by decide) 0 v1, Below.setCell (p := ⟨b3, 0, none⟩) h.below h3 _⟩
theorem VRel.own_lt {w w' : World} {b1 b2 b3 : Nat} {A : Option Addr} {n c : Nat} {v : Value} {ys : List S41} (h : VRel w w' b1 b2 b3 A n c v ys) (k : Nat) (hk : v.ownBlock = some k) : k < w'.heap.size := by
  exact Kd.S_lt h.row k hk
theorem ge_alloc {w : World} {o : Obj} {k : Nat} (h : (w.drew.alloc o).heap.size ≤ k) : w.heap.size ≤ k := by
  simp at h
  omega
theorem below_first {w w2 : World} {o : Obj} (hg : (w.drew.alloc o).grownBy w2 (Value.slice (some ⟨w.heap.size, 0, none⟩) 0 0).ownBlock) : Below w.heap.size w w2 :=
  Below.grown (below_alloc (below_drew (Below.refl _ _)) o) hg (by simp) (fun k hk => by simp [Value.ownBlock] at hk; omega)
theorem strings_empty (w : World) (base : Nat) (hb : base ≤ w.heap.size) : Kd.string.R 9 (w.alloc (.cells #[] 9)) base (fun k => w.heap.size ≤ k) (.slice (some ⟨w.heap.size, 0, none⟩) 0 0) [] :=
  ⟨fun k hk => by have : w.heap.size = k := by simpa [Value.ownBlock] using hk
                  omega, [], ⟨rfl, .inr ⟨w.heap.size, 0, #[], rfl, hb, heap_alloc_new w _, Nat.le_refl _, by decide, rfl, rfl⟩⟩, ⟨rfl, fun j p hj => by simp at hj⟩⟩

set_option maxHeartbeats 8000000 in
set_option maxRecDepth 100000 in
theorem api_calls (w : World) (A : Option Addr) (c : Nat) (l : List S33) (hC : Kd.C k33 w A l.length l) (hl : l.length ≤ 3000000) (hul : ∀ v ∈ l, v.f1.length ≤ 3000000) :
    Calls Try.prog 23 #[.agg #[.slice A l.length c, .slice none 0 0]] w fun e w' => ∃ v, e = .returned (.agg #[v, .slice none 0 0]) ∧ Kd.S k41 41 w' w.heap.size (fun _ => True) v (l.map conv) ∧ Below w.heap.size w w' := by
  have HC := Aside0.mk hC
  have HUL := Aside0.mk hul
  clear hC hul
  go_enter Try.func23, Try.ntmps23
  go_upto_region 2 with fail
  have h2 : ((w.alloc (.cells #[.slice A l.length c, .slice none 0 0] 61)).alloc (.cells #[.slice none 0 0, .slice none 0 0] 57)).heap[w.heap.size + 1]? = some (.cells #[.slice none 0 0, .slice none 0 0] 57 (0, 0)) := by
    have := heap_alloc_new (w.alloc (.cells #[.slice A l.length c, .slice none 0 0] 61)) (.cells #[.slice none 0 0, .slice none 0 0] 57)
    simpa using this
  have h2' : (((w.alloc (.cells #[.slice A l.length c, .slice none 0 0] 61)).alloc (.cells #[.slice none 0 0, .slice none 0 0] 57)).alloc (.cells #[.slice none 0 0, .slice none 0 0] 57)).heap[w.heap.size + 1]? = some (.cells #[.slice none 0 0, .slice none 0 0] 57 (0, 0)) := (Below.block (below_alloc (Below.refl ((w.alloc (.cells #[.slice A l.length c, .slice none 0 0] 61)).alloc (.cells #[.slice none 0 0, .slice none 0 0] 57)).heap.size _) (.cells #[.slice none 0 0, .slice none 0 0] 57)) _ (by simp)).trans h2
  clear h2
  have h0 : VRel w (((w.alloc (.cells #[.slice A l.length c, .slice none 0 0] 61)).alloc (.cells #[.slice none 0 0, .slice none 0 0] 57)).alloc (.cells #[.slice none 0 0, .slice none 0 0] 57)) w.heap.size (w.heap.size + 1) (w.heap.size + 1 + 1) A l.length c (.slice none 0 0) [] := by
    refine ⟨?_, ?_, ?_, Kd.S_nil _ _ _ _ _, below_alloc (below_alloc (below_alloc (Below.refl _ _) _) _) _⟩
    · have h1 := heap_alloc_new w (.cells #[.slice A l.length c, .slice none 0 0] 61)
      have h2 := below_alloc (below_alloc (Below.refl (w.alloc (.cells #[.slice A l.length c, .slice none 0 0] 61)).heap.size _) (.cells #[.slice none 0 0, .slice none 0 0] 57)) (.cells #[.slice none 0 0, .slice none 0 0] 57)
      exact (h2.block _ (by simp)).trans h1
    · exact h2'
    · have := heap_alloc_new ((w.alloc (.cells #[.slice A l.length c, .slice none 0 0] 61)).alloc (.cells #[.slice none 0 0, .slice none 0 0] 57)) (.cells #[.slice none 0 0, .slice none 0 0] 57)
      simpa using this
  generalize ((w.alloc (.cells #[.slice A l.length c, .slice none 0 0] 61)).alloc (.cells #[.slice none 0 0, .slice none 0 0] 57)).alloc (.cells #[.slice none 0 0, .slice none 0 0] 57) = w1 at *
  obtain ⟨b1, hb1⟩ : ∃ b, b = w.heap.size := ⟨_, rfl⟩
  obtain ⟨b2, hb2⟩ : ∃ b, b = w.heap.size + 1 := ⟨_, rfl⟩
  obtain ⟨b3, hb3⟩ : ∃ b, b = w.heap.size + 1 + 1 := ⟨_, rfl⟩
  rw [← hb3, ← hb2, ← hb1]
  have H0 : Aside0 (VRel w w1 b1 b2 b3 A l.length c (.slice none 0 0) []) := ⟨by rw [hb1, hb2, hb3]; exact h0⟩
  have HB1 := Aside0.mk hb1
  have HB2 := Aside0.mk hb2
  have HB3 := Aside0.mk hb3
  clear hb1 hb2 hb3 h0 h2'
  go_wp2_with fail
  go_loopg [4] (l.length + 1) (fun kq v4 w' => ∃ i : Nat, v4 = .int .i64 (i : Int) ∧ Aside0 (i ≤ l.length) ∧ Aside0 (kq + i = l.length + 1) ∧ Aside0 (∃ v, VRel w w' b1 b2 b3 A l.length c v ((l.take i).map conv)))
  case atStart => exact ⟨0, rfl, ⟨Nat.zero_le _⟩, ⟨by omega⟩, ⟨_, H0.out⟩⟩
  clear H0
  obtain ⟨i, rfl, HI, HK, HT⟩ := hrel
  have hi := HI.out
  have hk := HK.out
  obtain ⟨v, hR⟩ := HT.out
  have HR := Aside0.mk hR
  clear HT
  have n1 : wr.cell? ⟨b1, 0, none⟩ = some (.slice A l.length c) := (blk_cell hR.arg 0).trans rfl
  have n3 : wr.cell? ⟨b3, 0, none⟩ = some v := (blk_cell hR.out 0).trans rfl
  clear hR
  by_cases hlt : i < l.length
  · have hz : decide ((i : Int) < (l.length : Int)) = true := decide_eq_true (by omega)
    obtain ⟨k1, rfl⟩ : ∃ k1, gk = k1 + 1 := ⟨gk - 1, by omega⟩
    obtain ⟨ad, A1, c1, rfl, z0, z1, hc1, hC1⟩ := voc33_at HC.out i hlt
    obtain ⟨u, hu⟩ : ∃ u, u = l[i] := ⟨_, rfl⟩
    rw [← hu] at z0 z1 hc1 hC1
    have x0 := pw_cell_below HR.out.below z0
    have x1 := pw_cell_below HR.out.below z1
    have hul : u.f1.length ≤ 3000000 := HUL.out u (by rw [hu]; exact List.getElem_mem hlt)
    have htk : (l.take (i + 1)).map conv = (l.take i).map conv ++ [conv u] := by rw [List.take_succ_eq_append_getElem hlt, List.map_append, ← hu]; rfl
    have hlen : ((l.take i).map conv).length ≤ 3000000 := by simp; omega
    generalize hys : (l.take i).map conv = ys at HR htk hlen
    have hE : Kd.string.R 9 (wr.drew.alloc (.cells #[] 9)) w.heap.size (fun k => wr.heap.size ≤ k) (.slice (some ⟨wr.heap.size, 0, none⟩) 0 0) [] := strings_empty wr.drew w.heap.size HR.out.below.size
    have hRd : ReadsRow (Kd.string.K (wr.drew.alloc (.cells #[] 9))) 1 (wr.drew.alloc (.cells #[] 9)) A1 u.f1.length u.f1 := Kd.C_below (Kd.C_below hC1 HR.out.below) (below_alloc (below_drew (Below.refl _ _)) _)
    have hBB : Below w.heap.size w (wr.drew.alloc (.cells #[] 9)) := below_alloc (below_drew HR.out.below) _
    have hbs : w.heap.size ≤ (wr.drew.alloc (.cells #[] 9)).heap.size := hBB.size
    have hby : (([] : List ByteArray).length + u.f1.length) * 16 ≤ 140737488355328 := by simp; omega
    have F := Aside0.mk (And.intro hE (And.intro hRd (And.intro hBB (And.intro hbs hby))))
    have nm : ∀ w' : World, Below wr.heap.size wr w' → w'.cell? ⟨b1, 0, none⟩ = some (.slice (some ad) l.length c) ∧ w'.cell? ⟨b3, 0, none⟩ = some v ∧ w'.cell? (ad.add (i * 2)) = some (.string u.f0) ∧ w'.cell? ⟨(ad.add (i * 2)).block, (ad.add (i * 2)).off + 1, none⟩ = some (.slice A1 u.f1.length c1) := fun w' hb => ⟨pw_cell_below hb n1, pw_cell_below hb n3, pw_cell_below hb x0, pw_cell_below hb x1⟩
    have NM := Aside0.mk nm
    have HB13 : Aside0 (b1 ≠ b3) := ⟨by rw [HB1.out, HB3.out]; omega⟩
    have Z0 := Aside0.mk z0
    have Z1 := Aside0.mk z1
    have HTK := Aside0.mk htk
    have HLEN := Aside0.mk hlen
    have HYS := Aside0.mk hys
    have HUL2 := Aside0.mk hul
    clear nm z0 z1 hC1 hc1 hu hi hE hRd hBB hbs hby htk hlen hys hul
    go_upto_region 5 with fail
    refine start_ (n := 21) (S := (fun w' => w'.cell? ⟨b1, 0, none⟩ = some (.slice (some ad) l.length c) ∧ w'.cell? ⟨b3, 0, none⟩ = some v ∧ w'.cell? (ad.add (i * 2)) = some (.string u.f0) ∧ w'.cell? ⟨(ad.add (i * 2)).block, (ad.add (i * 2)).off + 1, none⟩ = some (.slice A1 u.f1.length c1))) (ds := [20]) #[false, false, false, false, false, false, false, false, false, false, false, false, false, false, false, false, false, false, false, false, false] (by kernel_rfl) rfl rfl (NM.out _ (below_drew (Below.refl _ _))) (fun hHeld => ?_)
    refine pure_ (i := 0) (N := some 13) (v := ?_) (a' := ?_) #[true, false, false, false, false, false, false, false, false, false, false, false, false, false, false, false, false, false, false, false, false] rfl rfl (by kernel_rfl) (fun _ _ _ h => h) (Or.inl ⟨by rfl, ?_⟩) ?_ ?_
    rotate_left
    · intro w'
      go_simp
      with_reducible rfl
    rotate_left
    · simp only [Act.put, List.setIfInBounds_toArray, List.set_cons_zero, List.set_cons_succ]
      rfl
    refine pure_ (i := 2) (N := some 15) (v := ?_) (a' := ?_) #[true, false, true, false, false, false, false, false, false, false, false, false, false, false, false, false, false, false, false, false, false] rfl rfl (by kernel_rfl) (fun _ _ _ h => h) (Or.inl ⟨by rfl, ?_⟩) ?_ ?_
    rotate_left
    · intro w'
      go_simp
      with_reducible rfl
    rotate_left
    · simp only [Act.put, List.setIfInBounds_toArray, List.set_cons_zero, List.set_cons_succ]
      rfl
    refine pure_ (i := 4) (N := some 17) (v := ?_) (a' := ?_) #[true, false, true, false, true, false, false, false, false, false, false, false, false, false, false, false, false, false, false, false, false] rfl rfl (by kernel_rfl) (fun _ _ _ h => h) (Or.inl ⟨by rfl, ?_⟩) ?_ ?_
    rotate_left
    · intro w'
      go_simp
      with_reducible rfl
    rotate_left
    · simp only [Act.put, List.setIfInBounds_toArray, List.set_cons_zero, List.set_cons_succ]
      rfl
    refine take_ (i := 1) (N := some 14) (v := ?_) (a' := ?_) #[true, true, true, false, true, false, false, false, false, false, false, false, false, false, false, false, false, false, false, false, false] rfl rfl (by kernel_rfl) (fun _ _ _ h => h) (Or.inl ⟨by rfl, ?_⟩) hHeld ?_ ?_
    rotate_left
    · rintro w' ⟨s0, s1, s2, s3⟩
      go_simp
      with_reducible rfl
    rotate_left
    · simp only [Act.put, List.setIfInBounds_toArray, List.set_cons_zero, List.set_cons_succ]
      rfl
    refine take_ (i := 3) (N := some 16) (v := ?_) (a' := ?_) #[true, true, true, true, true, false, false, false, false, false, false, false, false, false, false, false, false, false, false, false, false] rfl rfl (by kernel_rfl) (fun _ _ _ h => h) (Or.inl ⟨by rfl, ?_⟩) hHeld ?_ ?_
    rotate_left
    · rintro w' ⟨s0, s1, s2, s3⟩
      go_simp
      with_reducible rfl
    rotate_left
    · simp only [Act.put, List.setIfInBounds_toArray, List.set_cons_zero, List.set_cons_succ]
      rfl
    refine pure_ (i := 5) (N := some 18) (v := ?_) (a' := ?_) #[true, true, true, true, true, true, false, false, false, false, false, false, false, false, false, false, false, false, false, false, false] rfl rfl (by kernel_rfl) (fun _ _ _ h => h) (Or.inl ⟨by rfl, ?_⟩) ?_ ?_
    rotate_left
    · intro w'
      go_simp
      with_reducible rfl
    rotate_left
    · simp only [Act.put, List.setIfInBounds_toArray, List.set_cons_zero, List.set_cons_succ]
      rfl
    refine pure_ (i := 6) (N := some 19) (v := ?_) (a' := ?_) #[true, true, true, true, true, true, true, false, false, false, false, false, false, false, false, false, false, false, false, false, false] rfl rfl (by kernel_rfl) (fun _ _ _ h => h) (Or.inl ⟨by rfl, ?_⟩) ?_ ?_
    rotate_left
    · intro w'
      go_simp
      with_reducible rfl
    rotate_left
    · simp only [Act.put, List.setIfInBounds_toArray, List.set_cons_zero, List.set_cons_succ]
      rfl
    refine take_ (i := 7) (N := some 20) (v := ?_) (a' := ?_) #[true, true, true, true, true, true, true, true, false, false, false, false, false, false, false, false, false, false, false, false, false] rfl rfl (by kernel_rfl) (fun _ _ _ h => h) (Or.inl ⟨by rfl, ?_⟩) hHeld ?_ ?_
    rotate_left
    · rintro w' ⟨s0, s1, s2, s3⟩
      go_simp
      with_reducible rfl
    rotate_left
    · simp only [Act.put, List.setIfInBounds_toArray, List.set_cons_zero, List.set_cons_succ]
      rfl
    refine pure_ (i := 9) (N := some 22) (v := ?_) (a' := ?_) #[true, true, true, true, true, true, true, true, false, true, false, false, false, false, false, false, false, false, false, false, false] rfl rfl (by kernel_rfl) (fun _ _ _ h => h) (Or.inl ⟨by rfl, ?_⟩) ?_ ?_
    rotate_left
    · intro w'
      go_simp
      with_reducible rfl
    rotate_left
    · simp only [Act.put, List.setIfInBounds_toArray, List.set_cons_zero, List.set_cons_succ]
      rfl
    refine take_ (i := 10) (N := some 23) (v := ?_) (a' := ?_) #[true, true, true, true, true, true, true, true, false, true, true, false, false, false, false, false, false, false, false, false, false] rfl rfl (by kernel_rfl) (fun _ _ _ h => h) (Or.inl ⟨by rfl, ?_⟩) hHeld ?_ ?_
    rotate_left
    · rintro w' ⟨s0, s1, s2, s3⟩
      go_simp
      with_reducible rfl
    rotate_left
    · simp only [Act.put, List.setIfInBounds_toArray, List.set_cons_zero, List.set_cons_succ]
      rfl
    refine pure_ (i := 11) (N := some 24) (v := ?_) (a' := ?_) #[true, true, true, true, true, true, true, true, false, true, true, true, false, false, false, false, false, false, false, false, false] rfl rfl (by kernel_rfl) (fun _ _ _ h => h) (Or.inl ⟨by rfl, ?_⟩) ?_ ?_
    rotate_left
    · intro w'
      go_simp
      with_reducible rfl
    rotate_left
    · simp only [Act.put, List.setIfInBounds_toArray, List.set_cons_zero, List.set_cons_succ]
      rfl
    refine pure_ (i := 12) (N := some 25) (v := ?_) (a' := ?_) #[true, true, true, true, true, true, true, true, false, true, true, true, true, false, false, false, false, false, false, false, false] rfl rfl (by kernel_rfl) (fun _ _ _ h => h) (Or.inl ⟨by rfl, ?_⟩) ?_ ?_
    rotate_left
    · intro w'
      go_simp
      with_reducible rfl
    rotate_left
    · simp only [Act.put, List.setIfInBounds_toArray, List.set_cons_zero, List.set_cons_succ]
      rfl
    refine pure_ (i := 13) (N := some 26) (v := ?_) (a' := ?_) #[true, true, true, true, true, true, true, true, false, true, true, true, true, true, false, false, false, false, false, false, false] rfl rfl (by kernel_rfl) (fun _ _ _ h => h) (Or.inl ⟨by rfl, ?_⟩) ?_ ?_
    rotate_left
    · intro w'
      go_simp
      with_reducible rfl
    rotate_left
    · simp only [Act.put, List.setIfInBounds_toArray, List.set_cons_zero, List.set_cons_succ]
      rfl
    refine take_ (i := 14) (N := some 27) (v := ?_) (a' := ?_) #[true, true, true, true, true, true, true, true, false, true, true, true, true, true, true, false, false, false, false, false, false] rfl rfl (by kernel_rfl) (fun _ _ _ h => h) (Or.inl ⟨by rfl, ?_⟩) hHeld ?_ ?_
    rotate_left
    · rintro w' ⟨s0, s1, s2, s3⟩
      go_simp
      with_reducible rfl
    rotate_left
    · simp only [Act.put, List.setIfInBounds_toArray, List.set_cons_zero, List.set_cons_succ]
      rfl
    refine one_ (i := 8) (N := some 21) #[true, true, true, true, true, true, true, true, true, true, true, true, true, true, true, false, false, false, false, false, false] rfl rfl (by kernel_rfl) (by decide) (fun K hK => ?_)
    refine value_ (v := .slice (some ⟨wr.heap.size, 0, none⟩) 0 0) (w1 := wr.drew.alloc (.cells #[] 9)) (by rfl) rfl (by go_simp) ?_
    refine hK.out _ _ (NM.out _ (below_alloc (below_drew (Below.refl _ _)) _)) (fun hHeld => ?_)
    clear hK K
    refine norm_ (a' := ?_) ?_ ?_
    rotate_left
    · show Act.put _ (some 21) _ = _
      simp only [Act.put, List.setIfInBounds_toArray, List.set_cons_zero, List.set_cons_succ]
      rfl
    refine one_ (i := 15) (N := some 28) #[true, true, true, true, true, true, true, true, true, true, true, true, true, true, true, true, false, false, false, false, false] rfl rfl (by kernel_rfl) (by decide) (fun K hK => ?_)
    refine Kd.R_append_rows_step Kd.string w.heap.size rfl (.tmp 21) (.tmp 27) 23 9 (.string ⟨#[]⟩) 16 rfl Try.underlying23 info9 rfl (by decide) (by decide) (.slice (some ⟨wr.heap.size, 0, none⟩) 0 0) [] u.f1 A1 u.f1.length c1 (fun k => wr.heap.size ≤ k) (fun _ => False) rfl rfl F.out.1 F.out.2.1 (fun _ _ h => h) (fun _ h => h.elim) (fun k hk => ge_alloc hk) F.out.2.2.1 F.out.2.2.2.1 F.out.2.2.2.2 ?_
    intro v28 w2 hr2 hb2 hg2 hat2
    obtain ⟨A28, c28, rfl⟩ := Kd.R_slice hr2
    have HR2 := Aside0.mk hr2
    have hbr : Below wr.heap.size wr w2 := below_first hg2
    have HV2 := Aside0.mk (HR.out.below' hbr)
    have hf2 : b3 < w2.heap.size := blk_lt HV2.out.out
    have HS2 := Aside0.mk (NM.out _ hbr)
    have HBR := Aside0.mk hbr
    have HO2 := Aside0.mk (Kd.S_below (Kd.S_mono (Kd.S_bound HR.out.row) (fun k hk => (⟨trivial, fun h => by have := hk.2.2.1; omega⟩ : True ∧ ¬ wr.heap.size ≤ k))) hbr)
    clear hr2 hb2 hg2 hat2 hbr
    refine hK.out _ _ HS2.out (fun hHeld => ?_)
    clear hK K
    refine norm_ (a' := ?_) ?_ ?_
    rotate_left
    · show Act.put _ (some 28) _ = _
      simp only [Act.put, List.setIfInBounds_toArray, List.set_cons_zero, List.set_cons_succ]
      rfl
    refine pure_ (i := 16) (N := some 29) (v := ?_) (a' := ?_) #[true, true, true, true, true, true, true, true, true, true, true, true, true, true, true, true, true, false, false, false, false] rfl rfl (by kernel_rfl) (fun _ _ _ h => h) (Or.inl ⟨by rfl, ?_⟩) ?_ ?_
    rotate_left
    · intro w'
      go_simp
      with_reducible rfl
    rotate_left
    · simp only [Act.put, List.setIfInBounds_toArray, List.set_cons_zero, List.set_cons_succ]
      rfl
    refine one_ (i := 17) (N := some 30) #[true, true, true, true, true, true, true, true, true, true, true, true, true, true, true, true, true, true, false, false, false] rfl rfl (by kernel_rfl) (by decide) (fun K hK => ?_)
    refine value_ (v := .slice (some ⟨w2.heap.size, 0, none⟩) 1 1) (w1 := w2.alloc (.cells #[.string u.f0, .slice A28 u.f1.length c28] 41)) (by rfl) rfl (by go_simp) ?_
    refine hK.out _ _ (NM.out _ (below_alloc HBR.out _)) (fun hHeld => ?_)
    clear hK K
    refine norm_ (a' := ?_) ?_ ?_
    rotate_left
    · show Act.put _ (some 30) _ = _
      simp only [Act.put, List.setIfInBounds_toArray, List.set_cons_zero, List.set_cons_succ]
      rfl
    refine one_ (i := 18) (N := some 31) #[true, true, true, true, true, true, true, true, true, true, true, true, true, true, true, true, true, true, true, false, false] rfl rfl (by kernel_rfl) (by decide) (fun K hK => ?_)
    refine Kd.S_append_step k41 (w0 := w) w.heap.size rfl (.tmp 14) (.tmp 30) 28 41 (.agg #[(.string ⟨#[]⟩), (.slice none 0 0)]) 40 rfl Try.underlying28 info41 rfl (by decide) (by decide) v ys (conv u) [.string u.f0, .slice A28 u.f1.length c28] (fun _ => True) (fun k => wr.heap.size ≤ k) rfl rfl (k41_mkM _ _ _ _ HR2.out) (fun k hk => ⟨trivial, fun e => by have := VRel.own_lt HR.out k e.symm; omega⟩) (fun _ _ => trivial) HO2.out HV2.out.below HV2.out.below.size (by have := HLEN.out; omega) ?_
    intro v31 w3 hr3 hb3 hg3 hat3
    have hv31 : ∃ A31 c31, v31 = .slice A31 (ys.length + 1) c31 := by simpa using Kd.R_slice (Kd.S_R hr3)
    obtain ⟨A31, c31, rfl⟩ := hv31
    have HV3 := Aside0.mk (HV2.out.grown hg3 hr3 hb3)
    have hf3 : w3.cell? ⟨b3, 0, none⟩ = some v := (blk_cell HV3.out.out 0).trans rfl
    have hff3 : w3.frozen? ⟨b3, 0, none⟩ = false := blk_frozen HV3.out.out 0
    have HS3 := Aside0.mk (And.intro ((blk_cell HV3.out.arg 0).trans rfl : w3.cell? ⟨b1, 0, none⟩ = some (.slice (some ad) l.length c)) (And.intro hf3 (And.intro (pw_cell_below HV3.out.below Z0.out) (pw_cell_below HV3.out.below Z1.out))))
    clear hr3 hb3 hg3 hat3
    refine hK.out _ _ HS3.out (fun hHeld => ?_)
    clear hK K
    refine norm_ (a' := ?_) ?_ ?_
    rotate_left
    · show Act.put _ (some 31) _ = _
      simp only [Act.put, List.setIfInBounds_toArray, List.set_cons_zero, List.set_cons_succ]
      rfl
    refine pure_ (i := 19) (N := some 32) (v := ?_) (a' := ?_) #[true, true, true, true, true, true, true, true, true, true, true, true, true, true, true, true, true, true, true, true, false] rfl rfl (by kernel_rfl) (fun _ _ _ h => h) (Or.inl ⟨by rfl, ?_⟩) ?_ ?_
    rotate_left
    · intro w'
      go_simp
      with_reducible rfl
    rotate_left
    · simp only [Act.put, List.setIfInBounds_toArray, List.set_cons_zero, List.set_cons_succ]
      rfl
    refine last_ (i := 20) (N := none) #[true, true, true, true, true, true, true, true, true, true, true, true, true, true, true, true, true, true, true, true, true] rfl rfl (by kernel_rfl) (by decide) (fun K hK => ?_)
    refine skip_ (w1 := ?_) (by rfl) rfl ?_ ?_
    rotate_left
    · go_simp
      rfl
    refine hK.out _ _ ?_
    clear hK K
    refine done_ (by kernel_rfl) ?_
    go_wp2_with fail
    go_roundg k1
    case measure => omega
    case rel => exact ⟨i + 1, by push_cast; rfl, ⟨by omega⟩, ⟨by omega⟩, ⟨_, by rw [HTK.out]; exact HV3.out.stored (by rw [HB3.out]; omega) HB13.out (by rw [HB2.out, HB3.out]; omega)⟩⟩
  · have hz : decide ((i : Int) < (l.length : Int)) = false := decide_eq_false (by omega)
    have hR9 := HR.out
    rw [List.take_of_length_le (by omega)] at hR9
    obtain ⟨Av, cv, rfl⟩ := Kd.R_slice (Kd.S_R hR9.row)
    have HR9 := Aside0.mk hR9
    have n1' : wr.cell? ⟨b1, 1, none⟩ = some (.slice none 0 0) := (blk_cell HR9.out.arg 1).trans rfl
    have n2 : wr.cell? ⟨b3, 1, none⟩ = some (.slice none 0 0) := (blk_cell HR9.out.out 1).trans rfl
    have n4 : wr.cell? ⟨b2, 0, none⟩ = some (.slice none 0 0) := (blk_cell HR9.out.ret 0).trans rfl
    have n5 : wr.cell? ⟨b2, 1, none⟩ = some (.slice none 0 0) := (blk_cell HR9.out.ret 1).trans rfl
    have f4 : wr.frozen? ⟨b2, 0, none⟩ = false := blk_frozen HR9.out.ret 0
    have f5 : wr.frozen? ⟨b2, 1, none⟩ = false := blk_frozen HR9.out.ret 1
    clear hR9 HR
    go_wp2_with fail
    go_loopg [5] 1 (fun kq v5 w' => v5 = .int .i64 0 ∧ w' = wr)
    case atStart => exact ⟨rfl, rfl⟩
    obtain ⟨rfl, rfl⟩ := hrel
    go_wp2_with fail
    have hB2 : w.heap.size ≤ b2 := by rw [HB2.out]; omega
    have hN2 : b2 ≠ b3 := by rw [HB2.out, HB3.out]; omega
    refine bodyPost_ret (results_c rfl _ _ b2 57 #[.slice Av l.length cv, .slice none 0 0] (0, 0) _ rfl (blk_put (cs := #[.slice Av l.length cv, .slice none 0 0]) (blk_put (cs := #[.slice none 0 0, .slice none 0 0]) HR9.out.ret 0 _ rfl) 1 _ rfl) Try.underlying57 rfl (by kernel_rfl)) rfl ?_
    refine ⟨_, rfl, ?_, Below.setCell (p := ⟨b2, 1, none⟩) (Below.setCell (p := ⟨b2, 0, none⟩) HR9.out.below hB2 _) hB2 _⟩
    have hlm : (l.map conv).length = l.length := by simp
    have HRW := HR9.out.row
    rw [hlm] at HRW
    have h1 := Kd.S_set HRW HR9.out.ret (by decide) 0 (.slice Av l.length cv)
    exact Kd.S_set h1 (blk_put (cs := #[.slice none 0 0, .slice none 0 0]) HR9.out.ret 0 (.slice Av l.length cv) rfl) (by decide) 1 (.slice none 0 0)

def quirelaw15_vocabs.f (l : List S33) : Option (List S41) := if l.length ≤ 3000000 ∧ ∀ v ∈ l, v.f1.length ≤ 3000000 then some (l.map conv) else none
set_option maxHeartbeats 8000000 in
set_option maxRecDepth 100000 in
theorem quirelaw15_vocabs.calls (A0 : Option Addr) (c0 : Nat) (l0 : List S33) (r : List S41) (w : World) (hr0 : Kd.C k33 w A0 l0.length l0) (hc0 : l0.length ≤ c0) (h : quirelaw15_vocabs.f l0 = some r) :
    Calls Try.prog 9 #[.slice A0 l0.length c0] w fun e w' => ∃ v0_ : Value, e = .returned v0_ ∧ Kd.S k41 41 w' w.heap.size (fun _ => True) v0_ r ∧ Below w.heap.size w w' := by
  unfold quirelaw15_vocabs.f at h
  split at h
  · rename_i hb
    cases h
    have HA := Aside0.mk (api_calls w A0 c0 l0 hr0 hb.1 hb.2)
    clear hr0 hc0 hb
    have hfd : ∀ (A : Option Addr) (n c : Nat) (w : World), (Instr.field 57 (.agg #[.slice A n c, .slice none 0 0]) 0).run Try.prog w = .ok (.slice A n c) w := fun _ _ _ _ => by kernel_rfl
    go_enter Try.func9, Try.ntmps9
    go_wp2_with (go_at_call 23; refine HA.out.mono ?_; rintro e w1 ⟨v, rfl, hs, hb⟩; obtain ⟨Av, cv, rfl⟩ := Kd.R_slice (Kd.S_R hs); have HS := Aside0.mk hs; have HB := Aside0.mk hb; clear hs hb)
    go_ret
    have HS2 := HS.out
    rw [List.length_map] at HS2
    exact ⟨_, rfl, HS2, HB.out⟩
  · cases h
end Go.Proofs.Ytdllpgeagdckmaa.Q

/- Rows of the call's own that grow side by side: append told in full (in place, or a new row and nothing else), and families of rows told apart by their blocks. -/
namespace Go.Proofs.Ytdllpgeagdckmaa.ApartKit
open Go Go.RowKit Go.Proofs.YtdllpgeagdckmaaW.PrintWords
set_option linter.unusedVariables false

section
variable {P : Program} (w : World)

/-- append: in place (the same block, the same capacity, nothing else turned), or a new row and nothing that was there has turned. -/
theorem run_append_two (base : Nat) (t ty e : TypeId) (i : TypeInfo) (z : Value) (bytes : Nat) (ht : P.underlying t = some (.slice e)) (hi : P.info? e = some i) (hz : i.zero = some z)
    (hsize : i.size = 1) (hby : i.bytes = bytes) (hzs : z.cells.size = 1)
    (v : Value) (n : Nat) (xs : List Value) (hown : w.ownsRow base e 1 v n xs)
    (a : Addr) (m c : Nat) (news : List Value) (hl : news.length = m) (hm : 0 < m) (hnews : ∀ j u, news[j]? = some u → w.cell? (a.add j) = some u) (h1 : ∀ u ∈ news, u.oneCell' = true)
    (h63 : n + m ≤ maxLen) (hbytes : (n + m) * bytes ≤ 140737488355328) (hbase : base ≤ w.heap.size) :
    ∃ v' w', (Builtin.append_ #[t, t] ty #[v, .slice (some a) m c]).run P w = .ok v' w' ∧ w'.ownsRow base e 1 v' (n + m) (xs ++ news) ∧
      ((∃ g cap, v = .slice (some ⟨g, 0, none⟩) n cap ∧ v' = .slice (some ⟨g, 0, none⟩) (n + m) cap ∧ w.grownBy w' (some g) ∧ w'.heap.size = w.heap.size) ∨
       (v'.ownBlock = some w.heap.size ∧ Below w.heap.size w w')) := by
  subst hby
  have hl1 : news.length = m * i.size := by rw [hsize, Nat.mul_one]; exact hl
  rw [← hsize] at hown hzs ⊢
  have hsz : 0 < i.size := by omega
  have hsmall : n + m ≤ 9223372036854775807 := by simp only [maxLen] at h63; omega
  have hlen : (xs ++ news).length = (n + m) * i.size := by rw [List.length_append, hown.1, hl1, Nat.add_mul]
  have grown : ∀ (old : Nat), old < n + m →
      (w.drew.alloc (.cells (xs.toArray ++ news.toArray ++ Builtin.zeroCells z.cells (grownCap w (n + m) old e - (n + m))) e)).ownsRow base e i.size
        (.slice (some ⟨w.heap.size, 0, none⟩) (n + m) (grownCap w (n + m) old e)) (n + m) (xs ++ news) ∧
      Below w.heap.size w (w.drew.alloc (.cells (xs.toArray ++ news.toArray ++ Builtin.zeroCells z.cells (grownCap w (n + m) old e - (n + m))) e)) := by
    intro old ho
    have hge := grownCap_ge w (n + m) old e
    have hcm : grownCap w (n + m) old e ≤ maxLen := grownCap_le_maxLen w (n + m) old e h63
    refine ⟨⟨hlen, .inr ⟨w.heap.size, _, _, rfl, hbase, heap_alloc_new w.drew _, hge, hcm, ?_, ?_⟩⟩, ⟨rfl, rfl, rfl, by simp, fun k hk => Below.heap_alloc w.drew _ k hk⟩⟩
    · simp only [Array.size_append, List.size_toArray, size_zeroCells, hzs, hown.1, hl1, ← Nat.add_mul]
      congr 1
      omega
    · simp only [Array.toList_append, List.append_assoc]
      rw [← List.append_assoc, ← hlen]
      exact List.take_left
  rcases hown.2 with ⟨rfl, rfl⟩ | ⟨g, cap, cur, rfl, hbg, hg, hnc, hcm, hcs, htake⟩
  · have hx : xs = [] := List.eq_nil_of_length_eq_zero (by simpa using hown.1)
    subst hx
    have hr := run_append_nil (P := P) w t ty e i z ht hi hz a m c news hl1 hnews (by omega) (by omega) (by have hb := hbytes; simp only [Nat.zero_add] at hb; omega)
    have hgr := grown 0 (by omega)
    simp only [Nat.zero_add, List.nil_append, Array.empty_append] at hgr ⊢
    exact ⟨_, _, hr, hgr.1, .inr ⟨rfl, hgr.2⟩⟩
  · by_cases hroom : n + m ≤ cap
    · have hfit : n * i.size + news.length ≤ cur.size := by rw [hl1, hcs, ← Nat.add_mul]; exact Nat.mul_le_mul_right _ hroom
      have hr := run_append_room (P := P) w t ty e i ht hi g n cap cur hg a m c news hl1 hnews h1 hroom hfit
      refine ⟨_, _, hr, ⟨hlen, .inr ⟨g, cap, _, rfl, hbg, setRow_heap w g cur _ e _ hg, hroom, hcm, ?_, ?_⟩⟩, .inl ⟨g, cap, rfl, rfl, ⟨rfl, rfl, rfl, by simp, fun k _ hk => setRow_other w g k _ (fun e => hk (by rw [e]))⟩, by simp⟩⟩
      · simp only [List.size_toArray, List.length_append, List.length_take, List.length_drop, Array.length_toList]
        omega
      · rw [htake, ← hlen]
        exact List.take_left
    · have holds : ∀ j u, xs[j]? = some u → w.cell? ((⟨g, 0, none⟩ : Addr).add j) = some u := hown.cells (g := g) rfl
      have hr := run_append_grow (P := P) w t ty e i z ht hi hz ⟨g, 0, none⟩ n cap xs hown.1 holds a m c news hl1 hnews (by omega) (by omega) (growslice_fits (by omega) hbytes)
      have hgr := grown cap (by omega)
      exact ⟨_, _, hr, hgr.1, .inr ⟨rfl, hgr.2⟩⟩

/-- The same at the operation, one element laid into a block of its own ahead of it. -/
theorem wpList_append_two {ops : Array Oper} {rest : List Oper} {o : Oper} {a : Act} {Q : Exit → Act → World → Prop} (hgd : o.guard = none) (s x : Operand) (t : TypeId)
    (ho : o.op = .call { callee := .builtin .append, args := #[s, x], argTypes := #[t, t] })
    (base : Nat) (e : TypeId) (z : Value) (bytes : Nat) (ht : P.underlying t = some (.slice e)) (hinfo : (P.info? e).map (fun i => (i.zero, i.size, i.bytes)) = some (some z, 1, bytes)) (hzs : z.cells.size = 1)
    (v u : Value) (n : Nat) (xs : List Value) (hs : a.eval s = v) (hown : w.ownsRow base e 1 v n xs) (hx : a.eval x = .slice (some ⟨w.heap.size, 0, none⟩) 1 1) (hu : u.oneCell' = true)
    (h63 : n + 1 ≤ maxLen) (hbytes : (n + 1) * bytes ≤ 140737488355328) (hbase : base ≤ w.heap.size)
    (h : ∀ v' w', w'.ownsRow base e 1 v' (n + 1) (xs ++ [u]) →
      ((∃ g cap, v = .slice (some ⟨g, 0, none⟩) n cap ∧ v' = .slice (some ⟨g, 0, none⟩) (n + 1) cap ∧ w.grownBy w' (some g)) ∨
       ((∃ b, v'.ownBlock = some b ∧ w.heap.size ≤ b) ∧ Below w.heap.size w w')) → wpList P ops Q rest (a.put o.dst v') w') :
    wpList P ops Q (o :: rest) a (w.alloc (.cells #[u] e)) := by
  refine wpList_plain hgd fun K hK => ?_
  obtain ⟨i0, hi, hz0, hz1, hz2⟩ := info_parts hinfo
  have hown2 : (w.alloc (.cells #[u] e)).ownsRow base e 1 v n xs := by
    obtain ⟨h1, h2⟩ := hown
    refine ⟨h1, ?_⟩
    rcases h2 with h2 | ⟨g, cap, cur, hv, hg, hh, r⟩
    · exact .inl h2
    · exact .inr ⟨g, cap, cur, hv, hg, (Below.heap_alloc w _ g (blk_lt hh)).trans hh, r⟩
  obtain ⟨v', w', hr, h2, h3⟩ := run_append_two (P := P) (w.alloc (.cells #[u] e)) base t o.type e i0 z bytes ht hi hz0 hz1 hz2 hzs v n xs hown2 ⟨w.heap.size, 0, none⟩ 1 1 [u] rfl (by omega) (cell_one_new _ _ _)
    (by intro u' hu'; rw [List.mem_singleton.1 hu']; exact hu) h63 hbytes (by simp; omega)
  unfold Oper.wp execOp
  simp only [ho, resolve, invoke, builtin, Sem.run_bind, Sem.run_pure, Result.andThen_ok, List.map_toArray, List.map_cons, List.map_nil, hs, hx, hr]
  refine hK _ _ (h v' w' h2 ?_)
  rcases h3 with ⟨g, cap, e1, e2, hg, _⟩ | ⟨hb, hbel⟩
  · exact .inl ⟨g, cap, e1, e2, ⟨hg.os, hg.tape, hg.output, Nat.le_trans (by simp) hg.size, fun k hk hne => (hg.block k (by simp; omega) hne).trans (Below.heap_alloc w _ k hk)⟩⟩
  · refine .inr ⟨⟨_, hb, by simp⟩, ⟨hbel.os, hbel.tape, hbel.output, Nat.le_trans (by simp) hbel.size, fun k hk => (hbel.block k (by simp; omega)).trans (Below.heap_alloc w _ k hk)⟩⟩
end

/-- append of a whole row of the call's own (nil or not) onto another: where the new one lies. -/
theorem wpList_append_row {P : Program} (w : World) {ops : Array Oper} {rest : List Oper} {o : Oper} {a : Act} {Q : Exit → Act → World → Prop} (hgd : o.guard = none) (s x : Operand) (t : TypeId)
    (ho : o.op = .call { callee := .builtin .append, args := #[s, x], argTypes := #[t, t] })
    (base base2 : Nat) (e : TypeId) (z : Value) (bytes : Nat) (ht : P.underlying t = some (.slice e)) (hinfo : (P.info? e).map (fun i => (i.zero, i.size, i.bytes)) = some (some z, 1, bytes)) (hzs : z.cells.size = 1)
    (v u : Value) (n m : Nat) (xs news : List Value) (hs : a.eval s = v) (hown : w.ownsRow base e 1 v n xs) (hx : a.eval x = u) (hsrc : w.ownsRow base2 e 1 u m news) (h1 : ∀ y ∈ news, y.oneCell' = true)
    (h63 : n + m ≤ maxLen) (hbytes : (n + m) * bytes ≤ 140737488355328) (hbase : base ≤ w.heap.size)
    (h : ∀ v' w', w'.ownsRow base e 1 v' (n + m) (xs ++ news) → w.grownBy w' v.ownBlock → (v'.ownBlock = v.ownBlock ∨ v'.ownBlock = some w.heap.size) → wpList P ops Q rest (a.put o.dst v') w') :
    wpList P ops Q (o :: rest) a w := by
  refine wpList_plain hgd fun K hK => ?_
  obtain ⟨i0, hi, hz0, hz1, hz2⟩ := info_parts hinfo
  obtain ⟨hl, hu⟩ := hsrc
  rcases hu with ⟨rfl, rfl⟩ | ⟨g, cap, cur, rfl, hb, hh, hr⟩
  · have hn : news = [] := List.eq_nil_of_length_eq_zero (by simpa using hl)
    subst hn
    have hrun := run_append_owned_none (P := P) w base t o.type e i0 1 ht hi v n xs hown
    unfold Oper.wp execOp
    simp only [ho, resolve, invoke, builtin, Sem.run_bind, Sem.run_pure, Result.andThen_ok, List.map_toArray, List.map_cons, List.map_nil, hs, hx, hrun]
    exact hK _ _ (h v w (by simpa using hown) (World.grownBy.refl _ _) (.inl rfl))
  · have hcells : ∀ j y, news[j]? = some y → w.cell? ((⟨g, 0, none⟩ : Addr).add j) = some y := World.ownsRow.cells (v := .slice (some ⟨g, 0, none⟩) m cap) ⟨hl, .inr ⟨g, cap, cur, rfl, hb, hh, hr⟩⟩ (g := g) rfl
    obtain ⟨v', w', hrun, h2, h3, _, h5⟩ := run_append_own_at (P := P) w base t o.type e i0 z 1 bytes ht hi hz0 hz1 hz2 hzs (by omega) v n xs hown ⟨g, 0, none⟩ m cap news hl hcells h1 h63 hbytes hbase
    unfold Oper.wp execOp
    simp only [ho, resolve, invoke, builtin, Sem.run_bind, Sem.run_pure, Result.andThen_ok, List.map_toArray, List.map_cons, List.map_nil, hs, hx, hrun]
    exact hK _ _ (h v' w' h2 h3 h5)

/-- Every block that is v's stays: the row stays. -/
theorem own_stay {w w' : World} {base E n : Nat} {v : Value} {xs : List Value} (h : w.ownsRow base E 1 v n xs) (hk : ∀ b, v.ownBlock = some b → w'.heap[b]? = w.heap[b]?) : w'.ownsRow base E 1 v n xs := own_move h hk

/-- Rows told apart: V's are what came, G's what has grown out of the first of them; f: whose a block is. -/
structure Fam (w : World) (base E : Nat) (VL GL : List Value) (n : Nat → Nat) (mk : Nat → Nat → Value) (f : Nat → Nat) : Prop where
  V : ∀ k v, VL[k]? = some v → (∃ xs, w.ownsRow base E 1 v (n k) xs ∧ (k < GL.length → ∀ t, t < n k → xs[t]? = some (mk k t))) ∧ ∀ b, v.ownBlock = some b → f b = k
  G : ∀ k g, GL[k]? = some g → (∃ xs, w.ownsRow base E 1 g (n k + 9) xs ∧ ∀ t, t < n k + 9 → xs[t]? = some (mk k t)) ∧ ∀ b, g.ownBlock = some b → f b = k

theorem Fam.stay {w w' : World} {base E : Nat} {VL GL : List Value} {n : Nat → Nat} {mk : Nat → Nat → Value} {f : Nat → Nat} (h : Fam w base E VL GL n mk f)
    (hk : ∀ (b : Nat) (cs : Array Value), w.heap[b]? = some (Obj.cells cs E (0, 0)) → w'.heap[b]? = w.heap[b]?) : Fam w' base E VL GL n mk f := by
  refine ⟨fun k v hv => ?_, fun k g hg => ?_⟩
  · obtain ⟨⟨xs, ho, hm⟩, hf⟩ := h.V k v hv
    exact ⟨⟨xs, own_stay ho (fun b hb => by obtain ⟨cs, hc⟩ := own_typed ho b hb; exact hk b cs hc), hm⟩, hf⟩
  · obtain ⟨⟨xs, ho, hm⟩, hf⟩ := h.G k g hg
    exact ⟨⟨xs, own_stay ho (fun b hb => by obtain ⟨cs, hc⟩ := own_typed ho b hb; exact hk b cs hc), hm⟩, hf⟩

/-- The next of them has grown: its own block and new ones alone have turned. -/
theorem Fam.next {w w' : World} {base E : Nat} {VL GL : List Value} {n : Nat → Nat} {mk : Nat → Nat → Value} {f : Nat → Nat} (h : Fam w base E VL GL n mk f) {v g : Value} (hv : VL[GL.length]? = some v)
    {xs ys : List Value} (hx : w'.ownsRow base E 1 v (n GL.length) xs) (mx : ∀ t, t < n GL.length → xs[t]? = some (mk GL.length t)) (hy : w'.ownsRow base E 1 g (n GL.length + 9) ys) (my : ∀ t, t < n GL.length + 9 → ys[t]? = some (mk GL.length t))
    (hg : g.ownBlock = v.ownBlock ∨ ∃ b, g.ownBlock = some b ∧ w.heap.size ≤ b) (hk : ∀ b, b < w.heap.size → v.ownBlock ≠ some b → w'.heap[b]? = w.heap[b]?) :
    Fam w' base E VL (GL ++ [g]) n mk (fun b => if w.heap.size ≤ b then GL.length else f b) := by
  have hold : ∀ (u : Value) (m : Nat) (zs : List Value), w.ownsRow base E 1 u m zs → ∀ b, u.ownBlock = some b → b < w.heap.size := fun u m zs ho b hb => own_lt ho b hb
  have hvf := (h.V _ v hv).2
  have hother : ∀ (u : Value) (m k : Nat) (zs : List Value), w.ownsRow base E 1 u m zs → (∀ b, u.ownBlock = some b → f b = k) → k ≠ GL.length → w'.ownsRow base E 1 u m zs := fun u m k zs ho hf hne =>
    own_stay ho (fun b hb => hk b (hold u m zs ho b hb) (fun he => hne (by rw [← hf b hb, hvf b he])))
  refine ⟨fun k u hu => ?_, fun k u hu => ?_⟩
  · obtain ⟨⟨zs, ho, hm⟩, hf⟩ := h.V k u hu
    refine ⟨?_, fun b hb => by
      have := hold u _ zs ho b hb
      rw [if_neg (by omega)]
      exact hf b hb⟩
    by_cases he : k = GL.length
    · subst he
      rw [hv] at hu
      cases hu
      exact ⟨xs, hx, fun _ => mx⟩
    · refine ⟨zs, hother u _ k zs ho hf he, fun hl => hm ?_⟩
      rw [List.length_append, List.length_singleton] at hl
      omega
  · by_cases he : k < GL.length
    · rw [List.getElem?_append_left he] at hu
      obtain ⟨⟨zs, ho, hm⟩, hf⟩ := h.G k u hu
      exact ⟨⟨zs, hother u _ k zs ho hf (by omega), hm⟩, fun b hb => by
        have := hold u _ zs ho b hb
        rw [if_neg (by omega)]
        exact hf b hb⟩
    · have hkl : k < (GL ++ [g]).length := (List.getElem?_eq_some_iff.1 hu).1
      rw [List.length_append, List.length_singleton] at hkl
      obtain rfl : k = GL.length := by omega
      rw [List.getElem?_append_right (Nat.le_refl _), Nat.sub_self] at hu
      simp only [List.getElem?_cons_zero, Option.some.injEq] at hu
      subst hu
      refine ⟨⟨ys, hy, my⟩, fun b hb => ?_⟩
      rcases hg with hg | ⟨b', hb', hle⟩
      · rw [hg] at hb
        obtain ⟨⟨zs, ho, _⟩, hf⟩ := h.V _ v hv
        have := hold v _ zs ho b hb
        rw [if_neg (by omega)]
        exact hf b hb
      · rw [hb'] at hb
        cases hb
        rw [if_pos hle]

/-- A store into a row. -/
theorem own_put {w : World} {base E b cap n : Nat} {xs : List Value} (h : w.ownsRow base E 1 (.slice (some ⟨b, 0, none⟩) n cap) n xs) (j : Nat) (hj : j < n) (u : Value) :
    (w.setCell ⟨b, j, none⟩ u).ownsRow base E 1 (.slice (some ⟨b, 0, none⟩) n cap) n (xs.set j u) := by
  obtain ⟨hl, h2⟩ := h
  refine ⟨by simpa using hl, .inr ?_⟩
  rcases h2 with ⟨h2, _⟩ | ⟨g, cap', cur, hv, hb, hh, hn, hm, hs, ht⟩
  · simp at h2
  · simp only [Value.slice.injEq, Option.some.injEq, Addr.mk.injEq, and_true, true_and] at hv
    obtain ⟨rfl, rfl⟩ := hv
    refine ⟨b, cap, cur.setIfInBounds j u, rfl, hb, ?_, hn, hm, by simpa using hs, ?_⟩
    · simp [World.setCell, Array.getElem?_modify, hh]
    · rw [← ht, Array.toList_setIfInBounds, List.take_set]

theorem own_head {w : World} {base E n : Nat} {v : Value} {xs : List Value} (h : w.ownsRow base E 1 v n xs) (hn : 0 < n) : ∃ b cap, v = .slice (some ⟨b, 0, none⟩) n cap ∧ base ≤ b ∧ b < w.heap.size := by
  rcases h.2 with ⟨_, h0⟩ | ⟨g, cap, cur, rfl, hb, hh, _⟩
  · omega
  · exact ⟨g, cap, rfl, hb, blk_lt hh⟩
theorem own_val {w : World} {base E n : Nat} {v : Value} {xs : List Value} (h : w.ownsRow base E 1 v n xs) : ∃ A cap, v = .slice A n cap := by
  rcases h.2 with ⟨rfl, rfl⟩ | ⟨g, cap, cur, rfl, _⟩
  · exact ⟨none, 0, rfl⟩
  · exact ⟨_, cap, rfl⟩
theorem own_cell {w : World} {base E b cap n m : Nat} {xs : List Value} {u : Value} {j : Nat} (h : w.ownsRow base E 1 (.slice (some ⟨b, 0, none⟩) m cap) n xs) (hu : xs[j]? = some u) : w.cell? ⟨b, j, none⟩ = some u := by
  have := h.cells (g := b) rfl j u hu
  rwa [Addr.add_lit, Nat.zero_add] at this
theorem own_free {w : World} {base E b cap n m : Nat} {xs : List Value} (h : w.ownsRow base E 1 (.slice (some ⟨b, 0, none⟩) m cap) n xs) (j : Nat) : w.frozen? ⟨b, j, none⟩ = false := by
  obtain ⟨cs, hc⟩ := own_typed h b rfl
  simp [World.frozen?, hc]
theorem own_ne {w : World} {base base' E E' n n' : Nat} {v u : Value} {xs ys : List Value} (h : w.ownsRow base E 1 v n xs) (k : w.ownsRow base' E' 1 u n' ys) (hne : E ≠ E') {b : Nat} (hb : v.ownBlock = some b) : u.ownBlock ≠ some b := fun hb' => by
  obtain ⟨cs, hc⟩ := own_typed h b hb
  obtain ⟨cs', hc'⟩ := own_typed k b hb'
  rw [hc] at hc'
  simp at hc'
  exact hne hc'.2

end Go.Proofs.Ytdllpgeagdckmaa.ApartKit

/- Rows of names told apart by their blocks: one of them grows, one of them is sorted; what the levels hold while they are made. -/
namespace Go.Proofs.Ytdllpgeagdckmaa.Q
open Go.RowKit Go.Proofs.YtdllpgeagdckmaaW.PrintWords Go.Proofs.YtdllpgeagdckmaaW.PrintLast Go.Proofs.YtdllpgeagdckmaaW.PrintMore Go.Proofs.Ytdllpgeagdckmaa.MapKit Go.Maps Go.Proofs.Ytdllpgeagdckmaa.Ord Go.Proofs.Ytdllpgeagdckmaa.ApartKit
set_option linter.unusedVariables false
set_option linter.unusedSimpArgs false

/-- Rows told apart: f says whose a block is. -/
structure LRows (w : World) (base : Nat) (VL : List Value) (rows : List (List ByteArray)) (f : Nat → Nat) : Prop where
  len : VL.length = rows.length
  row : ∀ (k : Nat) (v : Value) (r : List ByteArray), VL[k]? = some v → rows[k]? = some r → SRow w base v r
  own : ∀ (k : Nat) (v : Value) (b : Nat), VL[k]? = some v → v.ownBlock = some b → f b = k

theorem LRows.nil (w : World) (base : Nat) (f : Nat → Nat) : LRows w base [] [] f := ⟨rfl, by simp, by simp⟩
theorem SRow.stay {w w' : World} {base : Nat} {v : Value} {xs : List ByteArray} (h : SRow w base v xs) (hk : ∀ b, v.ownBlock = some b → w'.heap[b]? = w.heap[b]?) : SRow w' base v xs := own_move h hk
theorem SRow.block {w : World} {base : Nat} {v : Value} {xs : List ByteArray} (h : SRow w base v xs) {b : Nat} (hb : v.ownBlock = some b) : ∃ cs, w.heap[b]? = some (.cells cs 9 (0, 0)) := own_typed h b hb
theorem SRow.lt {w : World} {base : Nat} {v : Value} {xs : List ByteArray} (h : SRow w base v xs) {b : Nat} (hb : v.ownBlock = some b) : b < w.heap.size := own_lt h b hb
theorem SRow.weak {w : World} {base base' : Nat} {v : Value} {xs : List ByteArray} (h : SRow w base v xs) (hb : base' ≤ base) : SRow w base' v xs := by
  obtain ⟨h1, h2⟩ := h
  refine ⟨h1, ?_⟩
  rcases h2 with h2 | ⟨g, cap, cur, hv, hg, r⟩
  · exact .inl h2
  · exact .inr ⟨g, cap, cur, hv, Nat.le_trans hb hg, r⟩
theorem LRows.get {w : World} {base : Nat} {VL : List Value} {rows : List (List ByteArray)} {f : Nat → Nat} (h : LRows w base VL rows f) {k : Nat} (hk : k < rows.length) : ∃ v r, VL[k]? = some v ∧ rows[k]? = some r ∧ SRow w base v r := by
  have hk' : k < VL.length := by rw [h.len]; exact hk
  exact ⟨_, _, List.getElem?_eq_getElem hk', List.getElem?_eq_getElem hk, h.row k _ _ (List.getElem?_eq_getElem hk') (List.getElem?_eq_getElem hk)⟩
theorem LRows.back {w : World} {base : Nat} {VL : List Value} {rows : List (List ByteArray)} {f : Nat → Nat} (h : LRows w base VL rows f) {k : Nat} {v : Value} (hv : VL[k]? = some v) : ∃ r, rows[k]? = some r ∧ SRow w base v r := by
  have hk : k < VL.length := (List.getElem?_eq_some_iff.1 hv).1
  rw [h.len] at hk
  exact ⟨_, List.getElem?_eq_getElem hk, h.row k _ _ hv (List.getElem?_eq_getElem hk)⟩
theorem LRows.stay {w w' : World} {base : Nat} {VL : List Value} {rows : List (List ByteArray)} {f : Nat → Nat} (h : LRows w base VL rows f) (hk : ∀ (b : Nat) (cs : Array Value), w.heap[b]? = some (Obj.cells cs 9 (0, 0)) → w'.heap[b]? = w.heap[b]?) : LRows w' base VL rows f :=
  ⟨h.len, fun k v r hv hr => (h.row k v r hv hr).stay fun b hb => by
    obtain ⟨cs, hc⟩ := (h.row k v r hv hr).block hb
    exact hk b cs hc, h.own⟩
theorem LRows.below {w w' : World} {base : Nat} {VL : List Value} {rows : List (List ByteArray)} {f : Nat → Nat} (h : LRows w base VL rows f) (hb : Below w.heap.size w w') : LRows w' base VL rows f := h.stay fun b cs hc => hb.block b (blk_lt hc)
theorem LRows.weak {w : World} {base base' : Nat} {VL : List Value} {rows : List (List ByteArray)} {f : Nat → Nat} (h : LRows w base VL rows f) (hb : base' ≤ base) : LRows w base' VL rows f := ⟨h.len, fun k v r hv hr => (h.row k v r hv hr).weak hb, h.own⟩
theorem LRows.push {w : World} {base : Nat} {VL : List Value} {rows : List (List ByteArray)} {f : Nat → Nat} (h : LRows w base VL rows f) : LRows w base (VL ++ [.slice none 0 0]) (rows ++ [[]]) f := by
  refine ⟨by simp [h.len], fun k v r hv hr => ?_, fun k v b hv hb => ?_⟩
  · rcases Nat.lt_or_ge k rows.length with hk | hk
    · rw [List.getElem?_append_left (by rw [h.len]; exact hk)] at hv
      rw [List.getElem?_append_left hk] at hr
      exact h.row k v r hv hr
    · rw [List.getElem?_append_right (by rw [h.len]; exact hk)] at hv
      rw [List.getElem?_append_right hk] at hr
      have h1 : v = .slice none 0 0 := by
        have := List.mem_of_getElem? hv
        simpa using this
      have h2 : r = [] := by
        have := List.mem_of_getElem? hr
        simpa using this
      subst h1 h2
      exact SRow.nil _ _
  · rcases Nat.lt_or_ge k VL.length with hk | hk
    · rw [List.getElem?_append_left hk] at hv
      exact h.own k v b hv hb
    · rw [List.getElem?_append_right hk] at hv
      have h1 : v = .slice none 0 0 := by
        have := List.mem_of_getElem? hv
        simpa using this
      subst h1
      cases hb
/-- One row has grown, or has been sorted. -/
theorem LRows.set {w w' : World} {base : Nat} {VL : List Value} {rows : List (List ByteArray)} {f : Nat → Nat} (h : LRows w base VL rows f) {k : Nat} {v g : Value} {r : List ByteArray} (hv : VL[k]? = some v) (hg : SRow w' base g r)
    (hat : g.ownBlock = v.ownBlock ∨ ∃ b, g.ownBlock = some b ∧ w.heap.size ≤ b) (hk : ∀ b cs, w.heap[b]? = some (Obj.cells cs 9 (0, 0)) → v.ownBlock ≠ some b → w'.heap[b]? = w.heap[b]?) :
    LRows w' base (VL.set k g) (rows.set k r) (fun b => if w.heap.size ≤ b then k else f b) := by
  have hlt : k < VL.length := (List.getElem?_eq_some_iff.1 hv).1
  refine ⟨by simp [h.len], fun j u s hu hs => ?_, fun j u b hu hb => ?_⟩
  · by_cases hj : k = j
    · subst hj
      rw [List.getElem?_set_self hlt] at hu
      rw [List.getElem?_set_self (by rw [← h.len]; exact hlt)] at hs
      cases hu
      cases hs
      exact hg
    · rw [List.getElem?_set_ne hj] at hu hs
      have ho := h.row j u s hu hs
      refine ho.stay fun b hb => ?_
      obtain ⟨cs, hc⟩ := ho.block hb
      exact hk b cs hc fun he => hj ((h.own k v b hv he).symm.trans (h.own j u b hu hb))
  · by_cases hj : k = j
    · subst hj
      rw [List.getElem?_set_self hlt] at hu
      cases hu
      show (if w.heap.size ≤ b then k else f b) = k
      rcases hat with he | ⟨b', he, hle⟩
      · rw [he] at hb
        obtain ⟨_, _, ho⟩ := h.back hv
        rw [if_neg (by have := ho.lt hb; omega)]
        exact h.own k v b hv hb
      · rw [he] at hb
        cases hb
        rw [if_pos hle]
    · rw [List.getElem?_set_ne hj] at hu
      obtain ⟨_, _, ho⟩ := h.back hu
      show (if w.heap.size ≤ b then k else f b) = j
      rw [if_neg (by have := ho.lt hb; omega)]
      exact h.own j u b hu hb

/-! ### What the levels hold -/
structure LPure (F : ByteArray → Nat) (p : List ByteArray) (rows : List (List ByteArray)) : Prop where
  lt_ : ∀ x ∈ p, F x < rows.length
  ne : ∀ r ∈ rows, r ≠ []
  mem : ∀ (k : Nat) (r : List ByteArray), rows[k]? = some r → ∀ x, x ∈ r ↔ x ∈ p ∧ F x = k
  nd : ∀ r ∈ rows, r.Nodup
  cnt : rows.length ≤ p.length
theorem LPure.nil (F : ByteArray → Nat) : LPure F [] [] := ⟨by simp, by simp, by simp, by simp, Nat.le_refl _⟩
theorem LPure.short {F : ByteArray → Nat} {p : List ByteArray} {rows : List (List ByteArray)} (h : LPure F p rows) {r : List ByteArray} (hr : r ∈ rows) : r.length ≤ p.length := by
  obtain ⟨k, hk⟩ := List.getElem?_of_mem hr
  exact subset_length (h.nd r hr) fun x hx => ((h.mem k r hk x).1 hx).1
theorem LPure.put {F : ByteArray → Nat} {p : List ByteArray} {rows : List (List ByteArray)} (h : LPure F p rows) {x : ByteArray} (hx : x ∉ p) {r : List ByteArray} (hr : rows[F x]? = some r) : LPure F (p ++ [x]) (rows.set (F x) (r ++ [x])) := by
  have hlt : F x < rows.length := (List.getElem?_eq_some_iff.1 hr).1
  have hrm := List.mem_of_getElem? hr
  have hall : ∀ s ∈ rows.set (F x) (r ++ [x]), s ∈ rows ∨ s = r ++ [x] := fun s hs => by
    rcases List.mem_or_eq_of_mem_set hs with h1 | h1
    · exact .inl h1
    · exact .inr h1
  refine ⟨fun y hy => ?_, fun s hs => ?_, fun k s hs y => ?_, fun s hs => ?_, by simp; have := h.cnt; omega⟩
  · rw [List.length_set]
    rcases List.mem_append.1 hy with hy | hy
    · exact h.lt_ y hy
    · rw [List.mem_singleton.1 hy]; exact hlt
  · rcases hall s hs with h1 | rfl
    · exact h.ne s h1
    · simp
  · by_cases hk : F x = k
    · subst hk
      rw [List.getElem?_set_self hlt] at hs
      cases hs
      rw [List.mem_append, List.mem_append, h.mem _ r hr, List.mem_singleton]
      constructor
      · rintro (⟨h1, h2⟩ | rfl)
        · exact ⟨.inl h1, h2⟩
        · exact ⟨.inr rfl, rfl⟩
      · rintro ⟨h1 | rfl, h2⟩
        · exact .inl ⟨h1, h2⟩
        · exact .inr rfl
    · rw [List.getElem?_set_ne hk] at hs
      rw [List.mem_append, h.mem k s hs, List.mem_singleton]
      constructor
      · rintro ⟨h1, h2⟩
        exact ⟨.inl h1, h2⟩
      · rintro ⟨h1 | rfl, h2⟩
        · exact ⟨h1, h2⟩
        · exact absurd h2 hk
  · rcases hall s hs with h1 | rfl
    · exact h.nd s h1
    · rw [List.nodup_append]
      exact ⟨h.nd r hrm, by simp, fun a ha b hb e => hx (by rw [← List.mem_singleton.1 hb, ← e]; exact ((h.mem _ r hr a).1 ha).1)⟩
theorem LPure.new {F : ByteArray → Nat} {p : List ByteArray} {rows : List (List ByteArray)} (h : LPure F p rows) {x : ByteArray} (hx : x ∉ p) (hF : F x = rows.length) : LPure F (p ++ [x]) (rows ++ [[x]]) := by
  refine ⟨fun y hy => ?_, fun s hs => ?_, fun k s hs y => ?_, fun s hs => ?_, by simp; exact h.cnt⟩
  · rw [List.length_append, List.length_singleton]
    rcases List.mem_append.1 hy with hy | hy
    · have := h.lt_ y hy; omega
    · rw [List.mem_singleton.1 hy]; omega
  · rcases List.mem_append.1 hs with h1 | h1
    · exact h.ne s h1
    · rw [List.mem_singleton.1 h1]; simp
  · rcases Nat.lt_or_ge k rows.length with hk | hk
    · rw [List.getElem?_append_left hk] at hs
      rw [List.mem_append, h.mem k s hs, List.mem_singleton]
      constructor
      · rintro ⟨h1, h2⟩
        exact ⟨.inl h1, h2⟩
      · rintro ⟨h1 | rfl, h2⟩
        · exact ⟨h1, h2⟩
        · omega
    · have hk2 : k = rows.length := by
        have := (List.getElem?_eq_some_iff.1 hs).1
        simp at this
        omega
      subst hk2
      rw [List.getElem?_append_right (Nat.le_refl _)] at hs
      simp at hs
      subst hs
      rw [List.mem_singleton, List.mem_append, List.mem_singleton]
      constructor
      · rintro rfl
        exact ⟨.inr rfl, hF⟩
      · rintro ⟨h1 | h1, h2⟩
        · have := h.lt_ y h1; omega
        · exact h1
  · rcases List.mem_append.1 hs with h1 | h1
    · exact h.nd s h1
    · rw [List.mem_singleton.1 h1]; simp

/-! ### One row is sorted -/
def sortN (xs : List ByteArray) : List ByteArray := ((xs.map (·.data.toList)).mergeSort (fun x y => decide (x ≤ y))).map (fun l => ⟨l.toArray⟩)
theorem toArr_toList (x : ByteArray) : (⟨x.data.toList.toArray⟩ : ByteArray) = x := by rw [Array.toArray_toList]
theorem sortN_perm (xs : List ByteArray) : (sortN xs).Perm xs := by
  have h := (List.mergeSort_perm (xs.map (·.data.toList)) (fun x y => decide (x ≤ y))).map (fun l => (⟨l.toArray⟩ : ByteArray))
  rw [List.map_map] at h
  refine h.trans (List.Perm.of_eq ?_)
  conv => rhs; rw [← List.map_id xs]
  exact List.map_congr_left fun x _ => toArr_toList x
theorem sortN_length (xs : List ByteArray) : (sortN xs).length = xs.length := (sortN_perm xs).length_eq
theorem sortN_rising {xs : List ByteArray} (hn : xs.Nodup) : Rising ltN (sortN xs) := by
  have hp := List.pairwise_mergeSort (le := fun x y : List UInt8 => decide (x ≤ y)) (fun a b c h1 h2 => decide_eq_true (List.le_trans (of_decide_eq_true h1) (of_decide_eq_true h2))) (fun a b => by
    rcases List.le_total a b with h | h
    · simp [h]
    · simp [h]) (xs.map (·.data.toList))
  have h1 : (sortN xs).Pairwise (fun a b => a.data.toList ≤ b.data.toList) := by
    unfold sortN
    rw [List.pairwise_map]
    exact hp.imp fun {a b} h => by simpa using h
  have hn2 : (sortN xs).Nodup := (sortN_perm xs).nodup_iff.2 hn
  refine (h1.and hn2).imp ?_
  rintro a b ⟨h1, h2⟩
  rcases totN.tri a b with h | h | h
  · exact h
  · exact absurd h h2
  · rw [ltN_iff] at h
    exact absurd (of_decide_eq_true h) (List.not_lt.2 h1)

theorem sort_row (w : World) (base : Nat) (v : Value) (xs : List ByteArray) (h : SRow w base v xs) (hl : xs.length ≤ 8000000) :
    Calls Try.prog 30 #[v] w fun e w' => e = .returned (.tuple #[]) ∧ SRow w' base v (sortN xs) ∧ w.grownBy w' v.ownBlock := by
  have hm : xs.map Value.string = (xs.map (·.data.toList)).map encStr := by
    rw [List.map_map]
    exact List.map_congr_left fun x _ => by show Value.string x = Value.string _; rw [toArr_toList]
  have hlen : (xs.map (·.data.toList)).length = xs.length := List.length_map _
  obtain ⟨h1, h2⟩ := h
  rcases h2 with ⟨rfl, h0⟩ | ⟨g, cap, cur, rfl, hg, hb, c1, c2, c3, c4⟩
  · obtain rfl : xs = [] := List.eq_nil_of_length_eq_zero h0
    exact (Try.slices_Sort_string_none none 0 w).mono fun e w' ⟨he, hw⟩ => ⟨he, by simpa [sortN] using SRow.nil w' base, by rw [← hw]; exact World.grownBy.refl _ _⟩
  · have hH : Go.Sort.Holds encStr w g 0 (xs.map (·.data.toList)).toArray := holds_of_block hb (by rw [hlen, ← hm]; simpa using c4)
    have hcall := Try.slices_Sort_string g 0 cap (xs.map (·.data.toList)) w hH (blk_lt hb) (by rw [hlen]; omega)
    rw [hlen] at hcall
    refine hcall.mono ?_
    rintro e w' ⟨rfl, n, os, rfl⟩
    refine ⟨rfl, ?_, grownBy_sorted _⟩
    have ho := ownsRow_sorted (n := n) (os := os) (ss := xs.map (·.data.toList)) (ts := (xs.map (·.data.toList)).mergeSort fun x y => decide (x ≤ y)) (by simp) hg hb (by rw [hlen]; exact c1) c2 c3
    rw [hlen] at ho
    rw [SRow, sortN_length]
    have e2 : (sortN xs).map Value.string = ((xs.map (·.data.toList)).mergeSort fun x y => decide (x ≤ y)).map encStr := by
      unfold sortN
      rw [List.map_map]
      rfl
    rw [e2]
    exact ho

/-- What the map of levels holds. -/
def levF (F : ByteArray → Nat) (p : List ByteArray) (x : ByteArray) : Option Value := if x ∈ p then some (.int .i64 (F x : Int)) else none
theorem zero3 (w : World) : (zeroValue 3).run Try.prog w = .ok (.int .i64 0) w := by kernel_rfl
/-- Between two names. -/
structure LvRel (w w' : World) (gm : Nat) (F : ByteArray → Nat) (p : List ByteArray) (v12 : Value) (VL : List Value) (rows : List (List ByteArray)) (f : Nat → Nat) : Prop where
  out : w'.ownsRow w.heap.size 23 1 v12 VL.length VL
  rows : LRows w' w.heap.size VL rows f
  map : MapIs Try.prog 9 w' gm p.length (keyB (levF F p))
  below : Below w.heap.size w w'
  gm_ : w.heap.size ≤ gm

theorem LvRel.putM {w w2 w3 : World} {gm : Nat} {F : ByteArray → Nat} {p : List ByteArray} {x : ByteArray} {v12 : Value} {VL : List Value} {rows : List (List ByteArray)} {f : Nat → Nat} (h : LvRel w w2 gm F p v12 VL rows f)
    (hm : MapIs Try.prog 9 w3 gm (p.length + 1) (keyB fun y => if y = x then some (.int .i64 (F x : Int)) else levF F p y)) (hg : w2.grownBy w3 (some gm)) : LvRel w w3 gm F (p ++ [x]) v12 VL rows f where
  out := own_other h.out hg (.inr (map_ne_row h.map h.out))
  rows := h.rows.stay fun b cs hc => hg.block b (blk_lt hc) (fun e => map_ne_cells h.map hc (Option.some.inj e))
  map := by
    rw [List.length_append, List.length_singleton]
    refine hm.congr fun s => ?_
    cases s with
    | string l =>
      simp only [keyB, ofStr, levF, List.mem_append, List.mem_singleton]
      by_cases h1 : (⟨l.toArray⟩ : ByteArray) = x
      · simp [h1]
      · simp [h1]
    | _ => rfl
  below := pw_below_grown h.below _ h.below.size hg (fun k e => by cases e; exact h.gm_)
  gm_ := h.gm_
theorem LvRel.step {w w2 w3 : World} {gm : Nat} {F : ByteArray → Nat} {p : List ByteArray} {v12 : Value} {VL : List Value} {rows : List (List ByteArray)} {f : Nat → Nat} (h : LvRel w w2 gm F p v12 VL rows f) (hb : Below w2.heap.size w2 w3) : LvRel w w3 gm F p v12 VL rows f :=
  ⟨pw_own_below h.out hb, h.rows.below hb, h.map.below hb, below_step h.below hb, h.gm_⟩
/-- One row more, of no name. -/
theorem LvRel.more {w w2 w3 : World} {gm : Nat} {F : ByteArray → Nat} {p : List ByteArray} {v12 v' : Value} {VL : List Value} {rows : List (List ByteArray)} {f : Nat → Nat} (h : LvRel w w2 gm F p v12 VL rows f)
    (ho : w3.ownsRow w.heap.size 23 1 v' (VL.length + 1) (VL ++ [.slice none 0 0])) (hg : w2.grownBy w3 v12.ownBlock) : LvRel w w3 gm F p v' (VL ++ [.slice none 0 0]) (rows ++ [[]]) f where
  out := by rw [List.length_append]; exact ho
  rows := LRows.push (h.rows.stay fun b cs hc => hg.block b (blk_lt hc) fun e => by
    obtain ⟨cs', hc'⟩ := own_typed h.out b e.symm
    rw [hc] at hc'
    simp at hc')
  map := h.map.kept hg (map_ne_row h.map h.out)
  below := pw_below_grown h.below _ h.below.size hg (fun k e => own_base h.out k e)
  gm_ := h.gm_
/-- One name more in a row. -/
theorem LvRel.put {w w2 w3 : World} {gm : Nat} {F : ByteArray → Nat} {p : List ByteArray} {g n cap : Nat} {VL : List Value} {rows : List (List ByteArray)} {f : Nat → Nat} (h : LvRel w w2 gm F p (.slice (some ⟨g, 0, none⟩) n cap) VL rows f)
    {k : Nat} {v v' : Value} {r : List ByteArray} (hn : VL.length = n) (hv : VL[k]? = some v) (hr : SRow w3 w.heap.size v' r) (hg : w2.grownBy w3 v.ownBlock) (hat : v'.ownBlock = v.ownBlock ∨ ∃ b, v'.ownBlock = some b ∧ w2.heap.size ≤ b) :
    ∃ f', LvRel w (w3.setCell ⟨g, k, none⟩ v') gm F p (.slice (some ⟨g, 0, none⟩) n cap) (VL.set k v') (rows.set k r) f' := by
  obtain ⟨r0, hr0, hs0⟩ := h.rows.back hv
  have hlt : k < VL.length := (List.getElem?_eq_some_iff.1 hv).1
  subst hn
  have hvg : v.ownBlock ≠ some g := fun e => by
    obtain ⟨cs, hc⟩ := hs0.block e
    obtain ⟨cs', hc'⟩ := own_typed h.out g rfl
    rw [hc] at hc'
    simp at hc'
  have hgm := map_ne_row h.map h.out
  have ho3 : w3.ownsRow w.heap.size 23 1 (.slice (some ⟨g, 0, none⟩) VL.length cap) VL.length VL := own_other h.out hg (.inr fun e => hvg e.symm)
  have hg3 : ∃ cs, w3.heap[g]? = some (.cells cs 23 (0, 0)) := own_typed ho3 g rfl
  have hmv : v.ownBlock ≠ some gm := map_ne_row h.map hs0
  have hrg : v'.ownBlock ≠ some g := fun e => by
    obtain ⟨cs, hc⟩ := hr.block e
    obtain ⟨cs', hc'⟩ := hg3
    rw [hc] at hc'
    simp at hc'
  refine ⟨_, ⟨by rw [List.length_set]; exact own_put ho3 k hlt v', LRows.set h.rows hv (own_setCell hr (p := ⟨g, k, none⟩) (fun e => hrg e.symm) v') hat ?_, map_far (h.map.kept hg hmv) (p := ⟨g, k, none⟩) (fun e => hgm (by rw [e]; rfl)) v', ?_, h.gm_⟩⟩
  · intro b cs hc hne
    have hbg : b ≠ g := fun e => by
      obtain ⟨cs', hc'⟩ := own_typed h.out g rfl
      rw [e, hc'] at hc
      simp at hc
    rw [Below.heap_setCell w3 ⟨g, k, none⟩ v' b hbg]
    exact hg.block b (blk_lt hc) (fun e => hne e.symm)
  · have h1 := pw_below_grown h.below _ h.below.size hg (fun k e => own_base hs0 k e)
    exact h1.setCell (own_base h.out g rfl) v'

section
variable {w : World} {ops : Array Oper} {rest : List Oper} {o : Oper} {a : Act} {Q : Exit → Act → World → Prop}
/-- 'append(rows, nil)'. -/
theorem rows_append {W : World} (base : Nat) (hgd : o.guard = none) (s x : Operand) (ho : o.op = .call { callee := .builtin .append, args := #[s, x], argTypes := #[37, 37] }) {v : Value} {VL : List Value} (hs : a.eval s = v) (hx : a.eval x = .slice (some ⟨W.heap.size, 0, none⟩) 1 1)
    (HO : W.ownsRow base 23 1 v VL.length VL) (n6 : Nat) (hn6 : n6 = VL.length + 1) (hl : VL.length ≤ 4000000) (hbase : base ≤ W.heap.size)
    (hK : ∀ g c w', w'.ownsRow base 23 1 (.slice (some ⟨g, 0, none⟩) n6 c) (VL.length + 1) (VL ++ [.slice none 0 0]) → W.grownBy w' v.ownBlock → wpList Try.prog ops Q rest (a.put o.dst (.slice (some ⟨g, 0, none⟩) n6 c)) w') :
    wpList Try.prog ops Q (o :: rest) a (W.alloc (.cells #[.slice none 0 0] 23)) := by
  subst hn6
  obtain ⟨i0, hi, hzz⟩ := Option.map_eq_some_iff.1 info23
  simp only [Prod.mk.injEq] at hzz
  obtain ⟨hz0, hz1, hz2⟩ := hzz
  refine wpList_append_lies (W.alloc (.cells #[.slice none 0 0] 23)) hgd s x 37 ho base 23 i0 (.slice none 0 0) 1 24 Try.underlying37 hi hz0 hz1 hz2 rfl (by decide) v VL.length VL hs (pw_own_below HO (below_alloc (Below.refl _ _) _)) ⟨W.heap.size, 0, none⟩ 1 1 [.slice none 0 0] hx rfl
    (World.news_of_block (cs := #[.slice none 0 0]) (t := 23) (fr := (0, 0)) (heap_alloc_new W _)) (by simp [Value.oneCell']) (by decide) (by simp only [maxLen]; omega) (by omega) (by simp; omega) _ rfl ?_
  intro g c w1 hown hg _ _
  exact hK g c w1 hown (World.grownBy.trans (World.grownBy_alloc W _ _) hg)
end

/-- One row has been sorted. -/
theorem LvRel.sorted {w w2 w3 : World} {gm : Nat} {F : ByteArray → Nat} {p : List ByteArray} {v12 : Value} {VL : List Value} {rows : List (List ByteArray)} {f : Nat → Nat} (h : LvRel w w2 gm F p v12 VL rows f)
    {k : Nat} {v : Value} {r : List ByteArray} (hv : VL[k]? = some v) (hr : SRow w3 w.heap.size v r) (hg : w2.grownBy w3 v.ownBlock) : ∃ f', LvRel w w3 gm F p v12 VL (rows.set k r) f' := by
  obtain ⟨r0, hr0, hs0⟩ := h.rows.back hv
  have hmv : v.ownBlock ≠ some gm := map_ne_row h.map hs0
  have hov : v12.ownBlock = none ∨ v12.ownBlock ≠ v.ownBlock := by
    cases hb : v12.ownBlock with
    | none => exact .inl rfl
    | some b =>
      refine .inr fun e => ?_
      obtain ⟨cs, hc⟩ := hs0.block e.symm
      obtain ⟨cs', hc'⟩ := own_typed h.out b hb
      rw [hc] at hc'
      simp at hc'
  have h1 := LRows.set (w' := w3) h.rows hv hr (.inl rfl) (fun b cs hc hne => hg.block b (blk_lt hc) (fun e => hne e.symm))
  rw [show VL.set k v = VL from by
    obtain ⟨hl, e⟩ := List.getElem?_eq_some_iff.1 hv
    rw [← e, List.set_getElem_self]] at h1
  exact ⟨_, own_other h.out hg hov, h1, h.map.kept hg hmv, pw_below_grown h.below _ h.below.size hg (fun k e => own_base hs0 k e), h.gm_⟩

def sortAt (rows : List (List ByteArray)) (j : Nat) : List (List ByteArray) := (rows.take j).map sortN ++ rows.drop j
theorem sortAt_zero (rows : List (List ByteArray)) : sortAt rows 0 = rows := by simp [sortAt]
theorem sortAt_full {rows : List (List ByteArray)} {j : Nat} (h : rows.length ≤ j) : sortAt rows j = rows.map sortN := by
  rw [sortAt, List.take_of_length_le h, List.drop_eq_nil_of_le h, List.append_nil]
theorem sortAt_length (rows : List (List ByteArray)) (j : Nat) : (sortAt rows j).length = rows.length := by
  rw [sortAt, List.length_append, List.length_map, List.length_take, List.length_drop]; omega
theorem sortAt_get {rows : List (List ByteArray)} {j : Nat} {r : List ByteArray} (h : rows[j]? = some r) : (sortAt rows j)[j]? = some r ∧ sortAt rows (j + 1) = (sortAt rows j).set j (sortN r) := by
  obtain ⟨hl, e⟩ := List.getElem?_eq_some_iff.1 h
  have h1 : ((rows.take j).map sortN).length = j := by rw [List.length_map, List.length_take]; omega
  have h2 : rows.drop j = r :: rows.drop (j + 1) := by rw [← e]; exact List.drop_eq_getElem_cons hl
  constructor
  · rw [sortAt, List.getElem?_append_right (by rw [h1]; exact Nat.le_refl _), h1, Nat.sub_self, h2]
    rfl
  · rw [sortAt, sortAt, List.set_append_right _ _ (by rw [h1]; exact Nat.le_refl _), h1, Nat.sub_self, h2, List.set_cons_zero, List.take_succ_eq_append_getElem hl, List.map_append, List.append_assoc, e]
    rfl

theorem LPure.lev {F : ByteArray → Nat} {s : List ByteArray} {rows : List (List ByteArray)} (h : LPure F s rows) {net : Net ByteArray} (hF : ∀ x ∈ s, F x = lvl net F x) : Lev ltN net s (rows.map sortN) F where
  lv := hF
  lt_ := fun x hx => by rw [List.length_map]; exact h.lt_ x hx
  ne := fun r hr => by
    obtain ⟨r0, h0, rfl⟩ := List.mem_map.1 hr
    intro e
    have := sortN_length r0
    rw [e] at this
    exact h.ne r0 h0 (List.eq_nil_of_length_eq_zero this.symm)
  ri := fun r hr => by
    obtain ⟨r0, h0, rfl⟩ := List.mem_map.1 hr
    exact sortN_rising (h.nd r0 h0)
  mem := fun k r hr x => by
    rw [List.getElem?_map, Option.map_eq_some_iff] at hr
    obtain ⟨r0, h0, rfl⟩ := hr
    rw [(sortN_perm r0).mem_iff]
    exact h.mem k r0 h0 x

/-- What Levels comes to. -/
def LevQ (l : List S41) (w : World) (e : Ending) (w' : World) : Prop :=
  ∃ (v : Value) (VL : List Value) (r : List (List ByteArray)) (x : Int) (f : Nat → Nat), e = .returned (.tuple #[v, .int .i64 x]) ∧ LevelsB (netOf l) (r, x) ∧ w'.ownsRow w.heap.size 23 1 v VL.length VL ∧ LRows w' w.heap.size VL r f ∧ Below w.heap.size w w'
theorem own_weak {w : World} {base base' e n : Nat} {v : Value} {xs : List Value} (h : w.ownsRow base e 1 v n xs) (hb : base' ≤ base) : w.ownsRow base' e 1 v n xs := by
  obtain ⟨h1, h2⟩ := h
  refine ⟨h1, ?_⟩
  rcases h2 with h2 | ⟨g, cap, cur, hv, hg, r⟩
  · exact .inl h2
  · exact .inr ⟨g, cap, cur, hv, Nat.le_trans hb hg, r⟩
end Go.Proofs.Ytdllpgeagdckmaa.Q

/- order.Levels: its answer is the one that the theory of levels gives. DRAFT: the walk is only begun. -/
namespace Go.Proofs.Ytdllpgeagdckmaa.Q
open Go.RowKit Go.Proofs.YtdllpgeagdckmaaW.PrintWords Go.Proofs.YtdllpgeagdckmaaW.PrintLast Go.Proofs.YtdllpgeagdckmaaW.PrintMore Go.Proofs.Ytdllpgeagdckmaa.MapKit Go.Maps Go.Proofs.Ytdllpgeagdckmaa.Ord Go.Proofs.Ytdllpgeagdckmaa.ApartKit
attribute [local go_sem] max2_int min2_int max_two min_two max_three min_three max_four min_four
set_option linter.unusedVariables false
set_option linter.unusedSimpArgs false


set_option maxHeartbeats 4000000 in
set_option maxRecDepth 100000 in
theorem levels_walk (w : World) (A : Option Addr) (c : Nat) (l : List S41) (hC : Kd.C k41 w A l.length l) (hc : l.length ≤ c) (hfit : Fit l (l.map (·.f0)) []) (s : List ByteArray) (m : ByteArray) (e : Int) (hs : order_Sort.f l (l.map (·.f0)) [] = some (s, m, e)) :
    Calls Try.prog 14 #[.slice A l.length c] w (LevQ l w) := by
  have HC := Aside0.mk hC
  have HF := Aside0.mk hfit
  have HS := Aside0.mk hs
  clear hC hfit hs
  have hN : (l.length : Int) ≤ 3000000 := by
    have h1 := tot_ge (netOf l)
    have h2 := HF.out.tot_
    have h3 : (netOf l).length = l.length := by simp [netOf]
    omega
  have hmm := @run_makeMap Try.prog
  go_enter Try.func14, Try.ntmps14
  go_wp2_with fail
  go_loopg [4, 22] (l.length + 1) (fun kq v4 v22 w' => ∃ i : Nat, v22 = .int .i64 (i : Int) ∧ Aside0 (i ≤ l.length) ∧ Aside0 (kq + i = l.length + 1) ∧ Aside0 (SRow w' w.heap.size v4 ((l.take i).map (·.f0))) ∧ Aside0 (Below w.heap.size w w'))
  case atStart => exact ⟨0, rfl, ⟨Nat.zero_le _⟩, ⟨by omega⟩, ⟨SRow.nil _ _⟩, ⟨Below.refl _ _⟩⟩
  obtain ⟨i, rfl, HI, HK, HR, HB⟩ := hrel
  have hi := HI.out
  have hk := HK.out
  obtain ⟨A4, c4, hv4⟩ := HR.out.shape
  obtain ⟨n4, hn4⟩ : ∃ n, n = ((l.take i).map (·.f0)).length := ⟨_, rfl⟩
  rw [← hn4] at hv4
  subst hv4
  have hle : ((l.take i).map (·.f0)).length ≤ 8000000 := by rw [List.length_map, List.length_take]; omega
  have HLE := Aside0.mk hle
  have HN4 := Aside0.mk hn4
  clear hn4 hle
  by_cases hlt : i < l.length
  · have hz : decide ((i : Int) < (l.length : Int)) = true := decide_eq_true (by omega)
    obtain ⟨k1, rfl⟩ : ∃ k1, gk = k1 + 1 := ⟨gk - 1, by omega⟩
    obtain ⟨ad, A1, c1, rfl, z0, z1, hc1, hC1⟩ := vocab_at HC.out i hlt
    obtain ⟨v, hv'⟩ : ∃ v, v = l[i] := ⟨_, rfl⟩
    rw [← hv'] at z0 z1 hc1 hC1
    have x0 := pw_cell_below HB.out z0
    have x1 := pw_cell_below HB.out z1
    have hsn : (l.take (i + 1)).map (·.f0) = (l.take i).map (·.f0) ++ [v.f0] := by rw [List.take_succ_eq_append_getElem hlt, List.map_append, ← hv']; rfl
    have HSN := Aside0.mk hsn
    clear hsn hv' z0 z1 hc1 hC1 hi hk
    go_upto_region 5 with fail
    have hR2 := HR.out.alloc (.cells #[.string v.f0, .slice A1 v.f1.length c1] 41)
    have hB2 : Below w.heap.size w (wr.alloc (.cells #[.string v.f0, .slice A1 v.f1.length c1] 41)) := below_alloc HB.out _
    have hb7 : (wr.alloc (.cells #[.string v.f0, .slice A1 v.f1.length c1] 41)).heap[wr.heap.size]? = some (.cells #[.string v.f0, .slice A1 v.f1.length c1] 41 (0, 0)) := heap_alloc_new _ _
    generalize wr.alloc (.cells #[.string v.f0, .slice A1 v.f1.length c1] 41) = w2 at *
    obtain ⟨b7, hb7'⟩ : ∃ b7, b7 = wr.heap.size := ⟨_, rfl⟩
    rw [← hb7'] at hb7 ⊢
    clear hb7'
    have y0 : w2.cell? ⟨b7, 0, none⟩ = some (.string v.f0) := (blk_cell hb7 0).trans rfl
    have HR2 := Aside0.mk hR2
    have HB2 := Aside0.mk hB2
    clear hR2 hB2 hb7 x0 x1
    go_wp2_with (at_builtin; refine srow_append w.heap.size rfl (.tmp 26) (.tmp 29) rfl (v := .slice A4 n4 c4) (xs := (l.take i).map (·.f0)) rfl v.f0 rfl HR2.out HLE.out HB2.out.size ?_; intro A6 c6 w6 hr6 hg6 hat6; obtain ⟨n6, hn6⟩ : ∃ n, n = ((l.take i).map (·.f0)).length + 1 := ⟨_, rfl⟩; rw [← hn6] at hr6 ⊢; rw [← HSN.out] at hr6; have HR6 := Aside0.mk hr6; have HB6 := Aside0.mk (pw_below_grown HB2.out _ HB2.out.size hg6 (fun k e => HR2.out.base_le k e)); clear hr6 hg6 hat6 hn6)
    go_roundg k1
    case measure => have := HK.out; omega
    case rel => exact ⟨i + 1, by push_cast; rfl, ⟨by have := HI.out; omega⟩, ⟨by have := HK.out; omega⟩, HR6, HB6⟩
  · have hz : decide ((i : Int) < (l.length : Int)) = false := decide_eq_false (by omega)
    have hR1 := HR.out
    rw [List.take_of_length_le (show l.length ≤ i by omega)] at hR1 HN4
    obtain ⟨A4', c4', he4, hl4, hC4⟩ := hR1.reads
    rw [← HN4.out] at he4
    injection he4 with e1 e2 e3
    subst e1 e3
    have hcall := order_Sort.calls A c l A4 c4 (l.map (·.f0)) none 0 [] s m e wr (Kd.C_below HC.out HB.out) hc hC4 hl4 (Kd.C_nil Kd.string wr) (Nat.le_refl _) HS.out
    rw [← HN4.out] at hcall
    have HCALL := Aside0.mk hcall
    clear hcall hR1 hl4 hC4 hi hk
    go_wp2_with fail
    refine HCALL.out.mono ?_
    rintro e' w2 ⟨v7, rfl, hs7, hb⟩
    obtain ⟨A7, c7, rfl, hl7, hC7⟩ := Kd.R_reads hs7
    have HB2 := Aside0.mk (below_step HB.out hb)
    have HC7 := Aside0.mk hC7
    have HL7 := Aside0.mk hl7
    clear hs7 hb hC7 hl7 HCALL
    obtain ⟨hfit, hsorts⟩ := order_Sort.spec HS.out
    have HSO := Aside0.mk hsorts
    clear hsorts hfit
    by_cases he0 : e = 0
    · subst he0
      go_wp2_with fail
      have hok : bads (netOf l) = [] ∧ Greedy ltN (netOf l) [] (l.map (·.f0)) s ∧ (∀ x ∈ s, usesOf (netOf l) x ≠ none) := by
        have h := HSO.out
        unfold SortsB at h
        dsimp only at h
        generalize hz : (0 : Int) = z at h
        cases h with
        | twice m h => cases hz
        | none_ m h0 h => cases hz
        | cycle m h0 h1 h => cases hz
        | ok s h0 h1 h2 h => exact ⟨h0, h, fun x hx => h1 x ((h.mem x).1 hx)⟩
      have HOK := Aside0.mk hok
      refine (of_calls w2 A none c 0 l [] (Kd.C_below HC.out HB2.out) (Kd.C_nil Kd.string w2) HF.out.tot_ (by simp) HF.out.names (by simp) (bads_nil hok.1).1).mono ?_
      rintro e' w3 ⟨b, gu, gh, rfl, hN3, hb3⟩
      have HN3 := Aside0.mk hN3
      have HB3 := Aside0.mk (below_step HB2.out hb3)
      have HB23 := Aside0.mk hb3
      clear hN3 hb3 hok
      have hms : s.length ≤ 3000000 := by
        have h1 := HOK.out.2.1
        have h2 : ∀ x ∈ s, x ∈ l.map (·.f0) := fun x hx => by
          have h3 := HOK.out.2.2 x hx
          rw [Ne, usesOf_none, Classical.not_not] at h3
          simpa [netOf] using h3
        have h4 := subset_length h1.nodup h2
        simp at h4
        omega
      have htopo := HOK.out.2.1.topo
      obtain ⟨F, hF⟩ := lv_exists HOK.out.2.1.nodup htopo
      have HTO := Aside0.mk htopo
      have HFF := Aside0.mk hF
      clear htopo hF
      go_upto_region 13 with fail
      obtain ⟨gm, hgm⟩ : ∃ g, g = w3.heap.size := ⟨_, rfl⟩
      have h4 : LvRel w3 (w3.alloc (.map #[] 0)) gm F [] (.slice none 0 0) [] [] (fun _ => 0) := ⟨own_nil _ _ _ _, LRows.nil _ _ _, by
        rw [hgm]
        refine (MapIs.made w3 Try.prog 9).congr fun s => ?_
        cases s <;> simp [keyB, ofStr, levF], below_alloc (Below.refl _ _) _, by omega⟩
      rw [← hgm]
      generalize w3.alloc (.map #[] 0) = w4 at *
      have H4 := Aside0.mk h4
      clear h4 hgm
      go_wp2_with fail
      go_loopg [12, 47] (s.length + 1) (fun kq v12 v47 w' => ∃ i : Nat, v47 = .int .i64 (i : Int) ∧ Aside0 (i ≤ s.length) ∧ Aside0 (kq + i = s.length + 1) ∧ Aside0 (∃ VL rows f, LvRel w3 w' gm F (s.take i) v12 VL rows f ∧ LPure F (s.take i) rows))
      case atStart => exact ⟨0, rfl, ⟨Nat.zero_le _⟩, ⟨by omega⟩, ⟨[], [], _, H4.out, LPure.nil F⟩⟩
      clear H4
      obtain ⟨i, rfl, HI, HK, HX⟩ := hrel
      have hi := HI.out
      have hk := HK.out
      obtain ⟨VL, rows, f, hL, hP⟩ := HX.out
      have HL := Aside0.mk hL
      have HP := Aside0.mk hP
      clear HX hL hP
      obtain ⟨A12, c12, hv12⟩ := own_slice HL.out.out
      obtain ⟨n12, hn12⟩ : ∃ n, n = VL.length := ⟨_, rfl⟩
      rw [← hn12] at hv12
      subst hv12
      have hcnt : n12 ≤ i := by have h1 := HP.out.cnt; have h2 := HL.out.rows.len; rw [List.length_take] at h1; omega
      have HN12 := Aside0.mk hn12
      have HNR := Aside0.mk (show n12 = rows.length by rw [hn12, HL.out.rows.len])
      obtain ⟨n6, hn6⟩ : ∃ n, n = VL.length + 1 := ⟨_, rfl⟩
      have HN6 := Aside0.mk hn6
      have HVS := Aside0.mk (show VL.length ≤ 4000000 by omega)
      clear hn12 hn6
      by_cases hlt : i < s.length
      · have hz : decide ((i : Int) < (s.length : Int)) = true := decide_eq_true (by omega)
        obtain ⟨k1, rfl⟩ : ∃ k1, gk = k1 + 1 := ⟨gk - 1, by omega⟩
        obtain ⟨ad, rfl, z0⟩ := name_at (Kd.C_below HC7.out (below_step HB23.out HL.out.below)) i hlt
        obtain ⟨x, hx⟩ : ∃ x, x = s[i] := ⟨_, rfl⟩
        rw [← hx] at z0
        have hxa : s[i]? = some x := by rw [List.getElem?_eq_getElem hlt, ← hx]
        have hxm : x ∈ s := by rw [hx]; exact List.getElem_mem hlt
        have htk : s.take (i + 1) = s.take i ++ [x] := by rw [List.take_succ_eq_append_getElem hlt, ← hx]
        have hxn : x ∉ s.take i := fun hm => by
          have h1 : (s.take (i + 1)).Nodup := HOK.out.2.1.nodup.sublist (List.take_sublist _ _)
          rw [htk, List.nodup_append] at h1
          exact h1.2.2 _ hm x (by simp) rfl
        obtain ⟨us, hus⟩ := Option.ne_none_iff_exists'.1 (HOK.out.2.2 x hxm)
        have hxl : x ∈ l.map (·.f0) ∧ us.length ≤ 3000000 ∧ (∀ u ∈ us, u.size ≤ maxLen) := by
          have h1 := (usesOf_mem (bads_nil HOK.out.1).1).1 hus
          have h2 : us.length ≤ tot (netOf l) := by
            obtain ⟨j, hj⟩ := List.getElem?_of_mem h1
            obtain ⟨hj1, hj2⟩ := List.getElem?_eq_some_iff.1 hj
            have := tot_uses hj1
            rw [hj2] at this
            simp only at this
            omega
          simp only [netOf, List.mem_map, Prod.mk.injEq] at h1
          obtain ⟨v, hv1, rfl, rfl⟩ := h1
          exact ⟨List.mem_map_of_mem hv1, by have := HF.out.tot_; omega, HF.out.uses v hv1⟩
        have hxs : x.size ≤ maxLen := by
          obtain ⟨v, hv, rfl⟩ := List.mem_map.1 hxl.1
          exact HF.out.names v hv
        obtain ⟨FU, nu, hmu, hFU⟩ := HN3.out.uses
        obtain ⟨Au, cu, hgx, hCu⟩ := uses_get (hFU.below HL.out.below) x
        rw [hus, Option.getD_some] at hgx hCu
        have hut : ∀ u ∈ us, u ∈ s.take i := HTO.out i x hxa us hus
        have HXA := Aside0.mk hxa
        have HXM := Aside0.mk hxm
        have HTK := Aside0.mk htk
        have HXN := Aside0.mk hxn
        have HU := Aside0.mk hus
        have HXS := Aside0.mk hxs
        have hul := hxl.2.1
        have HUZ := Aside0.mk hxl.2.2
        have HMU := Aside0.mk (hmu.below HL.out.below)
        have HGX := Aside0.mk hgx
        have HCU := Aside0.mk hCu
        have HUT := Aside0.mk hut
        have n0 : _ = some (Value.map (some gu)) := (blk_cell (HN3.out.below HL.out.below).blk 0).trans rfl
        clear hxa hxm htk hxn hus hxl hxs hmu hFU hgx hCu hut hx
        go_wp2_with (at_lookup; refine wpList_look rfl _ _ 68 rfl 23 key9 Try.underlying68 (zero23 _) rfl HMU.out _ _ rfl (Go.WideMaps.keyOf_string_mk Try.underlying9 HXS.out) ?_; rw [keyB_at, HGX.out])
        go_loopg [15, 58] (us.length + 1) (fun kq v15 v58 w' => ∃ (m q : Nat), v58 = .int .i64 (m : Int) ∧ v15 = .int .i64 (q : Int) ∧ Aside0 (m ≤ us.length) ∧ Aside0 (kq + m = us.length + 1) ∧ Aside0 (q = (us.take m).foldl (fun k u => max k (F u + 1)) 0) ∧ w' = wr)
        case atStart => exact ⟨0, 0, rfl, rfl, ⟨Nat.zero_le _⟩, ⟨by omega⟩, ⟨rfl⟩, rfl⟩
        obtain ⟨m, q, rfl, rfl, HM, HKM, HQ, rfl⟩ := hrel
        have hm := HM.out
        have hkm := HKM.out
        have hq : q ≤ n12 := by
          rw [HQ.out, HNR.out]
          exact foldl_max_bound _ _ (Nat.zero_le _) fun u hu => by
            have := HP.out.lt_ u (HUT.out u (List.mem_of_mem_take hu))
            omega
        by_cases hltm : m < us.length
        · have hzm : decide ((m : Int) < (us.length : Int)) = true := decide_eq_true (by omega)
          obtain ⟨k3, rfl⟩ : ∃ k3, gk = k3 + 1 := ⟨gk - 1, by omega⟩
          obtain ⟨ad2, rfl, z1⟩ := name_at HCU.out m hltm
          obtain ⟨u, hu⟩ : ∃ u, u = us[m] := ⟨_, rfl⟩
          rw [← hu] at z1
          have hum : u ∈ us := by rw [hu]; exact List.getElem_mem hltm
          have hutk : us.take (m + 1) = us.take m ++ [u] := by rw [List.take_succ_eq_append_getElem hltm, ← hu]
          have hul2 : u.size ≤ maxLen := HUZ.out u hum
          have hFu : F u < n12 := by rw [HNR.out]; exact HP.out.lt_ u (HUT.out u hum)
          have hlev : levF F (s.take i) u = some (.int .i64 (F u : Int)) := by unfold levF; rw [if_pos (HUT.out u hum)]
          have HUTK := Aside0.mk hutk
          have HUS := Aside0.mk hul2
          have HLEV := Aside0.mk hlev
          clear hum hutk hul2 hlev hu hm
          go_wp2_with (at_lookup; refine wpList_look rfl _ _ 67 rfl 3 key9 Try.underlying67 (zero3 _) rfl HL.out.map _ _ rfl (Go.WideMaps.keyOf_string_mk Try.underlying9 HUS.out) ?_; rw [keyB_at, HLEV.out, Option.getD_some])
          all_goals
            go_roundg k3
            case measure => omega
            case rel => first
              | exact ⟨m + 1, q, by push_cast; rfl, rfl, ⟨by omega⟩, ⟨by omega⟩, ⟨by rw [HUTK.out, List.foldl_append, ← HQ.out]; show q = max q (F u + 1); omega⟩, rfl⟩
              | exact ⟨m + 1, F u + 1, by push_cast; rfl, by push_cast; rfl, ⟨by omega⟩, ⟨by omega⟩, ⟨by rw [HUTK.out, List.foldl_append, ← HQ.out]; show F u + 1 = max q (F u + 1); omega⟩, rfl⟩
        · have hzm : decide ((m : Int) < (us.length : Int)) = false := decide_eq_false (by omega)
          have hqF : q = F x := by
            rw [HQ.out, List.take_of_length_le (by omega), HFF.out x HXM.out, lvl, HU.out]
            rfl
          subst hqF
          have hxtk : i ≤ s.length := hi
          clear HQ HM HKM HUZ HUT HMU HGX HCU hm hkm n0
          have hFx : F x ≤ n12 := hq
          by_cases hke : F x = n12
          case' pos =>
            have hd1 : ((F x : Int) == (n12 : Int)) = true := by simp [hke]
            have HKE := Aside0.mk hke
            clear hke
            go_upto_region 25 with (first | (at_mapUpdate; refine wpList_put rfl _ _ _ 67 rfl 3 key9 Try.underlying67 rfl HL.out.map (by rw [List.length_take]; unfold maxLen; omega) (.string x) (.string x.data.toList) (key_lit _) (.int .i64 (F x : Int)) rfl rfl (Go.WideMaps.keyOf_string_mk Try.underlying9 HXS.out) ?_; intro w5 hm5 hg5; rw [upd_keyB] at hm5; have HL5 := Aside0.mk (HL.out.putM hm5 hg5); clear hm5 hg5) | (at_builtin; refine rows_append w3.heap.size rfl (.tmp 76) (.tmp 77) rfl (v := .slice A12 n12 c12) (VL := VL) rfl rfl HL5.out.out n6 HN6.out HVS.out HL5.out.below.size ?_; intro g cap w6 ho6 hg6; have HL6 := Aside0.mk (HL5.out.more ho6 hg6); clear ho6 hg6))
            have hz9 : ∃ (VL' : List Value) (rows' : List (List ByteArray)) (f' : Nat → Nat) (v : Value) (r : List ByteArray), LvRel w3 w6 gm F (s.take i ++ [x]) (.slice (some ⟨g, 0, none⟩) n6 cap) VL' rows' f' ∧ VL'.length = n6 ∧ VL'[F x]? = some v ∧ rows'[F x]? = some r ∧ r.length ≤ i ∧ LPure F (s.take i ++ [x]) (rows'.set (F x) (r ++ [x])) := by
              have e1 : F x = rows.length := HKE.out.trans HNR.out
              have e2 : F x = VL.length := HKE.out.trans HN12.out
              refine ⟨_, _, _, .slice none 0 0, [], HL6.out, by rw [List.length_append, HN6.out]; rfl, by rw [e2, List.getElem?_append_right (Nat.le_refl _)]; simp, by rw [e1, List.getElem?_append_right (Nat.le_refl _)]; simp, Nat.zero_le _, ?_⟩
              have h1 := HP.out.new HXN.out e1
              rw [e1, List.set_append_right _ _ (Nat.le_refl _)]
              simpa using h1
            have hlt9 : F x < n6 := by have h1 := HKE.out; have h2 := HN6.out; have h3 := HN12.out; omega
            have HZ9 := Aside0.mk hz9
            clear hz9 HL5 HL6 HKE
            obtain ⟨n9, rfl⟩ : ∃ z, z = n6 := ⟨_, rfl⟩
            obtain ⟨w9, rfl⟩ : ∃ z, z = w6 := ⟨_, rfl⟩
          case' neg =>
            have hd1 : ((F x : Int) == (n12 : Int)) = false := by simp; exact_mod_cast hke
            have hke2 : F x < n12 := by omega
            clear hke
            obtain ⟨g, cap, hv12, _, _⟩ := own_head HL.out.out (by rw [← HN12.out]; omega)
            rw [← HN12.out] at hv12
            injection hv12 with e1 _ e2
            subst e1 e2
            go_upto_region 25 with (at_mapUpdate; refine wpList_put rfl _ _ _ 67 rfl 3 key9 Try.underlying67 rfl HL.out.map (by rw [List.length_take]; unfold maxLen; omega) (.string x) (.string x.data.toList) (key_lit _) (.int .i64 (F x : Int)) rfl rfl (Go.WideMaps.keyOf_string_mk Try.underlying9 HXS.out) ?_; intro w5 hm5 hg5; rw [upd_keyB] at hm5; have HL5 := Aside0.mk (HL.out.putM hm5 hg5); clear hm5 hg5)
            have hz9 : ∃ (VL' : List Value) (rows' : List (List ByteArray)) (f' : Nat → Nat) (v : Value) (r : List ByteArray), LvRel w3 w5 gm F (s.take i ++ [x]) (.slice (some ⟨g, 0, none⟩) n12 c12) VL' rows' f' ∧ VL'.length = n12 ∧ VL'[F x]? = some v ∧ rows'[F x]? = some r ∧ r.length ≤ i ∧ LPure F (s.take i ++ [x]) (rows'.set (F x) (r ++ [x])) := by
              obtain ⟨v, r, e1, e2, _⟩ := HL.out.rows.get (k := F x) (by rw [← HNR.out]; exact hke2)
              exact ⟨_, _, _, v, r, HL5.out, HN12.out.symm, e1, e2, by have h1 := HP.out.short (List.mem_of_getElem? e2); rw [List.length_take] at h1; omega, HP.out.put HXN.out e2⟩
            have hlt9 : F x < n12 := hke2
            have HZ9 := Aside0.mk hz9
            clear hz9 HL5 hke2
            obtain ⟨n9, hn9⟩ : ∃ z, z = n12 := ⟨_, rfl⟩
            have HN9 := Aside0.mk hn9
            rw [← hn9] at HZ9 hlt9 ⊢
            clear hn9
            obtain ⟨cap, rfl⟩ : ∃ z, z = c12 := ⟨_, rfl⟩
            obtain ⟨w9, rfl⟩ : ∃ z, z = w5 := ⟨_, rfl⟩
          all_goals
            obtain ⟨VL', rows', f', v, r, hL9, hVn, hv, hr, hrl, hP9⟩ := HZ9.out
            have hsr := hL9.rows.row _ _ _ hv hr
            obtain ⟨A5, c5, hv5⟩ := hsr.shape
            obtain ⟨n5, hn5⟩ : ∃ z, z = r.length := ⟨_, rfl⟩
            rw [← hn5] at hv5 hrl
            subst hv5
            obtain ⟨cs9, hcs9⟩ := own_typed hL9.out g rfl
            have hgl := blk_lt hcs9
            have hgv : some g ≠ (Value.slice A5 n5 c5).ownBlock := fun e => by
              obtain ⟨cs, hc⟩ := hsr.block e.symm
              rw [hc] at hcs9
              simp at hcs9
            have y0 : w9.cell? ⟨g, F x, none⟩ = some (.slice A5 n5 c5) := own_cell hL9.out hv
            have hfar : ∀ w8, w9.grownBy w8 (Value.slice A5 n5 c5).ownBlock → w8.cell? ⟨g, F x, none⟩ = some (.slice A5 n5 c5) ∧ w8.frozen? ⟨g, F x, none⟩ = false := fun w8 hg8 =>
              ⟨(hg8.cell_far ⟨g, F x, none⟩ hgl hgv).trans y0, (hg8.frozen_far ⟨g, F x, none⟩ hgl hgv).trans (own_free hL9.out _)⟩
            have HFAR := Aside0.mk hfar
            have HL9 := Aside0.mk hL9
            have HVN := Aside0.mk hVn
            have HV := Aside0.mk hv
            have HP9 := Aside0.mk hP9
            have HSR := Aside0.mk hsr
            have HRL := Aside0.mk (show r.length ≤ 8000000 by omega)
            have HN5 := Aside0.mk hn5
            clear HZ9 hL9 hVn hv hr hP9 hsr hn5 hcs9 hgl hgv hfar
            go_wp2_with (at_builtin; refine srow_append w3.heap.size rfl (.tmp 84) (.tmp 86) rfl (v := .slice A5 n5 c5) (xs := r) rfl x rfl HSR.out HRL.out HL9.out.below.size ?_; intro A8 c8 w8 hr8 hg8 hat8; obtain ⟨y2, y3⟩ := HFAR.out w8 hg8; have HR8 := Aside0.mk hr8; have HG8 := Aside0.mk hg8; have HAT8 := Aside0.mk hat8; clear hr8 hg8 hat8)
            go_roundg k1
            case measure => omega
            case rel =>
              obtain ⟨f'', h9⟩ := HL9.out.put HVN.out HV.out HR8.out HG8.out HAT8.out
              exact ⟨i + 1, by push_cast; rfl, ⟨by omega⟩, ⟨by omega⟩, ⟨_, _, f'', by rw [HTK.out]; exact h9, by rw [HTK.out]; exact HP9.out⟩⟩
      · have hz : decide ((i : Int) < (s.length : Int)) = false := decide_eq_false (by omega)
        have hL := HL.out
        have hP := HP.out
        rw [List.take_of_length_le (show s.length ≤ i by omega)] at hL hP
        rw [← sortAt_zero rows] at hL
        have HL0 := Aside0.mk hL
        have HP0 := Aside0.mk hP
        have hn12 : (n12 : Int) ≤ 3000000 := by omega
        clear hL hP HL HP HC7 hi hk
        go_wp2_with fail
        go_loopg [92] (n12 + 1) (fun kq v92 w' => ∃ j : Nat, v92 = .int .i64 (j : Int) ∧ Aside0 (j ≤ n12) ∧ Aside0 (kq + j = n12 + 1) ∧ Aside0 (∃ f', LvRel w3 w' gm F s (.slice A12 n12 c12) VL (sortAt rows j) f'))
        case atStart => exact ⟨0, rfl, ⟨Nat.zero_le _⟩, ⟨by omega⟩, ⟨_, HL0.out⟩⟩
        clear HL0
        obtain ⟨j, rfl, HJ, HKJ, HX⟩ := hrel
        have hj := HJ.out
        have hkj := HKJ.out
        obtain ⟨f', hL⟩ := HX.out
        have HL := Aside0.mk hL
        clear HX hL
        by_cases hltj : j < n12
        · have hzj : decide ((j : Int) < (n12 : Int)) = true := decide_eq_true (by omega)
          obtain ⟨k2, rfl⟩ : ∃ k2, gk = k2 + 1 := ⟨gk - 1, by omega⟩
          obtain ⟨g, cap, hv12, _, _⟩ := own_head HL.out.out (by rw [← HN12.out]; omega)
          rw [← HN12.out] at hv12
          injection hv12 with e1 _ e2
          subst e1 e2
          obtain ⟨v, r, e1, e2, hsr⟩ := HL.out.rows.get (k := j) (by rw [sortAt_length, ← HNR.out]; exact hltj)
          have y0 := own_cell HL.out.out e1
          obtain ⟨A5, c5, hv5⟩ := hsr.shape
          obtain ⟨n5, hn5⟩ : ∃ z, z = r.length := ⟨_, rfl⟩
          rw [← hn5] at hv5
          subst hv5
          have hr0 : rows[j]? = some r := by
            obtain ⟨r0, h0⟩ : ∃ r0, rows[j]? = some r0 := ⟨_, List.getElem?_eq_getElem (by rw [← HNR.out]; exact hltj)⟩
            rw [(sortAt_get h0).1] at e2
            cases e2
            exact h0
          have HR0 := Aside0.mk hr0
          have hrl : r.length ≤ 8000000 := by
            have := HP0.out.short (List.mem_of_getElem? hr0)
            omega
          have HCALL := Aside0.mk (sort_row wr w3.heap.size (.slice A5 n5 c5) r hsr hrl)
          have HE1 := Aside0.mk e1
          clear e1 e2 hsr hn5 hr0 hrl hj
          go_wp2_with fail
          refine HCALL.out.mono ?_
          rintro e8 w8 ⟨rfl, hr8, hg8⟩
          have HR8 := Aside0.mk hr8
          have HG8 := Aside0.mk hg8
          clear hr8 hg8
          go_wp2_with fail
          go_roundg k2
          case measure => omega
          case rel =>
            obtain ⟨f'', h9⟩ := HL.out.sorted HE1.out HR8.out HG8.out
            exact ⟨j + 1, by push_cast; rfl, ⟨by omega⟩, ⟨by omega⟩, ⟨f'', by rw [(sortAt_get HR0.out).2]; exact h9⟩⟩
        · have hzj : decide ((j : Int) < (n12 : Int)) = false := decide_eq_false (by omega)
          go_wp2_with fail
          go_ret2
          have hL9 := HL.out
          rw [sortAt_full (by rw [← HNR.out]; omega)] at hL9
          have hB3 := HB3.out
          have hnm : (netOf l).map (·.1) = l.map (·.f0) := by rw [netOf, List.map_map]; rfl
          exact ⟨_, VL, rows.map sortN, 0, f', rfl, ⟨s, m, 0, by rw [hnm]; exact HSO.out, rfl, .inr ⟨rfl, F, HP0.out.lev HFF.out⟩⟩, own_weak hL9.out hB3.size, hL9.rows.weak hB3.size, below_step hB3 hL9.below⟩
    · have hz0 : decide (e = 0) = false := decide_eq_false he0
      go_wp2_with fail
      go_ret2
      have hnm : (netOf l).map (·.1) = l.map (·.f0) := by rw [netOf, List.map_map]; rfl
      exact ⟨_, [], [], e, fun _ => 0, rfl, ⟨s, m, e, by rw [hnm]; exact HSO.out, rfl, .inl ⟨he0, rfl⟩⟩, own_nil _ _ _ _, LRows.nil _ _ _, HB2.out⟩
end Go.Proofs.Ytdllpgeagdckmaa.Q

/- Arguments that are lists of texts, opened to rows that are read, with what the bound on their bulk says of lengths. -/
namespace Go.Proofs.Ytdllpgeagdckmaa.Opens
open Go.ChangeShapes Go.WideShapes Go.Deep Go.RowKit Go.Proofs.YtdllpgeagdckmaaW.PrintWords
section
variable {H : Type} {enc : TypeId × Value → H} {P : Program} {w : World} {base : Nat} {spare : Nat → Bool} {held : Bool}

/-- Elements that are texts. -/
theorem el_str {e : TypeId} (he : P.underlying e = some .string) : ∀ n cs y, DataW.trod enc P w base spare held n e cs = some y → ∃ p : ByteArray, Kd.string.K w p cs ∧ p.size ≤ maxLen ∧ (fun p : ByteArray => p.size + 1) p ≤ Rows.uptoBulk y.1 := by
  intro n cs y h
  obtain ⟨s, rfl, rfl, hs⟩ := DataW.trod_string he h
  exact ⟨s, rfl, hs, by simp [Rows.uptoBulk]⟩

/-- A slice of texts. -/
theorem open_C_str {t e : TypeId} (ht : P.underlying t = some (.slice e)) (he : P.underlying e = some .string) (hc : P.cellsOf e = 1) (n : Nat) (cs : List Value) (y : DataW H × List MemPlace) (h : DataW.trod enc P w base spare held n t cs = some y) :
    ∃ (A : Option Addr) (cap : Nat) (xs : List ByteArray), cs = [.slice A xs.length cap] ∧ xs.length ≤ cap ∧ cap ≤ maxLen ∧ Kd.string.C w A xs.length xs ∧ (∀ p ∈ xs, p.size ≤ maxLen) ∧ (xs.map (fun p => p.size + 1)).sum + 1 ≤ Rows.uptoBulk y.1 :=
  open_C Kd.string (fun p => p.size + 1) (fun p => p.size ≤ maxLen) ht hc (el_str he) h
theorem strs_length (xs : List ByteArray) : xs.length ≤ (xs.map (fun p => p.size + 1)).sum := by
  induction xs with
  | nil => simp
  | cons x xs ih => simp only [List.length_cons, List.map_cons, List.sum_cons]; omega
end
end Go.Proofs.Ytdllpgeagdckmaa.Opens

-- Made by a program of this session (turnprint.py), after the manner of the kit's print.
namespace Go.Proofs.Ytdllpgeagdckmaa.Q
open Go.RowKit Go.Proofs.YtdllpgeagdckmaaW.PrintWords Go.Proofs.YtdllpgeagdckmaaW.PrintLast Go.Proofs.YtdllpgeagdckmaaW.PrintMore
attribute [local go_sem] max2_int min2_int max_two min_two max_three min_three max_four min_four   -- for this text's walks alone
set_option linter.unusedVariables false
set_option linter.unusedSimpArgs false

/-! ### quirelaw15_awake: function 7 -/
noncomputable def quirelaw15_awake.f  : Option (Bool) := (order_Sort.f (([(⟨(⟨#[97]⟩ : ByteArray), ([] : List ByteArray)⟩ : S41)] : List (S41))) (([(⟨#[97]⟩ : ByteArray)] : List ByteArray)) ([] : List ByteArray)).bind fun bt107 => (if bt107.2.2 = 0 then (some ((bt107.1.length : Int) == 1)) else (some false))
set_option maxHeartbeats 8000000 in
set_option maxRecDepth 100000 in
theorem quirelaw15_awake.calls  (r : Bool) (w : World) (h : quirelaw15_awake.f  = some r) :
    Calls Try.prog 7 #[] w fun e w' => e = .returned (.bool r) ∧ Below w.heap.size w w' := by
  have hu41 := Try.underlying41
  have HB := Aside0.mk (Below.refl w.heap.size w)
  have H : ((order_Sort.f (([(⟨(⟨#[97]⟩ : ByteArray), ([] : List ByteArray)⟩ : S41)] : List (S41))) (([(⟨#[97]⟩ : ByteArray)] : List ByteArray)) ([] : List ByteArray)).bind fun bt107 => (if bt107.2.2 = 0 then (some ((bt107.1.length : Int) == 1)) else (some false))) = some r := h
  clear h
  obtain ⟨y101, hy101⟩ : ∃ y_ : List (S41), y_ = (([(⟨(⟨#[97]⟩ : ByteArray), ([] : List ByteArray)⟩ : S41)] : List (S41))) := ⟨_, rfl⟩
  replace H : ((order_Sort.f y101 (([(⟨#[97]⟩ : ByteArray)] : List ByteArray)) ([] : List ByteArray)).bind fun bt107 => (if bt107.2.2 = 0 then (some ((bt107.1.length : Int) == 1)) else (some false))) = some r := by first | (rw [hy101]; with_reducible exact H) | (have H2_ := (Option.bind_some _ _).symm.trans H; rw [hy101]; with_reducible exact H2_) | (have H2_ := (Option.bind_some _ _).symm.trans H; with_reducible exact H2_) | with_reducible exact H | (rw [hy101]; exact H) | exact H
  have Ny101 := Aside0.mk hy101
  clear hy101
  obtain ⟨y104, hy104⟩ : ∃ y_ : List ByteArray, y_ = (([(⟨#[97]⟩ : ByteArray)] : List ByteArray)) := ⟨_, rfl⟩
  replace H : ((order_Sort.f y101 y104 ([] : List ByteArray)).bind fun bt107 => (if bt107.2.2 = 0 then (some ((bt107.1.length : Int) == 1)) else (some false))) = some r := by first | (rw [hy104]; with_reducible exact H) | (have H2_ := (Option.bind_some _ _).symm.trans H; rw [hy104]; with_reducible exact H2_) | (have H2_ := (Option.bind_some _ _).symm.trans H; with_reducible exact H2_) | with_reducible exact H | (rw [hy104]; exact H) | exact H
  have Ny104 := Aside0.mk hy104
  clear hy104
  replace H := Option.bind_eq_some_iff.mp H
  obtain ⟨⟨t107, t108, t109⟩, A10, H⟩ := H
  replace H : (if t109 = 0 then (some ((t107.length : Int) == 1)) else (some false)) = some r := H
  have A1 := Aside0.mk A10
  clear A10
  by_cases c2 : t109 = 0
  · rw [if_pos c2] at H
    have c2b0 : (t109 == 0) = true := beq_iff_eq.mpr c2
    have c2b1 : (t109 != 0) = false := bne_eq_false_iff_eq.mpr c2
    clear c2
    obtain rfl := Option.some.inj H
    go_enter Try.func7, Try.ntmps7
    go_wp2_with (first | ((with_reducible refine gate_dst (N := 6) rfl ?_); (try (refine gate_guard (by rfl) ?_; dsimp only)); refine Kd.S_lit k41 _ 41 ?hg (N := 6) ?hd (xs := ([(⟨(⟨#[97]⟩ : ByteArray), ([] : List ByteArray)⟩ : S41)] : List (S41))) (inner := [.string (⟨#[97]⟩ : ByteArray), .slice none 0 0]) (ok := fun _ => True) (okp := fun _ => True) ?hr ?hp (fun _ hk => hk) trivial (Below.refl _ _) (Nat.le_refl _) (by simp) ?_; (case hd => rfl); (case hg => rfl); (case hr => first | (go_simp; done) | (go_simp; rfl)); (case hp => exact (Reps.c2 (show Kd.M k41 _ _ _ (⟨(⟨#[97]⟩ : ByteArray), ([] : List ByteArray)⟩ : S41) [.string (⟨#[97]⟩ : ByteArray), .slice none 0 0] from (k41_mkM _ _ _ (⟨(⟨#[97]⟩ : ByteArray), ([] : List ByteArray)⟩ : S41) (Kd.R_nil _ _ _ _ _))) (Reps.none _ _))); intro v102 w3 ho4 hb hg_ hnew_; clear hg_ hnew_; (first | rw [← Ny101.out] at ho4 | (simp only [Int.reduceToNat] at ho4; rw [← Ny101.out] at ho4)); have n0_ := Aside0.mk (Kd.S_lower ho4 (below_size (by repeat (first | (with_reducible first | exact HB.out | apply below_alloc | apply pw_below_drewN | apply below_drew1) | exact HB.out)))); have n1_ := Aside0.mk (below_step (by repeat (first | (with_reducible first | exact HB.out | apply below_alloc | apply pw_below_drewN | apply below_drew1) | exact HB.out)) hb); clear HB; have HO103 := n0_; have HB := n1_; clear n0_ n1_; clear hb ho4) | ((with_reducible refine gate_dst (N := 7) rfl ?_); (try (refine gate_guard (by rfl) ?_; dsimp only)); refine Kd.R_lit Kd.string _ 9 ?hg (N := 7) ?hd (xs := ([(⟨#[97]⟩ : ByteArray)] : List ByteArray)) (inner := [.string (⟨#[97]⟩ : ByteArray)]) (ok := fun _ => True) (okp := fun _ => True) ?hr ?hp (fun _ hk => hk) trivial (Below.refl _ _) (Nat.le_refl _) (by simp) ?_; (case hd => rfl); (case hg => rfl); (case hr => first | (go_simp; done) | (go_simp; rfl)); (case hp => exact (Reps.one (show Kd.M Kd.string _ _ _ (⟨#[97]⟩ : ByteArray) [.string (⟨#[97]⟩ : ByteArray)] from rfl) (Reps.none _ _))); intro v105 w5 ho6 hb hg_ hnew_; clear hg_ hnew_; (first | rw [← Ny104.out] at ho6 | (simp only [Int.reduceToNat] at ho6; rw [← Ny104.out] at ho6)); have n0_ := Aside0.mk (Kd.S_elder' (by (with_reducible repeat (first | apply Kd.S_alloc | apply Kd.S_drewN | apply Kd.S_drew)); exact HO103.out) (Kd.R_base ho6) hb); have n1_ := Aside0.mk (Kd.R_lower ho6 (below_size (by repeat (first | (with_reducible first | exact HB.out | apply below_alloc | apply pw_below_drewN | apply below_drew1) | exact HB.out)))); have n2_ := Aside0.mk (below_step (by repeat (first | (with_reducible first | exact HB.out | apply below_alloc | apply pw_below_drewN | apply below_drew1) | exact HB.out)) hb); clear HO103; clear HB; have HO103 := n0_; have HO106 := n1_; have HB := n2_; clear n0_ n1_ n2_; clear hb ho6; obtain ⟨Ao7, co7, eo7⟩ := Kd.S_slice HO103.out; subst eo7; obtain ⟨Ao8, co8, eo8⟩ := Kd.R_slice HO106.out; subst eo8) | ((with_reducible refine gate_callee (f := 8) rfl ?_); refine goesL_ (some 8) rfl rfl Try.func8 (by kernel_rfl) rfl #[.slice Ao7 y101.length co7, .slice Ao8 y104.length co8, .slice none 0 0] rfl (by (try simp only [List.map_toArray, List.map_cons, List.map_nil]); first | done | rfl | (simp only [List.length_drop, List.length_take]; rfl)) ?_; (refine (order_Sort.calls _ _ y101 _ _ y104 _ _ ([] : List ByteArray) t107 t108 t109 _ ?side1 ?side2 ?side3 ?side4 ?side5 ?side6 A1.out).mono ?_); (case side1 => repeat (first | exact (Kd.S_reads' HO103.out).2.2 | (with_reducible refine Kd.C_alloc ?_ _) | (with_reducible refine Kd.C_drewN ?_ _) | (with_reducible refine Kd.C_drew ?_))); (case side2 => exact (Kd.S_reads' HO103.out).2.1); (case side3 => repeat (first | exact (Kd.R_reads' HO106.out).2.2 | (with_reducible refine Kd.C_alloc ?_ _) | (with_reducible refine Kd.C_drewN ?_ _) | (with_reducible refine Kd.C_drew ?_))); (case side4 => exact (Kd.R_reads' HO106.out).2.1); (case side5 => exact Kd.C_nil _ _); (case side6 => exact Nat.le_refl _); rintro e w9 ⟨v110, rfl, ho0, hb⟩; refine ⟨_, rfl, ?_⟩; have n0_ := Aside0.mk (Kd.S_elder' (by (with_reducible repeat (first | apply Kd.S_alloc | apply Kd.S_drewN | apply Kd.S_drew)); exact HO103.out) (Kd.R_base ho0) hb); have n1_ := Aside0.mk (Kd.R_elder' (by (with_reducible repeat (first | apply Kd.R_alloc | apply Kd.R_drewN | apply Kd.R_drew)); exact HO106.out) (Kd.R_base ho0) hb); have n2_ := Aside0.mk (Kd.R_lower (Kd.R_new' ho0 (Kd.R_lt (by (with_reducible repeat (first | apply Kd.R_alloc | apply Kd.R_drewN | apply Kd.R_drew)); exact HO106.out))) (below_size (by repeat (first | (with_reducible first | exact HB.out | apply below_alloc | apply pw_below_drewN | apply below_drew1) | exact HB.out)))); have n3_ := Aside0.mk (below_step (by repeat (first | (with_reducible first | exact HB.out | apply below_alloc | apply pw_below_drewN | apply below_drew1) | exact HB.out)) hb); clear HO103; clear HO106; clear HB; have HO103 := n0_; have HO106 := n1_; have HO111 := n2_; have HB := n3_; clear n0_ n1_ n2_ n3_; (try clear hb); (try clear hb2); (try clear hk); (try clear hi); (try clear ho0); obtain ⟨Ao10, co10, eo10⟩ := Kd.R_slice HO111.out; subst eo10))
    go_ret
    exact ⟨by first | rfl | (simp [errW_none, errW_some] <;> rfl) | (simp [*, errW_none, errW_some] <;> rfl), by repeat (first | (with_reducible first | exact HB.out | apply below_alloc | apply pw_below_drewN | apply below_drew1) | exact HB.out)⟩
  · rw [if_neg c2] at H
    have c2b0 : (t109 == 0) = false := beq_eq_false_iff_ne.mpr c2
    have c2b1 : (t109 != 0) = true := bne_iff_ne.mpr c2
    obtain rfl := Option.some.inj H
    go_enter Try.func7, Try.ntmps7
    go_wp2_with (first | ((with_reducible refine gate_dst (N := 6) rfl ?_); (try (refine gate_guard (by rfl) ?_; dsimp only)); refine Kd.S_lit k41 _ 41 ?hg (N := 6) ?hd (xs := ([(⟨(⟨#[97]⟩ : ByteArray), ([] : List ByteArray)⟩ : S41)] : List (S41))) (inner := [.string (⟨#[97]⟩ : ByteArray), .slice none 0 0]) (ok := fun _ => True) (okp := fun _ => True) ?hr ?hp (fun _ hk => hk) trivial (Below.refl _ _) (Nat.le_refl _) (by simp) ?_; (case hd => rfl); (case hg => rfl); (case hr => first | (go_simp; done) | (go_simp; rfl)); (case hp => exact (Reps.c2 (show Kd.M k41 _ _ _ (⟨(⟨#[97]⟩ : ByteArray), ([] : List ByteArray)⟩ : S41) [.string (⟨#[97]⟩ : ByteArray), .slice none 0 0] from (k41_mkM _ _ _ (⟨(⟨#[97]⟩ : ByteArray), ([] : List ByteArray)⟩ : S41) (Kd.R_nil _ _ _ _ _))) (Reps.none _ _))); intro v102 w11 ho12 hb hg_ hnew_; clear hg_ hnew_; (first | rw [← Ny101.out] at ho12 | (simp only [Int.reduceToNat] at ho12; rw [← Ny101.out] at ho12)); have n0_ := Aside0.mk (Kd.S_lower ho12 (below_size (by repeat (first | (with_reducible first | exact HB.out | apply below_alloc | apply pw_below_drewN | apply below_drew1) | exact HB.out)))); have n1_ := Aside0.mk (below_step (by repeat (first | (with_reducible first | exact HB.out | apply below_alloc | apply pw_below_drewN | apply below_drew1) | exact HB.out)) hb); clear HB; have HO103 := n0_; have HB := n1_; clear n0_ n1_; clear hb ho12) | ((with_reducible refine gate_dst (N := 7) rfl ?_); (try (refine gate_guard (by rfl) ?_; dsimp only)); refine Kd.R_lit Kd.string _ 9 ?hg (N := 7) ?hd (xs := ([(⟨#[97]⟩ : ByteArray)] : List ByteArray)) (inner := [.string (⟨#[97]⟩ : ByteArray)]) (ok := fun _ => True) (okp := fun _ => True) ?hr ?hp (fun _ hk => hk) trivial (Below.refl _ _) (Nat.le_refl _) (by simp) ?_; (case hd => rfl); (case hg => rfl); (case hr => first | (go_simp; done) | (go_simp; rfl)); (case hp => exact (Reps.one (show Kd.M Kd.string _ _ _ (⟨#[97]⟩ : ByteArray) [.string (⟨#[97]⟩ : ByteArray)] from rfl) (Reps.none _ _))); intro v105 w13 ho14 hb hg_ hnew_; clear hg_ hnew_; (first | rw [← Ny104.out] at ho14 | (simp only [Int.reduceToNat] at ho14; rw [← Ny104.out] at ho14)); have n0_ := Aside0.mk (Kd.S_elder' (by (with_reducible repeat (first | apply Kd.S_alloc | apply Kd.S_drewN | apply Kd.S_drew)); exact HO103.out) (Kd.R_base ho14) hb); have n1_ := Aside0.mk (Kd.R_lower ho14 (below_size (by repeat (first | (with_reducible first | exact HB.out | apply below_alloc | apply pw_below_drewN | apply below_drew1) | exact HB.out)))); have n2_ := Aside0.mk (below_step (by repeat (first | (with_reducible first | exact HB.out | apply below_alloc | apply pw_below_drewN | apply below_drew1) | exact HB.out)) hb); clear HO103; clear HB; have HO103 := n0_; have HO106 := n1_; have HB := n2_; clear n0_ n1_ n2_; clear hb ho14; obtain ⟨Ao15, co15, eo15⟩ := Kd.S_slice HO103.out; subst eo15; obtain ⟨Ao16, co16, eo16⟩ := Kd.R_slice HO106.out; subst eo16) | ((with_reducible refine gate_callee (f := 8) rfl ?_); refine goesL_ (some 8) rfl rfl Try.func8 (by kernel_rfl) rfl #[.slice Ao15 y101.length co15, .slice Ao16 y104.length co16, .slice none 0 0] rfl (by (try simp only [List.map_toArray, List.map_cons, List.map_nil]); first | done | rfl | (simp only [List.length_drop, List.length_take]; rfl)) ?_; (refine (order_Sort.calls _ _ y101 _ _ y104 _ _ ([] : List ByteArray) t107 t108 t109 _ ?side1 ?side2 ?side3 ?side4 ?side5 ?side6 A1.out).mono ?_); (case side1 => repeat (first | exact (Kd.S_reads' HO103.out).2.2 | (with_reducible refine Kd.C_alloc ?_ _) | (with_reducible refine Kd.C_drewN ?_ _) | (with_reducible refine Kd.C_drew ?_))); (case side2 => exact (Kd.S_reads' HO103.out).2.1); (case side3 => repeat (first | exact (Kd.R_reads' HO106.out).2.2 | (with_reducible refine Kd.C_alloc ?_ _) | (with_reducible refine Kd.C_drewN ?_ _) | (with_reducible refine Kd.C_drew ?_))); (case side4 => exact (Kd.R_reads' HO106.out).2.1); (case side5 => exact Kd.C_nil _ _); (case side6 => exact Nat.le_refl _); rintro e w17 ⟨v110, rfl, ho0, hb⟩; refine ⟨_, rfl, ?_⟩; have n0_ := Aside0.mk (Kd.S_elder' (by (with_reducible repeat (first | apply Kd.S_alloc | apply Kd.S_drewN | apply Kd.S_drew)); exact HO103.out) (Kd.R_base ho0) hb); have n1_ := Aside0.mk (Kd.R_elder' (by (with_reducible repeat (first | apply Kd.R_alloc | apply Kd.R_drewN | apply Kd.R_drew)); exact HO106.out) (Kd.R_base ho0) hb); have n2_ := Aside0.mk (Kd.R_lower (Kd.R_new' ho0 (Kd.R_lt (by (with_reducible repeat (first | apply Kd.R_alloc | apply Kd.R_drewN | apply Kd.R_drew)); exact HO106.out))) (below_size (by repeat (first | (with_reducible first | exact HB.out | apply below_alloc | apply pw_below_drewN | apply below_drew1) | exact HB.out)))); have n3_ := Aside0.mk (below_step (by repeat (first | (with_reducible first | exact HB.out | apply below_alloc | apply pw_below_drewN | apply below_drew1) | exact HB.out)) hb); clear HO103; clear HO106; clear HB; have HO103 := n0_; have HO106 := n1_; have HO111 := n2_; have HB := n3_; clear n0_ n1_ n2_ n3_; (try clear hb); (try clear hb2); (try clear hk); (try clear hi); (try clear ho0)))
    go_ret
    exact ⟨by first | rfl | (simp [errW_none, errW_some] <;> rfl) | (simp [*, errW_none, errW_some] <;> rfl), by repeat (first | (with_reducible first | exact HB.out | apply below_alloc | apply pw_below_drewN | apply below_drew1) | exact HB.out)⟩

-- NOT PRINTED: function 69 (quirelaw07_Values)

-- NOT PRINTED: function 67 (quirelaw07_Value)

-- NOT PRINTED: function 60 (quirelaw07_ItemOf)

-- NOT PRINTED: function 47 (quirelaw07_ItemsOf)

-- NOT PRINTED: function 40 (quirelaw07_DefOf)

-- NOT PRINTED: function 23 (quirelaw14_Api)

end Go.Proofs.Ytdllpgeagdckmaa.Q

/- What the laws on orders need beside the walks: the awake check, sizes of orders. -/
namespace Go.Proofs.Ytdllpgeagdckmaa.Q
open Go.RowKit Go.Proofs.YtdllpgeagdckmaaW.PrintWords Go.Proofs.YtdllpgeagdckmaaW.PrintLast Go.Proofs.YtdllpgeagdckmaaW.PrintMore Go.Proofs.Ytdllpgeagdckmaa.Ord
set_option linter.unusedVariables false
set_option linter.unusedSimpArgs false
set_option linter.unusedSectionVars false

theorem w64 {x : Int} (h0 : -9223372036854775808 ≤ x) (h1 : x ≤ 9223372036854775807) : wrap64 x = x := by unfold wrap64; omega
theorem rd_at {l : List ByteArray} {i : Nat} (h : i < l.length) : rdOf ByteArray.empty l (i : Int) = l[i] := by
  unfold rdOf
  rw [Int.toNat_natCast, List.getD_eq_getElem?_getD, List.getElem?_eq_getElem h]
  rfl
theorem rd33_at {l : List S33} {i : Nat} (h : i < l.length) : rd_T33 l (i : Int) = l[i] := by
  unfold rd_T33
  rw [Int.toNat_natCast, List.getD_eq_getElem?_getD, List.getElem?_eq_getElem h]
  rfl
theorem toList_eq {a b : ByteArray} : a.toList = b.toList ↔ a = b := ⟨fun h => bytes_ext (by rw [← toList_data, ← toList_data]; exact h), fun h => by rw [h]⟩

def nmA : ByteArray := ⟨#[97]⟩
theorem awake_fit : Fit ([(⟨(⟨#[97]⟩ : ByteArray), ([] : List ByteArray)⟩ : S41)]) [(⟨#[97]⟩ : ByteArray)] [] := by
  refine ⟨by simp [netOf, tot], by simp, by simp, ?_, ?_, ?_, by simp⟩
  · intro v hv
    rw [List.mem_singleton.1 hv]
    decide
  · intro v hv u hu
    rw [List.mem_singleton.1 hv] at hu
    simp at hu
  · intro u hu
    rw [List.mem_singleton.1 hu]
    decide
theorem awake_true : quirelaw15_awake.f = some true := by
  obtain ⟨l, m, e, hs⟩ := sorts_exists totN noName (netOf [(⟨(⟨#[97]⟩ : ByteArray), ([] : List ByteArray)⟩ : S41)]) [(⟨#[97]⟩ : ByteArray)] []
  have hf := order_Sort.of awake_fit (r := (l, m, e)) hs
  have hcand : ∀ x, Ord.Reach (netOf [(⟨(⟨#[97]⟩ : ByteArray), ([] : List ByteArray)⟩ : S41)]) [] [(⟨#[97]⟩ : ByteArray)] x → x = ⟨#[97]⟩ := fun x hx => by
    have := hx.cand
    simpa [netOf] using this
  have hu : ∀ us, usesOf (netOf [(⟨(⟨#[97]⟩ : ByteArray), ([] : List ByteArray)⟩ : S41)]) ⟨#[97]⟩ = some us → us = [] := fun us h => by
    obtain ⟨v, hv, e⟩ := usesOf_sub h
    simp [netOf] at hv
    rw [← e, hv]
  have hun : usesOf (netOf [(⟨(⟨#[97]⟩ : ByteArray), ([] : List ByteArray)⟩ : S41)]) ⟨#[97]⟩ ≠ none := fun h => by
    rw [usesOf_none] at h
    exact h (by simp [netOf])
  have hb : bads (netOf [(⟨(⟨#[97]⟩ : ByteArray), ([] : List ByteArray)⟩ : S41)]) = [] := by simp [bads, badsFrom, dupUses, netOf]
  unfold quirelaw15_awake.f
  rw [hf]
  cases hs with
  | twice m h => have := h.1; rw [hb] at this; simp at this
  | none_ m h0 h => have h1 := h.1.2; rw [hcand _ h.1.1] at h1; exact absurd h1 hun
  | cycle m h0 h1 h =>
    obtain ⟨us, h2, h3⟩ := h.1.2
    rw [hcand _ h.1.1] at h2
    rw [hu _ h2] at h3
    have := h3.cand
    simp [netOf] at this
  | ok l h0 h1 h2 h =>
    have hm : (⟨#[97]⟩ : ByteArray) ∈ l := (h.mem _).2 (.base _ (by simp) (by simp))
    have h3 := subset_length (l := l) (m := [(⟨#[97]⟩ : ByteArray)]) h.nodup (fun x hx => by rw [hcand x ((h.mem x).1 hx)]; simp)
    have h4 := List.length_pos_of_mem hm
    have h5 : l.length = 1 := by simp at h3; omega
    simp [h5]

/-! ### The law -/
theorem netOf_conv (list : List S33) : netOf (list.map conv) = list.map fun v => (v.f0, v.f1) := by simp [netOf, conv]
theorem tot_flat : ∀ l : Net ByteArray, (l.flatMap (·.2)).length ≤ tot l
  | [] => by simp [tot]
  | v :: l => by
    have := tot_flat l
    simp only [List.flatMap_cons, List.length_append, tot]
    omega
theorem order_length {list : Net ByteArray} {hv want l : List ByteArray} (h : Greedy ltN list hv want l) (h1 : want.length ≤ 3000000) (h2 : tot list ≤ 3000000) : l.length ≤ 6000000 := by
  have h3 := subset_length (m := want ++ list.flatMap (·.2)) h.nodup (fun x hx => ((h.mem x).1 hx).cand)
  have h4 := tot_flat list
  rw [List.length_append] at h3
  omega

end Go.Proofs.Ytdllpgeagdckmaa.Q

/- The list of names and uses as an argument, opened. -/
namespace Go.Proofs.Ytdllpgeagdckmaa.Q
open Go.ChangeShapes Go.WideShapes Go.Deep Go.RowKit Go.Proofs.YtdllpgeagdckmaaW.PrintWords Go.Proofs.Ytdllpgeagdckmaa.Opens
section
variable {H : Type} {enc : TypeId × Value → H} {w : World} {base : Nat} {spare : Nat → Bool} {held : Bool}

/-- A name and its uses are of sizes that memory bears. -/
def Okv (v : S33) : Prop := v.f0.size ≤ maxLen ∧ ∀ u ∈ v.f1, u.size ≤ maxLen
def wtv (v : S33) : Nat := v.f0.size + 1 + ((v.f1.map (fun p => p.size + 1)).sum + 1)

set_option maxRecDepth 100000 in
theorem el_voc : ∀ n cs y, DataW.trod enc Try.prog w base spare held n 33 cs = some y → ∃ p : S33, k33.K w p cs ∧ Okv p ∧ wtv p ≤ Rows.uptoBulk y.1 := by
  intro n cs y h
  obtain ⟨y0, y1, m, rfl, hl, h0, h1⟩ := trod_struct2 Try.underlying33 h
  have hc33 : Try.prog.cellsOf 33 = 2 := by kernel_rfl
  have hc9 : Try.prog.cellsOf 9 = 1 := by kernel_rfl
  have hc23 : Try.prog.cellsOf 23 = 1 := by kernel_rfl
  obtain ⟨c0, c1, rfl⟩ : ∃ c0 c1, cs = [c0, c1] := by
    rw [hc33] at hl
    match cs, hl with
    | [c0, c1], _ => exact ⟨c0, c1, rfl⟩
  simp only [hc9, hc23, List.drop_zero, List.drop_succ_cons, List.take_succ_cons, List.take_zero] at h0 h1
  obtain ⟨s, hs, rfl, hsz⟩ := DataW.trod_string Try.underlying9 h0
  obtain ⟨A, cap, us, hus, hle, hmx, hC, hQ, hB⟩ := open_C_str Try.underlying23 Try.underlying9 hc9 _ _ _ h1
  cases hs
  cases hus
  refine ⟨⟨s, us⟩, k33_mk w ⟨s, us⟩ hle hC, ⟨hsz, hQ⟩, ?_⟩
  have e : s.data.size = s.size := rfl
  simp only [wtv, Rows.uptoBulk, Rows.uptoBulkAll, Array.length_toList, e]
  omega

theorem open_voc (n : Nat) (cs : List Value) (y : DataW H × List MemPlace) (h : DataW.trod enc Try.prog w base spare held n 22 cs = some y) :
    ∃ (A : Option Addr) (cap : Nat) (xs : List S33), cs = [.slice A xs.length cap] ∧ xs.length ≤ cap ∧ cap ≤ maxLen ∧ k33.C w A xs.length xs ∧ (∀ p ∈ xs, Okv p) ∧ (xs.map wtv).sum + 1 ≤ Rows.uptoBulk y.1 :=
  open_C k33 wtv Okv Try.underlying22 (by kernel_rfl) el_voc h
theorem vocs_sum (xs : List S33) : tot (netOf (xs.map conv)) ≤ (xs.map wtv).sum ∧ xs.length ≤ (xs.map wtv).sum ∧ ∀ v ∈ xs, v.f1.length ≤ (xs.map wtv).sum := by
  rw [netOf_conv]
  induction xs with
  | nil => simp [tot]
  | cons x xs ih =>
    have h1 := strs_length x.f1
    have hw : wtv x = x.f0.size + 1 + ((x.f1.map (fun p => p.size + 1)).sum + 1) := rfl
    simp only [List.map_cons, List.sum_cons, tot, List.length_cons]
    refine ⟨by omega, by omega, fun v hv => ?_⟩
    rcases List.mem_cons.1 hv with rfl | hv
    · omega
    · have := ih.2.2 v hv
      omega
theorem fit_of {list : List S33} {want hv : List ByteArray} (q0 : ∀ v ∈ list, Okv v) (q1 : ∀ p ∈ want, p.size ≤ maxLen) (q2 : ∀ p ∈ hv, p.size ≤ maxLen)
    (hB : (list.map wtv).sum + (want.map (fun p => p.size + 1)).sum + (hv.map (fun p => p.size + 1)).sum ≤ 1048576) : Fit (list.map conv) want hv := by
  have h0 := vocs_sum list
  have h1 := strs_length want
  have h2 := strs_length hv
  refine ⟨by omega, by omega, by omega, fun v hv1 => ?_, fun v hv1 => ?_, q1, q2⟩
  · obtain ⟨v', hv2, rfl⟩ := List.mem_map.1 hv1
    exact (q0 v' hv2).1
  · obtain ⟨v', hv2, rfl⟩ := List.mem_map.1 hv1
    exact (q0 v' hv2).2
end
end Go.Proofs.Ytdllpgeagdckmaa.Q
