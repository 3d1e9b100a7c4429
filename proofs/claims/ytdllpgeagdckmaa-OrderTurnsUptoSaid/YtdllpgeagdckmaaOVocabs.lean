/- What vocabs makes of a list: the same names and uses, in memory of its own. -/
import Derived.Test.YtdllpgeagdckmaaOKit
import Derived.Deep.RegionLaw
import Derived.RegionTactic
import Derived.BigRegion
import Derived.Outline
import Derived.Deep.RegionHeld3
import Derived.Deep.LoopGhost
import Derived.Deep.Cut
namespace Go.Proofs.Ytdllpgeagdckmaa.Q
open Go.RowKit Go.Proofs.YtdllpgeagdckmaaW.PrintWords Go.Proofs.YtdllpgeagdckmaaW.PrintLast Go.Proofs.YtdllpgeagdckmaaW.PrintMore Go.Proofs.Ytdllpgeagdckmaa.MapKit Go.Maps Go.Proofs.Ytdllpgeagdckmaa.Ord
attribute [local go_sem] max2_int min2_int max_two min_two max_three min_three max_four min_four
set_option linter.unusedVariables false
set_option linter.unusedSimpArgs false

def conv (v : S33) : S41 := ⟨v.f0, v.f1⟩

theorem voc33_at {w : World} {A : Option Addr} {l : List S33} (h : Kd.C k33 w A l.length l) (i : Nat) (hi : i < l.length) : ∃ ad A1 c1, A = some ad ∧ w.cell? (ad.add (i * 2)) = some (.string l[i].f0) ∧ w.cell? ⟨(ad.add (i * 2)).block, (ad.add (i * 2)).off + 1, none⟩ = some (.slice A1 l[i].f1.length c1) ∧ l[i].f1.length ≤ c1 ∧ Kd.string.C w A1 l[i].f1.length l[i].f1 := by
  obtain ⟨ad, A1, c1, e, h1, h2, h3, h4⟩ := at_T33 h (i : Int) (by omega) (by omega)
  have er : rd_T33 l (i : Int) = l[i] := by simp [rd_T33, List.getD_eq_getElem?_getD, List.getElem?_eq_getElem hi]
  rw [er] at h1 h2 h3 h4
  exact ⟨ad, A1, c1, e, by simpa using h1, by simpa using h2, h3, h4⟩

theorem results_c {P : Program} {fn : Func} {p : Tmp} {ty : TypeId} (h : fn.results = #[.cell p ty]) (tmps : Array Value) (w : World) (g : Nat) (t : TypeId) (cs : Array Value) (fr : Nat × Nat) (d : TypeDesc)
    (hp : tmps.getD p undef = .pointer (some ⟨g, 0, none⟩)) (hg : w.heap[g]? = some (.cells cs t fr))
    (hu : P.underlying ty = some d) (hd : (match d with | .struct _ | .array _ _ => true | _ => false) = true) (hi : (P.info? ty).map (·.size) = some cs.size) :
    (results fn tmps).run P w = .ok (.agg cs) w := by
  have hp' : tmps[p]?.getD undef = .pointer (some ⟨g, 0, none⟩) := by simpa using hp
  simp [results, h, hp', asAddr, run_loadVar_row w g t ty cs fr d hg hu hd hi]
structure VRel (w w' : World) (b1 b2 b3 : Nat) (A : Option Addr) (n c : Nat) (v : Value) (ys : List S41) : Prop where
  arg : w'.heap[b1]? = some (.cells #[.slice A n c, .slice none 0 0] 61 (0, 0))
  ret : w'.heap[b2]? = some (.cells #[.slice none 0 0, .slice none 0 0] 57 (0, 0))
  out : w'.heap[b3]? = some (.cells #[v, .slice none 0 0] 57 (0, 0))
  row : Kd.S k41 41 w' w.heap.size (fun _ => True) v ys
  below : Below w.heap.size w w'

theorem VRel.below' {w w' w2 : World} {b1 b2 b3 : Nat} {A : Option Addr} {n c : Nat} {v : Value} {ys : List S41} (h : VRel w w' b1 b2 b3 A n c v ys) (hb : Below w'.heap.size w' w2) : VRel w w2 b1 b2 b3 A n c v ys :=
  ⟨blk_below h.arg hb, blk_below h.ret hb, blk_below h.out hb, Kd.S_below h.row hb, h.below.trans (hb.mono h.below.size)⟩
/-- The row of the kept list grows (by one): the blocks of the frame stay. -/
structure VGrown (w w' : World) (b1 b2 b3 : Nat) (A : Option Addr) (n c : Nat) (v v1 : Value) (ys : List S41) : Prop where
  arg : w'.heap[b1]? = some (.cells #[.slice A n c, .slice none 0 0] 61 (0, 0))
  ret : w'.heap[b2]? = some (.cells #[.slice none 0 0, .slice none 0 0] 57 (0, 0))
  out : w'.heap[b3]? = some (.cells #[v, .slice none 0 0] 57 (0, 0))
  row : Kd.S k41 41 w' w.heap.size (fun _ => True) v1 ys
  below : Below w.heap.size w w'
theorem VRel.grown {w w1 w2 : World} {b1 b2 b3 : Nat} {A : Option Addr} {n c : Nat} {v v1 : Value} {ys zs : List S41} (h : VRel w w1 b1 b2 b3 A n c v ys) (hg : w1.grownBy w2 v.ownBlock) (hr : Kd.S k41 41 w2 w.heap.size (fun _ => True) v1 zs) (hb : Below w.heap.size w w2) : VGrown w w2 b1 b2 b3 A n c v v1 zs :=
  ⟨blk_grown h.arg hg (Kd.R_ne (Kd.S_R h.row) h.arg (by decide)), blk_grown h.ret hg (Kd.R_ne (Kd.S_R h.row) h.ret (by decide)), blk_grown h.out hg (Kd.R_ne (Kd.S_R h.row) h.out (by decide)), hr, hb⟩
theorem VGrown.stored {w w' : World} {b1 b2 b3 : Nat} {A : Option Addr} {n c : Nat} {v v1 : Value} {ys : List S41} (h : VGrown w w' b1 b2 b3 A n c v v1 ys) (h3 : w.heap.size ≤ b3) (h13 : b1 ≠ b3) (h23 : b2 ≠ b3) : VRel w (w'.setCell ⟨b3, 0, none⟩ v1) b1 b2 b3 A n c v1 ys :=
  ⟨blk_far h.arg (p := ⟨b3, 0, none⟩) h13 _, blk_far h.ret (p := ⟨b3, 0, none⟩) h23 _, blk_put h.out 0 v1 rfl, Kd.S_set h.row h.out (by decide) 0 v1, Below.setCell (p := ⟨b3, 0, none⟩) h.below h3 _⟩
theorem VRel.own_lt {w w' : World} {b1 b2 b3 : Nat} {A : Option Addr} {n c : Nat} {v : Value} {ys : List S41} (h : VRel w w' b1 b2 b3 A n c v ys) (k : Nat) (hk : v.ownBlock = some k) : k < w'.heap.size := by
  exact Kd.S_lt h.row k hk
theorem ge_alloc {w : World} {o : Obj} {k : Nat} (h : (w.drew.alloc o).heap.size ≤ k) : w.heap.size ≤ k := by
  simp at h
  omega
theorem below_first {w w2 : World} {o : Obj} (hg : (w.drew.alloc o).grownBy w2 (Value.slice (some ⟨w.heap.size, 0, none⟩) 0 0).ownBlock) : Below w.heap.size w w2 :=
  Below.grown (below_alloc (below_drew (Below.refl _ _)) o) hg (by simp) (fun k hk => by simp [Value.ownBlock] at hk; omega)
theorem strings_empty (w : World) (base : Nat) (hb : base ≤ w.heap.size) : Kd.string.R 9 (w.alloc (.cells #[] 9)) base (fun k => w.heap.size ≤ k) (.slice (some ⟨w.heap.size, 0, none⟩) 0 0) [] :=
  ⟨fun k hk => by have : w.heap.size = k := by simpa [Value.ownBlock] using hk
                  omega, [], ⟨rfl, .inr ⟨w.heap.size, 0, #[], rfl, hb, heap_alloc_new w _, Nat.le_refl _, by decide, rfl, rfl⟩⟩, ⟨rfl, fun j p hj => by simp at hj⟩⟩

set_option maxHeartbeats 8000000 in
set_option maxRecDepth 100000 in
theorem api_calls (w : World) (A : Option Addr) (c : Nat) (l : List S33) (hC : Kd.C k33 w A l.length l) (hl : l.length ≤ 3000000) (hul : ∀ v ∈ l, v.f1.length ≤ 3000000) :
    Calls Try.prog 23 #[.agg #[.slice A l.length c, .slice none 0 0]] w fun e w' => ∃ v, e = .returned (.agg #[v, .slice none 0 0]) ∧ Kd.S k41 41 w' w.heap.size (fun _ => True) v (l.map conv) ∧ Below w.heap.size w w' := by
  have HC := Aside0.mk hC
  have HUL := Aside0.mk hul
  clear hC hul
  go_enter Try.func23, Try.ntmps23
  go_upto_region 2 with fail
  have h2 : ((w.alloc (.cells #[.slice A l.length c, .slice none 0 0] 61)).alloc (.cells #[.slice none 0 0, .slice none 0 0] 57)).heap[w.heap.size + 1]? = some (.cells #[.slice none 0 0, .slice none 0 0] 57 (0, 0)) := by
    have := heap_alloc_new (w.alloc (.cells #[.slice A l.length c, .slice none 0 0] 61)) (.cells #[.slice none 0 0, .slice none 0 0] 57)
    simpa using this
  have h2' : (((w.alloc (.cells #[.slice A l.length c, .slice none 0 0] 61)).alloc (.cells #[.slice none 0 0, .slice none 0 0] 57)).alloc (.cells #[.slice none 0 0, .slice none 0 0] 57)).heap[w.heap.size + 1]? = some (.cells #[.slice none 0 0, .slice none 0 0] 57 (0, 0)) := (Below.block (below_alloc (Below.refl ((w.alloc (.cells #[.slice A l.length c, .slice none 0 0] 61)).alloc (.cells #[.slice none 0 0, .slice none 0 0] 57)).heap.size _) (.cells #[.slice none 0 0, .slice none 0 0] 57)) _ (by simp)).trans h2
  clear h2
  have h0 : VRel w (((w.alloc (.cells #[.slice A l.length c, .slice none 0 0] 61)).alloc (.cells #[.slice none 0 0, .slice none 0 0] 57)).alloc (.cells #[.slice none 0 0, .slice none 0 0] 57)) w.heap.size (w.heap.size + 1) (w.heap.size + 1 + 1) A l.length c (.slice none 0 0) [] := by
    refine ⟨?_, ?_, ?_, Kd.S_nil _ _ _ _ _, below_alloc (below_alloc (below_alloc (Below.refl _ _) _) _) _⟩
    · have h1 := heap_alloc_new w (.cells #[.slice A l.length c, .slice none 0 0] 61)
      have h2 := below_alloc (below_alloc (Below.refl (w.alloc (.cells #[.slice A l.length c, .slice none 0 0] 61)).heap.size _) (.cells #[.slice none 0 0, .slice none 0 0] 57)) (.cells #[.slice none 0 0, .slice none 0 0] 57)
      exact (h2.block _ (by simp)).trans h1
    · exact h2'
    · have := heap_alloc_new ((w.alloc (.cells #[.slice A l.length c, .slice none 0 0] 61)).alloc (.cells #[.slice none 0 0, .slice none 0 0] 57)) (.cells #[.slice none 0 0, .slice none 0 0] 57)
      simpa using this
  generalize ((w.alloc (.cells #[.slice A l.length c, .slice none 0 0] 61)).alloc (.cells #[.slice none 0 0, .slice none 0 0] 57)).alloc (.cells #[.slice none 0 0, .slice none 0 0] 57) = w1 at *
  obtain ⟨b1, hb1⟩ : ∃ b, b = w.heap.size := ⟨_, rfl⟩
  obtain ⟨b2, hb2⟩ : ∃ b, b = w.heap.size + 1 := ⟨_, rfl⟩
  obtain ⟨b3, hb3⟩ : ∃ b, b = w.heap.size + 1 + 1 := ⟨_, rfl⟩
  rw [← hb3, ← hb2, ← hb1]
  have H0 : Aside0 (VRel w w1 b1 b2 b3 A l.length c (.slice none 0 0) []) := ⟨by rw [hb1, hb2, hb3]; exact h0⟩
  have HB1 := Aside0.mk hb1
  have HB2 := Aside0.mk hb2
  have HB3 := Aside0.mk hb3
  clear hb1 hb2 hb3 h0 h2'
  go_wp2_with fail
  go_loopg [4] (l.length + 1) (fun kq v4 w' => ∃ i : Nat, v4 = .int .i64 (i : Int) ∧ Aside0 (i ≤ l.length) ∧ Aside0 (kq + i = l.length + 1) ∧ Aside0 (∃ v, VRel w w' b1 b2 b3 A l.length c v ((l.take i).map conv)))
  case atStart => exact ⟨0, rfl, ⟨Nat.zero_le _⟩, ⟨by omega⟩, ⟨_, H0.out⟩⟩
  clear H0
  obtain ⟨i, rfl, HI, HK, HT⟩ := hrel
  have hi := HI.out
  have hk := HK.out
  obtain ⟨v, hR⟩ := HT.out
  have HR := Aside0.mk hR
  clear HT
  have n1 : wr.cell? ⟨b1, 0, none⟩ = some (.slice A l.length c) := (blk_cell hR.arg 0).trans rfl
  have n3 : wr.cell? ⟨b3, 0, none⟩ = some v := (blk_cell hR.out 0).trans rfl
  clear hR
  by_cases hlt : i < l.length
  · have hz : decide ((i : Int) < (l.length : Int)) = true := decide_eq_true (by omega)
    obtain ⟨k1, rfl⟩ : ∃ k1, gk = k1 + 1 := ⟨gk - 1, by omega⟩
    obtain ⟨ad, A1, c1, rfl, z0, z1, hc1, hC1⟩ := voc33_at HC.out i hlt
    obtain ⟨u, hu⟩ : ∃ u, u = l[i] := ⟨_, rfl⟩
    rw [← hu] at z0 z1 hc1 hC1
    have x0 := pw_cell_below HR.out.below z0
    have x1 := pw_cell_below HR.out.below z1
    have hul : u.f1.length ≤ 3000000 := HUL.out u (by rw [hu]; exact List.getElem_mem hlt)
    have htk : (l.take (i + 1)).map conv = (l.take i).map conv ++ [conv u] := by rw [List.take_succ_eq_append_getElem hlt, List.map_append, ← hu]; rfl
    have hlen : ((l.take i).map conv).length ≤ 3000000 := by simp; omega
    generalize hys : (l.take i).map conv = ys at HR htk hlen
    have hE : Kd.string.R 9 (wr.drew.alloc (.cells #[] 9)) w.heap.size (fun k => wr.heap.size ≤ k) (.slice (some ⟨wr.heap.size, 0, none⟩) 0 0) [] := strings_empty wr.drew w.heap.size HR.out.below.size
    have hRd : ReadsRow (Kd.string.K (wr.drew.alloc (.cells #[] 9))) 1 (wr.drew.alloc (.cells #[] 9)) A1 u.f1.length u.f1 := Kd.C_below (Kd.C_below hC1 HR.out.below) (below_alloc (below_drew (Below.refl _ _)) _)
    have hBB : Below w.heap.size w (wr.drew.alloc (.cells #[] 9)) := below_alloc (below_drew HR.out.below) _
    have hbs : w.heap.size ≤ (wr.drew.alloc (.cells #[] 9)).heap.size := hBB.size
    have hby : (([] : List ByteArray).length + u.f1.length) * 16 ≤ 140737488355328 := by simp; omega
    have F := Aside0.mk (And.intro hE (And.intro hRd (And.intro hBB (And.intro hbs hby))))
    have nm : ∀ w' : World, Below wr.heap.size wr w' → w'.cell? ⟨b1, 0, none⟩ = some (.slice (some ad) l.length c) ∧ w'.cell? ⟨b3, 0, none⟩ = some v ∧ w'.cell? (ad.add (i * 2)) = some (.string u.f0) ∧ w'.cell? ⟨(ad.add (i * 2)).block, (ad.add (i * 2)).off + 1, none⟩ = some (.slice A1 u.f1.length c1) := fun w' hb => ⟨pw_cell_below hb n1, pw_cell_below hb n3, pw_cell_below hb x0, pw_cell_below hb x1⟩
    have NM := Aside0.mk nm
    have HB13 : Aside0 (b1 ≠ b3) := ⟨by rw [HB1.out, HB3.out]; omega⟩
    have Z0 := Aside0.mk z0
    have Z1 := Aside0.mk z1
    have HTK := Aside0.mk htk
    have HLEN := Aside0.mk hlen
    have HYS := Aside0.mk hys
    have HUL2 := Aside0.mk hul
    clear nm z0 z1 hC1 hc1 hu hi hE hRd hBB hbs hby htk hlen hys hul
    go_upto_region 5 with fail
    refine start_ (n := 21) (S := (fun w' => w'.cell? ⟨b1, 0, none⟩ = some (.slice (some ad) l.length c) ∧ w'.cell? ⟨b3, 0, none⟩ = some v ∧ w'.cell? (ad.add (i * 2)) = some (.string u.f0) ∧ w'.cell? ⟨(ad.add (i * 2)).block, (ad.add (i * 2)).off + 1, none⟩ = some (.slice A1 u.f1.length c1))) (ds := [20]) #[false, false, false, false, false, false, false, false, false, false, false, false, false, false, false, false, false, false, false, false, false] (by kernel_rfl) rfl rfl (NM.out _ (below_drew (Below.refl _ _))) (fun hHeld => ?_)
    refine pure_ (i := 0) (N := some 13) (v := ?_) (a' := ?_) #[true, false, false, false, false, false, false, false, false, false, false, false, false, false, false, false, false, false, false, false, false] rfl rfl (by kernel_rfl) (fun _ _ _ h => h) (Or.inl ⟨by rfl, ?_⟩) ?_ ?_
    rotate_left
    · intro w'
      go_simp
      with_reducible rfl
    rotate_left
    · simp only [Act.put, List.setIfInBounds_toArray, List.set_cons_zero, List.set_cons_succ]
      rfl
    refine pure_ (i := 2) (N := some 15) (v := ?_) (a' := ?_) #[true, false, true, false, false, false, false, false, false, false, false, false, false, false, false, false, false, false, false, false, false] rfl rfl (by kernel_rfl) (fun _ _ _ h => h) (Or.inl ⟨by rfl, ?_⟩) ?_ ?_
    rotate_left
    · intro w'
      go_simp
      with_reducible rfl
    rotate_left
    · simp only [Act.put, List.setIfInBounds_toArray, List.set_cons_zero, List.set_cons_succ]
      rfl
    refine pure_ (i := 4) (N := some 17) (v := ?_) (a' := ?_) #[true, false, true, false, true, false, false, false, false, false, false, false, false, false, false, false, false, false, false, false, false] rfl rfl (by kernel_rfl) (fun _ _ _ h => h) (Or.inl ⟨by rfl, ?_⟩) ?_ ?_
    rotate_left
    · intro w'
      go_simp
      with_reducible rfl
    rotate_left
    · simp only [Act.put, List.setIfInBounds_toArray, List.set_cons_zero, List.set_cons_succ]
      rfl
    refine take_ (i := 1) (N := some 14) (v := ?_) (a' := ?_) #[true, true, true, false, true, false, false, false, false, false, false, false, false, false, false, false, false, false, false, false, false] rfl rfl (by kernel_rfl) (fun _ _ _ h => h) (Or.inl ⟨by rfl, ?_⟩) hHeld ?_ ?_
    rotate_left
    · rintro w' ⟨s0, s1, s2, s3⟩
      go_simp
      with_reducible rfl
    rotate_left
    · simp only [Act.put, List.setIfInBounds_toArray, List.set_cons_zero, List.set_cons_succ]
      rfl
    refine take_ (i := 3) (N := some 16) (v := ?_) (a' := ?_) #[true, true, true, true, true, false, false, false, false, false, false, false, false, false, false, false, false, false, false, false, false] rfl rfl (by kernel_rfl) (fun _ _ _ h => h) (Or.inl ⟨by rfl, ?_⟩) hHeld ?_ ?_
    rotate_left
    · rintro w' ⟨s0, s1, s2, s3⟩
      go_simp
      with_reducible rfl
    rotate_left
    · simp only [Act.put, List.setIfInBounds_toArray, List.set_cons_zero, List.set_cons_succ]
      rfl
    refine pure_ (i := 5) (N := some 18) (v := ?_) (a' := ?_) #[true, true, true, true, true, true, false, false, false, false, false, false, false, false, false, false, false, false, false, false, false] rfl rfl (by kernel_rfl) (fun _ _ _ h => h) (Or.inl ⟨by rfl, ?_⟩) ?_ ?_
    rotate_left
    · intro w'
      go_simp
      with_reducible rfl
    rotate_left
    · simp only [Act.put, List.setIfInBounds_toArray, List.set_cons_zero, List.set_cons_succ]
      rfl
    refine pure_ (i := 6) (N := some 19) (v := ?_) (a' := ?_) #[true, true, true, true, true, true, true, false, false, false, false, false, false, false, false, false, false, false, false, false, false] rfl rfl (by kernel_rfl) (fun _ _ _ h => h) (Or.inl ⟨by rfl, ?_⟩) ?_ ?_
    rotate_left
    · intro w'
      go_simp
      with_reducible rfl
    rotate_left
    · simp only [Act.put, List.setIfInBounds_toArray, List.set_cons_zero, List.set_cons_succ]
      rfl
    refine take_ (i := 7) (N := some 20) (v := ?_) (a' := ?_) #[true, true, true, true, true, true, true, true, false, false, false, false, false, false, false, false, false, false, false, false, false] rfl rfl (by kernel_rfl) (fun _ _ _ h => h) (Or.inl ⟨by rfl, ?_⟩) hHeld ?_ ?_
    rotate_left
    · rintro w' ⟨s0, s1, s2, s3⟩
      go_simp
      with_reducible rfl
    rotate_left
    · simp only [Act.put, List.setIfInBounds_toArray, List.set_cons_zero, List.set_cons_succ]
      rfl
    refine pure_ (i := 9) (N := some 22) (v := ?_) (a' := ?_) #[true, true, true, true, true, true, true, true, false, true, false, false, false, false, false, false, false, false, false, false, false] rfl rfl (by kernel_rfl) (fun _ _ _ h => h) (Or.inl ⟨by rfl, ?_⟩) ?_ ?_
    rotate_left
    · intro w'
      go_simp
      with_reducible rfl
    rotate_left
    · simp only [Act.put, List.setIfInBounds_toArray, List.set_cons_zero, List.set_cons_succ]
      rfl
    refine take_ (i := 10) (N := some 23) (v := ?_) (a' := ?_) #[true, true, true, true, true, true, true, true, false, true, true, false, false, false, false, false, false, false, false, false, false] rfl rfl (by kernel_rfl) (fun _ _ _ h => h) (Or.inl ⟨by rfl, ?_⟩) hHeld ?_ ?_
    rotate_left
    · rintro w' ⟨s0, s1, s2, s3⟩
      go_simp
      with_reducible rfl
    rotate_left
    · simp only [Act.put, List.setIfInBounds_toArray, List.set_cons_zero, List.set_cons_succ]
      rfl
    refine pure_ (i := 11) (N := some 24) (v := ?_) (a' := ?_) #[true, true, true, true, true, true, true, true, false, true, true, true, false, false, false, false, false, false, false, false, false] rfl rfl (by kernel_rfl) (fun _ _ _ h => h) (Or.inl ⟨by rfl, ?_⟩) ?_ ?_
    rotate_left
    · intro w'
      go_simp
      with_reducible rfl
    rotate_left
    · simp only [Act.put, List.setIfInBounds_toArray, List.set_cons_zero, List.set_cons_succ]
      rfl
    refine pure_ (i := 12) (N := some 25) (v := ?_) (a' := ?_) #[true, true, true, true, true, true, true, true, false, true, true, true, true, false, false, false, false, false, false, false, false] rfl rfl (by kernel_rfl) (fun _ _ _ h => h) (Or.inl ⟨by rfl, ?_⟩) ?_ ?_
    rotate_left
    · intro w'
      go_simp
      with_reducible rfl
    rotate_left
    · simp only [Act.put, List.setIfInBounds_toArray, List.set_cons_zero, List.set_cons_succ]
      rfl
    refine pure_ (i := 13) (N := some 26) (v := ?_) (a' := ?_) #[true, true, true, true, true, true, true, true, false, true, true, true, true, true, false, false, false, false, false, false, false] rfl rfl (by kernel_rfl) (fun _ _ _ h => h) (Or.inl ⟨by rfl, ?_⟩) ?_ ?_
    rotate_left
    · intro w'
      go_simp
      with_reducible rfl
    rotate_left
    · simp only [Act.put, List.setIfInBounds_toArray, List.set_cons_zero, List.set_cons_succ]
      rfl
    refine take_ (i := 14) (N := some 27) (v := ?_) (a' := ?_) #[true, true, true, true, true, true, true, true, false, true, true, true, true, true, true, false, false, false, false, false, false] rfl rfl (by kernel_rfl) (fun _ _ _ h => h) (Or.inl ⟨by rfl, ?_⟩) hHeld ?_ ?_
    rotate_left
    · rintro w' ⟨s0, s1, s2, s3⟩
      go_simp
      with_reducible rfl
    rotate_left
    · simp only [Act.put, List.setIfInBounds_toArray, List.set_cons_zero, List.set_cons_succ]
      rfl
    refine one_ (i := 8) (N := some 21) #[true, true, true, true, true, true, true, true, true, true, true, true, true, true, true, false, false, false, false, false, false] rfl rfl (by kernel_rfl) (by decide) (fun K hK => ?_)
    refine value_ (v := .slice (some ⟨wr.heap.size, 0, none⟩) 0 0) (w1 := wr.drew.alloc (.cells #[] 9)) (by rfl) rfl (by go_simp) ?_
    refine hK.out _ _ (NM.out _ (below_alloc (below_drew (Below.refl _ _)) _)) (fun hHeld => ?_)
    clear hK K
    refine norm_ (a' := ?_) ?_ ?_
    rotate_left
    · show Act.put _ (some 21) _ = _
      simp only [Act.put, List.setIfInBounds_toArray, List.set_cons_zero, List.set_cons_succ]
      rfl
    refine one_ (i := 15) (N := some 28) #[true, true, true, true, true, true, true, true, true, true, true, true, true, true, true, true, false, false, false, false, false] rfl rfl (by kernel_rfl) (by decide) (fun K hK => ?_)
    refine Kd.R_append_rows_step Kd.string w.heap.size rfl (.tmp 21) (.tmp 27) 23 9 (.string ⟨#[]⟩) 16 rfl Try.underlying23 info9 rfl (by decide) (by decide) (.slice (some ⟨wr.heap.size, 0, none⟩) 0 0) [] u.f1 A1 u.f1.length c1 (fun k => wr.heap.size ≤ k) (fun _ => False) rfl rfl F.out.1 F.out.2.1 (fun _ _ h => h) (fun _ h => h.elim) (fun k hk => ge_alloc hk) F.out.2.2.1 F.out.2.2.2.1 F.out.2.2.2.2 ?_
    intro v28 w2 hr2 hb2 hg2 hat2
    obtain ⟨A28, c28, rfl⟩ := Kd.R_slice hr2
    have HR2 := Aside0.mk hr2
    have hbr : Below wr.heap.size wr w2 := below_first hg2
    have HV2 := Aside0.mk (HR.out.below' hbr)
    have hf2 : b3 < w2.heap.size := blk_lt HV2.out.out
    have HS2 := Aside0.mk (NM.out _ hbr)
    have HBR := Aside0.mk hbr
    have HO2 := Aside0.mk (Kd.S_below (Kd.S_mono (Kd.S_bound HR.out.row) (fun k hk => (⟨trivial, fun h => by have := hk.2.2.1; omega⟩ : True ∧ ¬ wr.heap.size ≤ k))) hbr)
    clear hr2 hb2 hg2 hat2 hbr
    refine hK.out _ _ HS2.out (fun hHeld => ?_)
    clear hK K
    refine norm_ (a' := ?_) ?_ ?_
    rotate_left
    · show Act.put _ (some 28) _ = _
      simp only [Act.put, List.setIfInBounds_toArray, List.set_cons_zero, List.set_cons_succ]
      rfl
    refine pure_ (i := 16) (N := some 29) (v := ?_) (a' := ?_) #[true, true, true, true, true, true, true, true, true, true, true, true, true, true, true, true, true, false, false, false, false] rfl rfl (by kernel_rfl) (fun _ _ _ h => h) (Or.inl ⟨by rfl, ?_⟩) ?_ ?_
    rotate_left
    · intro w'
      go_simp
      with_reducible rfl
    rotate_left
    · simp only [Act.put, List.setIfInBounds_toArray, List.set_cons_zero, List.set_cons_succ]
      rfl
    refine one_ (i := 17) (N := some 30) #[true, true, true, true, true, true, true, true, true, true, true, true, true, true, true, true, true, true, false, false, false] rfl rfl (by kernel_rfl) (by decide) (fun K hK => ?_)
    refine value_ (v := .slice (some ⟨w2.heap.size, 0, none⟩) 1 1) (w1 := w2.alloc (.cells #[.string u.f0, .slice A28 u.f1.length c28] 41)) (by rfl) rfl (by go_simp) ?_
    refine hK.out _ _ (NM.out _ (below_alloc HBR.out _)) (fun hHeld => ?_)
    clear hK K
    refine norm_ (a' := ?_) ?_ ?_
    rotate_left
    · show Act.put _ (some 30) _ = _
      simp only [Act.put, List.setIfInBounds_toArray, List.set_cons_zero, List.set_cons_succ]
      rfl
    refine one_ (i := 18) (N := some 31) #[true, true, true, true, true, true, true, true, true, true, true, true, true, true, true, true, true, true, true, false, false] rfl rfl (by kernel_rfl) (by decide) (fun K hK => ?_)
    refine Kd.S_append_step k41 (w0 := w) w.heap.size rfl (.tmp 14) (.tmp 30) 28 41 (.agg #[(.string ⟨#[]⟩), (.slice none 0 0)]) 40 rfl Try.underlying28 info41 rfl (by decide) (by decide) v ys (conv u) [.string u.f0, .slice A28 u.f1.length c28] (fun _ => True) (fun k => wr.heap.size ≤ k) rfl rfl (k41_mkM _ _ _ _ HR2.out) (fun k hk => ⟨trivial, fun e => by have := VRel.own_lt HR.out k e.symm; omega⟩) (fun _ _ => trivial) HO2.out HV2.out.below HV2.out.below.size (by have := HLEN.out; omega) ?_
    intro v31 w3 hr3 hb3 hg3 hat3
    have hv31 : ∃ A31 c31, v31 = .slice A31 (ys.length + 1) c31 := by simpa using Kd.R_slice (Kd.S_R hr3)
    obtain ⟨A31, c31, rfl⟩ := hv31
    have HV3 := Aside0.mk (HV2.out.grown hg3 hr3 hb3)
    have hf3 : w3.cell? ⟨b3, 0, none⟩ = some v := (blk_cell HV3.out.out 0).trans rfl
    have hff3 : w3.frozen? ⟨b3, 0, none⟩ = false := blk_frozen HV3.out.out 0
    have HS3 := Aside0.mk (And.intro ((blk_cell HV3.out.arg 0).trans rfl : w3.cell? ⟨b1, 0, none⟩ = some (.slice (some ad) l.length c)) (And.intro hf3 (And.intro (pw_cell_below HV3.out.below Z0.out) (pw_cell_below HV3.out.below Z1.out))))
    clear hr3 hb3 hg3 hat3
    refine hK.out _ _ HS3.out (fun hHeld => ?_)
    clear hK K
    refine norm_ (a' := ?_) ?_ ?_
    rotate_left
    · show Act.put _ (some 31) _ = _
      simp only [Act.put, List.setIfInBounds_toArray, List.set_cons_zero, List.set_cons_succ]
      rfl
    refine pure_ (i := 19) (N := some 32) (v := ?_) (a' := ?_) #[true, true, true, true, true, true, true, true, true, true, true, true, true, true, true, true, true, true, true, true, false] rfl rfl (by kernel_rfl) (fun _ _ _ h => h) (Or.inl ⟨by rfl, ?_⟩) ?_ ?_
    rotate_left
    · intro w'
      go_simp
      with_reducible rfl
    rotate_left
    · simp only [Act.put, List.setIfInBounds_toArray, List.set_cons_zero, List.set_cons_succ]
      rfl
    refine last_ (i := 20) (N := none) #[true, true, true, true, true, true, true, true, true, true, true, true, true, true, true, true, true, true, true, true, true] rfl rfl (by kernel_rfl) (by decide) (fun K hK => ?_)
    refine skip_ (w1 := ?_) (by rfl) rfl ?_ ?_
    rotate_left
    · go_simp
      rfl
    refine hK.out _ _ ?_
    clear hK K
    refine done_ (by kernel_rfl) ?_
    go_wp2_with fail
    go_roundg k1
    case measure => omega
    case rel => exact ⟨i + 1, by push_cast; rfl, ⟨by omega⟩, ⟨by omega⟩, ⟨_, by rw [HTK.out]; exact HV3.out.stored (by rw [HB3.out]; omega) HB13.out (by rw [HB2.out, HB3.out]; omega)⟩⟩
  · have hz : decide ((i : Int) < (l.length : Int)) = false := decide_eq_false (by omega)
    have hR9 := HR.out
    rw [List.take_of_length_le (by omega)] at hR9
    obtain ⟨Av, cv, rfl⟩ := Kd.R_slice (Kd.S_R hR9.row)
    have HR9 := Aside0.mk hR9
    have n1' : wr.cell? ⟨b1, 1, none⟩ = some (.slice none 0 0) := (blk_cell HR9.out.arg 1).trans rfl
    have n2 : wr.cell? ⟨b3, 1, none⟩ = some (.slice none 0 0) := (blk_cell HR9.out.out 1).trans rfl
    have n4 : wr.cell? ⟨b2, 0, none⟩ = some (.slice none 0 0) := (blk_cell HR9.out.ret 0).trans rfl
    have n5 : wr.cell? ⟨b2, 1, none⟩ = some (.slice none 0 0) := (blk_cell HR9.out.ret 1).trans rfl
    have f4 : wr.frozen? ⟨b2, 0, none⟩ = false := blk_frozen HR9.out.ret 0
    have f5 : wr.frozen? ⟨b2, 1, none⟩ = false := blk_frozen HR9.out.ret 1
    clear hR9 HR
    go_wp2_with fail
    go_loopg [5] 1 (fun kq v5 w' => v5 = .int .i64 0 ∧ w' = wr)
    case atStart => exact ⟨rfl, rfl⟩
    obtain ⟨rfl, rfl⟩ := hrel
    go_wp2_with fail
    have hB2 : w.heap.size ≤ b2 := by rw [HB2.out]; omega
    have hN2 : b2 ≠ b3 := by rw [HB2.out, HB3.out]; omega
    refine bodyPost_ret (results_c rfl _ _ b2 57 #[.slice Av l.length cv, .slice none 0 0] (0, 0) _ rfl (blk_put (cs := #[.slice Av l.length cv, .slice none 0 0]) (blk_put (cs := #[.slice none 0 0, .slice none 0 0]) HR9.out.ret 0 _ rfl) 1 _ rfl) Try.underlying57 rfl (by kernel_rfl)) rfl ?_
    refine ⟨_, rfl, ?_, Below.setCell (p := ⟨b2, 1, none⟩) (Below.setCell (p := ⟨b2, 0, none⟩) HR9.out.below hB2 _) hB2 _⟩
    have hlm : (l.map conv).length = l.length := by simp
    have HRW := HR9.out.row
    rw [hlm] at HRW
    have h1 := Kd.S_set HRW HR9.out.ret (by decide) 0 (.slice Av l.length cv)
    exact Kd.S_set h1 (blk_put (cs := #[.slice none 0 0, .slice none 0 0]) HR9.out.ret 0 (.slice Av l.length cv) rfl) (by decide) 1 (.slice none 0 0)

def quirelaw15_vocabs.f (l : List S33) : Option (List S41) := if l.length ≤ 3000000 ∧ ∀ v ∈ l, v.f1.length ≤ 3000000 then some (l.map conv) else none
set_option maxHeartbeats 8000000 in
set_option maxRecDepth 100000 in
theorem quirelaw15_vocabs.calls (A0 : Option Addr) (c0 : Nat) (l0 : List S33) (r : List S41) (w : World) (hr0 : Kd.C k33 w A0 l0.length l0) (hc0 : l0.length ≤ c0) (h : quirelaw15_vocabs.f l0 = some r) :
    Calls Try.prog 9 #[.slice A0 l0.length c0] w fun e w' => ∃ v0_ : Value, e = .returned v0_ ∧ Kd.S k41 41 w' w.heap.size (fun _ => True) v0_ r ∧ Below w.heap.size w w' := by
  unfold quirelaw15_vocabs.f at h
  split at h
  · rename_i hb
    cases h
    have HA := Aside0.mk (api_calls w A0 c0 l0 hr0 hb.1 hb.2)
    clear hr0 hc0 hb
    have hfd : ∀ (A : Option Addr) (n c : Nat) (w : World), (Instr.field 57 (.agg #[.slice A n c, .slice none 0 0]) 0).run Try.prog w = .ok (.slice A n c) w := fun _ _ _ _ => by kernel_rfl
    go_enter Try.func9, Try.ntmps9
    go_wp2_with (go_at_call 23; refine HA.out.mono ?_; rintro e w1 ⟨v, rfl, hs, hb⟩; obtain ⟨Av, cv, rfl⟩ := Kd.R_slice (Kd.S_R hs); have HS := Aside0.mk hs; have HB := Aside0.mk hb; clear hs hb)
    go_ret
    have HS2 := HS.out
    rw [List.length_map] at HS2
    exact ⟨_, rfl, HS2, HB.out⟩
  · cases h
end Go.Proofs.Ytdllpgeagdckmaa.Q
