/- The walk of SumKeeps over the printed contracts and the contract of Book.Apart. -/
import Derived.Test.YtbhiepfejlhbnaaQ
import Derived.Test.YtbhiepfejlhbnaaHBook
import Derived.Test.YtbhiepfejlhbnaaPieces
namespace Go.Proofs.Ytbhiepfejlhbnaa.Q
open Go.RowKit Go.Proofs.YtbhiepfejlhbnaaW.PrintWords Go.Proofs.YtbhiepfejlhbnaaW.PrintLast Go.Proofs.YtbhiepfejlhbnaaW.PrintMore Go.Proofs.Ytbhiepfejlhbnaa.ApartKit Go.Proofs.Ytbhiepfejlhbnaa.HApart
set_option linter.unusedVariables false
set_option linter.unusedSimpArgs false

theorem C_of_own {w : World} {base e N c : Nat} {k : IntKind} {A : Option Addr} {cs : List Value} {xs : List Int} (h : w.ownsRow base e 1 (.slice A N c) N cs) (hx : ∀ (j : Nat) (x : Int), xs[j]? = some x → cs[j]? = some (Value.int k x)) (hl : xs.length ≤ N) (hm : N ≤ 1000000000000) :
    (Kd.int k).C w A xs.length xs := by
  refine ⟨rfl, by omega, fun hn => ?_⟩
  obtain ⟨b, cap, hv, _, _⟩ := own_head h (by omega)
  simp only [Value.slice.injEq] at hv
  obtain ⟨rfl, -, rfl⟩ := hv
  refine ⟨_, rfl, fun j p hj => ⟨[.int k p], rfl, rfl, fun i u hu => ?_⟩⟩
  cases i with
  | zero =>
    simp only [List.getElem?_cons_zero, Option.some.injEq] at hu
    subst hu
    have hsz : (Kd.int k).sz = 1 := rfl
    rw [hsz, Nat.mul_one, Nat.add_zero, Addr.add_lit, Nat.zero_add]
    exact own_cell h (hx j p hj)
  | succ i => simp at hu

theorem own_lit (w : World) (base : Nat) (cs : Array Value) (e : Nat) (hb : base ≤ w.heap.size) (hc : cs.size ≤ maxLen) : (w.alloc (.cells cs e)).ownsRow base e 1 (.slice (some ⟨w.heap.size, 0, none⟩) cs.size cs.size) cs.size cs.toList :=
  ⟨by simp, .inr ⟨w.heap.size, cs.size, cs, rfl, hb, heap_alloc_new w _, Nat.le_refl _, hc, by simp, by rw [Nat.mul_one, ← Array.length_toList, List.take_length]⟩⟩

theorem own_below {w w' : World} {base E n : Nat} {v : Value} {xs : List Value} (h : w.ownsRow base E 1 v n xs) (hb : Below w.heap.size w w') : w'.ownsRow base E 1 v n xs := own_stay h (fun b hv => hb.block b (own_lt h b hv))
theorem own_reads {w : World} {base e : Nat} {k : IntKind} {v : Value} {xs : List Int} (h : w.ownsRow base e 1 v xs.length (xs.map (Value.int k))) : ∃ A c, v = .slice A xs.length c ∧ xs.length ≤ c ∧ (Kd.int k).C w A xs.length xs := Kd.R_reads (R_of_own (ok := fun _ => True) h (fun _ _ => trivial))

theorem own_far {w : World} {base E E' n g : Nat} {v : Value} {xs : List Value} {cs : Array Value} (h : w.ownsRow base E 1 v n xs) (hg : w.heap[g]? = some (.cells cs E' (0, 0))) (hne : E ≠ E') (j : Nat) (u : Value) : (w.setCell ⟨g, j, none⟩ u).ownsRow base E 1 v n xs := own_stay h (fun b hb => by
  obtain ⟨cs', hc⟩ := own_typed h b hb
  refine Below.heap_setCell w _ u b (fun e => ?_)
  have e' : b = g := e
  rw [e', hg] at hc
  simp at hc
  exact hne hc.2.symm)

/-- A book that holds lists of bytes alone. -/
def BookAt (w : World) (g : Nat) (bv : Value) : Prop := w.heap[g]? = some (.cells #[.slice none 0 0, .slice none 0 0, bv, .slice none 0 0] 46 (0, 0))
theorem BookAt.cell {w : World} {g : Nat} {bv : Value} (h : BookAt w g bv) : w.cell? ⟨g, 2, none⟩ = some bv ∧ w.frozen? ⟨g, 2, none⟩ = false := ⟨by simp [World.cell?, show w.heap[g]? = _ from h], by simp [World.frozen?, show w.heap[g]? = _ from h]⟩
theorem BookAt.set {w : World} {g : Nat} {bv : Value} (h : BookAt w g bv) (v : Value) : BookAt (w.setCell ⟨g, 2, none⟩ v) g v := by
  show (w.setCell ⟨g, 2, none⟩ v).heap[g]? = _
  simp [World.setCell, Array.getElem?_modify, show w.heap[g]? = _ from h]
theorem BookAt.grown {w w' : World} {g : Nat} {bv : Value} {row : Option Nat} (h : BookAt w g bv) (hg : w.grownBy w' row) (hr : row ≠ some g) : BookAt w' g bv := (hg.block g (blk_lt h) (fun e => hr e.symm)).trans h
theorem BookAt.ne {w : World} {g base E n : Nat} {bv v : Value} {xs : List Value} (h : BookAt w g bv) (ho : w.ownsRow base E 1 v n xs) (hne : E ≠ 46) : v.ownBlock ≠ some g := fun e => by
  obtain ⟨cs, hc⟩ := own_typed ho g e
  rw [show w.heap[g]? = _ from h] at hc
  simp at hc
  exact hne hc.2.symm

/-- While lists are being put into a book: what was there ahead of it stays. -/
structure Booking (w w0 W : World) (bv : Value) (n : Nat) (L : List Value) : Prop where
  below : Below w.heap.size w W
  book : BookAt W (w0.heap.size + 1) bv
  row : W.ownsRow w.heap.size 23 1 bv n L
  low : ∀ b, bv.ownBlock = some b → w0.heap.size ≤ b
  keep : ∀ b, b < w0.heap.size → W.heap[b]? = w0.heap[b]?
  size : w0.heap.size ≤ W.heap.size
  base : w.heap.size ≤ w0.heap.size

theorem Apt.ones {w : World} {base E : Nat} {ok : Nat → Prop} {L : List Value} (h : Apt w base E ok L) : ∀ y ∈ L, y.oneCell' = true := fun y hy => by
  obtain ⟨n, f, _, h⟩ := h
  obtain ⟨k, hk⟩ := List.getElem?_of_mem hy
  obtain ⟨⟨xs, ho⟩, _⟩ := h k y hk
  obtain ⟨A, c, rfl⟩ := own_val ho
  rfl

theorem Booking.first {w w0 : World} (hb : Below w.heap.size w w0) (cs : Array Value) (hc : cs.size ≤ maxLen) :
    Booking w w0 ((w0.alloc (.cells cs 23)).alloc (.cells #[.slice none 0 0, .slice none 0 0, .slice (some ⟨w0.heap.size, 0, none⟩) cs.size cs.size, .slice none 0 0] 46))
      (.slice (some ⟨w0.heap.size, 0, none⟩) cs.size cs.size) cs.size cs.toList where
  below := below_alloc (below_alloc hb _) _
  book := by
    have := heap_alloc_new (w0.alloc (.cells cs 23)) (.cells #[.slice none 0 0, .slice none 0 0, .slice (some ⟨w0.heap.size, 0, none⟩) cs.size cs.size, .slice none 0 0] 46)
    simpa [BookAt] using this
  row := own_alloc (own_lit w0 _ cs _ hb.size hc) _
  low := fun b hv => by
    have : w0.heap.size = b := by simpa [Value.ownBlock] using hv
    omega
  keep := fun b hv => (Below.heap_alloc _ _ b (by simp; omega)).trans (Below.heap_alloc _ _ b hv)
  size := by simp; omega
  base := hb.size

theorem Booking.next {w w0 W w' : World} {bv v' : Value} {n m : Nat} {L news : List Value} (h : Booking w w0 W bv n L) (ho : w'.ownsRow w.heap.size 23 1 v' m news)
    (hg : W.grownBy w' bv.ownBlock) (hb : v'.ownBlock = bv.ownBlock ∨ v'.ownBlock = some W.heap.size) : Booking w w0 (w'.setCell ⟨w0.heap.size + 1, 2, none⟩ v') v' m news := by
  have hk : BookAt w' (w0.heap.size + 1) bv := h.book.grown hg (h.book.ne h.row (by decide))
  have hlo : ∀ b, bv.ownBlock = some b → w.heap.size ≤ b := fun b e => own_base h.row b e
  refine ⟨?_, hk.set v', own_far ho hk (by decide) 2 v', fun b e => ?_, fun b hb2 => ?_, ?_, h.base⟩
  · have h1 := pw_below_grown h.below _ h.below.size hg hlo
    refine pw_below_grown h1 (some (w0.heap.size + 1)) h1.size ⟨rfl, rfl, rfl, by simp, fun k _ hk => Below.heap_setCell w' _ v' k (fun e => hk (by rw [e]))⟩ (fun k e => ?_)
    cases e
    have := h.base
    omega
  · rcases hb with e1 | e1
    · exact h.low b (e1 ▸ e)
    · rw [e1] at e
      cases e
      exact h.size
  · rw [Below.heap_setCell w' _ v' b (by show b ≠ w0.heap.size + 1; omega), hg.block b (Nat.lt_of_lt_of_le hb2 h.size) (fun e => by
      have := h.low b e.symm
      omega)]
    exact h.keep b hb2
  · simpa using Nat.le_trans h.size hg.size

theorem own_head2 {w : World} {base E n : Nat} {v : Value} {xs : List Value} (h : w.ownsRow base E 1 v n xs) (hn : 0 < n) : ∃ b cap, v = .slice (some ⟨b, 0, none⟩) n cap ∧ base ≤ b ∧ b < w.heap.size ∧ n ≤ cap ∧ cap ≤ maxLen := by
  rcases h.2 with ⟨_, h0⟩ | ⟨g, cap, cur, rfl, hb, hh, h3, h4, _⟩
  · omega
  · exact ⟨g, cap, rfl, hb, blk_lt hh, h3, h4⟩

set_option maxHeartbeats 4000000 in
set_option maxRecDepth 100000 in
theorem sumKeeps_walk (k : Nat) (w : World) (A0 : Option Addr) (c0 : Nat) (l0 : List (List Int)) (h0 : (Kd.slice 5 (Kd.int .u8)).C w A0 l0.length l0) (hc0 : l0.length ≤ c0)
    (A1 : Option Addr) (c1 : Nat) (l1 : List Int) (h1 : (Kd.int .u8).C w A1 l1.length l1) (hc1 : l1.length ≤ c1) (J : List Int) (z : List (List Int)) (e sm r1 r2 r3 : Int)
    (haw : quirelaw02_awake.f k = some true) (hows : quirelaw02_owns.f k l0 = some l0) (how : quirelaw02_own.f l1 = some l1) (hj : sum_Join.f k l0 = some J) (hsum : sum_Sum.f k l1 = some sm) (hrd : sum_Read.f k l1 0 = some (r1, r2, r3))
    (hsp : sum_Split.f k l1 = some (z, e)) (hsl : quireref01_SameLists.f k l0 l0 = some true) (hsb : quireref01_SameBytes.f k l1 l1 = some true) (hsj : quireref01_SameBytes.f k J J = some true) (hsz : quireref01_SameLists.f k z z = some true)
    (hez : e = 0 ∨ z = []) (hl0 : l0.length ≤ 2000000) (hl1 : l1.length ≤ 2000000) (hlz : z.length ≤ 2000000) (hx0 : ∀ x ∈ l0, x.length ≤ 1000000000) (hxz : ∀ x ∈ z, x.length ≤ 1000000000) (hlJ : J.length ≤ 1000000000) :
    Calls Try.prog 5 #[.slice A0 l0.length c0, .slice A1 l1.length c1] w fun e w' => e = .returned (.bool true) ∧ Below w.heap.size w w' := by
  have HC0 := Aside0.mk h0
  have HC1 := Aside0.mk h1
  have HLE0 := Aside0.mk hc0
  have HLE1 := Aside0.mk hc1
  have HAW := Aside0.mk haw
  have HOWS := Aside0.mk hows
  have HOW := Aside0.mk how
  have HJ := Aside0.mk hj
  have HSUM := Aside0.mk hsum
  have HRD := Aside0.mk hrd
  have HSP := Aside0.mk hsp
  have HSL := Aside0.mk hsl
  have HSB := Aside0.mk hsb
  have HSJ := Aside0.mk hsj
  have HSZ := Aside0.mk hsz
  have HEZ := Aside0.mk hez
  have HX0 := Aside0.mk hx0
  have HXZ := Aside0.mk hxz
  clear h0 h1 hc0 hc1 haw hows how hj hsum hrd hsp hsl hsb hsj hsz hez hx0 hxz
  go_enter Try.func5, Try.ntmps5
  go_wp2_with fail
  refine (quirelaw02_awake.calls k true w HAW.out).mono ?_
  rintro e1 w1 ⟨rfl, hb1⟩
  have HB1 := Aside0.mk hb1
  clear hb1
  go_wp2_with fail
  refine (quirelaw02_owns.calls k A0 c0 l0 l0 w1 (Kd.C_below HC0.out HB1.out) HLE0.out HOWS.out).mono ?_
  rintro e2 w2 ⟨vin, rfl, hin, hb2⟩
  have HB2 := Aside0.mk (below_step HB1.out hb2)
  have HS12 := Aside0.mk hb2.size
  have HIN := Aside0.mk (S_between hin HB1.out.size)
  clear hin hb2
  go_wp2_with fail
  refine (quirelaw02_own.calls A1 c1 l1 l1 w2 (Kd.C_below HC1.out HB2.out) HLE1.out HOW.out).mono ?_
  rintro e3 w3 ⟨vf, rfl, hf, hb3⟩
  have HB3 := Aside0.mk (below_step HB2.out hb3)
  have HS23 := Aside0.mk hb3.size
  have HIN3 := Aside0.mk (Kd.S_below HIN.out hb3)
  have HF3 := Aside0.mk (own_of_R (R_between (base := 0) hf HB2.out.size))
  clear hf hb3 HIN
  go_wp2_with ((with_reducible refine gate_builtin (b := .append) (xs := #[.tmp 19, .tmp 20]) rfl ?_); at_builtin; refine wpList_append_row (w3.alloc _) rfl (.tmp 19) (.tmp 20) _ rfl w.heap.size w3.heap.size 5 (.int .u8 0) 1 Try.underlying23 infoB rfl vf _ l1.length 2 _ _ rfl (own_alloc HF3.out.1 _) rfl (own_lit w3 w3.heap.size _ 5 (Nat.le_refl _) (by decide)) ?aC ?aM ?aB ?aS ?_; (case aC => (intro y hy; simp at hy; rcases hy with rfl | rfl <;> rfl)); (case aM => (simp only [maxLen]; omega)); (case aB => omega); (case aS => exact Nat.le_trans HB3.out.size (by simp)); intro v' w4 ho hg hbl; have HO4 := Aside0.mk ho; have HG4 := Aside0.mk hg; have HBL4 := Aside0.mk hbl; clear ho hg hbl)
  have hb4 : Below w.heap.size w w4 := pw_below_grown (below_alloc HB3.out _) _ (Nat.le_trans HB3.out.size (by simp)) HG4.out (fun b hb => Nat.le_trans HB2.out.size (HF3.out.2 b hb).1)
  have hsz4 : w3.heap.size ≤ w4.heap.size := Nat.le_trans (by simp) HG4.out.size
  have hin4 : Kd.S (Kd.slice 5 (Kd.int .u8)) 23 w4 w.heap.size (fun b => w1.heap.size ≤ b ∧ b < w2.heap.size) vin l0 := Kd.S_grown (Kd.S_alloc HIN3.out _) HG4.out (fun b hb e => by
    have := (HF3.out.2 b e.symm).1
    omega)
  have hbl4 : ∀ b, v'.ownBlock = some b → w2.heap.size ≤ b ∧ b < w4.heap.size := fun b hb => by
    refine ⟨?_, own_lt HO4.out b hb⟩
    rcases HBL4.out with e | e
    · exact (HF3.out.2 b (e ▸ hb)).1
    · rw [e] at hb
      have h1 : (w3.alloc (.cells #[.int .u8 71, .int .u8 72] 5)).heap.size = b := by simpa using hb
      have h2 : w3.heap.size ≤ b := by rw [← h1]; simp
      exact Nat.le_trans HS23.out h2
  obtain ⟨bf, capf, rfl, hbf1, hbf2, hcf, hcm⟩ := own_head2 HO4.out (by omega)
  obtain ⟨Ai, ci, rfl⟩ := Kd.S_slice hin4
  have hff : w2.heap.size ≤ bf := (hbl4 bf rfl).1
  have HFF := Aside0.mk hff
  have hFL := Aside0.mk hbf2
  have HB4 := Aside0.mk hb4
  have HIN4 := Aside0.mk hin4
  have HSZ4 := Aside0.mk hsz4
  clear hff hb4 hin4 hbl4 HIN3 HF3 hsz4 HG4 hbf1 hbf2
  have hfc : (Kd.int .u8).C w4 (some ⟨bf, 0, none⟩) l1.length l1 := C_of_own HO4.out (fun j x hj => by
    rw [List.getElem?_append_left (by simpa using (List.getElem?_eq_some_iff.1 hj).1), List.getElem?_map, hj]; rfl) (by omega) (by omega)
  have HFC := Aside0.mk hfc
  clear hfc
  have hcf1 : l1.length ≤ capf := by omega
  refine (sum_Join.calls k Ai ci l0 J w4 (Kd.S_reads' HIN4.out).2.2 (Kd.S_reads' HIN4.out).2.1 HJ.out).mono ?_
  rintro e5 w5 ⟨vx, rfl, hx5, hb5⟩
  have HX5 := Aside0.mk (own_of_R (R_between (base := 0) (base' := w.heap.size) hx5 HB4.out.size))
  have HB5 := Aside0.mk hb5
  clear hb5 hx5
  go_wp2_with fail
  refine (sum_Join.calls k Ai ci l0 J w5 (Kd.C_below (Kd.S_reads' HIN4.out).2.2 HB5.out) (Kd.S_reads' HIN4.out).2.1 HJ.out).mono ?_
  rintro e6 w6 ⟨vy, rfl, hx6, hb6⟩
  have HX6 := Aside0.mk (own_of_R (R_between (base := 0) (base' := w.heap.size) hx6 (below_step HB4.out HB5.out).size))
  have HB6 := Aside0.mk hb6
  clear hb6 hx6
  go_wp2_with fail
  refine (sum_Sum.calls k (some ⟨bf, 0, none⟩) capf l1 sm w6 (Kd.C_below (Kd.C_below HFC.out HB5.out) HB6.out) hcf1 HSUM.out).mono ?_
  rintro e7 w7 ⟨rfl, hb7⟩
  replace hb7 := hb7.below
  have HB7 := Aside0.mk hb7
  clear hb7
  go_wp2_with fail
  refine (sum_Read.calls k (some ⟨bf, 0, none⟩) capf l1 0 r1 r2 r3 w7 (Kd.C_below (Kd.C_below (Kd.C_below HFC.out HB5.out) HB6.out) HB7.out) hcf1 HRD.out).mono ?_
  rintro e8 w8 ⟨rfl, hb8⟩
  replace hb8 := hb8.below
  have HB8 := Aside0.mk hb8
  clear hb8
  go_wp2_with fail
  have hfc8 : (Kd.int .u8).C w8 (some ⟨bf, 0, none⟩) l1.length l1 := Kd.C_below (Kd.C_below (Kd.C_below (Kd.C_below HFC.out HB5.out) HB6.out) HB7.out) HB8.out
  have HFC8 := Aside0.mk hfc8
  clear hfc8
  refine (sum_Split.calls k (some ⟨bf, 0, none⟩) capf l1 z e w8 HFC8.out hcf1 HSP.out).mono ?_
  rintro e9 w9 ⟨vp, rfl, hp9, hb9⟩
  have HB9 := Aside0.mk hb9
  have HP9 := Aside0.mk hp9
  clear hb9 hp9
  go_wp2_with fail
  refine (sum_Split.calls k (some ⟨bf, 0, none⟩) capf l1 z e w9 (Kd.C_below HFC8.out HB9.out) hcf1 HSP.out).mono ?_
  rintro e10 w10 ⟨vq, rfl, hq10, hb10⟩
  have HB10 := Aside0.mk hb10
  have HQ10 := Aside0.mk hq10
  clear hb10 hq10
  go_wp2_with fail
  have hin10 := Kd.S_below (Kd.S_below (Kd.S_below (Kd.S_below (Kd.S_below (Kd.S_below HIN4.out HB5.out) HB6.out) HB7.out) HB8.out) HB9.out) HB10.out
  have hf10 := own_below (own_below (own_below (own_below (own_below (own_below HO4.out HB5.out) HB6.out) HB7.out) HB8.out) HB9.out) HB10.out
  have hx10 := own_below (own_below (own_below (own_below (own_below HX5.out.1 HB6.out) HB7.out) HB8.out) HB9.out) HB10.out
  have hy10 := own_below (own_below (own_below (own_below HX6.out.1 HB7.out) HB8.out) HB9.out) HB10.out
  have hB8 : Below w.heap.size w w8 := below_step (below_step (below_step (below_step HB4.out HB5.out) HB6.out) HB7.out) HB8.out
  have hB9 : Below w.heap.size w w9 := below_step hB8 HB9.out
  have hp10 := Kd.S_below (S_between (base' := w.heap.size) HP9.out hB8.size) HB10.out
  have hq10 := S_between (base' := w.heap.size) HQ10.out hB9.size
  have hB10 : Below w.heap.size w w10 := below_step hB9 HB10.out
  have o1 := HB5.out.size
  have o2 := HB6.out.size
  have o3 := HB7.out.size
  have o4 := HB8.out.size
  have o5 := HB9.out.size
  obtain ⟨Ax, cx, rfl, hcx, hcxC⟩ := own_reads hx10
  obtain ⟨Ay, cy, rfl, hcy, hcyC⟩ := own_reads hy10
  obtain ⟨Ap, cp, rfl⟩ := Kd.S_slice hp10
  obtain ⟨Aq, cq, rfl⟩ := Kd.S_slice hq10
  have HIN := Aside0.mk hin10
  have HF := Aside0.mk hf10
  have HX := Aside0.mk hx10
  have HY := Aside0.mk hy10
  have HP := Aside0.mk hp10
  have HQ := Aside0.mk hq10
  have HB := Aside0.mk hB10
  have HXF := Aside0.mk HX5.out.2
  have HYF := Aside0.mk HX6.out.2
  have HCX := Aside0.mk hcx
  have HCY := Aside0.mk hcy
  have HCXC := Aside0.mk hcxC
  have HCYC := Aside0.mk hcyC
  have HORD := Aside0.mk (And.intro HSZ4.out (And.intro o1 (And.intro o2 (And.intro o3 (And.intro o4 o5)))))
  clear hin10 hf10 hx10 hy10 hp10 hq10 hB8 hB9 hB10 hcx hcy hcxC hcyC o1 o2 o3 o4 o5 HX5 HX6 HP9 HQ10 HIN4 HO4 HB5 HB6 HB7 HB8 HB9 HFC HFC8 HBL4
  refine (quireref01_SameLists.calls k Ai ci l0 A0 c0 l0 true w10 (Kd.S_reads' HIN.out).2.2 (Kd.S_reads' HIN.out).2.1 (Kd.C_below HC0.out HB.out) HLE0.out HSL.out).mono ?_
  rintro e11 w11 ⟨rfl, hb11⟩
  replace hb11 := hb11.below
  have HB11 := Aside0.mk hb11
  have hf11 := own_below HF.out hb11
  clear hb11
  have HF11 := Aside0.mk hf11
  clear hf11
  go_wp2_with fail
  refine (quireref01_SameBytes.calls k (some ⟨bf, 0, none⟩) capf l1 A1 c1 l1 true w11 (C_of_own HF11.out (fun j x hj => by
    rw [List.getElem?_append_left (by simpa using (List.getElem?_eq_some_iff.1 hj).1), List.getElem?_map, hj]; rfl) (by omega) (by omega)) hcf1 (Kd.C_below (Kd.C_below HC1.out HB.out) HB11.out) HLE1.out HSB.out).mono ?_
  rintro e12 w12 ⟨rfl, hb12⟩
  replace hb12 := hb12.below
  have HF12 := Aside0.mk (own_below HF11.out hb12)
  have HB12 := Aside0.mk (below_step HB11.out hb12)
  clear hb12
  have c71 : w12.cell? ⟨bf, l1.length, none⟩ = some (.int .u8 71) := own_cell HF12.out (by rw [List.getElem?_append_right (by simp)]; simp)
  have c72 : w12.cell? ⟨bf, l1.length + 1, none⟩ = some (.int .u8 72) := own_cell HF12.out (by rw [List.getElem?_append_right (by simp)]; simp)
  go_wp2_with fail
  refine (quireref01_SameBytes.calls k Ax cx J Ay cy J true w12 (Kd.C_below HCXC.out HB12.out) HCX.out (Kd.C_below HCYC.out HB12.out) HCY.out HSJ.out).mono ?_
  rintro e13 w13 ⟨rfl, hb13⟩
  have HB13 := Aside0.mk (below_step HB12.out hb13.below)
  clear hb13 c71 c72
  go_wp2_with fail
  refine (quireref01_SameLists.calls k Ap cp z Aq cq z true w13 (Kd.C_below (Kd.S_reads' HP.out).2.2 HB13.out) (Kd.S_reads' HP.out).2.1 (Kd.C_below (Kd.S_reads' HQ.out).2.2 HB13.out) (Kd.S_reads' HQ.out).2.1 HSZ.out).mono ?_
  rintro e14 w14 ⟨rfl, hb14⟩
  have HB14 := Aside0.mk (below_step HB13.out hb14.below)
  clear hb14
  obtain ⟨Li, hLi, hoi, hki, hai⟩ := S_apt (Kd.S_below HIN.out HB14.out) HX0.out
  obtain ⟨Lp, hLp, hop, hkp, hap⟩ := S_apt (Kd.S_below HP.out HB14.out) HXZ.out
  obtain ⟨Lq, hLq, hoq, hkq, haq⟩ := S_apt (Kd.S_below HQ.out HB14.out) HXZ.out
  rw [hLi] at hoi
  rw [hLp] at hop
  rw [hLq] at hoq
  have HOI := Aside0.mk hoi
  have HOP := Aside0.mk hop
  have HOQ := Aside0.mk hoq
  have HAI := Aside0.mk hai
  have HAP := Aside0.mk hap
  have HAQ := Aside0.mk haq
  have HLI := Aside0.mk hLi
  have HLP := Aside0.mk hLp
  have HLQ := Aside0.mk hLq
  clear hoi hop hoq hki hkp hkq hai hap haq hLi hLp hLq
  go_upto_region 14 with fail
  have hbk := Booking.first (below_step HB.out HB14.out) #[.slice Ax J.length cx, .slice Ay J.length cy, .slice (some ⟨bf, 0, none⟩) (l1.length + 2) capf] (by simp [maxLen])
  have hb0 := hbk.book.cell
  generalize hw15 : (w14.alloc (Obj.cells #[.slice Ax J.length cx, .slice Ay J.length cy, .slice (some ⟨bf, 0, none⟩) (l1.length + 2) capf] 23)).alloc (Obj.cells #[.slice none 0 0, .slice none 0 0, .slice (some ⟨w14.heap.size, 0, none⟩) 3 3, .slice none 0 0] 46) = w15 at *
  have HBK15 := Aside0.mk hbk
  clear hbk hw15
  obtain ⟨hb0, hb0f⟩ := hb0
  go_upto_region 15 with ((with_reducible refine gate_builtin (b := .append) (xs := #[.tmp 100, .tmp 101]) rfl ?_); at_builtin; refine wpList_append_row w15 rfl (.tmp 100) (.tmp 101) _ rfl w.heap.size w.heap.size 23 (.slice none 0 0) 24 Try.underlying22 infoBS rfl _ _ 3 l0.length _ Li rfl HBK15.out.row rfl (own_stay HOI.out (fun b hb => HBK15.out.keep b (own_lt HOI.out b hb))) ?aC ?aM ?aB ?aS ?_; (case aC => exact Apt.ones HAI.out); (case aM => (simp only [maxLen]; omega)); (case aB => omega); (case aS => exact HBK15.out.below.size); intro v16 w16 ho hg hbl; obtain ⟨A16, c16, rfl⟩ := own_val ho; obtain ⟨hcb, hcbf⟩ := (HBK15.out.book.grown hg (HBK15.out.book.ne HBK15.out.row (by decide))).cell; have HOw16 := Aside0.mk ho; have HGw16 := Aside0.mk hg; have HBLw16 := Aside0.mk hbl; clear ho hg hbl)
  clear hb0 hb0f
  have hbk17 := HBK15.out.next HOw16.out HGw16.out HBLw16.out
  generalize hw17 : w16.setCell ⟨w14.heap.size + 1, 2, none⟩ (Value.slice A16 (3 + l0.length) c16) = w17 at *
  have HBK17 := Aside0.mk hbk17
  clear hbk17 hw17 hcb hcbf HOw16 HGw16 HBLw16
  obtain ⟨hb0, hb0f⟩ := HBK17.out.book.cell
  go_upto_region 16 with ((with_reducible refine gate_builtin (b := .append) (xs := #[.tmp 105, .tmp 106]) rfl ?_); at_builtin; refine wpList_append_row w17 rfl (.tmp 105) (.tmp 106) _ rfl w.heap.size w.heap.size 23 (.slice none 0 0) 24 Try.underlying22 infoBS rfl _ _ (3 + l0.length) z.length _ Lp rfl HBK17.out.row rfl (own_stay HOP.out (fun b hb => HBK17.out.keep b (own_lt HOP.out b hb))) ?aC ?aM ?aB ?aS ?_; (case aC => exact Apt.ones HAP.out); (case aM => (simp only [maxLen]; omega)); (case aB => omega); (case aS => exact HBK17.out.below.size); intro v18 w18 ho hg hbl; obtain ⟨A18, c18, rfl⟩ := own_val ho; obtain ⟨hcb, hcbf⟩ := (HBK17.out.book.grown hg (HBK17.out.book.ne HBK17.out.row (by decide))).cell; have HOw18 := Aside0.mk ho; have HGw18 := Aside0.mk hg; have HBLw18 := Aside0.mk hbl; clear ho hg hbl)
  clear hb0 hb0f
  have hbk19 := HBK17.out.next HOw18.out HGw18.out HBLw18.out
  generalize hw19 : w18.setCell ⟨w14.heap.size + 1, 2, none⟩ (Value.slice A18 (3 + l0.length + z.length) c18) = w19 at *
  have HBK19 := Aside0.mk hbk19
  clear hbk19 hw19 hcb hcbf HOw18 HGw18 HBLw18
  obtain ⟨hb0, hb0f⟩ := HBK19.out.book.cell
  go_upto_region 17 with ((with_reducible refine gate_builtin (b := .append) (xs := #[.tmp 110, .tmp 111]) rfl ?_); at_builtin; refine wpList_append_row w19 rfl (.tmp 110) (.tmp 111) _ rfl w.heap.size w.heap.size 23 (.slice none 0 0) 24 Try.underlying22 infoBS rfl _ _ (3 + l0.length + z.length) z.length _ Lq rfl HBK19.out.row rfl (own_stay HOQ.out (fun b hb => HBK19.out.keep b (own_lt HOQ.out b hb))) ?aC ?aM ?aB ?aS ?_; (case aC => exact Apt.ones HAQ.out); (case aM => (simp only [maxLen]; omega)); (case aB => omega); (case aS => exact HBK19.out.below.size); intro v20 w20 ho hg hbl; obtain ⟨A20, c20, rfl⟩ := own_val ho; obtain ⟨hcb, hcbf⟩ := (HBK19.out.book.grown hg (HBK19.out.book.ne HBK19.out.row (by decide))).cell; have HOw20 := Aside0.mk ho; have HGw20 := Aside0.mk hg; have HBLw20 := Aside0.mk hbl; clear ho hg hbl)
  clear hb0 hb0f
  have hbk21 := HBK19.out.next HOw20.out HGw20.out HBLw20.out
  generalize hw21 : w20.setCell ⟨w14.heap.size + 1, 2, none⟩ (Value.slice A20 (3 + l0.length + z.length + z.length) c20) = w21 at *
  have HBK21 := Aside0.mk hbk21
  clear hbk21 hw21 hcb hcbf HOw20 HGw20 HBLw20
  obtain ⟨hb0, hb0f⟩ := HBK21.out.book.cell
  go_wp2_with fail
  have hx14 := Apt.one (own_below HX.out HB14.out) hlJ HXF.out
  have hy14 := Apt.one (own_below HY.out HB14.out) hlJ HYF.out
  have hf14 := Apt.one (ok := fun b => b = bf) (own_below HF.out HB14.out) (by omega) (fun b hb => by simpa [Value.ownBlock] using hb.symm)
  obtain ⟨o1, o2, o3, o4, o5, o6⟩ := HORD.out
  have hbfl := hFL.out
  have hs12 := HS12.out
  have hs23 := HS23.out
  have hff := HFF.out
  have hapt := Apt.append (Apt.append (Apt.append (Apt.append (Apt.append hx14 hy14 (ok := fun b => w4.heap.size ≤ b ∧ b < w6.heap.size) (fun b h1 h2 => by omega) (fun b h => by omega) (fun b h => by omega))
    hf14 (ok := fun b => w2.heap.size ≤ b ∧ b < w6.heap.size) (fun b h1 h2 => by omega) (fun b h => by omega) (fun b h => by omega))
    HAI.out (ok := fun b => w1.heap.size ≤ b ∧ b < w6.heap.size) (fun b h1 h2 => by omega) (fun b h => by omega) (fun b h => by omega))
    HAP.out (ok := fun b => w1.heap.size ≤ b ∧ b < w9.heap.size) (fun b h1 h2 => by omega) (fun b h => by omega) (fun b h => by omega))
    HAQ.out (ok := fun b => True) (fun b h1 h2 => by omega) (fun b h => trivial) (fun b h => trivial)
  obtain ⟨nB, fB, hnB, hfam⟩ := (hapt.stay (w' := w21) (fun b cs hc _ => HBK21.out.keep b (blk_lt hc))).fam (fun _ => mkB 0)
  obtain ⟨nI, fI, hnI, hfI⟩ := (Apt.nil w21 w.heap.size 3 (fun _ => True)).fam (fun n => mkI n)
  have hrow := HBK21.out.row
  have hlen : ([Value.slice Ax J.length cx] ++ [Value.slice Ay J.length cy] ++ [Value.slice (some ⟨bf, 0, none⟩) (l1.length + 2) capf] ++ Li ++ Lp ++ Lq).length = 3 + l0.length + z.length + z.length := by
    simp only [List.length_append, List.length_cons, List.length_nil, HLI.out, HLP.out, HLQ.out]
  refine (book_holds w w21 HBK21.out.below (w14.heap.size + 1) (.slice none 0 0) _ [] _ nI nB fI fB HBK21.out.book ⟨rfl, .inl ⟨rfl, rfl⟩⟩ hfI (by simp) (by simp [sumN]) (by rw [hlen]; exact hrow) hfam (by rw [hlen]; omega) (fun k => Nat.le_trans (hnB k) (by omega))).mono ?_
  rintro e22 w22 ⟨rfl, hb22⟩
  have HB22 := Aside0.mk hb22
  clear hb22 hapt hfam hrow hlen hx14 hy14 hf14 hfI o1 o2 o3 o4 o5 o6 hff hbfl hs12 hs23
  by_cases he : e = 0
  · subst he
    go_wp2
    go_ret
    exact ⟨rfl, HB22.out⟩
  · have hz : z = [] := HEZ.out.resolve_left he
    subst hz
    have hed : decide (e = 0) = false := decide_eq_false he
    go_wp2
    go_ret
    exact ⟨rfl, HB22.out⟩

end Go.Proofs.Ytbhiepfejlhbnaa.Q
