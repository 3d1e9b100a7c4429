/- The walk of PagesKeeps. -/
import Derived.Test.YtbhiepfejlhbnaaHUnpack
namespace Go.Proofs.Ytbhiepfejlhbnaa.Q
open Go.RowKit Go.Proofs.YtbhiepfejlhbnaaW.PrintWords Go.Proofs.YtbhiepfejlhbnaaW.PrintLast Go.Proofs.YtbhiepfejlhbnaaW.PrintMore Go.Proofs.Ytbhiepfejlhbnaa.ApartKit Go.Proofs.Ytbhiepfejlhbnaa.HApart
set_option linter.unusedVariables false
set_option linter.unusedSimpArgs false

theorem infoBo : (Try.prog.info? 4).map (fun i => (i.zero, i.size, i.bytes)) = some (some (.bool false), 1, 1) := by kernel_rfl

theorem own_of_Rb {w : World} {base e : Nat} {v : Value} {xs : List Bool} {ok : Nat → Prop} (h : Kd.bool.R e w base ok v xs) : w.ownsRow base e 1 v xs.length (xs.map Value.bool) ∧ ∀ b, v.ownBlock = some b → ok b := by
  obtain ⟨h0, inner, ho, hr⟩ := h
  refine ⟨?_, h0⟩
  have he : inner = xs.map Value.bool := by
    apply List.ext_getElem?
    intro j
    have hl : inner.length = xs.length * 1 := hr.1
    by_cases hj : j < xs.length
    · have hp := hr.2 j (xs[j]) (List.getElem?_eq_getElem hj)
      have hp' : ((inner.drop (j * 1)).take 1) = [Value.bool xs[j]] := hp
      rw [Nat.mul_one, List.drop_eq_getElem_cons (by omega)] at hp'
      simp only [List.take_succ_cons, List.take_zero, List.cons.injEq, and_true] at hp'
      rw [List.getElem?_eq_getElem (by omega), hp', List.getElem?_map, List.getElem?_eq_getElem hj]
      rfl
    · rw [List.getElem?_eq_none (by omega), List.getElem?_eq_none (by simp; omega)]
  rw [← he]
  exact ho

theorem Cb_of_own {w : World} {base e N c b : Nat} {cs : List Value} {xs : List Bool} (h : w.ownsRow base e 1 (.slice (some ⟨b, 0, none⟩) N c) N cs) (hx : ∀ (j : Nat) (x : Bool), xs[j]? = some x → cs[j]? = some (Value.bool x)) (hm : xs.length ≤ 1000000000000) :
    Kd.bool.C w (some ⟨b, 0, none⟩) xs.length xs := by
  refine ⟨rfl, by omega, fun hn => ⟨_, rfl, fun j p hj => ⟨[.bool p], rfl, rfl, fun i u hu => ?_⟩⟩⟩
  cases i with
  | zero =>
    simp only [List.getElem?_cons_zero, Option.some.injEq] at hu
    subst hu
    have hsz : Kd.bool.sz = 1 := rfl
    rw [hsz, Nat.mul_one, Nat.add_zero, Addr.add_lit, Nat.zero_add]
    exact own_cell h (hx j p hj)
  | succ i => simp at hu

theorem Cb_adr {w : World} {A : Option Addr} {n : Nat} {xs : List Bool} (h : Kd.bool.C w A n xs) (hp : 0 < xs.length) : ∃ ad, A = some ad ∧ ∀ (j : Nat) (x : Bool), xs[j]? = some x → w.cell? (ad.add j) = some (.bool x) := by
  obtain ⟨hn, _, h2⟩ := h
  obtain ⟨ad, rfl, hc⟩ := h2 (by omega)
  refine ⟨ad, rfl, fun j x hx => ?_⟩
  obtain ⟨cs, h3, h4, h5⟩ := hc j x hx
  have h6 : cs = [.bool x] := h4
  have := h5 0 (.bool x) (by rw [h6]; rfl)
  have hsz : Kd.bool.sz = 1 := rfl
  rwa [hsz, Nat.mul_one, Nat.add_zero] at this

theorem pack_any (w : World) (id : Int) (A : Option Addr) (c : Nat) (d : List Int) (hl2 : d.length ≤ 2000000) (h0 : (Kd.int .u8).C w A d.length d) (hc0 : d.length ≤ c) (k : Nat) (s : Int) (hs : d.length ≤ 116 → sum_Sum.f k (restS id d) = some s) :
    Calls Try.prog 22 #[.int .u32 id, .slice A d.length c] w fun e w' => ∃ x ec, e = .returned (.tuple #[x, .int .i64 ec]) ∧ Below w.heap.size w w' ∧
      ((d.length ≤ 116 ∧ ec = 0 ∧ ∃ b, x = .slice (some ⟨b, 0, none⟩) 128 128 ∧ w'.ownsRow w.heap.size 5 1 x 128 ((pageS s id d).map (.int .u8))) ∨ (116 < d.length ∧ ec = 11)) := by
  by_cases hl : d.length ≤ 116
  · refine (pack_small w id A c d hl h0 hc0 k s (hs hl)).mono ?_
    rintro e w' ⟨b, rfl, ho, hb⟩
    exact ⟨_, _, rfl, hb, .inl ⟨hl, rfl, b, rfl, ho⟩⟩
  · refine (pack_large w id A c d (by omega) hl2).mono ?_
    rintro e w' ⟨rfl, rfl⟩
    exact ⟨_, _, rfl, Below.refl _ _, .inr ⟨by omega, rfl⟩⟩

/-- A book of lists of whole numbers and of bytes; what was there ahead of it stays. -/
structure Booked (w w0 W : World) (g : Nat) (iv bv : Value) (L LI : List Value) : Prop where
  below : Below w.heap.size w W
  book : W.heap[g]? = some (.cells #[iv, .slice none 0 0, bv, .slice none 0 0] 46 (0, 0))
  row : W.ownsRow w.heap.size 23 1 bv L.length L
  irow : W.ownsRow w.heap.size 50 1 iv LI.length LI
  low : ∀ b, bv.ownBlock = some b → w0.heap.size ≤ b
  keep : ∀ b, b < w0.heap.size → W.heap[b]? = w0.heap[b]?
  size : w0.heap.size ≤ W.heap.size
  base : w.heap.size ≤ w0.heap.size
  at_ : w0.heap.size ≤ g

theorem Booked.cell {w w0 W : World} {g : Nat} {iv bv : Value} {L LI : List Value} (h : Booked w w0 W g iv bv L LI) : W.cell? ⟨g, 2, none⟩ = some bv ∧ W.frozen? ⟨g, 2, none⟩ = false := ⟨by simp [World.cell?, h.book], by simp [World.frozen?, h.book]⟩
theorem Booked.ne {w w0 W : World} {g : Nat} {iv bv : Value} {L LI : List Value} (h : Booked w w0 W g iv bv L LI) {base E n : Nat} {v : Value} {xs : List Value} (ho : W.ownsRow base E 1 v n xs) (hne : E ≠ 46) : v.ownBlock ≠ some g := fun e => by
  obtain ⟨cs, hc⟩ := own_typed ho g e
  rw [h.book] at hc
  simp at hc
  exact hne hc.2.symm

theorem Booked.first {w w0 : World} (hb : Below w.heap.size w w0) (v1 v2 v3 : Value) :
    Booked w w0 (((w0.alloc (.cells #[v1, v2] 50)).alloc (.cells #[v3] 23)).alloc (.cells #[.slice (some ⟨w0.heap.size, 0, none⟩) 2 2, .slice none 0 0, .slice (some ⟨w0.heap.size + 1, 0, none⟩) 1 1, .slice none 0 0] 46))
      (w0.heap.size + 1 + 1) (.slice (some ⟨w0.heap.size, 0, none⟩) 2 2) (.slice (some ⟨w0.heap.size + 1, 0, none⟩) 1 1) [v3] [v1, v2] where
  below := below_alloc (below_alloc (below_alloc hb _) _) _
  book := by
    have := heap_alloc_new ((w0.alloc (.cells #[v1, v2] 50)).alloc (.cells #[v3] 23)) (.cells #[.slice (some ⟨w0.heap.size, 0, none⟩) 2 2, .slice none 0 0, .slice (some ⟨w0.heap.size + 1, 0, none⟩) 1 1, .slice none 0 0] 46)
    simpa using this
  row := by
    have := own_alloc (own_lit (w0.alloc (.cells #[v1, v2] 50)) w.heap.size #[v3] 23 (Nat.le_trans hb.size (by simp)) (by simp [maxLen])) (.cells #[.slice (some ⟨w0.heap.size, 0, none⟩) 2 2, .slice none 0 0, .slice (some ⟨w0.heap.size + 1, 0, none⟩) 1 1, .slice none 0 0] 46)
    simpa using this
  irow := own_alloc (own_alloc (own_lit w0 w.heap.size #[v1, v2] 50 hb.size (by simp [maxLen])) _) _
  low := fun b hv => by
    have : w0.heap.size + 1 = b := by simpa [Value.ownBlock] using hv
    omega
  keep := fun b hv => (Below.heap_alloc _ _ b (by simp; omega)).trans ((Below.heap_alloc _ _ b (by simp; omega)).trans (Below.heap_alloc _ _ b hv))
  size := by simp; omega
  base := hb.size
  at_ := by omega

theorem Booked.then_ {w w0 W W' : World} {g : Nat} {iv bv : Value} {L LI : List Value} (h : Booked w w0 W g iv bv L LI) (hb : Below W.heap.size W W') : Booked w w0 W' g iv bv L LI where
  below := below_step h.below hb
  book := (hb.block g (blk_lt h.book)).trans h.book
  row := own_below h.row hb
  irow := own_below h.irow hb
  low := h.low
  keep := fun b hb2 => (hb.block b (Nat.lt_of_lt_of_le hb2 h.size)).trans (h.keep b hb2)
  size := Nat.le_trans h.size hb.size
  base := h.base
  at_ := h.at_

/-- Lists have been put into it: but for it, and the row of its lists, all stays. -/
theorem Booked.next {w w0 W w' : World} {g : Nat} {iv bv v' : Value} {L LI L' : List Value} (h : Booked w w0 W g iv bv L LI) (ho : w'.ownsRow w.heap.size 23 1 v' L'.length L')
    (hg : W.grownBy w' bv.ownBlock) (hb : v'.ownBlock = bv.ownBlock ∨ v'.ownBlock = some W.heap.size) :
    Booked w w0 (w'.setCell ⟨g, 2, none⟩ v') g iv v' L' LI ∧ ∀ (b : Nat) (cs : Array Value) (E : Nat), W.heap[b]? = some (.cells cs E (0, 0)) → E ≠ 23 → E ≠ 46 → (w'.setCell ⟨g, 2, none⟩ v').heap[b]? = W.heap[b]? := by
  have hne : bv.ownBlock ≠ some g := h.ne h.row (by decide)
  have hk : w'.heap[g]? = some (.cells #[iv, .slice none 0 0, bv, .slice none 0 0] 46 (0, 0)) := (hg.block g (blk_lt h.book) (fun e => hne e.symm)).trans h.book
  have hlo : ∀ b, bv.ownBlock = some b → w.heap.size ≤ b := fun b e => own_base h.row b e
  have hst : ∀ (b : Nat) (cs : Array Value) (E : Nat), W.heap[b]? = some (.cells cs E (0, 0)) → E ≠ 23 → E ≠ 46 → (w'.setCell ⟨g, 2, none⟩ v').heap[b]? = W.heap[b]? := fun b cs E hc h1 h2 => by
    refine (Below.heap_setCell w' _ v' b (fun e => ?_)).trans (hg.block b (blk_lt hc) (fun e => ?_))
    · have e' : b = g := e
      rw [e', h.book] at hc
      simp at hc
      exact h2 hc.2.symm
    · obtain ⟨cs', hc'⟩ := own_typed h.row b e.symm
      rw [hc'] at hc
      simp at hc
      exact h1 hc.2.symm
  refine ⟨⟨?_, ?_, own_far ho hk (by decide) 2 v', own_stay h.irow (fun b e => ?_), fun b e => ?_, fun b hb2 => ?_, ?_, h.base, h.at_⟩, hst⟩
  · have h1 := pw_below_grown h.below _ h.below.size hg hlo
    refine pw_below_grown h1 (some g) h1.size ⟨rfl, rfl, rfl, by simp, fun k _ hk => Below.heap_setCell w' _ v' k (fun e => hk (by rw [e]))⟩ (fun k e => ?_)
    cases e
    exact Nat.le_trans h.base h.at_
  · simp [World.setCell, Array.getElem?_modify, hk]
  · obtain ⟨cs, hc⟩ := own_typed h.irow b e
    exact hst b cs _ hc (by decide) (by decide)
  · rcases hb with e1 | e1
    · exact h.low b (e1 ▸ e)
    · rw [e1] at e
      cases e
      exact h.size
  · rw [Below.heap_setCell w' _ v' b (by show b ≠ g; have := h.at_; omega), hg.block b (Nat.lt_of_lt_of_le hb2 h.size) (fun e => by
      have := h.low b e.symm
      omega)]
    exact h.keep b hb2
  · simpa using Nat.le_trans h.size hg.size

theorem Booked.grown_cell {w w0 W w' : World} {g : Nat} {iv bv : Value} {L LI : List Value} (h : Booked w w0 W g iv bv L LI) (hg : W.grownBy w' bv.ownBlock) : w'.cell? ⟨g, 2, none⟩ = some bv ∧ w'.frozen? ⟨g, 2, none⟩ = false := by
  have hk : w'.heap[g]? = some (.cells #[iv, .slice none 0 0, bv, .slice none 0 0] 46 (0, 0)) := (hg.block g (blk_lt h.book) (fun e => h.ne h.row (by decide) e.symm)).trans h.book
  exact ⟨by simp [World.cell?, hk], by simp [World.frozen?, hk]⟩

theorem booked_holds {w w0 W : World} {g : Nat} {iv bv : Value} {L LI : List Value} (h : Booked w w0 W g iv bv L LI) {okI okB : Nat → Prop} (hI : Apt W w.heap.size 3 okI LI) (hB : Apt W w.heap.size 5 okB L) (hlI : LI.length ≤ 2) (hlB : L.length ≤ 10000000) :
    Calls Try.prog 19 #[.pointer (some ⟨g, 0, none⟩)] W fun e w' => e = .returned (.bool true) ∧ Below w.heap.size w w' := by
  obtain ⟨nB, fB, hnB, hfB⟩ := hB.fam (fun _ => mkB 0)
  obtain ⟨nI, fI, hnI, hfI⟩ := hI.fam (fun n => mkI n)
  refine book_holds w W h.below g iv bv LI L nI nB fI fB h.book h.irow hfI (by omega) ?_ h.row hfB hlB (fun k => Nat.le_trans (hnB k) (by omega))
  have h0 := hnI 0
  have h1 := hnI 1
  rcases LI with _ | ⟨a, _ | ⟨b, _ | ⟨c, r⟩⟩⟩
  · simp [sumN]
  · simp [sumN]; omega
  · simp [sumN]; omega
  · simp at hlI

set_option maxHeartbeats 4000000 in
set_option maxRecDepth 100000 in
theorem pagesKeeps_walk (k : Nat) (w : World) (id : Int) (A1 : Option Addr) (c1 : Nat) (d : List Int) (h1 : (Kd.int .u8).C w A1 d.length d) (hc1 : d.length ≤ c1)
    (A2 : Option Addr) (c2 : Nat) (us : List Bool) (h2 : Kd.bool.C w A2 us.length us) (hc2 : us.length ≤ c2) (n : Int) (s7 sd : Int) (L : List Int) (e2 : Int)
    (hs7 : sum_Sum.f k (restS 7 [1]) = some s7) (hsd : d.length ≤ 116 → sum_Sum.f k (restS id d) = some sd) (how : quirelaw03_own.f d = some d) (hF : pages_First.f k us n = some (L, e2)) (hsb : quireref01_SameBytes.f k d d = some true)
    (hl1 : d.length ≤ 2000000) (hl2 : us.length ≤ 2000000) (hlL : L.length ≤ 2000000) :
    Calls Try.prog 6 #[.int .u32 id, .slice A1 d.length c1, .slice A2 us.length c2, .int .i64 n] w fun e w' => e = .returned (.bool true) ∧ Below w.heap.size w w' := by
  have HC1 := Aside0.mk h1
  have HC2 := Aside0.mk h2
  have HLE1 := Aside0.mk hc1
  have HLE2 := Aside0.mk hc2
  have HS7 := Aside0.mk hs7
  have HSD := Aside0.mk hsd
  have HOW := Aside0.mk how
  have HFI := Aside0.mk hF
  have HSB := Aside0.mk hsb
  clear h1 h2 hc1 hc2 hs7 hsd how hF hsb
  go_enter Try.func6, Try.ntmps6
  go_wp2_with fail
  refine (awake_walk w k s7 HS7.out).mono ?_
  rintro e1 w1 ⟨rfl, hb1⟩
  have HB1 := Aside0.mk hb1
  clear hb1
  go_wp2_with fail
  refine (quirelaw03_own.calls A1 c1 d d w1 (Kd.C_below HC1.out HB1.out) HLE1.out HOW.out).mono ?_
  rintro e2 w2 ⟨vf, rfl, hf, hb2⟩
  have HB2 := Aside0.mk (below_step HB1.out hb2)
  have HS12 := Aside0.mk hb2.size
  have HF2 := Aside0.mk (own_of_R (R_between (base := 0) hf HB1.out.size))
  clear hf hb2
  go_upto_region 4 with ((with_reducible refine gate_builtin (b := .append) (xs := #[.tmp 30, .tmp 31]) rfl ?_); at_builtin; refine wpList_append_row (w2.alloc _) rfl (.tmp 30) (.tmp 31) _ rfl w.heap.size w2.heap.size 5 (.int .u8 0) 1 Try.underlying23 infoB rfl vf _ d.length 2 _ _ rfl (own_alloc HF2.out.1 _) rfl (own_lit w2 w2.heap.size _ 5 (Nat.le_refl _) (by decide)) ?aC ?aM ?aB ?aS ?_; (case aC => (intro y hy; simp at hy; rcases hy with rfl | rfl <;> rfl)); (case aM => (simp only [maxLen]; omega)); (case aB => omega); (case aS => exact Nat.le_trans HB2.out.size (by simp)); intro v' w3 ho hg hbl; have HO3 := Aside0.mk ho; have HG3 := Aside0.mk hg; have HBL3 := Aside0.mk hbl; clear ho hg hbl)
  have hb3 : Below w.heap.size w w3 := pw_below_grown (below_alloc HB2.out _) _ (Nat.le_trans HB2.out.size (by simp)) HG3.out (fun b hb => Nat.le_trans HB1.out.size (HF2.out.2 b hb).1)
  have hsz3 : w2.heap.size ≤ w3.heap.size := Nat.le_trans (by simp) HG3.out.size
  have hbl3 : ∀ b, v'.ownBlock = some b → w1.heap.size ≤ b ∧ b < w3.heap.size := fun b hb => by
    refine ⟨?_, own_lt HO3.out b hb⟩
    rcases HBL3.out with e | e
    · exact (HF2.out.2 b (e ▸ hb)).1
    · rw [e] at hb
      have h1 : (w2.alloc (.cells #[.int .u8 71, .int .u8 72] 5)).heap.size = b := by simpa using hb
      have h2 : w2.heap.size ≤ b := by rw [← h1]; simp
      exact Nat.le_trans HS12.out h2
  obtain ⟨bf, capf, rfl, hbf1, hbf2, hcf, hcm⟩ := own_head2 HO3.out (by omega)
  have HFL := Aside0.mk (hbl3 bf rfl)
  have HB3 := Aside0.mk hb3
  have HSZ3 := Aside0.mk hsz3
  have hcf1 : d.length ≤ capf := by omega
  clear hb3 hsz3 hbl3 HG3 HBL3 HF2 hbf1 hbf2
  go_upto_region 5 with (first | ((with_reducible refine gate_dst (N := 33) rfl ?_); refine Kd.R_lit Kd.bool _ 4 ?hg (N := 33) ?hd (xs := ([] : List Bool)) (inner := []) (ok := fun _ => True) (okp := fun _ => True) ?hr ?hp (fun _ hk => hk) trivial (Below.refl _ _) (Nat.le_refl _) (by simp) ?_; (case hd => rfl); (case hg => rfl); (case hr => first | (go_simp; done) | (go_simp; rfl)); (case hp => exact (Reps.none _ _)); intro ve w4 ho4 hb hg_ hnew_; have HB4 := Aside0.mk hb; have HO4 := Aside0.mk ho4; clear hb ho4 hg_ hnew_) | ((with_reducible refine gate_builtin (b := .append) (xs := #[.tmp 33, .tmp 34]) rfl ?_); at_builtin; refine Kd.R_append_rows Kd.bool (w0 := w3) w3.heap.size rfl (.tmp 33) (.tmp 34) 47 4 (.bool false) 1 rfl Try.underlying47 infoBo rfl (by decide) (by omega) ve [] us _ _ _ (fun _ => True) (fun _ => False) rfl rfl HO4.out (Kd.C_below (Kd.C_below HC2.out HB3.out) HB4.out) (fun _ _ h => h) (fun _ h => h.elim) (fun _ _ => trivial) HB4.out HB4.out.size (by simp; omega) ?_; intro vu w5 ho hb hg hat; rw [List.nil_append] at ho; have HO5 := Aside0.mk (own_of_Rb ho).1; have HB5 := Aside0.mk hb; clear ho hb hg hat) | ((with_reducible refine gate_builtin (b := .append) (xs := #[.tmp 35, .tmp 36]) rfl ?_); at_builtin; refine wpList_append_row (w5.alloc _) rfl (.tmp 35) (.tmp 36) _ rfl w3.heap.size w5.heap.size 4 (.bool false) 1 Try.underlying47 infoBo rfl vu _ us.length 2 _ _ rfl (own_alloc HO5.out _) rfl (own_lit w5 w5.heap.size _ 4 (Nat.le_refl _) (by decide)) ?aC ?aM ?aB ?aS ?_; (case aC => (intro y hy; simp at hy; rcases hy with rfl | rfl <;> rfl)); (case aM => (simp only [maxLen]; omega)); (case aB => omega); (case aS => exact Nat.le_trans HB5.out.size (by simp)); intro v6 w6 ho hg hbl; have HO6 := Aside0.mk ho; have HG6 := Aside0.mk (show Below w3.heap.size w3 w6 from pw_below_grown (below_alloc HB5.out _) _ (Nat.le_trans HB5.out.size (by simp)) hg (fun b hb => own_base HO5.out b hb)); clear ho hg hbl))
  obtain ⟨bi, capi, rfl, hbi1, hbi2, hci, hcim⟩ := own_head2 HO6.out (by omega)
  have hci1 : us.length ≤ capi := by omega
  have HB6 := Aside0.mk (below_then HB3.out HB3.out.size HG6.out)
  have HF6 := Aside0.mk (own_below HO3.out HG6.out)
  have HSZ6 := Aside0.mk HG6.out.size
  have HPX : ∀ (j : Nat) (x : Int), d[j]? = some x → (d.map (Value.int .u8) ++ [Value.int .u8 71, Value.int .u8 72])[j]? = some (Value.int .u8 x) := fun j x hj => by
    rw [List.getElem?_append_left (by simpa using (List.getElem?_eq_some_iff.1 hj).1), List.getElem?_map, hj]; rfl
  have HPB : ∀ (j : Nat) (x : Bool), us[j]? = some x → (us.map Value.bool ++ [Value.bool true, Value.bool false])[j]? = some (Value.bool x) := fun j x hj => by
    rw [List.getElem?_append_left (by simpa using (List.getElem?_eq_some_iff.1 hj).1), List.getElem?_map, hj]; rfl
  have HPX' := Aside0.mk HPX
  have HPB' := Aside0.mk HPB
  clear HPX HPB hbi1 hbi2 HG6 HO5 HB5 HO4 HB4
  go_wp2_with fail
  refine (pack_any w6 id (some ⟨bf, 0, none⟩) capf d (by omega) (C_of_own HF6.out HPX'.out (by omega) (by omega)) hcf1 k sd HSD.out).mono ?_
  rintro e7 w7 ⟨vx, ex, rfl, hb7, hx7⟩
  have HX7 := Aside0.mk hx7
  have HB7 := Aside0.mk hb7
  clear hx7 hb7
  go_wp2_with fail
  have hf7 := own_below HF6.out HB7.out
  refine (pack_any w7 id (some ⟨bf, 0, none⟩) capf d (by omega) (C_of_own hf7 HPX'.out (by omega) (by omega)) hcf1 k sd HSD.out).mono ?_
  rintro e8 w8 ⟨vy, ey, rfl, hb8, hy8⟩
  have HY8 := Aside0.mk hy8
  have HB8 := Aside0.mk hb8
  have HF8 := Aside0.mk (own_below hf7 hb8)
  have HI8 := Aside0.mk (own_below (own_below HO6.out HB7.out) hb8)
  clear hy8 hb8 hf7
  go_wp2_with fail
  refine (pages_First.calls k (some ⟨bi, 0, none⟩) capi us n L e2 w8 (Cb_of_own HI8.out HPB'.out (by omega)) hci1 HFI.out).mono ?_
  rintro e9 w9 ⟨vl, rfl, hl9, hb9⟩
  obtain ⟨Al, cl, rfl⟩ := Kd.R_slice hl9
  have HL9 := Aside0.mk hl9
  have HB9 := Aside0.mk hb9
  clear hl9 hb9
  go_wp2_with fail
  refine (pages_First.calls k (some ⟨bi, 0, none⟩) capi us n L e2 w9 (Cb_of_own (own_below HI8.out HB9.out) HPB'.out (by omega)) hci1 HFI.out).mono ?_
  rintro e10 w10 ⟨vm, rfl, hm10, hb10⟩
  obtain ⟨Am, cm, rfl⟩ := Kd.R_slice hm10
  have HM10 := Aside0.mk hm10
  have HB10 := Aside0.mk hb10
  have HF10 := Aside0.mk (own_below (own_below HF8.out HB9.out) hb10)
  have HI10 := Aside0.mk (own_below (own_below HI8.out HB9.out) hb10)
  have HBA := Aside0.mk (below_step (below_step (below_step (below_step HB6.out HB7.out) HB8.out) HB9.out) hb10)
  clear hm10 hb10
  go_wp2_with fail
  refine (quireref01_SameBytes.calls k (some ⟨bf, 0, none⟩) capf d A1 c1 d true w10 (C_of_own HF10.out HPX'.out (by omega) (by omega)) hcf1 (Kd.C_below HC1.out HBA.out) HLE1.out HSB.out).mono ?_
  rintro e11 w11 ⟨rfl, hb11⟩
  have HF11 := Aside0.mk (own_below HF10.out hb11.below)
  have HI11 := Aside0.mk (own_below HI10.out hb11.below)
  have HB11 := Aside0.mk hb11.below
  have HBB := Aside0.mk (below_step HBA.out hb11.below)
  clear hb11
  have c71 : w11.cell? ⟨bf, d.length, none⟩ = some (.int .u8 71) := own_cell HF11.out (by rw [List.getElem?_append_right (by simp)]; simp)
  have c72 : w11.cell? ⟨bf, d.length + 1, none⟩ = some (.int .u8 72) := own_cell HF11.out (by rw [List.getElem?_append_right (by simp)]; simp)
  have cu1 : w11.cell? ⟨bi, us.length, none⟩ = some (.bool true) := own_cell HI11.out (by rw [List.getElem?_append_right (by simp)]; simp)
  have cu2 : w11.cell? ⟨bi, us.length + 1, none⟩ = some (.bool false) := own_cell HI11.out (by rw [List.getElem?_append_right (by simp)]; simp)
  go_upto_region 12 with fail
  clear c71 c72 cu1 cu2
  go_loopg [19] (us.length + 1) (fun kq u19 w' => ∃ j : Nat, u19 = .int .i64 (j : Int) ∧ j ≤ us.length ∧ kq + j = us.length + 1 ∧ ∃ m, w' = w11.drewN m)
  case atStart => exact ⟨0, rfl, by omega, by omega, 0, rfl⟩
  · obtain ⟨j, rfl, hj, hkj, m, rfl⟩ := hrel
    by_cases hlt : j < us.length
    · obtain ⟨ad, rfl, hadc⟩ := Cb_adr (Kd.C_below HC2.out HBB.out) (by omega)
      have hcu := hadc j us[j] (List.getElem?_eq_getElem hlt)
      have hci2 : w11.cell? ⟨bi, j, none⟩ = some (.bool us[j]) := own_cell HI11.out (HPB'.out j us[j] (List.getElem?_eq_getElem hlt))
      have hjz : decide ((j : Int) < (us.length : Int)) = true := decide_eq_true (by omega)
      generalize us[j] = uj at *
      clear hadc
      cases gk with
      | zero => omega
      | succ g2 =>
        go_wp2_with fail
        go_quiet (fail)
        go_wp2
        go_roundg g2
        case measure => omega
        case rel => exact ⟨j + 1, by push_cast; rfl, by omega, by omega, _, rfl⟩
    · have hjz : decide ((j : Int) < (us.length : Int)) = false := decide_eq_false (by omega)
      clear HPB' HPX' HI11 HI10 HI8 HO6 HF6 HF8
      have hb12 : Below w11.heap.size w11 (w11.drewN m) := pw_below_drewN (Below.refl _ _) m
      generalize w11.drewN m = w12 at *
      have HB12 := Aside0.mk hb12
      clear hb12
      go_upto_region 17 with fail
      have hbk := Booked.first (below_step HBB.out HB12.out) (.slice Al L.length cl) (.slice Am L.length cm) (.slice (some ⟨bf, 0, none⟩) (d.length + 2) capf)
      generalize hw15 : ((w12.alloc (.cells #[.slice Al L.length cl, .slice Am L.length cm] 50)).alloc (.cells #[.slice (some ⟨bf, 0, none⟩) (d.length + 2) capf] 23)).alloc (.cells #[.slice (some ⟨w12.heap.size, 0, none⟩) 2 2, .slice none 0 0, .slice (some ⟨w12.heap.size + 1, 0, none⟩) 1 1, .slice none 0 0] 46) = w15 at *
      have HBK := Aside0.mk hbk
      clear hbk hw15
      have hap1 : Apt w15 w.heap.size 3 (fun b => w8.heap.size ≤ b ∧ b < w9.heap.size) [.slice Al L.length cl] := by
        have h1 := own_of_R (R_between (base := 0) (base' := w.heap.size) HL9.out (below_step (below_step HB6.out HB7.out) HB8.out).size)
        have h2 := own_below (own_below (own_below h1.1 HB10.out) HB11.out) HB12.out
        exact Apt.one (own_stay h2 (fun b hb => HBK.out.keep b (own_lt h2 b hb))) (by omega) h1.2
      have hap2 : Apt w15 w.heap.size 3 (fun b => w9.heap.size ≤ b ∧ b < w10.heap.size) [.slice Am L.length cm] := by
        have h1 := own_of_R (R_between (base := 0) (base' := w.heap.size) HM10.out (below_step (below_step (below_step HB6.out HB7.out) HB8.out) HB9.out).size)
        have h2 := own_below (own_below h1.1 HB11.out) HB12.out
        exact Apt.one (own_stay h2 (fun b hb => HBK.out.keep b (own_lt h2 b hb))) (by omega) h1.2
      have hapI : Apt w15 w.heap.size 3 (fun _ => True) [.slice Al L.length cl, .slice Am L.length cm] := Apt.append hap1 hap2 (fun b h1 h2 => by omega) (fun _ _ => trivial) (fun _ _ => trivial)
      have hof := own_below HF11.out HB12.out
      have hapF : Apt w15 w.heap.size 5 (fun b => b = bf) [.slice (some ⟨bf, 0, none⟩) (d.length + 2) capf] := Apt.one (own_stay hof (fun b hb => HBK.out.keep b (own_lt hof b hb))) (by omega) (fun b hb => by simpa [Value.ownBlock] using hb.symm)
      have HAI := Aside0.mk hapI
      have HAF := Aside0.mk hapF
      clear hap1 hap2 hapI hof hapF
      rcases HX7.out with ⟨hl, rfl, bx, rfl, hox⟩ | ⟨hl, rfl⟩
      case inr =>
        go_wp2_with fail
        refine (booked_holds HBK.out HAI.out HAF.out (by simp) (by simp)).mono ?_
        rintro e22 w22 ⟨rfl, hb22⟩
        have HB22 := Aside0.mk hb22
        clear hb22
        go_wp2
        go_ret
        exact ⟨rfl, HB22.out⟩
      obtain ⟨rfl, by_, rfl, hoy⟩ : ey = 0 ∧ ∃ b, vy = .slice (some ⟨b, 0, none⟩) 128 128 ∧ w8.ownsRow w7.heap.size 5 1 vy 128 ((pageS sd id d).map (.int .u8)) := by
        rcases HY8.out with h | h
        · exact h.2
        · omega
      have hx12 := own_below (own_below (own_below (own_below (own_below (own_weaken hox HB6.out.size) HB8.out) HB9.out) HB10.out) HB11.out) HB12.out
      have hx15 := own_stay hx12 (fun b hb => HBK.out.keep b (own_lt hx12 b hb))
      have hy12 := own_below (own_below (own_below (own_below (own_weaken hoy (below_step HB6.out HB7.out).size) HB9.out) HB10.out) HB11.out) HB12.out
      have hy15 := own_stay hy12 (fun b hb => HBK.out.keep b (own_lt hy12 b hb))
      have hbx : w6.heap.size ≤ bx ∧ bx < w7.heap.size := ⟨own_base hox bx rfl, own_lt hox bx rfl⟩
      have hby : w7.heap.size ≤ by_ ∧ by_ < w8.heap.size := ⟨own_base hoy by_ rfl, own_lt hoy by_ rfl⟩
      have HX15 := Aside0.mk hx15
      have HY15 := Aside0.mk hy15
      have HBX := Aside0.mk hbx
      have HBY := Aside0.mk hby
      clear hx12 hx15 hy12 hy15 hbx hby hox hoy HX7 HY8
      go_wp2_with fail
      refine (unpack_walk w15 w.heap.size bx id sd d hl HX15.out k (HSD.out hl)).mono ?_
      rintro e16 w16 ⟨vp, ip, rfl, hop, hb16⟩
      obtain ⟨Ap, cp, rfl, hcp, hcpC⟩ := own_reads hop
      have HOP := Aside0.mk hop
      have HB16 := Aside0.mk hb16
      have HCP := Aside0.mk hcp
      have HCPC := Aside0.mk hcpC
      clear hop hb16 hcp hcpC
      go_wp2_with fail
      refine (unpack_walk w16 w.heap.size bx id sd d hl (own_below HX15.out HB16.out) k (HSD.out hl)).mono ?_
      rintro e17 w17 ⟨vq, iq, rfl, hoq, hb17⟩
      obtain ⟨Aq, cq, rfl, hcq, hcqC⟩ := own_reads hoq
      have HOQ := Aside0.mk hoq
      have HB17 := Aside0.mk hb17
      clear hoq hb17 hcq hcqC
      go_wp2_with fail
      have hB17 := (HBK.out.then_ HB16.out).then_ HB17.out
      refine (quireref01_SameBytes.calls k Ap cp d A1 c1 d true w17 (Kd.C_below HCPC.out HB17.out) HCP.out (Kd.C_below HC1.out hB17.below) HLE1.out HSB.out).mono ?_
      rintro e18 w18 ⟨rfl, hb18⟩
      replace hb18 := hb18.below
      have hB18 := hB17.then_ hb18
      have hp18 := own_below (own_below HOP.out HB17.out) hb18
      have hq18 := own_below HOQ.out hb18
      have hx18 := own_below (own_below (own_below HX15.out HB16.out) HB17.out) hb18
      have hy18 := own_below (own_below (own_below HY15.out HB16.out) HB17.out) hb18
      have hF18 := HAF.out.stay (w' := w18) (fun b cs hc _ => (hb18.block b (Nat.lt_of_lt_of_le (blk_lt hc) (below_step HB16.out HB17.out).size)).trans ((below_step HB16.out HB17.out).block b (blk_lt hc)))
      have hI18 := HAI.out.stay (w' := w18) (fun b cs hc _ => (hb18.block b (Nat.lt_of_lt_of_le (blk_lt hc) (below_step HB16.out HB17.out).size)).trans ((below_step HB16.out HB17.out).block b (blk_lt hc)))
      have HBK18 := Aside0.mk hB18
      obtain ⟨hcb, hcbf⟩ := hB18.cell
      have HP18 := Aside0.mk hp18
      have HQ18 := Aside0.mk hq18
      have HX18 := Aside0.mk hx18
      have HY18 := Aside0.mk hy18
      have HF18 := Aside0.mk hF18
      have HI18 := Aside0.mk hI18
      clear hB17 hB18 hb18 hp18 hq18 hx18 hy18 hF18 hI18
      go_upto_region 23 with ((with_reducible refine gate_builtin (b := .append) (xs := #[.tmp 154, .tmp 159]) rfl ?_); at_builtin; refine wpList_append_row (w18.alloc _) rfl (.tmp 154) (.tmp 159) _ rfl w.heap.size w18.heap.size 23 (.slice none 0 0) 24 Try.underlying22 infoBS rfl _ _ 1 4 _ _ rfl (own_alloc HBK18.out.row _) rfl (own_lit w18 w18.heap.size _ 23 (Nat.le_refl _) (by simp [maxLen])) ?aC ?aM ?aB ?aS ?_; (case aC => (intro y hy; simp at hy; rcases hy with rfl | rfl | rfl | rfl <;> rfl)); (case aM => (simp only [maxLen]; omega)); (case aB => omega); (case aS => exact Nat.le_trans HBK18.out.below.size (by simp)); intro v19 w19 ho hg hbl; obtain ⟨A19, c19, rfl⟩ := own_val ho; obtain ⟨hdb, hdbf⟩ := (HBK18.out.then_ (below_alloc (Below.refl _ _) _)).grown_cell hg; have HO19 := Aside0.mk ho; have HG19 := Aside0.mk hg; have HBL19 := Aside0.mk hbl; clear ho hg hbl)
      clear hcb hcbf hdb hdbf
      obtain ⟨hbk20, hst⟩ := (HBK18.out.then_ (below_alloc (Below.refl _ _) _)).next (L' := [.slice (some ⟨bf, 0, none⟩) (d.length + 2) capf] ++ [.slice (some ⟨bx, 0, none⟩) 128 128, .slice (some ⟨by_, 0, none⟩) 128 128, .slice Ap d.length cp, .slice Aq d.length cq]) HO19.out HG19.out HBL19.out
      generalize hw20 : w19.setCell ⟨w12.heap.size + 1 + 1, 2, none⟩ (Value.slice A19 (1 + 4) c19) = w20 at *
      have HBK20 := Aside0.mk hbk20
      have HST := Aside0.mk hst
      clear hbk20 hst hw20
      go_wp2_with fail
      have hst2 : ∀ (b : Nat) (cs : Array Value) (E : Nat), w18.heap[b]? = some (.cells cs E (0, 0)) → E ≠ 23 → E ≠ 46 → w20.heap[b]? = w18.heap[b]? := fun b cs E hc h1 h2 => by
        have ha := Below.heap_alloc w18 (.cells #[.slice (some ⟨bx, 0, none⟩) 128 128, .slice (some ⟨by_, 0, none⟩) 128 128, .slice Ap d.length cp, .slice Aq d.length cq] 23) b (blk_lt hc)
        exact (HST.out b cs E (ha.trans hc) h1 h2).trans ha
      obtain ⟨f1, f2⟩ := HFL.out
      have o1 := HSZ3.out
      have o2 := HSZ6.out
      have o3 := HB8.out.size
      have o4 := HB9.out.size
      have o5 := HB10.out.size
      have o6 := HB11.out.size
      have o7 := HB12.out.size
      have o8 := HBK.out.size
      have o9 := HB16.out.size
      have oa := HB7.out.size
      have x1 := HBX.out
      have x2 := HBY.out
      have ax := Apt.one (ok := fun b => b = bx) HX18.out (by omega) (fun b hb => by simpa [Value.ownBlock] using hb.symm)
      have ay := Apt.one (ok := fun b => b = by_) HY18.out (by omega) (fun b hb => by simpa [Value.ownBlock] using hb.symm)
      have ap := Apt.one (ok := fun b => w15.heap.size ≤ b ∧ b < w16.heap.size) (own_weaken HP18.out HBK.out.below.size) (by omega) (fun b hb => ⟨own_base HP18.out b hb, own_lt HOP.out b hb⟩)
      have aq := Apt.one (ok := fun b => w16.heap.size ≤ b) (own_weaken HQ18.out (Nat.le_trans HBK.out.below.size o9)) (by omega) (fun b hb => own_base HQ18.out b hb)
      have hapt := Apt.append HF18.out (Apt.append ax (Apt.append ay (Apt.append ap aq (ok := fun b => w15.heap.size ≤ b) (fun b h1 h2 => by omega) (fun b h => by omega) (fun b h => by omega)) (ok := fun b => w7.heap.size ≤ b) (fun b h1 h2 => by omega) (fun b h => by omega) (fun b h => by omega)) (ok := fun b => w6.heap.size ≤ b) (fun b h1 h2 => by omega) (fun b h => by omega) (fun b h => by omega)) (ok := fun _ => True) (fun b h1 h2 => by omega) (fun _ _ => trivial) (fun _ _ => trivial)
      refine (booked_holds HBK20.out (HI18.out.stay (fun b cs hc _ => hst2 b cs _ hc (by decide) (by decide))) (hapt.stay (fun b cs hc _ => hst2 b cs _ hc (by decide) (by decide))) (by simp) (by simp)).mono ?_
      rintro e22 w22 ⟨rfl, hb22⟩
      have HB22 := Aside0.mk hb22
      clear hb22 hapt ax ay ap aq hst2 f1 f2 o1 o2 o3 o4 o5 o6 o7 o8 o9 oa x1 x2
      go_wp2
      go_ret
      exact ⟨rfl, HB22.out⟩
end Go.Proofs.Ytbhiepfejlhbnaa.Q
