/- The net's wanted: all that is wanted, rising, and what of it is missing. -/
import Derived.Test.YtdllpgeagdckmaaOOf
namespace Go.Proofs.Ytdllpgeagdckmaa.Q
open Go.RowKit Go.Proofs.YtdllpgeagdckmaaW.PrintWords Go.Proofs.YtdllpgeagdckmaaW.PrintLast Go.Proofs.YtdllpgeagdckmaaW.PrintMore Go.Proofs.Ytdllpgeagdckmaa.MapKit Go.Maps Go.Proofs.Ytdllpgeagdckmaa.Ord
attribute [local go_sem] max2_int min2_int max_two min_two max_three min_three max_four min_four
set_option linter.unusedVariables false
set_option linter.unusedSimpArgs false

/-- Between two rounds of the search. -/
structure WRel (w w' : World) (g : Nat) (v5 v7 : Value) (stack seen mis : List ByteArray) : Prop where
  row7 : SRow w' w.heap.size v7 stack
  row5 : SRow w' w.heap.size v5 mis
  apart : v5.ownBlock = none ∨ v5.ownBlock ≠ v7.ownBlock
  set : SetIs w' g seen.length seen
  below : Below w.heap.size w w'

theorem WRel.pop {w w' : World} {g : Nat} {v5 : Value} {A7 : Option Addr} {n c : Nat} {st seen mis : List ByteArray} {x : ByteArray} (h : WRel w w' g v5 (.slice A7 n c) (st ++ [x]) seen mis) : WRel w w' g v5 (.slice A7 st.length c) st seen mis :=
  ⟨by have := h.row7.take (m := st.length) (by simp); rwa [List.take_left] at this, h.row5, by
    have := h.apart
    cases A7 <;> exact this, h.set, h.below⟩
theorem WRel.put {w w' w3 : World} {g : Nat} {v5 v7 : Value} {st seen mis : List ByteArray} {x : ByteArray} (h : WRel w w' g v5 v7 st seen mis) (hs : SetIs w3 g (seen.length + 1) (seen ++ [x])) (hg : w'.grownBy w3 (some g)) (he : g = w.heap.size) : WRel w w3 g v5 v7 st (seen ++ [x]) mis :=
  ⟨h.row7.other hg (.inr (map_ne_row h.set h.row7)), h.row5.other hg (.inr (map_ne_row h.set h.row5)), h.apart, by rw [List.length_append]; exact hs, pw_below_grown h.below _ h.below.size hg (fun k e => by cases e; omega)⟩
theorem apart_new {w3 : World} {v v' u : Value} {base : Nat} {xs : List ByteArray} (ha : v.ownBlock = none ∨ v.ownBlock ≠ u.ownBlock) (hu : SRow w3 base u xs) (hat : v'.ownBlock = v.ownBlock ∨ ∃ k, v'.ownBlock = some k ∧ w3.heap.size ≤ k) : v'.ownBlock = none ∨ v'.ownBlock ≠ u.ownBlock := by
  rcases hat with e | ⟨k, e, hk⟩
  · rw [e]; exact ha
  · refine .inr fun e' => ?_
    rw [e] at e'
    have := own_lt hu k e'.symm
    omega
theorem apart_flip {v u : Value} (ha : v.ownBlock = none ∨ v.ownBlock ≠ u.ownBlock) : u.ownBlock = none ∨ u.ownBlock ≠ v.ownBlock := by
  rcases ha with e | e
  · rw [e]
    cases u.ownBlock <;> simp
  · exact .inr (fun h => e h.symm)
theorem WRel.app5 {w w3 w4 : World} {g : Nat} {v5 v5' v7 : Value} {st seen mis : List ByteArray} {x : ByteArray} (h : WRel w w3 g v5 v7 st seen mis) (hr : SRow w4 w.heap.size v5' (mis ++ [x])) (hg : w3.grownBy w4 v5.ownBlock) (hat : v5'.ownBlock = v5.ownBlock ∨ ∃ k, v5'.ownBlock = some k ∧ w3.heap.size ≤ k) : WRel w w4 g v5' v7 st seen (mis ++ [x]) :=
  ⟨h.row7.other hg (apart_flip h.apart), hr, apart_new h.apart h.row7 hat, h.set.kept hg (map_ne_row h.set h.row5), pw_below_grown h.below _ h.below.size hg h.row5.base_le⟩
theorem WRel.app7 {w w3 w4 : World} {g : Nat} {v5 v7 v7' : Value} {st us seen mis : List ByteArray} (h : WRel w w3 g v5 v7 st seen mis) (hr : SRow w4 w.heap.size v7' (st ++ us)) (hg : w3.grownBy w4 v7.ownBlock) (hat : v7'.ownBlock = v7.ownBlock ∨ ∃ k, v7'.ownBlock = some k ∧ w3.heap.size ≤ k) : WRel w w4 g v5 v7' (st ++ us) seen mis :=
  ⟨hr, h.row5.other hg h.apart, apart_flip (apart_new (apart_flip h.apart) h.row5 hat), h.set.kept hg (map_ne_row h.set h.row7), pw_below_grown h.below _ h.below.size hg h.row7.base_le⟩
theorem uses_after {w w' w3 : World} {gu n g : Nat} {f : Lit → Option Value} (hm : MapIs Try.prog 9 w gu n f) (hb : Below w.heap.size w w') (hg : w'.grownBy w3 (some g)) (he : g = w.heap.size) : MapIs Try.prog 9 w3 gu n f := by
  have h1 := hm.below hb
  have hlt := hm.lt
  exact h1.kept hg (fun e => by cases e; omega)
theorem blk_after {w w' w3 : World} {b gu gh g : Nat} {l : List S41} {hv stack seen mis : List ByteArray} {v5 v7 : Value} (hN : NetAt w b gu gh l hv) (hR : WRel w w' g v5 v7 stack seen mis) (hg : w'.grownBy w3 (some g)) (he : g = w.heap.size) : w3.cell? ⟨b, 0, none⟩ = some (.map (some gu)) := by
  have h1 := (hN.below hR.below).blk
  have hlt := blk_lt hN.blk
  have h2 := blk_grown h1 hg (fun e => by cases e; omega)
  exact (blk_cell h2 0).trans rfl

/-- What is known of the lists. -/
structure WPure (l : Net ByteArray) (hv want stack seen mis : List ByteArray) (k : Nat) : Prop where
  dfs : Dfs l hv want stack seen
  mis_ : ∀ x, x ∈ mis ↔ x ∈ seen ∧ usesOf l x = none
  misl : mis.length ≤ seen.length
  cnt : seen.length + stack.length + pot l seen ≤ want.length + pot l []
  k : k = stack.length + pot l seen + 1
  sz : ∀ x ∈ stack, x.size ≤ maxLen

theorem pot_tot : ∀ (l : Net ByteArray), pot l [] ≤ tot l
  | [] => Nat.le_refl _
  | a :: l => by
    have := pot_tot l
    simp only [pot, tot, List.not_mem_nil, if_false]
    omega

theorem WPure.skip {l : Net ByteArray} {hv want st seen mis : List ByteArray} {x : ByteArray} {k : Nat} (h : WPure l hv want (st ++ [x]) seen mis (k + 1)) (hx : x ∈ hv ∨ x ∈ seen) : WPure l hv want st seen mis k where
  dfs := h.dfs.skip hx
  mis_ := h.mis_
  misl := h.misl
  cnt := by have := h.cnt; simp at this; omega
  k := by have := h.k; simp at this; omega
  sz := fun y hy => h.sz y (List.mem_append_left _ hy)
theorem WPure.there {l : Net ByteArray} {hv want st seen mis us : List ByteArray} {x : ByteArray} {k : Nat} (h : WPure l hv want (st ++ [x]) seen mis (k + 1)) (hx : x ∉ hv) (hs : x ∉ seen) (hu : usesOf l x = some us) (hnd : (l.map (·.1)).Nodup) (hsz : ∀ u ∈ us, u.size ≤ maxLen) : WPure l hv want (st ++ us) (seen ++ [x]) mis k where
  dfs := by have := h.dfs.push hx hs; rwa [hu] at this
  mis_ := fun y => by
    rw [h.mis_, List.mem_append, List.mem_singleton]
    constructor
    · exact fun ⟨a, b⟩ => ⟨.inl a, b⟩
    · rintro ⟨a | rfl, b⟩
      · exact ⟨a, b⟩
      · rw [hu] at b; cases b
  misl := by have := h.misl; simp; omega
  cnt := by
    have h1 := h.cnt
    have h2 := pot_push hnd hs
    rw [hu] at h2
    simp at h1 h2 ⊢
    omega
  k := by
    have h1 := h.k
    have h2 := pot_push hnd hs
    rw [hu] at h2
    simp at h1 h2 ⊢
    omega
  sz := fun y hy => by
    rcases List.mem_append.1 hy with hy | hy
    · exact h.sz y (List.mem_append_left _ hy)
    · exact hsz y hy
theorem WPure.gone {l : Net ByteArray} {hv want st seen mis : List ByteArray} {x : ByteArray} {k : Nat} (h : WPure l hv want (st ++ [x]) seen mis (k + 1)) (hx : x ∉ hv) (hs : x ∉ seen) (hu : usesOf l x = none) (hnd : (l.map (·.1)).Nodup) : WPure l hv want st (seen ++ [x]) (mis ++ [x]) k where
  dfs := by have := h.dfs.push hx hs; rw [hu] at this; simpa using this
  mis_ := fun y => by
    rw [List.mem_append, h.mis_, List.mem_append, List.mem_singleton]
    constructor
    · rintro (⟨a, b⟩ | rfl)
      · exact ⟨.inl a, b⟩
      · exact ⟨.inr rfl, hu⟩
    · rintro ⟨a | rfl, b⟩
      · exact .inl ⟨a, b⟩
      · exact .inr rfl
  misl := by have := h.misl; simp; omega
  cnt := by
    have h1 := h.cnt
    have h2 := pot_push hnd hs
    rw [hu] at h2
    simp at h1 h2 ⊢
    omega
  k := by
    have h1 := h.k
    have h2 := pot_push hnd hs
    rw [hu] at h2
    simp at h1 h2 ⊢
    omega
  sz := fun y hy => h.sz y (List.mem_append_left _ hy)

def WantP (l : Net ByteArray) (want hv : List ByteArray) (w : World) (e : Ending) (w' : World) : Prop :=
  ∃ va vm all mis, e = .returned (.tuple #[va, vm]) ∧ SRow w' w.heap.size va all ∧ SRow w' w.heap.size vm mis ∧ (∀ x, x ∈ all ↔ Ord.Reach l hv want x) ∧ all.Pairwise (fun a b => ltN a b = true) ∧ (∀ x, x ∈ mis ↔ Ord.Reach l hv want x ∧ usesOf l x = none) ∧ all.length ≤ 6000000 ∧ mis.length ≤ 6000000 ∧ Below w.heap.size w w'

set_option maxHeartbeats 4000000 in
set_option maxRecDepth 100000 in
theorem wanted_calls (w : World) (b gu gh : Nat) (Aw : Option Addr) (cw : Nat) (l : List S41) (want hv : List ByteArray) (hN : NetAt w b gu gh l hv) (hCw : Kd.string.C w Aw want.length want) (htot : tot (netOf l) ≤ 3000000) (hwl : want.length ≤ 3000000) (hus : ∀ v ∈ l, ∀ u ∈ v.f1, u.size ≤ maxLen) (hwz : ∀ u ∈ want, u.size ≤ maxLen) (hnd : ((netOf l).map (·.1)).Nodup) :
    Calls Try.prog 19 #[.pointer (some ⟨b, 0, none⟩), .slice Aw want.length cw] w (WantP (netOf l) want hv w) := by
  have HN := Aside0.mk hN
  have HCW := Aside0.mk hCw
  have HUS := Aside0.mk hus
  have HWZ := Aside0.mk hwz
  have HTOT := Aside0.mk htot
  have HND := Aside0.mk hnd
  have HWL := Aside0.mk hwl
  clear hN hCw hus hwz htot hnd hwl
  have hmm := @run_makeMap Try.prog
  go_enter Try.func19, Try.ntmps19
  go_upto_region 2 with fail
  have hs1 := SetIs.made w
  have hb1 : Below w.heap.size w (w.alloc (.map #[] 0)) := below_alloc (Below.refl _ _) _
  generalize w.alloc (.map #[] 0) = w1 at *
  obtain ⟨g, hg⟩ : ∃ g, g = w.heap.size := ⟨_, rfl⟩
  rw [← hg] at hs1 ⊢
  have HG := Aside0.mk hg
  have HS1 := Aside0.mk hs1
  have HB1 := Aside0.mk hb1
  clear hg hs1 hb1
  go_wp2_with (go_at_call 36; refine (clone_names w1 Aw cw want (Kd.C_below HCW.out HB1.out) HWL.out).mono ?_; rintro e w2 ⟨v7, rfl, hr7, hb2⟩; have HR7 := Aside0.mk hr7; have HB2 := Aside0.mk hb2; clear hr7 hb2)
  obtain ⟨A7, c7, rfl⟩ := HR7.out.shape
  have h0 : WRel w w2 g (.slice none 0 0) (.slice A7 want.length c7) want [] [] := ⟨own_weaken HR7.out HB1.out.size, SRow.nil _ _, .inl rfl, HS1.out.below HB2.out, below_step HB1.out HB2.out⟩
  have p0 : WPure (netOf l) hv want want [] [] (want.length + pot (netOf l) [] + 1) := ⟨Dfs.start _ _ _, by simp, Nat.le_refl _, by simp, rfl, HWZ.out⟩
  have H0 := Aside0.mk (And.intro h0 p0)
  clear h0 p0 HS1 HB1 HR7 HB2
  go_loopg [5, 7] (want.length + pot (netOf l) [] + 1) (fun kq v5 v7 w' => Aside0 (∃ stack seen mis, WRel w w' g v5 v7 stack seen mis ∧ WPure (netOf l) hv want stack seen mis kq))
  case atStart => exact ⟨⟨_, _, _, H0.out.1, H0.out.2⟩⟩
  case round =>
    clear H0
    obtain ⟨stack, seen, mis, hR, hP⟩ := hrel.out
    have HP := Aside0.mk hP
    have hsl : seen.length + stack.length ≤ 6000000 := by
      have h1 := hP.cnt
      have h2 := pot_tot (netOf l)
      have h3 := HTOT.out
      have h4 := HWL.out
      omega
    have hml := hP.misl
    obtain ⟨A7', c7', e7⟩ := hR.row7.shape
    obtain ⟨A5', c5', e5⟩ := hR.row5.shape
    rcases stack.eq_nil_or_concat with hst | ⟨st, x, hst⟩
    · subst hst
      rw [List.length_nil] at e7
      subst e7
      subst e5
      have HR := Aside0.mk hR
      clear hR hP hrel
      go_wp2_with (first | (go_at_call 38; refine (keys_calls (some g) _).mono ?_; rintro e w' ⟨rfl, rfl⟩) | (go_at_call 37; refine (sorted_set wr g seen.length seen HR.out.set HP.out.dfs.nd (by omega)).mono ?_; rintro e w4 ⟨va, rfl, hra, hb4⟩; have HRA := Aside0.mk hra; have HB4 := Aside0.mk hb4; clear hra hb4))
      go_ret2
      refine ⟨_, _, sortB seen, mis, rfl, own_weaken HRA.out HR.out.below.size, HR.out.row5.below HB4.out, fun y => by rw [mem_sortB]; exact HP.out.dfs.done y, sortB_rising HP.out.dfs.nd, fun y => by rw [HP.out.mis_, HP.out.dfs.done], ?_, ?_, below_step HR.out.below HB4.out⟩
      · rw [sortB_length]; omega
      · omega
    · rw [List.concat_eq_append] at hst
      subst hst
      obtain ⟨k1, rfl⟩ : ∃ k1, gk = k1 + 1 := ⟨gk - 1, by have := hP.k; omega⟩
      have hl7 : (st ++ [x]).length = st.length + 1 := by simp
      rw [hl7] at e7
      subst e7
      subst e5
      obtain ⟨A7r, c7r, er, hcr, hCr⟩ := hR.row7.reads
      rw [hl7] at er
      simp only [Value.slice.injEq, true_and] at er
      obtain ⟨rfl, rfl⟩ := er
      obtain ⟨ad, rfl, z0⟩ := name_at hCr st.length (by simp)
      have hxe : (st ++ [x])[st.length]'(by simp) = x := by simp
      rw [hxe] at z0
      have hxs : x.size ≤ maxLen := HP.out.sz x (by simp)
      have hsl7 := slice_take (some ad) (st.length + 1) c7' st.length (by omega)
      have hst : seen.length + st.length + 1 ≤ 6000000 := by omega
      have HR := Aside0.mk hR
      have HXS := Aside0.mk hxs
      have n0 : wr.cell? ⟨b, 0, none⟩ = some (.map (some gu)) := (blk_cell (HN.out.below HR.out.below).blk 0).trans rfl
      have n1 : wr.cell? ⟨b, 1, none⟩ = some (.map (some gh)) := (blk_cell (HN.out.below HR.out.below).blk 1).trans rfl
      obtain ⟨nh, _, hsh⟩ := (HN.out.below HR.out.below).have_
      have HSH := Aside0.mk hsh
      clear hR hP hrel hl7 hCr hcr hxe hxs hsh hsl
      by_cases hx : x ∈ hv
      · have hxb : decide (x ∈ hv) = true := decide_eq_true hx
        go_wp2_with (at_lookup; refine set_look rfl _ _ rfl rfl HSH.out x rfl (HXS.out) ?_)
        go_roundg k1
        case measure => omega
        case rel => exact ⟨⟨st, seen, mis, HR.out.pop, HP.out.skip (.inl hx)⟩⟩
      · have hxb : decide (x ∈ hv) = false := decide_eq_false hx
        by_cases hs : x ∈ seen
        · have hsb : decide (x ∈ seen) = true := decide_eq_true hs
          go_wp2_with (first | (at_lookup; refine set_look rfl _ _ rfl rfl HSH.out x rfl (HXS.out) ?_) | (at_lookup; refine set_look_w rfl _ _ rfl rfl HR.out.set x rfl (HXS.out) ?_))
          go_roundg k1
          case measure => omega
          case rel => exact ⟨⟨st, seen, mis, HR.out.pop, HP.out.skip (.inr hs)⟩⟩
        · have hsb : decide (x ∈ seen) = false := decide_eq_false hs
          obtain ⟨F, nu, hmu, hF⟩ := HN.out.uses
          cases hu : usesOf (netOf l) x with
          | none =>
            have hfx := hF.1 x hu
            have HFX := Aside0.mk hfx
            have HU := Aside0.mk hu
            have HMU0 := Aside0.mk hmu
            clear hfx hu hmu hF
            go_wp2_with (first | (at_lookup; refine set_look rfl _ _ rfl rfl HSH.out x rfl (HXS.out) ?_) | (at_lookup; refine set_look_w rfl _ _ rfl rfl HR.out.set x rfl (HXS.out) ?_) | (at_mapUpdate; refine set_put rfl _ _ _ rfl rfl HR.out.set (by unfold maxLen; omega) x rfl rfl (HXS.out) ?_; intro w3 hs3 hg3; have HR3 := Aside0.mk (HR.out.pop.put hs3 hg3 HG.out); have HMU := Aside0.mk (uses_after HMU0.out HR.out.below hg3 HG.out); have n0' : w3.cell? ⟨b, 0, none⟩ = some (.map (some gu)) := blk_after HN.out HR.out hg3 HG.out; clear hs3 hg3 n0 n1) | (at_lookup; refine wpList_look_ok rfl _ _ 68 rfl 23 key9 Try.underlying68 (zero23 _) rfl HMU.out _ _ rfl (Go.WideMaps.keyOf_string_mk Try.underlying9 HXS.out) ?_; rw [keyB_at, HFX.out]) | ((with_reducible refine gate_builtin (b := .append) (xs := #[.tmp 54, .tmp 56]) rfl ?_); refine srow_append w.heap.size rfl (.tmp 54) (.tmp 56) rfl rfl x rfl HR3.out.row5 (by omega) HR3.out.below.size ?_; intro A6 c6 w6 hr hg hat; have HR6 := Aside0.mk (HR3.out.app5 hr hg hat); clear hr hg hat))
            go_roundg k1
            case measure => omega
            case rel => exact ⟨⟨st, seen ++ [x], mis ++ [x], HR6.out, HP.out.gone hx hs HU.out HND.out⟩⟩
          | some us =>
            obtain ⟨Au, cu, hfx, hcu, hCu⟩ := hF.2 x us hu
            have hul : st.length + us.length ≤ 6000000 := by
              have h1 := HP.out.cnt
              have h2 := pot_tot (netOf l)
              have h3 := HTOT.out
              have h4 := HWL.out
              have h5 := pot_push HND.out hs
              rw [hu] at h5
              simp at h1 h5
              omega
            have husz : ∀ u ∈ us, u.size ≤ maxLen := by
              have h1 := (usesOf_mem HND.out).1 hu
              simp only [netOf, List.mem_map, Prod.mk.injEq] at h1
              obtain ⟨v, hv1, _, rfl⟩ := h1
              exact HUS.out v hv1
            have HFX := Aside0.mk hfx
            have HCU := Aside0.mk hCu
            have HU := Aside0.mk hu
            have HMU0 := Aside0.mk hmu
            have HUSZ := Aside0.mk husz
            clear hfx hu hmu hF hCu hcu husz
            go_wp2_with (first | (at_lookup; refine set_look rfl _ _ rfl rfl HSH.out x rfl (HXS.out) ?_) | (at_lookup; refine set_look_w rfl _ _ rfl rfl HR.out.set x rfl (HXS.out) ?_) | (at_mapUpdate; refine set_put rfl _ _ _ rfl rfl HR.out.set (by unfold maxLen; omega) x rfl rfl (HXS.out) ?_; intro w3 hs3 hg3; have HR3 := Aside0.mk (HR.out.pop.put hs3 hg3 HG.out); have HMU := Aside0.mk (uses_after HMU0.out HR.out.below hg3 HG.out); have n0' : w3.cell? ⟨b, 0, none⟩ = some (.map (some gu)) := blk_after HN.out HR.out hg3 HG.out; clear hs3 hg3 n0 n1) | (at_lookup; refine wpList_look_ok rfl _ _ 68 rfl 23 key9 Try.underlying68 (zero23 _) rfl HMU.out _ _ rfl (Go.WideMaps.keyOf_string_mk Try.underlying9 HXS.out) ?_; rw [keyB_at, HFX.out]) | ((with_reducible refine gate_builtin (b := .append) (xs := #[.tmp 51, .tmp 52]) rfl ?_); refine srow_appendAll w.heap.size rfl (.tmp 51) (.tmp 52) rfl rfl rfl HR3.out.row7 (Kd.C_below HCU.out HR3.out.below) (by omega) HR3.out.below.size ?_; intro A6 c6 w6 hr hg hat; have HR6 := Aside0.mk (HR3.out.app7 hr hg hat); clear hr hg hat))
            go_roundg k1
            case measure => omega
            case rel => exact ⟨⟨st ++ us, seen ++ [x], mis, HR6.out, HP.out.there hx hs HU.out HND.out HUSZ.out⟩⟩
end Go.Proofs.Ytdllpgeagdckmaa.Q
