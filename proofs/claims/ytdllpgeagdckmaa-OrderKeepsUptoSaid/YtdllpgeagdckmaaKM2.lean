/- Put together out of the texts OWanted, OCircle, ONetSort, OSort, OExist, OLevTheory, OLevSpec, OVocabs, ApartKit, OLevRows: what each proves stands at its head. -/
import Derived.Test.YtdllpgeagdckmaaKM1
import Derived.Deep.RegionLaw
import Derived.RegionTactic
import Derived.BigRegion
import Derived.Outline
import Derived.Deep.RegionHeld3
import Derived.Deep.LoopGhost
import Derived.Deep.Cut
import Derived.Maps.AppendAt
import Derived.Below
import Derived.OwnWalk
import Derived.Test.YtdllpgeagdckmaaWWords
import Derived.Test.YtdllpgeagdckmaaWKept
import Derived.Sort.OwnSorted

/- The net's wanted: all that is wanted, rising, and what of it is missing. -/
namespace Go.Proofs.Ytdllpgeagdckmaa.Q
open Go.RowKit Go.Proofs.YtdllpgeagdckmaaW.PrintWords Go.Proofs.YtdllpgeagdckmaaW.PrintLast Go.Proofs.YtdllpgeagdckmaaW.PrintMore Go.Proofs.Ytdllpgeagdckmaa.MapKit Go.Maps Go.Proofs.Ytdllpgeagdckmaa.Ord
attribute [local go_sem] max2_int min2_int max_two min_two max_three min_three max_four min_four
set_option linter.unusedVariables false
set_option linter.unusedSimpArgs false

/-- Between two rounds of the search. -/
structure WRel (w w' : World) (g : Nat) (v5 v7 : Value) (stack seen mis : List ByteArray) : Prop where
  row7 : SRow w' w.heap.size v7 stack
  row5 : SRow w' w.heap.size v5 mis
  apart : v5.ownBlock = none ∨ v5.ownBlock ≠ v7.ownBlock
  set : SetIs w' g seen.length seen
  below : Below w.heap.size w w'

theorem WRel.pop {w w' : World} {g : Nat} {v5 : Value} {A7 : Option Addr} {n c : Nat} {st seen mis : List ByteArray} {x : ByteArray} (h : WRel w w' g v5 (.slice A7 n c) (st ++ [x]) seen mis) : WRel w w' g v5 (.slice A7 st.length c) st seen mis :=
  ⟨by have := h.row7.take (m := st.length) (by simp); rwa [List.take_left] at this, h.row5, by
    have := h.apart
    cases A7 <;> exact this, h.set, h.below⟩
theorem WRel.put {w w' w3 : World} {g : Nat} {v5 v7 : Value} {st seen mis : List ByteArray} {x : ByteArray} (h : WRel w w' g v5 v7 st seen mis) (hs : SetIs w3 g (seen.length + 1) (seen ++ [x])) (hg : w'.grownBy w3 (some g)) (he : g = w.heap.size) : WRel w w3 g v5 v7 st (seen ++ [x]) mis :=
  ⟨h.row7.other hg (.inr (map_ne_row h.set h.row7)), h.row5.other hg (.inr (map_ne_row h.set h.row5)), h.apart, by rw [List.length_append]; exact hs, pw_below_grown h.below _ h.below.size hg (fun k e => by cases e; omega)⟩
theorem apart_new {w3 : World} {v v' u : Value} {base : Nat} {xs : List ByteArray} (ha : v.ownBlock = none ∨ v.ownBlock ≠ u.ownBlock) (hu : SRow w3 base u xs) (hat : v'.ownBlock = v.ownBlock ∨ ∃ k, v'.ownBlock = some k ∧ w3.heap.size ≤ k) : v'.ownBlock = none ∨ v'.ownBlock ≠ u.ownBlock := by
  rcases hat with e | ⟨k, e, hk⟩
  · rw [e]; exact ha
  · refine .inr fun e' => ?_
    rw [e] at e'
    have := own_lt hu k e'.symm
    omega
theorem apart_flip {v u : Value} (ha : v.ownBlock = none ∨ v.ownBlock ≠ u.ownBlock) : u.ownBlock = none ∨ u.ownBlock ≠ v.ownBlock := by
  rcases ha with e | e
  · rw [e]
    cases u.ownBlock <;> simp
  · exact .inr (fun h => e h.symm)
theorem WRel.app5 {w w3 w4 : World} {g : Nat} {v5 v5' v7 : Value} {st seen mis : List ByteArray} {x : ByteArray} (h : WRel w w3 g v5 v7 st seen mis) (hr : SRow w4 w.heap.size v5' (mis ++ [x])) (hg : w3.grownBy w4 v5.ownBlock) (hat : v5'.ownBlock = v5.ownBlock ∨ ∃ k, v5'.ownBlock = some k ∧ w3.heap.size ≤ k) : WRel w w4 g v5' v7 st seen (mis ++ [x]) :=
  ⟨h.row7.other hg (apart_flip h.apart), hr, apart_new h.apart h.row7 hat, h.set.kept hg (map_ne_row h.set h.row5), pw_below_grown h.below _ h.below.size hg h.row5.base_le⟩
theorem WRel.app7 {w w3 w4 : World} {g : Nat} {v5 v7 v7' : Value} {st us seen mis : List ByteArray} (h : WRel w w3 g v5 v7 st seen mis) (hr : SRow w4 w.heap.size v7' (st ++ us)) (hg : w3.grownBy w4 v7.ownBlock) (hat : v7'.ownBlock = v7.ownBlock ∨ ∃ k, v7'.ownBlock = some k ∧ w3.heap.size ≤ k) : WRel w w4 g v5 v7' (st ++ us) seen mis :=
  ⟨hr, h.row5.other hg h.apart, apart_flip (apart_new (apart_flip h.apart) h.row5 hat), h.set.kept hg (map_ne_row h.set h.row7), pw_below_grown h.below _ h.below.size hg h.row7.base_le⟩
theorem uses_after {w w' w3 : World} {gu n g : Nat} {f : Lit → Option Value} (hm : MapIs Try.prog 9 w gu n f) (hb : Below w.heap.size w w') (hg : w'.grownBy w3 (some g)) (he : g = w.heap.size) : MapIs Try.prog 9 w3 gu n f := by
  have h1 := hm.below hb
  have hlt := hm.lt
  exact h1.kept hg (fun e => by cases e; omega)
theorem blk_after {w w' w3 : World} {b gu gh g : Nat} {l : List S41} {hv stack seen mis : List ByteArray} {v5 v7 : Value} (hN : NetAt w b gu gh l hv) (hR : WRel w w' g v5 v7 stack seen mis) (hg : w'.grownBy w3 (some g)) (he : g = w.heap.size) : w3.cell? ⟨b, 0, none⟩ = some (.map (some gu)) := by
  have h1 := (hN.below hR.below).blk
  have hlt := blk_lt hN.blk
  have h2 := blk_grown h1 hg (fun e => by cases e; omega)
  exact (blk_cell h2 0).trans rfl

/-- What is known of the lists. -/
structure WPure (l : Net ByteArray) (hv want stack seen mis : List ByteArray) (k : Nat) : Prop where
  dfs : Dfs l hv want stack seen
  mis_ : ∀ x, x ∈ mis ↔ x ∈ seen ∧ usesOf l x = none
  misl : mis.length ≤ seen.length
  cnt : seen.length + stack.length + pot l seen ≤ want.length + pot l []
  k : k = stack.length + pot l seen + 1
  sz : ∀ x ∈ stack, x.size ≤ maxLen

theorem pot_tot : ∀ (l : Net ByteArray), pot l [] ≤ tot l
  | [] => Nat.le_refl _
  | a :: l => by
    have := pot_tot l
    simp only [pot, tot, List.not_mem_nil, if_false]
    omega

theorem WPure.skip {l : Net ByteArray} {hv want st seen mis : List ByteArray} {x : ByteArray} {k : Nat} (h : WPure l hv want (st ++ [x]) seen mis (k + 1)) (hx : x ∈ hv ∨ x ∈ seen) : WPure l hv want st seen mis k where
  dfs := h.dfs.skip hx
  mis_ := h.mis_
  misl := h.misl
  cnt := by have := h.cnt; simp at this; omega
  k := by have := h.k; simp at this; omega
  sz := fun y hy => h.sz y (List.mem_append_left _ hy)
theorem WPure.there {l : Net ByteArray} {hv want st seen mis us : List ByteArray} {x : ByteArray} {k : Nat} (h : WPure l hv want (st ++ [x]) seen mis (k + 1)) (hx : x ∉ hv) (hs : x ∉ seen) (hu : usesOf l x = some us) (hnd : (l.map (·.1)).Nodup) (hsz : ∀ u ∈ us, u.size ≤ maxLen) : WPure l hv want (st ++ us) (seen ++ [x]) mis k where
  dfs := by have := h.dfs.push hx hs; rwa [hu] at this
  mis_ := fun y => by
    rw [h.mis_, List.mem_append, List.mem_singleton]
    constructor
    · exact fun ⟨a, b⟩ => ⟨.inl a, b⟩
    · rintro ⟨a | rfl, b⟩
      · exact ⟨a, b⟩
      · rw [hu] at b; cases b
  misl := by have := h.misl; simp; omega
  cnt := by
    have h1 := h.cnt
    have h2 := pot_push hnd hs
    rw [hu] at h2
    simp at h1 h2 ⊢
    omega
  k := by
    have h1 := h.k
    have h2 := pot_push hnd hs
    rw [hu] at h2
    simp at h1 h2 ⊢
    omega
  sz := fun y hy => by
    rcases List.mem_append.1 hy with hy | hy
    · exact h.sz y (List.mem_append_left _ hy)
    · exact hsz y hy
theorem WPure.gone {l : Net ByteArray} {hv want st seen mis : List ByteArray} {x : ByteArray} {k : Nat} (h : WPure l hv want (st ++ [x]) seen mis (k + 1)) (hx : x ∉ hv) (hs : x ∉ seen) (hu : usesOf l x = none) (hnd : (l.map (·.1)).Nodup) : WPure l hv want st (seen ++ [x]) (mis ++ [x]) k where
  dfs := by have := h.dfs.push hx hs; rw [hu] at this; simpa using this
  mis_ := fun y => by
    rw [List.mem_append, h.mis_, List.mem_append, List.mem_singleton]
    constructor
    · rintro (⟨a, b⟩ | rfl)
      · exact ⟨.inl a, b⟩
      · exact ⟨.inr rfl, hu⟩
    · rintro ⟨a | rfl, b⟩
      · exact .inl ⟨a, b⟩
      · exact .inr rfl
  misl := by have := h.misl; simp; omega
  cnt := by
    have h1 := h.cnt
    have h2 := pot_push hnd hs
    rw [hu] at h2
    simp at h1 h2 ⊢
    omega
  k := by
    have h1 := h.k
    have h2 := pot_push hnd hs
    rw [hu] at h2
    simp at h1 h2 ⊢
    omega
  sz := fun y hy => h.sz y (List.mem_append_left _ hy)

def WantP (l : Net ByteArray) (want hv : List ByteArray) (w : World) (e : Ending) (w' : World) : Prop :=
  ∃ va vm all mis, e = .returned (.tuple #[va, vm]) ∧ SRow w' w.heap.size va all ∧ SRow w' w.heap.size vm mis ∧ (∀ x, x ∈ all ↔ Ord.Reach l hv want x) ∧ all.Pairwise (fun a b => ltN a b = true) ∧ (∀ x, x ∈ mis ↔ Ord.Reach l hv want x ∧ usesOf l x = none) ∧ all.length ≤ 6000000 ∧ mis.length ≤ 6000000 ∧ Below w.heap.size w w'

set_option maxHeartbeats 4000000 in
set_option maxRecDepth 100000 in
theorem wanted_calls (w : World) (b gu gh : Nat) (Aw : Option Addr) (cw : Nat) (l : List S41) (want hv : List ByteArray) (hN : NetAt w b gu gh l hv) (hCw : Kd.string.C w Aw want.length want) (htot : tot (netOf l) ≤ 3000000) (hwl : want.length ≤ 3000000) (hus : ∀ v ∈ l, ∀ u ∈ v.f1, u.size ≤ maxLen) (hwz : ∀ u ∈ want, u.size ≤ maxLen) (hnd : ((netOf l).map (·.1)).Nodup) :
    Calls Try.prog 19 #[.pointer (some ⟨b, 0, none⟩), .slice Aw want.length cw] w (WantP (netOf l) want hv w) := by
  have HN := Aside0.mk hN
  have HCW := Aside0.mk hCw
  have HUS := Aside0.mk hus
  have HWZ := Aside0.mk hwz
  have HTOT := Aside0.mk htot
  have HND := Aside0.mk hnd
  have HWL := Aside0.mk hwl
  clear hN hCw hus hwz htot hnd hwl
  have hmm := @run_makeMap Try.prog
  go_enter Try.func19, Try.ntmps19
  go_upto_region 2 with fail
  have hs1 := SetIs.made w
  have hb1 : Below w.heap.size w (w.alloc (.map #[] 0)) := below_alloc (Below.refl _ _) _
  generalize w.alloc (.map #[] 0) = w1 at *
  obtain ⟨g, hg⟩ : ∃ g, g = w.heap.size := ⟨_, rfl⟩
  rw [← hg] at hs1 ⊢
  have HG := Aside0.mk hg
  have HS1 := Aside0.mk hs1
  have HB1 := Aside0.mk hb1
  clear hg hs1 hb1
  go_wp2_with (go_at_call 36; refine (clone_names w1 Aw cw want (Kd.C_below HCW.out HB1.out) HWL.out).mono ?_; rintro e w2 ⟨v7, rfl, hr7, hb2⟩; have HR7 := Aside0.mk hr7; have HB2 := Aside0.mk hb2; clear hr7 hb2)
  obtain ⟨A7, c7, rfl⟩ := HR7.out.shape
  have h0 : WRel w w2 g (.slice none 0 0) (.slice A7 want.length c7) want [] [] := ⟨own_weaken HR7.out HB1.out.size, SRow.nil _ _, .inl rfl, HS1.out.below HB2.out, below_step HB1.out HB2.out⟩
  have p0 : WPure (netOf l) hv want want [] [] (want.length + pot (netOf l) [] + 1) := ⟨Dfs.start _ _ _, by simp, Nat.le_refl _, by simp, rfl, HWZ.out⟩
  have H0 := Aside0.mk (And.intro h0 p0)
  clear h0 p0 HS1 HB1 HR7 HB2
  go_loopg [5, 7] (want.length + pot (netOf l) [] + 1) (fun kq v5 v7 w' => Aside0 (∃ stack seen mis, WRel w w' g v5 v7 stack seen mis ∧ WPure (netOf l) hv want stack seen mis kq))
  case atStart => exact ⟨⟨_, _, _, H0.out.1, H0.out.2⟩⟩
  case round =>
    clear H0
    obtain ⟨stack, seen, mis, hR, hP⟩ := hrel.out
    have HP := Aside0.mk hP
    have hsl : seen.length + stack.length ≤ 6000000 := by
      have h1 := hP.cnt
      have h2 := pot_tot (netOf l)
      have h3 := HTOT.out
      have h4 := HWL.out
      omega
    have hml := hP.misl
    obtain ⟨A7', c7', e7⟩ := hR.row7.shape
    obtain ⟨A5', c5', e5⟩ := hR.row5.shape
    rcases stack.eq_nil_or_concat with hst | ⟨st, x, hst⟩
    · subst hst
      rw [List.length_nil] at e7
      subst e7
      subst e5
      have HR := Aside0.mk hR
      clear hR hP hrel
      go_wp2_with (first | (go_at_call 38; refine (keys_calls (some g) _).mono ?_; rintro e w' ⟨rfl, rfl⟩) | (go_at_call 37; refine (sorted_set wr g seen.length seen HR.out.set HP.out.dfs.nd (by omega)).mono ?_; rintro e w4 ⟨va, rfl, hra, hb4⟩; have HRA := Aside0.mk hra; have HB4 := Aside0.mk hb4; clear hra hb4))
      go_ret2
      refine ⟨_, _, sortB seen, mis, rfl, own_weaken HRA.out HR.out.below.size, HR.out.row5.below HB4.out, fun y => by rw [mem_sortB]; exact HP.out.dfs.done y, sortB_rising HP.out.dfs.nd, fun y => by rw [HP.out.mis_, HP.out.dfs.done], ?_, ?_, below_step HR.out.below HB4.out⟩
      · rw [sortB_length]; omega
      · omega
    · rw [List.concat_eq_append] at hst
      subst hst
      obtain ⟨k1, rfl⟩ : ∃ k1, gk = k1 + 1 := ⟨gk - 1, by have := hP.k; omega⟩
      have hl7 : (st ++ [x]).length = st.length + 1 := by simp
      rw [hl7] at e7
      subst e7
      subst e5
      obtain ⟨A7r, c7r, er, hcr, hCr⟩ := hR.row7.reads
      rw [hl7] at er
      simp only [Value.slice.injEq, true_and] at er
      obtain ⟨rfl, rfl⟩ := er
      obtain ⟨ad, rfl, z0⟩ := name_at hCr st.length (by simp)
      have hxe : (st ++ [x])[st.length]'(by simp) = x := by simp
      rw [hxe] at z0
      have hxs : x.size ≤ maxLen := HP.out.sz x (by simp)
      have hsl7 := slice_take (some ad) (st.length + 1) c7' st.length (by omega)
      have hst : seen.length + st.length + 1 ≤ 6000000 := by omega
      have HR := Aside0.mk hR
      have HXS := Aside0.mk hxs
      have n0 : wr.cell? ⟨b, 0, none⟩ = some (.map (some gu)) := (blk_cell (HN.out.below HR.out.below).blk 0).trans rfl
      have n1 : wr.cell? ⟨b, 1, none⟩ = some (.map (some gh)) := (blk_cell (HN.out.below HR.out.below).blk 1).trans rfl
      obtain ⟨nh, _, hsh⟩ := (HN.out.below HR.out.below).have_
      have HSH := Aside0.mk hsh
      clear hR hP hrel hl7 hCr hcr hxe hxs hsh hsl
      by_cases hx : x ∈ hv
      · have hxb : decide (x ∈ hv) = true := decide_eq_true hx
        go_wp2_with (at_lookup; refine set_look rfl _ _ rfl rfl HSH.out x rfl (HXS.out) ?_)
        go_roundg k1
        case measure => omega
        case rel => exact ⟨⟨st, seen, mis, HR.out.pop, HP.out.skip (.inl hx)⟩⟩
      · have hxb : decide (x ∈ hv) = false := decide_eq_false hx
        by_cases hs : x ∈ seen
        · have hsb : decide (x ∈ seen) = true := decide_eq_true hs
          go_wp2_with (first | (at_lookup; refine set_look rfl _ _ rfl rfl HSH.out x rfl (HXS.out) ?_) | (at_lookup; refine set_look_w rfl _ _ rfl rfl HR.out.set x rfl (HXS.out) ?_))
          go_roundg k1
          case measure => omega
          case rel => exact ⟨⟨st, seen, mis, HR.out.pop, HP.out.skip (.inr hs)⟩⟩
        · have hsb : decide (x ∈ seen) = false := decide_eq_false hs
          obtain ⟨F, nu, hmu, hF⟩ := HN.out.uses
          cases hu : usesOf (netOf l) x with
          | none =>
            have hfx := hF.1 x hu
            have HFX := Aside0.mk hfx
            have HU := Aside0.mk hu
            have HMU0 := Aside0.mk hmu
            clear hfx hu hmu hF
            go_wp2_with (first | (at_lookup; refine set_look rfl _ _ rfl rfl HSH.out x rfl (HXS.out) ?_) | (at_lookup; refine set_look_w rfl _ _ rfl rfl HR.out.set x rfl (HXS.out) ?_) | (at_mapUpdate; refine set_put rfl _ _ _ rfl rfl HR.out.set (by unfold maxLen; omega) x rfl rfl (HXS.out) ?_; intro w3 hs3 hg3; have HR3 := Aside0.mk (HR.out.pop.put hs3 hg3 HG.out); have HMU := Aside0.mk (uses_after HMU0.out HR.out.below hg3 HG.out); have n0' : w3.cell? ⟨b, 0, none⟩ = some (.map (some gu)) := blk_after HN.out HR.out hg3 HG.out; clear hs3 hg3 n0 n1) | (at_lookup; refine wpList_look_ok rfl _ _ 68 rfl 23 key9 Try.underlying68 (zero23 _) rfl HMU.out _ _ rfl (Go.WideMaps.keyOf_string_mk Try.underlying9 HXS.out) ?_; rw [keyB_at, HFX.out]) | ((with_reducible refine gate_builtin (b := .append) (xs := #[.tmp 54, .tmp 56]) rfl ?_); refine srow_append w.heap.size rfl (.tmp 54) (.tmp 56) rfl rfl x rfl HR3.out.row5 (by omega) HR3.out.below.size ?_; intro A6 c6 w6 hr hg hat; have HR6 := Aside0.mk (HR3.out.app5 hr hg hat); clear hr hg hat))
            go_roundg k1
            case measure => omega
            case rel => exact ⟨⟨st, seen ++ [x], mis ++ [x], HR6.out, HP.out.gone hx hs HU.out HND.out⟩⟩
          | some us =>
            obtain ⟨Au, cu, hfx, hcu, hCu⟩ := hF.2 x us hu
            have hul : st.length + us.length ≤ 6000000 := by
              have h1 := HP.out.cnt
              have h2 := pot_tot (netOf l)
              have h3 := HTOT.out
              have h4 := HWL.out
              have h5 := pot_push HND.out hs
              rw [hu] at h5
              simp at h1 h5
              omega
            have husz : ∀ u ∈ us, u.size ≤ maxLen := by
              have h1 := (usesOf_mem HND.out).1 hu
              simp only [netOf, List.mem_map, Prod.mk.injEq] at h1
              obtain ⟨v, hv1, _, rfl⟩ := h1
              exact HUS.out v hv1
            have HFX := Aside0.mk hfx
            have HCU := Aside0.mk hCu
            have HU := Aside0.mk hu
            have HMU0 := Aside0.mk hmu
            have HUSZ := Aside0.mk husz
            clear hfx hu hmu hF hCu hcu husz
            go_wp2_with (first | (at_lookup; refine set_look rfl _ _ rfl rfl HSH.out x rfl (HXS.out) ?_) | (at_lookup; refine set_look_w rfl _ _ rfl rfl HR.out.set x rfl (HXS.out) ?_) | (at_mapUpdate; refine set_put rfl _ _ _ rfl rfl HR.out.set (by unfold maxLen; omega) x rfl rfl (HXS.out) ?_; intro w3 hs3 hg3; have HR3 := Aside0.mk (HR.out.pop.put hs3 hg3 HG.out); have HMU := Aside0.mk (uses_after HMU0.out HR.out.below hg3 HG.out); have n0' : w3.cell? ⟨b, 0, none⟩ = some (.map (some gu)) := blk_after HN.out HR.out hg3 HG.out; clear hs3 hg3 n0 n1) | (at_lookup; refine wpList_look_ok rfl _ _ 68 rfl 23 key9 Try.underlying68 (zero23 _) rfl HMU.out _ _ rfl (Go.WideMaps.keyOf_string_mk Try.underlying9 HXS.out) ?_; rw [keyB_at, HFX.out]) | ((with_reducible refine gate_builtin (b := .append) (xs := #[.tmp 51, .tmp 52]) rfl ?_); refine srow_appendAll w.heap.size rfl (.tmp 51) (.tmp 52) rfl rfl rfl HR3.out.row7 (Kd.C_below HCU.out HR3.out.below) (by omega) HR3.out.below.size ?_; intro A6 c6 w6 hr hg hat; have HR6 := Aside0.mk (HR3.out.app7 hr hg hat); clear hr hg hat))
            go_roundg k1
            case measure => omega
            case rel => exact ⟨⟨st ++ us, seen ++ [x], mis, HR6.out, HP.out.there hx hs HU.out HND.out HUSZ.out⟩⟩
end Go.Proofs.Ytdllpgeagdckmaa.Q

/- The net's circle: does a name lie on a circle? -/
namespace Go.Proofs.Ytdllpgeagdckmaa.Q
open Go.RowKit Go.Proofs.YtdllpgeagdckmaaW.PrintWords Go.Proofs.YtdllpgeagdckmaaW.PrintLast Go.Proofs.YtdllpgeagdckmaaW.PrintMore Go.Proofs.Ytdllpgeagdckmaa.MapKit Go.Maps Go.Proofs.Ytdllpgeagdckmaa.Ord
attribute [local go_sem] max2_int min2_int max_two min_two max_three min_three max_four min_four
set_option linter.unusedVariables false
set_option linter.unusedSimpArgs false

structure CPure (l : Net ByteArray) (hv want stack seen : List ByteArray) (x0 : ByteArray) (k : Nat) : Prop where
  dfs : Dfs l hv want stack seen
  nin : x0 ∉ seen
  cnt : seen.length + stack.length + pot l seen ≤ want.length + pot l []
  k : k = stack.length + pot l seen + 1
  sz : ∀ x ∈ stack, x.size ≤ maxLen
theorem CPure.skip {l : Net ByteArray} {hv want st seen : List ByteArray} {x x0 : ByteArray} {k : Nat} (h : CPure l hv want (st ++ [x]) seen x0 (k + 1)) (hx : x ∈ hv ∨ x ∈ seen) : CPure l hv want st seen x0 k where
  dfs := h.dfs.skip hx
  nin := h.nin
  cnt := by have := h.cnt; simp at this; omega
  k := by have := h.k; simp at this; omega
  sz := fun y hy => h.sz y (List.mem_append_left _ hy)
theorem CPure.push {l : Net ByteArray} {hv want st seen us : List ByteArray} {x x0 : ByteArray} {k : Nat} (h : CPure l hv want (st ++ [x]) seen x0 (k + 1)) (hx : x ∉ hv) (hs : x ∉ seen) (hne : x ≠ x0) (hu : (usesOf l x).getD [] = us) (hnd : (l.map (·.1)).Nodup) (hsz : ∀ u ∈ us, u.size ≤ maxLen) : CPure l hv want (st ++ us) (seen ++ [x]) x0 k where
  dfs := by have := h.dfs.push hx hs; rwa [hu] at this
  nin := by
    rw [List.mem_append, List.mem_singleton, not_or]
    exact ⟨h.nin, fun e => hne e.symm⟩
  cnt := by
    have h1 := h.cnt
    have h2 := pot_push hnd hs
    rw [hu] at h2
    simp at h1 h2 ⊢
    omega
  k := by
    have h1 := h.k
    have h2 := pot_push hnd hs
    rw [hu] at h2
    simp at h1 h2 ⊢
    omega
  sz := fun y hy => by
    rcases List.mem_append.1 hy with hy | hy
    · exact h.sz y (List.mem_append_left _ hy)
    · exact hsz y hy

def CircP (l : Net ByteArray) (hv us0 : List ByteArray) (x0 : ByteArray) (w : World) (e : Ending) (w' : World) : Prop :=
  (Ord.Reach l hv us0 x0 ∧ e = .returned (.bool true) ∨ ¬ Ord.Reach l hv us0 x0 ∧ e = .returned (.bool false)) ∧ Below w.heap.size w w'

/-- What the map of uses says of a name. -/
theorem uses_get {w : World} {F : ByteArray → Option Value} {l : Net ByteArray} (h : UsesF w F l) (x : ByteArray) : ∃ A c, (F x).getD (.slice none 0 0) = .slice A ((usesOf l x).getD []).length c ∧ Kd.string.C w A ((usesOf l x).getD []).length ((usesOf l x).getD []) := by
  cases hu : usesOf l x with
  | none =>
    rw [h.1 x hu]
    exact ⟨none, 0, rfl, Kd.C_nil _ _⟩
  | some us =>
    obtain ⟨A, c, e, _, hC⟩ := h.2 x us hu
    rw [e]
    exact ⟨A, c, rfl, hC⟩

set_option maxHeartbeats 4000000 in
set_option maxRecDepth 100000 in
theorem circle_calls (w : World) (b gu gh : Nat) (l : List S41) (hv us0 : List ByteArray) (x0 : ByteArray) (hN : NetAt w b gu gh l hv) (htot : tot (netOf l) ≤ 3000000) (hus : ∀ v ∈ l, ∀ u ∈ v.f1, u.size ≤ maxLen) (hx0 : x0.size ≤ maxLen) (hnd : ((netOf l).map (·.1)).Nodup) (hu0 : usesOf (netOf l) x0 = some us0) (hul : us0.length ≤ 3000000) :
    Calls Try.prog 21 #[.pointer (some ⟨b, 0, none⟩), .string x0] w (CircP (netOf l) hv us0 x0 w) := by
  have husz : ∀ x us, usesOf (netOf l) x = some us → ∀ u ∈ us, u.size ≤ maxLen := fun x us hu => by
    have h1 := (usesOf_mem hnd).1 hu
    simp only [netOf, List.mem_map, Prod.mk.injEq] at h1
    obtain ⟨v, hv1, _, rfl⟩ := h1
    exact hus v hv1
  have HUSZ := Aside0.mk husz
  obtain ⟨F, nu, hmu, hF⟩ := hN.uses
  obtain ⟨A0, c0, hg0, hC0⟩ := uses_get hF x0
  rw [hu0, Option.getD_some] at hg0 hC0
  have HN := Aside0.mk hN
  have HMU := Aside0.mk hmu
  have HF := Aside0.mk hF
  have HG0 := Aside0.mk hg0
  have HC0 := Aside0.mk hC0
  have HTOT := Aside0.mk htot
  have HND := Aside0.mk hnd
  have HX0 := Aside0.mk hx0
  have HUL := Aside0.mk hul
  have HU0 := Aside0.mk hu0
  have n0 : w.cell? ⟨b, 0, none⟩ = some (.map (some gu)) := (blk_cell hN.blk 0).trans rfl
  clear hN hmu hF hg0 hC0 htot hnd hx0 hul husz hus hu0
  have hmm := @run_makeMap Try.prog
  go_enter Try.func21, Try.ntmps21
  go_wp2_with fail
  go_step3
  go_upto_region 2 with fail
  have hs1 := SetIs.made w
  have hb1 : Below w.heap.size w (w.alloc (.map #[] 0)) := below_alloc (Below.refl _ _) _
  have n0' := pw_cell_below hb1 n0
  generalize w.alloc (.map #[] 0) = w1 at *
  obtain ⟨g, hg⟩ : ∃ g, g = w.heap.size := ⟨_, rfl⟩
  rw [← hg] at hs1 ⊢
  have HG := Aside0.mk hg
  have HS1 := Aside0.mk hs1
  have HB1 := Aside0.mk hb1
  clear hg hs1 hb1 n0
  go_wp2_with (first | (at_lookup; refine wpList_look rfl _ _ 68 rfl 23 key9 Try.underlying68 (zero23 _) rfl (HMU.out.below HB1.out) _ _ rfl (Go.WideMaps.keyOf_string_mk Try.underlying9 HX0.out) ?_; rw [keyB_at, HG0.out]) | (go_at_call 36; refine (clone_names w1 A0 c0 us0 (Kd.C_below HC0.out HB1.out) HUL.out).mono ?_; rintro e w2 ⟨v7, rfl, hr7, hb2⟩; have HR7 := Aside0.mk hr7; have HB2 := Aside0.mk hb2; clear hr7 hb2))
  clear n0'
  obtain ⟨A7, c7, rfl⟩ := HR7.out.shape
  have h0 : WRel w w2 g (.slice none 0 0) (.slice A7 us0.length c7) us0 [] [] := ⟨own_weaken HR7.out HB1.out.size, SRow.nil _ _, .inl rfl, HS1.out.below HB2.out, below_step HB1.out HB2.out⟩
  have p0 : CPure (netOf l) hv us0 us0 [] x0 (us0.length + pot (netOf l) [] + 1) := ⟨Dfs.start _ _ _, by simp, by simp, rfl, HUSZ.out x0 us0 HU0.out⟩
  have H0 := Aside0.mk (And.intro h0 p0)
  clear h0 p0 HS1 HB1 HR7 HB2
  go_step3
  go_wp2_with fail
  go_loopg [6] (us0.length + pot (netOf l) [] + 1) (fun kq v6 w' => Aside0 (∃ stack seen, WRel w w' g (.slice none 0 0) v6 stack seen [] ∧ CPure (netOf l) hv us0 stack seen x0 kq))
  case atStart => exact ⟨⟨_, _, H0.out.1, H0.out.2⟩⟩
  case round =>
    clear H0
    obtain ⟨stack, seen, hR, hP⟩ := hrel.out
    have HP := Aside0.mk hP
    have hsl : seen.length + stack.length ≤ 6000000 := by
      have h1 := hP.cnt
      have h2 := pot_tot (netOf l)
      have h3 := HTOT.out
      have h4 := HUL.out
      omega
    obtain ⟨A7', c7', e7⟩ := hR.row7.shape
    rcases stack.eq_nil_or_concat with hst | ⟨st, x, hst⟩
    · subst hst
      rw [List.length_nil] at e7
      subst e7
      have HR := Aside0.mk hR
      clear hR hP hrel
      go_wp2_with fail
      rw [Exit.noGoto_ret]
      go_ret
      exact ⟨.inr ⟨fun h => HP.out.nin ((HP.out.dfs.done x0).2 h), rfl⟩, HR.out.below⟩
    · rw [List.concat_eq_append] at hst
      subst hst
      obtain ⟨k1, rfl⟩ : ∃ k1, gk = k1 + 1 := ⟨gk - 1, by have := hP.k; omega⟩
      have hl7 : (st ++ [x]).length = st.length + 1 := by simp
      rw [hl7] at e7
      subst e7
      obtain ⟨A7r, c7r, er, hcr, hCr⟩ := hR.row7.reads
      rw [hl7] at er
      simp only [Value.slice.injEq, true_and] at er
      obtain ⟨rfl, rfl⟩ := er
      obtain ⟨ad, rfl, z0⟩ := name_at hCr st.length (by simp)
      have hxe : (st ++ [x])[st.length]'(by simp) = x := by simp
      rw [hxe] at z0
      have hxs : x.size ≤ maxLen := HP.out.sz x (by simp)
      have hsl7 := slice_take (some ad) (st.length + 1) c7' st.length (by omega)
      have hst : seen.length + st.length + 1 ≤ 6000000 := by omega
      have HR := Aside0.mk hR
      have HXS := Aside0.mk hxs
      have n0 : wr.cell? ⟨b, 0, none⟩ = some (.map (some gu)) := (blk_cell (HN.out.below HR.out.below).blk 0).trans rfl
      have n1 : wr.cell? ⟨b, 1, none⟩ = some (.map (some gh)) := (blk_cell (HN.out.below HR.out.below).blk 1).trans rfl
      obtain ⟨nh, _, hsh⟩ := (HN.out.below HR.out.below).have_
      have HSH := Aside0.mk hsh
      clear hR hP hrel hl7 hCr hcr hxe hxs hsh hsl
      by_cases hx : x ∈ hv
      · have hxb : decide (x ∈ hv) = true := decide_eq_true hx
        go_wp2_with (at_lookup; refine set_look rfl _ _ rfl rfl HSH.out x rfl (HXS.out) ?_)
        go_roundg k1
        case measure => omega
        case rel => exact ⟨⟨st, seen, HR.out.pop, HP.out.skip (.inl hx)⟩⟩
      · have hxb : decide (x ∈ hv) = false := decide_eq_false hx
        by_cases hs : x ∈ seen
        · have hsb : decide (x ∈ seen) = true := decide_eq_true hs
          go_wp2_with (first | (at_lookup; refine set_look rfl _ _ rfl rfl HSH.out x rfl (HXS.out) ?_) | (at_lookup; refine set_look_w rfl _ _ rfl rfl HR.out.set x rfl (HXS.out) ?_))
          go_roundg k1
          case measure => omega
          case rel => exact ⟨⟨st, seen, HR.out.pop, HP.out.skip (.inr hs)⟩⟩
        · have hsb : decide (x ∈ seen) = false := decide_eq_false hs
          by_cases he : x = x0
          · have heb : (x.toList == x0.toList) = true := by rw [he]; simp
            have HE := Aside0.mk he
            clear he
            go_wp2_with (first | (at_lookup; refine set_look rfl _ _ rfl rfl HSH.out x rfl (HXS.out) ?_) | (at_lookup; refine set_look_w rfl _ _ rfl rfl HR.out.set x rfl (HXS.out) ?_))
            rw [Exit.noGoto_ret]
            go_ret
            refine ⟨.inl ⟨?_, rfl⟩, HR.out.below⟩
            rw [← HE.out]
            exact HP.out.dfs.top hx
          · have heb : (x.toList == x0.toList) = false := by
              rw [beq_eq_false_iff_ne, toList_data, toList_data]
              exact fun e => he (bytes_ext e)
            obtain ⟨Au, cu, hgx, hCu⟩ := uses_get HF.out x
            obtain ⟨us, hus⟩ : ∃ us, us = (usesOf (netOf l) x).getD [] := ⟨_, rfl⟩
            rw [← hus] at hgx hCu
            have hul : st.length + us.length ≤ 6000000 := by
              have h1 := HP.out.cnt
              have h2 := pot_tot (netOf l)
              have h3 := HTOT.out
              have h4 := HUL.out
              have h5 := pot_push HND.out hs
              rw [← hus] at h5
              simp at h1 h5
              omega
            have husz : ∀ u ∈ us, u.size ≤ maxLen := by
              rw [hus]
              cases hu : usesOf (netOf l) x with
              | none => simp
              | some us' => exact HUSZ.out x us' hu
            have HGX := Aside0.mk hgx
            have HCU := Aside0.mk hCu
            have HUS := Aside0.mk hus.symm
            have HUZ := Aside0.mk husz
            clear hgx hus hCu husz
            go_wp2_with (first | (at_lookup; refine set_look rfl _ _ rfl rfl HSH.out x rfl (HXS.out) ?_) | (at_lookup; refine set_look_w rfl _ _ rfl rfl HR.out.set x rfl (HXS.out) ?_) | (at_mapUpdate; refine set_put rfl _ _ _ rfl rfl HR.out.set (by unfold maxLen; omega) x rfl rfl (HXS.out) ?_; intro w3 hs3 hg3; have HR3 := Aside0.mk (HR.out.pop.put hs3 hg3 HG.out); have HMU3 := Aside0.mk (uses_after HMU.out HR.out.below hg3 HG.out); have n0' : w3.cell? ⟨b, 0, none⟩ = some (.map (some gu)) := blk_after HN.out HR.out hg3 HG.out; clear hs3 hg3 n0 n1) | (at_lookup; refine wpList_look rfl _ _ 68 rfl 23 key9 Try.underlying68 (zero23 _) rfl HMU3.out _ _ rfl (Go.WideMaps.keyOf_string_mk Try.underlying9 HXS.out) ?_; rw [keyB_at, HGX.out]) | ((with_reducible refine gate_builtin (b := .append) (xs := #[.tmp 48, .tmp 54]) rfl ?_); refine srow_appendAll w.heap.size rfl (.tmp 48) (.tmp 54) rfl rfl rfl HR3.out.row7 (Kd.C_below HCU.out HR3.out.below) (by omega) HR3.out.below.size ?_; intro A6 c6 w6 hr hg hat; have HR6 := Aside0.mk (HR3.out.app7 hr hg hat); clear hr hg hat))
            go_roundg k1
            case measure => omega
            case rel => exact ⟨⟨st ++ us, seen ++ [x], HR6.out, HP.out.push hx hs he HUS.out HND.out HUZ.out⟩⟩
end Go.Proofs.Ytdllpgeagdckmaa.Q

/- The net's sort: names, each behind what it uses, the least first. -/
namespace Go.Proofs.Ytdllpgeagdckmaa.Q
open Go.RowKit Go.Proofs.YtdllpgeagdckmaaW.PrintWords Go.Proofs.YtdllpgeagdckmaaW.PrintLast Go.Proofs.YtdllpgeagdckmaaW.PrintMore Go.Proofs.Ytdllpgeagdckmaa.MapKit Go.Maps Go.Proofs.Ytdllpgeagdckmaa.Ord
attribute [local go_sem] max2_int min2_int max_two min_two max_three min_three max_four min_four
set_option linter.unusedVariables false
set_option linter.unusedSimpArgs false

/-- What has come so far. -/
structure GPure (l : Net ByteArray) (hv want all out : List ByteArray) : Prop where
  nodup : out.Nodup
  sub : ∀ x ∈ out, x ∈ all
  least : ∀ i x, out[i]? = some x → IsLeast ltN (Ord.Next l hv want (out.take i)) x
theorem GPure.next {l : Net ByteArray} {hv want all out : List ByteArray} {x : ByteArray} (h : GPure l hv want all out) (hall : ∀ x, x ∈ all ↔ Ord.Reach l hv want x) (hx : IsLeast ltN (Ord.Next l hv want out) x) : GPure l hv want all (out ++ [x]) where
  nodup := by
    rw [List.nodup_append]
    exact ⟨h.nodup, by simp, fun a ha b hb e => hx.1.2.1 (by rw [← List.mem_singleton.1 hb, ← e]; exact ha)⟩
  sub := fun y hy => by
    rcases List.mem_append.1 hy with hy | hy
    · exact h.sub y hy
    · rw [List.mem_singleton.1 hy]
      exact (hall x).2 hx.1.1
  least := fun i y hi => by
    rcases Nat.lt_or_ge i out.length with hlt | hge
    · rw [List.getElem?_append_left hlt] at hi
      rw [List.take_append_of_le_length (by omega)]
      exact h.least i y hi
    · rw [List.getElem?_append_right hge] at hi
      have hi0 : i - out.length = 0 := by
        rcases Nat.eq_zero_or_pos (i - out.length) with h0 | h0
        · exact h0
        · rw [List.getElem?_eq_none (by simp; omega)] at hi
          cases hi
      rw [hi0] at hi
      simp at hi
      subst hi
      have : i = out.length := by omega
      rw [this, List.take_left]
      exact hx

def SortP (l : Net ByteArray) (hv want : List ByteArray) (w : World) (e : Ending) (w' : World) : Prop :=
  ∃ v out, e = .returned v ∧ SRow w' w.heap.size v out ∧ Greedy ltN l hv want out ∧ out.length ≤ 6000000 ∧ Below w.heap.size w w'

/-- Between two rounds. -/
structure SRel (w w' : World) (g : Nat) (v5 : Value) (hv out : List ByteArray) (n : Nat) : Prop where
  row : SRow w' w.heap.size v5 out
  set : SetIs w' g n (hv ++ out)
  below : Below w.heap.size w w'

/-- Nobody ahead of i can come. -/
def NotYet (l : Net ByteArray) (hv want all out : List ByteArray) (i : Nat) : Prop := ∀ j x, j < i → all[j]? = some x → ¬ Ord.Next l hv want out x

theorem least_of_first {l : Net ByteArray} {hv want all out : List ByteArray} (hall : ∀ x, x ∈ all ↔ Ord.Reach l hv want x) (hr : all.Pairwise (fun a b => ltN a b = true)) {i : Nat} {x : ByteArray} (hi : all[i]? = some x) (hn : NotYet l hv want all out i) (hx : Ord.Next l hv want out x) : IsLeast ltN (Ord.Next l hv want out) x := by
  refine ⟨hx, fun y hy => ?_⟩
  obtain ⟨j, hj⟩ := List.getElem?_of_mem ((hall y).2 hy.1)
  rcases Nat.lt_trichotomy j i with h | h | h
  · exact absurd hy (hn j y h hj)
  · subst h
    rw [hi] at hj
    cases hj
    exact totN.irr _
  · obtain ⟨hi1, hi2⟩ := List.getElem?_eq_some_iff.1 hi
    obtain ⟨hj1, hj2⟩ := List.getElem?_eq_some_iff.1 hj
    have h1 := List.pairwise_iff_getElem.1 hr i j hi1 hj1 h
    rw [hi2, hj2] at h1
    cases hc : ltN y x with
    | false => rfl
    | true =>
      have := totN.tr _ _ _ h1 hc
      rw [totN.irr] at this
      cases this

set_option maxHeartbeats 4000000 in
set_option maxRecDepth 100000 in
theorem sort_calls (w : World) (b gu gh : Nat) (A : Option Addr) (c : Nat) (l : List S41) (want hv all : List ByteArray) (hN : NetAt w b gu gh l hv) (hCa : Kd.string.C w A all.length all) (hal : all.length ≤ 6000000) (haz : ∀ x ∈ all, x.size ≤ maxLen) (hus : ∀ v ∈ l, ∀ u ∈ v.f1, u.size ≤ maxLen) (htot : tot (netOf l) ≤ 3000000) (hnd : ((netOf l).map (·.1)).Nodup)
    (hall : ∀ x, x ∈ all ↔ Ord.Reach (netOf l) hv want x) (hri : all.Pairwise (fun a b => ltN a b = true)) (h1 : ∀ x, Ord.Reach (netOf l) hv want x → usesOf (netOf l) x ≠ none) (h2 : ∀ x, Ord.Reach (netOf l) hv want x → ¬ Cyc (netOf l) hv x) :
    Calls Try.prog 22 #[.pointer (some ⟨b, 0, none⟩), .slice A all.length c] w (SortP (netOf l) hv want w) := by
  have husz : ∀ x us, usesOf (netOf l) x = some us → us.length ≤ 3000000 ∧ ∀ u ∈ us, u.size ≤ maxLen := fun x us hu => by
    have h1 := (usesOf_mem hnd).1 hu
    have h2 : us.length ≤ tot (netOf l) := by
      obtain ⟨i, hi⟩ := List.getElem?_of_mem h1
      obtain ⟨hi1, hi2⟩ := List.getElem?_eq_some_iff.1 hi
      have := tot_uses hi1
      rw [hi2] at this
      simp only at this
      omega
    simp only [netOf, List.mem_map, Prod.mk.injEq] at h1
    obtain ⟨v, hv1, _, rfl⟩ := h1
    exact ⟨by omega, hus v hv1⟩
  have HUSZ := Aside0.mk husz
  obtain ⟨F, nu, hmu, hF⟩ := hN.uses
  obtain ⟨nh, hnh, hsh⟩ := hN.have_
  have HN := Aside0.mk hN
  have HMU := Aside0.mk hmu
  have HF := Aside0.mk hF
  have HSH := Aside0.mk hsh
  have HCA := Aside0.mk hCa
  have HAZ := Aside0.mk haz
  have HND := Aside0.mk hnd
  have HALL := Aside0.mk hall
  have HRI := Aside0.mk hri
  have HH1 := Aside0.mk h1
  have HH2 := Aside0.mk h2
  have n1 : w.cell? ⟨b, 1, none⟩ = some (.map (some gh)) := (blk_cell hN.blk 1).trans rfl
  clear hN hmu hF hsh hCa haz hnd hall hri h1 h2 husz hus htot
  go_enter Try.func22, Try.ntmps22
  go_wp2_with (go_at_call 39; refine (clone_set w gh nh hv HSH.out).mono ?_; rintro e w1 ⟨rfl, hs1, hb1⟩; have HS1 := Aside0.mk hs1; have HB1 := Aside0.mk hb1; clear hs1 hb1 n1)
  obtain ⟨g, hg⟩ : ∃ g, g = w.heap.size := ⟨_, rfl⟩
  have hs1 := HS1.out
  rw [← hg] at hs1 ⊢
  have HG := Aside0.mk hg
  have H0 : Aside0 (SRel w w1 g (.slice none 0 0) hv [] nh ∧ GPure (netOf l) hv want all []) := ⟨⟨SRow.nil _ _, by simpa using hs1, HB1.out⟩, ⟨List.nodup_nil, by simp, fun i x hi => by simp at hi⟩⟩
  clear hg hs1 HS1 HB1
  go_loopg [5] (all.length + 1) (fun kq v5 w' => Aside0 (∃ out, SRel w w' g v5 hv out (nh + out.length) ∧ GPure (netOf l) hv want all out ∧ kq + out.length = all.length + 1))
  case atStart => exact ⟨⟨[], H0.out.1, H0.out.2, by simp⟩⟩
  case round =>
    clear H0
    obtain ⟨out, hR, hP, hkk⟩ := hrel.out
    have hlo : out.length ≤ all.length := subset_length hP.nodup hP.sub
    obtain ⟨A5, c5, rfl⟩ := hR.row.shape
    obtain ⟨S, hS⟩ : ∃ S, S = hv ++ out := ⟨_, rfl⟩
    have hset := hR.set
    rw [← hS] at hset
    have HSET := Aside0.mk hset
    have HSM := Aside0.mk (show ∀ x, x ∈ S ↔ x ∈ hv ∨ x ∈ out from fun x => by rw [hS, List.mem_append])
    have HSE := Aside0.mk hS
    have HR := Aside0.mk hR
    have HP := Aside0.mk hP
    clear hR hP hrel hS hset
    by_cases hlt : out.length < all.length
    · have hz : decide ((out.length : Int) < (all.length : Int)) = true := decide_eq_true (by omega)
      obtain ⟨k1, rfl⟩ : ∃ k1, gk = k1 + 1 := ⟨gk - 1, by omega⟩
      have hnn : ¬ NotYet (netOf l) hv want all out all.length := fun hn => by
        have hex : ∃ x0, x0 ∈ all ∧ x0 ∉ out := by
          refine Classical.byContradiction fun hno => ?_
          have hsub : ∀ x ∈ all, x ∈ out := fun x hx => Classical.byContradiction fun hxo => hno ⟨x, hx, hxo⟩
          have hna : all.Nodup := HRI.out.imp fun {a b} hl e => by rw [e, totN.irr] at hl; cases hl
          have := subset_length hna hsub
          omega
        obtain ⟨x0, hx0, hxo⟩ := hex
        obtain ⟨x, hx⟩ := exists_next HH1.out HH2.out all out HALL.out hx0 hxo
        obtain ⟨j, hj⟩ := List.getElem?_of_mem ((HALL.out x).2 hx.1)
        exact hn j x (List.getElem?_eq_some_iff.1 hj).1 hj hx
      have HNN := Aside0.mk hnn
      clear hnn
      go_wp2_with fail
      go_step3
      go_wp2_with fail
      go_step3
      go_wp2_with fail
      go_loopg [5, 23] (all.length + 1) (fun kq v5 v23 w' => ∃ i : Nat, v5 = .slice A5 out.length c5 ∧ v23 = .int .i64 (i : Int) ∧ Aside0 (i ≤ all.length) ∧ Aside0 (kq + i = all.length + 1) ∧ Aside0 (NotYet (netOf l) hv want all out i) ∧ w' = wr)
      case atStart => exact ⟨0, rfl, rfl, ⟨Nat.zero_le _⟩, ⟨by omega⟩, ⟨fun j x hj => by omega⟩, rfl⟩
      obtain ⟨i, rfl, rfl, HI, HKI, HNY, rfl⟩ := hrel
      have hi := HI.out
      have hki := HKI.out
      have hlti : i < all.length := by
        rcases Nat.lt_or_ge i all.length with h | h
        · exact h
        · have : i = all.length := by omega
          exact absurd (by rw [← this]; exact HNY.out) HNN.out
      have hzi : decide ((i : Int) < (all.length : Int)) = true := decide_eq_true (by omega)
      obtain ⟨k2, rfl⟩ : ∃ k2, gk = k2 + 1 := ⟨gk - 1, by omega⟩
      obtain ⟨ad, rfl, z0⟩ := name_at (Kd.C_below HCA.out HR.out.below) i hlti
      obtain ⟨x, hx⟩ : ∃ x, x = all[i] := ⟨_, rfl⟩
      rw [← hx] at z0
      have hxa : all[i]? = some x := by rw [List.getElem?_eq_getElem hlti, ← hx]
      have hxm : x ∈ all := by rw [hx]; exact List.getElem_mem hlti
      have hxs : x.size ≤ maxLen := HAZ.out x hxm
      have hxr := (HALL.out x).1 hxm
      have hxh : x ∉ hv := hxr.not_have
      obtain ⟨us, hus⟩ := Option.ne_none_iff_exists'.1 (HH1.out x hxr)
      obtain ⟨Au, cu, hgx, hCu⟩ := uses_get (HF.out.below HR.out.below) x
      rw [hus, Option.getD_some] at hgx hCu
      obtain ⟨hul, huz⟩ := HUSZ.out x us hus
      have HXA := Aside0.mk hxa
      have HXM := Aside0.mk hxm
      have HXS := Aside0.mk hxs
      have HXH := Aside0.mk hxh
      have HXR := Aside0.mk hxr
      have HU := Aside0.mk hus
      have HGX := Aside0.mk hgx
      have HCU := Aside0.mk hCu
      have HUZ := Aside0.mk huz
      have n0 : _ = some (Value.map (some gu)) := (blk_cell (HN.out.below HR.out.below).blk 0).trans rfl
      clear hxa hxm hxs hxr hxh hus hgx hCu huz hx hi
      by_cases hxo : x ∈ out
      · have hxS : x ∈ S := (HSM.out x).2 (.inr hxo)
        have hxd : decide (x ∈ S) = true := decide_eq_true hxS
        go_wp2_with (at_lookup; refine set_look rfl _ _ rfl rfl HSET.out x rfl (HXS.out) ?_)
        go_roundg k2
        case measure => omega
        case rel =>
          refine ⟨i + 1, rfl, by push_cast; rfl, ⟨by omega⟩, ⟨by omega⟩, ⟨fun j y hj hy hny => ?_⟩, rfl⟩
          rcases Nat.lt_or_ge j i with h | h
          · exact HNY.out j y h hy hny
          · obtain rfl : j = i := by omega
            rw [HXA.out] at hy
            cases hy
            exact hny.2.1 hxo
      · have hxS : x ∉ S := fun h => ((HSM.out x).1 h).elim HXH.out hxo
        have hxd : decide (x ∈ S) = false := decide_eq_false hxS
        go_wp2_with (first | (at_lookup; refine set_look rfl _ _ rfl rfl HSET.out x rfl (HXS.out) ?_) | (at_lookup; refine wpList_look rfl _ _ 68 rfl 23 key9 Try.underlying68 (zero23 _) rfl (HMU.out.below HR.out.below) _ _ rfl (Go.WideMaps.keyOf_string_mk Try.underlying9 HXS.out) ?_; rw [keyB_at, HGX.out]))
        go_loopg [37] (us.length + 1) (fun kq v37 w' => ∃ m : Nat, v37 = .int .i64 (m : Int) ∧ Aside0 (m ≤ us.length) ∧ Aside0 (kq + m = us.length + 1) ∧ Aside0 (∀ j y, j < m → us[j]? = some y → y ∈ S) ∧ w' = wr)
        case atStart => exact ⟨0, rfl, ⟨Nat.zero_le _⟩, ⟨by omega⟩, ⟨fun j y hj => by omega⟩, rfl⟩
        obtain ⟨m, rfl, HM, HKM, HYS, rfl⟩ := hrel
        have hm := HM.out
        have hkm := HKM.out
        by_cases hltm : m < us.length
        · have hzm : decide ((m : Int) < (us.length : Int)) = true := decide_eq_true (by omega)
          obtain ⟨k3, rfl⟩ : ∃ k3, gk = k3 + 1 := ⟨gk - 1, by omega⟩
          obtain ⟨ad2, rfl, z1⟩ := name_at HCU.out m hltm
          obtain ⟨u, hu⟩ : ∃ u, u = us[m] := ⟨_, rfl⟩
          rw [← hu] at z1
          have hua : us[m]? = some u := by rw [List.getElem?_eq_getElem hltm, ← hu]
          have hum : u ∈ us := by rw [hu]; exact List.getElem_mem hltm
          have hul2 : u.size ≤ maxLen := HUZ.out u hum
          have HUA := Aside0.mk hua
          have HUM := Aside0.mk hum
          have HUS := Aside0.mk hul2
          clear hua hum hul2 hu hm
          by_cases hud : u ∈ S
          · have hudb : decide (u ∈ S) = true := decide_eq_true hud
            go_wp2_with (at_lookup; refine set_look rfl _ _ rfl rfl HSET.out u rfl (HUS.out) ?_)
            go_roundg k3
            case measure => omega
            case rel =>
              refine ⟨m + 1, by push_cast; rfl, ⟨by omega⟩, ⟨by omega⟩, ⟨fun j y hj hy => ?_⟩, rfl⟩
              rcases Nat.lt_or_ge j m with h | h
              · exact HYS.out j y h hy
              · obtain rfl : j = m := by omega
                rw [HUA.out] at hy
                cases hy
                exact hud
          · have hudb : decide (u ∈ S) = false := decide_eq_false hud
            go_wp2_with (at_lookup; refine set_look rfl _ _ rfl rfl HSET.out u rfl (HUS.out) ?_)
            go_roundg k2
            case measure => omega
            case rel =>
              refine ⟨i + 1, rfl, by push_cast; rfl, ⟨by omega⟩, ⟨by omega⟩, ⟨fun j y hj hy hny => ?_⟩, rfl⟩
              rcases Nat.lt_or_ge j i with h | h
              · exact HNY.out j y h hy hny
              · obtain rfl : j = i := by omega
                rw [HXA.out] at hy
                cases hy
                exact hud ((HSM.out u).2 (hny.2.2 us HU.out u HUM.out))
        · have hzm : decide ((m : Int) < (us.length : Int)) = false := decide_eq_false (by omega)
          have hml : m = us.length := by omega
          have hnx : IsLeast ltN (Ord.Next (netOf l) hv want out) x := least_of_first HALL.out HRI.out HXA.out HNY.out ⟨HXR.out, hxo, fun us' hus' u hu => by
            rw [HU.out] at hus'
            cases hus'
            obtain ⟨j, hj⟩ := List.getElem?_of_mem hu
            have hjl := (List.getElem?_eq_some_iff.1 hj).1
            exact (HSM.out u).1 (HYS.out j u (by omega) hj)⟩
          have HNX := Aside0.mk hnx
          clear hnx hml
          go_wp2_with (first | (at_mapUpdate; refine set_put rfl _ _ _ rfl rfl HSET.out (by unfold maxLen; omega) x rfl rfl (HXS.out) ?_; intro w3 hs3 hg3; have HS3 := Aside0.mk hs3; have HG3 := Aside0.mk hg3; have HR3 := Aside0.mk (HR.out.row.other hg3 (.inr (map_ne_row HSET.out HR.out.row))); have HB3 := Aside0.mk (show Below w.heap.size w w3 from pw_below_grown HR.out.below _ HR.out.below.size hg3 (fun k e => by cases e; have := HG.out; omega)); clear hs3 hg3) | ((with_reducible refine gate_builtin (b := .append) (xs := #[.tmp 48, .tmp 50]) rfl ?_); refine srow_append w.heap.size rfl (.tmp 48) (.tmp 50) rfl rfl x rfl HR3.out (by omega) HB3.out.size ?_; intro A6 c6 w6 hr hg hat; have HR6 := Aside0.mk hr; have HG6 := Aside0.mk hg; clear hr hg hat))
          rw [Exit.noGoto_normal]
          go_wp2_with fail
          go_roundg k1
          case measure => omega
          case rel =>
            refine ⟨⟨out ++ [x], ⟨?_, ?_, ?_⟩, HP.out.next HALL.out HNX.out, by simp; omega⟩⟩
            · exact HR6.out
            · rw [← List.append_assoc, ← HSE.out, List.length_append]
              exact HS3.out.kept HG6.out (map_ne_row HS3.out HR3.out)
            · exact pw_below_grown HB3.out _ HB3.out.size HG6.out HR3.out.base_le
    · have hz : decide ((out.length : Int) < (all.length : Int)) = false := decide_eq_false (by omega)
      go_wp2_with fail
      go_ret
      have hfull := subset_full HP.out.nodup HP.out.sub (by omega)
      exact ⟨_, out, rfl, HR.out.row, ⟨fun x => ⟨fun h => (HALL.out x).1 (HP.out.sub x h), fun h => hfull x ((HALL.out x).2 h)⟩, HP.out.nodup, HP.out.least⟩, by omega, HR.out.below⟩
end Go.Proofs.Ytdllpgeagdckmaa.Q

/- order.Sort: its answer is the one that the theory of nets gives. -/
namespace Go.Proofs.Ytdllpgeagdckmaa.Q
open Go.RowKit Go.Proofs.YtdllpgeagdckmaaW.PrintWords Go.Proofs.YtdllpgeagdckmaaW.PrintLast Go.Proofs.YtdllpgeagdckmaaW.PrintMore Go.Proofs.Ytdllpgeagdckmaa.MapKit Go.Maps Go.Proofs.Ytdllpgeagdckmaa.Ord
attribute [local go_sem] max2_int min2_int max_two min_two max_three min_three max_four min_four
set_option linter.unusedVariables false
set_option linter.unusedSimpArgs false

def noName : ByteArray := ⟨#[]⟩
def SortsB (l : List S41) (want hv : List ByteArray) (r : List ByteArray × ByteArray × Int) : Prop := Sorts ltN noName (netOf l) want hv r.1 r.2.1 r.2.2

def SortQ (l : List S41) (want hv : List ByteArray) (w : World) (e : Ending) (w' : World) : Prop :=
  ∃ v r1 r2 r3, e = .returned (.tuple #[v, .string r2, .int .i64 r3]) ∧ SortsB l want hv (r1, r2, r3) ∧ SRow w' w.heap.size v r1 ∧ Below w.heap.size w w'

set_option maxHeartbeats 4000000 in
set_option maxRecDepth 100000 in
theorem sort_walk (w : World) (A A1 A2 : Option Addr) (c c1 c2 : Nat) (l : List S41) (want hv : List ByteArray) (hC : Kd.C k41 w A l.length l) (hc : l.length ≤ c) (hC1 : Kd.string.C w A1 want.length want) (hc1 : want.length ≤ c1) (hC2 : Kd.string.C w A2 hv.length hv) (hc2 : hv.length ≤ c2) (hfit : Fit l want hv) :
    Calls Try.prog 8 #[.slice A l.length c, .slice A1 want.length c1, .slice A2 hv.length c2] w (SortQ l want hv w) := by
  have HC := Aside0.mk hC
  have HC1 := Aside0.mk hC1
  have HC2 := Aside0.mk hC2
  have HF := Aside0.mk hfit
  have HL := Aside0.mk hc
  clear hC hC1 hC2 hfit hc hc1 hc2
  go_enter Try.func8, Try.ntmps8
  go_wp2_with fail
  refine (twice_calls w A c l HC.out HL.out HF.out.tot_ HF.out.names HF.out.uses).mono ?_
  rintro e w1 ⟨⟨hb0, rfl⟩ | ⟨m, hm, rfl⟩, hb1⟩
  · have hnd := (bads_nil hb0).1
    have HB0 := Aside0.mk hb0
    have HND := Aside0.mk hnd
    have HB1 := Aside0.mk hb1
    clear hb0 hnd hb1
    go_wp2_with fail
    refine (of_calls w1 A A2 c c2 l hv (Kd.C_below HC.out HB1.out) (Kd.C_below HC2.out HB1.out) HF.out.tot_ HF.out.hv_ HF.out.names HF.out.havs HND.out).mono ?_
    rintro e w2 ⟨b, gu, gh, rfl, hN2, hb2⟩
    have HN2 := Aside0.mk hN2
    have HB2 := Aside0.mk (below_step HB1.out hb2)
    clear hN2 hb2
    go_wp2_with fail
    refine (wanted_calls w2 b gu gh A1 c1 l want hv HN2.out (Kd.C_below HC1.out HB2.out) HF.out.tot_ HF.out.want_ HF.out.uses HF.out.wants HND.out).mono ?_
    rintro e w3 ⟨va, vm, all, mis, rfl, hra, hrm, hall, hri, hmis, hal, hml, hb3⟩
    have HN3 := Aside0.mk (HN2.out.below hb3)
    have HB3 := Aside0.mk (below_step HB2.out hb3)
    obtain ⟨Aa, ca, rfl, hca, hCa⟩ := hra.reads
    obtain ⟨Am, cm, rfl, hcm, hCm⟩ := hrm.reads
    have HCA := Aside0.mk hCa
    have HCM := Aside0.mk hCm
    have HALL := Aside0.mk hall
    have HRI := Aside0.mk hri
    have HMIS := Aside0.mk hmis
    have HBW := Aside0.mk HB2.out.size
    clear hra hrm hall hri hmis hb3 hCa hCm hca hcm
    rcases Nat.eq_zero_or_pos mis.length with h0 | h0
    · have hm0 := List.eq_nil_of_length_eq_zero h0
      subst hm0
      have hh1 : ∀ x, Ord.Reach (netOf l) hv want x → usesOf (netOf l) x ≠ none := fun x hx hu => by
        have := (HMIS.out x).2 ⟨hx, hu⟩
        simp at this
      have HH1 := Aside0.mk hh1
      have haz : ∀ x ∈ all, x.size ≤ maxLen := fun x hx => by
        have hr := (HALL.out x).1 hx
        obtain ⟨us, hus⟩ := Option.ne_none_iff_exists'.1 (hh1 x hr)
        have h1 := (usesOf_mem HND.out).1 hus
        simp only [netOf, List.mem_map, Prod.mk.injEq] at h1
        obtain ⟨v, hv1, rfl, _⟩ := h1
        exact HF.out.names v hv1
      have HAZ := Aside0.mk haz
      clear hh1 haz h0
      go_wp2_with fail
      go_loopg [39] (all.length + 1) (fun kq v39 w' => ∃ i : Nat, v39 = .int .i64 (i : Int) ∧ Aside0 (i ≤ all.length) ∧ Aside0 (kq + i = all.length + 1) ∧ Aside0 (∀ j x, j < i → all[j]? = some x → ¬ Cyc (netOf l) hv x) ∧ Aside0 (Below w3.heap.size w3 w'))
      case atStart => exact ⟨0, rfl, ⟨Nat.zero_le _⟩, ⟨by omega⟩, ⟨fun j x hj => by omega⟩, ⟨Below.refl _ _⟩⟩
      obtain ⟨i, rfl, HI, HK, HCY, HBE⟩ := hrel
      have hi := HI.out
      have hk := HK.out
      by_cases hlt : i < all.length
      · have hz : decide ((i : Int) < (all.length : Int)) = true := decide_eq_true (by omega)
        obtain ⟨k1, rfl⟩ : ∃ k1, gk = k1 + 1 := ⟨gk - 1, by omega⟩
        obtain ⟨ad, rfl, z0⟩ := name_at (Kd.C_below HCA.out HBE.out) i hlt
        obtain ⟨x, hx⟩ : ∃ x, x = all[i] := ⟨_, rfl⟩
        rw [← hx] at z0
        have hxa : all[i]? = some x := by rw [List.getElem?_eq_getElem hlt, ← hx]
        have hxm : x ∈ all := by rw [hx]; exact List.getElem_mem hlt
        have hxr := (HALL.out x).1 hxm
        obtain ⟨us, hus⟩ := Option.ne_none_iff_exists'.1 (HH1.out x hxr)
        have hul : us.length ≤ 3000000 := by
          have h1 := (usesOf_mem HND.out).1 hus
          obtain ⟨j, hj⟩ := List.getElem?_of_mem h1
          obtain ⟨hj1, hj2⟩ := List.getElem?_eq_some_iff.1 hj
          have h2 := tot_uses hj1
          rw [hj2] at h2
          have h3 := HF.out.tot_
          simp only at h2
          omega
        have HXA := Aside0.mk hxa
        have HXR := Aside0.mk hxr
        have HU := Aside0.mk hus
        have HXS := Aside0.mk (HAZ.out x hxm)
        have HUL := Aside0.mk hul
        clear hxa hxm hxr hus hul hx hi
        go_wp2_with fail
        refine (circle_calls _ b gu gh l hv us x (HN3.out.below HBE.out) HF.out.tot_ HF.out.uses HXS.out HND.out HU.out HUL.out).mono ?_
        rintro e w4 ⟨⟨hr, rfl⟩ | ⟨hr, rfl⟩, hb4⟩
        · have HB4 := Aside0.mk hb4
          have HR := Aside0.mk hr
          clear hb4 hr
          go_wp2_with fail
          go_ret3
          refine ⟨_, [], x, 15, rfl, ?_, SRow.nil _ _, below_step HB3.out (below_step HBE.out HB4.out)⟩
          refine .cycle x HB0.out HH1.out ⟨⟨HXR.out, us, HU.out, HR.out⟩, fun y hy => ?_⟩
          obtain ⟨j, hj⟩ := List.getElem?_of_mem ((HALL.out y).2 hy.1)
          rcases Nat.lt_trichotomy j i with h | h | h
          · exact absurd hy.2 (HCY.out j y h hj)
          · subst h
            rw [HXA.out] at hj
            cases hj
            exact totN.irr _
          · obtain ⟨hi1, hi2⟩ := List.getElem?_eq_some_iff.1 HXA.out
            obtain ⟨hj1, hj2⟩ := List.getElem?_eq_some_iff.1 hj
            have h1 := List.pairwise_iff_getElem.1 HRI.out i j hi1 hj1 h
            rw [hi2, hj2] at h1
            cases hc : ltN y x with
            | false => rfl
            | true =>
              have := totN.tr _ _ _ h1 hc
              rw [totN.irr] at this
              cases this
        · have HB4 := Aside0.mk hb4
          have HR := Aside0.mk hr
          clear hb4 hr
          go_wp2_with fail
          go_roundg k1
          case measure => omega
          case rel =>
            refine ⟨i + 1, by push_cast; rfl, ⟨by omega⟩, ⟨by omega⟩, ⟨fun j y hj hy => ?_⟩, ⟨below_step HBE.out HB4.out⟩⟩
            rcases Nat.lt_or_ge j i with h | h
            · exact HCY.out j y h hy
            · obtain rfl : j = i := by omega
              rw [HXA.out] at hy
              cases hy
              rintro ⟨us', hus', hr'⟩
              rw [HU.out] at hus'
              cases hus'
              exact HR.out hr'
      · have hz : decide ((i : Int) < (all.length : Int)) = false := decide_eq_false (by omega)
        have hh2 : ∀ x, Ord.Reach (netOf l) hv want x → ¬ Cyc (netOf l) hv x := fun x hx => by
          obtain ⟨j, hj⟩ := List.getElem?_of_mem ((HALL.out x).2 hx)
          exact HCY.out j x (by have := (List.getElem?_eq_some_iff.1 hj).1; omega) hj
        have HH2 := Aside0.mk hh2
        clear hh2
        go_wp2_with fail
        refine (sort_calls _ b gu gh Aa ca l want hv all (HN3.out.below HBE.out) (Kd.C_below HCA.out HBE.out) hal HAZ.out HF.out.uses HF.out.tot_ HND.out HALL.out HRI.out HH1.out HH2.out).mono ?_
        rintro e w5 ⟨v, out, rfl, hr5, hg5, hl5, hb5⟩
        have HR5 := Aside0.mk hr5
        have HG5 := Aside0.mk hg5
        have HB5 := Aside0.mk hb5
        clear hr5 hg5 hb5
        go_wp2_with fail
        go_ret3
        exact ⟨_, out, noName, 0, rfl, .ok out HB0.out HH1.out HH2.out HG5.out, own_weaken HR5.out (below_step HB3.out HBE.out).size, below_step HB3.out (below_step HBE.out HB5.out)⟩
    · have h0b : (0 : Int) < (mis.length : Int) := by omega
      go_wp2_with fail
      refine (min_names _ Am cm mis HCM.out (by omega) h0).mono ?_
      rintro e w4 ⟨m, rfl, hm, rfl⟩
      have HM := Aside0.mk hm
      clear hm
      go_wp2_with fail
      go_ret3
      exact ⟨_, [], m, 6, rfl, .none_ m HB0.out (HM.out.congr HMIS.out), SRow.nil _ _, HB3.out⟩
  · have HM := Aside0.mk hm
    have HB1 := Aside0.mk hb1
    clear hm hb1
    go_wp2_with fail
    go_ret3
    exact ⟨_, [], m, 14, rfl, .twice m HM.out, SRow.nil _ _, HB1.out⟩

noncomputable def order_Sort.f (l : List S41) (want hv : List ByteArray) : Option (List ByteArray × ByteArray × Int) := by
  classical
  exact if h : Fit l want hv ∧ ∃ r, SortsB l want hv r then some (Classical.choose h.2) else none
theorem order_Sort.spec {l : List S41} {want hv : List ByteArray} {r : List ByteArray × ByteArray × Int} (h : order_Sort.f l want hv = some r) : Fit l want hv ∧ SortsB l want hv r := by
  unfold order_Sort.f at h
  split at h
  · rename_i hc
    simp only [Option.some.injEq] at h
    rw [← h]
    exact ⟨hc.1, Classical.choose_spec hc.2⟩
  · cases h
theorem order_Sort.of {l : List S41} {want hv : List ByteArray} {r : List ByteArray × ByteArray × Int} (hf : Fit l want hv) (h : SortsB l want hv r) : order_Sort.f l want hv = some r := by
  unfold order_Sort.f
  have hc : Fit l want hv ∧ ∃ r, SortsB l want hv r := ⟨hf, r, h⟩
  rw [dif_pos hc]
  have h2 := Classical.choose_spec hc.2
  obtain ⟨e1, e2, e3⟩ := Sorts.unique totN h h2
  congr 1
  exact (Prod.ext e1 (Prod.ext e2 e3)).symm

theorem order_Sort.calls (A0 : Option Addr) (c0 : Nat) (l0 : List S41) (A1 : Option Addr) (c1 : Nat) (l1 : List ByteArray) (A2 : Option Addr) (c2 : Nat) (l2 : List ByteArray) (r1 : List ByteArray) (r2 : ByteArray) (r3 : Int) (w : World) (hr0 : Kd.C k41 w A0 l0.length l0) (hc0 : l0.length ≤ c0) (hr1 : Kd.C Kd.string w A1 l1.length l1) (hc1 : l1.length ≤ c1) (hr2 : Kd.C Kd.string w A2 l2.length l2) (hc2 : l2.length ≤ c2) (h : order_Sort.f l0 l1 l2 = some (r1, r2, r3)) :
    Calls Try.prog 8 #[.slice A0 l0.length c0, .slice A1 l1.length c1, .slice A2 l2.length c2] w fun e w' => ∃ v0_ : Value, e = .returned (.tuple #[v0_, .string r2, .int .i64 r3]) ∧ Kd.R Kd.string 9 w' w.heap.size (fun _ => True) v0_ r1 ∧ Below w.heap.size w w' := by
  obtain ⟨hf, hs⟩ := order_Sort.spec h
  refine (sort_walk w A0 A1 A2 c0 c1 c2 l0 l1 l2 hr0 hc0 hr1 hc1 hr2 hc2 hf).mono ?_
  rintro e w' ⟨v, q1, q2, q3, rfl, hq, hrow, hb⟩
  obtain ⟨e1, e2, e3⟩ := Sorts.unique totN hq hs
  simp only at e1 e2 e3
  subst e1 e2 e3
  exact ⟨v, rfl, Kd.R_of_own hrow (fun _ _ => trivial), hb⟩
end Go.Proofs.Ytdllpgeagdckmaa.Q

/- There is always an answer; and what an order has that is one. Plain lists, no program. -/
namespace Go.Proofs.Ytdllpgeagdckmaa.Ord
set_option linter.unusedVariables false
set_option linter.unusedSimpArgs false
set_option linter.unusedSectionVars false
section
variable {N : Type} [DecidableEq N]

theorem sieve (P : N → Prop) : ∀ C : List N, ∃ D : List N, D.Nodup ∧ ∀ x, x ∈ D ↔ x ∈ C ∧ P x
  | [] => ⟨[], List.nodup_nil, by simp⟩
  | a :: C => by
    obtain ⟨D, hn, hm⟩ := sieve P C
    rcases Classical.em (P a ∧ a ∉ D) with h | h
    · refine ⟨a :: D, List.nodup_cons.2 ⟨h.2, hn⟩, fun x => ?_⟩
      rw [List.mem_cons, List.mem_cons, hm]
      constructor
      · rintro (rfl | ⟨h1, h2⟩)
        · exact ⟨.inl rfl, h.1⟩
        · exact ⟨.inr h1, h2⟩
      · rintro ⟨rfl | h1, h2⟩
        · exact .inl rfl
        · exact .inr ⟨h1, h2⟩
    · refine ⟨D, hn, fun x => ?_⟩
      rw [List.mem_cons, hm]
      constructor
      · rintro ⟨h1, h2⟩
        exact ⟨.inr h1, h2⟩
      · rintro ⟨rfl | h1, h2⟩
        · have h3 : x ∈ D := Classical.not_not.1 fun hx => h ⟨h2, hx⟩
          exact (hm x).1 h3
        · exact ⟨h1, h2⟩

theorem least_exists {lt : N → N → Bool} (T : Tot lt) {P : N → Prop} (C : List N) (hC : ∀ x, P x → x ∈ C) (h : ∃ x, P x) : ∃ m, IsLeast lt P m := by
  obtain ⟨D, _, hm⟩ := sieve P C
  obtain ⟨x, hx⟩ := h
  cases D with
  | nil => have := (hm x).2 ⟨hC x hx, hx⟩; simp at this
  | cons a D => exact ⟨_, (leastO_is T D a).congr fun y => (hm y).trans ⟨fun h => h.2, fun h => ⟨hC y h, h⟩⟩⟩

theorem usesOf_sub {list : Net N} {x : N} {us : List N} (h : usesOf list x = some us) : ∃ v ∈ list, v.2 = us := by
  unfold usesOf at h
  obtain ⟨v, hv, e⟩ := Option.map_eq_some_iff.1 h
  exact ⟨v, List.mem_of_find?_eq_some hv, e⟩
theorem Reach.cand {list : Net N} {hv from_ : List N} {x : N} (h : Reach list hv from_ x) : x ∈ from_ ++ list.flatMap (·.2) := by
  cases h with
  | base x h hn => exact List.mem_append_left _ h
  | step y x us hy hu h hn =>
    obtain ⟨v, hv, rfl⟩ := usesOf_sub hu
    exact List.mem_append_right _ (List.mem_flatMap.2 ⟨v, hv, h⟩)

theorem greedy_exists {lt : N → N → Bool} (T : Tot lt) {list : Net N} {hv want : List N} (h1 : ∀ x, Reach list hv want x → usesOf list x ≠ none) (h2 : ∀ x, Reach list hv want x → ¬ Cyc list hv x) : ∃ l, Greedy lt list hv want l := by
  obtain ⟨all, hn, hm⟩ := sieve (Reach list hv want) (want ++ list.flatMap (·.2))
  have hall : ∀ x, x ∈ all ↔ Reach list hv want x := fun x => (hm x).trans ⟨fun h => h.2, fun h => ⟨h.cand, h⟩⟩
  have key : ∀ n, n ≤ all.length → ∃ l : List N, l.length = n ∧ l.Nodup ∧ (∀ x ∈ l, x ∈ all) ∧ ∀ i x, l[i]? = some x → IsLeast lt (Next list hv want (l.take i)) x := by
    intro n
    induction n with
    | zero => exact fun _ => ⟨[], rfl, List.nodup_nil, by simp, by simp⟩
    | succ n ih =>
      intro hle
      obtain ⟨l, hl, hln, hls, hlg⟩ := ih (by omega)
      have : ∃ x0, x0 ∈ all ∧ x0 ∉ l := by
        apply Classical.byContradiction
        intro hc
        have hs : ∀ x ∈ all, x ∈ l := fun x hx => Classical.not_not.1 fun hx2 => hc ⟨x, hx, hx2⟩
        have := subset_length hn hs
        omega
      obtain ⟨x0, hx0, hx1⟩ := this
      obtain ⟨m, hmm⟩ := least_exists T (P := Next list hv want l) all (fun x hx => (hall x).2 hx.1) (exists_next h1 h2 all l hall hx0 hx1)
      refine ⟨l ++ [m], by simp [hl], ?_, ?_, ?_⟩
      · rw [List.nodup_append]
        exact ⟨hln, by simp, fun a ha b hb e => hmm.1.2.1 (by rw [← List.mem_singleton.1 hb, ← e]; exact ha)⟩
      · intro x hx
        rcases List.mem_append.1 hx with hx | hx
        · exact hls x hx
        · rw [List.mem_singleton.1 hx]; exact (hall m).2 hmm.1.1
      · intro i x hx
        rcases Nat.lt_or_ge i l.length with hi | hi
        · rw [List.getElem?_append_left hi] at hx
          rw [List.take_append_of_le_length (by omega)]
          exact hlg i x hx
        · rw [List.getElem?_append_right hi] at hx
          have hi0 : i - l.length = 0 := by
            have := (List.getElem?_eq_some_iff.1 hx).1
            simp at this
            omega
          rw [hi0] at hx
          have e : m = x := by simpa using hx
          have ei : i = l.length := by omega
          subst ei
          rw [List.take_left, ← e]
          exact hmm
  obtain ⟨l, hl, hln, hls, hlg⟩ := key all.length (Nat.le_refl _)
  exact ⟨l, fun x => ⟨fun hx => (hall x).1 (hls x hx), fun hx => subset_full hln hls (by omega) x ((hall x).2 hx)⟩, hln, hlg⟩

theorem sorts_exists {lt : N → N → Bool} (T : Tot lt) (emp : N) (list : Net N) (want hv : List N) : ∃ l m e, Sorts lt emp list want hv l m e := by
  by_cases h0 : bads list = []
  · by_cases h1 : ∃ x, Reach list hv want x ∧ usesOf list x = none
    · obtain ⟨m, hm⟩ := least_exists T (want ++ list.flatMap (·.2)) (fun x hx => hx.1.cand) h1
      exact ⟨_, _, _, .none_ m h0 hm⟩
    · have h1' : ∀ x, Reach list hv want x → usesOf list x ≠ none := fun x hx e => h1 ⟨x, hx, e⟩
      by_cases h2 : ∃ x, Reach list hv want x ∧ Cyc list hv x
      · obtain ⟨m, hm⟩ := least_exists T (want ++ list.flatMap (·.2)) (fun x hx => hx.1.cand) h2
        exact ⟨_, _, _, .cycle m h0 h1' hm⟩
      · have h2' : ∀ x, Reach list hv want x → ¬ Cyc list hv x := fun x hx e => h2 ⟨x, hx, e⟩
        obtain ⟨l, hl⟩ := greedy_exists T h1' h2'
        exact ⟨_, _, _, .ok l h0 h1' h2' hl⟩
  · have : ∃ x, x ∈ bads list := by
      cases hb : bads list with
      | nil => exact absurd hb h0
      | cons a l => exact ⟨a, by simp⟩
    obtain ⟨m, hm⟩ := least_exists T (bads list) (fun x hx => hx) this
    exact ⟨_, _, _, .twice m hm⟩

/-! ### What an order is -/
variable {lt : N → N → Bool} {list : Net N} {hv want l : List N}
theorem Greedy.wanted (h : Greedy lt list hv want l) {x : N} (hx : x ∈ want) : x ∈ l ∨ x ∈ hv :=
  (Classical.em (x ∈ hv)).symm.imp (fun hn => (h.mem x).2 (.base x hx hn)) id
theorem Greedy.apart (h : Greedy lt list hv want l) {x : N} (hx : x ∈ l) : x ∉ hv := ((h.mem x).1 hx).not_have
/-- What it uses was there, or came ahead of it. -/
theorem Greedy.behind (h : Greedy lt list hv want l) {i : Nat} {x : N} (hx : l[i]? = some x) {us : List N} (hus : usesOf list x = some us) {u : N} (hu : u ∈ us) : u ∈ hv ∨ u ∈ l.take i := (h.least i x hx).1.2.2 us hus u hu
/-- Who could have come a place earlier is greater. -/
theorem Greedy.early (h : Greedy lt list hv want l) {i : Nat} {x y : N} (hx : l[i + 1]? = some x) (hy : l[i]? = some y) (hr : ∀ us, usesOf list x = some us → ∀ u ∈ us, u ∈ hv ∨ u ∈ l.take i) : lt x y = false := by
  refine (h.least i y hy).2 x ⟨(h.mem x).1 (List.mem_of_getElem? hx), fun hm => ?_, hr⟩
  have e : l.take i = (l.take (i + 1)).take i := by rw [List.take_take, Nat.min_eq_left (by omega)]
  rw [e] at hm
  exact (h.least (i + 1) x hx).1.2.1 (List.mem_of_mem_take hm)
end
end Go.Proofs.Ytdllpgeagdckmaa.Ord

/- Levels: those that use nothing, those that use only them, and so on. Plain lists, no program. -/
namespace Go.Proofs.Ytdllpgeagdckmaa.Ord
set_option linter.unusedVariables false
set_option linter.unusedSimpArgs false
set_option linter.unusedSectionVars false
section
variable {N : Type} [DecidableEq N]

/-- One more than the highest of those that it uses; 0: it uses none. -/
def lvl (list : Net N) (F : N → Nat) (x : N) : Nat := ((usesOf list x).getD []).foldl (fun k u => max k (F u + 1)) 0
theorem foldl_max_congr {F G : N → Nat} : ∀ (us : List N) (k : Nat), (∀ u ∈ us, F u = G u) → us.foldl (fun k u => max k (F u + 1)) k = us.foldl (fun k u => max k (G u + 1)) k
  | [], k, _ => rfl
  | u :: us, k, h => by
    rw [List.foldl_cons, List.foldl_cons, h u List.mem_cons_self]
    exact foldl_max_congr us _ (fun v hv => h v (List.mem_cons_of_mem _ hv))
theorem lvl_congr {list : Net N} {F G : N → Nat} {x : N} (h : ∀ us, usesOf list x = some us → ∀ u ∈ us, F u = G u) : lvl list F x = lvl list G x := by
  unfold lvl
  cases hu : usesOf list x with
  | none => rfl
  | some us => exact foldl_max_congr us 0 (h us hu)
theorem foldl_max_le {F : N → Nat} : ∀ (us : List N) (k : Nat), k ≤ us.foldl (fun k u => max k (F u + 1)) k
  | [], k => Nat.le_refl _
  | u :: us, k => by
    rw [List.foldl_cons]
    exact Nat.le_trans (Nat.le_max_left _ _) (foldl_max_le us _)
theorem foldl_max_mem {F : N → Nat} : ∀ (us : List N) (k : Nat) (u : N), u ∈ us → F u + 1 ≤ us.foldl (fun k u => max k (F u + 1)) k
  | v :: us, k, u, h => by
    rw [List.foldl_cons]
    rcases List.mem_cons.1 h with rfl | h
    · exact Nat.le_trans (Nat.le_max_right _ _) (foldl_max_le us _)
    · exact foldl_max_mem us _ u h
theorem foldl_max_bound {F : N → Nat} {B : Nat} : ∀ (us : List N) (k : Nat), k ≤ B → (∀ u ∈ us, F u + 1 ≤ B) → us.foldl (fun k u => max k (F u + 1)) k ≤ B
  | [], k, h, _ => h
  | u :: us, k, h, hu => by
    rw [List.foldl_cons]
    exact foldl_max_bound us _ (Nat.max_le.2 ⟨h, hu u List.mem_cons_self⟩) (fun v hv => hu v (List.mem_cons_of_mem _ hv))

/-- Each behind all that it uses. -/
def Topo (list : Net N) (s : List N) : Prop := ∀ i x, s[i]? = some x → ∀ us, usesOf list x = some us → ∀ u ∈ us, u ∈ s.take i
def Rising (lt : N → N → Bool) (l : List N) : Prop := l.Pairwise (fun a b => lt a b = true)

structure Lev (lt : N → N → Bool) (list : Net N) (s : List N) (out : List (List N)) (F : N → Nat) : Prop where
  lv : ∀ x ∈ s, F x = lvl list F x
  lt_ : ∀ x ∈ s, F x < out.length
  ne : ∀ row ∈ out, row ≠ []
  ri : ∀ row ∈ out, Rising lt row
  mem : ∀ k row, out[k]? = some row → ∀ x, x ∈ row ↔ x ∈ s ∧ F x = k

theorem lv_unique {list : Net N} {s : List N} (ht : Topo list s) {F G : N → Nat} (hF : ∀ x ∈ s, F x = lvl list F x) (hG : ∀ x ∈ s, G x = lvl list G x) : ∀ x ∈ s, F x = G x := by
  have key : ∀ i, i ≤ s.length → ∀ x ∈ s.take i, F x = G x := by
    intro i
    induction i with
    | zero => intro _ x hx; simp at hx
    | succ i ih =>
      intro hi x hx
      rw [List.take_succ_eq_append_getElem (by omega), List.mem_append, List.mem_singleton] at hx
      rcases hx with hx | rfl
      · exact ih (by omega) x hx
      · have hm : s[i] ∈ s := List.getElem_mem _
        rw [hF _ hm, hG _ hm]
        exact lvl_congr fun us hus u hu => ih (by omega) u (ht i _ (List.getElem?_eq_getElem (by omega)) us hus u hu)
  intro x hx
  exact key s.length (Nat.le_refl _) x (by rwa [List.take_length])

theorem rising_ext {lt : N → N → Bool} (T : Tot lt) : ∀ {l m : List N}, Rising lt l → Rising lt m → (∀ x, x ∈ l ↔ x ∈ m) → l = m
  | [], [], _, _, _ => rfl
  | [], b :: m, _, _, h => by have := (h b).2 List.mem_cons_self; simp at this
  | a :: l, [], _, _, h => by have := (h a).1 List.mem_cons_self; simp at this
  | a :: l, b :: m, hl, hm, h => by
    obtain ⟨hl1, hl2⟩ := List.pairwise_cons.1 hl
    obtain ⟨hm1, hm2⟩ := List.pairwise_cons.1 hm
    have irr : ∀ x y, lt x y = true → lt y x = true → False := fun x y h1 h2 => by have := T.tr _ _ _ h1 h2; rw [T.irr] at this; cases this
    have hab : a = b := by
      rcases List.mem_cons.1 ((h a).1 List.mem_cons_self) with e | ha
      · exact e
      · rcases List.mem_cons.1 ((h b).2 List.mem_cons_self) with e | hb
        · exact e.symm
        · exact (irr _ _ (hl1 b hb) (hm1 a ha)).elim
    subst hab
    have hx : ∀ x, x ∈ l ↔ x ∈ m := fun x => by
      constructor
      · intro hx
        rcases List.mem_cons.1 ((h x).1 (List.mem_cons_of_mem _ hx)) with rfl | h'
        · have := hl1 x hx; rw [T.irr] at this; cases this
        · exact h'
      · intro hx
        rcases List.mem_cons.1 ((h x).2 (List.mem_cons_of_mem _ hx)) with rfl | h'
        · have := hm1 x hx; rw [T.irr] at this; cases this
        · exact h'
    rw [rising_ext T hl2 hm2 hx]

theorem Lev.unique {lt : N → N → Bool} (T : Tot lt) {list : Net N} {s : List N} (ht : Topo list s) {out out' : List (List N)} {F G : N → Nat} (h : Lev lt list s out F) (h' : Lev lt list s out' G) : out = out' := by
  have e := lv_unique ht h.lv h'.lv
  have key : ∀ {a b : List (List N)} {F G : N → Nat}, Lev lt list s a F → Lev lt list s b G → (∀ x ∈ s, F x = G x) → b.length ≤ a.length := fun {a b F G} ha hb e => by
    apply Classical.byContradiction
    intro hc
    have hlt : a.length < b.length := by omega
    obtain ⟨x, hx⟩ := List.exists_mem_of_ne_nil _ (hb.ne b[a.length] (List.getElem_mem hlt))
    have h1 := (hb.mem a.length _ (List.getElem?_eq_getElem hlt) x).1 hx
    have h2 := ha.lt_ x h1.1
    rw [e x h1.1, h1.2] at h2
    omega
  have hl : out.length = out'.length := Nat.le_antisymm (key h' h (fun x hx => (e x hx).symm)) (key h h' e)
  apply List.ext_getElem hl
  intro k h1 h2
  refine rising_ext T (h.ri _ (List.getElem_mem h1)) (h'.ri _ (List.getElem_mem h2)) (fun x => ?_)
  rw [h.mem k _ (List.getElem?_eq_getElem h1), h'.mem k _ (List.getElem?_eq_getElem h2)]
  constructor
  · rintro ⟨hx, hk⟩
    exact ⟨hx, by rw [← e x hx]; exact hk⟩
  · rintro ⟨hx, hk⟩
    exact ⟨hx, by rw [e x hx]; exact hk⟩

theorem Greedy.topo {lt : N → N → Bool} {list : Net N} {want l : List N} (h : Greedy lt list [] want l) : Topo list l := fun i x hx us hus u hu => (h.behind hx hus hu).resolve_left (by simp)

theorem foldl_max_hit {F : N → Nat} : ∀ (us : List N) (k : Nat), us.foldl (fun k u => max k (F u + 1)) k = k ∨ ∃ u ∈ us, F u + 1 = us.foldl (fun k u => max k (F u + 1)) k
  | [], k => .inl rfl
  | u :: us, k => by
    rw [List.foldl_cons]
    rcases foldl_max_hit (F := F) us (max k (F u + 1)) with h | ⟨v, hv, h⟩
    · rw [h]
      rcases Nat.le_total k (F u + 1) with h1 | h1
      · exact .inr ⟨u, List.mem_cons_self, (Nat.max_eq_right h1).symm⟩
      · exact .inl (Nat.max_eq_left h1)
    · exact .inr ⟨v, List.mem_cons_of_mem _ hv, h⟩

theorem lv_exists {list : Net N} {s : List N} (hn : s.Nodup) (ht : Topo list s) : ∃ F : N → Nat, ∀ x ∈ s, F x = lvl list F x := by
  have key : ∀ i, i ≤ s.length → ∃ F : N → Nat, ∀ x ∈ s.take i, F x = lvl list F x := by
    intro i
    induction i with
    | zero => exact fun _ => ⟨fun _ => 0, by simp⟩
    | succ i ih =>
      intro hi
      obtain ⟨F, hF⟩ := ih (by omega)
      have hni : s[i] ∉ s.take i := fun hm => by
        obtain ⟨j, hj, e⟩ := List.mem_take_iff_getElem.1 hm
        exact List.pairwise_iff_getElem.1 hn j i (by omega) (by omega) (by omega) e
      refine ⟨fun y => if y = s[i] then lvl list F s[i] else F y, fun x hx => ?_⟩
      rw [List.take_succ_eq_append_getElem (by omega), List.mem_append, List.mem_singleton] at hx
      have hsame : ∀ j (hj : j ≤ i) x, s[j]? = some x → lvl list (fun y => if y = s[i] then lvl list F s[i] else F y) x = lvl list F x := fun j hj x hx => by
        refine lvl_congr fun us hus u hu => ?_
        have h1 := ht j x hx us hus u hu
        have h2 : u ≠ s[i] := fun e => by
          rw [e] at h1
          have : s.take j = (s.take i).take j := by rw [List.take_take, Nat.min_eq_left hj]
          rw [this] at h1
          exact hni (List.mem_of_mem_take h1)
        simp [h2]
      rcases hx with hx | rfl
      · obtain ⟨j, hj, e⟩ := List.mem_take_iff_getElem.1 hx
        have hne : x ≠ s[i] := fun e => hni (by rw [← e]; exact hx)
        rw [hsame j (by omega) x (by rw [List.getElem?_eq_getElem (by omega), e])]
        simp only [hne, if_false]
        exact hF x hx
      · rw [hsame i (Nat.le_refl _) _ (List.getElem?_eq_getElem (by omega))]
        simp
  obtain ⟨F, hF⟩ := key s.length (Nat.le_refl _)
  exact ⟨F, fun x hx => hF x (by rwa [List.take_length])⟩

theorem topo_mem {list : Net N} {s : List N} (ht : Topo list s) {x : N} (hx : x ∈ s) {us : List N} (hus : usesOf list x = some us) {u : N} (hu : u ∈ us) : u ∈ s := by
  obtain ⟨i, hi⟩ := List.getElem?_of_mem hx
  exact List.mem_of_mem_take (ht i x hi us hus u hu)
/-- A level is there if a higher one is. -/
theorem level_hit {list : Net N} {s : List N} (ht : Topo list s) {F : N → Nat} (hF : ∀ x ∈ s, F x = lvl list F x) {c : Nat} : ∀ n x, x ∈ s → F x = n → c ≤ n → ∃ y ∈ s, F y = c := by
  intro n
  induction n using Nat.strongRecOn with
  | _ n ih =>
    intro x hx hn hc
    rcases Nat.lt_or_ge c n with h | h
    · have h1 := hF x hx
      unfold lvl at h1
      rcases foldl_max_hit (F := F) ((usesOf list x).getD []) 0 with h2 | ⟨u, hu, h2⟩
      · rw [h2] at h1; omega
      · rw [← h1] at h2
        cases hus : usesOf list x with
        | none => rw [hus] at hu; simp at hu
        | some us =>
          rw [hus] at hu
          exact ih (F u) (by omega) u (topo_mem ht hx hus hu) rfl (by omega)
    · exact ⟨x, hx, by omega⟩
/-- At level c: not below it, and all that it uses is. -/
theorem at_level {list : Net N} {F : N → Nat} {c : Nat} {x : N} (hF : F x = lvl list F x) : F x = c ↔ ¬ F x < c ∧ ∀ us, usesOf list x = some us → ∀ u ∈ us, F u < c := by
  constructor
  · rintro rfl
    refine ⟨by omega, fun us hus u hu => ?_⟩
    have h1 := foldl_max_mem (F := F) us 0 u hu
    have h2 : lvl list F x = us.foldl (fun k u => max k (F u + 1)) 0 := by unfold lvl; rw [hus]; rfl
    omega
  · rintro ⟨h1, h2⟩
    have h3 : lvl list F x ≤ c := by
      unfold lvl
      cases hus : usesOf list x with
      | none => simp
      | some us => exact foldl_max_bound us 0 (Nat.zero_le _) (fun u hu => h2 us hus u hu)
    omega
end
end Go.Proofs.Ytdllpgeagdckmaa.Ord

/- order.Levels: its answer is the one that the theory of levels gives. -/
namespace Go.Proofs.Ytdllpgeagdckmaa.Q
open Go.RowKit Go.Proofs.YtdllpgeagdckmaaW.PrintWords Go.Proofs.YtdllpgeagdckmaaW.PrintLast Go.Proofs.YtdllpgeagdckmaaW.PrintMore Go.Proofs.Ytdllpgeagdckmaa.MapKit Go.Maps Go.Proofs.Ytdllpgeagdckmaa.Ord
attribute [local go_sem] max2_int min2_int max_two min_two max_three min_three max_four min_four
set_option linter.unusedVariables false
set_option linter.unusedSimpArgs false

/-- What Levels answers: the levels of the order of all names; where there is none, its refusal. -/
def LevelsB (l : Net ByteArray) (r : List (List ByteArray) × Int) : Prop :=
  ∃ s m e, Sorts ltN noName l (l.map (·.1)) [] s m e ∧ r.2 = e ∧ ((e ≠ 0 ∧ r.1 = []) ∨ (e = 0 ∧ ∃ F, Lev ltN l s r.1 F))
theorem LevelsB.unique {l : Net ByteArray} {r r' : List (List ByteArray) × Int} (h : LevelsB l r) (h' : LevelsB l r') : r = r' := by
  obtain ⟨s, m, e, hs, he, hr⟩ := h
  obtain ⟨s', m', e', hs', he', hr'⟩ := h'
  obtain ⟨rfl, rfl, rfl⟩ := Sorts.unique totN hs hs'
  refine Prod.ext ?_ (he.trans he'.symm)
  rcases hr with ⟨h0, h1⟩ | ⟨h0, F, h1⟩ <;> rcases hr' with ⟨h0', h1'⟩ | ⟨h0', F', h1'⟩
  · rw [h1, h1']
  · exact absurd h0' h0
  · exact absurd h0 h0'
  · subst h0
    cases hs with
    | ok s hb _ _ hg => exact Lev.unique totN hg.topo h1 h1'
noncomputable def order_Levels.f (l : List S41) : Option (List (List ByteArray) × Int) := by
  classical
  exact if h : Fit l (l.map (·.f0)) [] ∧ ∃ r, LevelsB (netOf l) r then some (Classical.choose h.2) else none
theorem order_Levels.spec {l : List S41} {r : List (List ByteArray) × Int} (h : order_Levels.f l = some r) : Fit l (l.map (·.f0)) [] ∧ LevelsB (netOf l) r := by
  unfold order_Levels.f at h
  split at h
  · rename_i hc
    simp only [Option.some.injEq] at h
    rw [← h]
    exact ⟨hc.1, Classical.choose_spec hc.2⟩
  · cases h
theorem order_Levels.of {l : List S41} {r : List (List ByteArray) × Int} (hf : Fit l (l.map (·.f0)) []) (h : LevelsB (netOf l) r) : order_Levels.f l = some r := by
  unfold order_Levels.f
  have hc : Fit l (l.map (·.f0)) [] ∧ ∃ r, LevelsB (netOf l) r := ⟨hf, r, h⟩
  rw [dif_pos hc]
  exact congrArg some (LevelsB.unique (Classical.choose_spec hc.2) h)
end Go.Proofs.Ytdllpgeagdckmaa.Q

/- What vocabs makes of a list: the same names and uses, in memory of its own. -/
namespace Go.Proofs.Ytdllpgeagdckmaa.Q
open Go.RowKit Go.Proofs.YtdllpgeagdckmaaW.PrintWords Go.Proofs.YtdllpgeagdckmaaW.PrintLast Go.Proofs.YtdllpgeagdckmaaW.PrintMore Go.Proofs.Ytdllpgeagdckmaa.MapKit Go.Maps Go.Proofs.Ytdllpgeagdckmaa.Ord
attribute [local go_sem] max2_int min2_int max_two min_two max_three min_three max_four min_four
set_option linter.unusedVariables false
set_option linter.unusedSimpArgs false

def conv (v : S33) : S41 := ⟨v.f0, v.f1⟩

theorem voc33_at {w : World} {A : Option Addr} {l : List S33} (h : Kd.C k33 w A l.length l) (i : Nat) (hi : i < l.length) : ∃ ad A1 c1, A = some ad ∧ w.cell? (ad.add (i * 2)) = some (.string l[i].f0) ∧ w.cell? ⟨(ad.add (i * 2)).block, (ad.add (i * 2)).off + 1, none⟩ = some (.slice A1 l[i].f1.length c1) ∧ l[i].f1.length ≤ c1 ∧ Kd.string.C w A1 l[i].f1.length l[i].f1 := by
  obtain ⟨ad, A1, c1, e, h1, h2, h3, h4⟩ := at_T33 h (i : Int) (by omega) (by omega)
  have er : rd_T33 l (i : Int) = l[i] := by simp [rd_T33, List.getD_eq_getElem?_getD, List.getElem?_eq_getElem hi]
  rw [er] at h1 h2 h3 h4
  exact ⟨ad, A1, c1, e, by simpa using h1, by simpa using h2, h3, h4⟩

theorem results_c {P : Program} {fn : Func} {p : Tmp} {ty : TypeId} (h : fn.results = #[.cell p ty]) (tmps : Array Value) (w : World) (g : Nat) (t : TypeId) (cs : Array Value) (fr : Nat × Nat) (d : TypeDesc)
    (hp : tmps.getD p undef = .pointer (some ⟨g, 0, none⟩)) (hg : w.heap[g]? = some (.cells cs t fr))
    (hu : P.underlying ty = some d) (hd : (match d with | .struct _ | .array _ _ => true | _ => false) = true) (hi : (P.info? ty).map (·.size) = some cs.size) :
    (results fn tmps).run P w = .ok (.agg cs) w := by
  have hp' : tmps[p]?.getD undef = .pointer (some ⟨g, 0, none⟩) := by simpa using hp
  simp [results, h, hp', asAddr, run_loadVar_row w g t ty cs fr d hg hu hd hi]
structure VRel (w w' : World) (b1 b2 b3 : Nat) (A : Option Addr) (n c : Nat) (v : Value) (ys : List S41) : Prop where
  arg : w'.heap[b1]? = some (.cells #[.slice A n c, .slice none 0 0] 61 (0, 0))
  ret : w'.heap[b2]? = some (.cells #[.slice none 0 0, .slice none 0 0] 57 (0, 0))
  out : w'.heap[b3]? = some (.cells #[v, .slice none 0 0] 57 (0, 0))
  row : Kd.S k41 41 w' w.heap.size (fun _ => True) v ys
  below : Below w.heap.size w w'

theorem VRel.below' {w w' w2 : World} {b1 b2 b3 : Nat} {A : Option Addr} {n c : Nat} {v : Value} {ys : List S41} (h : VRel w w' b1 b2 b3 A n c v ys) (hb : Below w'.heap.size w' w2) : VRel w w2 b1 b2 b3 A n c v ys :=
  ⟨blk_below h.arg hb, blk_below h.ret hb, blk_below h.out hb, Kd.S_below h.row hb, h.below.trans (hb.mono h.below.size)⟩
/-- The row of the kept list grows (by one): the blocks of the frame stay. -/
structure VGrown (w w' : World) (b1 b2 b3 : Nat) (A : Option Addr) (n c : Nat) (v v1 : Value) (ys : List S41) : Prop where
  arg : w'.heap[b1]? = some (.cells #[.slice A n c, .slice none 0 0] 61 (0, 0))
  ret : w'.heap[b2]? = some (.cells #[.slice none 0 0, .slice none 0 0] 57 (0, 0))
  out : w'.heap[b3]? = some (.cells #[v, .slice none 0 0] 57 (0, 0))
  row : Kd.S k41 41 w' w.heap.size (fun _ => True) v1 ys
  below : Below w.heap.size w w'
theorem VRel.grown {w w1 w2 : World} {b1 b2 b3 : Nat} {A : Option Addr} {n c : Nat} {v v1 : Value} {ys zs : List S41} (h : VRel w w1 b1 b2 b3 A n c v ys) (hg : w1.grownBy w2 v.ownBlock) (hr : Kd.S k41 41 w2 w.heap.size (fun _ => True) v1 zs) (hb : Below w.heap.size w w2) : VGrown w w2 b1 b2 b3 A n c v v1 zs :=
  ⟨blk_grown h.arg hg (Kd.R_ne (Kd.S_R h.row) h.arg (by decide)), blk_grown h.ret hg (Kd.R_ne (Kd.S_R h.row) h.ret (by decide)), blk_grown h.out hg (Kd.R_ne (Kd.S_R h.row) h.out (by decide)), hr, hb⟩
theorem VGrown.stored {w w' : World} {b1 b2 b3 : Nat} {A : Option Addr} {n c : Nat} {v v1 : Value} {ys : List S41} (h : VGrown w w' b1 b2 b3 A n c v v1 ys) (h3 : w.heap.size ≤ b3) (h13 : b1 ≠ b3) (h23 : b2 ≠ b3) : VRel w (w'.setCell ⟨b3, 0, none⟩ v1) b1 b2 b3 A n c v1 ys :=
  ⟨blk_far h.arg (p := ⟨b3, 0, none⟩) h13 _, blk_far h.ret (p := ⟨b3, 0, none⟩) h23 _, blk_put h.out 0 v1 rfl, Kd.S_set h.row h.out (by decide) 0 v1, Below.setCell (p := ⟨b3, 0, none⟩) h.below h3 _⟩
theorem VRel.own_lt {w w' : World} {b1 b2 b3 : Nat} {A : Option Addr} {n c : Nat} {v : Value} {ys : List S41} (h : VRel w w' b1 b2 b3 A n c v ys) (k : Nat) (hk : v.ownBlock = some k) : k < w'.heap.size := by
  exact Kd.S_lt h.row k hk
theorem ge_alloc {w : World} {o : Obj} {k : Nat} (h : (w.drew.alloc o).heap.size ≤ k) : w.heap.size ≤ k := by
  simp at h
  omega
theorem below_first {w w2 : World} {o : Obj} (hg : (w.drew.alloc o).grownBy w2 (Value.slice (some ⟨w.heap.size, 0, none⟩) 0 0).ownBlock) : Below w.heap.size w w2 :=
  Below.grown (below_alloc (below_drew (Below.refl _ _)) o) hg (by simp) (fun k hk => by simp [Value.ownBlock] at hk; omega)
theorem strings_empty (w : World) (base : Nat) (hb : base ≤ w.heap.size) : Kd.string.R 9 (w.alloc (.cells #[] 9)) base (fun k => w.heap.size ≤ k) (.slice (some ⟨w.heap.size, 0, none⟩) 0 0) [] :=
  ⟨fun k hk => by have : w.heap.size = k := by simpa [Value.ownBlock] using hk
                  omega, [], ⟨rfl, .inr ⟨w.heap.size, 0, #[], rfl, hb, heap_alloc_new w _, Nat.le_refl _, by decide, rfl, rfl⟩⟩, ⟨rfl, fun j p hj => by simp at hj⟩⟩

set_option maxHeartbeats 8000000 in
set_option maxRecDepth 100000 in
theorem api_calls (w : World) (A : Option Addr) (c : Nat) (l : List S33) (hC : Kd.C k33 w A l.length l) (hl : l.length ≤ 3000000) (hul : ∀ v ∈ l, v.f1.length ≤ 3000000) :
    Calls Try.prog 23 #[.agg #[.slice A l.length c, .slice none 0 0]] w fun e w' => ∃ v, e = .returned (.agg #[v, .slice none 0 0]) ∧ Kd.S k41 41 w' w.heap.size (fun _ => True) v (l.map conv) ∧ Below w.heap.size w w' := by
  have HC := Aside0.mk hC
  have HUL := Aside0.mk hul
  clear hC hul
  go_enter Try.func23, Try.ntmps23
  go_upto_region 2 with fail
  have h2 : ((w.alloc (.cells #[.slice A l.length c, .slice none 0 0] 61)).alloc (.cells #[.slice none 0 0, .slice none 0 0] 57)).heap[w.heap.size + 1]? = some (.cells #[.slice none 0 0, .slice none 0 0] 57 (0, 0)) := by
    have := heap_alloc_new (w.alloc (.cells #[.slice A l.length c, .slice none 0 0] 61)) (.cells #[.slice none 0 0, .slice none 0 0] 57)
    simpa using this
  have h2' : (((w.alloc (.cells #[.slice A l.length c, .slice none 0 0] 61)).alloc (.cells #[.slice none 0 0, .slice none 0 0] 57)).alloc (.cells #[.slice none 0 0, .slice none 0 0] 57)).heap[w.heap.size + 1]? = some (.cells #[.slice none 0 0, .slice none 0 0] 57 (0, 0)) := (Below.block (below_alloc (Below.refl ((w.alloc (.cells #[.slice A l.length c, .slice none 0 0] 61)).alloc (.cells #[.slice none 0 0, .slice none 0 0] 57)).heap.size _) (.cells #[.slice none 0 0, .slice none 0 0] 57)) _ (by simp)).trans h2
  clear h2
  have h0 : VRel w (((w.alloc (.cells #[.slice A l.length c, .slice none 0 0] 61)).alloc (.cells #[.slice none 0 0, .slice none 0 0] 57)).alloc (.cells #[.slice none 0 0, .slice none 0 0] 57)) w.heap.size (w.heap.size + 1) (w.heap.size + 1 + 1) A l.length c (.slice none 0 0) [] := by
    refine ⟨?_, ?_, ?_, Kd.S_nil _ _ _ _ _, below_alloc (below_alloc (below_alloc (Below.refl _ _) _) _) _⟩
    · have h1 := heap_alloc_new w (.cells #[.slice A l.length c, .slice none 0 0] 61)
      have h2 := below_alloc (below_alloc (Below.refl (w.alloc (.cells #[.slice A l.length c, .slice none 0 0] 61)).heap.size _) (.cells #[.slice none 0 0, .slice none 0 0] 57)) (.cells #[.slice none 0 0, .slice none 0 0] 57)
      exact (h2.block _ (by simp)).trans h1
    · exact h2'
    · have := heap_alloc_new ((w.alloc (.cells #[.slice A l.length c, .slice none 0 0] 61)).alloc (.cells #[.slice none 0 0, .slice none 0 0] 57)) (.cells #[.slice none 0 0, .slice none 0 0] 57)
      simpa using this
  generalize ((w.alloc (.cells #[.slice A l.length c, .slice none 0 0] 61)).alloc (.cells #[.slice none 0 0, .slice none 0 0] 57)).alloc (.cells #[.slice none 0 0, .slice none 0 0] 57) = w1 at *
  obtain ⟨b1, hb1⟩ : ∃ b, b = w.heap.size := ⟨_, rfl⟩
  obtain ⟨b2, hb2⟩ : ∃ b, b = w.heap.size + 1 := ⟨_, rfl⟩
  obtain ⟨b3, hb3⟩ : ∃ b, b = w.heap.size + 1 + 1 := ⟨_, rfl⟩
  rw [← hb3, ← hb2, ← hb1]
  have H0 : Aside0 (VRel w w1 b1 b2 b3 A l.length c (.slice none 0 0) []) := ⟨by rw [hb1, hb2, hb3]; exact h0⟩
  have HB1 := Aside0.mk hb1
  have HB2 := Aside0.mk hb2
  have HB3 := Aside0.mk hb3
  clear hb1 hb2 hb3 h0 h2'
  go_wp2_with fail
  go_loopg [4] (l.length + 1) (fun kq v4 w' => ∃ i : Nat, v4 = .int .i64 (i : Int) ∧ Aside0 (i ≤ l.length) ∧ Aside0 (kq + i = l.length + 1) ∧ Aside0 (∃ v, VRel w w' b1 b2 b3 A l.length c v ((l.take i).map conv)))
  case atStart => exact ⟨0, rfl, ⟨Nat.zero_le _⟩, ⟨by omega⟩, ⟨_, H0.out⟩⟩
  clear H0
  obtain ⟨i, rfl, HI, HK, HT⟩ := hrel
  have hi := HI.out
  have hk := HK.out
  obtain ⟨v, hR⟩ := HT.out
  have HR := Aside0.mk hR
  clear HT
  have n1 : wr.cell? ⟨b1, 0, none⟩ = some (.slice A l.length c) := (blk_cell hR.arg 0).trans rfl
  have n3 : wr.cell? ⟨b3, 0, none⟩ = some v := (blk_cell hR.out 0).trans rfl
  clear hR
  by_cases hlt : i < l.length
  · have hz : decide ((i : Int) < (l.length : Int)) = true := decide_eq_true (by omega)
    obtain ⟨k1, rfl⟩ : ∃ k1, gk = k1 + 1 := ⟨gk - 1, by omega⟩
    obtain ⟨ad, A1, c1, rfl, z0, z1, hc1, hC1⟩ := voc33_at HC.out i hlt
    obtain ⟨u, hu⟩ : ∃ u, u = l[i] := ⟨_, rfl⟩
    rw [← hu] at z0 z1 hc1 hC1
    have x0 := pw_cell_below HR.out.below z0
    have x1 := pw_cell_below HR.out.below z1
    have hul : u.f1.length ≤ 3000000 := HUL.out u (by rw [hu]; exact List.getElem_mem hlt)
    have htk : (l.take (i + 1)).map conv = (l.take i).map conv ++ [conv u] := by rw [List.take_succ_eq_append_getElem hlt, List.map_append, ← hu]; rfl
    have hlen : ((l.take i).map conv).length ≤ 3000000 := by simp; omega
    generalize hys : (l.take i).map conv = ys at HR htk hlen
    have hE : Kd.string.R 9 (wr.drew.alloc (.cells #[] 9)) w.heap.size (fun k => wr.heap.size ≤ k) (.slice (some ⟨wr.heap.size, 0, none⟩) 0 0) [] := strings_empty wr.drew w.heap.size HR.out.below.size
    have hRd : ReadsRow (Kd.string.K (wr.drew.alloc (.cells #[] 9))) 1 (wr.drew.alloc (.cells #[] 9)) A1 u.f1.length u.f1 := Kd.C_below (Kd.C_below hC1 HR.out.below) (below_alloc (below_drew (Below.refl _ _)) _)
    have hBB : Below w.heap.size w (wr.drew.alloc (.cells #[] 9)) := below_alloc (below_drew HR.out.below) _
    have hbs : w.heap.size ≤ (wr.drew.alloc (.cells #[] 9)).heap.size := hBB.size
    have hby : (([] : List ByteArray).length + u.f1.length) * 16 ≤ 140737488355328 := by simp; omega
    have F := Aside0.mk (And.intro hE (And.intro hRd (And.intro hBB (And.intro hbs hby))))
    have nm : ∀ w' : World, Below wr.heap.size wr w' → w'.cell? ⟨b1, 0, none⟩ = some (.slice (some ad) l.length c) ∧ w'.cell? ⟨b3, 0, none⟩ = some v ∧ w'.cell? (ad.add (i * 2)) = some (.string u.f0) ∧ w'.cell? ⟨(ad.add (i * 2)).block, (ad.add (i * 2)).off + 1, none⟩ = some (.slice A1 u.f1.length c1) := fun w' hb => ⟨pw_cell_below hb n1, pw_cell_below hb n3, pw_cell_below hb x0, pw_cell_below hb x1⟩
    have NM := Aside0.mk nm
    have HB13 : Aside0 (b1 ≠ b3) := ⟨by rw [HB1.out, HB3.out]; omega⟩
    have Z0 := Aside0.mk z0
    have Z1 := Aside0.mk z1
    have HTK := Aside0.mk htk
    have HLEN := Aside0.mk hlen
    have HYS := Aside0.mk hys
    have HUL2 := Aside0.mk hul
    clear nm z0 z1 hC1 hc1 hu hi hE hRd hBB hbs hby htk hlen hys hul
    go_upto_region 5 with fail
    refine start_ (n := 21) (S := (fun w' => w'.cell? ⟨b1, 0, none⟩ = some (.slice (some ad) l.length c) ∧ w'.cell? ⟨b3, 0, none⟩ = some v ∧ w'.cell? (ad.add (i * 2)) = some (.string u.f0) ∧ w'.cell? ⟨(ad.add (i * 2)).block, (ad.add (i * 2)).off + 1, none⟩ = some (.slice A1 u.f1.length c1))) (ds := [20]) #[false, false, false, false, false, false, false, false, false, false, false, false, false, false, false, false, false, false, false, false, false] (by kernel_rfl) rfl rfl (NM.out _ (below_drew (Below.refl _ _))) (fun hHeld => ?_)
    refine pure_ (i := 0) (N := some 13) (v := ?_) (a' := ?_) #[true, false, false, false, false, false, false, false, false, false, false, false, false, false, false, false, false, false, false, false, false] rfl rfl (by kernel_rfl) (fun _ _ _ h => h) (Or.inl ⟨by rfl, ?_⟩) ?_ ?_
    rotate_left
    · intro w'
      go_simp
      with_reducible rfl
    rotate_left
    · simp only [Act.put, List.setIfInBounds_toArray, List.set_cons_zero, List.set_cons_succ]
      rfl
    refine pure_ (i := 2) (N := some 15) (v := ?_) (a' := ?_) #[true, false, true, false, false, false, false, false, false, false, false, false, false, false, false, false, false, false, false, false, false] rfl rfl (by kernel_rfl) (fun _ _ _ h => h) (Or.inl ⟨by rfl, ?_⟩) ?_ ?_
    rotate_left
    · intro w'
      go_simp
      with_reducible rfl
    rotate_left
    · simp only [Act.put, List.setIfInBounds_toArray, List.set_cons_zero, List.set_cons_succ]
      rfl
    refine pure_ (i := 4) (N := some 17) (v := ?_) (a' := ?_) #[true, false, true, false, true, false, false, false, false, false, false, false, false, false, false, false, false, false, false, false, false] rfl rfl (by kernel_rfl) (fun _ _ _ h => h) (Or.inl ⟨by rfl, ?_⟩) ?_ ?_
    rotate_left
    · intro w'
      go_simp
      with_reducible rfl
    rotate_left
    · simp only [Act.put, List.setIfInBounds_toArray, List.set_cons_zero, List.set_cons_succ]
      rfl
    refine take_ (i := 1) (N := some 14) (v := ?_) (a' := ?_) #[true, true, true, false, true, false, false, false, false, false, false, false, false, false, false, false, false, false, false, false, false] rfl rfl (by kernel_rfl) (fun _ _ _ h => h) (Or.inl ⟨by rfl, ?_⟩) hHeld ?_ ?_
    rotate_left
    · rintro w' ⟨s0, s1, s2, s3⟩
      go_simp
      with_reducible rfl
    rotate_left
    · simp only [Act.put, List.setIfInBounds_toArray, List.set_cons_zero, List.set_cons_succ]
      rfl
    refine take_ (i := 3) (N := some 16) (v := ?_) (a' := ?_) #[true, true, true, true, true, false, false, false, false, false, false, false, false, false, false, false, false, false, false, false, false] rfl rfl (by kernel_rfl) (fun _ _ _ h => h) (Or.inl ⟨by rfl, ?_⟩) hHeld ?_ ?_
    rotate_left
    · rintro w' ⟨s0, s1, s2, s3⟩
      go_simp
      with_reducible rfl
    rotate_left
    · simp only [Act.put, List.setIfInBounds_toArray, List.set_cons_zero, List.set_cons_succ]
      rfl
    refine pure_ (i := 5) (N := some 18) (v := ?_) (a' := ?_) #[true, true, true, true, true, true, false, false, false, false, false, false, false, false, false, false, false, false, false, false, false] rfl rfl (by kernel_rfl) (fun _ _ _ h => h) (Or.inl ⟨by rfl, ?_⟩) ?_ ?_
    rotate_left
    · intro w'
      go_simp
      with_reducible rfl
    rotate_left
    · simp only [Act.put, List.setIfInBounds_toArray, List.set_cons_zero, List.set_cons_succ]
      rfl
    refine pure_ (i := 6) (N := some 19) (v := ?_) (a' := ?_) #[true, true, true, true, true, true, true, false, false, false, false, false, false, false, false, false, false, false, false, false, false] rfl rfl (by kernel_rfl) (fun _ _ _ h => h) (Or.inl ⟨by rfl, ?_⟩) ?_ ?_
    rotate_left
    · intro w'
      go_simp
      with_reducible rfl
    rotate_left
    · simp only [Act.put, List.setIfInBounds_toArray, List.set_cons_zero, List.set_cons_succ]
      rfl
    refine take_ (i := 7) (N := some 20) (v := ?_) (a' := ?_) #[true, true, true, true, true, true, true, true, false, false, false, false, false, false, false, false, false, false, false, false, false] rfl rfl (by kernel_rfl) (fun _ _ _ h => h) (Or.inl ⟨by rfl, ?_⟩) hHeld ?_ ?_
    rotate_left
    · rintro w' ⟨s0, s1, s2, s3⟩
      go_simp
      with_reducible rfl
    rotate_left
    · simp only [Act.put, List.setIfInBounds_toArray, List.set_cons_zero, List.set_cons_succ]
      rfl
    refine pure_ (i := 9) (N := some 22) (v := ?_) (a' := ?_) #[true, true, true, true, true, true, true, true, false, true, false, false, false, false, false, false, false, false, false, false, false] rfl rfl (by kernel_rfl) (fun _ _ _ h => h) (Or.inl ⟨by rfl, ?_⟩) ?_ ?_
    rotate_left
    · intro w'
      go_simp
      with_reducible rfl
    rotate_left
    · simp only [Act.put, List.setIfInBounds_toArray, List.set_cons_zero, List.set_cons_succ]
      rfl
    refine take_ (i := 10) (N := some 23) (v := ?_) (a' := ?_) #[true, true, true, true, true, true, true, true, false, true, true, false, false, false, false, false, false, false, false, false, false] rfl rfl (by kernel_rfl) (fun _ _ _ h => h) (Or.inl ⟨by rfl, ?_⟩) hHeld ?_ ?_
    rotate_left
    · rintro w' ⟨s0, s1, s2, s3⟩
      go_simp
      with_reducible rfl
    rotate_left
    · simp only [Act.put, List.setIfInBounds_toArray, List.set_cons_zero, List.set_cons_succ]
      rfl
    refine pure_ (i := 11) (N := some 24) (v := ?_) (a' := ?_) #[true, true, true, true, true, true, true, true, false, true, true, true, false, false, false, false, false, false, false, false, false] rfl rfl (by kernel_rfl) (fun _ _ _ h => h) (Or.inl ⟨by rfl, ?_⟩) ?_ ?_
    rotate_left
    · intro w'
      go_simp
      with_reducible rfl
    rotate_left
    · simp only [Act.put, List.setIfInBounds_toArray, List.set_cons_zero, List.set_cons_succ]
      rfl
    refine pure_ (i := 12) (N := some 25) (v := ?_) (a' := ?_) #[true, true, true, true, true, true, true, true, false, true, true, true, true, false, false, false, false, false, false, false, false] rfl rfl (by kernel_rfl) (fun _ _ _ h => h) (Or.inl ⟨by rfl, ?_⟩) ?_ ?_
    rotate_left
    · intro w'
      go_simp
      with_reducible rfl
    rotate_left
    · simp only [Act.put, List.setIfInBounds_toArray, List.set_cons_zero, List.set_cons_succ]
      rfl
    refine pure_ (i := 13) (N := some 26) (v := ?_) (a' := ?_) #[true, true, true, true, true, true, true, true, false, true, true, true, true, true, false, false, false, false, false, false, false] rfl rfl (by kernel_rfl) (fun _ _ _ h => h) (Or.inl ⟨by rfl, ?_⟩) ?_ ?_
    rotate_left
    · intro w'
      go_simp
      with_reducible rfl
    rotate_left
    · simp only [Act.put, List.setIfInBounds_toArray, List.set_cons_zero, List.set_cons_succ]
      rfl
    refine take_ (i := 14) (N := some 27) (v := ?_) (a' := ?_) #[true, true, true, true, true, true, true, true, false, true, true, true, true, true, true, false, false, false, false, false, false] rfl rfl (by kernel_rfl) (fun _ _ _ h => h) (Or.inl ⟨by rfl, ?_⟩) hHeld ?_ ?_
    rotate_left
    · rintro w' ⟨s0, s1, s2, s3⟩
      go_simp
      with_reducible rfl
    rotate_left
    · simp only [Act.put, List.setIfInBounds_toArray, List.set_cons_zero, List.set_cons_succ]
      rfl
    refine one_ (i := 8) (N := some 21) #[true, true, true, true, true, true, true, true, true, true, true, true, true, true, true, false, false, false, false, false, false] rfl rfl (by kernel_rfl) (by decide) (fun K hK => ?_)
    refine value_ (v := .slice (some ⟨wr.heap.size, 0, none⟩) 0 0) (w1 := wr.drew.alloc (.cells #[] 9)) (by rfl) rfl (by go_simp) ?_
    refine hK.out _ _ (NM.out _ (below_alloc (below_drew (Below.refl _ _)) _)) (fun hHeld => ?_)
    clear hK K
    refine norm_ (a' := ?_) ?_ ?_
    rotate_left
    · show Act.put _ (some 21) _ = _
      simp only [Act.put, List.setIfInBounds_toArray, List.set_cons_zero, List.set_cons_succ]
      rfl
    refine one_ (i := 15) (N := some 28) #[true, true, true, true, true, true, true, true, true, true, true, true, true, true, true, true, false, false, false, false, false] rfl rfl (by kernel_rfl) (by decide) (fun K hK => ?_)
    refine Kd.R_append_rows_step Kd.string w.heap.size rfl (.tmp 21) (.tmp 27) 23 9 (.string ⟨#[]⟩) 16 rfl Try.underlying23 info9 rfl (by decide) (by decide) (.slice (some ⟨wr.heap.size, 0, none⟩) 0 0) [] u.f1 A1 u.f1.length c1 (fun k => wr.heap.size ≤ k) (fun _ => False) rfl rfl F.out.1 F.out.2.1 (fun _ _ h => h) (fun _ h => h.elim) (fun k hk => ge_alloc hk) F.out.2.2.1 F.out.2.2.2.1 F.out.2.2.2.2 ?_
    intro v28 w2 hr2 hb2 hg2 hat2
    obtain ⟨A28, c28, rfl⟩ := Kd.R_slice hr2
    have HR2 := Aside0.mk hr2
    have hbr : Below wr.heap.size wr w2 := below_first hg2
    have HV2 := Aside0.mk (HR.out.below' hbr)
    have hf2 : b3 < w2.heap.size := blk_lt HV2.out.out
    have HS2 := Aside0.mk (NM.out _ hbr)
    have HBR := Aside0.mk hbr
    have HO2 := Aside0.mk (Kd.S_below (Kd.S_mono (Kd.S_bound HR.out.row) (fun k hk => (⟨trivial, fun h => by have := hk.2.2.1; omega⟩ : True ∧ ¬ wr.heap.size ≤ k))) hbr)
    clear hr2 hb2 hg2 hat2 hbr
    refine hK.out _ _ HS2.out (fun hHeld => ?_)
    clear hK K
    refine norm_ (a' := ?_) ?_ ?_
    rotate_left
    · show Act.put _ (some 28) _ = _
      simp only [Act.put, List.setIfInBounds_toArray, List.set_cons_zero, List.set_cons_succ]
      rfl
    refine pure_ (i := 16) (N := some 29) (v := ?_) (a' := ?_) #[true, true, true, true, true, true, true, true, true, true, true, true, true, true, true, true, true, false, false, false, false] rfl rfl (by kernel_rfl) (fun _ _ _ h => h) (Or.inl ⟨by rfl, ?_⟩) ?_ ?_
    rotate_left
    · intro w'
      go_simp
      with_reducible rfl
    rotate_left
    · simp only [Act.put, List.setIfInBounds_toArray, List.set_cons_zero, List.set_cons_succ]
      rfl
    refine one_ (i := 17) (N := some 30) #[true, true, true, true, true, true, true, true, true, true, true, true, true, true, true, true, true, true, false, false, false] rfl rfl (by kernel_rfl) (by decide) (fun K hK => ?_)
    refine value_ (v := .slice (some ⟨w2.heap.size, 0, none⟩) 1 1) (w1 := w2.alloc (.cells #[.string u.f0, .slice A28 u.f1.length c28] 41)) (by rfl) rfl (by go_simp) ?_
    refine hK.out _ _ (NM.out _ (below_alloc HBR.out _)) (fun hHeld => ?_)
    clear hK K
    refine norm_ (a' := ?_) ?_ ?_
    rotate_left
    · show Act.put _ (some 30) _ = _
      simp only [Act.put, List.setIfInBounds_toArray, List.set_cons_zero, List.set_cons_succ]
      rfl
    refine one_ (i := 18) (N := some 31) #[true, true, true, true, true, true, true, true, true, true, true, true, true, true, true, true, true, true, true, false, false] rfl rfl (by kernel_rfl) (by decide) (fun K hK => ?_)
    refine Kd.S_append_step k41 (w0 := w) w.heap.size rfl (.tmp 14) (.tmp 30) 28 41 (.agg #[(.string ⟨#[]⟩), (.slice none 0 0)]) 40 rfl Try.underlying28 info41 rfl (by decide) (by decide) v ys (conv u) [.string u.f0, .slice A28 u.f1.length c28] (fun _ => True) (fun k => wr.heap.size ≤ k) rfl rfl (k41_mkM _ _ _ _ HR2.out) (fun k hk => ⟨trivial, fun e => by have := VRel.own_lt HR.out k e.symm; omega⟩) (fun _ _ => trivial) HO2.out HV2.out.below HV2.out.below.size (by have := HLEN.out; omega) ?_
    intro v31 w3 hr3 hb3 hg3 hat3
    have hv31 : ∃ A31 c31, v31 = .slice A31 (ys.length + 1) c31 := by simpa using Kd.R_slice (Kd.S_R hr3)
    obtain ⟨A31, c31, rfl⟩ := hv31
    have HV3 := Aside0.mk (HV2.out.grown hg3 hr3 hb3)
    have hf3 : w3.cell? ⟨b3, 0, none⟩ = some v := (blk_cell HV3.out.out 0).trans rfl
    have hff3 : w3.frozen? ⟨b3, 0, none⟩ = false := blk_frozen HV3.out.out 0
    have HS3 := Aside0.mk (And.intro ((blk_cell HV3.out.arg 0).trans rfl : w3.cell? ⟨b1, 0, none⟩ = some (.slice (some ad) l.length c)) (And.intro hf3 (And.intro (pw_cell_below HV3.out.below Z0.out) (pw_cell_below HV3.out.below Z1.out))))
    clear hr3 hb3 hg3 hat3
    refine hK.out _ _ HS3.out (fun hHeld => ?_)
    clear hK K
    refine norm_ (a' := ?_) ?_ ?_
    rotate_left
    · show Act.put _ (some 31) _ = _
      simp only [Act.put, List.setIfInBounds_toArray, List.set_cons_zero, List.set_cons_succ]
      rfl
    refine pure_ (i := 19) (N := some 32) (v := ?_) (a' := ?_) #[true, true, true, true, true, true, true, true, true, true, true, true, true, true, true, true, true, true, true, true, false] rfl rfl (by kernel_rfl) (fun _ _ _ h => h) (Or.inl ⟨by rfl, ?_⟩) ?_ ?_
    rotate_left
    · intro w'
      go_simp
      with_reducible rfl
    rotate_left
    · simp only [Act.put, List.setIfInBounds_toArray, List.set_cons_zero, List.set_cons_succ]
      rfl
    refine last_ (i := 20) (N := none) #[true, true, true, true, true, true, true, true, true, true, true, true, true, true, true, true, true, true, true, true, true] rfl rfl (by kernel_rfl) (by decide) (fun K hK => ?_)
    refine skip_ (w1 := ?_) (by rfl) rfl ?_ ?_
    rotate_left
    · go_simp
      rfl
    refine hK.out _ _ ?_
    clear hK K
    refine done_ (by kernel_rfl) ?_
    go_wp2_with fail
    go_roundg k1
    case measure => omega
    case rel => exact ⟨i + 1, by push_cast; rfl, ⟨by omega⟩, ⟨by omega⟩, ⟨_, by rw [HTK.out]; exact HV3.out.stored (by rw [HB3.out]; omega) HB13.out (by rw [HB2.out, HB3.out]; omega)⟩⟩
  · have hz : decide ((i : Int) < (l.length : Int)) = false := decide_eq_false (by omega)
    have hR9 := HR.out
    rw [List.take_of_length_le (by omega)] at hR9
    obtain ⟨Av, cv, rfl⟩ := Kd.R_slice (Kd.S_R hR9.row)
    have HR9 := Aside0.mk hR9
    have n1' : wr.cell? ⟨b1, 1, none⟩ = some (.slice none 0 0) := (blk_cell HR9.out.arg 1).trans rfl
    have n2 : wr.cell? ⟨b3, 1, none⟩ = some (.slice none 0 0) := (blk_cell HR9.out.out 1).trans rfl
    have n4 : wr.cell? ⟨b2, 0, none⟩ = some (.slice none 0 0) := (blk_cell HR9.out.ret 0).trans rfl
    have n5 : wr.cell? ⟨b2, 1, none⟩ = some (.slice none 0 0) := (blk_cell HR9.out.ret 1).trans rfl
    have f4 : wr.frozen? ⟨b2, 0, none⟩ = false := blk_frozen HR9.out.ret 0
    have f5 : wr.frozen? ⟨b2, 1, none⟩ = false := blk_frozen HR9.out.ret 1
    clear hR9 HR
    go_wp2_with fail
    go_loopg [5] 1 (fun kq v5 w' => v5 = .int .i64 0 ∧ w' = wr)
    case atStart => exact ⟨rfl, rfl⟩
    obtain ⟨rfl, rfl⟩ := hrel
    go_wp2_with fail
    have hB2 : w.heap.size ≤ b2 := by rw [HB2.out]; omega
    have hN2 : b2 ≠ b3 := by rw [HB2.out, HB3.out]; omega
    refine bodyPost_ret (results_c rfl _ _ b2 57 #[.slice Av l.length cv, .slice none 0 0] (0, 0) _ rfl (blk_put (cs := #[.slice Av l.length cv, .slice none 0 0]) (blk_put (cs := #[.slice none 0 0, .slice none 0 0]) HR9.out.ret 0 _ rfl) 1 _ rfl) Try.underlying57 rfl (by kernel_rfl)) rfl ?_
    refine ⟨_, rfl, ?_, Below.setCell (p := ⟨b2, 1, none⟩) (Below.setCell (p := ⟨b2, 0, none⟩) HR9.out.below hB2 _) hB2 _⟩
    have hlm : (l.map conv).length = l.length := by simp
    have HRW := HR9.out.row
    rw [hlm] at HRW
    have h1 := Kd.S_set HRW HR9.out.ret (by decide) 0 (.slice Av l.length cv)
    exact Kd.S_set h1 (blk_put (cs := #[.slice none 0 0, .slice none 0 0]) HR9.out.ret 0 (.slice Av l.length cv) rfl) (by decide) 1 (.slice none 0 0)

def quirelaw15_vocabs.f (l : List S33) : Option (List S41) := if l.length ≤ 3000000 ∧ ∀ v ∈ l, v.f1.length ≤ 3000000 then some (l.map conv) else none
set_option maxHeartbeats 8000000 in
set_option maxRecDepth 100000 in
theorem quirelaw15_vocabs.calls (A0 : Option Addr) (c0 : Nat) (l0 : List S33) (r : List S41) (w : World) (hr0 : Kd.C k33 w A0 l0.length l0) (hc0 : l0.length ≤ c0) (h : quirelaw15_vocabs.f l0 = some r) :
    Calls Try.prog 9 #[.slice A0 l0.length c0] w fun e w' => ∃ v0_ : Value, e = .returned v0_ ∧ Kd.S k41 41 w' w.heap.size (fun _ => True) v0_ r ∧ Below w.heap.size w w' := by
  unfold quirelaw15_vocabs.f at h
  split at h
  · rename_i hb
    cases h
    have HA := Aside0.mk (api_calls w A0 c0 l0 hr0 hb.1 hb.2)
    clear hr0 hc0 hb
    have hfd : ∀ (A : Option Addr) (n c : Nat) (w : World), (Instr.field 57 (.agg #[.slice A n c, .slice none 0 0]) 0).run Try.prog w = .ok (.slice A n c) w := fun _ _ _ _ => by kernel_rfl
    go_enter Try.func9, Try.ntmps9
    go_wp2_with (go_at_call 23; refine HA.out.mono ?_; rintro e w1 ⟨v, rfl, hs, hb⟩; obtain ⟨Av, cv, rfl⟩ := Kd.R_slice (Kd.S_R hs); have HS := Aside0.mk hs; have HB := Aside0.mk hb; clear hs hb)
    go_ret
    have HS2 := HS.out
    rw [List.length_map] at HS2
    exact ⟨_, rfl, HS2, HB.out⟩
  · cases h
end Go.Proofs.Ytdllpgeagdckmaa.Q

/- Rows of the call's own that grow side by side: append told in full (in place, or a new row and nothing else), and families of rows told apart by their blocks. -/
namespace Go.Proofs.Ytdllpgeagdckmaa.ApartKit
open Go Go.RowKit Go.Proofs.YtdllpgeagdckmaaW.PrintWords
set_option linter.unusedVariables false

section
variable {P : Program} (w : World)

/-- append: in place (the same block, the same capacity, nothing else turned), or a new row and nothing that was there has turned. -/
theorem run_append_two (base : Nat) (t ty e : TypeId) (i : TypeInfo) (z : Value) (bytes : Nat) (ht : P.underlying t = some (.slice e)) (hi : P.info? e = some i) (hz : i.zero = some z)
    (hsize : i.size = 1) (hby : i.bytes = bytes) (hzs : z.cells.size = 1)
    (v : Value) (n : Nat) (xs : List Value) (hown : w.ownsRow base e 1 v n xs)
    (a : Addr) (m c : Nat) (news : List Value) (hl : news.length = m) (hm : 0 < m) (hnews : ∀ j u, news[j]? = some u → w.cell? (a.add j) = some u) (h1 : ∀ u ∈ news, u.oneCell' = true)
    (h63 : n + m ≤ maxLen) (hbytes : (n + m) * bytes ≤ 140737488355328) (hbase : base ≤ w.heap.size) :
    ∃ v' w', (Builtin.append_ #[t, t] ty #[v, .slice (some a) m c]).run P w = .ok v' w' ∧ w'.ownsRow base e 1 v' (n + m) (xs ++ news) ∧
      ((∃ g cap, v = .slice (some ⟨g, 0, none⟩) n cap ∧ v' = .slice (some ⟨g, 0, none⟩) (n + m) cap ∧ w.grownBy w' (some g) ∧ w'.heap.size = w.heap.size) ∨
       (v'.ownBlock = some w.heap.size ∧ Below w.heap.size w w')) := by
  subst hby
  have hl1 : news.length = m * i.size := by rw [hsize, Nat.mul_one]; exact hl
  rw [← hsize] at hown hzs ⊢
  have hsz : 0 < i.size := by omega
  have hsmall : n + m ≤ 9223372036854775807 := by simp only [maxLen] at h63; omega
  have hlen : (xs ++ news).length = (n + m) * i.size := by rw [List.length_append, hown.1, hl1, Nat.add_mul]
  have grown : ∀ (old : Nat), old < n + m →
      (w.drew.alloc (.cells (xs.toArray ++ news.toArray ++ Builtin.zeroCells z.cells (grownCap w (n + m) old e - (n + m))) e)).ownsRow base e i.size
        (.slice (some ⟨w.heap.size, 0, none⟩) (n + m) (grownCap w (n + m) old e)) (n + m) (xs ++ news) ∧
      Below w.heap.size w (w.drew.alloc (.cells (xs.toArray ++ news.toArray ++ Builtin.zeroCells z.cells (grownCap w (n + m) old e - (n + m))) e)) := by
    intro old ho
    have hge := grownCap_ge w (n + m) old e
    have hcm : grownCap w (n + m) old e ≤ maxLen := grownCap_le_maxLen w (n + m) old e h63
    refine ⟨⟨hlen, .inr ⟨w.heap.size, _, _, rfl, hbase, heap_alloc_new w.drew _, hge, hcm, ?_, ?_⟩⟩, ⟨rfl, rfl, rfl, by simp, fun k hk => Below.heap_alloc w.drew _ k hk⟩⟩
    · simp only [Array.size_append, List.size_toArray, size_zeroCells, hzs, hown.1, hl1, ← Nat.add_mul]
      congr 1
      omega
    · simp only [Array.toList_append, List.append_assoc]
      rw [← List.append_assoc, ← hlen]
      exact List.take_left
  rcases hown.2 with ⟨rfl, rfl⟩ | ⟨g, cap, cur, rfl, hbg, hg, hnc, hcm, hcs, htake⟩
  · have hx : xs = [] := List.eq_nil_of_length_eq_zero (by simpa using hown.1)
    subst hx
    have hr := run_append_nil (P := P) w t ty e i z ht hi hz a m c news hl1 hnews (by omega) (by omega) (by have hb := hbytes; simp only [Nat.zero_add] at hb; omega)
    have hgr := grown 0 (by omega)
    simp only [Nat.zero_add, List.nil_append, Array.empty_append] at hgr ⊢
    exact ⟨_, _, hr, hgr.1, .inr ⟨rfl, hgr.2⟩⟩
  · by_cases hroom : n + m ≤ cap
    · have hfit : n * i.size + news.length ≤ cur.size := by rw [hl1, hcs, ← Nat.add_mul]; exact Nat.mul_le_mul_right _ hroom
      have hr := run_append_room (P := P) w t ty e i ht hi g n cap cur hg a m c news hl1 hnews h1 hroom hfit
      refine ⟨_, _, hr, ⟨hlen, .inr ⟨g, cap, _, rfl, hbg, setRow_heap w g cur _ e _ hg, hroom, hcm, ?_, ?_⟩⟩, .inl ⟨g, cap, rfl, rfl, ⟨rfl, rfl, rfl, by simp, fun k _ hk => setRow_other w g k _ (fun e => hk (by rw [e]))⟩, by simp⟩⟩
      · simp only [List.size_toArray, List.length_append, List.length_take, List.length_drop, Array.length_toList]
        omega
      · rw [htake, ← hlen]
        exact List.take_left
    · have holds : ∀ j u, xs[j]? = some u → w.cell? ((⟨g, 0, none⟩ : Addr).add j) = some u := hown.cells (g := g) rfl
      have hr := run_append_grow (P := P) w t ty e i z ht hi hz ⟨g, 0, none⟩ n cap xs hown.1 holds a m c news hl1 hnews (by omega) (by omega) (growslice_fits (by omega) hbytes)
      have hgr := grown cap (by omega)
      exact ⟨_, _, hr, hgr.1, .inr ⟨rfl, hgr.2⟩⟩

/-- The same at the operation, one element laid into a block of its own ahead of it. -/
theorem wpList_append_two {ops : Array Oper} {rest : List Oper} {o : Oper} {a : Act} {Q : Exit → Act → World → Prop} (hgd : o.guard = none) (s x : Operand) (t : TypeId)
    (ho : o.op = .call { callee := .builtin .append, args := #[s, x], argTypes := #[t, t] })
    (base : Nat) (e : TypeId) (z : Value) (bytes : Nat) (ht : P.underlying t = some (.slice e)) (hinfo : (P.info? e).map (fun i => (i.zero, i.size, i.bytes)) = some (some z, 1, bytes)) (hzs : z.cells.size = 1)
    (v u : Value) (n : Nat) (xs : List Value) (hs : a.eval s = v) (hown : w.ownsRow base e 1 v n xs) (hx : a.eval x = .slice (some ⟨w.heap.size, 0, none⟩) 1 1) (hu : u.oneCell' = true)
    (h63 : n + 1 ≤ maxLen) (hbytes : (n + 1) * bytes ≤ 140737488355328) (hbase : base ≤ w.heap.size)
    (h : ∀ v' w', w'.ownsRow base e 1 v' (n + 1) (xs ++ [u]) →
      ((∃ g cap, v = .slice (some ⟨g, 0, none⟩) n cap ∧ v' = .slice (some ⟨g, 0, none⟩) (n + 1) cap ∧ w.grownBy w' (some g)) ∨
       ((∃ b, v'.ownBlock = some b ∧ w.heap.size ≤ b) ∧ Below w.heap.size w w')) → wpList P ops Q rest (a.put o.dst v') w') :
    wpList P ops Q (o :: rest) a (w.alloc (.cells #[u] e)) := by
  refine wpList_plain hgd fun K hK => ?_
  obtain ⟨i0, hi, hz0, hz1, hz2⟩ := info_parts hinfo
  have hown2 : (w.alloc (.cells #[u] e)).ownsRow base e 1 v n xs := by
    obtain ⟨h1, h2⟩ := hown
    refine ⟨h1, ?_⟩
    rcases h2 with h2 | ⟨g, cap, cur, hv, hg, hh, r⟩
    · exact .inl h2
    · exact .inr ⟨g, cap, cur, hv, hg, (Below.heap_alloc w _ g (blk_lt hh)).trans hh, r⟩
  obtain ⟨v', w', hr, h2, h3⟩ := run_append_two (P := P) (w.alloc (.cells #[u] e)) base t o.type e i0 z bytes ht hi hz0 hz1 hz2 hzs v n xs hown2 ⟨w.heap.size, 0, none⟩ 1 1 [u] rfl (by omega) (cell_one_new _ _ _)
    (by intro u' hu'; rw [List.mem_singleton.1 hu']; exact hu) h63 hbytes (by simp; omega)
  unfold Oper.wp execOp
  simp only [ho, resolve, invoke, builtin, Sem.run_bind, Sem.run_pure, Result.andThen_ok, List.map_toArray, List.map_cons, List.map_nil, hs, hx, hr]
  refine hK _ _ (h v' w' h2 ?_)
  rcases h3 with ⟨g, cap, e1, e2, hg, _⟩ | ⟨hb, hbel⟩
  · exact .inl ⟨g, cap, e1, e2, ⟨hg.os, hg.tape, hg.output, Nat.le_trans (by simp) hg.size, fun k hk hne => (hg.block k (by simp; omega) hne).trans (Below.heap_alloc w _ k hk)⟩⟩
  · refine .inr ⟨⟨_, hb, by simp⟩, ⟨hbel.os, hbel.tape, hbel.output, Nat.le_trans (by simp) hbel.size, fun k hk => (hbel.block k (by simp; omega)).trans (Below.heap_alloc w _ k hk)⟩⟩
end

/-- append of a whole row of the call's own (nil or not) onto another: where the new one lies. -/
theorem wpList_append_row {P : Program} (w : World) {ops : Array Oper} {rest : List Oper} {o : Oper} {a : Act} {Q : Exit → Act → World → Prop} (hgd : o.guard = none) (s x : Operand) (t : TypeId)
    (ho : o.op = .call { callee := .builtin .append, args := #[s, x], argTypes := #[t, t] })
    (base base2 : Nat) (e : TypeId) (z : Value) (bytes : Nat) (ht : P.underlying t = some (.slice e)) (hinfo : (P.info? e).map (fun i => (i.zero, i.size, i.bytes)) = some (some z, 1, bytes)) (hzs : z.cells.size = 1)
    (v u : Value) (n m : Nat) (xs news : List Value) (hs : a.eval s = v) (hown : w.ownsRow base e 1 v n xs) (hx : a.eval x = u) (hsrc : w.ownsRow base2 e 1 u m news) (h1 : ∀ y ∈ news, y.oneCell' = true)
    (h63 : n + m ≤ maxLen) (hbytes : (n + m) * bytes ≤ 140737488355328) (hbase : base ≤ w.heap.size)
    (h : ∀ v' w', w'.ownsRow base e 1 v' (n + m) (xs ++ news) → w.grownBy w' v.ownBlock → (v'.ownBlock = v.ownBlock ∨ v'.ownBlock = some w.heap.size) → wpList P ops Q rest (a.put o.dst v') w') :
    wpList P ops Q (o :: rest) a w := by
  refine wpList_plain hgd fun K hK => ?_
  obtain ⟨i0, hi, hz0, hz1, hz2⟩ := info_parts hinfo
  obtain ⟨hl, hu⟩ := hsrc
  rcases hu with ⟨rfl, rfl⟩ | ⟨g, cap, cur, rfl, hb, hh, hr⟩
  · have hn : news = [] := List.eq_nil_of_length_eq_zero (by simpa using hl)
    subst hn
    have hrun := run_append_owned_none (P := P) w base t o.type e i0 1 ht hi v n xs hown
    unfold Oper.wp execOp
    simp only [ho, resolve, invoke, builtin, Sem.run_bind, Sem.run_pure, Result.andThen_ok, List.map_toArray, List.map_cons, List.map_nil, hs, hx, hrun]
    exact hK _ _ (h v w (by simpa using hown) (World.grownBy.refl _ _) (.inl rfl))
  · have hcells : ∀ j y, news[j]? = some y → w.cell? ((⟨g, 0, none⟩ : Addr).add j) = some y := World.ownsRow.cells (v := .slice (some ⟨g, 0, none⟩) m cap) ⟨hl, .inr ⟨g, cap, cur, rfl, hb, hh, hr⟩⟩ (g := g) rfl
    obtain ⟨v', w', hrun, h2, h3, _, h5⟩ := run_append_own_at (P := P) w base t o.type e i0 z 1 bytes ht hi hz0 hz1 hz2 hzs (by omega) v n xs hown ⟨g, 0, none⟩ m cap news hl hcells h1 h63 hbytes hbase
    unfold Oper.wp execOp
    simp only [ho, resolve, invoke, builtin, Sem.run_bind, Sem.run_pure, Result.andThen_ok, List.map_toArray, List.map_cons, List.map_nil, hs, hx, hrun]
    exact hK _ _ (h v' w' h2 h3 h5)

/-- Every block that is v's stays: the row stays. -/
theorem own_stay {w w' : World} {base E n : Nat} {v : Value} {xs : List Value} (h : w.ownsRow base E 1 v n xs) (hk : ∀ b, v.ownBlock = some b → w'.heap[b]? = w.heap[b]?) : w'.ownsRow base E 1 v n xs := own_move h hk

/-- Rows told apart: V's are what came, G's what has grown out of the first of them; f: whose a block is. -/
structure Fam (w : World) (base E : Nat) (VL GL : List Value) (n : Nat → Nat) (mk : Nat → Nat → Value) (f : Nat → Nat) : Prop where
  V : ∀ k v, VL[k]? = some v → (∃ xs, w.ownsRow base E 1 v (n k) xs ∧ (k < GL.length → ∀ t, t < n k → xs[t]? = some (mk k t))) ∧ ∀ b, v.ownBlock = some b → f b = k
  G : ∀ k g, GL[k]? = some g → (∃ xs, w.ownsRow base E 1 g (n k + 9) xs ∧ ∀ t, t < n k + 9 → xs[t]? = some (mk k t)) ∧ ∀ b, g.ownBlock = some b → f b = k

theorem Fam.stay {w w' : World} {base E : Nat} {VL GL : List Value} {n : Nat → Nat} {mk : Nat → Nat → Value} {f : Nat → Nat} (h : Fam w base E VL GL n mk f)
    (hk : ∀ (b : Nat) (cs : Array Value), w.heap[b]? = some (Obj.cells cs E (0, 0)) → w'.heap[b]? = w.heap[b]?) : Fam w' base E VL GL n mk f := by
  refine ⟨fun k v hv => ?_, fun k g hg => ?_⟩
  · obtain ⟨⟨xs, ho, hm⟩, hf⟩ := h.V k v hv
    exact ⟨⟨xs, own_stay ho (fun b hb => by obtain ⟨cs, hc⟩ := own_typed ho b hb; exact hk b cs hc), hm⟩, hf⟩
  · obtain ⟨⟨xs, ho, hm⟩, hf⟩ := h.G k g hg
    exact ⟨⟨xs, own_stay ho (fun b hb => by obtain ⟨cs, hc⟩ := own_typed ho b hb; exact hk b cs hc), hm⟩, hf⟩

/-- The next of them has grown: its own block and new ones alone have turned. -/
theorem Fam.next {w w' : World} {base E : Nat} {VL GL : List Value} {n : Nat → Nat} {mk : Nat → Nat → Value} {f : Nat → Nat} (h : Fam w base E VL GL n mk f) {v g : Value} (hv : VL[GL.length]? = some v)
    {xs ys : List Value} (hx : w'.ownsRow base E 1 v (n GL.length) xs) (mx : ∀ t, t < n GL.length → xs[t]? = some (mk GL.length t)) (hy : w'.ownsRow base E 1 g (n GL.length + 9) ys) (my : ∀ t, t < n GL.length + 9 → ys[t]? = some (mk GL.length t))
    (hg : g.ownBlock = v.ownBlock ∨ ∃ b, g.ownBlock = some b ∧ w.heap.size ≤ b) (hk : ∀ b, b < w.heap.size → v.ownBlock ≠ some b → w'.heap[b]? = w.heap[b]?) :
    Fam w' base E VL (GL ++ [g]) n mk (fun b => if w.heap.size ≤ b then GL.length else f b) := by
  have hold : ∀ (u : Value) (m : Nat) (zs : List Value), w.ownsRow base E 1 u m zs → ∀ b, u.ownBlock = some b → b < w.heap.size := fun u m zs ho b hb => own_lt ho b hb
  have hvf := (h.V _ v hv).2
  have hother : ∀ (u : Value) (m k : Nat) (zs : List Value), w.ownsRow base E 1 u m zs → (∀ b, u.ownBlock = some b → f b = k) → k ≠ GL.length → w'.ownsRow base E 1 u m zs := fun u m k zs ho hf hne =>
    own_stay ho (fun b hb => hk b (hold u m zs ho b hb) (fun he => hne (by rw [← hf b hb, hvf b he])))
  refine ⟨fun k u hu => ?_, fun k u hu => ?_⟩
  · obtain ⟨⟨zs, ho, hm⟩, hf⟩ := h.V k u hu
    refine ⟨?_, fun b hb => by
      have := hold u _ zs ho b hb
      rw [if_neg (by omega)]
      exact hf b hb⟩
    by_cases he : k = GL.length
    · subst he
      rw [hv] at hu
      cases hu
      exact ⟨xs, hx, fun _ => mx⟩
    · refine ⟨zs, hother u _ k zs ho hf he, fun hl => hm ?_⟩
      rw [List.length_append, List.length_singleton] at hl
      omega
  · by_cases he : k < GL.length
    · rw [List.getElem?_append_left he] at hu
      obtain ⟨⟨zs, ho, hm⟩, hf⟩ := h.G k u hu
      exact ⟨⟨zs, hother u _ k zs ho hf (by omega), hm⟩, fun b hb => by
        have := hold u _ zs ho b hb
        rw [if_neg (by omega)]
        exact hf b hb⟩
    · have hkl : k < (GL ++ [g]).length := (List.getElem?_eq_some_iff.1 hu).1
      rw [List.length_append, List.length_singleton] at hkl
      obtain rfl : k = GL.length := by omega
      rw [List.getElem?_append_right (Nat.le_refl _), Nat.sub_self] at hu
      simp only [List.getElem?_cons_zero, Option.some.injEq] at hu
      subst hu
      refine ⟨⟨ys, hy, my⟩, fun b hb => ?_⟩
      rcases hg with hg | ⟨b', hb', hle⟩
      · rw [hg] at hb
        obtain ⟨⟨zs, ho, _⟩, hf⟩ := h.V _ v hv
        have := hold v _ zs ho b hb
        rw [if_neg (by omega)]
        exact hf b hb
      · rw [hb'] at hb
        cases hb
        rw [if_pos hle]

/-- A store into a row. -/
theorem own_put {w : World} {base E b cap n : Nat} {xs : List Value} (h : w.ownsRow base E 1 (.slice (some ⟨b, 0, none⟩) n cap) n xs) (j : Nat) (hj : j < n) (u : Value) :
    (w.setCell ⟨b, j, none⟩ u).ownsRow base E 1 (.slice (some ⟨b, 0, none⟩) n cap) n (xs.set j u) := by
  obtain ⟨hl, h2⟩ := h
  refine ⟨by simpa using hl, .inr ?_⟩
  rcases h2 with ⟨h2, _⟩ | ⟨g, cap', cur, hv, hb, hh, hn, hm, hs, ht⟩
  · simp at h2
  · simp only [Value.slice.injEq, Option.some.injEq, Addr.mk.injEq, and_true, true_and] at hv
    obtain ⟨rfl, rfl⟩ := hv
    refine ⟨b, cap, cur.setIfInBounds j u, rfl, hb, ?_, hn, hm, by simpa using hs, ?_⟩
    · simp [World.setCell, Array.getElem?_modify, hh]
    · rw [← ht, Array.toList_setIfInBounds, List.take_set]

theorem own_head {w : World} {base E n : Nat} {v : Value} {xs : List Value} (h : w.ownsRow base E 1 v n xs) (hn : 0 < n) : ∃ b cap, v = .slice (some ⟨b, 0, none⟩) n cap ∧ base ≤ b ∧ b < w.heap.size := by
  rcases h.2 with ⟨_, h0⟩ | ⟨g, cap, cur, rfl, hb, hh, _⟩
  · omega
  · exact ⟨g, cap, rfl, hb, blk_lt hh⟩
theorem own_val {w : World} {base E n : Nat} {v : Value} {xs : List Value} (h : w.ownsRow base E 1 v n xs) : ∃ A cap, v = .slice A n cap := by
  rcases h.2 with ⟨rfl, rfl⟩ | ⟨g, cap, cur, rfl, _⟩
  · exact ⟨none, 0, rfl⟩
  · exact ⟨_, cap, rfl⟩
theorem own_cell {w : World} {base E b cap n m : Nat} {xs : List Value} {u : Value} {j : Nat} (h : w.ownsRow base E 1 (.slice (some ⟨b, 0, none⟩) m cap) n xs) (hu : xs[j]? = some u) : w.cell? ⟨b, j, none⟩ = some u := by
  have := h.cells (g := b) rfl j u hu
  rwa [Addr.add_lit, Nat.zero_add] at this
theorem own_free {w : World} {base E b cap n m : Nat} {xs : List Value} (h : w.ownsRow base E 1 (.slice (some ⟨b, 0, none⟩) m cap) n xs) (j : Nat) : w.frozen? ⟨b, j, none⟩ = false := by
  obtain ⟨cs, hc⟩ := own_typed h b rfl
  simp [World.frozen?, hc]
theorem own_ne {w : World} {base base' E E' n n' : Nat} {v u : Value} {xs ys : List Value} (h : w.ownsRow base E 1 v n xs) (k : w.ownsRow base' E' 1 u n' ys) (hne : E ≠ E') {b : Nat} (hb : v.ownBlock = some b) : u.ownBlock ≠ some b := fun hb' => by
  obtain ⟨cs, hc⟩ := own_typed h b hb
  obtain ⟨cs', hc'⟩ := own_typed k b hb'
  rw [hc] at hc'
  simp at hc'
  exact hne hc'.2

end Go.Proofs.Ytdllpgeagdckmaa.ApartKit

/- Rows of names told apart by their blocks: one of them grows, one of them is sorted; what the levels hold while they are made. -/
namespace Go.Proofs.Ytdllpgeagdckmaa.Q
open Go.RowKit Go.Proofs.YtdllpgeagdckmaaW.PrintWords Go.Proofs.YtdllpgeagdckmaaW.PrintLast Go.Proofs.YtdllpgeagdckmaaW.PrintMore Go.Proofs.Ytdllpgeagdckmaa.MapKit Go.Maps Go.Proofs.Ytdllpgeagdckmaa.Ord Go.Proofs.Ytdllpgeagdckmaa.ApartKit
set_option linter.unusedVariables false
set_option linter.unusedSimpArgs false

/-- Rows told apart: f says whose a block is. -/
structure LRows (w : World) (base : Nat) (VL : List Value) (rows : List (List ByteArray)) (f : Nat → Nat) : Prop where
  len : VL.length = rows.length
  row : ∀ (k : Nat) (v : Value) (r : List ByteArray), VL[k]? = some v → rows[k]? = some r → SRow w base v r
  own : ∀ (k : Nat) (v : Value) (b : Nat), VL[k]? = some v → v.ownBlock = some b → f b = k

theorem LRows.nil (w : World) (base : Nat) (f : Nat → Nat) : LRows w base [] [] f := ⟨rfl, by simp, by simp⟩
theorem SRow.stay {w w' : World} {base : Nat} {v : Value} {xs : List ByteArray} (h : SRow w base v xs) (hk : ∀ b, v.ownBlock = some b → w'.heap[b]? = w.heap[b]?) : SRow w' base v xs := own_move h hk
theorem SRow.block {w : World} {base : Nat} {v : Value} {xs : List ByteArray} (h : SRow w base v xs) {b : Nat} (hb : v.ownBlock = some b) : ∃ cs, w.heap[b]? = some (.cells cs 9 (0, 0)) := own_typed h b hb
theorem SRow.lt {w : World} {base : Nat} {v : Value} {xs : List ByteArray} (h : SRow w base v xs) {b : Nat} (hb : v.ownBlock = some b) : b < w.heap.size := own_lt h b hb
theorem SRow.weak {w : World} {base base' : Nat} {v : Value} {xs : List ByteArray} (h : SRow w base v xs) (hb : base' ≤ base) : SRow w base' v xs := by
  obtain ⟨h1, h2⟩ := h
  refine ⟨h1, ?_⟩
  rcases h2 with h2 | ⟨g, cap, cur, hv, hg, r⟩
  · exact .inl h2
  · exact .inr ⟨g, cap, cur, hv, Nat.le_trans hb hg, r⟩
theorem LRows.get {w : World} {base : Nat} {VL : List Value} {rows : List (List ByteArray)} {f : Nat → Nat} (h : LRows w base VL rows f) {k : Nat} (hk : k < rows.length) : ∃ v r, VL[k]? = some v ∧ rows[k]? = some r ∧ SRow w base v r := by
  have hk' : k < VL.length := by rw [h.len]; exact hk
  exact ⟨_, _, List.getElem?_eq_getElem hk', List.getElem?_eq_getElem hk, h.row k _ _ (List.getElem?_eq_getElem hk') (List.getElem?_eq_getElem hk)⟩
theorem LRows.back {w : World} {base : Nat} {VL : List Value} {rows : List (List ByteArray)} {f : Nat → Nat} (h : LRows w base VL rows f) {k : Nat} {v : Value} (hv : VL[k]? = some v) : ∃ r, rows[k]? = some r ∧ SRow w base v r := by
  have hk : k < VL.length := (List.getElem?_eq_some_iff.1 hv).1
  rw [h.len] at hk
  exact ⟨_, List.getElem?_eq_getElem hk, h.row k _ _ hv (List.getElem?_eq_getElem hk)⟩
theorem LRows.stay {w w' : World} {base : Nat} {VL : List Value} {rows : List (List ByteArray)} {f : Nat → Nat} (h : LRows w base VL rows f) (hk : ∀ (b : Nat) (cs : Array Value), w.heap[b]? = some (Obj.cells cs 9 (0, 0)) → w'.heap[b]? = w.heap[b]?) : LRows w' base VL rows f :=
  ⟨h.len, fun k v r hv hr => (h.row k v r hv hr).stay fun b hb => by
    obtain ⟨cs, hc⟩ := (h.row k v r hv hr).block hb
    exact hk b cs hc, h.own⟩
theorem LRows.below {w w' : World} {base : Nat} {VL : List Value} {rows : List (List ByteArray)} {f : Nat → Nat} (h : LRows w base VL rows f) (hb : Below w.heap.size w w') : LRows w' base VL rows f := h.stay fun b cs hc => hb.block b (blk_lt hc)
theorem LRows.weak {w : World} {base base' : Nat} {VL : List Value} {rows : List (List ByteArray)} {f : Nat → Nat} (h : LRows w base VL rows f) (hb : base' ≤ base) : LRows w base' VL rows f := ⟨h.len, fun k v r hv hr => (h.row k v r hv hr).weak hb, h.own⟩
theorem LRows.push {w : World} {base : Nat} {VL : List Value} {rows : List (List ByteArray)} {f : Nat → Nat} (h : LRows w base VL rows f) : LRows w base (VL ++ [.slice none 0 0]) (rows ++ [[]]) f := by
  refine ⟨by simp [h.len], fun k v r hv hr => ?_, fun k v b hv hb => ?_⟩
  · rcases Nat.lt_or_ge k rows.length with hk | hk
    · rw [List.getElem?_append_left (by rw [h.len]; exact hk)] at hv
      rw [List.getElem?_append_left hk] at hr
      exact h.row k v r hv hr
    · rw [List.getElem?_append_right (by rw [h.len]; exact hk)] at hv
      rw [List.getElem?_append_right hk] at hr
      have h1 : v = .slice none 0 0 := by
        have := List.mem_of_getElem? hv
        simpa using this
      have h2 : r = [] := by
        have := List.mem_of_getElem? hr
        simpa using this
      subst h1 h2
      exact SRow.nil _ _
  · rcases Nat.lt_or_ge k VL.length with hk | hk
    · rw [List.getElem?_append_left hk] at hv
      exact h.own k v b hv hb
    · rw [List.getElem?_append_right hk] at hv
      have h1 : v = .slice none 0 0 := by
        have := List.mem_of_getElem? hv
        simpa using this
      subst h1
      cases hb
/-- One row has grown, or has been sorted. -/
theorem LRows.set {w w' : World} {base : Nat} {VL : List Value} {rows : List (List ByteArray)} {f : Nat → Nat} (h : LRows w base VL rows f) {k : Nat} {v g : Value} {r : List ByteArray} (hv : VL[k]? = some v) (hg : SRow w' base g r)
    (hat : g.ownBlock = v.ownBlock ∨ ∃ b, g.ownBlock = some b ∧ w.heap.size ≤ b) (hk : ∀ b cs, w.heap[b]? = some (Obj.cells cs 9 (0, 0)) → v.ownBlock ≠ some b → w'.heap[b]? = w.heap[b]?) :
    LRows w' base (VL.set k g) (rows.set k r) (fun b => if w.heap.size ≤ b then k else f b) := by
  have hlt : k < VL.length := (List.getElem?_eq_some_iff.1 hv).1
  refine ⟨by simp [h.len], fun j u s hu hs => ?_, fun j u b hu hb => ?_⟩
  · by_cases hj : k = j
    · subst hj
      rw [List.getElem?_set_self hlt] at hu
      rw [List.getElem?_set_self (by rw [← h.len]; exact hlt)] at hs
      cases hu
      cases hs
      exact hg
    · rw [List.getElem?_set_ne hj] at hu hs
      have ho := h.row j u s hu hs
      refine ho.stay fun b hb => ?_
      obtain ⟨cs, hc⟩ := ho.block hb
      exact hk b cs hc fun he => hj ((h.own k v b hv he).symm.trans (h.own j u b hu hb))
  · by_cases hj : k = j
    · subst hj
      rw [List.getElem?_set_self hlt] at hu
      cases hu
      show (if w.heap.size ≤ b then k else f b) = k
      rcases hat with he | ⟨b', he, hle⟩
      · rw [he] at hb
        obtain ⟨_, _, ho⟩ := h.back hv
        rw [if_neg (by have := ho.lt hb; omega)]
        exact h.own k v b hv hb
      · rw [he] at hb
        cases hb
        rw [if_pos hle]
    · rw [List.getElem?_set_ne hj] at hu
      obtain ⟨_, _, ho⟩ := h.back hu
      show (if w.heap.size ≤ b then k else f b) = j
      rw [if_neg (by have := ho.lt hb; omega)]
      exact h.own j u b hu hb

/-! ### What the levels hold -/
structure LPure (F : ByteArray → Nat) (p : List ByteArray) (rows : List (List ByteArray)) : Prop where
  lt_ : ∀ x ∈ p, F x < rows.length
  ne : ∀ r ∈ rows, r ≠ []
  mem : ∀ (k : Nat) (r : List ByteArray), rows[k]? = some r → ∀ x, x ∈ r ↔ x ∈ p ∧ F x = k
  nd : ∀ r ∈ rows, r.Nodup
  cnt : rows.length ≤ p.length
theorem LPure.nil (F : ByteArray → Nat) : LPure F [] [] := ⟨by simp, by simp, by simp, by simp, Nat.le_refl _⟩
theorem LPure.short {F : ByteArray → Nat} {p : List ByteArray} {rows : List (List ByteArray)} (h : LPure F p rows) {r : List ByteArray} (hr : r ∈ rows) : r.length ≤ p.length := by
  obtain ⟨k, hk⟩ := List.getElem?_of_mem hr
  exact subset_length (h.nd r hr) fun x hx => ((h.mem k r hk x).1 hx).1
theorem LPure.put {F : ByteArray → Nat} {p : List ByteArray} {rows : List (List ByteArray)} (h : LPure F p rows) {x : ByteArray} (hx : x ∉ p) {r : List ByteArray} (hr : rows[F x]? = some r) : LPure F (p ++ [x]) (rows.set (F x) (r ++ [x])) := by
  have hlt : F x < rows.length := (List.getElem?_eq_some_iff.1 hr).1
  have hrm := List.mem_of_getElem? hr
  have hall : ∀ s ∈ rows.set (F x) (r ++ [x]), s ∈ rows ∨ s = r ++ [x] := fun s hs => by
    rcases List.mem_or_eq_of_mem_set hs with h1 | h1
    · exact .inl h1
    · exact .inr h1
  refine ⟨fun y hy => ?_, fun s hs => ?_, fun k s hs y => ?_, fun s hs => ?_, by simp; have := h.cnt; omega⟩
  · rw [List.length_set]
    rcases List.mem_append.1 hy with hy | hy
    · exact h.lt_ y hy
    · rw [List.mem_singleton.1 hy]; exact hlt
  · rcases hall s hs with h1 | rfl
    · exact h.ne s h1
    · simp
  · by_cases hk : F x = k
    · subst hk
      rw [List.getElem?_set_self hlt] at hs
      cases hs
      rw [List.mem_append, List.mem_append, h.mem _ r hr, List.mem_singleton]
      constructor
      · rintro (⟨h1, h2⟩ | rfl)
        · exact ⟨.inl h1, h2⟩
        · exact ⟨.inr rfl, rfl⟩
      · rintro ⟨h1 | rfl, h2⟩
        · exact .inl ⟨h1, h2⟩
        · exact .inr rfl
    · rw [List.getElem?_set_ne hk] at hs
      rw [List.mem_append, h.mem k s hs, List.mem_singleton]
      constructor
      · rintro ⟨h1, h2⟩
        exact ⟨.inl h1, h2⟩
      · rintro ⟨h1 | rfl, h2⟩
        · exact ⟨h1, h2⟩
        · exact absurd h2 hk
  · rcases hall s hs with h1 | rfl
    · exact h.nd s h1
    · rw [List.nodup_append]
      exact ⟨h.nd r hrm, by simp, fun a ha b hb e => hx (by rw [← List.mem_singleton.1 hb, ← e]; exact ((h.mem _ r hr a).1 ha).1)⟩
theorem LPure.new {F : ByteArray → Nat} {p : List ByteArray} {rows : List (List ByteArray)} (h : LPure F p rows) {x : ByteArray} (hx : x ∉ p) (hF : F x = rows.length) : LPure F (p ++ [x]) (rows ++ [[x]]) := by
  refine ⟨fun y hy => ?_, fun s hs => ?_, fun k s hs y => ?_, fun s hs => ?_, by simp; exact h.cnt⟩
  · rw [List.length_append, List.length_singleton]
    rcases List.mem_append.1 hy with hy | hy
    · have := h.lt_ y hy; omega
    · rw [List.mem_singleton.1 hy]; omega
  · rcases List.mem_append.1 hs with h1 | h1
    · exact h.ne s h1
    · rw [List.mem_singleton.1 h1]; simp
  · rcases Nat.lt_or_ge k rows.length with hk | hk
    · rw [List.getElem?_append_left hk] at hs
      rw [List.mem_append, h.mem k s hs, List.mem_singleton]
      constructor
      · rintro ⟨h1, h2⟩
        exact ⟨.inl h1, h2⟩
      · rintro ⟨h1 | rfl, h2⟩
        · exact ⟨h1, h2⟩
        · omega
    · have hk2 : k = rows.length := by
        have := (List.getElem?_eq_some_iff.1 hs).1
        simp at this
        omega
      subst hk2
      rw [List.getElem?_append_right (Nat.le_refl _)] at hs
      simp at hs
      subst hs
      rw [List.mem_singleton, List.mem_append, List.mem_singleton]
      constructor
      · rintro rfl
        exact ⟨.inr rfl, hF⟩
      · rintro ⟨h1 | h1, h2⟩
        · have := h.lt_ y h1; omega
        · exact h1
  · rcases List.mem_append.1 hs with h1 | h1
    · exact h.nd s h1
    · rw [List.mem_singleton.1 h1]; simp

/-! ### One row is sorted -/
def sortN (xs : List ByteArray) : List ByteArray := ((xs.map (·.data.toList)).mergeSort (fun x y => decide (x ≤ y))).map (fun l => ⟨l.toArray⟩)
theorem toArr_toList (x : ByteArray) : (⟨x.data.toList.toArray⟩ : ByteArray) = x := by rw [Array.toArray_toList]
theorem sortN_perm (xs : List ByteArray) : (sortN xs).Perm xs := by
  have h := (List.mergeSort_perm (xs.map (·.data.toList)) (fun x y => decide (x ≤ y))).map (fun l => (⟨l.toArray⟩ : ByteArray))
  rw [List.map_map] at h
  refine h.trans (List.Perm.of_eq ?_)
  conv => rhs; rw [← List.map_id xs]
  exact List.map_congr_left fun x _ => toArr_toList x
theorem sortN_length (xs : List ByteArray) : (sortN xs).length = xs.length := (sortN_perm xs).length_eq
theorem sortN_rising {xs : List ByteArray} (hn : xs.Nodup) : Rising ltN (sortN xs) := by
  have hp := List.pairwise_mergeSort (le := fun x y : List UInt8 => decide (x ≤ y)) (fun a b c h1 h2 => decide_eq_true (List.le_trans (of_decide_eq_true h1) (of_decide_eq_true h2))) (fun a b => by
    rcases List.le_total a b with h | h
    · simp [h]
    · simp [h]) (xs.map (·.data.toList))
  have h1 : (sortN xs).Pairwise (fun a b => a.data.toList ≤ b.data.toList) := by
    unfold sortN
    rw [List.pairwise_map]
    exact hp.imp fun {a b} h => by simpa using h
  have hn2 : (sortN xs).Nodup := (sortN_perm xs).nodup_iff.2 hn
  refine (h1.and hn2).imp ?_
  rintro a b ⟨h1, h2⟩
  rcases totN.tri a b with h | h | h
  · exact h
  · exact absurd h h2
  · rw [ltN_iff] at h
    exact absurd (of_decide_eq_true h) (List.not_lt.2 h1)

theorem sort_row (w : World) (base : Nat) (v : Value) (xs : List ByteArray) (h : SRow w base v xs) (hl : xs.length ≤ 8000000) :
    Calls Try.prog 30 #[v] w fun e w' => e = .returned (.tuple #[]) ∧ SRow w' base v (sortN xs) ∧ w.grownBy w' v.ownBlock := by
  have hm : xs.map Value.string = (xs.map (·.data.toList)).map encStr := by
    rw [List.map_map]
    exact List.map_congr_left fun x _ => by show Value.string x = Value.string _; rw [toArr_toList]
  have hlen : (xs.map (·.data.toList)).length = xs.length := List.length_map _
  obtain ⟨h1, h2⟩ := h
  rcases h2 with ⟨rfl, h0⟩ | ⟨g, cap, cur, rfl, hg, hb, c1, c2, c3, c4⟩
  · obtain rfl : xs = [] := List.eq_nil_of_length_eq_zero h0
    exact (Try.slices_Sort_string_none none 0 w).mono fun e w' ⟨he, hw⟩ => ⟨he, by simpa [sortN] using SRow.nil w' base, by rw [← hw]; exact World.grownBy.refl _ _⟩
  · have hH : Go.Sort.Holds encStr w g 0 (xs.map (·.data.toList)).toArray := holds_of_block hb (by rw [hlen, ← hm]; simpa using c4)
    have hcall := Try.slices_Sort_string g 0 cap (xs.map (·.data.toList)) w hH (blk_lt hb) (by rw [hlen]; omega)
    rw [hlen] at hcall
    refine hcall.mono ?_
    rintro e w' ⟨rfl, n, os, rfl⟩
    refine ⟨rfl, ?_, grownBy_sorted _⟩
    have ho := ownsRow_sorted (n := n) (os := os) (ss := xs.map (·.data.toList)) (ts := (xs.map (·.data.toList)).mergeSort fun x y => decide (x ≤ y)) (by simp) hg hb (by rw [hlen]; exact c1) c2 c3
    rw [hlen] at ho
    rw [SRow, sortN_length]
    have e2 : (sortN xs).map Value.string = ((xs.map (·.data.toList)).mergeSort fun x y => decide (x ≤ y)).map encStr := by
      unfold sortN
      rw [List.map_map]
      rfl
    rw [e2]
    exact ho

/-- What the map of levels holds. -/
def levF (F : ByteArray → Nat) (p : List ByteArray) (x : ByteArray) : Option Value := if x ∈ p then some (.int .i64 (F x : Int)) else none
theorem zero3 (w : World) : (zeroValue 3).run Try.prog w = .ok (.int .i64 0) w := by kernel_rfl
/-- Between two names. -/
structure LvRel (w w' : World) (gm : Nat) (F : ByteArray → Nat) (p : List ByteArray) (v12 : Value) (VL : List Value) (rows : List (List ByteArray)) (f : Nat → Nat) : Prop where
  out : w'.ownsRow w.heap.size 23 1 v12 VL.length VL
  rows : LRows w' w.heap.size VL rows f
  map : MapIs Try.prog 9 w' gm p.length (keyB (levF F p))
  below : Below w.heap.size w w'
  gm_ : w.heap.size ≤ gm

theorem LvRel.putM {w w2 w3 : World} {gm : Nat} {F : ByteArray → Nat} {p : List ByteArray} {x : ByteArray} {v12 : Value} {VL : List Value} {rows : List (List ByteArray)} {f : Nat → Nat} (h : LvRel w w2 gm F p v12 VL rows f)
    (hm : MapIs Try.prog 9 w3 gm (p.length + 1) (keyB fun y => if y = x then some (.int .i64 (F x : Int)) else levF F p y)) (hg : w2.grownBy w3 (some gm)) : LvRel w w3 gm F (p ++ [x]) v12 VL rows f where
  out := own_other h.out hg (.inr (map_ne_row h.map h.out))
  rows := h.rows.stay fun b cs hc => hg.block b (blk_lt hc) (fun e => map_ne_cells h.map hc (Option.some.inj e))
  map := by
    rw [List.length_append, List.length_singleton]
    refine hm.congr fun s => ?_
    cases s with
    | string l =>
      simp only [keyB, ofStr, levF, List.mem_append, List.mem_singleton]
      by_cases h1 : (⟨l.toArray⟩ : ByteArray) = x
      · simp [h1]
      · simp [h1]
    | _ => rfl
  below := pw_below_grown h.below _ h.below.size hg (fun k e => by cases e; exact h.gm_)
  gm_ := h.gm_
theorem LvRel.step {w w2 w3 : World} {gm : Nat} {F : ByteArray → Nat} {p : List ByteArray} {v12 : Value} {VL : List Value} {rows : List (List ByteArray)} {f : Nat → Nat} (h : LvRel w w2 gm F p v12 VL rows f) (hb : Below w2.heap.size w2 w3) : LvRel w w3 gm F p v12 VL rows f :=
  ⟨pw_own_below h.out hb, h.rows.below hb, h.map.below hb, below_step h.below hb, h.gm_⟩
/-- One row more, of no name. -/
theorem LvRel.more {w w2 w3 : World} {gm : Nat} {F : ByteArray → Nat} {p : List ByteArray} {v12 v' : Value} {VL : List Value} {rows : List (List ByteArray)} {f : Nat → Nat} (h : LvRel w w2 gm F p v12 VL rows f)
    (ho : w3.ownsRow w.heap.size 23 1 v' (VL.length + 1) (VL ++ [.slice none 0 0])) (hg : w2.grownBy w3 v12.ownBlock) : LvRel w w3 gm F p v' (VL ++ [.slice none 0 0]) (rows ++ [[]]) f where
  out := by rw [List.length_append]; exact ho
  rows := LRows.push (h.rows.stay fun b cs hc => hg.block b (blk_lt hc) fun e => by
    obtain ⟨cs', hc'⟩ := own_typed h.out b e.symm
    rw [hc] at hc'
    simp at hc')
  map := h.map.kept hg (map_ne_row h.map h.out)
  below := pw_below_grown h.below _ h.below.size hg (fun k e => own_base h.out k e)
  gm_ := h.gm_
/-- One name more in a row. -/
theorem LvRel.put {w w2 w3 : World} {gm : Nat} {F : ByteArray → Nat} {p : List ByteArray} {g n cap : Nat} {VL : List Value} {rows : List (List ByteArray)} {f : Nat → Nat} (h : LvRel w w2 gm F p (.slice (some ⟨g, 0, none⟩) n cap) VL rows f)
    {k : Nat} {v v' : Value} {r : List ByteArray} (hn : VL.length = n) (hv : VL[k]? = some v) (hr : SRow w3 w.heap.size v' r) (hg : w2.grownBy w3 v.ownBlock) (hat : v'.ownBlock = v.ownBlock ∨ ∃ b, v'.ownBlock = some b ∧ w2.heap.size ≤ b) :
    ∃ f', LvRel w (w3.setCell ⟨g, k, none⟩ v') gm F p (.slice (some ⟨g, 0, none⟩) n cap) (VL.set k v') (rows.set k r) f' := by
  obtain ⟨r0, hr0, hs0⟩ := h.rows.back hv
  have hlt : k < VL.length := (List.getElem?_eq_some_iff.1 hv).1
  subst hn
  have hvg : v.ownBlock ≠ some g := fun e => by
    obtain ⟨cs, hc⟩ := hs0.block e
    obtain ⟨cs', hc'⟩ := own_typed h.out g rfl
    rw [hc] at hc'
    simp at hc'
  have hgm := map_ne_row h.map h.out
  have ho3 : w3.ownsRow w.heap.size 23 1 (.slice (some ⟨g, 0, none⟩) VL.length cap) VL.length VL := own_other h.out hg (.inr fun e => hvg e.symm)
  have hg3 : ∃ cs, w3.heap[g]? = some (.cells cs 23 (0, 0)) := own_typed ho3 g rfl
  have hmv : v.ownBlock ≠ some gm := map_ne_row h.map hs0
  have hrg : v'.ownBlock ≠ some g := fun e => by
    obtain ⟨cs, hc⟩ := hr.block e
    obtain ⟨cs', hc'⟩ := hg3
    rw [hc] at hc'
    simp at hc'
  refine ⟨_, ⟨by rw [List.length_set]; exact own_put ho3 k hlt v', LRows.set h.rows hv (own_setCell hr (p := ⟨g, k, none⟩) (fun e => hrg e.symm) v') hat ?_, map_far (h.map.kept hg hmv) (p := ⟨g, k, none⟩) (fun e => hgm (by rw [e]; rfl)) v', ?_, h.gm_⟩⟩
  · intro b cs hc hne
    have hbg : b ≠ g := fun e => by
      obtain ⟨cs', hc'⟩ := own_typed h.out g rfl
      rw [e, hc'] at hc
      simp at hc
    rw [Below.heap_setCell w3 ⟨g, k, none⟩ v' b hbg]
    exact hg.block b (blk_lt hc) (fun e => hne e.symm)
  · have h1 := pw_below_grown h.below _ h.below.size hg (fun k e => own_base hs0 k e)
    exact h1.setCell (own_base h.out g rfl) v'

section
variable {w : World} {ops : Array Oper} {rest : List Oper} {o : Oper} {a : Act} {Q : Exit → Act → World → Prop}
/-- 'append(rows, nil)'. -/
theorem rows_append {W : World} (base : Nat) (hgd : o.guard = none) (s x : Operand) (ho : o.op = .call { callee := .builtin .append, args := #[s, x], argTypes := #[37, 37] }) {v : Value} {VL : List Value} (hs : a.eval s = v) (hx : a.eval x = .slice (some ⟨W.heap.size, 0, none⟩) 1 1)
    (HO : W.ownsRow base 23 1 v VL.length VL) (n6 : Nat) (hn6 : n6 = VL.length + 1) (hl : VL.length ≤ 4000000) (hbase : base ≤ W.heap.size)
    (hK : ∀ g c w', w'.ownsRow base 23 1 (.slice (some ⟨g, 0, none⟩) n6 c) (VL.length + 1) (VL ++ [.slice none 0 0]) → W.grownBy w' v.ownBlock → wpList Try.prog ops Q rest (a.put o.dst (.slice (some ⟨g, 0, none⟩) n6 c)) w') :
    wpList Try.prog ops Q (o :: rest) a (W.alloc (.cells #[.slice none 0 0] 23)) := by
  subst hn6
  obtain ⟨i0, hi, hzz⟩ := Option.map_eq_some_iff.1 info23
  simp only [Prod.mk.injEq] at hzz
  obtain ⟨hz0, hz1, hz2⟩ := hzz
  refine wpList_append_lies (W.alloc (.cells #[.slice none 0 0] 23)) hgd s x 37 ho base 23 i0 (.slice none 0 0) 1 24 Try.underlying37 hi hz0 hz1 hz2 rfl (by decide) v VL.length VL hs (pw_own_below HO (below_alloc (Below.refl _ _) _)) ⟨W.heap.size, 0, none⟩ 1 1 [.slice none 0 0] hx rfl
    (World.news_of_block (cs := #[.slice none 0 0]) (t := 23) (fr := (0, 0)) (heap_alloc_new W _)) (by simp [Value.oneCell']) (by decide) (by simp only [maxLen]; omega) (by omega) (by simp; omega) _ rfl ?_
  intro g c w1 hown hg _ _
  exact hK g c w1 hown (World.grownBy.trans (World.grownBy_alloc W _ _) hg)
end

/-- One row has been sorted. -/
theorem LvRel.sorted {w w2 w3 : World} {gm : Nat} {F : ByteArray → Nat} {p : List ByteArray} {v12 : Value} {VL : List Value} {rows : List (List ByteArray)} {f : Nat → Nat} (h : LvRel w w2 gm F p v12 VL rows f)
    {k : Nat} {v : Value} {r : List ByteArray} (hv : VL[k]? = some v) (hr : SRow w3 w.heap.size v r) (hg : w2.grownBy w3 v.ownBlock) : ∃ f', LvRel w w3 gm F p v12 VL (rows.set k r) f' := by
  obtain ⟨r0, hr0, hs0⟩ := h.rows.back hv
  have hmv : v.ownBlock ≠ some gm := map_ne_row h.map hs0
  have hov : v12.ownBlock = none ∨ v12.ownBlock ≠ v.ownBlock := by
    cases hb : v12.ownBlock with
    | none => exact .inl rfl
    | some b =>
      refine .inr fun e => ?_
      obtain ⟨cs, hc⟩ := hs0.block e.symm
      obtain ⟨cs', hc'⟩ := own_typed h.out b hb
      rw [hc] at hc'
      simp at hc'
  have h1 := LRows.set (w' := w3) h.rows hv hr (.inl rfl) (fun b cs hc hne => hg.block b (blk_lt hc) (fun e => hne e.symm))
  rw [show VL.set k v = VL from by
    obtain ⟨hl, e⟩ := List.getElem?_eq_some_iff.1 hv
    rw [← e, List.set_getElem_self]] at h1
  exact ⟨_, own_other h.out hg hov, h1, h.map.kept hg hmv, pw_below_grown h.below _ h.below.size hg (fun k e => own_base hs0 k e), h.gm_⟩

def sortAt (rows : List (List ByteArray)) (j : Nat) : List (List ByteArray) := (rows.take j).map sortN ++ rows.drop j
theorem sortAt_zero (rows : List (List ByteArray)) : sortAt rows 0 = rows := by simp [sortAt]
theorem sortAt_full {rows : List (List ByteArray)} {j : Nat} (h : rows.length ≤ j) : sortAt rows j = rows.map sortN := by
  rw [sortAt, List.take_of_length_le h, List.drop_eq_nil_of_le h, List.append_nil]
theorem sortAt_length (rows : List (List ByteArray)) (j : Nat) : (sortAt rows j).length = rows.length := by
  rw [sortAt, List.length_append, List.length_map, List.length_take, List.length_drop]; omega
theorem sortAt_get {rows : List (List ByteArray)} {j : Nat} {r : List ByteArray} (h : rows[j]? = some r) : (sortAt rows j)[j]? = some r ∧ sortAt rows (j + 1) = (sortAt rows j).set j (sortN r) := by
  obtain ⟨hl, e⟩ := List.getElem?_eq_some_iff.1 h
  have h1 : ((rows.take j).map sortN).length = j := by rw [List.length_map, List.length_take]; omega
  have h2 : rows.drop j = r :: rows.drop (j + 1) := by rw [← e]; exact List.drop_eq_getElem_cons hl
  constructor
  · rw [sortAt, List.getElem?_append_right (by rw [h1]; exact Nat.le_refl _), h1, Nat.sub_self, h2]
    rfl
  · rw [sortAt, sortAt, List.set_append_right _ _ (by rw [h1]; exact Nat.le_refl _), h1, Nat.sub_self, h2, List.set_cons_zero, List.take_succ_eq_append_getElem hl, List.map_append, List.append_assoc, e]
    rfl

theorem LPure.lev {F : ByteArray → Nat} {s : List ByteArray} {rows : List (List ByteArray)} (h : LPure F s rows) {net : Net ByteArray} (hF : ∀ x ∈ s, F x = lvl net F x) : Lev ltN net s (rows.map sortN) F where
  lv := hF
  lt_ := fun x hx => by rw [List.length_map]; exact h.lt_ x hx
  ne := fun r hr => by
    obtain ⟨r0, h0, rfl⟩ := List.mem_map.1 hr
    intro e
    have := sortN_length r0
    rw [e] at this
    exact h.ne r0 h0 (List.eq_nil_of_length_eq_zero this.symm)
  ri := fun r hr => by
    obtain ⟨r0, h0, rfl⟩ := List.mem_map.1 hr
    exact sortN_rising (h.nd r0 h0)
  mem := fun k r hr x => by
    rw [List.getElem?_map, Option.map_eq_some_iff] at hr
    obtain ⟨r0, h0, rfl⟩ := hr
    rw [(sortN_perm r0).mem_iff]
    exact h.mem k r0 h0 x

/-- What Levels comes to. -/
def LevQ (l : List S41) (w : World) (e : Ending) (w' : World) : Prop :=
  ∃ (v : Value) (VL : List Value) (r : List (List ByteArray)) (x : Int) (f : Nat → Nat), e = .returned (.tuple #[v, .int .i64 x]) ∧ LevelsB (netOf l) (r, x) ∧ w'.ownsRow w.heap.size 23 1 v VL.length VL ∧ LRows w' w.heap.size VL r f ∧ Below w.heap.size w w'
theorem own_weak {w : World} {base base' e n : Nat} {v : Value} {xs : List Value} (h : w.ownsRow base e 1 v n xs) (hb : base' ≤ base) : w.ownsRow base' e 1 v n xs := by
  obtain ⟨h1, h2⟩ := h
  refine ⟨h1, ?_⟩
  rcases h2 with h2 | ⟨g, cap, cur, hv, hg, r⟩
  · exact .inl h2
  · exact .inr ⟨g, cap, cur, hv, Nat.le_trans hb hg, r⟩
end Go.Proofs.Ytdllpgeagdckmaa.Q
