/- The net's circle: does a name lie on a circle? -/
import Derived.Test.YtdllpgeagdckmaaOWanted
namespace Go.Proofs.Ytdllpgeagdckmaa.Q
open Go.RowKit Go.Proofs.YtdllpgeagdckmaaW.PrintWords Go.Proofs.YtdllpgeagdckmaaW.PrintLast Go.Proofs.YtdllpgeagdckmaaW.PrintMore Go.Proofs.Ytdllpgeagdckmaa.MapKit Go.Maps Go.Proofs.Ytdllpgeagdckmaa.Ord
attribute [local go_sem] max2_int min2_int max_two min_two max_three min_three max_four min_four
set_option linter.unusedVariables false
set_option linter.unusedSimpArgs false

structure CPure (l : Net ByteArray) (hv want stack seen : List ByteArray) (x0 : ByteArray) (k : Nat) : Prop where
  dfs : Dfs l hv want stack seen
  nin : x0 ∉ seen
  cnt : seen.length + stack.length + pot l seen ≤ want.length + pot l []
  k : k = stack.length + pot l seen + 1
  sz : ∀ x ∈ stack, x.size ≤ maxLen
theorem CPure.skip {l : Net ByteArray} {hv want st seen : List ByteArray} {x x0 : ByteArray} {k : Nat} (h : CPure l hv want (st ++ [x]) seen x0 (k + 1)) (hx : x ∈ hv ∨ x ∈ seen) : CPure l hv want st seen x0 k where
  dfs := h.dfs.skip hx
  nin := h.nin
  cnt := by have := h.cnt; simp at this; omega
  k := by have := h.k; simp at this; omega
  sz := fun y hy => h.sz y (List.mem_append_left _ hy)
theorem CPure.push {l : Net ByteArray} {hv want st seen us : List ByteArray} {x x0 : ByteArray} {k : Nat} (h : CPure l hv want (st ++ [x]) seen x0 (k + 1)) (hx : x ∉ hv) (hs : x ∉ seen) (hne : x ≠ x0) (hu : (usesOf l x).getD [] = us) (hnd : (l.map (·.1)).Nodup) (hsz : ∀ u ∈ us, u.size ≤ maxLen) : CPure l hv want (st ++ us) (seen ++ [x]) x0 k where
  dfs := by have := h.dfs.push hx hs; rwa [hu] at this
  nin := by
    rw [List.mem_append, List.mem_singleton, not_or]
    exact ⟨h.nin, fun e => hne e.symm⟩
  cnt := by
    have h1 := h.cnt
    have h2 := pot_push hnd hs
    rw [hu] at h2
    simp at h1 h2 ⊢
    omega
  k := by
    have h1 := h.k
    have h2 := pot_push hnd hs
    rw [hu] at h2
    simp at h1 h2 ⊢
    omega
  sz := fun y hy => by
    rcases List.mem_append.1 hy with hy | hy
    · exact h.sz y (List.mem_append_left _ hy)
    · exact hsz y hy

def CircP (l : Net ByteArray) (hv us0 : List ByteArray) (x0 : ByteArray) (w : World) (e : Ending) (w' : World) : Prop :=
  (Ord.Reach l hv us0 x0 ∧ e = .returned (.bool true) ∨ ¬ Ord.Reach l hv us0 x0 ∧ e = .returned (.bool false)) ∧ Below w.heap.size w w'

/-- What the map of uses says of a name. -/
theorem uses_get {w : World} {F : ByteArray → Option Value} {l : Net ByteArray} (h : UsesF w F l) (x : ByteArray) : ∃ A c, (F x).getD (.slice none 0 0) = .slice A ((usesOf l x).getD []).length c ∧ Kd.string.C w A ((usesOf l x).getD []).length ((usesOf l x).getD []) := by
  cases hu : usesOf l x with
  | none =>
    rw [h.1 x hu]
    exact ⟨none, 0, rfl, Kd.C_nil _ _⟩
  | some us =>
    obtain ⟨A, c, e, _, hC⟩ := h.2 x us hu
    rw [e]
    exact ⟨A, c, rfl, hC⟩

set_option maxHeartbeats 4000000 in
set_option maxRecDepth 100000 in
theorem circle_calls (w : World) (b gu gh : Nat) (l : List S41) (hv us0 : List ByteArray) (x0 : ByteArray) (hN : NetAt w b gu gh l hv) (htot : tot (netOf l) ≤ 3000000) (hus : ∀ v ∈ l, ∀ u ∈ v.f1, u.size ≤ maxLen) (hx0 : x0.size ≤ maxLen) (hnd : ((netOf l).map (·.1)).Nodup) (hu0 : usesOf (netOf l) x0 = some us0) (hul : us0.length ≤ 3000000) :
    Calls Try.prog 21 #[.pointer (some ⟨b, 0, none⟩), .string x0] w (CircP (netOf l) hv us0 x0 w) := by
  have husz : ∀ x us, usesOf (netOf l) x = some us → ∀ u ∈ us, u.size ≤ maxLen := fun x us hu => by
    have h1 := (usesOf_mem hnd).1 hu
    simp only [netOf, List.mem_map, Prod.mk.injEq] at h1
    obtain ⟨v, hv1, _, rfl⟩ := h1
    exact hus v hv1
  have HUSZ := Aside0.mk husz
  obtain ⟨F, nu, hmu, hF⟩ := hN.uses
  obtain ⟨A0, c0, hg0, hC0⟩ := uses_get hF x0
  rw [hu0, Option.getD_some] at hg0 hC0
  have HN := Aside0.mk hN
  have HMU := Aside0.mk hmu
  have HF := Aside0.mk hF
  have HG0 := Aside0.mk hg0
  have HC0 := Aside0.mk hC0
  have HTOT := Aside0.mk htot
  have HND := Aside0.mk hnd
  have HX0 := Aside0.mk hx0
  have HUL := Aside0.mk hul
  have HU0 := Aside0.mk hu0
  have n0 : w.cell? ⟨b, 0, none⟩ = some (.map (some gu)) := (blk_cell hN.blk 0).trans rfl
  clear hN hmu hF hg0 hC0 htot hnd hx0 hul husz hus hu0
  have hmm := @run_makeMap Try.prog
  go_enter Try.func21, Try.ntmps21
  go_wp2_with fail
  go_step3
  go_upto_region 2 with fail
  have hs1 := SetIs.made w
  have hb1 : Below w.heap.size w (w.alloc (.map #[] 0)) := below_alloc (Below.refl _ _) _
  have n0' := pw_cell_below hb1 n0
  generalize w.alloc (.map #[] 0) = w1 at *
  obtain ⟨g, hg⟩ : ∃ g, g = w.heap.size := ⟨_, rfl⟩
  rw [← hg] at hs1 ⊢
  have HG := Aside0.mk hg
  have HS1 := Aside0.mk hs1
  have HB1 := Aside0.mk hb1
  clear hg hs1 hb1 n0
  go_wp2_with (first | (at_lookup; refine wpList_look rfl _ _ 68 rfl 23 key9 Try.underlying68 (zero23 _) rfl (HMU.out.below HB1.out) _ _ rfl (Go.WideMaps.keyOf_string_mk Try.underlying9 HX0.out) ?_; rw [keyB_at, HG0.out]) | (go_at_call 36; refine (clone_names w1 A0 c0 us0 (Kd.C_below HC0.out HB1.out) HUL.out).mono ?_; rintro e w2 ⟨v7, rfl, hr7, hb2⟩; have HR7 := Aside0.mk hr7; have HB2 := Aside0.mk hb2; clear hr7 hb2))
  clear n0'
  obtain ⟨A7, c7, rfl⟩ := HR7.out.shape
  have h0 : WRel w w2 g (.slice none 0 0) (.slice A7 us0.length c7) us0 [] [] := ⟨own_weaken HR7.out HB1.out.size, SRow.nil _ _, .inl rfl, HS1.out.below HB2.out, below_step HB1.out HB2.out⟩
  have p0 : CPure (netOf l) hv us0 us0 [] x0 (us0.length + pot (netOf l) [] + 1) := ⟨Dfs.start _ _ _, by simp, by simp, rfl, HUSZ.out x0 us0 HU0.out⟩
  have H0 := Aside0.mk (And.intro h0 p0)
  clear h0 p0 HS1 HB1 HR7 HB2
  go_step3
  go_wp2_with fail
  go_loopg [6] (us0.length + pot (netOf l) [] + 1) (fun kq v6 w' => Aside0 (∃ stack seen, WRel w w' g (.slice none 0 0) v6 stack seen [] ∧ CPure (netOf l) hv us0 stack seen x0 kq))
  case atStart => exact ⟨⟨_, _, H0.out.1, H0.out.2⟩⟩
  case round =>
    clear H0
    obtain ⟨stack, seen, hR, hP⟩ := hrel.out
    have HP := Aside0.mk hP
    have hsl : seen.length + stack.length ≤ 6000000 := by
      have h1 := hP.cnt
      have h2 := pot_tot (netOf l)
      have h3 := HTOT.out
      have h4 := HUL.out
      omega
    obtain ⟨A7', c7', e7⟩ := hR.row7.shape
    rcases stack.eq_nil_or_concat with hst | ⟨st, x, hst⟩
    · subst hst
      rw [List.length_nil] at e7
      subst e7
      have HR := Aside0.mk hR
      clear hR hP hrel
      go_wp2_with fail
      rw [Exit.noGoto_ret]
      go_ret
      exact ⟨.inr ⟨fun h => HP.out.nin ((HP.out.dfs.done x0).2 h), rfl⟩, HR.out.below⟩
    · rw [List.concat_eq_append] at hst
      subst hst
      obtain ⟨k1, rfl⟩ : ∃ k1, gk = k1 + 1 := ⟨gk - 1, by have := hP.k; omega⟩
      have hl7 : (st ++ [x]).length = st.length + 1 := by simp
      rw [hl7] at e7
      subst e7
      obtain ⟨A7r, c7r, er, hcr, hCr⟩ := hR.row7.reads
      rw [hl7] at er
      simp only [Value.slice.injEq, true_and] at er
      obtain ⟨rfl, rfl⟩ := er
      obtain ⟨ad, rfl, z0⟩ := name_at hCr st.length (by simp)
      have hxe : (st ++ [x])[st.length]'(by simp) = x := by simp
      rw [hxe] at z0
      have hxs : x.size ≤ maxLen := HP.out.sz x (by simp)
      have hsl7 := slice_take (some ad) (st.length + 1) c7' st.length (by omega)
      have hst : seen.length + st.length + 1 ≤ 6000000 := by omega
      have HR := Aside0.mk hR
      have HXS := Aside0.mk hxs
      have n0 : wr.cell? ⟨b, 0, none⟩ = some (.map (some gu)) := (blk_cell (HN.out.below HR.out.below).blk 0).trans rfl
      have n1 : wr.cell? ⟨b, 1, none⟩ = some (.map (some gh)) := (blk_cell (HN.out.below HR.out.below).blk 1).trans rfl
      obtain ⟨nh, _, hsh⟩ := (HN.out.below HR.out.below).have_
      have HSH := Aside0.mk hsh
      clear hR hP hrel hl7 hCr hcr hxe hxs hsh hsl
      by_cases hx : x ∈ hv
      · have hxb : decide (x ∈ hv) = true := decide_eq_true hx
        go_wp2_with (at_lookup; refine set_look rfl _ _ rfl rfl HSH.out x rfl (HXS.out) ?_)
        go_roundg k1
        case measure => omega
        case rel => exact ⟨⟨st, seen, HR.out.pop, HP.out.skip (.inl hx)⟩⟩
      · have hxb : decide (x ∈ hv) = false := decide_eq_false hx
        by_cases hs : x ∈ seen
        · have hsb : decide (x ∈ seen) = true := decide_eq_true hs
          go_wp2_with (first | (at_lookup; refine set_look rfl _ _ rfl rfl HSH.out x rfl (HXS.out) ?_) | (at_lookup; refine set_look_w rfl _ _ rfl rfl HR.out.set x rfl (HXS.out) ?_))
          go_roundg k1
          case measure => omega
          case rel => exact ⟨⟨st, seen, HR.out.pop, HP.out.skip (.inr hs)⟩⟩
        · have hsb : decide (x ∈ seen) = false := decide_eq_false hs
          by_cases he : x = x0
          · have heb : (x.toList == x0.toList) = true := by rw [he]; simp
            have HE := Aside0.mk he
            clear he
            go_wp2_with (first | (at_lookup; refine set_look rfl _ _ rfl rfl HSH.out x rfl (HXS.out) ?_) | (at_lookup; refine set_look_w rfl _ _ rfl rfl HR.out.set x rfl (HXS.out) ?_))
            rw [Exit.noGoto_ret]
            go_ret
            refine ⟨.inl ⟨?_, rfl⟩, HR.out.below⟩
            rw [← HE.out]
            exact HP.out.dfs.top hx
          · have heb : (x.toList == x0.toList) = false := by
              rw [beq_eq_false_iff_ne, toList_data, toList_data]
              exact fun e => he (bytes_ext e)
            obtain ⟨Au, cu, hgx, hCu⟩ := uses_get HF.out x
            obtain ⟨us, hus⟩ : ∃ us, us = (usesOf (netOf l) x).getD [] := ⟨_, rfl⟩
            rw [← hus] at hgx hCu
            have hul : st.length + us.length ≤ 6000000 := by
              have h1 := HP.out.cnt
              have h2 := pot_tot (netOf l)
              have h3 := HTOT.out
              have h4 := HUL.out
              have h5 := pot_push HND.out hs
              rw [← hus] at h5
              simp at h1 h5
              omega
            have husz : ∀ u ∈ us, u.size ≤ maxLen := by
              rw [hus]
              cases hu : usesOf (netOf l) x with
              | none => simp
              | some us' => exact HUSZ.out x us' hu
            have HGX := Aside0.mk hgx
            have HCU := Aside0.mk hCu
            have HUS := Aside0.mk hus.symm
            have HUZ := Aside0.mk husz
            clear hgx hus hCu husz
            go_wp2_with (first | (at_lookup; refine set_look rfl _ _ rfl rfl HSH.out x rfl (HXS.out) ?_) | (at_lookup; refine set_look_w rfl _ _ rfl rfl HR.out.set x rfl (HXS.out) ?_) | (at_mapUpdate; refine set_put rfl _ _ _ rfl rfl HR.out.set (by unfold maxLen; omega) x rfl rfl (HXS.out) ?_; intro w3 hs3 hg3; have HR3 := Aside0.mk (HR.out.pop.put hs3 hg3 HG.out); have HMU3 := Aside0.mk (uses_after HMU.out HR.out.below hg3 HG.out); have n0' : w3.cell? ⟨b, 0, none⟩ = some (.map (some gu)) := blk_after HN.out HR.out hg3 HG.out; clear hs3 hg3 n0 n1) | (at_lookup; refine wpList_look rfl _ _ 68 rfl 23 key9 Try.underlying68 (zero23 _) rfl HMU3.out _ _ rfl (Go.WideMaps.keyOf_string_mk Try.underlying9 HXS.out) ?_; rw [keyB_at, HGX.out]) | ((with_reducible refine gate_builtin (b := .append) (xs := #[.tmp 48, .tmp 54]) rfl ?_); refine srow_appendAll w.heap.size rfl (.tmp 48) (.tmp 54) rfl rfl rfl HR3.out.row7 (Kd.C_below HCU.out HR3.out.below) (by omega) HR3.out.below.size ?_; intro A6 c6 w6 hr hg hat; have HR6 := Aside0.mk (HR3.out.app7 hr hg hat); clear hr hg hat))
            go_roundg k1
            case measure => omega
            case rel => exact ⟨⟨st ++ us, seen ++ [x], HR6.out, HP.out.push hx hs he HUS.out HND.out HUZ.out⟩⟩
end Go.Proofs.Ytdllpgeagdckmaa.Q
