/- Put together out of the texts OInsert, Q8, ORefReach, ORefSort, ORefLevels: what each proves stands at its head. -/
import Derived.Test.YtdllpgeagdckmaaPM3
import Derived.Test.YtdllpgeagdckmaaPM2
import Derived.Outline
import Derived.Test.YtdllpgeagdckmaaPM1
import Derived.Test.YtdllpgeagdckmaaPM4
import Derived.Test.YtdllpgeagdckmaaPM6
import Derived.Test.YtdllpgeagdckmaaPM5

/- The document's insert: a text into a list, behind those that are less. -/
namespace Go.Proofs.Ytdllpgeagdckmaa.Q
open Go.RowKit Go.Proofs.YtdllpgeagdckmaaW.PrintWords Go.Proofs.YtdllpgeagdckmaaW.PrintLast Go.Proofs.YtdllpgeagdckmaaW.PrintMore Go.Proofs.Ytdllpgeagdckmaa.MapKit Go.Maps Go.Proofs.Ytdllpgeagdckmaa.Ord
attribute [local go_sem] max2_int min2_int max_two min_two max_three min_three max_four min_four
set_option linter.unusedVariables false
set_option linter.unusedSimpArgs false

def insL (l : List ByteArray) (s : ByteArray) : List ByteArray := l.takeWhile (fun x => ltN x s) ++ [s] ++ l.dropWhile (fun x => ltN x s)
def quireref15_insert.f (l : List ByteArray) (s : ByteArray) : Option (List ByteArray) := if l.length ≤ 4000000 then some (insL l s) else none
theorem ins_at {l : List ByteArray} {s : ByteArray} {i : Nat} (h : ∀ j (hj : j < l.length), j < i → ltN l[j] s = true) (he : i = l.length ∨ ∃ hi : i < l.length, ltN l[i] s = false) (hi : i ≤ l.length) : insL l s = l.take i ++ [s] ++ l.drop i := by
  have key : ∀ (l : List ByteArray) (i : Nat), (∀ j (hj : j < l.length), j < i → ltN l[j] s = true) → (i = l.length ∨ ∃ hi : i < l.length, ltN l[i] s = false) → i ≤ l.length → l.takeWhile (fun x => ltN x s) = l.take i ∧ l.dropWhile (fun x => ltN x s) = l.drop i := by
    intro l
    induction l with
    | nil => intro i _ _ hi; simp
    | cons a l ih =>
      intro i h he hi
      cases i with
      | zero =>
        rcases he with he | ⟨_, he⟩
        · simp at he
        · simp only [List.getElem_cons_zero] at he
          simp [he]
      | succ i =>
        have ha := h 0 (by simp) (by omega)
        simp only [List.getElem_cons_zero] at ha
        have := ih i (fun j hj hji => by have := h (j + 1) (by simp; omega) (by omega); simpa using this) (by
          rcases he with he | ⟨h1, h2⟩
          · left; simpa using he
          · right; exact ⟨by simpa using h1, by simpa using h2⟩) (by simpa using hi)
        simp [List.takeWhile_cons, List.dropWhile_cons, ha, this.1, this.2]
  obtain ⟨h1, h2⟩ := key l i h he hi
  rw [insL, h1, h2]

set_option maxHeartbeats 4000000 in
set_option maxRecDepth 100000 in
theorem quireref15_insert.calls (A0 : Option Addr) (c0 : Nat) (l0 : List ByteArray) (a1 : ByteArray) (r : List ByteArray) (w : World) (hr0 : Kd.C Kd.string w A0 l0.length l0) (hc0 : l0.length ≤ c0) (h : quireref15_insert.f l0 a1 = some r) :
    Calls Try.prog 31 #[.slice A0 l0.length c0, .string a1] w fun e w' => ∃ v0_ : Value, e = .returned v0_ ∧ Kd.R Kd.string 9 w' w.heap.size (fun _ => True) v0_ r ∧ Below w.heap.size w w' := by
  unfold quireref15_insert.f at h
  split at h
  · rename_i hb
    cases h
    have HR := Aside0.mk hr0
    have HC := Aside0.mk hc0
    have hbj : (l0.length : Int) ≤ 4000000 := by omega
    clear hr0 hc0
    go_enter Try.func31, Try.ntmps31
    go_wp2_with fail
    go_loopg [5] (l0.length + 1) (fun kq v5 w' => w' = w ∧ ∃ i : Nat, v5 = .int .i64 (i : Int) ∧ Aside0 (i ≤ l0.length) ∧ Aside0 (kq + i = l0.length + 1) ∧ Aside0 (∀ j (hj : j < l0.length), j < i → ltN l0[j] a1 = true))
    case atStart => exact ⟨rfl, 0, rfl, ⟨Nat.zero_le _⟩, ⟨by omega⟩, ⟨fun j _ hj => by omega⟩⟩
    obtain ⟨rfl, i, rfl, HI, HK, HP⟩ := hrel
    have hi := HI.out
    have hk := HK.out
    have fin : (i = l0.length ∨ ∃ hi : i < l0.length, ltN l0[i] a1 = false) → Aside0 (insL l0 a1 = l0.take i ++ [a1] ++ l0.drop i) := fun he => ⟨ins_at HP.out he HI.out⟩
    have FIN := Aside0.mk fin
    clear fin
    obtain ⟨i0, hi0, hzz⟩ := Option.map_eq_some_iff.1 info9
    simp only [Prod.mk.injEq] at hzz
    obtain ⟨_, hz1, _⟩ := hzz
    obtain ⟨hcut, hA, hCt⟩ := print_take_of (P := Try.prog) Value.string (⟨#[]⟩ : ByteArray) 23 9 .i64 Try.underlying23 hi0 hz1 A0 c0 l0 (i : Int) (by omega) (by omega) HC.out
    obtain ⟨A2, hcut2, hA2, hCd⟩ := print_drop_of (P := Try.prog) Value.string (⟨#[]⟩ : ByteArray) 23 9 .i64 Try.underlying23 hi0 hz1 A0 c0 l0 (i : Int) (by omega) (by omega) HC.out
    have hRt := Kd.C_of_reads (h1 := fun _ => rfl) (hA _ (Kd.reads_of_C HR.out))
    have hRd := Kd.C_of_reads (h1 := fun _ => rfl) (hA2 _ (Kd.reads_of_C HR.out))
    have e1 : ((i : Int)).toNat = i := Int.toNat_natCast i
    rw [e1] at hcut hcut2 hRt hRd hCt hCd
    obtain ⟨l1, hl1⟩ : ∃ l, l = l0.take i := ⟨_, rfl⟩
    obtain ⟨l2, hl2⟩ : ∃ l, l = l0.drop i := ⟨_, rfl⟩
    rw [← hl1] at hcut hRt hCt
    rw [← hl2] at hcut2 hRd hCd
    have hn1 : l1.length ≤ 4000000 := by rw [hl1, List.length_take]; omega
    have hn2 : l2.length ≤ 4000000 := by rw [hl2, List.length_drop]; omega
    have HRT := Aside0.mk hRt
    have HRD := Aside0.mk hRd
    have HCT := Aside0.mk hCt
    have HCD := Aside0.mk hCd
    have HN1 := Aside0.mk hn1
    have HN2 := Aside0.mk hn2
    have HL1 := Aside0.mk hl1
    have HL2 := Aside0.mk hl2
    have LA : Aside0 (([] : List ByteArray).length + l1.length ≤ 8000000 ∧ ([] ++ l1).length ≤ 8000000 ∧ (([] ++ l1) ++ [a1]).length + l2.length ≤ 8000000) := ⟨by
      have e : l1.length + l2.length = l0.length := by rw [hl1, hl2, List.length_take, List.length_drop]; omega
      simp only [List.nil_append, List.length_append, List.length_nil, List.length_singleton]
      omega⟩
    clear hA hA2 hRt hRd hCt hCd hi0 hz1 e1 hn1 hn2
    by_cases hlt : i < l0.length
    · have hz : decide ((i : Int) < (l0.length : Int)) = true := decide_eq_true (by omega)
      obtain ⟨k1, rfl⟩ : ∃ k1, gk = k1 + 1 := ⟨gk - 1, by omega⟩
      obtain ⟨ad, rfl, z1⟩ := name_at HR.out i hlt
      by_cases hb : ltN l0[i] a1 = true
      · have hpn : ∀ j (hj : j < l0.length), j < i + 1 → ltN l0[j] a1 = true := fun j hj hji => by
          rcases Nat.lt_or_ge j i with h | h
          · exact HP.out j hj h
          · obtain rfl : j = i := by omega
            exact hb
        have HPN := Aside0.mk hpn
        obtain ⟨u, hu⟩ : ∃ u, u = l0[i] := ⟨_, rfl⟩
        rw [← hu] at z1 hb
        have hb2 : Op.bytesLess u.toList a1.toList = true := hb
        clear hpn hu hb hl1 hl2
        go_wp2_with fail
        go_roundg k1
        case measure => omega
        case rel => exact ⟨rfl, i + 1, by push_cast; rfl, ⟨by omega⟩, ⟨by omega⟩, HPN⟩
      · have HF := FIN.out (.inr ⟨hlt, by simpa using hb⟩)
        obtain ⟨u, hu⟩ : ∃ u, u = l0[i] := ⟨_, rfl⟩
        rw [← hu] at z1 hb
        have hb2 : Op.bytesLess u.toList a1.toList = false := by unfold ltN at hb; simpa using hb
        clear hu hb hl1 hl2
        go_wp2_with (at_builtin; first
          | (refine srow_appendAll wr.heap.size rfl (.tmp 21) (.tmp 24) rfl (v := .slice none 0 0) (xs := []) (ys := l1) (A := some ad) (c := c0) rfl rfl (SRow.nil _ _) HRT.out LA.out.1 (Nat.le_refl _) ?_; intro A5 c5 w5 hr5 hg5 hat5; obtain ⟨n5, hn5⟩ : ∃ n, n = ([] : List ByteArray).length + l1.length := ⟨_, rfl⟩; rw [← hn5] at hr5 ⊢; have HR5 := Aside0.mk hr5; have HB5 := Aside0.mk (pw_below_grown (Below.refl _ _) _ (Nat.le_refl _) hg5 (fun k e => by cases e)); clear hr5 hg5 hat5 hn5)
          | (refine srow_append wr.heap.size rfl (.tmp 26) (.tmp 28) rfl (v := .slice A5 n5 c5) (xs := [] ++ l1) rfl a1 rfl HR5.out LA.out.2.1 HB5.out.size ?_; intro A6 c6 w6 hr6 hg6 hat6; obtain ⟨n6, hn6⟩ : ∃ n, n = ([] ++ l1).length + 1 := ⟨_, rfl⟩; rw [← hn6] at hr6 ⊢; have HR6 := Aside0.mk hr6; have HB6 := Aside0.mk (pw_below_grown HB5.out _ HB5.out.size hg6 (fun k e => HR5.out.base_le k e)); clear hr6 hg6 hat6 hn6)
          | (refine srow_appendAll wr.heap.size rfl (.tmp 30) (.tmp 33) rfl (v := .slice A6 n6 c6) (xs := ([] ++ l1) ++ [a1]) (ys := l2) (A := A2) (c := c0 - i) rfl rfl HR6.out (Kd.C_below HRD.out HB6.out) LA.out.2.2 HB6.out.size ?_; intro A7 c7 w7 hr7 hg7 hat7; obtain ⟨n7, hn7⟩ : ∃ n, n = (([] ++ l1) ++ [a1]).length + l2.length := ⟨_, rfl⟩; rw [← hn7] at hr7 ⊢; have HR7 := Aside0.mk hr7; have HB7 := Aside0.mk (pw_below_grown HB6.out _ HB6.out.size hg7 (fun k e => HR6.out.base_le k e)); clear hr7 hg7 hat7 hn7))
        go_ret
        refine ⟨_, rfl, ?_, HB7.out⟩
        rw [HF.out, ← HL1.out, ← HL2.out]
        exact Kd.R_of_own HR7.out (fun _ _ => trivial)
    · have HF := FIN.out (.inl (by omega))
      have hz : decide ((i : Int) < (l0.length : Int)) = false := decide_eq_false (by omega)
      clear hl1 hl2
      go_wp2_with (at_builtin; first
        | (refine srow_appendAll wr.heap.size rfl (.tmp 21) (.tmp 24) rfl (v := .slice none 0 0) (xs := []) (ys := l1) (A := A0) (c := c0) rfl rfl (SRow.nil _ _) HRT.out LA.out.1 (Nat.le_refl _) ?_; intro A5 c5 w5 hr5 hg5 hat5; obtain ⟨n5, hn5⟩ : ∃ n, n = ([] : List ByteArray).length + l1.length := ⟨_, rfl⟩; rw [← hn5] at hr5 ⊢; have HR5 := Aside0.mk hr5; have HB5 := Aside0.mk (pw_below_grown (Below.refl _ _) _ (Nat.le_refl _) hg5 (fun k e => by cases e)); clear hr5 hg5 hat5 hn5)
        | (refine srow_append wr.heap.size rfl (.tmp 26) (.tmp 28) rfl (v := .slice A5 n5 c5) (xs := [] ++ l1) rfl a1 rfl HR5.out LA.out.2.1 HB5.out.size ?_; intro A6 c6 w6 hr6 hg6 hat6; obtain ⟨n6, hn6⟩ : ∃ n, n = ([] ++ l1).length + 1 := ⟨_, rfl⟩; rw [← hn6] at hr6 ⊢; have HR6 := Aside0.mk hr6; have HB6 := Aside0.mk (pw_below_grown HB5.out _ HB5.out.size hg6 (fun k e => HR5.out.base_le k e)); clear hr6 hg6 hat6 hn6)
        | (refine srow_appendAll wr.heap.size rfl (.tmp 30) (.tmp 33) rfl (v := .slice A6 n6 c6) (xs := ([] ++ l1) ++ [a1]) (ys := l2) (A := A2) (c := c0 - i) rfl rfl HR6.out (Kd.C_below HRD.out HB6.out) LA.out.2.2 HB6.out.size ?_; intro A7 c7 w7 hr7 hg7 hat7; obtain ⟨n7, hn7⟩ : ∃ n, n = (([] ++ l1) ++ [a1]).length + l2.length := ⟨_, rfl⟩; rw [← hn7] at hr7 ⊢; have HR7 := Aside0.mk hr7; have HB7 := Aside0.mk (pw_below_grown HB6.out _ HB6.out.size hg7 (fun k e => HR6.out.base_le k e)); clear hr7 hg7 hat7 hn7))
      go_ret
      refine ⟨_, rfl, ?_, HB7.out⟩
      rw [HF.out, ← HL1.out, ← HL2.out]
      exact Kd.R_of_own HR7.out (fun _ _ => trivial)
  · cases h
end Go.Proofs.Ytdllpgeagdckmaa.Q

-- Made by a program of this session (turnprint.py), after the manner of the kit's print.
namespace Go.Proofs.Ytdllpgeagdckmaa.Q
open Go.RowKit Go.Proofs.YtdllpgeagdckmaaW.PrintWords Go.Proofs.YtdllpgeagdckmaaW.PrintLast Go.Proofs.YtdllpgeagdckmaaW.PrintMore
attribute [local go_sem] max2_int min2_int max_two min_two max_three min_three max_four min_four   -- for this text's walks alone
set_option linter.unusedVariables false
set_option linter.unusedSimpArgs false

/-! ### quireref15_Levels: function 15 -/
mutual
noncomputable def quireref15_Levels.l0 : Nat → List (S33) → List ByteArray → Int → Option ((List (List ByteArray)) × Int)
  | 0, _, _, _ => none
  | k + 1, x0, x4, x5 => if x5 < (x0.length : Int) then (if 0 ≤ x5 then (if x4.length < 8796093022208 then (quireref15_Levels.l0 k x0 (x4 ++ [(rd_T33 x0 x5).f0]) (wrap64 (x5 + 1))) else (none)) else (none)) else ((quireref15_Sort.f k x0 x4 ([] : List ByteArray)).bind fun bt243 => (if bt243.2.2 = 0 then (quireref15_Levels.l1 k x0 bt243.1 ([] : List (List ByteArray)) ([] : List ByteArray)) else (some (([] : List (List ByteArray)), bt243.2.2))))
noncomputable def quireref15_Levels.l1 : Nat → List (S33) → List ByteArray → List (List ByteArray) → List ByteArray → Option ((List (List ByteArray)) × Int)
  | 0, _, _, _, _ => none
  | k + 1, x0, x6, x9, x10 => if (x10.length : Int) < (x6.length : Int) then (quireref15_Levels.l2 k x0 x6 x9 x10 ([] : List ByteArray) 0) else (some (x9, 0))
noncomputable def quireref15_Levels.l2 : Nat → List (S33) → List ByteArray → List (List ByteArray) → List ByteArray → List ByteArray → Int → Option ((List (List ByteArray)) × Int)
  | 0, _, _, _, _, _, _ => none
  | k + 1, x0, x6, x9, x10, x11, x12 => if x12 < (x6.length : Int) then (if 0 ≤ x12 then ((quireref15_has.f k x10 (rdOf ByteArray.empty x6 x12)).bind fun t255 => (if t255 = true then (quireref15_Levels.l2 k x0 x6 x9 x10 x11 (wrap64 (x12 + 1))) else ((quireref15_find.f k x0 (rdOf ByteArray.empty x6 x12)).bind fun t257 => (if 0 ≤ t257 then (if t257 < (x0.length : Int) then ((quireref15_ready.f k ((rd_T33 x0 t257).f0) ((rd_T33 x0 t257).f1) x10 ([] : List ByteArray)).bind fun t259 => (if t259 = true then ((quireref15_insert.f x11 (rdOf ByteArray.empty x6 x12)).bind fun t261 => (quireref15_Levels.l2 k x0 x6 x9 x10 t261 (wrap64 (x12 + 1)))) else (quireref15_Levels.l2 k x0 x6 x9 x10 x11 (wrap64 (x12 + 1))))) else (none)) else (none))))) else (none)) else (if x10.length + x11.length < 8796093022208 then (if x9.length < 5864062014805 then (quireref15_Levels.l1 k x0 x6 (x9 ++ [x11]) (x10 ++ x11)) else (none)) else (none))
end
noncomputable def quireref15_Levels.f (k : Nat) (l0 : List (S33)) : Option ((List (List ByteArray)) × Int) := quireref15_Levels.l0 k l0 ([] : List ByteArray) 0
theorem quireref15_Levels.mono_l : ∀ k, (∀ y0 y1 y2, LeO (quireref15_Levels.l0 k y0 y1 y2) (quireref15_Levels.l0 (k + 1) y0 y1 y2)) ∧ (∀ y0 y1 y2 y3, LeO (quireref15_Levels.l1 k y0 y1 y2 y3) (quireref15_Levels.l1 (k + 1) y0 y1 y2 y3)) ∧ (∀ y0 y1 y2 y3 y4 y5, LeO (quireref15_Levels.l2 k y0 y1 y2 y3 y4 y5) (quireref15_Levels.l2 (k + 1) y0 y1 y2 y3 y4 y5))
  | 0 => ⟨fun _ _ _ r h => by simp [quireref15_Levels.l0] at h, fun _ _ _ _ r h => by simp [quireref15_Levels.l1] at h, fun _ _ _ _ _ _ r h => by simp [quireref15_Levels.l2] at h⟩
  | k + 1 => by
    obtain ⟨ih0, ih1, ih2⟩ := quireref15_Levels.mono_l k
    refine ⟨?_, ?_, ?_⟩
    · intro y0 y1 y2
      unfold quireref15_Levels.l0
      repeat' first
      | (with_reducible exact ih0 _ _ _)
      | (with_reducible exact ih1 _ _ _ _)
      | (with_reducible exact ih2 _ _ _ _ _ _)
      | (with_reducible exact quireref15_Sort.mono _ _ _ _)
      | (with_reducible exact quireref15_find.mono _ _ _)
      | (with_reducible exact quireref15_has.mono _ _ _)
      | (with_reducible exact quireref15_ready.mono _ _ _ _ _)
      | (with_reducible exact LeO.refl _)
      | (with_reducible exact LeO.none _)
      | (with_reducible refine LeO.ite ?_ ?_)
      | (with_reducible refine LeO.bind ?_ (fun _ => ?_))
      | exact ih0 _ _ _
      | exact ih1 _ _ _ _
      | exact ih2 _ _ _ _ _ _
      | exact quireref15_Sort.mono _ _ _ _
      | exact quireref15_find.mono _ _ _
      | exact quireref15_has.mono _ _ _
      | exact quireref15_ready.mono _ _ _ _ _
      | exact LeO.none _
      | refine LeO.ite ?_ ?_
      | refine LeO.bind ?_ (fun _ => ?_)
    · intro y0 y1 y2 y3
      unfold quireref15_Levels.l1
      repeat' first
      | (with_reducible exact ih0 _ _ _)
      | (with_reducible exact ih1 _ _ _ _)
      | (with_reducible exact ih2 _ _ _ _ _ _)
      | (with_reducible exact quireref15_Sort.mono _ _ _ _)
      | (with_reducible exact quireref15_find.mono _ _ _)
      | (with_reducible exact quireref15_has.mono _ _ _)
      | (with_reducible exact quireref15_ready.mono _ _ _ _ _)
      | (with_reducible exact LeO.refl _)
      | (with_reducible exact LeO.none _)
      | (with_reducible refine LeO.ite ?_ ?_)
      | (with_reducible refine LeO.bind ?_ (fun _ => ?_))
      | exact ih0 _ _ _
      | exact ih1 _ _ _ _
      | exact ih2 _ _ _ _ _ _
      | exact quireref15_Sort.mono _ _ _ _
      | exact quireref15_find.mono _ _ _
      | exact quireref15_has.mono _ _ _
      | exact quireref15_ready.mono _ _ _ _ _
      | exact LeO.none _
      | refine LeO.ite ?_ ?_
      | refine LeO.bind ?_ (fun _ => ?_)
    · intro y0 y1 y2 y3 y4 y5
      unfold quireref15_Levels.l2
      repeat' first
      | (with_reducible exact ih0 _ _ _)
      | (with_reducible exact ih1 _ _ _ _)
      | (with_reducible exact ih2 _ _ _ _ _ _)
      | (with_reducible exact quireref15_Sort.mono _ _ _ _)
      | (with_reducible exact quireref15_find.mono _ _ _)
      | (with_reducible exact quireref15_has.mono _ _ _)
      | (with_reducible exact quireref15_ready.mono _ _ _ _ _)
      | (with_reducible exact LeO.refl _)
      | (with_reducible exact LeO.none _)
      | (with_reducible refine LeO.ite ?_ ?_)
      | (with_reducible refine LeO.bind ?_ (fun _ => ?_))
      | exact ih0 _ _ _
      | exact ih1 _ _ _ _
      | exact ih2 _ _ _ _ _ _
      | exact quireref15_Sort.mono _ _ _ _
      | exact quireref15_find.mono _ _ _
      | exact quireref15_has.mono _ _ _
      | exact quireref15_ready.mono _ _ _ _ _
      | exact LeO.none _
      | refine LeO.ite ?_ ?_
      | refine LeO.bind ?_ (fun _ => ?_)
theorem quireref15_Levels.mono : ∀ a0 k, LeO (quireref15_Levels.f k a0) (quireref15_Levels.f (k + 1) a0) := by
  intro a0 k
  obtain ⟨ih0, ih1, ih2⟩ := quireref15_Levels.mono_l k
  unfold quireref15_Levels.f
  repeat' first
      | (with_reducible exact ih0 _ _ _)
      | (with_reducible exact ih1 _ _ _ _)
      | (with_reducible exact ih2 _ _ _ _ _ _)
      | (with_reducible exact quireref15_Sort.mono _ _ _ _)
      | (with_reducible exact quireref15_find.mono _ _ _)
      | (with_reducible exact quireref15_has.mono _ _ _)
      | (with_reducible exact quireref15_ready.mono _ _ _ _ _)
      | (with_reducible exact LeO.refl _)
      | (with_reducible exact LeO.none _)
      | (with_reducible refine LeO.ite ?_ ?_)
      | (with_reducible refine LeO.bind ?_ (fun _ => ?_))
      | exact ih0 _ _ _
      | exact ih1 _ _ _ _
      | exact ih2 _ _ _ _ _ _
      | exact quireref15_Sort.mono _ _ _ _
      | exact quireref15_find.mono _ _ _
      | exact quireref15_has.mono _ _ _
      | exact quireref15_ready.mono _ _ _ _ _
      | exact LeO.none _
      | refine LeO.ite ?_ ?_
      | refine LeO.bind ?_ (fun _ => ?_)
set_option maxHeartbeats 8000000 in
set_option maxRecDepth 100000 in
theorem quireref15_Levels.calls (k : Nat) (A0 : Option Addr) (c0 : Nat) (l0 : List (S33)) (r1 : List (List ByteArray)) (r2 : Int) (w : World) (hr0 : Kd.C k33 w A0 l0.length l0) (hc0 : l0.length ≤ c0) (h : quireref15_Levels.f k l0 = some (r1, r2)) :
    Calls Try.prog 15 #[.slice A0 l0.length c0] w fun e w' => ∃ v0_ : Value, e = .returned (.tuple #[v0_, .int .i64 r2]) ∧ Kd.S (Kd.slice 9 Kd.string) 23 w' w.heap.size (fun _ => True) v0_ r1 ∧ Below w.heap.size w w' := by
  have hu33 := Try.underlying33
  have HR0 := Aside0.mk hr0
  have HC0 := Aside0.mk hc0
  clear hr0 hc0
  have HB := Aside0.mk (Below.refl w.heap.size w)
  have H : (quireref15_Levels.l0 k l0 ([] : List ByteArray) 0) = some (r1, r2) := h
  clear h
  have H' := Aside0.mk H
  clear H
  go_enter Try.func15, Try.ntmps15
  go_wp2
  go_loopg [4, 5] k (fun kq v4 v5 w' => ∃ (x4_1 : List ByteArray) (x5_1 : Int), v5 = .int .i64 x5_1 ∧ Aside0 (quireref15_Levels.l0 kq l0 x4_1 x5_1 = some (r1, r2)) ∧ Aside0 (kq ≤ k) ∧ Aside0 (Kd.R Kd.string 9 w' w.heap.size (fun _ => True) v4 x4_1) ∧ Aside0 (Below w.heap.size w w'))
  case atStart => exact ⟨(([] : List ByteArray)), (0), (by first | rfl | (simp; done) | (simp [*]; done)), H', ⟨Nat.le_refl _⟩, ⟨by first | exact Kd.R_nil _ _ _ _ _ | exact Kd.N_nil _ _ _ _ _ | exact Kd.V_nil _ _ _ _ _ | exact Kd.Q_nil _ _ _ _ _ | exact Kd.S_nil _ _ _ _ _⟩, ⟨by repeat (first | (with_reducible first | exact HB.out | apply below_alloc | apply pw_below_drewN | apply below_drew1) | exact HB.out)⟩⟩
  case round =>
    clear H'
    try clear c1
    obtain ⟨x4_1, x5_1, rfl, HA, HK1, HO_4, HB⟩ := hrel
    cases gk with
    | zero => exact absurd HA.out (by simp [quireref15_Levels.l0])
    | succ k1 =>
      have H := HA.out
      clear HA
      simp only [quireref15_Levels.l0] at H
      by_cases c2 : x5_1 < (l0.length : Int)
      · rw [if_pos c2] at H
        have c2b0 : decide (x5_1 < (l0.length : Int)) = true := decide_eq_true c2
        clear c2
        by_cases c3 : 0 ≤ x5_1
        · rw [if_pos c3] at H
          have c3b0 : decide (0 ≤ x5_1) = true := decide_eq_true c3
          clear c3
          by_cases c4 : x4_1.length < 8796093022208
          · rw [if_pos c4] at H
            have LMc4 := Aside0.mk c4
            clear c4
            obtain ⟨y240, hy240⟩ : ∃ y_ : List ByteArray, y_ = (x4_1 ++ [(rd_T33 l0 x5_1).f0]) := ⟨_, rfl⟩
            replace H : (quireref15_Levels.l0 k1 l0 y240 (wrap64 (x5_1 + 1))) = some (r1, r2) := by first | (rw [hy240]; with_reducible exact H) | (have H2_ := (Option.bind_some _ _).symm.trans H; rw [hy240]; with_reducible exact H2_) | (have H2_ := (Option.bind_some _ _).symm.trans H; with_reducible exact H2_) | with_reducible exact H | (rw [hy240]; exact H) | exact H
            have Ny240 := Aside0.mk hy240
            clear hy240
            have H' := Aside0.mk H
            clear H
            have p239 : 0 ≤ (x5_1 : Int) := of_decide_eq_true (by first | (with_reducible assumption) | assumption)
            have q239 : x5_1 < (l0.length : Int) := of_decide_eq_true (by first | (with_reducible assumption) | assumption)
            obtain ⟨ad239, A239_1, c239_1, e239, hx239_0, hx239_1, hl239_1, hi239_1⟩ := at_T33 HR0.out x5_1 p239 q239
            cases e239
            replace hx239_0 := (HB.out.cell (World.block_lt_of_cell? w _ hx239_0)).trans hx239_0
            replace hx239_1 := (HB.out.cell (World.block_lt_of_cell? w _ hx239_1)).trans hx239_1
            have HR239_1 := Aside0.mk hi239_1
            have HC239_1 := Aside0.mk hl239_1
            clear hi239_1 hl239_1
            replace p239 := eq_true p239
            replace q239 := eq_true q239
            go_wp2_with (first | ((with_reducible refine gate_builtin (b := .append) (xs := #[.tmp 19, .tmp 25]) rfl ?_); at_builtin; refine Kd.R_append Kd.string (w0 := w) w.heap.size rfl (.tmp 19) (.tmp 25) 23 9 (.string ⟨#[]⟩) 16 rfl Try.underlying23 info9 rfl (by decide) (by omega) u4 x4_1 ((rd_T33 l0 x5_1).f0) [.string ((rd_T33 l0 x5_1).f0)] (fun _ => True) (fun _ => False) rfl rfl ?aP (fun _ hk => hk.elim) ?aF ?aO ?aB ?aS ?aL ?_; (case aP => exact rfl); (case aB => exact (by repeat (first | (with_reducible first | exact HB.out | apply below_alloc | apply pw_below_drewN | apply below_drew1) | exact HB.out))); (case aF => exact (fun _ _ => trivial)); (case aO => exact (by (with_reducible repeat (first | apply Kd.R_alloc | apply Kd.R_drewN | apply Kd.R_drew)); exact HO_4.out)); (case aS => exact (below_size (by repeat (first | (with_reducible first | exact HB.out | apply below_alloc | apply pw_below_drewN | apply below_drew1) | exact HB.out)))); (case aL => have := LMc4.out; omega); intro v241 w5 ho hb hg hat; rw [← Ny240.out] at ho; have n0_ := Aside0.mk (hb); have n1_ := Aside0.mk (ho); clear HB; clear HO_4; have HB := n0_; have HO242 := n1_; clear n0_ n1_; clear ho hb hg hat))
            go_roundg k1
            case measure => have := HK1.out; omega
            case rel => exact ⟨(y240), (wrap64 (x5_1 + 1)), (by first | rfl | (simp; done) | (simp [*]; done)), H', ⟨by have := HK1.out; omega⟩, ⟨by (with_reducible repeat (first | apply Kd.R_alloc | apply Kd.R_drewN | apply Kd.R_drew)); exact HO242.out⟩, ⟨by repeat (first | (with_reducible first | exact HB.out | apply below_alloc | apply pw_below_drewN | apply below_drew1) | exact HB.out)⟩⟩
          · rw [if_neg c4] at H
            exact absurd H (by simp)
        · rw [if_neg c3] at H
          exact absurd H (by simp)
      · rw [if_neg c2] at H
        have c2b0 : decide (x5_1 < (l0.length : Int)) = false := decide_eq_false c2
        clear c2
        replace H := Option.bind_eq_some_iff.mp H
        obtain ⟨⟨t243, t244, t245⟩, A60, H⟩ := H
        replace H : (if t245 = 0 then (quireref15_Levels.l1 k1 l0 t243 ([] : List (List ByteArray)) ([] : List ByteArray)) else (some (([] : List (List ByteArray)), t245))) = some (r1, r2) := H
        have A6 := Aside0.mk A60
        clear A60
        by_cases c7 : t245 = 0
        · rw [if_pos c7] at H
          have c7b0 : (t245 == 0) = true := beq_iff_eq.mpr c7
          have c7b1 : (t245 != 0) = false := bne_eq_false_iff_eq.mpr c7
          clear c7
          have H' := Aside0.mk H
          clear H
          obtain ⟨Ao8, co8, eo8⟩ := Kd.R_slice HO_4.out
          subst eo8
          go_wp2_with (first | ((with_reducible refine gate_callee (f := 13) rfl ?_); refine goesL_ (some 30) rfl rfl Try.func13 (by kernel_rfl) rfl #[.slice A0 l0.length c0, .slice Ao8 x4_1.length co8, .slice none 0 0] rfl (by (try simp only [List.map_toArray, List.map_cons, List.map_nil]); first | done | rfl | (simp only [List.length_drop, List.length_take]; rfl)) ?_; (refine (quireref15_Sort.calls k1 _ _ l0 _ _ x4_1 _ _ ([] : List ByteArray) t243 t244 t245 _ ?side1 ?side2 ?side3 ?side4 ?side5 ?side6 A6.out).mono ?_); (case side1 => repeat (first | exact (Kd.C_below HR0.out HB.out) | (with_reducible refine Kd.C_alloc ?_ _) | (with_reducible refine Kd.C_drewN ?_ _) | (with_reducible refine Kd.C_drew ?_))); (case side2 => exact HC0.out); (case side3 => repeat (first | exact (Kd.R_reads' HO_4.out).2.2 | (with_reducible refine Kd.C_alloc ?_ _) | (with_reducible refine Kd.C_drewN ?_ _) | (with_reducible refine Kd.C_drew ?_))); (case side4 => exact (Kd.R_reads' HO_4.out).2.1); (case side5 => exact Kd.C_nil _ _); (case side6 => exact Nat.le_refl _); rintro e w9 ⟨v246, rfl, ho0, hb⟩; refine ⟨_, rfl, ?_⟩; have n0_ := Aside0.mk (Kd.R_elder' (by (with_reducible repeat (first | apply Kd.R_alloc | apply Kd.R_drewN | apply Kd.R_drew)); exact HO_4.out) (Kd.R_base ho0) hb); have n1_ := Aside0.mk (Kd.R_lower (Kd.R_new' ho0 (Kd.R_lt (by (with_reducible repeat (first | apply Kd.R_alloc | apply Kd.R_drewN | apply Kd.R_drew)); exact HO_4.out))) (below_size (by repeat (first | (with_reducible first | exact HB.out | apply below_alloc | apply pw_below_drewN | apply below_drew1) | exact HB.out)))); have n2_ := Aside0.mk (below_step (by repeat (first | (with_reducible first | exact HB.out | apply below_alloc | apply pw_below_drewN | apply below_drew1) | exact HB.out)) hb); clear HO_4; clear HB; have HO_4 := n0_; have HO247 := n1_; have HB := n2_; clear n0_ n1_ n2_; (try clear hb); (try clear hb2); (try clear hk); (try clear hi); (try clear ho0)))
          go_loopg [9, 10] k1 (fun kq v9 v10 w' => ∃ (x9_2 : List (List ByteArray)) (x10_2 : List ByteArray), Aside0 (quireref15_Levels.l1 kq l0 t243 x9_2 x10_2 = some (r1, r2)) ∧ Aside0 (kq ≤ k1) ∧ Aside0 (Kd.R Kd.string 9 w' w.heap.size (fun k_ => some k_ ≠ (v10 : Value).ownBlock) v246 t243) ∧ Aside0 (Kd.S (Kd.slice 9 Kd.string) 23 w' w.heap.size (fun k_ => some k_ ≠ (v246 : Value).ownBlock ∧ some k_ ≠ (v10 : Value).ownBlock) v9 x9_2) ∧ Aside0 (Kd.R Kd.string 9 w' w.heap.size (fun k_ => some k_ ≠ (v246 : Value).ownBlock) v10 x10_2) ∧ Aside0 (Below w.heap.size w w'))
          case atStart => exact ⟨(([] : List (List ByteArray))), (([] : List ByteArray)), H', ⟨Nat.le_refl _⟩, ⟨by (with_reducible repeat (first | apply Kd.R_alloc | apply Kd.R_drewN | apply Kd.R_drew)); exact Kd.R_mono HO247.out (fun _ hk => (by simp [Value.ownBlock]))⟩, ⟨by first | exact Kd.S_nil _ _ _ _ _ | exact Kd.N_nil _ _ _ _ _ | exact Kd.V_nil _ _ _ _ _ | exact Kd.Q_nil _ _ _ _ _ | exact Kd.R_nil _ _ _ _ _⟩, ⟨by first | exact Kd.R_nil _ _ _ _ _ | exact Kd.N_nil _ _ _ _ _ | exact Kd.V_nil _ _ _ _ _ | exact Kd.Q_nil _ _ _ _ _ | exact Kd.S_nil _ _ _ _ _⟩, ⟨by repeat (first | (with_reducible first | exact HB.out | apply below_alloc | apply pw_below_drewN | apply below_drew1) | exact HB.out)⟩⟩
          case round =>
            clear H'
            try clear c1
            try clear c2
            try clear c2b0
            try clear p2
            try clear q2
            try clear hx2
            try clear c3
            try clear c3b0
            try clear c4
            try clear p6
            try clear c7
            try clear c7b0
            try clear c7b1
            try clear hx239_0
            try clear hx239_1
            try clear p239
            try clear q239
            obtain ⟨x9_2, x10_2, HA, HK2, HO_6, HO_9, HO_10, HB⟩ := hrel
            cases gk with
            | zero => exact absurd HA.out (by simp [quireref15_Levels.l1])
            | succ k2 =>
              have H := HA.out
              clear HA
              simp only [quireref15_Levels.l1] at H
              by_cases c10 : (x10_2.length : Int) < (t243.length : Int)
              · rw [if_pos c10] at H
                have c10b0 : decide ((x10_2.length : Int) < (t243.length : Int)) = true := decide_eq_true c10
                have c10b1 : decide (x10_2.length < t243.length) = true := decide_eq_true (Int.ofNat_lt.mp c10)
                clear c10
                have H' := Aside0.mk H
                clear H
                obtain ⟨Ao11, co11, eo11⟩ := Kd.R_slice HO_10.out
                subst eo11
                obtain ⟨Ao12, co12, eo12⟩ := Kd.R_slice HO_6.out
                subst eo12
                go_wp2
                go_loopg [11, 12] k2 (fun kq v11 v12 w' => ∃ (x11_3 : List ByteArray) (x12_3 : Int), v12 = .int .i64 x12_3 ∧ Aside0 (quireref15_Levels.l2 kq l0 t243 x9_2 x10_2 x11_3 x12_3 = some (r1, r2)) ∧ Aside0 (kq ≤ k2) ∧ Aside0 (Kd.R Kd.string 9 w' w.heap.size (fun k_ => some k_ ≠ ((.slice Ao11 x10_2.length co11) : Value).ownBlock ∧ some k_ ≠ (v11 : Value).ownBlock) (.slice Ao12 t243.length co12) t243) ∧ Aside0 (Kd.S (Kd.slice 9 Kd.string) 23 w' w.heap.size (fun k_ => some k_ ≠ ((.slice Ao12 t243.length co12) : Value).ownBlock ∧ some k_ ≠ ((.slice Ao11 x10_2.length co11) : Value).ownBlock ∧ some k_ ≠ (v11 : Value).ownBlock) u9 x9_2) ∧ Aside0 (Kd.R Kd.string 9 w' w.heap.size (fun k_ => some k_ ≠ ((.slice Ao12 t243.length co12) : Value).ownBlock ∧ some k_ ≠ (v11 : Value).ownBlock) (.slice Ao11 x10_2.length co11) x10_2) ∧ Aside0 (Kd.R Kd.string 9 w' w.heap.size (fun k_ => some k_ ≠ ((.slice Ao12 t243.length co12) : Value).ownBlock ∧ some k_ ≠ ((.slice Ao11 x10_2.length co11) : Value).ownBlock) v11 x11_3) ∧ Aside0 (Below w.heap.size w w'))
                case atStart => exact ⟨(([] : List ByteArray)), (0), (by first | rfl | (simp; done) | (simp [*]; done)), H', ⟨Nat.le_refl _⟩, ⟨by (with_reducible repeat (first | apply Kd.R_alloc | apply Kd.R_drewN | apply Kd.R_drew)); exact Kd.R_mono HO_6.out (fun _ hk => ⟨hk, (by simp [Value.ownBlock])⟩)⟩, ⟨by (with_reducible repeat (first | apply Kd.S_alloc | apply Kd.S_drewN | apply Kd.S_drew)); exact Kd.S_mono HO_9.out (fun _ hk => ⟨hk.1, ⟨hk.2, (by simp [Value.ownBlock])⟩⟩)⟩, ⟨by (with_reducible repeat (first | apply Kd.R_alloc | apply Kd.R_drewN | apply Kd.R_drew)); exact Kd.R_mono HO_10.out (fun _ hk => ⟨hk, (by simp [Value.ownBlock])⟩)⟩, ⟨by first | exact Kd.R_nil _ _ _ _ _ | exact Kd.N_nil _ _ _ _ _ | exact Kd.V_nil _ _ _ _ _ | exact Kd.Q_nil _ _ _ _ _ | exact Kd.S_nil _ _ _ _ _⟩, ⟨by repeat (first | (with_reducible first | exact HB.out | apply below_alloc | apply pw_below_drewN | apply below_drew1) | exact HB.out)⟩⟩
                case round =>
                  clear H'
                  try clear c1
                  try clear c2
                  try clear c2b0
                  try clear p2
                  try clear q2
                  try clear hx2
                  try clear c3
                  try clear c3b0
                  try clear c4
                  try clear p6
                  try clear c7
                  try clear c7b0
                  try clear c7b1
                  try clear c10
                  try clear c10b0
                  try clear c10b1
                  try clear hx239_0
                  try clear hx239_1
                  try clear p2
                  try clear p239
                  try clear p6
                  try clear q2
                  try clear q239
                  obtain ⟨x11_3, x12_3, rfl, HA, HK3, HO_6, HO_9, HO_10, HO_11, HB⟩ := hrel
                  cases gk with
                  | zero => exact absurd HA.out (by simp [quireref15_Levels.l2])
                  | succ k3 =>
                    have H := HA.out
                    clear HA
                    simp only [quireref15_Levels.l2] at H
                    by_cases c13 : x12_3 < (t243.length : Int)
                    · rw [if_pos c13] at H
                      have c13b0 : decide (x12_3 < (t243.length : Int)) = true := decide_eq_true c13
                      clear c13
                      by_cases c14 : 0 ≤ x12_3
                      · rw [if_pos c14] at H
                        have c14b0 : decide (0 ≤ x12_3) = true := decide_eq_true c14
                        clear c14
                        replace H := Option.bind_eq_some_iff.mp H
                        obtain ⟨t255, A150, H⟩ := H
                        replace H : (if t255 = true then (quireref15_Levels.l2 k3 l0 t243 x9_2 x10_2 x11_3 (wrap64 (x12_3 + 1))) else ((quireref15_find.f k3 l0 (rdOf ByteArray.empty t243 x12_3)).bind fun t257 => (if 0 ≤ t257 then (if t257 < (l0.length : Int) then ((quireref15_ready.f k3 ((rd_T33 l0 t257).f0) ((rd_T33 l0 t257).f1) x10_2 ([] : List ByteArray)).bind fun t259 => (if t259 = true then ((quireref15_insert.f x11_3 (rdOf ByteArray.empty t243 x12_3)).bind fun t261 => (quireref15_Levels.l2 k3 l0 t243 x9_2 x10_2 t261 (wrap64 (x12_3 + 1)))) else (quireref15_Levels.l2 k3 l0 t243 x9_2 x10_2 x11_3 (wrap64 (x12_3 + 1))))) else (none)) else (none)))) = some (r1, r2) := H
                        have A15 := Aside0.mk A150
                        clear A150
                        by_cases c16 : t255 = true
                        · subst c16
                          have H1 : (quireref15_Levels.l2 k3 l0 t243 x9_2 x10_2 x11_3 (wrap64 (x12_3 + 1))) = some (r1, r2) := by rw [if_pos rfl] at H; exact H
                          clear H
                          have H := H1
                          clear H1
                          have H' := Aside0.mk H
                          clear H
                          have p254 : 0 ≤ (x12_3 : Int) := of_decide_eq_true (by first | (with_reducible assumption) | assumption)
                          have q254 : x12_3 < (t243.length : Int) := of_decide_eq_true (by first | (with_reducible assumption) | assumption)
                          obtain ⟨ad254, e254, hx254_0⟩ := Kd.at_string (Kd.R_reads' HO_6.out).2.2 x12_3 p254 q254
                          cases e254
                          replace p254 := eq_true p254
                          replace q254 := eq_true q254
                          go_wp2_with (first | ((with_reducible refine gate_callee (f := 28) rfl ?_); refine goesL_ (some 53) rfl rfl Try.func28 (by kernel_rfl) rfl #[.slice Ao11 x10_2.length co11, .string (rdOf ByteArray.empty t243 x12_3)] rfl (by (try simp only [List.map_toArray, List.map_cons, List.map_nil]); first | done | rfl | (simp only [List.length_drop, List.length_take]; rfl)) ?_; (with_reducible refine (quireref15_has.calls k3 _ _ x10_2 (rdOf ByteArray.empty t243 x12_3) true _ ?side1 ?side2 A15.out).mono ?_); (case side1 => repeat (first | exact (Kd.R_reads' HO_10.out).2.2 | (with_reducible refine Kd.C_alloc ?_ _) | (with_reducible refine Kd.C_drewN ?_ _) | (with_reducible refine Kd.C_drew ?_))); (case side2 => exact (Kd.R_reads' HO_10.out).2.1); rintro e w' ⟨rfl, ⟨nd, rfl⟩⟩; refine ⟨_, rfl, ?_⟩))
                          go_roundg k3
                          case measure => have := HK1.out; have := HK2.out; have := HK3.out; omega
                          case rel => exact ⟨(x11_3), (wrap64 (x12_3 + 1)), (by first | rfl | (simp; done) | (simp [*]; done)), H', ⟨by have := HK1.out; have := HK2.out; have := HK3.out; omega⟩, ⟨by (with_reducible repeat (first | apply Kd.R_alloc | apply Kd.R_drewN | apply Kd.R_drew)); exact HO_6.out⟩, ⟨by (with_reducible repeat (first | apply Kd.S_alloc | apply Kd.S_drewN | apply Kd.S_drew)); exact HO_9.out⟩, ⟨by (with_reducible repeat (first | apply Kd.R_alloc | apply Kd.R_drewN | apply Kd.R_drew)); exact HO_10.out⟩, ⟨by (with_reducible repeat (first | apply Kd.R_alloc | apply Kd.R_drewN | apply Kd.R_drew)); exact HO_11.out⟩, ⟨by repeat (first | (with_reducible first | exact HB.out | apply below_alloc | apply pw_below_drewN | apply below_drew1) | exact HB.out)⟩⟩
                        · replace c16 := Bool.eq_false_iff.mpr c16
                          subst c16
                          have H1 : ((quireref15_find.f k3 l0 (rdOf ByteArray.empty t243 x12_3)).bind fun t257 => (if 0 ≤ t257 then (if t257 < (l0.length : Int) then ((quireref15_ready.f k3 ((rd_T33 l0 t257).f0) ((rd_T33 l0 t257).f1) x10_2 ([] : List ByteArray)).bind fun t259 => (if t259 = true then ((quireref15_insert.f x11_3 (rdOf ByteArray.empty t243 x12_3)).bind fun t261 => (quireref15_Levels.l2 k3 l0 t243 x9_2 x10_2 t261 (wrap64 (x12_3 + 1)))) else (quireref15_Levels.l2 k3 l0 t243 x9_2 x10_2 x11_3 (wrap64 (x12_3 + 1))))) else (none)) else (none))) = some (r1, r2) := by rw [if_neg (show ¬ (false = true) by decide)] at H; exact H
                          clear H
                          have H := H1
                          clear H1
                          replace H := Option.bind_eq_some_iff.mp H
                          obtain ⟨t257, A170, H⟩ := H
                          replace H : (if 0 ≤ t257 then (if t257 < (l0.length : Int) then ((quireref15_ready.f k3 ((rd_T33 l0 t257).f0) ((rd_T33 l0 t257).f1) x10_2 ([] : List ByteArray)).bind fun t259 => (if t259 = true then ((quireref15_insert.f x11_3 (rdOf ByteArray.empty t243 x12_3)).bind fun t261 => (quireref15_Levels.l2 k3 l0 t243 x9_2 x10_2 t261 (wrap64 (x12_3 + 1)))) else (quireref15_Levels.l2 k3 l0 t243 x9_2 x10_2 x11_3 (wrap64 (x12_3 + 1))))) else (none)) else (none)) = some (r1, r2) := H
                          have A17 := Aside0.mk A170
                          clear A170
                          by_cases c18 : 0 ≤ t257
                          · rw [if_pos c18] at H
                            have c18b0 : decide (0 ≤ t257) = true := decide_eq_true c18
                            clear c18
                            by_cases c19 : t257 < (l0.length : Int)
                            · rw [if_pos c19] at H
                              have c19b0 : decide (t257 < (l0.length : Int)) = true := decide_eq_true c19
                              clear c19
                              replace H := Option.bind_eq_some_iff.mp H
                              obtain ⟨t259, A200, H⟩ := H
                              replace H : (if t259 = true then ((quireref15_insert.f x11_3 (rdOf ByteArray.empty t243 x12_3)).bind fun t261 => (quireref15_Levels.l2 k3 l0 t243 x9_2 x10_2 t261 (wrap64 (x12_3 + 1)))) else (quireref15_Levels.l2 k3 l0 t243 x9_2 x10_2 x11_3 (wrap64 (x12_3 + 1)))) = some (r1, r2) := H
                              have A20 := Aside0.mk A200
                              clear A200
                              by_cases c21 : t259 = true
                              · subst c21
                                have H1 : ((quireref15_insert.f x11_3 (rdOf ByteArray.empty t243 x12_3)).bind fun t261 => (quireref15_Levels.l2 k3 l0 t243 x9_2 x10_2 t261 (wrap64 (x12_3 + 1)))) = some (r1, r2) := by rw [if_pos rfl] at H; exact H
                                clear H
                                have H := H1
                                clear H1
                                replace H := Option.bind_eq_some_iff.mp H
                                obtain ⟨t261, A220, H⟩ := H
                                replace H : (quireref15_Levels.l2 k3 l0 t243 x9_2 x10_2 t261 (wrap64 (x12_3 + 1))) = some (r1, r2) := H
                                have A22 := Aside0.mk A220
                                clear A220
                                have H' := Aside0.mk H
                                clear H
                                have p254 : 0 ≤ (x12_3 : Int) := of_decide_eq_true (by first | (with_reducible assumption) | assumption)
                                have q254 : x12_3 < (t243.length : Int) := of_decide_eq_true (by first | (with_reducible assumption) | assumption)
                                obtain ⟨ad254, e254, hx254_0⟩ := Kd.at_string (Kd.R_reads' HO_6.out).2.2 x12_3 p254 q254
                                cases e254
                                replace p254 := eq_true p254
                                replace q254 := eq_true q254
                                go_wp2_with (first | ((with_reducible refine gate_callee (f := 28) rfl ?_); refine goesL_ (some 53) rfl rfl Try.func28 (by kernel_rfl) rfl #[.slice Ao11 x10_2.length co11, .string (rdOf ByteArray.empty t243 x12_3)] rfl (by (try simp only [List.map_toArray, List.map_cons, List.map_nil]); first | done | rfl | (simp only [List.length_drop, List.length_take]; rfl)) ?_; (with_reducible refine (quireref15_has.calls k3 _ _ x10_2 (rdOf ByteArray.empty t243 x12_3) false _ ?side1 ?side2 A15.out).mono ?_); (case side1 => repeat (first | exact (Kd.R_reads' HO_10.out).2.2 | (with_reducible refine Kd.C_alloc ?_ _) | (with_reducible refine Kd.C_drewN ?_ _) | (with_reducible refine Kd.C_drew ?_))); (case side2 => exact (Kd.R_reads' HO_10.out).2.1); rintro e w' ⟨rfl, ⟨nd, rfl⟩⟩; refine ⟨_, rfl, ?_⟩; have p256 : 0 ≤ (x12_3 : Int) := of_decide_eq_true (by first | (with_reducible assumption) | assumption); have q256 : x12_3 < (t243.length : Int) := of_decide_eq_true (by first | (with_reducible assumption) | assumption); obtain ⟨ad256, e256, hx256_0⟩ := Kd.at_string (Kd.R_reads' HO_6.out).2.2 x12_3 p256 q256; obtain rfl : ad254 = ad256 := (by injection e256); replace p256 := eq_true p256; replace q256 := eq_true q256) | (go_at_call 27; (with_reducible refine (quireref15_find.calls k3 _ _ l0 (rdOf ByteArray.empty t243 x12_3) t257 _ ?side1 ?side2 A17.out).mono ?_); (case side1 => repeat (first | exact (Kd.C_below HR0.out (by repeat (first | (with_reducible first | exact HB.out | apply below_alloc | apply pw_below_drewN | apply below_drew1) | exact HB.out))) | (with_reducible refine Kd.C_alloc ?_ _) | (with_reducible refine Kd.C_drewN ?_ _) | (with_reducible refine Kd.C_drew ?_))); (case side2 => exact HC0.out); rintro e w' ⟨rfl, ⟨nd, rfl⟩⟩; have p258 : 0 ≤ (t257 : Int) := of_decide_eq_true (by first | (with_reducible assumption) | assumption); have q258 : t257 < (l0.length : Int) := of_decide_eq_true (by first | (with_reducible assumption) | assumption); obtain ⟨ad258, A258_1, c258_1, e258, hx258_0, hx258_1, hl258_1, hi258_1⟩ := at_T33 HR0.out t257 p258 q258; cases e258; replace hx258_0 := (HB.out.cell (World.block_lt_of_cell? w _ hx258_0)).trans hx258_0; replace hx258_1 := (HB.out.cell (World.block_lt_of_cell? w _ hx258_1)).trans hx258_1; have HR258_1 := Aside0.mk hi258_1; have HC258_1 := Aside0.mk hl258_1; clear hi258_1 hl258_1; replace p258 := eq_true p258; replace q258 := eq_true q258) | (go_at_call 29; (refine (quireref15_ready.calls k3 ((rd_T33 l0 t257).f0) _ _ ((rd_T33 l0 t257).f1) _ _ x10_2 _ _ ([] : List ByteArray) true _ ?side1 ?side2 ?side3 ?side4 ?side5 ?side6 A20.out).mono ?_); (case side1 => repeat (first | exact (Kd.C_below HR258_1.out (by repeat (first | (with_reducible first | exact HB.out | apply below_alloc | apply pw_below_drewN | apply below_drew1) | exact HB.out))) | (with_reducible refine Kd.C_alloc ?_ _) | (with_reducible refine Kd.C_drewN ?_ _) | (with_reducible refine Kd.C_drew ?_))); (case side2 => exact HC258_1.out); (case side3 => repeat (first | exact (Kd.R_reads' HO_10.out).2.2 | (with_reducible refine Kd.C_alloc ?_ _) | (with_reducible refine Kd.C_drewN ?_ _) | (with_reducible refine Kd.C_drew ?_))); (case side4 => exact (Kd.R_reads' HO_10.out).2.1); (case side5 => exact Kd.C_nil _ _); (case side6 => exact Nat.le_refl _); rintro e w23 ⟨rfl, hb⟩; have n0_ := Aside0.mk (Kd.R_below (by (with_reducible repeat (first | apply Kd.R_alloc | apply Kd.R_drewN | apply Kd.R_drew)); exact HO_6.out) hb); have n1_ := Aside0.mk (Kd.S_below (by (with_reducible repeat (first | apply Kd.S_alloc | apply Kd.S_drewN | apply Kd.S_drew)); exact HO_9.out) hb); have n2_ := Aside0.mk (Kd.R_below (by (with_reducible repeat (first | apply Kd.R_alloc | apply Kd.R_drewN | apply Kd.R_drew)); exact HO_10.out) hb); have n3_ := Aside0.mk (Kd.R_below (by (with_reducible repeat (first | apply Kd.R_alloc | apply Kd.R_drewN | apply Kd.R_drew)); exact HO_11.out) hb); have n4_ := Aside0.mk (below_step (by repeat (first | (with_reducible first | exact HB.out | apply below_alloc | apply pw_below_drewN | apply below_drew1) | exact HB.out)) hb); clear HO_6; clear HO_9; clear HO_10; clear HO_11; clear HB; have HO_6 := n0_; have HO_9 := n1_; have HO_10 := n2_; have HO_11 := n3_; have HB := n4_; clear n0_ n1_ n2_ n3_ n4_; (try clear hb); (try clear hb2); (try clear hk); (try clear hi); have p260 : 0 ≤ (x12_3 : Int) := of_decide_eq_true (by first | (with_reducible assumption) | assumption); have q260 : x12_3 < (t243.length : Int) := of_decide_eq_true (by first | (with_reducible assumption) | assumption); obtain ⟨ad260, e260, hx260_0⟩ := Kd.at_string (Kd.R_reads' HO_6.out).2.2 x12_3 p260 q260; obtain rfl : ad254 = ad260 := (by injection e260); replace p260 := eq_true p260; replace q260 := eq_true q260; obtain ⟨Ao24, co24, eo24⟩ := Kd.R_slice HO_11.out; subst eo24) | ((with_reducible refine gate_callee (f := 31) rfl ?_); refine goesL_ (some 73) rfl rfl Try.func31 (by kernel_rfl) rfl #[.slice Ao24 x11_3.length co24, .string (rdOf ByteArray.empty t243 x12_3)] rfl (by (try simp only [List.map_toArray, List.map_cons, List.map_nil]); first | done | rfl | (simp only [List.length_drop, List.length_take]; rfl)) ?_; (with_reducible refine (quireref15_insert.calls _ _ x11_3 (rdOf ByteArray.empty t243 x12_3) t261 _ ?side1 ?side2 A22.out).mono ?_); (case side1 => repeat (first | exact (Kd.R_reads' HO_11.out).2.2 | (with_reducible refine Kd.C_alloc ?_ _) | (with_reducible refine Kd.C_drewN ?_ _) | (with_reducible refine Kd.C_drew ?_))); (case side2 => exact (Kd.R_reads' HO_11.out).2.1); rintro e w25 ⟨v262, rfl, ho0, hb⟩; refine ⟨_, rfl, ?_⟩; have n0_ := Aside0.mk (Kd.R_elder' (by (with_reducible repeat (first | apply Kd.R_alloc | apply Kd.R_drewN | apply Kd.R_drew)); exact HO_6.out) (Kd.R_base ho0) hb); have n1_ := Aside0.mk (Kd.S_elder' (by (with_reducible repeat (first | apply Kd.S_alloc | apply Kd.S_drewN | apply Kd.S_drew)); exact HO_9.out) (Kd.R_base ho0) hb); have n2_ := Aside0.mk (Kd.R_elder' (by (with_reducible repeat (first | apply Kd.R_alloc | apply Kd.R_drewN | apply Kd.R_drew)); exact HO_10.out) (Kd.R_base ho0) hb); have n3_ := Aside0.mk (Kd.R_elder' (by (with_reducible repeat (first | apply Kd.R_alloc | apply Kd.R_drewN | apply Kd.R_drew)); exact HO_11.out) (Kd.R_base ho0) hb); have n4_ := Aside0.mk (Kd.R_lower (Kd.R_new' (Kd.R_new' (Kd.R_new' ho0 (Kd.R_lt (by (with_reducible repeat (first | apply Kd.R_alloc | apply Kd.R_drewN | apply Kd.R_drew)); exact HO_6.out))) (Kd.R_lt (by (with_reducible repeat (first | apply Kd.R_alloc | apply Kd.R_drewN | apply Kd.R_drew)); exact HO_10.out))) (Kd.R_lt (by (with_reducible repeat (first | apply Kd.R_alloc | apply Kd.R_drewN | apply Kd.R_drew)); exact HO_11.out))) (below_size (by repeat (first | (with_reducible first | exact HB.out | apply below_alloc | apply pw_below_drewN | apply below_drew1) | exact HB.out)))); have n5_ := Aside0.mk (below_step (by repeat (first | (with_reducible first | exact HB.out | apply below_alloc | apply pw_below_drewN | apply below_drew1) | exact HB.out)) hb); clear HO_6; clear HO_9; clear HO_10; clear HO_11; clear HB; have HO_6 := n0_; have HO_9 := n1_; have HO_10 := n2_; have HO_11 := n3_; have HO263 := n4_; have HB := n5_; clear n0_ n1_ n2_ n3_ n4_ n5_; (try clear hb); (try clear hb2); (try clear hk); (try clear hi); (try clear ho0)))
                                go_roundg k3
                                case measure => have := HK1.out; have := HK2.out; have := HK3.out; omega
                                case rel => exact ⟨(t261), (wrap64 (x12_3 + 1)), (by first | rfl | (simp; done) | (simp [*]; done)), H', ⟨by have := HK1.out; have := HK2.out; have := HK3.out; omega⟩, ⟨by (with_reducible repeat (first | apply Kd.R_alloc | apply Kd.R_drewN | apply Kd.R_drew)); exact Kd.R_mono HO_6.out (fun _ hk => ⟨hk.1.1, hk.2⟩)⟩, ⟨by (with_reducible repeat (first | apply Kd.S_alloc | apply Kd.S_drewN | apply Kd.S_drew)); exact Kd.S_mono HO_9.out (fun _ hk => ⟨hk.1.1, ⟨hk.1.2.1, hk.2⟩⟩)⟩, ⟨by (with_reducible repeat (first | apply Kd.R_alloc | apply Kd.R_drewN | apply Kd.R_drew)); exact Kd.R_mono HO_10.out (fun _ hk => ⟨hk.1.1, hk.2⟩)⟩, ⟨by (with_reducible repeat (first | apply Kd.R_alloc | apply Kd.R_drewN | apply Kd.R_drew)); exact Kd.R_mono HO263.out (fun _ hk => ⟨hk.1.1.2, hk.1.2⟩)⟩, ⟨by repeat (first | (with_reducible first | exact HB.out | apply below_alloc | apply pw_below_drewN | apply below_drew1) | exact HB.out)⟩⟩
                              · replace c21 := Bool.eq_false_iff.mpr c21
                                subst c21
                                have H1 : (quireref15_Levels.l2 k3 l0 t243 x9_2 x10_2 x11_3 (wrap64 (x12_3 + 1))) = some (r1, r2) := by rw [if_neg (show ¬ (false = true) by decide)] at H; exact H
                                clear H
                                have H := H1
                                clear H1
                                have H' := Aside0.mk H
                                clear H
                                have p254 : 0 ≤ (x12_3 : Int) := of_decide_eq_true (by first | (with_reducible assumption) | assumption)
                                have q254 : x12_3 < (t243.length : Int) := of_decide_eq_true (by first | (with_reducible assumption) | assumption)
                                obtain ⟨ad254, e254, hx254_0⟩ := Kd.at_string (Kd.R_reads' HO_6.out).2.2 x12_3 p254 q254
                                cases e254
                                replace p254 := eq_true p254
                                replace q254 := eq_true q254
                                go_wp2_with (first | ((with_reducible refine gate_callee (f := 28) rfl ?_); refine goesL_ (some 53) rfl rfl Try.func28 (by kernel_rfl) rfl #[.slice Ao11 x10_2.length co11, .string (rdOf ByteArray.empty t243 x12_3)] rfl (by (try simp only [List.map_toArray, List.map_cons, List.map_nil]); first | done | rfl | (simp only [List.length_drop, List.length_take]; rfl)) ?_; (with_reducible refine (quireref15_has.calls k3 _ _ x10_2 (rdOf ByteArray.empty t243 x12_3) false _ ?side1 ?side2 A15.out).mono ?_); (case side1 => repeat (first | exact (Kd.R_reads' HO_10.out).2.2 | (with_reducible refine Kd.C_alloc ?_ _) | (with_reducible refine Kd.C_drewN ?_ _) | (with_reducible refine Kd.C_drew ?_))); (case side2 => exact (Kd.R_reads' HO_10.out).2.1); rintro e w' ⟨rfl, ⟨nd, rfl⟩⟩; refine ⟨_, rfl, ?_⟩; have p256 : 0 ≤ (x12_3 : Int) := of_decide_eq_true (by first | (with_reducible assumption) | assumption); have q256 : x12_3 < (t243.length : Int) := of_decide_eq_true (by first | (with_reducible assumption) | assumption); obtain ⟨ad256, e256, hx256_0⟩ := Kd.at_string (Kd.R_reads' HO_6.out).2.2 x12_3 p256 q256; obtain rfl : ad254 = ad256 := (by injection e256); replace p256 := eq_true p256; replace q256 := eq_true q256) | (go_at_call 27; (with_reducible refine (quireref15_find.calls k3 _ _ l0 (rdOf ByteArray.empty t243 x12_3) t257 _ ?side1 ?side2 A17.out).mono ?_); (case side1 => repeat (first | exact (Kd.C_below HR0.out (by repeat (first | (with_reducible first | exact HB.out | apply below_alloc | apply pw_below_drewN | apply below_drew1) | exact HB.out))) | (with_reducible refine Kd.C_alloc ?_ _) | (with_reducible refine Kd.C_drewN ?_ _) | (with_reducible refine Kd.C_drew ?_))); (case side2 => exact HC0.out); rintro e w' ⟨rfl, ⟨nd, rfl⟩⟩; have p258 : 0 ≤ (t257 : Int) := of_decide_eq_true (by first | (with_reducible assumption) | assumption); have q258 : t257 < (l0.length : Int) := of_decide_eq_true (by first | (with_reducible assumption) | assumption); obtain ⟨ad258, A258_1, c258_1, e258, hx258_0, hx258_1, hl258_1, hi258_1⟩ := at_T33 HR0.out t257 p258 q258; cases e258; replace hx258_0 := (HB.out.cell (World.block_lt_of_cell? w _ hx258_0)).trans hx258_0; replace hx258_1 := (HB.out.cell (World.block_lt_of_cell? w _ hx258_1)).trans hx258_1; have HR258_1 := Aside0.mk hi258_1; have HC258_1 := Aside0.mk hl258_1; clear hi258_1 hl258_1; replace p258 := eq_true p258; replace q258 := eq_true q258) | (go_at_call 29; (refine (quireref15_ready.calls k3 ((rd_T33 l0 t257).f0) _ _ ((rd_T33 l0 t257).f1) _ _ x10_2 _ _ ([] : List ByteArray) false _ ?side1 ?side2 ?side3 ?side4 ?side5 ?side6 A20.out).mono ?_); (case side1 => repeat (first | exact (Kd.C_below HR258_1.out (by repeat (first | (with_reducible first | exact HB.out | apply below_alloc | apply pw_below_drewN | apply below_drew1) | exact HB.out))) | (with_reducible refine Kd.C_alloc ?_ _) | (with_reducible refine Kd.C_drewN ?_ _) | (with_reducible refine Kd.C_drew ?_))); (case side2 => exact HC258_1.out); (case side3 => repeat (first | exact (Kd.R_reads' HO_10.out).2.2 | (with_reducible refine Kd.C_alloc ?_ _) | (with_reducible refine Kd.C_drewN ?_ _) | (with_reducible refine Kd.C_drew ?_))); (case side4 => exact (Kd.R_reads' HO_10.out).2.1); (case side5 => exact Kd.C_nil _ _); (case side6 => exact Nat.le_refl _); rintro e w26 ⟨rfl, hb⟩; have n0_ := Aside0.mk (Kd.R_below (by (with_reducible repeat (first | apply Kd.R_alloc | apply Kd.R_drewN | apply Kd.R_drew)); exact HO_6.out) hb); have n1_ := Aside0.mk (Kd.S_below (by (with_reducible repeat (first | apply Kd.S_alloc | apply Kd.S_drewN | apply Kd.S_drew)); exact HO_9.out) hb); have n2_ := Aside0.mk (Kd.R_below (by (with_reducible repeat (first | apply Kd.R_alloc | apply Kd.R_drewN | apply Kd.R_drew)); exact HO_10.out) hb); have n3_ := Aside0.mk (Kd.R_below (by (with_reducible repeat (first | apply Kd.R_alloc | apply Kd.R_drewN | apply Kd.R_drew)); exact HO_11.out) hb); have n4_ := Aside0.mk (below_step (by repeat (first | (with_reducible first | exact HB.out | apply below_alloc | apply pw_below_drewN | apply below_drew1) | exact HB.out)) hb); clear HO_6; clear HO_9; clear HO_10; clear HO_11; clear HB; have HO_6 := n0_; have HO_9 := n1_; have HO_10 := n2_; have HO_11 := n3_; have HB := n4_; clear n0_ n1_ n2_ n3_ n4_; (try clear hb); (try clear hb2); (try clear hk); (try clear hi)))
                                go_roundg k3
                                case measure => have := HK1.out; have := HK2.out; have := HK3.out; omega
                                case rel => exact ⟨(x11_3), (wrap64 (x12_3 + 1)), (by first | rfl | (simp; done) | (simp [*]; done)), H', ⟨by have := HK1.out; have := HK2.out; have := HK3.out; omega⟩, ⟨by (with_reducible repeat (first | apply Kd.R_alloc | apply Kd.R_drewN | apply Kd.R_drew)); exact HO_6.out⟩, ⟨by (with_reducible repeat (first | apply Kd.S_alloc | apply Kd.S_drewN | apply Kd.S_drew)); exact HO_9.out⟩, ⟨by (with_reducible repeat (first | apply Kd.R_alloc | apply Kd.R_drewN | apply Kd.R_drew)); exact HO_10.out⟩, ⟨by (with_reducible repeat (first | apply Kd.R_alloc | apply Kd.R_drewN | apply Kd.R_drew)); exact HO_11.out⟩, ⟨by repeat (first | (with_reducible first | exact HB.out | apply below_alloc | apply pw_below_drewN | apply below_drew1) | exact HB.out)⟩⟩
                            · rw [if_neg c19] at H
                              exact absurd H (by simp)
                          · rw [if_neg c18] at H
                            exact absurd H (by simp)
                      · rw [if_neg c14] at H
                        exact absurd H (by simp)
                    · rw [if_neg c13] at H
                      have c13b0 : decide (x12_3 < (t243.length : Int)) = false := decide_eq_false c13
                      clear c13
                      by_cases c27 : x10_2.length + x11_3.length < 8796093022208
                      · rw [if_pos c27] at H
                        have LMc27 := Aside0.mk c27
                        clear c27
                        obtain ⟨y248, hy248⟩ : ∃ y_ : List ByteArray, y_ = (x10_2 ++ x11_3) := ⟨_, rfl⟩
                        replace H : (if x9_2.length < 5864062014805 then (quireref15_Levels.l1 k3 l0 t243 (x9_2 ++ [x11_3]) y248) else (none)) = some (r1, r2) := by first | (rw [hy248]; with_reducible exact H) | (have H2_ := (Option.bind_some _ _).symm.trans H; rw [hy248]; with_reducible exact H2_) | (have H2_ := (Option.bind_some _ _).symm.trans H; with_reducible exact H2_) | with_reducible exact H | (rw [hy248]; exact H) | exact H
                        have Ny248 := Aside0.mk hy248
                        clear hy248
                        by_cases c28 : x9_2.length < 5864062014805
                        · rw [if_pos c28] at H
                          have LMc28 := Aside0.mk c28
                          clear c28
                          obtain ⟨y251, hy251⟩ : ∃ y_ : List (List ByteArray), y_ = (x9_2 ++ [x11_3]) := ⟨_, rfl⟩
                          replace H : (quireref15_Levels.l1 k3 l0 t243 y251 y248) = some (r1, r2) := by first | (rw [hy251]; with_reducible exact H) | (have H2_ := (Option.bind_some _ _).symm.trans H; rw [hy251]; with_reducible exact H2_) | (have H2_ := (Option.bind_some _ _).symm.trans H; with_reducible exact H2_) | with_reducible exact H | (rw [hy251]; exact H) | exact H
                          have Ny251 := Aside0.mk hy251
                          clear hy251
                          have H' := Aside0.mk H
                          clear H
                          obtain ⟨Ao30, co30, eo30⟩ := Kd.R_slice HO_11.out
                          subst eo30
                          go_wp2_with (first | ((with_reducible refine gate_builtin (b := .append) (xs := #[.tmp 74, .tmp 75]) rfl ?_); at_builtin; refine Kd.R_append_rows Kd.string (w0 := w) w.heap.size rfl (.tmp 74) (.tmp 75) 23 9 (.string ⟨#[]⟩) 16 rfl Try.underlying23 info9 rfl (by decide) (by omega) (.slice Ao11 x10_2.length co11) x10_2 x11_3 _ _ _ (fun k_ => some k_ ≠ (.slice Ao12 t243.length co12 : Value).ownBlock ∧ some k_ ≠ (.slice Ao30 x11_3.length co30 : Value).ownBlock) (fun _ => False) rfl rfl ?aO ?aR (fun _ _ h => h) (fun _ h => h.elim) ?aF ?aB ?aS ?aL ?_; (case aR => repeat (first | exact (Kd.R_reads' HO_11.out).2.2 | (with_reducible refine Kd.C_alloc ?_ _) | (with_reducible refine Kd.C_drewN ?_ _) | (with_reducible refine Kd.C_drew ?_))); (case aB => exact (by repeat (first | (with_reducible first | exact HB.out | apply below_alloc | apply pw_below_drewN | apply below_drew1) | exact HB.out))); (case aF => exact (fun k_ hk => ⟨Kd.fresh' (Kd.R_lt (by (with_reducible repeat (first | apply Kd.R_alloc | apply Kd.R_drewN | apply Kd.R_drew)); exact HO_6.out)) k_ hk, Kd.fresh' (Kd.R_lt (by (with_reducible repeat (first | apply Kd.R_alloc | apply Kd.R_drewN | apply Kd.R_drew)); exact HO_11.out)) k_ hk⟩)); (case aO => exact (by (with_reducible repeat (first | apply Kd.R_alloc | apply Kd.R_drewN | apply Kd.R_drew)); exact HO_10.out)); (case aS => exact (below_size (by repeat (first | (with_reducible first | exact HB.out | apply below_alloc | apply pw_below_drewN | apply below_drew1) | exact HB.out)))); (case aL => have := LMc27.out; omega); intro v249 w29 ho hb hg hat; rw [← Ny248.out] at ho; have n0_ := Aside0.mk (Kd.R_after (ok := (fun k_ => some k_ ≠ (.slice Ao30 x11_3.length co30 : Value).ownBlock)) (by (with_reducible repeat (first | apply Kd.R_alloc | apply Kd.R_drewN | apply Kd.R_drew)); exact Kd.R_mono HO_6.out (fun _ hk => ⟨hk.2, hk.1⟩)) hg hat); have n1_ := Aside0.mk (Kd.S_after (ok := (fun k_ => some k_ ≠ (.slice Ao12 t243.length co12 : Value).ownBlock ∧ some k_ ≠ (.slice Ao30 x11_3.length co30 : Value).ownBlock)) (by (with_reducible repeat (first | apply Kd.S_alloc | apply Kd.S_drewN | apply Kd.S_drew)); exact Kd.S_mono HO_9.out (fun _ hk => ⟨⟨hk.1, hk.2.2⟩, hk.2.1⟩)) hg hat); have n2_ := Aside0.mk (Kd.R_after (ok := (fun k_ => some k_ ≠ (.slice Ao12 t243.length co12 : Value).ownBlock)) (by (with_reducible repeat (first | apply Kd.R_alloc | apply Kd.R_drewN | apply Kd.R_drew)); exact HO_11.out) hg hat); have n3_ := Aside0.mk (hb); have n4_ := Aside0.mk (ho); clear HO_6; clear HO_9; clear HO_11; clear HB; clear HO_10; have HO_6 := n0_; have HO_9 := n1_; have HO_11 := n2_; have HB := n3_; have HO250 := n4_; clear n0_ n1_ n2_ n3_ n4_; clear ho hb hg hat) | ((with_reducible refine gate_builtin (b := .append) (xs := #[.tmp 77, .tmp 79]) rfl ?_); at_builtin; refine Kd.S_append (Kd.slice 9 Kd.string) (w0 := w) w.heap.size rfl (.tmp 77) (.tmp 79) 37 23 (.slice none 0 0) 24 rfl Try.underlying37 info23 rfl (by decide) (by omega) u9 x9_2 x11_3 [.slice Ao30 x11_3.length co30] (fun k_ => some k_ ≠ (.slice Ao12 t243.length co12 : Value).ownBlock ∧ some k_ ≠ (v249 : Value).ownBlock) (fun k_ => some k_ = (.slice Ao30 x11_3.length co30 : Value).ownBlock) rfl rfl ?aP (fun k_ hk_ => ((Kd.R_mono (ok' := fun k_ => ((fun k_ => some k_ ≠ (.slice Ao12 t243.length co12 : Value).ownBlock ∧ some k_ ≠ (v249 : Value).ownBlock)) k_ ∧ some k_ ≠ (u9 : Value).ownBlock) (Kd.R_apart' (HO_11.out) (Kd.S_typed HO_9.out) (by decide)) (fun k_ hk => ⟨⟨hk.1.1, hk.1.2⟩, hk.2⟩))).1 k_ hk_.symm) ?aF ?aO ?aB ?aS ?aL ?_; (case aP => exact Kd.M_row (Kd.R_mono (Kd.R_tight rfl (Kd.R_mono (ok' := fun k_ => ((fun k_ => some k_ ≠ (.slice Ao12 t243.length co12 : Value).ownBlock ∧ some k_ ≠ (v249 : Value).ownBlock)) k_ ∧ some k_ ≠ (u9 : Value).ownBlock) (Kd.R_apart' (HO_11.out) (Kd.S_typed HO_9.out) (by decide)) (fun k_ hk => ⟨⟨hk.1.1, hk.1.2⟩, hk.2⟩))) (fun _ h_ => h_))); (case aB => exact (by repeat (first | (with_reducible first | exact HB.out | apply below_alloc | apply pw_below_drewN | apply below_drew1) | exact HB.out))); (case aF => exact (fun k_ hk => ⟨Kd.fresh' (Kd.R_lt (by (with_reducible repeat (first | apply Kd.R_alloc | apply Kd.R_drewN | apply Kd.R_drew)); exact HO_6.out)) k_ hk, Kd.fresh' (Kd.R_lt (by (with_reducible repeat (first | apply Kd.R_alloc | apply Kd.R_drewN | apply Kd.R_drew)); exact HO250.out)) k_ hk⟩)); (case aO => exact (by (with_reducible repeat (first | apply Kd.S_alloc | apply Kd.S_drewN | apply Kd.S_drew)); exact Kd.S_mono HO_9.out (fun k_ hk => ⟨⟨hk.1.1, hk.2⟩, fun e_ => hk.1.2 e_⟩))); (case aS => exact (below_size (by repeat (first | (with_reducible first | exact HB.out | apply below_alloc | apply pw_below_drewN | apply below_drew1) | exact HB.out)))); (case aL => have := LMc28.out; omega); intro v252 w31 ho hb hg hat; rw [← Ny251.out] at ho; have n0_ := Aside0.mk (Kd.R_over' (by (with_reducible repeat (first | apply Kd.R_alloc | apply Kd.R_drewN | apply Kd.R_drew)); exact HO_6.out) (Kd.S_typed (by (with_reducible repeat (first | apply Kd.S_alloc | apply Kd.S_drewN | apply Kd.S_drew)); exact HO_9.out)) (by decide) hg); have n1_ := Aside0.mk (Kd.R_over' (by (with_reducible repeat (first | apply Kd.R_alloc | apply Kd.R_drewN | apply Kd.R_drew)); exact HO250.out) (Kd.S_typed (by (with_reducible repeat (first | apply Kd.S_alloc | apply Kd.S_drewN | apply Kd.S_drew)); exact HO_9.out)) (by decide) hg); have n2_ := Aside0.mk (hb); have n3_ := Aside0.mk (ho); clear HO_6; clear HO250; clear HB; clear HO_9; clear HO_11; have HO_6 := n0_; have HO250 := n1_; have HB := n2_; have HO253 := n3_; clear n0_ n1_ n2_ n3_; clear ho hb hg hat))
                          go_roundg k3
                          case measure => have := HK1.out; have := HK2.out; have := HK3.out; omega
                          case rel => exact ⟨(y251), (y248), H', ⟨by have := HK1.out; have := HK2.out; have := HK3.out; omega⟩, ⟨by (with_reducible repeat (first | apply Kd.R_alloc | apply Kd.R_drewN | apply Kd.R_drew)); exact Kd.R_mono HO_6.out (fun _ hk => hk.2)⟩, ⟨by (with_reducible repeat (first | apply Kd.S_alloc | apply Kd.S_drewN | apply Kd.S_drew)); exact HO253.out⟩, ⟨by (with_reducible repeat (first | apply Kd.R_alloc | apply Kd.R_drewN | apply Kd.R_drew)); exact Kd.R_mono HO250.out (fun _ hk => hk.1)⟩, ⟨by repeat (first | (with_reducible first | exact HB.out | apply below_alloc | apply pw_below_drewN | apply below_drew1) | exact HB.out)⟩⟩
                        · rw [if_neg c28] at H
                          exact absurd H (by simp)
                      · rw [if_neg c27] at H
                        exact absurd H (by simp)
              · rw [if_neg c10] at H
                have c10b0 : decide ((x10_2.length : Int) < (t243.length : Int)) = false := decide_eq_false c10
                have c10b1 : decide (x10_2.length < t243.length) = false := decide_eq_false (fun h => c10 (Int.ofNat_lt.mpr h))
                clear c10
                simp only [Option.some.injEq, Prod.mk.injEq] at H
                obtain ⟨rfl, rfl⟩ := H
                obtain ⟨Ao32, co32, eo32⟩ := Kd.R_slice HO_10.out
                subst eo32
                obtain ⟨Ao33, co33, eo33⟩ := Kd.R_slice HO_6.out
                subst eo33
                go_wp2
                go_ret2
                exact ⟨_, by first | rfl | (simp [errW_none, errW_some] <;> rfl) | (simp [*, errW_none, errW_some] <;> rfl), by (with_reducible repeat (first | apply Kd.S_alloc | apply Kd.S_drewN | apply Kd.S_drew)); exact Kd.S_mono HO_9.out (fun _ hk => trivial), by repeat (first | (with_reducible first | exact HB.out | apply below_alloc | apply pw_below_drewN | apply below_drew1) | exact HB.out)⟩
        · rw [if_neg c7] at H
          have c7b0 : (t245 == 0) = false := beq_eq_false_iff_ne.mpr c7
          have c7b1 : (t245 != 0) = true := bne_iff_ne.mpr c7
          simp only [Option.some.injEq, Prod.mk.injEq] at H
          obtain ⟨rfl, rfl⟩ := H
          obtain ⟨Ao34, co34, eo34⟩ := Kd.R_slice HO_4.out
          subst eo34
          go_wp2_with (first | ((with_reducible refine gate_callee (f := 13) rfl ?_); refine goesL_ (some 30) rfl rfl Try.func13 (by kernel_rfl) rfl #[.slice A0 l0.length c0, .slice Ao34 x4_1.length co34, .slice none 0 0] rfl (by (try simp only [List.map_toArray, List.map_cons, List.map_nil]); first | done | rfl | (simp only [List.length_drop, List.length_take]; rfl)) ?_; (refine (quireref15_Sort.calls k1 _ _ l0 _ _ x4_1 _ _ ([] : List ByteArray) t243 t244 t245 _ ?side1 ?side2 ?side3 ?side4 ?side5 ?side6 A6.out).mono ?_); (case side1 => repeat (first | exact (Kd.C_below HR0.out HB.out) | (with_reducible refine Kd.C_alloc ?_ _) | (with_reducible refine Kd.C_drewN ?_ _) | (with_reducible refine Kd.C_drew ?_))); (case side2 => exact HC0.out); (case side3 => repeat (first | exact (Kd.R_reads' HO_4.out).2.2 | (with_reducible refine Kd.C_alloc ?_ _) | (with_reducible refine Kd.C_drewN ?_ _) | (with_reducible refine Kd.C_drew ?_))); (case side4 => exact (Kd.R_reads' HO_4.out).2.1); (case side5 => exact Kd.C_nil _ _); (case side6 => exact Nat.le_refl _); rintro e w35 ⟨v246, rfl, ho0, hb⟩; refine ⟨_, rfl, ?_⟩; have n0_ := Aside0.mk (Kd.R_elder' (by (with_reducible repeat (first | apply Kd.R_alloc | apply Kd.R_drewN | apply Kd.R_drew)); exact HO_4.out) (Kd.R_base ho0) hb); have n1_ := Aside0.mk (Kd.R_lower (Kd.R_new' ho0 (Kd.R_lt (by (with_reducible repeat (first | apply Kd.R_alloc | apply Kd.R_drewN | apply Kd.R_drew)); exact HO_4.out))) (below_size (by repeat (first | (with_reducible first | exact HB.out | apply below_alloc | apply pw_below_drewN | apply below_drew1) | exact HB.out)))); have n2_ := Aside0.mk (below_step (by repeat (first | (with_reducible first | exact HB.out | apply below_alloc | apply pw_below_drewN | apply below_drew1) | exact HB.out)) hb); clear HO_4; clear HB; have HO_4 := n0_; have HO247 := n1_; have HB := n2_; clear n0_ n1_ n2_; (try clear hb); (try clear hb2); (try clear hk); (try clear hi); (try clear ho0)))
          go_ret2
          exact ⟨_, by first | rfl | (simp [errW_none, errW_some] <;> rfl) | (simp [*, errW_none, errW_some] <;> rfl), by first | exact Kd.S_nil _ _ _ _ _ | exact Kd.N_nil _ _ _ _ _ | exact Kd.V_nil _ _ _ _ _ | exact Kd.Q_nil _ _ _ _ _ | exact Kd.R_nil _ _ _ _ _, by repeat (first | (with_reducible first | exact HB.out | apply below_alloc | apply pw_below_drewN | apply below_drew1) | exact HB.out)⟩

end Go.Proofs.Ytdllpgeagdckmaa.Q

/- The document's reached and ready come to what they say. -/
namespace Go.Proofs.Ytdllpgeagdckmaa.Q
open Go.RowKit Go.Proofs.YtdllpgeagdckmaaW.PrintWords Go.Proofs.YtdllpgeagdckmaaW.PrintLast Go.Proofs.YtdllpgeagdckmaaW.PrintMore Go.Proofs.Ytdllpgeagdckmaa.Ord
set_option linter.unusedVariables false
set_option linter.unusedSimpArgs false

theorem net33_uses {list : List S33} (hnd : ((net33 list).map (·.1)).Nodup) {x : ByteArray} {t : Int} (h : Fd list x t) : (t = -1 ∧ usesOf (net33 list) x = none) ∨ ∃ j : Nat, t = (j : Int) ∧ ∃ h : j < list.length, list[j].f0 = x ∧ usesOf (net33 list) x = some list[j].f1 := by
  rcases h with ⟨rfl, h⟩ | ⟨j, rfl, hj, he⟩
  · refine .inl ⟨rfl, ?_⟩
    rw [usesOf_none, net33, List.map_map]
    exact h
  · refine .inr ⟨j, rfl, hj, he, ?_⟩
    rw [usesOf_mem hnd, net33]
    exact List.mem_map.2 ⟨list[j], List.getElem_mem hj, by rw [he]⟩
theorem dfs_seen {list : Net ByteArray} {hv from_ stack seen : List ByteArray} (h : Dfs list hv from_ stack seen) (h1 : from_.length ≤ 3000000) (h2 : tot list ≤ 3000000) : seen.length ≤ 6000000 := by
  have h3 := subset_length (m := from_ ++ list.flatMap (·.2)) h.nd (fun x hx => (h.sn x hx).cand)
  have h4 := tot_flat list
  rw [List.length_append] at h3
  omega
theorem uses_len {list : List S33} {j : Nat} (hj : j < list.length) : list[j].f1.length ≤ tot (net33 list) := by
  have h := tot_uses (l := net33 list) (i := j) (by simpa [net33] using hj)
  have e : ((net33 list)[j]'(by simpa [net33] using hj)).2 = list[j].f1 := by simp [net33]
  rw [e] at h
  omega

theorem reached_l0 (list : List S33) (hv from_ : List ByteArray) (hnd : ((net33 list).map (·.1)).Nodup) (htot : tot (net33 list) ≤ 3000000) (hf : from_.length ≤ 3000000) (hh : hv.length ≤ 3000000) :
    ∀ (n : Nat) (stack seen : List ByteArray), stack.length + pot (net33 list) seen = n → n ≤ 6000000 → Dfs (net33 list) hv from_ stack seen → ∃ all, Ev (fun k => quireref15_reached.l0 k list hv seen stack) all ∧ Dfs (net33 list) hv from_ [] all := by
  have hN : list.length ≤ 3000000 := by
    have h := tot_ge (net33 list)
    have e : (net33 list).length = list.length := by simp [net33]
    omega
  intro n
  induction n with
  | zero =>
    intro stack seen hm hn hd
    have h0 : stack = [] := List.eq_nil_of_length_eq_zero (by omega)
    subst h0
    refine ⟨seen, Ev.step (f := fun _ => some seen) (fun k => ?_) (Ev.now _), hd⟩
    unfold quireref15_reached.l0
    rw [if_neg (by simp)]
  | succ n ih =>
    intro stack seen hm hn hd
    rcases List.eq_nil_or_concat stack with rfl | ⟨st, x, rfl⟩
    · refine ⟨seen, Ev.step (f := fun _ => some seen) (fun k => ?_) (Ev.now _), hd⟩
      unfold quireref15_reached.l0
      rw [if_neg (by simp)]
    · rw [List.concat_eq_append] at hm hd ⊢
      have hsl := dfs_seen hd hf htot
      have hlen : (st ++ [x]).length = st.length + 1 := by simp
      have hw : wrap64 (((st ++ [x]).length : Int) - 1) = (st.length : Int) := by rw [w64 (by omega) (by omega)]; omega
      have hrd : rdOf ByteArray.empty (st ++ [x]) (st.length : Int) = x := by
        rw [rd_at (by omega)]
        simp
      have htk : (st ++ [x]).take ((st.length : Int)).toNat = st := by simp
      obtain ⟨b1, ⟨K1, g1⟩, hb1⟩ := has_ev hv x (by omega)
      obtain ⟨b2, ⟨K2, g2⟩, hb2⟩ := has_ev seen x (by omega)
      have hmst : st.length + pot (net33 list) seen = n := by omega
      -- where it is left out
      have skip : x ∈ hv ∨ x ∈ seen → ∃ all, Ev (fun k => quireref15_reached.l0 k list hv seen (st ++ [x])) all ∧ Dfs (net33 list) hv from_ [] all := fun hx => by
        obtain ⟨all, ⟨K3, g3⟩, hd3⟩ := ih st seen hmst (by omega) (hd.skip hx)
        refine ⟨all, ⟨K1 + K2 + K3 + 2, fun k hk => ?_⟩, hd3⟩
        obtain ⟨k', rfl⟩ : ∃ k', k = k' + 2 := ⟨k - 2, by omega⟩
        have h1 := g1 (k' + 1) (by omega)
        have h2 := g2 (k' + 1) (by omega)
        have h3 := g3 k' (by omega)
        dsimp only at h1 h2 h3 ⊢
        unfold quireref15_reached.l0
        rw [if_pos (by omega), hw, if_pos (by omega), if_pos (by omega), if_pos (by omega), Option.bind_some, htk, hrd, h1, Option.bind_some]
        cases b1 with
        | true =>
          rw [if_pos rfl]
          unfold quireref15_reached.j1
          rw [if_pos rfl]
          exact h3
        | false =>
          have hs : x ∈ seen := hx.resolve_left (fun h => by have := hb1.2 h; cases this)
          obtain rfl := hb2.2 hs
          rw [if_neg (by simp), h2, Option.bind_some]
          unfold quireref15_reached.j1
          rw [if_pos rfl]
          exact h3
      by_cases hx : x ∈ hv ∨ x ∈ seen
      · exact skip hx
      · have hxh : x ∉ hv := fun h => hx (.inl h)
        have hxs : x ∉ seen := fun h => hx (.inr h)
        have e1 : b1 = false := by
          cases b1 with
          | false => rfl
          | true => exact absurd (hb1.1 rfl) hxh
        have e2 : b2 = false := by
          cases b2 with
          | false => rfl
          | true => exact absurd (hb2.1 rfl) hxs
        subst e1 e2
        have hpush := hd.push hxh hxs
        obtain ⟨t, ⟨K3, g3⟩, hfd⟩ := find_ev list x (by omega)
        have hpot := pot_push (list := net33 list) hnd hxs
        have hst : st.length ≤ 6000000 := by omega
        rcases net33_uses hnd hfd with ⟨rfl, hu⟩ | ⟨j, rfl, hj, hjx, hu⟩
        · rw [hu] at hpush hpot
          simp only [Option.getD_none, List.append_nil, List.length_nil, Nat.add_zero] at hpush hpot
          obtain ⟨all, ⟨K4, g4⟩, hd4⟩ := ih st (seen ++ [x]) (by omega) (by omega) hpush
          refine ⟨all, ⟨K1 + K2 + K3 + K4 + 2, fun k hk => ?_⟩, hd4⟩
          obtain ⟨k', rfl⟩ : ∃ k', k = k' + 2 := ⟨k - 2, by omega⟩
          have h1 := g1 (k' + 1) (by omega)
          have h2 := g2 (k' + 1) (by omega)
          have h3 := g3 k' (by omega)
          have h4 := g4 k' (by omega)
          dsimp only at h1 h2 h3 h4 ⊢
          unfold quireref15_reached.l0
          rw [if_pos (by omega), hw, if_pos (by omega), if_pos (by omega), if_pos (by omega), Option.bind_some, htk, hrd, h1, Option.bind_some, if_neg (by simp), h2, Option.bind_some]
          unfold quireref15_reached.j1
          rw [if_neg (by simp), if_pos (by omega), Option.bind_some, h3, Option.bind_some, if_neg (by omega)]
          exact h4
        · rw [hu] at hpush hpot
          simp only [Option.getD_some] at hpush hpot
          have hul := uses_len hj
          obtain ⟨all, ⟨K4, g4⟩, hd4⟩ := ih (st ++ list[j].f1) (seen ++ [x]) (by rw [List.length_append]; omega) (by omega) hpush
          refine ⟨all, ⟨K1 + K2 + K3 + K4 + 2, fun k hk => ?_⟩, hd4⟩
          obtain ⟨k', rfl⟩ : ∃ k', k = k' + 2 := ⟨k - 2, by omega⟩
          have h1 := g1 (k' + 1) (by omega)
          have h2 := g2 (k' + 1) (by omega)
          have h3 := g3 k' (by omega)
          have h4 := g4 k' (by omega)
          dsimp only at h1 h2 h3 h4 ⊢
          unfold quireref15_reached.l0
          rw [if_pos (by omega), hw, if_pos (by omega), if_pos (by omega), if_pos (by omega), Option.bind_some, htk, hrd, h1, Option.bind_some, if_neg (by simp), h2, Option.bind_some]
          unfold quireref15_reached.j1
          rw [if_neg (by simp), if_pos (by omega), Option.bind_some, h3, Option.bind_some, if_pos (by omega), if_pos (by omega), if_pos (by omega), rd33_at hj, if_pos (by omega)]
          exact h4

theorem reached_ev (list : List S33) (hv from_ : List ByteArray) (hnd : ((net33 list).map (·.1)).Nodup) (htot : tot (net33 list) ≤ 3000000) (hf : from_.length ≤ 3000000) (hh : hv.length ≤ 3000000) :
    ∃ all, Ev (fun k => quireref15_reached.f k list from_ hv) all ∧ all.Nodup ∧ all.length ≤ 6000000 ∧ ∀ x, x ∈ all ↔ Ord.Reach (net33 list) hv from_ x := by
  have hp : pot (net33 list) [] ≤ tot (net33 list) := by
    have key : ∀ l : Net ByteArray, pot l [] ≤ tot l := fun l => by
      induction l with
      | nil => simp [pot, tot]
      | cons v l ih => simp only [pot, tot]; simp; omega
    exact key _
  obtain ⟨all, he, hd⟩ := reached_l0 list hv from_ hnd htot hf hh _ from_ [] rfl (by omega) (Dfs.start _ _ _)
  refine ⟨all, Ev.congr (fun k => ?_) he, hd.nd, dfs_seen hd hf htot, hd.done⟩
  unfold quireref15_reached.f
  rw [Option.bind_some, if_pos (by simp; omega)]
  rfl

theorem ready_l0 (a b us : List ByteArray) (s : ByteArray) (ha : a.length ≤ 10000000) (hb : b.length ≤ 10000000) (hu : us.length ≤ 3000000) : ∀ n i : Nat, i + n = us.length → (∀ u ∈ us.take i, u ∈ a ∨ u ∈ b) → ∃ r : Bool, Ev (fun k => quireref15_ready.l0 k a b (i : Int) s us) r ∧ (r = true ↔ ∀ u ∈ us, u ∈ a ∨ u ∈ b)
  | 0, i, hi, hm => ⟨true, Ev.step (f := fun _ => some true) (fun k => by
      unfold quireref15_ready.l0
      rw [if_neg (by omega)]) (Ev.now _), by rw [List.take_of_length_le (by omega)] at hm; exact ⟨fun _ => hm, fun _ => rfl⟩⟩
  | n + 1, i, hi, hm => by
    have hlt : i < us.length := by omega
    obtain ⟨b1, ⟨K1, g1⟩, hb1⟩ := has_ev a us[i] ha
    obtain ⟨b2, ⟨K2, g2⟩, hb2⟩ := has_ev b us[i] hb
    have hw : wrap64 ((i : Int) + 1) = ((i + 1 : Nat) : Int) := by rw [w64 (by omega) (by omega)]; rfl
    by_cases hx : us[i] ∈ a ∨ us[i] ∈ b
    · obtain ⟨r, ⟨K3, g3⟩, hr⟩ := ready_l0 a b us s ha hb hu n (i + 1) (by omega) (fun u hu1 => by
        rw [List.take_succ_eq_append_getElem hlt, List.mem_append, List.mem_singleton] at hu1
        rcases hu1 with hu1 | rfl
        · exact hm u hu1
        · exact hx)
      refine ⟨r, ⟨K1 + K2 + K3 + 1, fun k hk => ?_⟩, hr⟩
      obtain ⟨k', rfl⟩ : ∃ k', k = k' + 1 := ⟨k - 1, by omega⟩
      have h1 := g1 k' (by omega)
      have h2 := g2 k' (by omega)
      have h3 := g3 k' (by omega)
      dsimp only at h1 h2 h3 ⊢
      unfold quireref15_ready.l0
      rw [if_pos (by omega), if_pos (by omega), rd_at hlt, h1, Option.bind_some]
      cases b1 with
      | true => rw [if_pos rfl, hw]; exact h3
      | false =>
        obtain rfl := hb2.2 (hx.resolve_left (fun h => by have := hb1.2 h; cases this))
        rw [if_neg (by simp), h2, Option.bind_some, if_pos rfl, hw]
        exact h3
    · refine ⟨false, ⟨K1 + K2 + 1, fun k hk => ?_⟩, ⟨fun h => (by cases h), fun h => absurd (h _ (List.getElem_mem hlt)) hx⟩⟩
      obtain ⟨k', rfl⟩ : ∃ k', k = k' + 1 := ⟨k - 1, by omega⟩
      have h1 := g1 k' (by omega)
      have h2 := g2 k' (by omega)
      dsimp only at h1 h2 ⊢
      have e1 : b1 = false := by
        cases b1 with
        | false => rfl
        | true => exact absurd (.inl (hb1.1 rfl)) hx
      have e2 : b2 = false := by
        cases b2 with
        | false => rfl
        | true => exact absurd (.inr (hb2.1 rfl)) hx
      subst e1 e2
      unfold quireref15_ready.l0
      rw [if_pos (by omega), if_pos (by omega), rd_at hlt, h1, Option.bind_some, if_neg (by simp), h2, Option.bind_some, if_neg (by simp)]
theorem ready_ev (a b us : List ByteArray) (s : ByteArray) (ha : a.length ≤ 10000000) (hb : b.length ≤ 10000000) (hu : us.length ≤ 3000000) : ∃ r : Bool, Ev (fun k => quireref15_ready.f k s us a b) r ∧ (r = true ↔ ∀ u ∈ us, u ∈ a ∨ u ∈ b) :=
  ready_l0 a b us s ha hb hu us.length 0 (by omega) (by simp)
end Go.Proofs.Ytdllpgeagdckmaa.Q

/- The document's Sort: its answer is the one that the theory of nets gives. -/
namespace Go.Proofs.Ytdllpgeagdckmaa.Q
open Go.RowKit Go.Proofs.YtdllpgeagdckmaaW.PrintWords Go.Proofs.YtdllpgeagdckmaaW.PrintLast Go.Proofs.YtdllpgeagdckmaaW.PrintMore Go.Proofs.Ytdllpgeagdckmaa.Ord
set_option linter.unusedVariables false
set_option linter.unusedSimpArgs false
set_option linter.unusedSectionVars false

theorem minL_is {l : List ByteArray} (h : 0 < l.length) : IsLeast ltN (· ∈ l) (minL l) := by
  cases l with
  | nil => simp at h
  | cons a l => exact minOf_is l a
theorem least_some {l : List ByteArray} (h : 0 < l.length) (hl : l.length ≤ 10000000) : quireref15_least.f l = some (minL l) := by
  unfold quireref15_least.f
  rw [if_pos ⟨h, hl⟩]

/-- An order as far as it has come. -/
structure GPre (list : Net ByteArray) (hv want all out : List ByteArray) : Prop where
  nd : out.Nodup
  sub : ∀ x ∈ out, x ∈ all
  least : ∀ i x, out[i]? = some x → IsLeast ltN (Ord.Next list hv want (out.take i)) x
theorem GPre.snoc {list : Net ByteArray} {hv want all out : List ByteArray} {m : ByteArray} (h : GPre list hv want all out) (hall : ∀ x, x ∈ all ↔ Ord.Reach list hv want x) (hm : IsLeast ltN (Ord.Next list hv want out) m) : GPre list hv want all (out ++ [m]) := by
  refine ⟨?_, ?_, ?_⟩
  · rw [List.nodup_append]
    exact ⟨h.nd, by simp, fun a ha b hb e => hm.1.2.1 (by rw [← List.mem_singleton.1 hb, ← e]; exact ha)⟩
  · intro x hx
    rcases List.mem_append.1 hx with hx | hx
    · exact h.sub x hx
    · rw [List.mem_singleton.1 hx]; exact (hall m).2 hm.1.1
  · intro i x hx
    rcases Nat.lt_or_ge i out.length with hi | hi
    · rw [List.getElem?_append_left hi] at hx
      rw [List.take_append_of_le_length (by omega)]
      exact h.least i x hx
    · rw [List.getElem?_append_right hi] at hx
      have hi0 : i - out.length = 0 := by
        have := (List.getElem?_eq_some_iff.1 hx).1
        simp at this
        omega
      rw [hi0] at hx
      have e : m = x := by simpa using hx
      have ei : i = out.length := by omega
      subst ei
      rw [List.take_left, ← e]
      exact hm

section
variable (list : List S33) (hv want all : List ByteArray) (htot : tot (net33 list) ≤ 3000000) (hW : want.length ≤ 3000000) (hH : hv.length ≤ 3000000) (h0 : bads (net33 list) = []) (hal : all.length ≤ 6000000) (hnd : all.Nodup) (hall : ∀ x, x ∈ all ↔ Ord.Reach (net33 list) hv want x)
include htot hW hH h0 hal hnd hall

theorem list_len : list.length ≤ 3000000 := by
  have h := tot_ge (net33 list)
  have e : (net33 list).length = list.length := by simp [net33]
  omega

theorem sort_l3 (h1 : ∀ x, Ord.Reach (net33 list) hv want x → usesOf (net33 list) x ≠ none) (out : List ByteArray) (ho : GPre (net33 list) hv want all out) (hol : out.length ≤ 6000000)
    (r : List ByteArray × ByteArray × Int) (hne : ∃ x, Ord.Next (net33 list) hv want out x) (hnext : ∀ m, IsLeast ltN (Ord.Next (net33 list) hv want out) m → Ev (fun k => quireref15_Sort.l2 k list hv all (out ++ [m])) r) :
    ∀ (n i : Nat) (may : List ByteArray), i + n = all.length → may.length ≤ i → (∀ x, x ∈ may ↔ x ∈ all.take i ∧ Ord.Next (net33 list) hv want out x) → Ev (fun k => quireref15_Sort.l3 k list hv all out may (i : Int)) r
  | 0, i, may, hi, hml, hm => by
    have hmm : ∀ x, x ∈ may ↔ Ord.Next (net33 list) hv want out x := fun x => by
      rw [hm, List.take_of_length_le (by omega)]
      exact ⟨fun h => h.2, fun h => ⟨(hall x).2 h.1, h⟩⟩
    have hpos : 0 < may.length := by
      obtain ⟨x, hx⟩ := hne
      exact List.length_pos_of_mem ((hmm x).2 hx)
    obtain ⟨K, g⟩ := hnext (minL may) ((minL_is hpos).congr hmm)
    refine ⟨K + 1, fun k hk => ?_⟩
    obtain ⟨k', rfl⟩ : ∃ k', k = k' + 1 := ⟨k - 1, by omega⟩
    have g1 := g k' (by omega)
    dsimp only at g1 ⊢
    unfold quireref15_Sort.l3
    rw [if_neg (by omega), least_some hpos (by omega), Option.bind_some, if_pos (by omega)]
    exact g1
  | n + 1, i, may, hi, hml, hm => by
    have hlt : i < all.length := by omega
    have hN := list_len list hv want all htot hW hH h0 hal hnd hall
    have hw : wrap64 ((i : Int) + 1) = ((i + 1 : Nat) : Int) := by rw [w64 (by omega) (by omega)]; rfl
    have hrx := (hall _).1 (List.getElem_mem hlt)
    obtain ⟨b1, ⟨K1, g1⟩, hb1⟩ := has_ev out all[i] (by omega)
    obtain ⟨t, ⟨K2, g2⟩, hfd⟩ := find_ev list all[i] (by omega)
    rcases net33_uses (bads_nil h0).1 hfd with ⟨_, hu⟩ | ⟨j, rfl, hj, hjx, hu⟩
    · exact absurd hu (h1 _ hrx)
    · have hul := uses_len hj
      obtain ⟨b3, ⟨K3, g3⟩, hb3⟩ := ready_ev out hv list[j].f1 list[j].f0 (by omega) (by omega) (by omega)
      have hnx : Ord.Next (net33 list) hv want out all[i] ↔ b1 = false ∧ b3 = true := by
        constructor
        · rintro ⟨_, hno, hr⟩
          refine ⟨?_, hb3.2 (fun u hu1 => (hr _ hu u hu1).symm)⟩
          cases b1 with
          | false => rfl
          | true => exact absurd (hb1.1 rfl) hno
        · rintro ⟨e1, e3⟩
          refine ⟨hrx, (fun hx => by have := hb1.2 hx; rw [e1] at this; cases this), fun us hus u hu1 => ?_⟩
          rw [hu] at hus
          cases hus
          exact (hb3.1 e3 u hu1).symm
      have step : ∀ may' : List ByteArray, may'.length ≤ i + 1 → (∀ x, x ∈ may' ↔ x ∈ may ∨ (x = all[i] ∧ b1 = false ∧ b3 = true)) → Ev (fun k => quireref15_Sort.l3 k list hv all out may' ((i + 1 : Nat) : Int)) r := fun may' hl' hm' =>
        sort_l3 h1 out ho hol r hne hnext n (i + 1) may' (by omega) hl' (fun x => by
          rw [hm', hm, List.take_succ_eq_append_getElem hlt, List.mem_append, List.mem_singleton]
          constructor
          · rintro (⟨h, h'⟩ | ⟨rfl, h⟩)
            · exact ⟨.inl h, h'⟩
            · exact ⟨.inr rfl, hnx.2 h⟩
          · rintro ⟨h | rfl, h'⟩
            · exact .inl ⟨h, h'⟩
            · exact .inr ⟨rfl, hnx.1 h'⟩)
      by_cases hyes : b1 = false ∧ b3 = true
      · obtain ⟨rfl, rfl⟩ := hyes
        obtain ⟨K4, g4⟩ := step (may ++ [all[i]]) (by simp; omega) (fun x => by simp)
        refine ⟨K1 + K2 + K3 + K4 + 1, fun k hk => ?_⟩
        obtain ⟨k', rfl⟩ : ∃ k', k = k' + 1 := ⟨k - 1, by omega⟩
        have e1 := g1 k' (by omega)
        have e2 := g2 k' (by omega)
        have e3 := g3 k' (by omega)
        have e4 := g4 k' (by omega)
        dsimp only at e1 e2 e3 e4 ⊢
        unfold quireref15_Sort.l3
        rw [if_pos (by omega), if_pos (by omega), rd_at hlt, e1, Option.bind_some, if_neg (by simp), e2, Option.bind_some, if_pos (by omega), if_pos (by omega), rd33_at hj, e3, Option.bind_some, if_pos rfl, if_pos (by omega), hw]
        exact e4
      · obtain ⟨K4, g4⟩ := step may (by omega) (fun x => ⟨fun h => .inl h, fun h => h.resolve_right (fun h => hyes h.2)⟩)
        refine ⟨K1 + K2 + K3 + K4 + 1, fun k hk => ?_⟩
        obtain ⟨k', rfl⟩ : ∃ k', k = k' + 1 := ⟨k - 1, by omega⟩
        have e1 := g1 k' (by omega)
        have e2 := g2 k' (by omega)
        have e3 := g3 k' (by omega)
        have e4 := g4 k' (by omega)
        dsimp only at e1 e2 e3 e4 ⊢
        unfold quireref15_Sort.l3
        rw [if_pos (by omega), if_pos (by omega), rd_at hlt, e1, Option.bind_some]
        cases b1 with
        | true => rw [if_pos rfl, hw]; exact e4
        | false =>
          have e5 : b3 = false := by
            cases b3 with
            | false => rfl
            | true => exact absurd ⟨rfl, rfl⟩ hyes
          subst e5
          rw [if_neg (by simp), e2, Option.bind_some, if_pos (by omega), if_pos (by omega), rd33_at hj, e3, Option.bind_some, if_neg (by simp), hw]
          exact e4

theorem sort_l2 (h1 : ∀ x, Ord.Reach (net33 list) hv want x → usesOf (net33 list) x ≠ none) (h2 : ∀ x, Ord.Reach (net33 list) hv want x → ¬ Cyc (net33 list) hv x) :
    ∀ (n : Nat) (out : List ByteArray), out.length + n = all.length → GPre (net33 list) hv want all out → ∃ l, Ev (fun k => quireref15_Sort.l2 k list hv all out) (l, noName, 0) ∧ Greedy ltN (net33 list) hv want l
  | 0, out, hl, ho => by
    refine ⟨out, Ev.step (f := fun _ => some (out, noName, 0)) (fun k => ?_) (Ev.now _), ?_, ho.nd, ho.least⟩
    · unfold quireref15_Sort.l2
      rw [if_neg (by omega)]
      rfl
    · exact fun x => ⟨fun hx => (hall x).1 (ho.sub x hx), fun hx => subset_full ho.nd ho.sub (by omega) x ((hall x).2 hx)⟩
  | n + 1, out, hl, ho => by
    have : ∃ x0, x0 ∈ all ∧ x0 ∉ out := by
      apply Classical.byContradiction
      intro hc
      have hs : ∀ x ∈ all, x ∈ out := fun x hx => Classical.not_not.1 fun hx2 => hc ⟨x, hx, hx2⟩
      have := subset_length hnd hs
      omega
    obtain ⟨x0, hx0, hx1⟩ := this
    have hne := exists_next h1 h2 all out hall hx0 hx1
    obtain ⟨m, hmm⟩ := least_exists totN (P := Ord.Next (net33 list) hv want out) all (fun x hx => (hall x).2 hx.1) hne
    obtain ⟨l, hev, hg⟩ := sort_l2 h1 h2 n (out ++ [m]) (by simp; omega) (ho.snoc hall hmm)
    have h3 := sort_l3 list hv want all htot hW hH h0 hal hnd hall h1 out ho (by omega) (l, noName, 0) hne (fun m' hm' => by rw [hm'.unique totN hmm]; exact hev) all.length 0 [] (by omega) (by simp) (fun x => by simp)
    refine ⟨l, Ev.step (fun k => ?_) h3, hg⟩
    conv => lhs; unfold quireref15_Sort.l2
    rw [if_pos (by omega)]
    rfl

theorem sort_l1 (h1 : ∀ x, Ord.Reach (net33 list) hv want x → usesOf (net33 list) x ≠ none) :
    ∀ (n i : Nat) (bad : List ByteArray), i + n = all.length → bad.length ≤ i → (∀ x, x ∈ bad ↔ x ∈ all.take i ∧ Cyc (net33 list) hv x) → ∃ r : List ByteArray × ByteArray × Int, Ev (fun k => quireref15_Sort.l1 k list hv bad all (i : Int)) r ∧ Sorts ltN noName (net33 list) want hv r.1 r.2.1 r.2.2
  | 0, i, bad, hi, hbl, hm => by
    have hmm : ∀ x, x ∈ bad ↔ Ord.Reach (net33 list) hv want x ∧ Cyc (net33 list) hv x := fun x => by
      rw [hm, List.take_of_length_le (by omega), hall]
    rcases Nat.eq_zero_or_pos bad.length with hz | hz
    · have he := List.eq_nil_of_length_eq_zero hz
      subst he
      have h2 : ∀ x, Ord.Reach (net33 list) hv want x → ¬ Cyc (net33 list) hv x := fun x hx hc => by have := (hmm x).2 ⟨hx, hc⟩; simp at this
      obtain ⟨l, hev, hg⟩ := sort_l2 list hv want all htot hW hH h0 hal hnd hall h1 h2 all.length [] (by simp) ⟨List.nodup_nil, by simp, by simp⟩
      refine ⟨(l, noName, 0), Ev.step (fun k => ?_) hev, .ok l h0 h1 h2 hg⟩
      conv => lhs; unfold quireref15_Sort.l1
      rw [if_neg (by omega), if_neg (by simp)]
    · refine ⟨([], minL bad, 15), Ev.step (f := fun _ => some ([], minL bad, 15)) (fun k => ?_) (Ev.now _), .cycle _ h0 h1 ((minL_is hz).congr hmm)⟩
      unfold quireref15_Sort.l1
      rw [if_neg (by omega), if_pos (by omega), least_some hz (by omega), Option.bind_some]
  | n + 1, i, bad, hi, hbl, hm => by
    have hlt : i < all.length := by omega
    have hN := list_len list hv want all htot hW hH h0 hal hnd hall
    have hw : wrap64 ((i : Int) + 1) = ((i + 1 : Nat) : Int) := by rw [w64 (by omega) (by omega)]; rfl
    have hrx := (hall _).1 (List.getElem_mem hlt)
    obtain ⟨t, ⟨K2, g2⟩, hfd⟩ := find_ev list all[i] (by omega)
    rcases net33_uses (bads_nil h0).1 hfd with ⟨_, hu⟩ | ⟨j, rfl, hj, hjx, hu⟩
    · exact absurd hu (h1 _ hrx)
    · have hul := uses_len hj
      obtain ⟨all2, ⟨K3, g3⟩, hnd2, hal2, hall2⟩ := reached_ev list hv list[j].f1 (bads_nil h0).1 htot (by omega) hH
      obtain ⟨b, ⟨K1, g1⟩, hb⟩ := has_ev all2 all[i] (by omega)
      have hcy : b = true ↔ Cyc (net33 list) hv all[i] := by
        rw [hb, hall2]
        exact ⟨fun h => ⟨_, hu, h⟩, fun ⟨us, hus, h⟩ => by rw [hu] at hus; cases hus; exact h⟩
      cases hbv : b with
      | true =>
        subst hbv
        obtain ⟨r, ⟨K4, g4⟩, hs⟩ := sort_l1 h1 n (i + 1) (bad ++ [all[i]]) (by omega) (by simp; omega) (fun x => by
          rw [List.mem_append, hm, List.take_succ_eq_append_getElem hlt, List.mem_append, List.mem_singleton]
          constructor
          · rintro (⟨h, h'⟩ | rfl)
            · exact ⟨.inl h, h'⟩
            · exact ⟨.inr rfl, hcy.1 rfl⟩
          · rintro ⟨h | rfl, h'⟩
            · exact .inl ⟨h, h'⟩
            · exact .inr rfl)
        refine ⟨r, ⟨K1 + K2 + K3 + K4 + 1, fun k hk => ?_⟩, hs⟩
        obtain ⟨k', rfl⟩ : ∃ k', k = k' + 1 := ⟨k - 1, by omega⟩
        have e1 := g1 k' (by omega)
        have e2 := g2 k' (by omega)
        have e3 := g3 k' (by omega)
        have e4 := g4 k' (by omega)
        dsimp only at e1 e2 e3 e4 ⊢
        unfold quireref15_Sort.l1
        rw [if_pos (by omega), if_pos (by omega), rd_at hlt, e2, Option.bind_some, if_pos (by omega), if_pos (by omega), rd33_at hj, e3, Option.bind_some, e1, Option.bind_some, if_pos rfl, if_pos (by omega), hw]
        exact e4
      | false =>
        subst hbv
        obtain ⟨r, ⟨K4, g4⟩, hs⟩ := sort_l1 h1 n (i + 1) bad (by omega) (by omega) (fun x => by
          rw [hm, List.take_succ_eq_append_getElem hlt, List.mem_append, List.mem_singleton]
          constructor
          · rintro ⟨h, h'⟩
            exact ⟨.inl h, h'⟩
          · rintro ⟨h | rfl, h'⟩
            · exact ⟨h, h'⟩
            · have := hcy.2 h'; cases this)
        refine ⟨r, ⟨K1 + K2 + K3 + K4 + 1, fun k hk => ?_⟩, hs⟩
        obtain ⟨k', rfl⟩ : ∃ k', k = k' + 1 := ⟨k - 1, by omega⟩
        have e1 := g1 k' (by omega)
        have e2 := g2 k' (by omega)
        have e3 := g3 k' (by omega)
        have e4 := g4 k' (by omega)
        dsimp only at e1 e2 e3 e4 ⊢
        unfold quireref15_Sort.l1
        rw [if_pos (by omega), if_pos (by omega), rd_at hlt, e2, Option.bind_some, if_pos (by omega), if_pos (by omega), rd33_at hj, e3, Option.bind_some, e1, Option.bind_some, if_neg (by simp), hw]
        exact e4

theorem sort_l0 :
    ∀ (n i : Nat) (bad : List ByteArray), i + n = all.length → bad.length ≤ i → (∀ x, x ∈ bad ↔ x ∈ all.take i ∧ usesOf (net33 list) x = none) → ∃ r : List ByteArray × ByteArray × Int, Ev (fun k => quireref15_Sort.l0 k list hv bad all (i : Int)) r ∧ Sorts ltN noName (net33 list) want hv r.1 r.2.1 r.2.2
  | 0, i, bad, hi, hbl, hm => by
    have hmm : ∀ x, x ∈ bad ↔ Ord.Reach (net33 list) hv want x ∧ usesOf (net33 list) x = none := fun x => by
      rw [hm, List.take_of_length_le (by omega), hall]
    rcases Nat.eq_zero_or_pos bad.length with hz | hz
    · have he := List.eq_nil_of_length_eq_zero hz
      subst he
      have h1 : ∀ x, Ord.Reach (net33 list) hv want x → usesOf (net33 list) x ≠ none := fun x hx hc => by have := (hmm x).2 ⟨hx, hc⟩; simp at this
      obtain ⟨r, hev, hs⟩ := sort_l1 list hv want all htot hW hH h0 hal hnd hall h1 all.length 0 [] (by omega) (by simp) (fun x => by simp)
      refine ⟨r, Ev.step (fun k => ?_) hev, hs⟩
      conv => lhs; unfold quireref15_Sort.l0
      rw [if_neg (by omega), if_neg (by simp)]
      rfl
    · refine ⟨([], minL bad, 6), Ev.step (f := fun _ => some ([], minL bad, 6)) (fun k => ?_) (Ev.now _), .none_ _ h0 ((minL_is hz).congr hmm)⟩
      unfold quireref15_Sort.l0
      rw [if_neg (by omega), if_pos (by omega), least_some hz (by omega), Option.bind_some]
  | n + 1, i, bad, hi, hbl, hm => by
    have hlt : i < all.length := by omega
    have hN := list_len list hv want all htot hW hH h0 hal hnd hall
    have hw : wrap64 ((i : Int) + 1) = ((i + 1 : Nat) : Int) := by rw [w64 (by omega) (by omega)]; rfl
    obtain ⟨t, ⟨K2, g2⟩, hfd⟩ := find_ev list all[i] (by omega)
    rcases net33_uses (bads_nil h0).1 hfd with ⟨rfl, hu⟩ | ⟨j, rfl, hj, hjx, hu⟩
    · obtain ⟨r, ⟨K4, g4⟩, hs⟩ := sort_l0 n (i + 1) (bad ++ [all[i]]) (by omega) (by simp; omega) (fun x => by
        rw [List.mem_append, hm, List.take_succ_eq_append_getElem hlt, List.mem_append, List.mem_singleton]
        constructor
        · rintro (⟨h, h'⟩ | rfl)
          · exact ⟨.inl h, h'⟩
          · exact ⟨.inr rfl, hu⟩
        · rintro ⟨h | rfl, h'⟩
          · exact .inl ⟨h, h'⟩
          · exact .inr rfl)
      refine ⟨r, ⟨K2 + K4 + 1, fun k hk => ?_⟩, hs⟩
      obtain ⟨k', rfl⟩ : ∃ k', k = k' + 1 := ⟨k - 1, by omega⟩
      have e2 := g2 k' (by omega)
      have e4 := g4 k' (by omega)
      dsimp only at e2 e4 ⊢
      unfold quireref15_Sort.l0
      rw [if_pos (by omega), if_pos (by omega), rd_at hlt, e2, Option.bind_some, if_pos (by omega), if_pos (by omega), hw]
      exact e4
    · obtain ⟨r, ⟨K4, g4⟩, hs⟩ := sort_l0 n (i + 1) bad (by omega) (by omega) (fun x => by
        rw [hm, List.take_succ_eq_append_getElem hlt, List.mem_append, List.mem_singleton]
        constructor
        · rintro ⟨h, h'⟩
          exact ⟨.inl h, h'⟩
        · rintro ⟨h | rfl, h'⟩
          · exact ⟨h, h'⟩
          · rw [hu] at h'; cases h')
      refine ⟨r, ⟨K2 + K4 + 1, fun k hk => ?_⟩, hs⟩
      obtain ⟨k', rfl⟩ : ∃ k', k = k' + 1 := ⟨k - 1, by omega⟩
      have e2 := g2 k' (by omega)
      have e4 := g4 k' (by omega)
      dsimp only at e2 e4 ⊢
      unfold quireref15_Sort.l0
      rw [if_pos (by omega), if_pos (by omega), rd_at hlt, e2, Option.bind_some, if_neg (by omega), hw]
      exact e4
end

theorem refSort_ev (list : List S33) (want hv : List ByteArray) (htot : tot (net33 list) ≤ 3000000) (hW : want.length ≤ 3000000) (hH : hv.length ≤ 3000000) :
    ∃ r : List ByteArray × ByteArray × Int, Ev (fun k => quireref15_Sort.f k list want hv) r ∧ Sorts ltN noName (net33 list) want hv r.1 r.2.1 r.2.2 := by
  have ht : quireref15_twice.f list = some (bads (net33 list)) := by
    unfold quireref15_twice.f
    rw [if_pos htot]
  rcases Nat.eq_zero_or_pos (bads (net33 list)).length with hz | hz
  · have h0 := List.eq_nil_of_length_eq_zero hz
    obtain ⟨all, ⟨K1, g1⟩, hnd, hal, hall⟩ := reached_ev list hv want (bads_nil h0).1 htot hW hH
    obtain ⟨r, ⟨K2, g2⟩, hs⟩ := sort_l0 list hv want all htot hW hH h0 hal hnd hall all.length 0 [] (by omega) (by simp) (fun x => by simp)
    refine ⟨r, ⟨K1 + K2, fun k hk => ?_⟩, hs⟩
    have e1 := g1 k (by omega)
    have e2 := g2 k (by omega)
    dsimp only at e1 e2 ⊢
    unfold quireref15_Sort.f
    rw [ht, Option.bind_some, if_neg (by omega), e1, Option.bind_some, h0]
    exact e2
  · have hl : (bads (net33 list)).length ≤ 10000000 := by have := badsFrom_length (net33 list) []; unfold bads; omega
    refine ⟨([], minL (bads (net33 list)), 14), Ev.congr (fun k => ?_) (Ev.now _), .twice _ (minL_is hz)⟩
    unfold quireref15_Sort.f
    rw [ht, Option.bind_some, if_pos (by omega), least_some hz hl, Option.bind_some]
end Go.Proofs.Ytdllpgeagdckmaa.Q

/- The document's Levels: its answer is the one that the theory of levels gives. -/
namespace Go.Proofs.Ytdllpgeagdckmaa.Q
open Go.RowKit Go.Proofs.YtdllpgeagdckmaaW.PrintWords Go.Proofs.YtdllpgeagdckmaaW.PrintLast Go.Proofs.YtdllpgeagdckmaaW.PrintMore Go.Proofs.Ytdllpgeagdckmaa.Ord
set_option linter.unusedVariables false
set_option linter.unusedSimpArgs false

theorem insL_lt {a s : ByteArray} {l : List ByteArray} (h : ltN a s = true) : insL (a :: l) s = a :: insL l s := by simp [insL, List.takeWhile_cons, List.dropWhile_cons, h]
theorem insL_ge {a s : ByteArray} {l : List ByteArray} (h : ltN a s = false) : insL (a :: l) s = s :: a :: l := by simp [insL, List.takeWhile_cons, List.dropWhile_cons, h]
theorem insL_mem {s x : ByteArray} : ∀ {l : List ByteArray}, x ∈ insL l s ↔ x ∈ l ∨ x = s
  | [] => by simp [insL]
  | a :: l => by
    cases h : ltN a s with
    | true =>
      rw [insL_lt h, List.mem_cons, insL_mem (l := l), List.mem_cons, or_assoc]
    | false =>
      rw [insL_ge h, List.mem_cons]
      exact or_comm
theorem insL_length {s : ByteArray} : ∀ {l : List ByteArray}, (insL l s).length = l.length + 1
  | [] => by simp [insL]
  | a :: l => by
    cases h : ltN a s with
    | true => rw [insL_lt h, List.length_cons, insL_length (l := l), List.length_cons]
    | false => rw [insL_ge h]; rfl
theorem insL_rising {s : ByteArray} : ∀ {l : List ByteArray}, Rising ltN l → s ∉ l → Rising ltN (insL l s)
  | [], _, _ => by simp [insL, Rising]
  | a :: l, hr, hn => by
    obtain ⟨h1, h2⟩ := List.pairwise_cons.1 hr
    simp only [List.mem_cons, not_or] at hn
    cases h : ltN a s with
    | true =>
      rw [insL_lt h]
      refine List.pairwise_cons.2 ⟨fun x hx => ?_, insL_rising h2 hn.2⟩
      rcases insL_mem.1 hx with hx | rfl
      · exact h1 x hx
      · exact h
    | false =>
      rw [insL_ge h]
      have hsa : ltN s a = true := by
        rcases totN.tri s a with h3 | h3 | h3
        · exact h3
        · exact absurd h3 hn.1
        · rw [h] at h3; cases h3
      refine List.pairwise_cons.2 ⟨fun x hx => ?_, hr⟩
      rcases List.mem_cons.1 hx with rfl | hx
      · exact hsa
      · exact totN.tr _ _ _ hsa (h1 x hx)

section
variable (list : List S33) (s : List ByteArray) (F : ByteArray → Nat) (htot : tot (net33 list) ≤ 3000000) (hnd : ((net33 list).map (·.1)).Nodup) (hs : s.length ≤ 3000000) (hsn : s.Nodup) (ht : Topo (net33 list) s) (hu : ∀ x ∈ s, usesOf (net33 list) x ≠ none) (hF : ∀ x ∈ s, F x = lvl (net33 list) F x)
include htot hnd hs hsn ht hu hF

theorem lev_l2 (c : Nat) (out : List (List ByteArray)) (done : List ByteArray) (hd : ∀ x, x ∈ done ↔ x ∈ s ∧ F x < c) (hdl : done.length ≤ 6000000) (hol : out.length ≤ 6000000) (P : List (List ByteArray) × Int → Prop)
    (hnext : ∀ level : List ByteArray, Rising ltN level → (∀ x, x ∈ level ↔ x ∈ s ∧ F x = c) → ∃ r, Ev (fun k => quireref15_Levels.l1 k list s (out ++ [level]) (done ++ level)) r ∧ P r) :
    ∀ (n i : Nat) (level : List ByteArray), i + n = s.length → level.length ≤ i → Rising ltN level → (∀ x, x ∈ level ↔ x ∈ s.take i ∧ F x = c) → ∃ r, Ev (fun k => quireref15_Levels.l2 k list s out done level (i : Int)) r ∧ P r
  | 0, i, level, hi, hl, hr, hm => by
    obtain ⟨r, ⟨K, g⟩, hP⟩ := hnext level hr (fun x => by rw [hm, List.take_of_length_le (by omega)])
    refine ⟨r, ⟨K + 1, fun k hk => ?_⟩, hP⟩
    obtain ⟨k', rfl⟩ : ∃ k', k = k' + 1 := ⟨k - 1, by omega⟩
    have e := g k' (by omega)
    dsimp only at e ⊢
    unfold quireref15_Levels.l2
    rw [if_neg (by omega), if_pos (by omega), if_pos (by omega)]
    exact e
  | n + 1, i, level, hi, hl, hr, hm => by
    have hlt : i < s.length := by omega
    have hN : list.length ≤ 3000000 := by
      have h := tot_ge (net33 list)
      have e : (net33 list).length = list.length := by simp [net33]
      omega
    have hw : wrap64 ((i : Int) + 1) = ((i + 1 : Nat) : Int) := by rw [w64 (by omega) (by omega)]; rfl
    have hxs : s[i] ∈ s := List.getElem_mem hlt
    obtain ⟨b1, ⟨K1, g1⟩, hb1⟩ := has_ev done s[i] (by omega)
    obtain ⟨t, ⟨K2, g2⟩, hfd⟩ := find_ev list s[i] (by omega)
    rcases net33_uses hnd hfd with ⟨_, hu0⟩ | ⟨j, rfl, hj, hjx, huj⟩
    · exact absurd hu0 (hu _ hxs)
    · have hul := uses_len hj
      obtain ⟨b3, ⟨K3, g3⟩, hb3⟩ := ready_ev done [] list[j].f1 list[j].f0 (by omega) (by simp) (by omega)
      have hnx : F s[i] = c ↔ b1 = false ∧ b3 = true := by
        rw [at_level (hF _ hxs)]
        constructor
        · rintro ⟨h1, h2⟩
          refine ⟨?_, hb3.2 (fun u hu1 => .inl ((hd u).2 ⟨topo_mem ht hxs huj hu1, h2 _ huj u hu1⟩))⟩
          cases b1 with
          | false => rfl
          | true => exact absurd ((hd _).1 (hb1.1 rfl)).2 h1
        · rintro ⟨e1, e3⟩
          refine ⟨fun h => (by have := hb1.2 ((hd _).2 ⟨hxs, h⟩); rw [e1] at this; cases this), fun us hus u hu1 => ?_⟩
          rw [huj] at hus
          cases hus
          rcases hb3.1 e3 u hu1 with h | h
          · exact ((hd u).1 h).2
          · simp at h
      have hni : s[i] ∉ s.take i := fun hm2 => by
        obtain ⟨j', hj', e⟩ := List.mem_take_iff_getElem.1 hm2
        exact List.pairwise_iff_getElem.1 hsn j' i (by omega) (by omega) (by omega) e
      have hsnoc : ∀ x, x ∈ s.take (i + 1) ↔ x ∈ s.take i ∨ x = s[i] := fun x => by rw [List.take_succ_eq_append_getElem hlt, List.mem_append, List.mem_singleton]
      by_cases hyes : b1 = false ∧ b3 = true
      · have hFc := hnx.2 hyes
        obtain ⟨rfl, rfl⟩ := hyes
        have hins : quireref15_insert.f level s[i] = some (insL level s[i]) := by
          unfold quireref15_insert.f
          rw [if_pos (by omega)]
        obtain ⟨r, ⟨K4, g4⟩, hP⟩ := lev_l2 c out done hd hdl hol P hnext n (i + 1) (insL level s[i]) (by omega) (by rw [insL_length]; omega) (insL_rising hr (fun h => hni ((hm _).1 h).1)) (fun x => by
          rw [insL_mem, hm, hsnoc]
          constructor
          · rintro (⟨h, h'⟩ | rfl)
            · exact ⟨.inl h, h'⟩
            · exact ⟨.inr rfl, hFc⟩
          · rintro ⟨h | rfl, h'⟩
            · exact .inl ⟨h, h'⟩
            · exact .inr rfl)
        refine ⟨r, ⟨K1 + K2 + K3 + K4 + 1, fun k hk => ?_⟩, hP⟩
        obtain ⟨k', rfl⟩ : ∃ k', k = k' + 1 := ⟨k - 1, by omega⟩
        have e1 := g1 k' (by omega)
        have e2 := g2 k' (by omega)
        have e3 := g3 k' (by omega)
        have e4 := g4 k' (by omega)
        dsimp only at e1 e2 e3 e4 ⊢
        unfold quireref15_Levels.l2
        rw [if_pos (by omega), if_pos (by omega), rd_at hlt, e1, Option.bind_some, if_neg (by simp), e2, Option.bind_some, if_pos (by omega), if_pos (by omega), rd33_at hj, e3, Option.bind_some, if_pos rfl, hins, Option.bind_some, hw]
        exact e4
      · have hFc : F s[i] ≠ c := fun h => hyes (hnx.1 h)
        obtain ⟨r, ⟨K4, g4⟩, hP⟩ := lev_l2 c out done hd hdl hol P hnext n (i + 1) level (by omega) (by omega) hr (fun x => by
          rw [hm, hsnoc]
          constructor
          · rintro ⟨h, h'⟩
            exact ⟨.inl h, h'⟩
          · rintro ⟨h | rfl, h'⟩
            · exact ⟨h, h'⟩
            · exact absurd h' hFc)
        refine ⟨r, ⟨K1 + K2 + K3 + K4 + 1, fun k hk => ?_⟩, hP⟩
        obtain ⟨k', rfl⟩ : ∃ k', k = k' + 1 := ⟨k - 1, by omega⟩
        have e1 := g1 k' (by omega)
        have e2 := g2 k' (by omega)
        have e3 := g3 k' (by omega)
        have e4 := g4 k' (by omega)
        dsimp only at e1 e2 e3 e4 ⊢
        unfold quireref15_Levels.l2
        rw [if_pos (by omega), if_pos (by omega), rd_at hlt, e1, Option.bind_some]
        cases b1 with
        | true => rw [if_pos rfl, hw]; exact e4
        | false =>
          have e5 : b3 = false := by
            cases b3 with
            | false => rfl
            | true => exact absurd ⟨rfl, rfl⟩ hyes
          subst e5
          rw [if_neg (by simp), e2, Option.bind_some, if_pos (by omega), if_pos (by omega), rd33_at hj, e3, Option.bind_some, if_neg (by simp), hw]
          exact e4

theorem lev_l1 : ∀ (n : Nat) (out : List (List ByteArray)) (done : List ByteArray), s.length ≤ done.length + n → out.length ≤ done.length → (∀ x, x ∈ done ↔ x ∈ s ∧ F x < out.length) → done.Nodup → (∀ k row, out[k]? = some row → row ≠ [] ∧ Rising ltN row ∧ ∀ x, x ∈ row ↔ x ∈ s ∧ F x = k) →
    ∃ r : List (List ByteArray) × Int, Ev (fun k => quireref15_Levels.l1 k list s out done) r ∧ (r.2 = 0 ∧ Lev ltN (net33 list) s r.1 F) := by
  intro n
  induction n with
  | zero =>
    intro out done hl ho hd hdn hrow
    have hdl := subset_length hdn (fun x hx => ((hd x).1 hx).1)
    refine ⟨(out, 0), Ev.step (f := fun _ => some (out, 0)) (fun k => ?_) (Ev.now _), rfl, hF, fun x hx => ?_, fun row hr => ?_, fun row hr => ?_, fun k row hr => (hrow k row hr).2.2⟩
    · unfold quireref15_Levels.l1
      rw [if_neg (by omega)]
    · exact ((hd x).1 (subset_full hdn (fun x hx => ((hd x).1 hx).1) (by omega) x hx)).2
    · obtain ⟨k, hk⟩ := List.getElem?_of_mem hr
      exact (hrow k row hk).1
    · obtain ⟨k, hk⟩ := List.getElem?_of_mem hr
      exact (hrow k row hk).2.1
  | succ n ih =>
    intro out done hl ho hd hdn hrow
    have hdl := subset_length hdn (fun x hx => ((hd x).1 hx).1)
    by_cases hfull : s.length ≤ done.length + n
    · exact ih out done hfull ho hd hdn hrow
    · have : ∃ x0, x0 ∈ s ∧ x0 ∉ done := by
        apply Classical.byContradiction
        intro hc
        have hss : ∀ x ∈ s, x ∈ done := fun x hx => Classical.not_not.1 fun hx2 => hc ⟨x, hx, hx2⟩
        have := subset_length hsn hss
        omega
      obtain ⟨x0, hx0, hx1⟩ := this
      obtain ⟨y, hy, hyc⟩ := level_hit ht hF (c := out.length) (F x0) x0 hx0 rfl (by
        apply Classical.byContradiction
        intro hc
        exact hx1 ((hd x0).2 ⟨hx0, by omega⟩))
      obtain ⟨r, hev, hP⟩ := lev_l2 list s F htot hnd hs hsn ht hu hF out.length out done hd (by omega) (by omega) (fun r => r.2 = 0 ∧ Lev ltN (net33 list) s r.1 F) (fun level hr hm => by
        have hne : level ≠ [] := fun h => by
          have := (hm y).2 ⟨hy, hyc⟩
          rw [h] at this
          simp at this
        have hlp : 0 < level.length := List.length_pos_iff.2 hne
        have hln : level.Nodup := hr.imp (fun {a b} hab e => by rw [e, totN.irr] at hab; cases hab)
        refine ih (out ++ [level]) (done ++ level) (by rw [List.length_append]; omega) (by rw [List.length_append, List.length_append, List.length_singleton]; omega) (fun x => ?_) ?_ (fun k row hk => ?_)
        · rw [List.mem_append, hd, hm, List.length_append, List.length_singleton]
          constructor
          · rintro (⟨h, h'⟩ | ⟨h, h'⟩)
            · exact ⟨h, by omega⟩
            · exact ⟨h, by omega⟩
          · rintro ⟨h, h'⟩
            rcases Nat.lt_or_ge (F x) out.length with h2 | h2
            · exact .inl ⟨h, h2⟩
            · exact .inr ⟨h, by omega⟩
        · rw [List.nodup_append]
          refine ⟨hdn, hln, fun a ha b hb e => ?_⟩
          have h1 := ((hd a).1 ha).2
          have h2 := ((hm b).1 hb).2
          rw [e] at h1
          omega
        · rcases Nat.lt_or_ge k out.length with h2 | h2
          · rw [List.getElem?_append_left h2] at hk
            exact hrow k row hk
          · rw [List.getElem?_append_right h2] at hk
            have hk0 : k - out.length = 0 := by
              have := (List.getElem?_eq_some_iff.1 hk).1
              simp at this
              omega
            rw [hk0] at hk
            have e : level = row := by simpa using hk
            subst e
            have ek : k = out.length := by omega
            subst ek
            exact ⟨hne, hr, hm⟩) s.length 0 [] (by omega) (by simp) List.Pairwise.nil (fun x => by simp)
      refine ⟨r, Ev.step (fun k => ?_) hev, hP⟩
      conv => lhs; unfold quireref15_Levels.l1
      rw [if_pos (by omega)]
      rfl
end

theorem lev_l0 (list : List S33) (hN : list.length ≤ 3000000) (r : List (List ByteArray) × Int) (hfin : Ev (fun k => quireref15_Levels.l0 k list (list.map (·.f0)) (list.length : Int)) r) :
    ∀ n i : Nat, i + n = list.length → Ev (fun k => quireref15_Levels.l0 k list ((list.take i).map (·.f0)) (i : Int)) r
  | 0, i, hi => by
    have e : i = list.length := by omega
    subst e
    rw [List.take_length]
    exact hfin
  | n + 1, i, hi => by
    have hlt : i < list.length := by omega
    refine Ev.step (fun k => ?_) (lev_l0 list hN r hfin n (i + 1) (by omega))
    conv => lhs; unfold quireref15_Levels.l0
    rw [if_pos (by omega), if_pos (by omega), if_pos (by simp; omega), rd33_at hlt, w64 (by omega) (by omega), List.take_succ_eq_append_getElem hlt, List.map_append]
    rfl

theorem refLevels_ev (list : List S33) (htot : tot (net33 list) ≤ 3000000) : ∃ r, Ev (fun k => quireref15_Levels.f k list) r ∧ LevelsB (net33 list) r := by
  have hN : list.length ≤ 3000000 := by
    have h := tot_ge (net33 list)
    have e : (net33 list).length = list.length := by simp [net33]
    omega
  have hnm : (net33 list).map (·.1) = list.map (·.f0) := by rw [net33, List.map_map]; rfl
  obtain ⟨⟨s, m, e⟩, ⟨K, g⟩, hs⟩ := refSort_ev list (list.map (·.f0)) [] htot (by simpa using hN) (by simp)
  dsimp only at hs
  have fin : ∀ r : List (List ByteArray) × Int, Ev (fun k => if e = 0 then quireref15_Levels.l1 k list s [] [] else some ([], e)) r → Ev (fun k => quireref15_Levels.f k list) r := fun r hr => by
    refine lev_l0 list hN r ?_ list.length 0 (by omega)
    obtain ⟨K2, g2⟩ := hr
    refine ⟨K + K2 + 1, fun k hk => ?_⟩
    obtain ⟨k', rfl⟩ : ∃ k', k = k' + 1 := ⟨k - 1, by omega⟩
    have e1 := g k' (by omega)
    have e2 := g2 k' (by omega)
    dsimp only at e1 e2 ⊢
    unfold quireref15_Levels.l0
    rw [if_neg (by omega), e1, Option.bind_some]
    exact e2
  by_cases he : e = 0
  · subst he
    generalize hz : (0 : Int) = z at hs
    cases hs with
    | twice m h => cases hz
    | none_ m h0 h => cases hz
    | cycle m h0 h1 h => cases hz
    | ok s h0 h1 h2 h =>
      have hnd := (bads_nil h0).1
      obtain ⟨F, hF⟩ := lv_exists h.nodup h.topo
      have hu : ∀ x ∈ s, usesOf (net33 list) x ≠ none := fun x hx => h1 x ((h.mem x).1 hx)
      have hsl : s.length ≤ 3000000 := by
        have h3 := subset_length (m := list.map (·.f0)) h.nodup (fun x hx => by
          have h4 := hu x hx
          rw [Ne, usesOf_none, Classical.not_not, hnm] at h4
          exact h4)
        rw [List.length_map] at h3
        omega
      obtain ⟨r, hev, hr0, hlev⟩ := lev_l1 list s F htot hnd hsl h.nodup h.topo hu hF s.length [] [] (by simp) (by simp) (fun x => by simp) List.nodup_nil (fun k row hk => by simp at hk)
      refine ⟨r, fin r (Ev.congr (fun k => if_pos rfl) hev), s, noName, 0, ?_, hr0, .inr ⟨rfl, F, hlev⟩⟩
      rw [hnm]
      exact .ok s h0 h1 h2 h
  · refine ⟨([], e), fin _ (Ev.congr (fun k => if_neg he) (Ev.now _)), s, m, e, by rw [hnm]; exact hs, rfl, .inl ⟨he, rfl⟩⟩
end Go.Proofs.Ytdllpgeagdckmaa.Q
