/- Put together out of the texts Q5, Q3, OTurns, Q6, OLeast, OFind: what each proves stands at its head. -/
import Derived.Test.YtdllpgeagdckmaaPM1
import Derived.Test.YtdllpgeagdckmaaPM3
import Derived.Outline
import Derived.Deep.LoopGhost
import Derived.Deep.Cut

-- Made by a program of this session (turnprint.py), after the manner of the kit's print.
namespace Go.Proofs.Ytdllpgeagdckmaa.Q
open Go.RowKit Go.Proofs.YtdllpgeagdckmaaW.PrintWords Go.Proofs.YtdllpgeagdckmaaW.PrintLast Go.Proofs.YtdllpgeagdckmaaW.PrintMore
attribute [local go_sem] max2_int min2_int max_two min_two max_three min_three max_four min_four   -- for this text's walks alone
set_option linter.unusedVariables false
set_option linter.unusedSimpArgs false

/-! ### quireref01_SameTexts: function 12 -/
noncomputable def quireref01_SameTexts.l0 : Nat → List ByteArray → List ByteArray → Int → Option (Bool)
  | 0, _, _, _ => none
  | k + 1, x0, x1, x5 => if x5 < (x0.length : Int) then (if 0 ≤ x5 then (if x5 < (x1.length : Int) then (if (rdOf ByteArray.empty x0 x5).toList = (rdOf ByteArray.empty x1 x5).toList then (quireref01_SameTexts.l0 k x0 x1 (wrap64 (x5 + 1))) else (some false)) else (none)) else (none)) else (some true)
noncomputable def quireref01_SameTexts.f (k : Nat) (l0 : List ByteArray) (l1 : List ByteArray) : Option (Bool) := if (l0.length : Int) = (l1.length : Int) then (quireref01_SameTexts.l0 k l0 l1 0) else (some false)
theorem quireref01_SameTexts.mono_l : ∀ k, (∀ y0 y1 y2, LeO (quireref01_SameTexts.l0 k y0 y1 y2) (quireref01_SameTexts.l0 (k + 1) y0 y1 y2))
  | 0 => fun _ _ _ r h => by simp [quireref01_SameTexts.l0] at h
  | k + 1 => by
    have ih0 := quireref01_SameTexts.mono_l k
    · intro y0 y1 y2
      unfold quireref01_SameTexts.l0
      repeat' first
      | (with_reducible exact ih0 _ _ _)
      | (with_reducible exact LeO.refl _)
      | (with_reducible exact LeO.none _)
      | (with_reducible refine LeO.ite ?_ ?_)
      | (with_reducible refine LeO.bind ?_ (fun _ => ?_))
      | exact ih0 _ _ _
      | exact LeO.none _
      | refine LeO.ite ?_ ?_
      | refine LeO.bind ?_ (fun _ => ?_)
theorem quireref01_SameTexts.mono : ∀ a0 a1 k, LeO (quireref01_SameTexts.f k a0 a1) (quireref01_SameTexts.f (k + 1) a0 a1) := by
  intro a0 a1 k
  have ih0 := quireref01_SameTexts.mono_l k
  unfold quireref01_SameTexts.f
  repeat' first
      | (with_reducible exact ih0 _ _ _)
      | (with_reducible exact LeO.refl _)
      | (with_reducible exact LeO.none _)
      | (with_reducible refine LeO.ite ?_ ?_)
      | (with_reducible refine LeO.bind ?_ (fun _ => ?_))
      | exact ih0 _ _ _
      | exact LeO.none _
      | refine LeO.ite ?_ ?_
      | refine LeO.bind ?_ (fun _ => ?_)
set_option maxHeartbeats 8000000 in
set_option maxRecDepth 100000 in
theorem quireref01_SameTexts.calls (k : Nat) (A0 : Option Addr) (c0 : Nat) (l0 : List ByteArray) (A1 : Option Addr) (c1 : Nat) (l1 : List ByteArray) (r : Bool) (w : World) (hr0 : Kd.C Kd.string w A0 l0.length l0) (hc0 : l0.length ≤ c0) (hr1 : Kd.C Kd.string w A1 l1.length l1) (hc1 : l1.length ≤ c1) (h : quireref01_SameTexts.f k l0 l1 = some r) :
    Calls Try.prog 12 #[.slice A0 l0.length c0, .slice A1 l1.length c1] w fun e w' => e = .returned (.bool r) ∧ Drawn0 w w' := by
  have HR0 := Aside0.mk hr0
  have HC0 := Aside0.mk hc0
  clear hr0 hc0
  have HR1 := Aside0.mk hr1
  have HC1 := Aside0.mk hc1
  clear hr1 hc1
  have H : (if (l0.length : Int) = (l1.length : Int) then (quireref01_SameTexts.l0 k l0 l1 0) else (some false)) = some r := h
  clear h
  by_cases c3 : (l0.length : Int) = (l1.length : Int)
  · rw [if_pos c3] at H
    have c3b0 : ((l0.length : Int) == (l1.length : Int)) = true := beq_iff_eq.mpr c3
    have c3b1 : ((l0.length : Int) != (l1.length : Int)) = false := bne_eq_false_iff_eq.mpr c3
    have c3b2 : (l0.length == l1.length) = true := by first | simpa using c3 | (simp at c3 ⊢; omega)
    clear c3
    have H' := Aside0.mk H
    clear H
    go_enter Try.func12, Try.ntmps12
    go_wp2
    repeat (go_quiet (fail); try go_wp2)
    go_loopg [5] k (fun kq v5 w' => ∃ (x5_1 : Int), v5 = .int .i64 x5_1 ∧ Aside0 (quireref01_SameTexts.l0 kq l0 l1 x5_1 = some r) ∧ Aside0 (kq ≤ k) ∧ Drawn0 w w')
    case atStart => exact ⟨(0), (by first | rfl | (simp; done) | (simp [*]; done)), H', ⟨Nat.le_refl _⟩, by repeat (first | exact Drawn0.refl _ | apply Drawn0.step)⟩
    case round =>
      clear H'
      try clear c1
      try clear p2
      try clear c3
      try clear c3b0
      try clear c3b1
      try clear c3b2
      obtain ⟨x5_1, rfl, HA, HK1, ⟨m1, rfl⟩⟩ := hrel
      cases gk with
      | zero => exact absurd HA.out (by simp [quireref01_SameTexts.l0])
      | succ k1 =>
        have H := HA.out
        clear HA
        simp only [quireref01_SameTexts.l0] at H
        by_cases c4 : x5_1 < (l0.length : Int)
        · rw [if_pos c4] at H
          have c4b0 : decide (x5_1 < (l0.length : Int)) = true := decide_eq_true c4
          clear c4
          by_cases c5 : 0 ≤ x5_1
          · rw [if_pos c5] at H
            have c5b0 : decide (0 ≤ x5_1) = true := decide_eq_true c5
            clear c5
            by_cases c6 : x5_1 < (l1.length : Int)
            · rw [if_pos c6] at H
              have c6b0 : decide (x5_1 < (l1.length : Int)) = true := decide_eq_true c6
              clear c6
              by_cases c7 : (rdOf ByteArray.empty l0 x5_1).toList = (rdOf ByteArray.empty l1 x5_1).toList
              · rw [if_pos c7] at H
                have c7b0 : ((rdOf ByteArray.empty l0 x5_1).toList == (rdOf ByteArray.empty l1 x5_1).toList) = true := beq_iff_eq.mpr c7
                have c7b1 : ((rdOf ByteArray.empty l0 x5_1).toList != (rdOf ByteArray.empty l1 x5_1).toList) = false := bne_eq_false_iff_eq.mpr c7
                clear c7
                have H' := Aside0.mk H
                clear H
                have p153 : 0 ≤ (x5_1 : Int) := of_decide_eq_true (by first | (with_reducible assumption) | assumption)
                have q153 : x5_1 < (l0.length : Int) := of_decide_eq_true (by first | (with_reducible assumption) | assumption)
                obtain ⟨ad153, e153, hx153_0⟩ := Kd.at_string HR0.out x5_1 p153 q153
                cases e153
                replace p153 := eq_true p153
                replace q153 := eq_true q153
                have p154 : 0 ≤ (x5_1 : Int) := of_decide_eq_true (by first | (with_reducible assumption) | assumption)
                have q154 : x5_1 < (l1.length : Int) := of_decide_eq_true (by first | (with_reducible assumption) | assumption)
                obtain ⟨ad154, e154, hx154_0⟩ := Kd.at_string HR1.out x5_1 p154 q154
                cases e154
                replace p154 := eq_true p154
                replace q154 := eq_true q154
                go_wp2
                repeat (go_quiet (fail); try go_wp2)
                go_roundg k1
                case measure => have := HK1.out; omega
                case rel => exact ⟨(wrap64 (x5_1 + 1)), (by first | rfl | (simp; done) | (simp [*]; done)), H', ⟨by have := HK1.out; omega⟩, by repeat (first | exact Drawn0.refl _ | apply Drawn0.step)⟩
              · rw [if_neg c7] at H
                have c7b0 : ((rdOf ByteArray.empty l0 x5_1).toList == (rdOf ByteArray.empty l1 x5_1).toList) = false := beq_eq_false_iff_ne.mpr c7
                have c7b1 : ((rdOf ByteArray.empty l0 x5_1).toList != (rdOf ByteArray.empty l1 x5_1).toList) = true := bne_iff_ne.mpr c7
                obtain rfl := Option.some.inj H
                have p153 : 0 ≤ (x5_1 : Int) := of_decide_eq_true (by first | (with_reducible assumption) | assumption)
                have q153 : x5_1 < (l0.length : Int) := of_decide_eq_true (by first | (with_reducible assumption) | assumption)
                obtain ⟨ad153, e153, hx153_0⟩ := Kd.at_string HR0.out x5_1 p153 q153
                cases e153
                replace p153 := eq_true p153
                replace q153 := eq_true q153
                have p154 : 0 ≤ (x5_1 : Int) := of_decide_eq_true (by first | (with_reducible assumption) | assumption)
                have q154 : x5_1 < (l1.length : Int) := of_decide_eq_true (by first | (with_reducible assumption) | assumption)
                obtain ⟨ad154, e154, hx154_0⟩ := Kd.at_string HR1.out x5_1 p154 q154
                cases e154
                replace p154 := eq_true p154
                replace q154 := eq_true q154
                go_wp2
                repeat (go_quiet (fail); try go_wp2)
                go_ret
                exact ⟨by first | rfl | (simp; done) | (simp [*]; done), by repeat (first | exact Drawn0.refl _ | apply Drawn0.step)⟩
            · rw [if_neg c6] at H
              exact absurd H (by simp)
          · rw [if_neg c5] at H
            exact absurd H (by simp)
        · rw [if_neg c4] at H
          have c4b0 : decide (x5_1 < (l0.length : Int)) = false := decide_eq_false c4
          clear c4
          obtain rfl := Option.some.inj H
          go_wp2
          repeat (go_quiet (fail); try go_wp2)
          go_ret
          exact ⟨by first | rfl | (simp; done) | (simp [*]; done), by repeat (first | exact Drawn0.refl _ | apply Drawn0.step)⟩
  · rw [if_neg c3] at H
    have c3b0 : ((l0.length : Int) == (l1.length : Int)) = false := beq_eq_false_iff_ne.mpr c3
    have c3b1 : ((l0.length : Int) != (l1.length : Int)) = true := bne_iff_ne.mpr c3
    have c3b2 : (l0.length == l1.length) = false := by first | simpa using c3 | (simp at c3 ⊢; omega)
    obtain rfl := Option.some.inj H
    go_enter Try.func12, Try.ntmps12
    go_wp2
    repeat (go_quiet (fail); try go_wp2)
    go_ret
    exact ⟨by first | rfl | (simp; done) | (simp [*]; done), by repeat (first | exact Drawn0.refl _ | apply Drawn0.step)⟩

-- NOT PRINTED: function 4 (quirelaw15_OrderTurns)

/-! ### quireref15_find: function 27 -/
noncomputable def quireref15_find.l0 : Nat → List (S33) → ByteArray → Int → Option (Int)
  | 0, _, _, _ => none
  | k + 1, x0, x1, x5 => if x5 < (x0.length : Int) then (if 0 ≤ x5 then (if ((rd_T33 x0 x5).f0).toList = x1.toList then (some x5) else (quireref15_find.l0 k x0 x1 (wrap64 (x5 + 1)))) else (none)) else (some (-1))
noncomputable def quireref15_find.f (k : Nat) (l0 : List (S33)) (a1 : ByteArray) : Option (Int) := quireref15_find.l0 k l0 a1 0
theorem quireref15_find.mono_l : ∀ k, (∀ y0 y1 y2, LeO (quireref15_find.l0 k y0 y1 y2) (quireref15_find.l0 (k + 1) y0 y1 y2))
  | 0 => fun _ _ _ r h => by simp [quireref15_find.l0] at h
  | k + 1 => by
    have ih0 := quireref15_find.mono_l k
    · intro y0 y1 y2
      unfold quireref15_find.l0
      repeat' first
      | (with_reducible exact ih0 _ _ _)
      | (with_reducible exact LeO.refl _)
      | (with_reducible exact LeO.none _)
      | (with_reducible refine LeO.ite ?_ ?_)
      | (with_reducible refine LeO.bind ?_ (fun _ => ?_))
      | exact ih0 _ _ _
      | exact LeO.none _
      | refine LeO.ite ?_ ?_
      | refine LeO.bind ?_ (fun _ => ?_)
theorem quireref15_find.mono : ∀ a0 a1 k, LeO (quireref15_find.f k a0 a1) (quireref15_find.f (k + 1) a0 a1) := by
  intro a0 a1 k
  have ih0 := quireref15_find.mono_l k
  unfold quireref15_find.f
  repeat' first
      | (with_reducible exact ih0 _ _ _)
      | (with_reducible exact LeO.refl _)
      | (with_reducible exact LeO.none _)
      | (with_reducible refine LeO.ite ?_ ?_)
      | (with_reducible refine LeO.bind ?_ (fun _ => ?_))
      | exact ih0 _ _ _
      | exact LeO.none _
      | refine LeO.ite ?_ ?_
      | refine LeO.bind ?_ (fun _ => ?_)
set_option maxHeartbeats 8000000 in
set_option maxRecDepth 100000 in
theorem quireref15_find.calls (k : Nat) (A0 : Option Addr) (c0 : Nat) (l0 : List (S33)) (a1 : ByteArray) (r : Int) (w : World) (hr0 : Kd.C k33 w A0 l0.length l0) (hc0 : l0.length ≤ c0) (h : quireref15_find.f k l0 a1 = some r) :
    Calls Try.prog 27 #[.slice A0 l0.length c0, .string a1] w fun e w' => e = .returned (.int .i64 r) ∧ Drawn0 w w' := by
  have HR0 := Aside0.mk hr0
  have HC0 := Aside0.mk hc0
  clear hr0 hc0
  have H : (quireref15_find.l0 k l0 a1 0) = some r := h
  clear h
  have H' := Aside0.mk H
  clear H
  go_enter Try.func27, Try.ntmps27
  go_wp2
  go_loopg [5] k (fun kq v5 w' => ∃ (x5_1 : Int), v5 = .int .i64 x5_1 ∧ Aside0 (quireref15_find.l0 kq l0 a1 x5_1 = some r) ∧ Aside0 (kq ≤ k) ∧ Drawn0 w w')
  case atStart => exact ⟨(0), (by first | rfl | (simp; done) | (simp [*]; done)), H', ⟨Nat.le_refl _⟩, by repeat (first | exact Drawn0.refl _ | apply Drawn0.step)⟩
  case round =>
    clear H'
    try clear c2
    try clear p2
    obtain ⟨x5_1, rfl, HA, HK1, ⟨m1, rfl⟩⟩ := hrel
    cases gk with
    | zero => exact absurd HA.out (by simp [quireref15_find.l0])
    | succ k1 =>
      have H := HA.out
      clear HA
      simp only [quireref15_find.l0] at H
      by_cases c3 : x5_1 < (l0.length : Int)
      · rw [if_pos c3] at H
        have c3b0 : decide (x5_1 < (l0.length : Int)) = true := decide_eq_true c3
        clear c3
        by_cases c4 : 0 ≤ x5_1
        · rw [if_pos c4] at H
          have c4b0 : decide (0 ≤ x5_1) = true := decide_eq_true c4
          clear c4
          by_cases c5 : ((rd_T33 l0 x5_1).f0).toList = a1.toList
          · rw [if_pos c5] at H
            have c5b0 : (((rd_T33 l0 x5_1).f0).toList == a1.toList) = true := beq_iff_eq.mpr c5
            have c5b1 : (((rd_T33 l0 x5_1).f0).toList != a1.toList) = false := bne_eq_false_iff_eq.mpr c5
            clear c5
            obtain rfl := Option.some.inj H
            have p171 : 0 ≤ (x5_1 : Int) := of_decide_eq_true (by first | (with_reducible assumption) | assumption)
            have q171 : x5_1 < (l0.length : Int) := of_decide_eq_true (by first | (with_reducible assumption) | assumption)
            obtain ⟨ad171, A171_1, c171_1, e171, hx171_0, hx171_1, hl171_1, hi171_1⟩ := at_T33 HR0.out x5_1 p171 q171
            cases e171
            have HR171_1 := Aside0.mk hi171_1
            have HC171_1 := Aside0.mk hl171_1
            clear hi171_1 hl171_1
            replace p171 := eq_true p171
            replace q171 := eq_true q171
            go_wp2
            go_ret
            exact ⟨by first | rfl | (simp; done) | (simp [*]; done), by repeat (first | exact Drawn0.refl _ | apply Drawn0.step)⟩
          · rw [if_neg c5] at H
            have c5b0 : (((rd_T33 l0 x5_1).f0).toList == a1.toList) = false := beq_eq_false_iff_ne.mpr c5
            have c5b1 : (((rd_T33 l0 x5_1).f0).toList != a1.toList) = true := bne_iff_ne.mpr c5
            have H' := Aside0.mk H
            clear H
            have p171 : 0 ≤ (x5_1 : Int) := of_decide_eq_true (by first | (with_reducible assumption) | assumption)
            have q171 : x5_1 < (l0.length : Int) := of_decide_eq_true (by first | (with_reducible assumption) | assumption)
            obtain ⟨ad171, A171_1, c171_1, e171, hx171_0, hx171_1, hl171_1, hi171_1⟩ := at_T33 HR0.out x5_1 p171 q171
            cases e171
            have HR171_1 := Aside0.mk hi171_1
            have HC171_1 := Aside0.mk hl171_1
            clear hi171_1 hl171_1
            replace p171 := eq_true p171
            replace q171 := eq_true q171
            go_wp2
            go_roundg k1
            case measure => have := HK1.out; omega
            case rel => exact ⟨(wrap64 (x5_1 + 1)), (by first | rfl | (simp; done) | (simp [*]; done)), H', ⟨by have := HK1.out; omega⟩, by repeat (first | exact Drawn0.refl _ | apply Drawn0.step)⟩
        · rw [if_neg c4] at H
          exact absurd H (by simp)
      · rw [if_neg c3] at H
        have c3b0 : decide (x5_1 < (l0.length : Int)) = false := decide_eq_false c3
        clear c3
        obtain rfl := Option.some.inj H
        go_wp2
        go_ret
        exact ⟨by first | rfl | (simp; done) | (simp [*]; done), by repeat (first | exact Drawn0.refl _ | apply Drawn0.step)⟩

/-! ### quireref15_has: function 28 -/
noncomputable def quireref15_has.l0 : Nat → List ByteArray → ByteArray → Int → Option (Bool)
  | 0, _, _, _ => none
  | k + 1, x0, x1, x5 => if x5 < (x0.length : Int) then (if 0 ≤ x5 then (if (rdOf ByteArray.empty x0 x5).toList = x1.toList then (some true) else (quireref15_has.l0 k x0 x1 (wrap64 (x5 + 1)))) else (none)) else (some false)
noncomputable def quireref15_has.f (k : Nat) (l0 : List ByteArray) (a1 : ByteArray) : Option (Bool) := quireref15_has.l0 k l0 a1 0
theorem quireref15_has.mono_l : ∀ k, (∀ y0 y1 y2, LeO (quireref15_has.l0 k y0 y1 y2) (quireref15_has.l0 (k + 1) y0 y1 y2))
  | 0 => fun _ _ _ r h => by simp [quireref15_has.l0] at h
  | k + 1 => by
    have ih0 := quireref15_has.mono_l k
    · intro y0 y1 y2
      unfold quireref15_has.l0
      repeat' first
      | (with_reducible exact ih0 _ _ _)
      | (with_reducible exact LeO.refl _)
      | (with_reducible exact LeO.none _)
      | (with_reducible refine LeO.ite ?_ ?_)
      | (with_reducible refine LeO.bind ?_ (fun _ => ?_))
      | exact ih0 _ _ _
      | exact LeO.none _
      | refine LeO.ite ?_ ?_
      | refine LeO.bind ?_ (fun _ => ?_)
theorem quireref15_has.mono : ∀ a0 a1 k, LeO (quireref15_has.f k a0 a1) (quireref15_has.f (k + 1) a0 a1) := by
  intro a0 a1 k
  have ih0 := quireref15_has.mono_l k
  unfold quireref15_has.f
  repeat' first
      | (with_reducible exact ih0 _ _ _)
      | (with_reducible exact LeO.refl _)
      | (with_reducible exact LeO.none _)
      | (with_reducible refine LeO.ite ?_ ?_)
      | (with_reducible refine LeO.bind ?_ (fun _ => ?_))
      | exact ih0 _ _ _
      | exact LeO.none _
      | refine LeO.ite ?_ ?_
      | refine LeO.bind ?_ (fun _ => ?_)
set_option maxHeartbeats 8000000 in
set_option maxRecDepth 100000 in
theorem quireref15_has.calls (k : Nat) (A0 : Option Addr) (c0 : Nat) (l0 : List ByteArray) (a1 : ByteArray) (r : Bool) (w : World) (hr0 : Kd.C Kd.string w A0 l0.length l0) (hc0 : l0.length ≤ c0) (h : quireref15_has.f k l0 a1 = some r) :
    Calls Try.prog 28 #[.slice A0 l0.length c0, .string a1] w fun e w' => e = .returned (.bool r) ∧ Drawn0 w w' := by
  have HR0 := Aside0.mk hr0
  have HC0 := Aside0.mk hc0
  clear hr0 hc0
  have H : (quireref15_has.l0 k l0 a1 0) = some r := h
  clear h
  have H' := Aside0.mk H
  clear H
  go_enter Try.func28, Try.ntmps28
  go_wp2
  go_loopg [5] k (fun kq v5 w' => ∃ (x5_1 : Int), v5 = .int .i64 x5_1 ∧ Aside0 (quireref15_has.l0 kq l0 a1 x5_1 = some r) ∧ Aside0 (kq ≤ k) ∧ Drawn0 w w')
  case atStart => exact ⟨(0), (by first | rfl | (simp; done) | (simp [*]; done)), H', ⟨Nat.le_refl _⟩, by repeat (first | exact Drawn0.refl _ | apply Drawn0.step)⟩
  case round =>
    clear H'
    try clear c2
    try clear p2
    obtain ⟨x5_1, rfl, HA, HK1, ⟨m1, rfl⟩⟩ := hrel
    cases gk with
    | zero => exact absurd HA.out (by simp [quireref15_has.l0])
    | succ k1 =>
      have H := HA.out
      clear HA
      simp only [quireref15_has.l0] at H
      by_cases c3 : x5_1 < (l0.length : Int)
      · rw [if_pos c3] at H
        have c3b0 : decide (x5_1 < (l0.length : Int)) = true := decide_eq_true c3
        clear c3
        by_cases c4 : 0 ≤ x5_1
        · rw [if_pos c4] at H
          have c4b0 : decide (0 ≤ x5_1) = true := decide_eq_true c4
          clear c4
          by_cases c5 : (rdOf ByteArray.empty l0 x5_1).toList = a1.toList
          · rw [if_pos c5] at H
            have c5b0 : ((rdOf ByteArray.empty l0 x5_1).toList == a1.toList) = true := beq_iff_eq.mpr c5
            have c5b1 : ((rdOf ByteArray.empty l0 x5_1).toList != a1.toList) = false := bne_eq_false_iff_eq.mpr c5
            clear c5
            obtain rfl := Option.some.inj H
            have p172 : 0 ≤ (x5_1 : Int) := of_decide_eq_true (by first | (with_reducible assumption) | assumption)
            have q172 : x5_1 < (l0.length : Int) := of_decide_eq_true (by first | (with_reducible assumption) | assumption)
            obtain ⟨ad172, e172, hx172_0⟩ := Kd.at_string HR0.out x5_1 p172 q172
            cases e172
            replace p172 := eq_true p172
            replace q172 := eq_true q172
            go_wp2
            go_ret
            exact ⟨by first | rfl | (simp; done) | (simp [*]; done), by repeat (first | exact Drawn0.refl _ | apply Drawn0.step)⟩
          · rw [if_neg c5] at H
            have c5b0 : ((rdOf ByteArray.empty l0 x5_1).toList == a1.toList) = false := beq_eq_false_iff_ne.mpr c5
            have c5b1 : ((rdOf ByteArray.empty l0 x5_1).toList != a1.toList) = true := bne_iff_ne.mpr c5
            have H' := Aside0.mk H
            clear H
            have p172 : 0 ≤ (x5_1 : Int) := of_decide_eq_true (by first | (with_reducible assumption) | assumption)
            have q172 : x5_1 < (l0.length : Int) := of_decide_eq_true (by first | (with_reducible assumption) | assumption)
            obtain ⟨ad172, e172, hx172_0⟩ := Kd.at_string HR0.out x5_1 p172 q172
            cases e172
            replace p172 := eq_true p172
            replace q172 := eq_true q172
            go_wp2
            go_roundg k1
            case measure => have := HK1.out; omega
            case rel => exact ⟨(wrap64 (x5_1 + 1)), (by first | rfl | (simp; done) | (simp [*]; done)), H', ⟨by have := HK1.out; omega⟩, by repeat (first | exact Drawn0.refl _ | apply Drawn0.step)⟩
        · rw [if_neg c4] at H
          exact absurd H (by simp)
      · rw [if_neg c3] at H
        have c3b0 : decide (x5_1 < (l0.length : Int)) = false := decide_eq_false c3
        clear c3
        obtain rfl := Option.some.inj H
        go_wp2
        go_ret
        exact ⟨by first | rfl | (simp; done) | (simp [*]; done), by repeat (first | exact Drawn0.refl _ | apply Drawn0.step)⟩

end Go.Proofs.Ytdllpgeagdckmaa.Q

-- Made by a program of this session (turnprint.py), after the manner of the kit's print.
namespace Go.Proofs.Ytdllpgeagdckmaa.Q
open Go.RowKit Go.Proofs.YtdllpgeagdckmaaW.PrintWords Go.Proofs.YtdllpgeagdckmaaW.PrintLast Go.Proofs.YtdllpgeagdckmaaW.PrintMore
attribute [local go_sem] max2_int min2_int max_two min_two max_three min_three max_four min_four   -- for this text's walks alone
set_option linter.unusedVariables false
set_option linter.unusedSimpArgs false

/-! ### quirelaw15_own: function 10 -/
noncomputable def quirelaw15_own.f (l0 : List ByteArray) : Option (List ByteArray) := (some (([] : List ByteArray) : List ByteArray)).bind fun y112 => (if y112.length + l0.length < 8796093022208 then (some (y112 ++ l0)) else (none))
set_option maxHeartbeats 8000000 in
set_option maxRecDepth 100000 in
theorem quirelaw15_own.calls (A0 : Option Addr) (c0 : Nat) (l0 : List ByteArray) (r : List ByteArray) (w : World) (hr0 : Kd.C Kd.string w A0 l0.length l0) (hc0 : l0.length ≤ c0) (h : quirelaw15_own.f l0 = some r) :
    Calls Try.prog 10 #[.slice A0 l0.length c0] w fun e w' => ∃ v0_ : Value, e = .returned (v0_) ∧ Kd.R Kd.string 9 w' w.heap.size (fun _ => True) v0_ r ∧ Below w.heap.size w w' := by
  have HR0 := Aside0.mk hr0
  have HC0 := Aside0.mk hc0
  clear hr0 hc0
  have HB := Aside0.mk (Below.refl w.heap.size w)
  have H : ((some (([] : List ByteArray) : List ByteArray)).bind fun y112 => (if y112.length + l0.length < 8796093022208 then (some (y112 ++ l0)) else (none))) = some r := h
  clear h
  obtain ⟨y112, hy112⟩ : ∃ y_ : List ByteArray, y_ = (([] : List ByteArray)) := ⟨_, rfl⟩
  replace H : (if y112.length + l0.length < 8796093022208 then (some (y112 ++ l0)) else (none)) = some r := by first | (rw [hy112]; with_reducible exact H) | (have H2_ := (Option.bind_some _ _).symm.trans H; rw [hy112]; with_reducible exact H2_) | (have H2_ := (Option.bind_some _ _).symm.trans H; with_reducible exact H2_) | with_reducible exact H | (rw [hy112]; exact H) | exact H
  have Ny112 := Aside0.mk hy112
  clear hy112
  by_cases c2 : y112.length + l0.length < 8796093022208
  · rw [if_pos c2] at H
    have LMc2 := Aside0.mk c2
    clear c2
    obtain ⟨y115, hy115⟩ : ∃ y_ : List ByteArray, y_ = (y112 ++ l0) := ⟨_, rfl⟩
    replace H : (some y115) = some r := by first | (rw [hy115]; with_reducible exact H) | (have H2_ := (Option.bind_some _ _).symm.trans H; rw [hy115]; with_reducible exact H2_) | (have H2_ := (Option.bind_some _ _).symm.trans H; with_reducible exact H2_) | with_reducible exact H | (rw [hy115]; exact H) | exact H
    have Ny115 := Aside0.mk hy115
    clear hy115
    obtain rfl := Option.some.inj H
    go_enter Try.func10, Try.ntmps10
    go_wp2_with (first | ((with_reducible refine gate_dst (N := 3) rfl ?_); refine Kd.R_lit Kd.string _ 9 ?hg (N := 3) ?hd (xs := ([] : List ByteArray)) (inner := []) (ok := fun _ => True) (okp := fun _ => True) ?hr ?hp (fun _ hk => hk) trivial (Below.refl _ _) (Nat.le_refl _) (by simp) ?_; (case hd => rfl); (case hg => rfl); (case hr => first | (go_simp; done) | (go_simp; rfl)); (case hp => exact (Reps.none _ _)); intro v113 w3 ho4 hb hg_ hnew_; clear hg_ hnew_; (first | rw [← Ny112.out] at ho4 | (simp only [Int.reduceToNat] at ho4; rw [← Ny112.out] at ho4)); have n0_ := Aside0.mk (Kd.R_lower ho4 (below_size (by repeat (first | (with_reducible first | exact HB.out | apply below_alloc | apply pw_below_drewN | apply below_drew1) | exact HB.out)))); have n1_ := Aside0.mk (below_step (by repeat (first | (with_reducible first | exact HB.out | apply below_alloc | apply pw_below_drewN | apply below_drew1) | exact HB.out)) hb); clear HB; have HO114 := n0_; have HB := n1_; clear n0_ n1_; clear hb ho4) | ((with_reducible refine gate_builtin (b := .append) (xs := #[.tmp 3, .tmp 4]) rfl ?_); at_builtin; refine Kd.R_append_rows Kd.string (w0 := w) w.heap.size rfl (.tmp 3) (.tmp 4) 23 9 (.string ⟨#[]⟩) 16 rfl Try.underlying23 info9 rfl (by decide) (by omega) v113 y112 l0 _ _ _ (fun _ => True) (fun _ => False) rfl rfl ?aO ?aR (fun _ _ h => h) (fun _ h => h.elim) ?aF ?aB ?aS ?aL ?_; (case aR => repeat (first | exact (Kd.C_below HR0.out HB.out) | (with_reducible refine Kd.C_alloc ?_ _) | (with_reducible refine Kd.C_drewN ?_ _) | (with_reducible refine Kd.C_drew ?_))); (case aB => exact (by repeat (first | (with_reducible first | exact HB.out | apply below_alloc | apply pw_below_drewN | apply below_drew1) | exact HB.out))); (case aF => exact (fun _ _ => trivial)); (case aO => exact (by (with_reducible repeat (first | apply Kd.R_alloc | apply Kd.R_drewN | apply Kd.R_drew)); exact HO114.out)); (case aS => exact (below_size (by repeat (first | (with_reducible first | exact HB.out | apply below_alloc | apply pw_below_drewN | apply below_drew1) | exact HB.out)))); (case aL => have := LMc2.out; omega); intro v116 w5 ho hb hg hat; rw [← Ny115.out] at ho; have n0_ := Aside0.mk (hb); have n1_ := Aside0.mk (ho); clear HB; clear HO114; have HB := n0_; have HO117 := n1_; clear n0_ n1_; clear ho hb hg hat))
    go_ret
    exact ⟨_, by first | rfl | (simp [errW_none, errW_some] <;> rfl) | (simp [*, errW_none, errW_some] <;> rfl), by (with_reducible repeat (first | apply Kd.R_alloc | apply Kd.R_drewN | apply Kd.R_drew)); exact HO117.out, by repeat (first | (with_reducible first | exact HB.out | apply below_alloc | apply pw_below_drewN | apply below_drew1) | exact HB.out)⟩
  · rw [if_neg c2] at H
    exact absurd H (by simp)

/-! ### quirelaw15_at: function 11 -/
noncomputable def quirelaw15_at.l0 : Nat → List ByteArray → ByteArray → Int → Option (Int)
  | 0, _, _, _ => none
  | k + 1, x0, x1, x5 => if x5 < (x0.length : Int) then (if 0 ≤ x5 then (if (rdOf ByteArray.empty x0 x5).toList = x1.toList then (some x5) else (quirelaw15_at.l0 k x0 x1 (wrap64 (x5 + 1)))) else (none)) else (some (-1))
noncomputable def quirelaw15_at.f (k : Nat) (l0 : List ByteArray) (a1 : ByteArray) : Option (Int) := quirelaw15_at.l0 k l0 a1 0
theorem quirelaw15_at.mono_l : ∀ k, (∀ y0 y1 y2, LeO (quirelaw15_at.l0 k y0 y1 y2) (quirelaw15_at.l0 (k + 1) y0 y1 y2))
  | 0 => fun _ _ _ r h => by simp [quirelaw15_at.l0] at h
  | k + 1 => by
    have ih0 := quirelaw15_at.mono_l k
    · intro y0 y1 y2
      unfold quirelaw15_at.l0
      repeat' first
      | (with_reducible exact ih0 _ _ _)
      | (with_reducible exact LeO.refl _)
      | (with_reducible exact LeO.none _)
      | (with_reducible refine LeO.ite ?_ ?_)
      | (with_reducible refine LeO.bind ?_ (fun _ => ?_))
      | exact ih0 _ _ _
      | exact LeO.none _
      | refine LeO.ite ?_ ?_
      | refine LeO.bind ?_ (fun _ => ?_)
theorem quirelaw15_at.mono : ∀ a0 a1 k, LeO (quirelaw15_at.f k a0 a1) (quirelaw15_at.f (k + 1) a0 a1) := by
  intro a0 a1 k
  have ih0 := quirelaw15_at.mono_l k
  unfold quirelaw15_at.f
  repeat' first
      | (with_reducible exact ih0 _ _ _)
      | (with_reducible exact LeO.refl _)
      | (with_reducible exact LeO.none _)
      | (with_reducible refine LeO.ite ?_ ?_)
      | (with_reducible refine LeO.bind ?_ (fun _ => ?_))
      | exact ih0 _ _ _
      | exact LeO.none _
      | refine LeO.ite ?_ ?_
      | refine LeO.bind ?_ (fun _ => ?_)
set_option maxHeartbeats 8000000 in
set_option maxRecDepth 100000 in
theorem quirelaw15_at.calls (k : Nat) (A0 : Option Addr) (c0 : Nat) (l0 : List ByteArray) (a1 : ByteArray) (r : Int) (w : World) (hr0 : Kd.C Kd.string w A0 l0.length l0) (hc0 : l0.length ≤ c0) (h : quirelaw15_at.f k l0 a1 = some r) :
    Calls Try.prog 11 #[.slice A0 l0.length c0, .string a1] w fun e w' => e = .returned (.int .i64 r) ∧ Drawn0 w w' := by
  have HR0 := Aside0.mk hr0
  have HC0 := Aside0.mk hc0
  clear hr0 hc0
  have H : (quirelaw15_at.l0 k l0 a1 0) = some r := h
  clear h
  have H' := Aside0.mk H
  clear H
  go_enter Try.func11, Try.ntmps11
  go_wp2
  go_loopg [5] k (fun kq v5 w' => ∃ (x5_1 : Int), v5 = .int .i64 x5_1 ∧ Aside0 (quirelaw15_at.l0 kq l0 a1 x5_1 = some r) ∧ Aside0 (kq ≤ k) ∧ Drawn0 w w')
  case atStart => exact ⟨(0), (by first | rfl | (simp; done) | (simp [*]; done)), H', ⟨Nat.le_refl _⟩, by repeat (first | exact Drawn0.refl _ | apply Drawn0.step)⟩
  case round =>
    clear H'
    try clear c1
    try clear p2
    obtain ⟨x5_1, rfl, HA, HK1, ⟨m1, rfl⟩⟩ := hrel
    cases gk with
    | zero => exact absurd HA.out (by simp [quirelaw15_at.l0])
    | succ k1 =>
      have H := HA.out
      clear HA
      simp only [quirelaw15_at.l0] at H
      by_cases c3 : x5_1 < (l0.length : Int)
      · rw [if_pos c3] at H
        have c3b0 : decide (x5_1 < (l0.length : Int)) = true := decide_eq_true c3
        clear c3
        by_cases c4 : 0 ≤ x5_1
        · rw [if_pos c4] at H
          have c4b0 : decide (0 ≤ x5_1) = true := decide_eq_true c4
          clear c4
          by_cases c5 : (rdOf ByteArray.empty l0 x5_1).toList = a1.toList
          · rw [if_pos c5] at H
            have c5b0 : ((rdOf ByteArray.empty l0 x5_1).toList == a1.toList) = true := beq_iff_eq.mpr c5
            have c5b1 : ((rdOf ByteArray.empty l0 x5_1).toList != a1.toList) = false := bne_eq_false_iff_eq.mpr c5
            clear c5
            obtain rfl := Option.some.inj H
            have p118 : 0 ≤ (x5_1 : Int) := of_decide_eq_true (by first | (with_reducible assumption) | assumption)
            have q118 : x5_1 < (l0.length : Int) := of_decide_eq_true (by first | (with_reducible assumption) | assumption)
            obtain ⟨ad118, e118, hx118_0⟩ := Kd.at_string HR0.out x5_1 p118 q118
            cases e118
            replace p118 := eq_true p118
            replace q118 := eq_true q118
            go_wp2
            go_ret
            exact ⟨by first | rfl | (simp; done) | (simp [*]; done), by repeat (first | exact Drawn0.refl _ | apply Drawn0.step)⟩
          · rw [if_neg c5] at H
            have c5b0 : ((rdOf ByteArray.empty l0 x5_1).toList == a1.toList) = false := beq_eq_false_iff_ne.mpr c5
            have c5b1 : ((rdOf ByteArray.empty l0 x5_1).toList != a1.toList) = true := bne_iff_ne.mpr c5
            have H' := Aside0.mk H
            clear H
            have p118 : 0 ≤ (x5_1 : Int) := of_decide_eq_true (by first | (with_reducible assumption) | assumption)
            have q118 : x5_1 < (l0.length : Int) := of_decide_eq_true (by first | (with_reducible assumption) | assumption)
            obtain ⟨ad118, e118, hx118_0⟩ := Kd.at_string HR0.out x5_1 p118 q118
            cases e118
            replace p118 := eq_true p118
            replace q118 := eq_true q118
            go_wp2
            go_roundg k1
            case measure => have := HK1.out; omega
            case rel => exact ⟨(wrap64 (x5_1 + 1)), (by first | rfl | (simp; done) | (simp [*]; done)), H', ⟨by have := HK1.out; omega⟩, by repeat (first | exact Drawn0.refl _ | apply Drawn0.step)⟩
        · rw [if_neg c4] at H
          exact absurd H (by simp)
      · rw [if_neg c3] at H
        have c3b0 : decide (x5_1 < (l0.length : Int)) = false := decide_eq_false c3
        clear c3
        obtain rfl := Option.some.inj H
        go_wp2
        go_ret
        exact ⟨by first | rfl | (simp; done) | (simp [*]; done), by repeat (first | exact Drawn0.refl _ | apply Drawn0.step)⟩

end Go.Proofs.Ytdllpgeagdckmaa.Q

/- OrderTurns: the same order, whichever way the lists are turned. -/
namespace Go.Proofs.Ytdllpgeagdckmaa.Q
open Go.RowKit Go.Proofs.YtdllpgeagdckmaaW.PrintWords Go.Proofs.YtdllpgeagdckmaaW.PrintLast Go.Proofs.YtdllpgeagdckmaaW.PrintMore Go.Proofs.Ytdllpgeagdckmaa.MapKit Go.Maps Go.Proofs.Ytdllpgeagdckmaa.Ord
attribute [local go_sem] max2_int min2_int max_two min_two max_three min_three max_four min_four
set_option linter.unusedVariables false
set_option linter.unusedSimpArgs false

/-- Elements as they read in a world that is fixed. -/
def kfix {α : Type} (d : Kd α) (w0 : World) : Kd α where
  sz := d.sz
  E := []
  K := fun _ x cs => d.K w0 x cs
  M := fun _ _ _ x cs => d.K w0 x cs
  K_len := fun h => d.K_len h
  K_one := fun h => d.K_one h
  K_below := fun _ h => h
  K_of_M := fun h => h
  M_mono := fun _ h => h
  M_bound := fun h => h
  M_move := fun _ h => h
  M_lower := fun _ h => h
theorem kfix_C {α : Type} {d : Kd α} {w0 w : World} {A : Option Addr} {n : Nat} {xs : List α} (h : (kfix d w0).C w A n xs) (hb : Below w0.heap.size w0 w) : d.C w A n xs :=
  ReadsRow.imp_ h (Below.refl _ _) (fun _ _ hp => d.K_below hb hp)

theorem kfix_reads {w w' : World} {base n c : Nat} {ok : Nat → Prop} {A : Option Addr} {l : List S33} (h : (kfix k33 w).R 33 w' base ok (.slice A n c) l) (hb : Below w.heap.size w w') : l.length ≤ c ∧ k33.C w' A l.length l := by
  obtain ⟨A', c', he, hl, hC⟩ := Kd.R_reads h
  injection he with h1 h2 h3
  subst h1 h2 h3
  exact ⟨hl, kfix_C hC hb⟩
theorem own_all {l : List ByteArray} (h : l.length ≤ 3000000) : quirelaw15_own.f l = some l := by
  unfold quirelaw15_own.f
  rw [Option.bind_some, if_pos (by simp; omega)]
  rfl
theorem vocabs_all {l : List S33} (hN : l.length ≤ 3000000) (hU : ∀ v ∈ l, v.f1.length ≤ 3000000) : quirelaw15_vocabs.f l = some (l.map conv) := by
  unfold quirelaw15_vocabs.f
  rw [if_pos ⟨hN, hU⟩]

set_option maxHeartbeats 1000000 in
set_option maxRecDepth 100000 in
theorem turns_walk (w : World) (A0 : Option Addr) (c0 : Nat) (l0 : List S33) (h0 : k33.C w A0 l0.length l0) (hc0 : l0.length ≤ c0) (A1 : Option Addr) (c1 : Nat) (want : List ByteArray) (h1 : Kd.string.C w A1 want.length want) (hc1 : want.length ≤ c1)
    (A2 : Option Addr) (c2 : Nat) (hv : List ByteArray) (h2 : Kd.string.C w A2 hv.length hv) (hc2 : hv.length ≤ c2) (hN : l0.length ≤ 3000000) (hU : ∀ v ∈ l0, v.f1.length ≤ 3000000) (hW : want.length ≤ 3000000) (hH : hv.length ≤ 3000000)
    (r1 : List ByteArray) (r2 : ByteArray) (r3 : Int) (ho1 : order_Sort.f (l0.map conv) want hv = some (r1, r2, r3)) (ho2 : order_Sort.f (l0.reverse.map conv) (want.reverse ++ hv) hv = some (r1, r2, r3)) (k : Nat) (hst : quireref01_SameTexts.f k r1 r1 = some true) :
    Calls Try.prog 4 #[.slice A0 l0.length c0, .slice A1 want.length c1, .slice A2 hv.length c2] w fun e w' => e = .returned (.bool true) ∧ Below w.heap.size w w' := by
  have H0 := Aside0.mk h0
  have H1 := Aside0.mk h1
  have H2 := Aside0.mk h2
  have HU := Aside0.mk hU
  have HO1 := Aside0.mk ho1
  have HO2 := Aside0.mk ho2
  have HST := Aside0.mk hst
  have HC0 := Aside0.mk hc0
  have HC1 := Aside0.mk hc1
  have HC2 := Aside0.mk hc2
  clear h0 h1 h2 hU ho1 ho2 hst hc0 hc1 hc2
  go_enter Try.func4, Try.ntmps4
  go_wp2_with fail
  refine (quirelaw15_awake.calls true _ awake_true).mono ?_
  rintro e w1 ⟨rfl, hb1⟩
  have HB1 := Aside0.mk hb1
  clear hb1
  go_wp2_with fail
  refine (quirelaw15_vocabs.calls A0 c0 l0 _ w1 (Kd.C_below H0.out HB1.out) HC0.out (vocabs_all hN HU.out)).mono ?_
  rintro e w2 ⟨v, rfl, hs, hb⟩
  obtain ⟨Av, cv, rfl, hlv, hCv⟩ := Kd.R_reads (Kd.S_R hs)
  have HB2 := Aside0.mk (below_step HB1.out hb)
  have HCV := Aside0.mk hCv
  have HLV := Aside0.mk hlv
  clear hs hb hCv hlv
  go_wp2_with fail
  refine (quirelaw15_own.calls A1 c1 want _ w2 (Kd.C_below H1.out HB2.out) HC1.out (own_all hW)).mono ?_
  rintro e w3 ⟨v, rfl, hs, hb⟩
  obtain ⟨Aw, cw, rfl, hlw, hCw⟩ := Kd.R_reads hs
  have HB3 := Aside0.mk (below_step HB2.out hb)
  have HCW := Aside0.mk hCw
  have HLW := Aside0.mk hlw
  have HCV3 := Aside0.mk (Kd.C_below HCV.out hb)
  clear hs hb hCw hlw HCV
  go_wp2_with fail
  refine (quirelaw15_own.calls A2 c2 hv _ w3 (Kd.C_below H2.out HB3.out) HC2.out (own_all hH)).mono ?_
  rintro e w4 ⟨v, rfl, hs, hb⟩
  obtain ⟨Ah, ch, rfl, hlh, hCh⟩ := Kd.R_reads hs
  have HB4 := Aside0.mk (below_step HB3.out hb)
  have HCH := Aside0.mk hCh
  have HLH := Aside0.mk hlh
  have HCV4 := Aside0.mk (Kd.C_below HCV3.out hb)
  have HCW4 := Aside0.mk (Kd.C_below HCW.out hb)
  clear hs hb hCh hlh HCV3 HCW
  go_wp2_with fail
  have hcall := order_Sort.calls Av cv (l0.map conv) Aw cw want Ah ch hv r1 r2 r3 w4 HCV4.out HLV.out HCW4.out HLW.out HCH.out HLH.out HO1.out
  rw [List.length_map] at hcall
  refine hcall.mono ?_
  clear hcall
  rintro e w5 ⟨v7, rfl, hs, hb⟩
  obtain ⟨A7, c7, rfl, hl7, hC7⟩ := Kd.R_reads hs
  have HB5 := Aside0.mk (below_step HB4.out hb)
  have HC7 := Aside0.mk hC7
  have HL7 := Aside0.mk hl7
  clear hs hb hC7 hl7 HCV4 HCW4 HCH HLV HLW HLH HO1 HB1 HB2 HB3 HB4
  go_wp2_with fail
  have hN5 : (l0.length : Int) ≤ 3000000 := by omega
  go_loopg [10, 11] (l0.length + 1) (fun kq v10 v11 w' => ∃ j : Nat, v11 = .int .i64 ((j : Int) - 1) ∧ Aside0 (j ≤ l0.length) ∧ Aside0 (kq = j + 1) ∧ Aside0 ((kfix k33 w).R 33 w' w5.heap.size (fun _ => True) v10 (l0.drop j).reverse) ∧ Aside0 (Below w5.heap.size w5 w'))
  case atStart => exact ⟨l0.length, rfl, ⟨Nat.le_refl _⟩, ⟨rfl⟩, ⟨by rw [List.drop_length]; exact Kd.R_nil _ _ _ _ _⟩, ⟨Below.refl _ _⟩⟩
  obtain ⟨j, hv11, HJ, HK, HR, HBE⟩ := hrel
  have hj := HJ.out
  have hk := HK.out
  obtain ⟨A10, c10, hv10⟩ := Kd.R_slice HR.out
  obtain ⟨n10, hn10⟩ : ∃ n, n = (l0.drop j).reverse.length := ⟨_, rfl⟩
  rw [← hn10] at hv10
  subst hv10
  have HN10 := Aside0.mk hn10
  clear hn10
  rcases Nat.eq_zero_or_pos j with hj0 | hj0
  · subst hv11
    subst hj0
    have hz : decide ((0 : Int) ≤ ((0 : Nat) : Int) - 1) = false := rfl
    have hRT := HR.out
    rw [List.drop_zero] at hRT
    have hn10 : n10 = l0.length := by have := HN10.out; simpa using this
    subst hn10
    have HRT := Aside0.mk hRT
    clear hRT HR HN10 hj hk
    obtain ⟨wA, rfl⟩ : ∃ x, x = wr := ⟨_, rfl⟩
    go_wp2_with fail
    have hW5 : (want.length : Int) ≤ 3000000 := by omega
    go_loopg [12, 13] (want.length + 1) (fun kq v12 v13 w' => ∃ j : Nat, v13 = .int .i64 ((j : Int) - 1) ∧ Aside0 (j ≤ want.length) ∧ Aside0 (kq = j + 1) ∧ Aside0 (SRow w' wA.heap.size v12 (want.drop j).reverse) ∧ Aside0 (Below wA.heap.size wA w'))
    case atStart => exact ⟨want.length, rfl, ⟨Nat.le_refl _⟩, ⟨rfl⟩, ⟨by rw [List.drop_length]; exact SRow.nil _ _⟩, ⟨Below.refl _ _⟩⟩
    obtain ⟨j, hv13, HJ2, HK2, HR2, HBE2⟩ := hrel
    have hj2 := HJ2.out
    have hk2 := HK2.out
    obtain ⟨A12, c12, hv12⟩ := HR2.out.shape
    obtain ⟨n12, hn12⟩ : ∃ n, n = (want.drop j).reverse.length := ⟨_, rfl⟩
    rw [← hn12] at hv12
    subst hv12
    have HN12 := Aside0.mk hn12
    clear hn12
    rcases Nat.eq_zero_or_pos j with hj0 | hj0
    · subst hv13
      subst hj0
      have hz2 : decide ((0 : Int) ≤ ((0 : Nat) : Int) - 1) = false := rfl
      have hRT2 := HR2.out
      rw [List.drop_zero] at hRT2
      have hn12 : n12 = want.reverse.length := by have := HN12.out; simpa using this
      have HRT2 := Aside0.mk hRT2
      have HN13 := Aside0.mk hn12
      clear hRT2 HR2 HN12 hj2 hk2 hn12
      have hBw : Below w.heap.size w wr := below_step (below_step HB5.out HBE.out) HBE2.out
      have HBW := Aside0.mk hBw
      have HCh := Aside0.mk (Kd.C_below H2.out hBw)
      have hl14 : want.reverse.length + hv.length ≤ 8000000 := by simp; omega
      have HL14 := Aside0.mk hl14
      have hn12 := HN13.out
      subst hn12
      clear hBw hl14 HN13
      go_wp2_with (at_builtin; refine srow_appendAll wA.heap.size rfl (.tmp 58) (.tmp 59) rfl (v := .slice A12 want.reverse.length c12) (xs := want.reverse) (ys := hv) (A := A2) (c := c2) rfl rfl HRT2.out HCh.out HL14.out HBE2.out.size ?_; intro A14 c14 w6 hr6 hg6 hat6; obtain ⟨n14, hn14⟩ : ∃ n, n = want.reverse.length + hv.length := ⟨_, rfl⟩; rw [← hn14] at hr6 ⊢; have HN14 := Aside0.mk hn14; have HR6 := Aside0.mk hr6; have HB6 := Aside0.mk (pw_below_grown HBE2.out _ HBE2.out.size hg6 (fun k e => HRT2.out.base_le k e)); clear hr6 hg6 hat6 hn14)
      have HBw6 := Aside0.mk (below_step (below_step HB5.out HBE.out) HB6.out)
      have hkr := kfix_reads (Kd.R_below HRT.out HB6.out) HBw6.out
      have HKR := Aside0.mk hkr
      have hcall := quirelaw15_vocabs.calls A10 c10 l0.reverse _ w6 hkr.2 hkr.1 (vocabs_all (by simpa using hN) (fun v hv1 => HU.out v (by simpa using hv1)))
      rw [List.length_reverse] at hcall
      refine hcall.mono ?_
      clear hcall hkr
      rintro e w7 ⟨v, rfl, hs, hb⟩
      obtain ⟨Av2, cv2, rfl, hlv, hCv⟩ := Kd.R_reads (Kd.S_R hs)
      have HB7 := Aside0.mk (below_step HBw6.out hb)
      have HCV := Aside0.mk hCv
      have HLV := Aside0.mk hlv
      have HR7 := Aside0.mk (HR6.out.below hb)
      have HB67 := Aside0.mk (below_step HB6.out hb)
      clear hs hb hCv hlv
      go_wp2_with fail
      refine (quirelaw15_own.calls A2 c2 hv _ w7 (Kd.C_below H2.out HB7.out) HC2.out (own_all hH)).mono ?_
      rintro e w8 ⟨v, rfl, hs, hb⟩
      obtain ⟨Ah2, ch2, rfl, hlh, hCh⟩ := Kd.R_reads hs
      have HB8 := Aside0.mk (below_step HB7.out hb)
      have HCH := Aside0.mk hCh
      have HLH := Aside0.mk hlh
      have HCV8 := Aside0.mk (Kd.C_below HCV.out hb)
      have HR8 := Aside0.mk (HR7.out.below hb)
      have HB68 := Aside0.mk (below_step HB67.out hb)
      clear hs hb hCh hlh HCV
      go_wp2_with fail
      obtain ⟨A14', c14', he14, hl14, hC14⟩ := HR8.out.reads
      have e14 : (want.reverse ++ hv).length = n14 := by rw [HN14.out, List.length_append]
      have hcall := order_Sort.calls Av2 cv2 (l0.reverse.map conv) A14' c14' (want.reverse ++ hv) Ah2 ch2 hv r1 r2 r3 w8 HCV8.out HLV.out hC14 hl14 HCH.out HLH.out HO2.out
      rw [e14, List.length_map, List.length_reverse] at hcall
      rw [e14] at he14
      injection he14 with e1 e2 e3
      subst e1 e3
      refine hcall.mono ?_
      clear hcall
      rintro e w9 ⟨v9, rfl, hs, hb⟩
      obtain ⟨A9, c9, rfl, hl9, hC9⟩ := Kd.R_reads hs
      have HB9 := Aside0.mk (below_step HB8.out hb)
      have HC9 := Aside0.mk hC9
      have HL9 := Aside0.mk hl9
      have HC79 := Aside0.mk (Kd.C_below HC7.out (below_step (below_step HBE.out HB68.out) hb))
      clear hs hb hC9 hl9 hl14 hC14
      go_wp2_with fail
      refine (quireref01_SameTexts.calls k A7 c7 r1 A9 c9 r1 true w9 HC79.out HL7.out HC9.out HL9.out HST.out).mono ?_
      rintro e w10 ⟨rfl, nd, rfl⟩
      go_wp2_with fail
      go_ret
      exact ⟨by simp, pw_below_drewN HB9.out nd⟩
    · obtain ⟨i, rfl⟩ : ∃ i, j = i + 1 := ⟨j - 1, by omega⟩
      rw [show ((i + 1 : Nat) : Int) - 1 = (i : Int) by omega] at hv13
      subst hv13
      obtain ⟨k2, rfl⟩ : ∃ k2, gk = k2 + 1 := ⟨gk - 1, by omega⟩
      obtain ⟨ad, rfl, z0⟩ := name_at H1.out i (by omega)
      obtain ⟨u, hu⟩ : ∃ u, u = want[i] := ⟨_, rfl⟩
      rw [← hu] at z0
      have x0 := pw_cell_below (below_step (below_step HB5.out HBE.out) HBE2.out) z0
      have hdr : (want.drop i).reverse = (want.drop (i + 1)).reverse ++ [u] := by rw [List.drop_eq_getElem_cons (show i < want.length by omega), List.reverse_cons, ← hu]
      have HDR := Aside0.mk hdr
      have hi1 : (i : Int) < (want.length : Int) := by omega
      have hi0 : (0 : Int) ≤ (i : Int) := by omega
      have hlen : (want.drop (i + 1)).reverse.length ≤ 8000000 := by simp; omega
      have HLEN := Aside0.mk hlen
      clear hu hdr z0 hlen hj2 hk2
      go_wp2_with (at_builtin; refine srow_append wA.heap.size rfl (.tmp 51) (.tmp 56) rfl (v := .slice A12 n12 c12) (xs := (want.drop (i + 1)).reverse) rfl u rfl HR2.out HLEN.out HBE2.out.size ?_; intro A6 c6 w6 hr6 hg6 hat6; obtain ⟨n6, hn6⟩ : ∃ n, n = (want.drop (i + 1)).reverse.length + 1 := ⟨_, rfl⟩; rw [← hn6] at hr6 ⊢; rw [← HDR.out] at hr6; have HR6 := Aside0.mk hr6; have HB6 := Aside0.mk (pw_below_grown HBE2.out _ HBE2.out.size hg6 (fun k e => HR2.out.base_le k e)); clear hr6 hg6 hat6 hn6)
      go_roundg k2
      case measure => have := HK2.out; omega
      case rel => exact ⟨i, rfl, ⟨by omega⟩, ⟨by have := HK2.out; omega⟩, HR6, HB6⟩
  · obtain ⟨i, rfl⟩ : ∃ i, j = i + 1 := ⟨j - 1, by omega⟩
    rw [show ((i + 1 : Nat) : Int) - 1 = (i : Int) by omega] at hv11
    subst hv11
    obtain ⟨k1, rfl⟩ : ∃ k1, gk = k1 + 1 := ⟨gk - 1, by omega⟩
    obtain ⟨ad, A1', c1', rfl, z0, z1, hcl, hCl⟩ := voc33_at H0.out i (by omega)
    obtain ⟨u, hu⟩ : ∃ u, u = l0[i] := ⟨_, rfl⟩
    rw [← hu] at z0 z1 hcl hCl
    have HM := Aside0.mk (k33_mk w u hcl hCl)
    have hBw : Below w.heap.size w wr := below_step HB5.out HBE.out
    have x0 := pw_cell_below hBw z0
    have x1 := pw_cell_below hBw z1
    have hdr : (l0.drop i).reverse = (l0.drop (i + 1)).reverse ++ [u] := by rw [List.drop_eq_getElem_cons (show i < l0.length by omega), List.reverse_cons, ← hu]
    have HDR := Aside0.mk hdr
    have hi1 : (i : Int) < (l0.length : Int) := by omega
    have hi0 : (0 : Int) ≤ (i : Int) := by omega
    have hlen : ((l0.drop (i + 1)).reverse.length + 1) * 40 ≤ 140737488355328 := by simp; omega
    have HLEN := Aside0.mk hlen
    clear hcl hCl hu hdr hBw z0 z1 hlen hj hk
    go_wp2_with (at_builtin; refine Kd.R_append (kfix k33 w) (w0 := w5) w5.heap.size rfl (.tmp 37) (.tmp 42) 22 33 (.agg #[(.string ⟨#[]⟩), (.slice none 0 0)]) 40 rfl Try.underlying22 info33 rfl (by show 0 < 2; omega) (by decide) (.slice A10 n10 c10) (l0.drop (i + 1)).reverse u [.string u.f0, .slice A1' u.f1.length c1'] (fun _ => True) (fun _ => False) rfl rfl HM.out (fun _ h => h.elim) (fun _ _ => trivial) HR.out HBE.out HBE.out.size HLEN.out ?_; intro v1 w6 hr6 hb6 hg6 hat6; rw [← HDR.out] at hr6; have HR6 := Aside0.mk hr6; have HB6 := Aside0.mk hb6; clear hr6 hb6 hg6 hat6)
    go_roundg k1
    case measure => have := HK.out; omega
    case rel => exact ⟨i, rfl, ⟨by omega⟩, ⟨by have := HK.out; omega⟩, HR6, HB6⟩

/-! ### The law -/
theorem same_l0 (l : List ByteArray) (hl : l.length ≤ 10000000) : ∀ n i : Nat, i + n = l.length → Ev (fun k => quireref01_SameTexts.l0 k l l (i : Int)) true
  | 0, i, hi => Ev.step (f := fun _ => some true) (fun k => by
      unfold quireref01_SameTexts.l0
      rw [if_neg (by omega)]) (Ev.now _)
  | n + 1, i, hi => by
    refine Ev.step (fun k => ?_) (same_l0 l hl n (i + 1) (by omega))
    conv => lhs; unfold quireref01_SameTexts.l0
    rw [if_pos (by omega), if_pos (by omega), if_pos (by omega), if_pos rfl, w64 (by omega) (by omega)]
    rfl
theorem same_ev (l : List ByteArray) (hl : l.length ≤ 10000000) : Ev (fun k => quireref01_SameTexts.f k l l) true :=
  Ev.congr (fun k => by unfold quireref01_SameTexts.f; rw [if_pos rfl]; rfl) (same_l0 l hl l.length 0 (by omega))
theorem sorts_length {l : List S41} {want hv : List ByteArray} {r1 : List ByteArray} {r2 : ByteArray} {r3 : Int} (hf : Fit l want hv) (h : SortsB l want hv (r1, r2, r3)) : r1.length ≤ 6000000 := by
  have h1 := hf.tot_
  have h2 := hf.want_
  unfold SortsB at h
  dsimp only at h
  cases h with
  | ok l h0 _ _ h => exact order_length h h2 h1
  | _ => simp

theorem orderTurns_holds (w : World) (A0 : Option Addr) (c0 : Nat) (l0 : List S33) (h0 : k33.C w A0 l0.length l0) (hc0 : l0.length ≤ c0) (q0 : ∀ v ∈ l0, Okv v)
    (A1 : Option Addr) (c1 : Nat) (l1 : List ByteArray) (h1 : Kd.string.C w A1 l1.length l1) (hc1 : l1.length ≤ c1) (q1 : ∀ p ∈ l1, p.size ≤ maxLen)
    (A2 : Option Addr) (c2 : Nat) (l2 : List ByteArray) (h2 : Kd.string.C w A2 l2.length l2) (hc2 : l2.length ≤ c2) (q2 : ∀ p ∈ l2, p.size ≤ maxLen)
    (hB : (l0.map wtv).sum + (l1.map (fun p => p.size + 1)).sum + (l2.map (fun p => p.size + 1)).sum ≤ 1048576) :
    Calls Try.prog 4 #[.slice A0 l0.length c0, .slice A1 l1.length c1, .slice A2 l2.length c2] w fun e w' => e = .returned (.bool true) ∧ Below w.heap.size w w' := by
  have h3 := vocs_sum l0
  have h4 := Opens.strs_length l1
  have h5 := Opens.strs_length l2
  have hf := fit_of q0 q1 q2 hB
  obtain ⟨r1, r2, r3, hs⟩ := sorts_exists totN noName (netOf (l0.map conv)) l1 l2
  have hl := sorts_length hf hs
  have hp : (netOf (l0.map conv)).Perm (netOf (l0.reverse.map conv)) := by
    rw [netOf_conv, netOf_conv, List.map_reverse]
    exact (List.reverse_perm _).symm
  have hs2 : SortsB (l0.reverse.map conv) (l1.reverse ++ l2) l2 (r1, r2, r3) := hs.turned hp (fun x hx => by simp [hx])
  have hf2 : Fit (l0.reverse.map conv) (l1.reverse ++ l2) l2 := by
    refine ⟨?_, by simp; omega, hf.hv_, fun v hv1 => hf.names v (by simpa using hv1), fun v hv1 => hf.uses v (by simpa using hv1), fun u hu => ?_, hf.havs⟩
    · have e : tot (netOf (l0.reverse.map conv)) = tot (netOf (l0.map conv)) := by
        have key : ∀ a b : Net ByteArray, a.Perm b → tot a = tot b := fun a b h => by
          induction h with
          | nil => rfl
          | cons x _ ih => simp only [tot, ih]
          | swap x y l => simp only [tot]; omega
          | trans _ _ ih1 ih2 => rw [ih1, ih2]
        exact (key _ _ hp).symm
      rw [e]
      exact hf.tot_
    · rcases List.mem_append.1 hu with hu | hu
      · exact hf.wants u (by simpa using hu)
      · exact hf.havs u hu
  obtain ⟨k, hk⟩ := (same_ev r1 (by omega)).rounds
  exact turns_walk w A0 c0 l0 h0 hc0 A1 c1 l1 h1 hc1 A2 c2 l2 h2 hc2 (by omega) (fun v hv1 => by have := h3.2.2 v hv1; omega) (by omega) (by omega) r1 r2 r3 (order_Sort.of hf hs) (order_Sort.of hf2 hs2) k hk
end Go.Proofs.Ytdllpgeagdckmaa.Q

-- Made by a program of this session (turnprint.py), after the manner of the kit's print.
namespace Go.Proofs.Ytdllpgeagdckmaa.Q
open Go.RowKit Go.Proofs.YtdllpgeagdckmaaW.PrintWords Go.Proofs.YtdllpgeagdckmaaW.PrintLast Go.Proofs.YtdllpgeagdckmaaW.PrintMore
attribute [local go_sem] max2_int min2_int max_two min_two max_three min_three max_four min_four   -- for this text's walks alone
set_option linter.unusedVariables false
set_option linter.unusedSimpArgs false

/-! ### quireref15_reached: function 26 -/
mutual
noncomputable def quireref15_reached.l0 : Nat → List (S33) → List ByteArray → List ByteArray → List ByteArray → Option (List ByteArray)
  | 0, _, _, _, _ => none
  | k + 1, x0, x2, x7, x8 => if (x8.length : Int) > 0 then (if 0 ≤ (wrap64 ((x8.length : Int) - 1)) then (if (wrap64 ((x8.length : Int) - 1)) < (x8.length : Int) then (if (wrap64 ((x8.length : Int) - 1)) ≤ (x8.length : Int) then ((some (x8.take ((wrap64 ((x8.length : Int) - 1)) : Int).toNat : List ByteArray)).bind fun y180 => ((quireref15_has.f k x2 (rdOf ByteArray.empty x8 (wrap64 ((x8.length : Int) - 1)))).bind fun t183 => (if t183 = true then (quireref15_reached.j1 k x0 x2 x7 y180 (rdOf ByteArray.empty x8 (wrap64 ((x8.length : Int) - 1))) true) else ((quireref15_has.f k x7 (rdOf ByteArray.empty x8 (wrap64 ((x8.length : Int) - 1)))).bind fun t184 => (quireref15_reached.j1 k x0 x2 x7 y180 (rdOf ByteArray.empty x8 (wrap64 ((x8.length : Int) - 1))) t184))))) else (none)) else (none)) else (none)) else (some x7)
noncomputable def quireref15_reached.j1 : Nat → List (S33) → List ByteArray → List ByteArray → List ByteArray → ByteArray → Bool → Option (List ByteArray)
  | 0, _, _, _, _, _, _ => none
  | k + 1, x0, x2, x7, x8, x9, x35 => if x35 = true then (quireref15_reached.l0 k x0 x2 x7 x8) else (if x7.length < 8796093022208 then ((some (x7 ++ [x9] : List ByteArray)).bind fun y185 => ((quireref15_find.f k x0 x9).bind fun t188 => (if t188 ≥ 0 then (if 0 ≤ t188 then (if t188 < (x0.length : Int) then (if x8.length + ((rd_T33 x0 t188).f1).length < 8796093022208 then (quireref15_reached.l0 k x0 x2 y185 (x8 ++ ((rd_T33 x0 t188).f1))) else (none)) else (none)) else (none)) else (quireref15_reached.l0 k x0 x2 y185 x8)))) else (none))
end
noncomputable def quireref15_reached.f (k : Nat) (l0 : List (S33)) (l1 : List ByteArray) (l2 : List ByteArray) : Option (List ByteArray) := (some (([] : List ByteArray) : List ByteArray)).bind fun y173 => (if y173.length + l1.length < 8796093022208 then (quireref15_reached.l0 k l0 l2 ([] : List ByteArray) (y173 ++ l1)) else (none))
theorem quireref15_reached.mono_l : ∀ k, (∀ y0 y1 y2 y3, LeO (quireref15_reached.l0 k y0 y1 y2 y3) (quireref15_reached.l0 (k + 1) y0 y1 y2 y3)) ∧ (∀ y0 y1 y2 y3 y4 y5, LeO (quireref15_reached.j1 k y0 y1 y2 y3 y4 y5) (quireref15_reached.j1 (k + 1) y0 y1 y2 y3 y4 y5))
  | 0 => ⟨fun _ _ _ _ r h => by simp [quireref15_reached.l0] at h, fun _ _ _ _ _ _ r h => by simp [quireref15_reached.j1] at h⟩
  | k + 1 => by
    obtain ⟨ih0, ih1⟩ := quireref15_reached.mono_l k
    refine ⟨?_, ?_⟩
    · intro y0 y1 y2 y3
      unfold quireref15_reached.l0
      repeat' first
      | (with_reducible exact ih0 _ _ _ _)
      | (with_reducible exact ih1 _ _ _ _ _ _)
      | (with_reducible exact quireref15_find.mono _ _ _)
      | (with_reducible exact quireref15_has.mono _ _ _)
      | (with_reducible exact LeO.refl _)
      | (with_reducible exact LeO.none _)
      | (with_reducible refine LeO.ite ?_ ?_)
      | (with_reducible refine LeO.bind ?_ (fun _ => ?_))
      | exact ih0 _ _ _ _
      | exact ih1 _ _ _ _ _ _
      | exact quireref15_find.mono _ _ _
      | exact quireref15_has.mono _ _ _
      | exact LeO.none _
      | refine LeO.ite ?_ ?_
      | refine LeO.bind ?_ (fun _ => ?_)
    · intro y0 y1 y2 y3 y4 y5
      unfold quireref15_reached.j1
      repeat' first
      | (with_reducible exact ih0 _ _ _ _)
      | (with_reducible exact ih1 _ _ _ _ _ _)
      | (with_reducible exact quireref15_find.mono _ _ _)
      | (with_reducible exact quireref15_has.mono _ _ _)
      | (with_reducible exact LeO.refl _)
      | (with_reducible exact LeO.none _)
      | (with_reducible refine LeO.ite ?_ ?_)
      | (with_reducible refine LeO.bind ?_ (fun _ => ?_))
      | exact ih0 _ _ _ _
      | exact ih1 _ _ _ _ _ _
      | exact quireref15_find.mono _ _ _
      | exact quireref15_has.mono _ _ _
      | exact LeO.none _
      | refine LeO.ite ?_ ?_
      | refine LeO.bind ?_ (fun _ => ?_)
theorem quireref15_reached.mono : ∀ a0 a1 a2 k, LeO (quireref15_reached.f k a0 a1 a2) (quireref15_reached.f (k + 1) a0 a1 a2) := by
  intro a0 a1 a2 k
  obtain ⟨ih0, ih1⟩ := quireref15_reached.mono_l k
  unfold quireref15_reached.f
  repeat' first
      | (with_reducible exact ih0 _ _ _ _)
      | (with_reducible exact ih1 _ _ _ _ _ _)
      | (with_reducible exact quireref15_find.mono _ _ _)
      | (with_reducible exact quireref15_has.mono _ _ _)
      | (with_reducible exact LeO.refl _)
      | (with_reducible exact LeO.none _)
      | (with_reducible refine LeO.ite ?_ ?_)
      | (with_reducible refine LeO.bind ?_ (fun _ => ?_))
      | exact ih0 _ _ _ _
      | exact ih1 _ _ _ _ _ _
      | exact quireref15_find.mono _ _ _
      | exact quireref15_has.mono _ _ _
      | exact LeO.none _
      | refine LeO.ite ?_ ?_
      | refine LeO.bind ?_ (fun _ => ?_)
set_option maxHeartbeats 8000000 in
set_option maxRecDepth 100000 in
theorem quireref15_reached.calls (k : Nat) (A0 : Option Addr) (c0 : Nat) (l0 : List (S33)) (A1 : Option Addr) (c1 : Nat) (l1 : List ByteArray) (A2 : Option Addr) (c2 : Nat) (l2 : List ByteArray) (r : List ByteArray) (w : World) (hr0 : Kd.C k33 w A0 l0.length l0) (hc0 : l0.length ≤ c0) (hr1 : Kd.C Kd.string w A1 l1.length l1) (hc1 : l1.length ≤ c1) (hr2 : Kd.C Kd.string w A2 l2.length l2) (hc2 : l2.length ≤ c2) (h : quireref15_reached.f k l0 l1 l2 = some r) :
    Calls Try.prog 26 #[.slice A0 l0.length c0, .slice A1 l1.length c1, .slice A2 l2.length c2] w fun e w' => ∃ v0_ : Value, e = .returned (v0_) ∧ Kd.R Kd.string 9 w' w.heap.size (fun _ => True) v0_ r ∧ Below w.heap.size w w' := by
  have HR0 := Aside0.mk hr0
  have HC0 := Aside0.mk hc0
  clear hr0 hc0
  have HR1 := Aside0.mk hr1
  have HC1 := Aside0.mk hc1
  clear hr1 hc1
  have HR2 := Aside0.mk hr2
  have HC2 := Aside0.mk hc2
  clear hr2 hc2
  have HB := Aside0.mk (Below.refl w.heap.size w)
  have H : ((some (([] : List ByteArray) : List ByteArray)).bind fun y173 => (if y173.length + l1.length < 8796093022208 then (quireref15_reached.l0 k l0 l2 ([] : List ByteArray) (y173 ++ l1)) else (none))) = some r := h
  clear h
  obtain ⟨y173, hy173⟩ : ∃ y_ : List ByteArray, y_ = (([] : List ByteArray)) := ⟨_, rfl⟩
  replace H : (if y173.length + l1.length < 8796093022208 then (quireref15_reached.l0 k l0 l2 ([] : List ByteArray) (y173 ++ l1)) else (none)) = some r := by first | (rw [hy173]; with_reducible exact H) | (have H2_ := (Option.bind_some _ _).symm.trans H; rw [hy173]; with_reducible exact H2_) | (have H2_ := (Option.bind_some _ _).symm.trans H; with_reducible exact H2_) | with_reducible exact H | (rw [hy173]; exact H) | exact H
  have Ny173 := Aside0.mk hy173
  clear hy173
  by_cases c4 : y173.length + l1.length < 8796093022208
  · rw [if_pos c4] at H
    have LMc4 := Aside0.mk c4
    clear c4
    obtain ⟨y176, hy176⟩ : ∃ y_ : List ByteArray, y_ = (y173 ++ l1) := ⟨_, rfl⟩
    replace H : (quireref15_reached.l0 k l0 l2 ([] : List ByteArray) y176) = some r := by first | (rw [hy176]; with_reducible exact H) | (have H2_ := (Option.bind_some _ _).symm.trans H; rw [hy176]; with_reducible exact H2_) | (have H2_ := (Option.bind_some _ _).symm.trans H; with_reducible exact H2_) | with_reducible exact H | (rw [hy176]; exact H) | exact H
    have Ny176 := Aside0.mk hy176
    clear hy176
    have H' := Aside0.mk H
    clear H
    go_enter Try.func26, Try.ntmps26
    go_wp2_with (first | ((with_reducible refine gate_dst (N := 11) rfl ?_); refine Kd.R_lit Kd.string _ 9 ?hg (N := 11) ?hd (xs := ([] : List ByteArray)) (inner := []) (ok := fun _ => True) (okp := fun _ => True) ?hr ?hp (fun _ hk => hk) trivial (Below.refl _ _) (Nat.le_refl _) (by simp) ?_; (case hd => rfl); (case hg => rfl); (case hr => first | (go_simp; done) | (go_simp; rfl)); (case hp => exact (Reps.none _ _)); intro v174 w5 ho6 hb hg_ hnew_; clear hg_ hnew_; (first | rw [← Ny173.out] at ho6 | (simp only [Int.reduceToNat] at ho6; rw [← Ny173.out] at ho6)); have n0_ := Aside0.mk (Kd.R_lower ho6 (below_size (by repeat (first | (with_reducible first | exact HB.out | apply below_alloc | apply pw_below_drewN | apply below_drew1) | exact HB.out)))); have n1_ := Aside0.mk (below_step (by repeat (first | (with_reducible first | exact HB.out | apply below_alloc | apply pw_below_drewN | apply below_drew1) | exact HB.out)) hb); clear HB; have HO175 := n0_; have HB := n1_; clear n0_ n1_; clear hb ho6) | ((with_reducible refine gate_builtin (b := .append) (xs := #[.tmp 11, .tmp 12]) rfl ?_); at_builtin; refine Kd.R_append_rows Kd.string (w0 := w) w.heap.size rfl (.tmp 11) (.tmp 12) 23 9 (.string ⟨#[]⟩) 16 rfl Try.underlying23 info9 rfl (by decide) (by omega) v174 y173 l1 _ _ _ (fun _ => True) (fun _ => False) rfl rfl ?aO ?aR (fun _ _ h => h) (fun _ h => h.elim) ?aF ?aB ?aS ?aL ?_; (case aR => repeat (first | exact (Kd.C_below HR1.out HB.out) | (with_reducible refine Kd.C_alloc ?_ _) | (with_reducible refine Kd.C_drewN ?_ _) | (with_reducible refine Kd.C_drew ?_))); (case aB => exact (by repeat (first | (with_reducible first | exact HB.out | apply below_alloc | apply pw_below_drewN | apply below_drew1) | exact HB.out))); (case aF => exact (fun _ _ => trivial)); (case aO => exact (by (with_reducible repeat (first | apply Kd.R_alloc | apply Kd.R_drewN | apply Kd.R_drew)); exact HO175.out)); (case aS => exact (below_size (by repeat (first | (with_reducible first | exact HB.out | apply below_alloc | apply pw_below_drewN | apply below_drew1) | exact HB.out)))); (case aL => have := LMc4.out; omega); intro v177 w7 ho hb hg hat; rw [← Ny176.out] at ho; have n0_ := Aside0.mk (hb); have n1_ := Aside0.mk (ho); clear HB; clear HO175; have HB := n0_; have HO178 := n1_; clear n0_ n1_; clear ho hb hg hat))
    go_loopg [7, 8] k (fun kq v7 v8 w' => ∃ (x7_1 : List ByteArray) (x8_1 : List ByteArray), Aside0 (quireref15_reached.l0 kq l0 l2 x7_1 x8_1 = some r) ∧ Aside0 (kq ≤ k) ∧ Aside0 (Kd.R Kd.string 9 w' w.heap.size (fun k_ => some k_ ≠ (v8 : Value).ownBlock) v7 x7_1) ∧ Aside0 (Kd.R Kd.string 9 w' w.heap.size (fun k_ => some k_ ≠ (v7 : Value).ownBlock) v8 x8_1) ∧ Aside0 (Below w.heap.size w w'))
    case atStart => exact ⟨(([] : List ByteArray)), (y176), H', ⟨Nat.le_refl _⟩, ⟨by first | exact Kd.R_nil _ _ _ _ _ | exact Kd.N_nil _ _ _ _ _ | exact Kd.V_nil _ _ _ _ _ | exact Kd.Q_nil _ _ _ _ _ | exact Kd.S_nil _ _ _ _ _⟩, ⟨by (with_reducible repeat (first | apply Kd.R_alloc | apply Kd.R_drewN | apply Kd.R_drew)); exact Kd.R_mono HO178.out (fun _ hk => (by simp [Value.ownBlock]))⟩, ⟨by repeat (first | (with_reducible first | exact HB.out | apply below_alloc | apply pw_below_drewN | apply below_drew1) | exact HB.out)⟩⟩
    case round =>
      clear H'
      try clear c1
      try clear c2
      try clear p2
      try clear c4
      obtain ⟨x7_1, x8_1, HA, HK1, HO_7, HO_8, HB⟩ := hrel
      cases gk with
      | zero => exact absurd HA.out (by simp [quireref15_reached.l0])
      | succ k1 =>
        have H := HA.out
        clear HA
        simp only [quireref15_reached.l0] at H
        by_cases c8 : (x8_1.length : Int) > 0
        · rw [if_pos c8] at H
          have c8b0 : decide (0 < (x8_1.length : Int)) = true := decide_eq_true c8
          have c8b1 : decide (0 < x8_1.length) = true := decide_eq_true (by omega)
          clear c8
          obtain ⟨ji9, hji9⟩ : ∃ j_ : Int, (wrap64 ((x8_1.length : Int) - 1)) = j_ := ⟨_, rfl⟩
          replace H : (if 0 ≤ (ji9) then (if (ji9) < (x8_1.length : Int) then (if (ji9) ≤ (x8_1.length : Int) then ((some (x8_1.take ((ji9) : Int).toNat : List ByteArray)).bind fun y180 => ((quireref15_has.f k1 l2 (rdOf ByteArray.empty x8_1 (ji9))).bind fun t183 => (if t183 = true then (quireref15_reached.j1 k1 l0 l2 x7_1 y180 (rdOf ByteArray.empty x8_1 (ji9)) true) else ((quireref15_has.f k1 x7_1 (rdOf ByteArray.empty x8_1 (ji9))).bind fun t184 => (quireref15_reached.j1 k1 l0 l2 x7_1 y180 (rdOf ByteArray.empty x8_1 (ji9)) t184))))) else (none)) else (none)) else (none)) = some r := by first | (rw [hji9] at H; exact H) | (simp only [hji9] at H ⊢; exact H)
          have hji9w : (IntKind.i64.wrap ((x8_1.length : Int) - 1)) = ji9 := (i64_w _).trans hji9
          by_cases c10 : 0 ≤ (ji9)
          · rw [if_pos c10] at H
            have c10b0 : decide (0 ≤ (ji9)) = true := decide_eq_true c10
            clear c10
            by_cases c11 : (ji9) < (x8_1.length : Int)
            · rw [if_pos c11] at H
              have c11b0 : decide ((ji9) < (x8_1.length : Int)) = true := decide_eq_true c11
              clear c11
              by_cases c12 : (ji9) ≤ (x8_1.length : Int)
              · rw [if_pos c12] at H
                have c12b0 := eq_true c12
                have c12b1 : decide ((ji9) ≤ (x8_1.length : Int)) = true := decide_eq_true c12
                clear c12
                obtain ⟨y180, hy180⟩ : ∃ y_ : List ByteArray, y_ = (x8_1.take ((ji9) : Int).toNat) := ⟨_, rfl⟩
                replace H : ((quireref15_has.f k1 l2 (rdOf ByteArray.empty x8_1 (ji9))).bind fun t183 => (if t183 = true then (quireref15_reached.j1 k1 l0 l2 x7_1 y180 (rdOf ByteArray.empty x8_1 (ji9)) true) else ((quireref15_has.f k1 x7_1 (rdOf ByteArray.empty x8_1 (ji9))).bind fun t184 => (quireref15_reached.j1 k1 l0 l2 x7_1 y180 (rdOf ByteArray.empty x8_1 (ji9)) t184)))) = some r := by first | (rw [hy180]; with_reducible exact H) | (have H2_ := (Option.bind_some _ _).symm.trans H; rw [hy180]; with_reducible exact H2_) | (have H2_ := (Option.bind_some _ _).symm.trans H; with_reducible exact H2_) | with_reducible exact H | (rw [hy180]; exact H) | exact H
                have Ny180 := Aside0.mk hy180
                clear hy180
                have HC13 := Aside0.mk H
                clear H
                obtain ⟨Ao14, co14, eo14⟩ := Kd.R_slice HO_8.out
                subst eo14
                have p179 : 0 ≤ ((ji9) : Int) := of_decide_eq_true (by first | (with_reducible assumption) | assumption)
                have q179 : (ji9) < (x8_1.length : Int) := of_decide_eq_true (by first | (with_reducible assumption) | assumption)
                obtain ⟨ad179, e179, hx179_0⟩ := Kd.at_string (Kd.R_reads' HO_8.out).2.2 (ji9) p179 q179
                cases e179
                replace p179 := eq_true p179
                replace q179 := eq_true q179
                have q15 : ((ji9) : Int) ≤ ((x8_1.length : Int) : Int) := of_decide_eq_true (by first | (with_reducible assumption) | assumption)
                obtain ⟨i015, hi015, _, hsz15, _⟩ := info_parts info9
                have hcut15 := cut_to (P := Try.prog) 23 9 .i64 Try.underlying23 hi015 (some ad179) x8_1.length co14 (ji9) (of_decide_eq_true (by first | (with_reducible assumption) | assumption)) q15 (Kd.R_reads' HO_8.out).2.1
                have hr15 := Kd.R_take (m := ((ji9) : Int).toNat) HO_8.out (by omega)
                have hy15 : y180.length = ((ji9) : Int).toNat := (by rw [Ny180.out, List.length_take]; omega)
                rw [← Ny180.out] at hr15
                rw [← hy15] at hr15 hcut15
                clear hy15 hi015 hsz15 HO_8
                have HO182 := Aside0.mk hr15
                clear hr15
                replace q15 := eq_true q15
                go_upto_region 6 with (fail)
                go_cut [35] (fun v35 wc => ∃ (kq : Nat) (x35_12 : Bool), v35 = .bool x35_12 ∧ Aside0 (quireref15_reached.j1 kq l0 l2 x7_1 y180 (rdOf ByteArray.empty x8_1 (ji9)) x35_12 = some r) ∧ Aside0 (kq ≤ k1) ∧ Aside0 (Kd.R Kd.string 9 wc w.heap.size (fun k_ => some k_ ≠ ((.slice (some ad179) y180.length co14) : Value).ownBlock) u7 x7_1) ∧ Aside0 (Kd.R Kd.string 9 wc w.heap.size (fun k_ => some k_ ≠ (u7 : Value).ownBlock) (.slice (some ad179) y180.length co14) y180) ∧ Aside0 (Below w.heap.size w wc))
                case first =>
                  have H := HC13.out
                  clear HC13
                  replace H := Option.bind_eq_some_iff.mp H
                  obtain ⟨t183, A160, H⟩ := H
                  replace H : (if t183 = true then (quireref15_reached.j1 k1 l0 l2 x7_1 y180 (rdOf ByteArray.empty x8_1 (ji9)) true) else ((quireref15_has.f k1 x7_1 (rdOf ByteArray.empty x8_1 (ji9))).bind fun t184 => (quireref15_reached.j1 k1 l0 l2 x7_1 y180 (rdOf ByteArray.empty x8_1 (ji9)) t184))) = some r := H
                  have A16 := Aside0.mk A160
                  clear A160
                  by_cases c17 : t183 = true
                  · subst c17
                    have H1 : (quireref15_reached.j1 k1 l0 l2 x7_1 y180 (rdOf ByteArray.empty x8_1 (ji9)) true) = some r := by rw [if_pos rfl] at H; exact H
                    clear H
                    have H := H1
                    clear H1
                    have H' := Aside0.mk H
                    clear H
                    go_wp2_with (first | ((with_reducible refine gate_callee (f := 28) rfl ?_); refine goesL_ (some 30) rfl rfl Try.func28 (by kernel_rfl) rfl #[.slice A2 l2.length c2, .string (rdOf ByteArray.empty x8_1 (ji9))] rfl (by (try simp only [List.map_toArray, List.map_cons, List.map_nil]); first | done | (simp only [hji9]; rfl) | rfl | (simp only [List.length_drop, List.length_take]; rfl)) ?_; (with_reducible refine (quireref15_has.calls k1 _ _ l2 (rdOf ByteArray.empty x8_1 (ji9)) true _ ?side1 ?side2 A16.out).mono ?_); (case side1 => repeat (first | exact (Kd.C_below HR2.out HB.out) | (with_reducible refine Kd.C_alloc ?_ _) | (with_reducible refine Kd.C_drewN ?_ _) | (with_reducible refine Kd.C_drew ?_))); (case side2 => exact HC2.out); rintro e w' ⟨rfl, ⟨nd, rfl⟩⟩; refine ⟨_, rfl, ?_⟩))
                    go_meet
                    case rel => exact ⟨_, (true), (by first | rfl | (simp; done) | (simp [*]; done)), H', ⟨by have := HK1.out; first | omega | exact Nat.le_refl _⟩, ⟨by (with_reducible repeat (first | apply Kd.R_alloc | apply Kd.R_drewN | apply Kd.R_drew)); exact HO_7.out⟩, ⟨by (with_reducible repeat (first | apply Kd.R_alloc | apply Kd.R_drewN | apply Kd.R_drew)); exact HO182.out⟩, ⟨by repeat (first | (with_reducible first | exact HB.out | apply below_alloc | apply pw_below_drewN | apply below_drew1) | exact HB.out)⟩⟩
                  · replace c17 := Bool.eq_false_iff.mpr c17
                    subst c17
                    have H1 : ((quireref15_has.f k1 x7_1 (rdOf ByteArray.empty x8_1 (ji9))).bind fun t184 => (quireref15_reached.j1 k1 l0 l2 x7_1 y180 (rdOf ByteArray.empty x8_1 (ji9)) t184)) = some r := by rw [if_neg (show ¬ (false = true) by decide)] at H; exact H
                    clear H
                    have H := H1
                    clear H1
                    replace H := Option.bind_eq_some_iff.mp H
                    obtain ⟨t184, A180, H⟩ := H
                    replace H : (quireref15_reached.j1 k1 l0 l2 x7_1 y180 (rdOf ByteArray.empty x8_1 (ji9)) t184) = some r := H
                    have A18 := Aside0.mk A180
                    clear A180
                    have H' := Aside0.mk H
                    clear H
                    go_wp2_with (first | ((with_reducible refine gate_callee (f := 28) rfl ?_); refine goesL_ (some 30) rfl rfl Try.func28 (by kernel_rfl) rfl #[.slice A2 l2.length c2, .string (rdOf ByteArray.empty x8_1 (ji9))] rfl (by (try simp only [List.map_toArray, List.map_cons, List.map_nil]); first | done | (simp only [hji9]; rfl) | rfl | (simp only [List.length_drop, List.length_take]; rfl)) ?_; (with_reducible refine (quireref15_has.calls k1 _ _ l2 (rdOf ByteArray.empty x8_1 (ji9)) false _ ?side1 ?side2 A16.out).mono ?_); (case side1 => repeat (first | exact (Kd.C_below HR2.out HB.out) | (with_reducible refine Kd.C_alloc ?_ _) | (with_reducible refine Kd.C_drewN ?_ _) | (with_reducible refine Kd.C_drew ?_))); (case side2 => exact HC2.out); rintro e w' ⟨rfl, ⟨nd, rfl⟩⟩; refine ⟨_, rfl, ?_⟩; obtain ⟨Ao19, co19, eo19⟩ := Kd.R_slice HO_7.out; subst eo19) | (go_at_call 28; (with_reducible refine (quireref15_has.calls k1 _ _ x7_1 (rdOf ByteArray.empty x8_1 (ji9)) t184 _ ?side1 ?side2 A18.out).mono ?_); (case side1 => repeat (first | exact (Kd.R_reads' HO_7.out).2.2 | (with_reducible refine Kd.C_alloc ?_ _) | (with_reducible refine Kd.C_drewN ?_ _) | (with_reducible refine Kd.C_drew ?_))); (case side2 => exact (Kd.R_reads' HO_7.out).2.1); rintro e w' ⟨rfl, ⟨nd, rfl⟩⟩))
                    go_meet
                    case rel => exact ⟨_, (t184), (by first | rfl | (simp; done) | (simp [*]; done)), H', ⟨by have := HK1.out; first | omega | exact Nat.le_refl _⟩, ⟨by (with_reducible repeat (first | apply Kd.R_alloc | apply Kd.R_drewN | apply Kd.R_drew)); exact HO_7.out⟩, ⟨by (with_reducible repeat (first | apply Kd.R_alloc | apply Kd.R_drewN | apply Kd.R_drew)); exact HO182.out⟩, ⟨by repeat (first | (with_reducible first | exact HB.out | apply below_alloc | apply pw_below_drewN | apply below_drew1) | exact HB.out)⟩⟩
                case rest =>
                  clear HC13
                  try clear c1
                  try clear p1
                  try clear q1
                  try clear hx1
                  try clear c2
                  try clear p2
                  try clear c4
                  try clear p6
                  try clear c8
                  try clear c8b0
                  try clear c8b1
                  try clear c10
                  try clear c10b0
                  try clear c11
                  try clear c11b0
                  try clear c12
                  try clear c12b0
                  try clear c12b1
                  try clear q15
                  try clear c17
                  try clear p17
                  try clear q17
                  try clear hx17
                  try clear hx179_0
                  try clear p179
                  try clear p2
                  try clear q15
                  try clear q179
                  obtain ⟨kq, x35_12, rfl, HA, HJ12, HO_7, HO_8, HB⟩ := hcut
                  cases kq with
                  | zero => exact absurd HA.out (by simp [quireref15_reached.j1])
                  | succ kj12 =>
                    have H := HA.out
                    clear HA
                    simp only [quireref15_reached.j1] at H
                    by_cases c20 : x35_12 = true
                    · subst c20
                      have H1 : (quireref15_reached.l0 kj12 l0 l2 x7_1 y180) = some r := by rw [if_pos rfl] at H; exact H
                      clear H
                      have H := H1
                      clear H1
                      have H' := Aside0.mk H
                      clear H
                      go_wp2
                      go_roundg kj12
                      case measure => have := HK1.out; have := HJ12.out; omega
                      case rel => exact ⟨(x7_1), (y180), H', ⟨by have := HK1.out; have := HJ12.out; omega⟩, ⟨by (with_reducible repeat (first | apply Kd.R_alloc | apply Kd.R_drewN | apply Kd.R_drew)); exact HO_7.out⟩, ⟨by (with_reducible repeat (first | apply Kd.R_alloc | apply Kd.R_drewN | apply Kd.R_drew)); exact HO_8.out⟩, ⟨by repeat (first | (with_reducible first | exact HB.out | apply below_alloc | apply pw_below_drewN | apply below_drew1) | exact HB.out)⟩⟩
                    · replace c20 := Bool.eq_false_iff.mpr c20
                      subst c20
                      have H1 : (if x7_1.length < 8796093022208 then ((some (x7_1 ++ [(rdOf ByteArray.empty x8_1 (ji9))] : List ByteArray)).bind fun y185 => ((quireref15_find.f kj12 l0 (rdOf ByteArray.empty x8_1 (ji9))).bind fun t188 => (if t188 ≥ 0 then (if 0 ≤ t188 then (if t188 < (l0.length : Int) then (if y180.length + ((rd_T33 l0 t188).f1).length < 8796093022208 then (quireref15_reached.l0 kj12 l0 l2 y185 (y180 ++ ((rd_T33 l0 t188).f1))) else (none)) else (none)) else (none)) else (quireref15_reached.l0 kj12 l0 l2 y185 y180)))) else (none)) = some r := by rw [if_neg (show ¬ (false = true) by decide)] at H; exact H
                      clear H
                      have H := H1
                      clear H1
                      by_cases c21 : x7_1.length < 8796093022208
                      · rw [if_pos c21] at H
                        have LMc21 := Aside0.mk c21
                        clear c21
                        obtain ⟨y185, hy185⟩ : ∃ y_ : List ByteArray, y_ = (x7_1 ++ [(rdOf ByteArray.empty x8_1 (ji9))]) := ⟨_, rfl⟩
                        replace H : ((quireref15_find.f kj12 l0 (rdOf ByteArray.empty x8_1 (ji9))).bind fun t188 => (if t188 ≥ 0 then (if 0 ≤ t188 then (if t188 < (l0.length : Int) then (if y180.length + ((rd_T33 l0 t188).f1).length < 8796093022208 then (quireref15_reached.l0 kj12 l0 l2 y185 (y180 ++ ((rd_T33 l0 t188).f1))) else (none)) else (none)) else (none)) else (quireref15_reached.l0 kj12 l0 l2 y185 y180))) = some r := by first | (rw [hy185]; with_reducible exact H) | (have H2_ := (Option.bind_some _ _).symm.trans H; rw [hy185]; with_reducible exact H2_) | (have H2_ := (Option.bind_some _ _).symm.trans H; with_reducible exact H2_) | with_reducible exact H | (rw [hy185]; exact H) | exact H
                        have Ny185 := Aside0.mk hy185
                        clear hy185
                        replace H := Option.bind_eq_some_iff.mp H
                        obtain ⟨t188, A220, H⟩ := H
                        replace H : (if t188 ≥ 0 then (if 0 ≤ t188 then (if t188 < (l0.length : Int) then (if y180.length + ((rd_T33 l0 t188).f1).length < 8796093022208 then (quireref15_reached.l0 kj12 l0 l2 y185 (y180 ++ ((rd_T33 l0 t188).f1))) else (none)) else (none)) else (none)) else (quireref15_reached.l0 kj12 l0 l2 y185 y180)) = some r := H
                        have A22 := Aside0.mk A220
                        clear A220
                        by_cases c23 : t188 ≥ 0
                        · rw [if_pos c23] at H
                          have c23b0 : decide (0 ≤ t188) = true := decide_eq_true c23
                          clear c23
                          by_cases c24 : 0 ≤ t188
                          · rw [if_pos c24] at H
                            have c24b0 : decide (0 ≤ t188) = true := decide_eq_true c24
                            clear c24
                            by_cases c25 : t188 < (l0.length : Int)
                            · rw [if_pos c25] at H
                              have c25b0 : decide (t188 < (l0.length : Int)) = true := decide_eq_true c25
                              clear c25
                              by_cases c26 : y180.length + ((rd_T33 l0 t188).f1).length < 8796093022208
                              · rw [if_pos c26] at H
                                have LMc26 := Aside0.mk c26
                                clear c26
                                obtain ⟨y190, hy190⟩ : ∃ y_ : List ByteArray, y_ = (y180 ++ ((rd_T33 l0 t188).f1)) := ⟨_, rfl⟩
                                replace H : (quireref15_reached.l0 kj12 l0 l2 y185 y190) = some r := by first | (rw [hy190]; with_reducible exact H) | (have H2_ := (Option.bind_some _ _).symm.trans H; rw [hy190]; with_reducible exact H2_) | (have H2_ := (Option.bind_some _ _).symm.trans H; with_reducible exact H2_) | with_reducible exact H | (rw [hy190]; exact H) | exact H
                                have Ny190 := Aside0.mk hy190
                                clear hy190
                                have H' := Aside0.mk H
                                clear H
                                go_wp2_with (first | ((with_reducible refine gate_builtin (b := .append) (xs := #[.tmp 36, .tmp 38]) rfl ?_); at_builtin; refine Kd.R_append Kd.string (w0 := w) w.heap.size rfl (.tmp 36) (.tmp 38) 23 9 (.string ⟨#[]⟩) 16 rfl Try.underlying23 info9 rfl (by decide) (by omega) u7 x7_1 (rdOf ByteArray.empty x8_1 (ji9)) [.string (rdOf ByteArray.empty x8_1 (ji9))] (fun k_ => some k_ ≠ (.slice (some ad179) y180.length co14 : Value).ownBlock) (fun _ => False) rfl rfl ?aP (fun _ hk => hk.elim) ?aF ?aO ?aB ?aS ?aL ?_; (case aP => exact rfl); (case aB => exact (by repeat (first | (with_reducible first | exact HB.out | apply below_alloc | apply pw_below_drewN | apply below_drew1) | exact HB.out))); (case aF => exact (fun k_ hk => Kd.fresh' (Kd.R_lt (by (with_reducible repeat (first | apply Kd.R_alloc | apply Kd.R_drewN | apply Kd.R_drew)); exact HO_8.out)) k_ hk)); (case aO => exact (by (with_reducible repeat (first | apply Kd.R_alloc | apply Kd.R_drewN | apply Kd.R_drew)); exact HO_7.out)); (case aS => exact (below_size (by repeat (first | (with_reducible first | exact HB.out | apply below_alloc | apply pw_below_drewN | apply below_drew1) | exact HB.out)))); (case aL => have := LMc21.out; omega); intro v186 w27 ho hb hg hat; rw [← Ny185.out] at ho; have n0_ := Aside0.mk (Kd.R_after (ok := (fun _ => True)) (by (with_reducible repeat (first | apply Kd.R_alloc | apply Kd.R_drewN | apply Kd.R_drew)); exact Kd.R_mono HO_8.out (fun _ hk => ⟨trivial, hk⟩)) hg hat); have n1_ := Aside0.mk (hb); have n2_ := Aside0.mk (ho); clear HO_8; clear HB; clear HO_7; have HO_8 := n0_; have HB := n1_; have HO187 := n2_; clear n0_ n1_ n2_; clear ho hb hg hat) | ((with_reducible refine gate_callee (f := 27) rfl ?_); refine goesL_ (some 42) rfl rfl Try.func27 (by kernel_rfl) rfl #[.slice A0 l0.length c0, .string (rdOf ByteArray.empty x8_1 (ji9))] rfl (by (try simp only [List.map_toArray, List.map_cons, List.map_nil]); first | done | (simp only [hji9]; rfl) | rfl | (simp only [List.length_drop, List.length_take]; rfl)) ?_; (with_reducible refine (quireref15_find.calls kj12 _ _ l0 (rdOf ByteArray.empty x8_1 (ji9)) t188 _ ?side1 ?side2 A22.out).mono ?_); (case side1 => repeat (first | exact (Kd.C_below HR0.out HB.out) | (with_reducible refine Kd.C_alloc ?_ _) | (with_reducible refine Kd.C_drewN ?_ _) | (with_reducible refine Kd.C_drew ?_))); (case side2 => exact HC0.out); rintro e w' ⟨rfl, ⟨nd, rfl⟩⟩; refine ⟨_, rfl, ?_⟩; have p189 : 0 ≤ (t188 : Int) := of_decide_eq_true (by first | (with_reducible assumption) | assumption); have q189 : t188 < (l0.length : Int) := of_decide_eq_true (by first | (with_reducible assumption) | assumption); obtain ⟨ad189, A189_1, c189_1, e189, hx189_0, hx189_1, hl189_1, hi189_1⟩ := at_T33 HR0.out t188 p189 q189; cases e189; replace hx189_0 := (HB.out.cell (World.block_lt_of_cell? w _ hx189_0)).trans hx189_0; replace hx189_1 := (HB.out.cell (World.block_lt_of_cell? w _ hx189_1)).trans hx189_1; have HR189_1 := Aside0.mk hi189_1; have HC189_1 := Aside0.mk hl189_1; clear hi189_1 hl189_1; replace p189 := eq_true p189; replace q189 := eq_true q189) | ((with_reducible refine gate_builtin (b := .append) (xs := #[.tmp 45, .tmp 50]) rfl ?_); at_builtin; refine Kd.R_append_rows Kd.string (w0 := w) w.heap.size rfl (.tmp 45) (.tmp 50) 23 9 (.string ⟨#[]⟩) 16 rfl Try.underlying23 info9 rfl (by decide) (by omega) (.slice (some ad179) y180.length co14) y180 ((rd_T33 l0 t188).f1) _ _ _ (fun k_ => some k_ ≠ (v186 : Value).ownBlock) (fun _ => False) rfl rfl ?aO ?aR (fun _ _ h => h) (fun _ h => h.elim) ?aF ?aB ?aS ?aL ?_; (case aR => repeat (first | exact (Kd.C_below HR189_1.out (by repeat (first | (with_reducible first | exact HB.out | apply below_alloc | apply pw_below_drewN | apply below_drew1) | exact HB.out))) | (with_reducible refine Kd.C_alloc ?_ _) | (with_reducible refine Kd.C_drewN ?_ _) | (with_reducible refine Kd.C_drew ?_))); (case aB => exact (by repeat (first | (with_reducible first | exact HB.out | apply below_alloc | apply pw_below_drewN | apply below_drew1) | exact HB.out))); (case aF => exact (fun k_ hk => Kd.fresh' (Kd.R_lt (by (with_reducible repeat (first | apply Kd.R_alloc | apply Kd.R_drewN | apply Kd.R_drew)); exact HO187.out)) k_ hk)); (case aO => exact (by (with_reducible repeat (first | apply Kd.R_alloc | apply Kd.R_drewN | apply Kd.R_drew)); exact Kd.R_mono HO_8.out (fun _ hk => hk.2))); (case aS => exact (below_size (by repeat (first | (with_reducible first | exact HB.out | apply below_alloc | apply pw_below_drewN | apply below_drew1) | exact HB.out)))); (case aL => have := LMc26.out; omega); intro v191 w28 ho hb hg hat; rw [← Ny190.out] at ho; have n0_ := Aside0.mk (Kd.R_after (ok := (fun _ => True)) (by (with_reducible repeat (first | apply Kd.R_alloc | apply Kd.R_drewN | apply Kd.R_drew)); exact Kd.R_mono HO187.out (fun _ hk => ⟨trivial, hk⟩)) hg hat); have n1_ := Aside0.mk (hb); have n2_ := Aside0.mk (ho); clear HO187; clear HB; clear HO_8; have HO187 := n0_; have HB := n1_; have HO192 := n2_; clear n0_ n1_ n2_; clear ho hb hg hat))
                                go_roundg kj12
                                case measure => have := HK1.out; have := HJ12.out; omega
                                case rel => exact ⟨(y185), (y190), H', ⟨by have := HK1.out; have := HJ12.out; omega⟩, ⟨by (with_reducible repeat (first | apply Kd.R_alloc | apply Kd.R_drewN | apply Kd.R_drew)); exact Kd.R_mono HO187.out (fun _ hk => hk.2)⟩, ⟨by (with_reducible repeat (first | apply Kd.R_alloc | apply Kd.R_drewN | apply Kd.R_drew)); exact HO192.out⟩, ⟨by repeat (first | (with_reducible first | exact HB.out | apply below_alloc | apply pw_below_drewN | apply below_drew1) | exact HB.out)⟩⟩
                              · rw [if_neg c26] at H
                                exact absurd H (by simp)
                            · rw [if_neg c25] at H
                              exact absurd H (by simp)
                          · rw [if_neg c24] at H
                            exact absurd H (by simp)
                        · rw [if_neg c23] at H
                          have c23b0 : decide (0 ≤ t188) = false := decide_eq_false c23
                          clear c23
                          have H' := Aside0.mk H
                          clear H
                          go_wp2_with (first | ((with_reducible refine gate_builtin (b := .append) (xs := #[.tmp 36, .tmp 38]) rfl ?_); at_builtin; refine Kd.R_append Kd.string (w0 := w) w.heap.size rfl (.tmp 36) (.tmp 38) 23 9 (.string ⟨#[]⟩) 16 rfl Try.underlying23 info9 rfl (by decide) (by omega) u7 x7_1 (rdOf ByteArray.empty x8_1 (ji9)) [.string (rdOf ByteArray.empty x8_1 (ji9))] (fun k_ => some k_ ≠ (.slice (some ad179) y180.length co14 : Value).ownBlock) (fun _ => False) rfl rfl ?aP (fun _ hk => hk.elim) ?aF ?aO ?aB ?aS ?aL ?_; (case aP => exact rfl); (case aB => exact (by repeat (first | (with_reducible first | exact HB.out | apply below_alloc | apply pw_below_drewN | apply below_drew1) | exact HB.out))); (case aF => exact (fun k_ hk => Kd.fresh' (Kd.R_lt (by (with_reducible repeat (first | apply Kd.R_alloc | apply Kd.R_drewN | apply Kd.R_drew)); exact HO_8.out)) k_ hk)); (case aO => exact (by (with_reducible repeat (first | apply Kd.R_alloc | apply Kd.R_drewN | apply Kd.R_drew)); exact HO_7.out)); (case aS => exact (below_size (by repeat (first | (with_reducible first | exact HB.out | apply below_alloc | apply pw_below_drewN | apply below_drew1) | exact HB.out)))); (case aL => have := LMc21.out; omega); intro v186 w29 ho hb hg hat; rw [← Ny185.out] at ho; have n0_ := Aside0.mk (Kd.R_after (ok := (fun _ => True)) (by (with_reducible repeat (first | apply Kd.R_alloc | apply Kd.R_drewN | apply Kd.R_drew)); exact Kd.R_mono HO_8.out (fun _ hk => ⟨trivial, hk⟩)) hg hat); have n1_ := Aside0.mk (hb); have n2_ := Aside0.mk (ho); clear HO_8; clear HB; clear HO_7; have HO_8 := n0_; have HB := n1_; have HO187 := n2_; clear n0_ n1_ n2_; clear ho hb hg hat) | ((with_reducible refine gate_callee (f := 27) rfl ?_); refine goesL_ (some 42) rfl rfl Try.func27 (by kernel_rfl) rfl #[.slice A0 l0.length c0, .string (rdOf ByteArray.empty x8_1 (ji9))] rfl (by (try simp only [List.map_toArray, List.map_cons, List.map_nil]); first | done | (simp only [hji9]; rfl) | rfl | (simp only [List.length_drop, List.length_take]; rfl)) ?_; (with_reducible refine (quireref15_find.calls kj12 _ _ l0 (rdOf ByteArray.empty x8_1 (ji9)) t188 _ ?side1 ?side2 A22.out).mono ?_); (case side1 => repeat (first | exact (Kd.C_below HR0.out HB.out) | (with_reducible refine Kd.C_alloc ?_ _) | (with_reducible refine Kd.C_drewN ?_ _) | (with_reducible refine Kd.C_drew ?_))); (case side2 => exact HC0.out); rintro e w' ⟨rfl, ⟨nd, rfl⟩⟩; refine ⟨_, rfl, ?_⟩))
                          go_roundg kj12
                          case measure => have := HK1.out; have := HJ12.out; omega
                          case rel => exact ⟨(y185), (y180), H', ⟨by have := HK1.out; have := HJ12.out; omega⟩, ⟨by (with_reducible repeat (first | apply Kd.R_alloc | apply Kd.R_drewN | apply Kd.R_drew)); exact HO187.out⟩, ⟨by (with_reducible repeat (first | apply Kd.R_alloc | apply Kd.R_drewN | apply Kd.R_drew)); exact Kd.R_mono HO_8.out (fun _ hk => hk.2)⟩, ⟨by repeat (first | (with_reducible first | exact HB.out | apply below_alloc | apply pw_below_drewN | apply below_drew1) | exact HB.out)⟩⟩
                      · rw [if_neg c21] at H
                        exact absurd H (by simp)
              · rw [if_neg c12] at H
                exact absurd H (by simp)
            · rw [if_neg c11] at H
              exact absurd H (by simp)
          · rw [if_neg c10] at H
            exact absurd H (by simp)
        · rw [if_neg c8] at H
          have c8b0 : decide (0 < (x8_1.length : Int)) = false := decide_eq_false c8
          have c8b1 : decide (0 < x8_1.length) = false := decide_eq_false (by omega)
          clear c8
          obtain rfl := Option.some.inj H
          obtain ⟨Ao30, co30, eo30⟩ := Kd.R_slice HO_8.out
          subst eo30
          go_wp2
          go_ret
          exact ⟨_, by first | rfl | (simp [errW_none, errW_some] <;> rfl) | (simp [*, errW_none, errW_some] <;> rfl), by (with_reducible repeat (first | apply Kd.R_alloc | apply Kd.R_drewN | apply Kd.R_drew)); exact Kd.R_mono HO_7.out (fun _ hk => trivial), by repeat (first | (with_reducible first | exact HB.out | apply below_alloc | apply pw_below_drewN | apply below_drew1) | exact HB.out)⟩
  · rw [if_neg c4] at H
    exact absurd H (by simp)

/-! ### quireref15_ready: function 29 -/
noncomputable def quireref15_ready.l0 : Nat → List ByteArray → List ByteArray → Int → ByteArray → List ByteArray → Option (Bool)
  | 0, _, _, _, _, _ => none
  | k + 1, x1, x2, x7, x194000, x194001 => if x7 < (x194001.length : Int) then (if 0 ≤ x7 then ((quireref15_has.f k x1 (rdOf ByteArray.empty x194001 x7)).bind fun t195 => (if t195 = true then (quireref15_ready.l0 k x1 x2 (wrap64 (x7 + 1)) x194000 x194001) else ((quireref15_has.f k x2 (rdOf ByteArray.empty x194001 x7)).bind fun t197 => (if t197 = true then (quireref15_ready.l0 k x1 x2 (wrap64 (x7 + 1)) x194000 x194001) else (some false))))) else (none)) else (some true)
noncomputable def quireref15_ready.f (k : Nat) (a0_0 : ByteArray) (l0_1 : List ByteArray) (l1 : List ByteArray) (l2 : List ByteArray) : Option (Bool) := quireref15_ready.l0 k l1 l2 0 a0_0 l0_1
theorem quireref15_ready.mono_l : ∀ k, (∀ y0 y1 y2 y3 y4, LeO (quireref15_ready.l0 k y0 y1 y2 y3 y4) (quireref15_ready.l0 (k + 1) y0 y1 y2 y3 y4))
  | 0 => fun _ _ _ _ _ r h => by simp [quireref15_ready.l0] at h
  | k + 1 => by
    have ih0 := quireref15_ready.mono_l k
    · intro y0 y1 y2 y3 y4
      unfold quireref15_ready.l0
      repeat' first
      | (with_reducible exact ih0 _ _ _ _ _)
      | (with_reducible exact quireref15_has.mono _ _ _)
      | (with_reducible exact LeO.refl _)
      | (with_reducible exact LeO.none _)
      | (with_reducible refine LeO.ite ?_ ?_)
      | (with_reducible refine LeO.bind ?_ (fun _ => ?_))
      | exact ih0 _ _ _ _ _
      | exact quireref15_has.mono _ _ _
      | exact LeO.none _
      | refine LeO.ite ?_ ?_
      | refine LeO.bind ?_ (fun _ => ?_)
theorem quireref15_ready.mono : ∀ a0 a1 a2 a3 k, LeO (quireref15_ready.f k a0 a1 a2 a3) (quireref15_ready.f (k + 1) a0 a1 a2 a3) := by
  intro a0 a1 a2 a3 k
  have ih0 := quireref15_ready.mono_l k
  unfold quireref15_ready.f
  repeat' first
      | (with_reducible exact ih0 _ _ _ _ _)
      | (with_reducible exact quireref15_has.mono _ _ _)
      | (with_reducible exact LeO.refl _)
      | (with_reducible exact LeO.none _)
      | (with_reducible refine LeO.ite ?_ ?_)
      | (with_reducible refine LeO.bind ?_ (fun _ => ?_))
      | exact ih0 _ _ _ _ _
      | exact quireref15_has.mono _ _ _
      | exact LeO.none _
      | refine LeO.ite ?_ ?_
      | refine LeO.bind ?_ (fun _ => ?_)
set_option maxHeartbeats 8000000 in
set_option maxRecDepth 100000 in
theorem quireref15_ready.calls (k : Nat) (a0_0 : ByteArray) (A0_1 : Option Addr) (c0_1 : Nat) (l0_1 : List ByteArray) (A1 : Option Addr) (c1 : Nat) (l1 : List ByteArray) (A2 : Option Addr) (c2 : Nat) (l2 : List ByteArray) (r : Bool) (w : World) (hr0_1 : Kd.C Kd.string w A0_1 l0_1.length l0_1) (hc0_1 : l0_1.length ≤ c0_1) (hr1 : Kd.C Kd.string w A1 l1.length l1) (hc1 : l1.length ≤ c1) (hr2 : Kd.C Kd.string w A2 l2.length l2) (hc2 : l2.length ≤ c2) (h : quireref15_ready.f k a0_0 l0_1 l1 l2 = some r) :
    Calls Try.prog 29 #[.agg #[.string a0_0, .slice A0_1 l0_1.length c0_1], .slice A1 l1.length c1, .slice A2 l2.length c2] w fun e w' => e = .returned (.bool r) ∧ Below w.heap.size w w' := by
  have hu33 := Try.underlying33
  have HR0_1 := Aside0.mk hr0_1
  have HC0_1 := Aside0.mk hc0_1
  clear hr0_1 hc0_1
  have HR1 := Aside0.mk hr1
  have HC1 := Aside0.mk hc1
  clear hr1 hc1
  have HR2 := Aside0.mk hr2
  have HC2 := Aside0.mk hc2
  clear hr2 hc2
  have HB := Aside0.mk (Below.refl w.heap.size w)
  have H : (quireref15_ready.l0 k l1 l2 0 a0_0 l0_1) = some r := h
  clear h
  have H' := Aside0.mk H
  clear H
  go_enter Try.func29, Try.ntmps29
  go_wp2_with (first | ((with_reducible refine gate_dst (N := 3) rfl ?_); refine box_event ?hg (N := 3) ?hd (cs := #[.string a0_0, .slice A0_1 l0_1.length c0_1]) (t := 33) ?hr ?_; (case hd => rfl); (case hg => rfl); (case hr => first | (go_simp; done) | (go_simp; rfl)); intro gb193 hg w4 hbox hb; have n0_ := Aside0.mk (below_step (by repeat (first | (with_reducible first | exact HB.out | apply below_alloc | apply pw_below_drewN | apply below_drew1) | exact HB.out)) hb); have n1_ := Aside0.mk (hbox); have n2_ := Aside0.mk ((by rw [hg]; exact (below_size (by repeat (first | (with_reducible first | exact HB.out | apply below_alloc | apply pw_below_drewN | apply below_drew1) | exact HB.out))) : w.heap.size ≤ gb193)); have n3_ := Aside0.mk ((by rw [hg]; exact (below_size (by repeat (first | (with_reducible first | exact HB.out | apply below_alloc | apply pw_below_drewN | apply below_drew1) | exact HB.out))) : w.heap.size ≤ gb193)); clear HB; have HB := n0_; have BK193 := n1_; have GW193 := n2_; have GE193 := n3_; clear n0_ n1_ n2_ n3_; clear hb hbox hg))
  go_loopg [7] k (fun kq v7 w' => ∃ (x7_1 : Int), v7 = .int .i64 x7_1 ∧ Aside0 (quireref15_ready.l0 kq l1 l2 x7_1 a0_0 l0_1 = some r) ∧ Aside0 (kq ≤ k) ∧ Aside0 (w'.heap[gb193]? = some (.cells #[.string a0_0, (.slice A0_1 l0_1.length c0_1)] 33 (0, 0))) ∧ Aside0 (Below w.heap.size w w'))
  case atStart => exact ⟨(0), (by first | rfl | (simp; done) | (simp [*]; done)), H', ⟨Nat.le_refl _⟩, ⟨by (with_reducible repeat (first | refine blk_drewN ?_ _ | refine blk_drew ?_ | refine blk_alloc ?_ _)); exact BK193.out⟩, ⟨by repeat (first | (with_reducible first | exact HB.out | apply below_alloc | apply pw_below_drewN | apply below_drew1 | refine below_set ?_ GE193.out) | exact HB.out)⟩⟩
  case round =>
    clear H'
    try clear c1
    try clear c2
    try clear p2
    obtain ⟨x7_1, rfl, HA, HK1, BK193, HB⟩ := hrel
    cases gk with
    | zero => exact absurd HA.out (by simp [quireref15_ready.l0])
    | succ k1 =>
      have H := HA.out
      clear HA
      simp only [quireref15_ready.l0] at H
      by_cases c5 : x7_1 < (l0_1.length : Int)
      · rw [if_pos c5] at H
        have c5b0 : decide (x7_1 < (l0_1.length : Int)) = true := decide_eq_true c5
        clear c5
        by_cases c6 : 0 ≤ x7_1
        · rw [if_pos c6] at H
          have c6b0 : decide (0 ≤ x7_1) = true := decide_eq_true c6
          clear c6
          replace H := Option.bind_eq_some_iff.mp H
          obtain ⟨t195, A70, H⟩ := H
          replace H : (if t195 = true then (quireref15_ready.l0 k1 l1 l2 (wrap64 (x7_1 + 1)) a0_0 l0_1) else ((quireref15_has.f k1 l2 (rdOf ByteArray.empty l0_1 x7_1)).bind fun t197 => (if t197 = true then (quireref15_ready.l0 k1 l1 l2 (wrap64 (x7_1 + 1)) a0_0 l0_1) else (some false)))) = some r := H
          have A7 := Aside0.mk A70
          clear A70
          by_cases c8 : t195 = true
          · subst c8
            have H1 : (quireref15_ready.l0 k1 l1 l2 (wrap64 (x7_1 + 1)) a0_0 l0_1) = some r := by rw [if_pos rfl] at H; exact H
            clear H
            have H := H1
            clear H1
            have H' := Aside0.mk H
            clear H
            have hcz9_0 : wr.cell? ⟨gb193, 0, none⟩ = some (.string a0_0) := (blk_cell BK193.out 0).trans rfl
            have hcz9_1 : wr.cell? ⟨gb193, 1, none⟩ = some (.slice A0_1 l0_1.length c0_1) := (blk_cell BK193.out 1).trans rfl
            have hfz9_0 := blk_frozen BK193.out 0
            have hfz9_1 := blk_frozen BK193.out 1
            have p194 : 0 ≤ (x7_1 : Int) := of_decide_eq_true (by first | (with_reducible assumption) | assumption)
            have q194 : x7_1 < (l0_1.length : Int) := of_decide_eq_true (by first | (with_reducible assumption) | assumption)
            obtain ⟨ad194, e194, hx194_0⟩ := Kd.at_string HR0_1.out x7_1 p194 q194
            cases e194
            replace hx194_0 := (HB.out.cell (World.block_lt_of_cell? w _ hx194_0)).trans hx194_0
            replace p194 := eq_true p194
            replace q194 := eq_true q194
            go_wp2_with (first | ((with_reducible refine gate_callee (f := 28) rfl ?_); refine goesL_ (some 21) rfl rfl Try.func28 (by kernel_rfl) rfl #[.slice A1 l1.length c1, .string (rdOf ByteArray.empty l0_1 x7_1)] rfl (by (try simp only [List.map_toArray, List.map_cons, List.map_nil]); first | done | rfl | (simp only [List.length_drop, List.length_take]; rfl)) ?_; (with_reducible refine (quireref15_has.calls k1 _ _ l1 (rdOf ByteArray.empty l0_1 x7_1) true _ ?side1 ?side2 A7.out).mono ?_); (case side1 => repeat (first | exact (Kd.C_below HR1.out HB.out) | (with_reducible refine Kd.C_alloc ?_ _) | (with_reducible refine Kd.C_drewN ?_ _) | (with_reducible refine Kd.C_drew ?_))); (case side2 => exact HC1.out); rintro e w' ⟨rfl, ⟨nd, rfl⟩⟩; refine ⟨_, rfl, ?_⟩))
            go_roundg k1
            case measure => have := HK1.out; omega
            case rel => exact ⟨(wrap64 (x7_1 + 1)), (by first | rfl | (simp; done) | (simp [*]; done)), H', ⟨by have := HK1.out; omega⟩, ⟨by (with_reducible repeat (first | refine blk_drewN ?_ _ | refine blk_drew ?_ | refine blk_alloc ?_ _)); exact BK193.out⟩, ⟨by repeat (first | (with_reducible first | exact HB.out | apply below_alloc | apply pw_below_drewN | apply below_drew1 | refine below_set ?_ GE193.out) | exact HB.out)⟩⟩
          · replace c8 := Bool.eq_false_iff.mpr c8
            subst c8
            have H1 : ((quireref15_has.f k1 l2 (rdOf ByteArray.empty l0_1 x7_1)).bind fun t197 => (if t197 = true then (quireref15_ready.l0 k1 l1 l2 (wrap64 (x7_1 + 1)) a0_0 l0_1) else (some false))) = some r := by rw [if_neg (show ¬ (false = true) by decide)] at H; exact H
            clear H
            have H := H1
            clear H1
            replace H := Option.bind_eq_some_iff.mp H
            obtain ⟨t197, A100, H⟩ := H
            replace H : (if t197 = true then (quireref15_ready.l0 k1 l1 l2 (wrap64 (x7_1 + 1)) a0_0 l0_1) else (some false)) = some r := H
            have A10 := Aside0.mk A100
            clear A100
            by_cases c11 : t197 = true
            · subst c11
              have H1 : (quireref15_ready.l0 k1 l1 l2 (wrap64 (x7_1 + 1)) a0_0 l0_1) = some r := by rw [if_pos rfl] at H; exact H
              clear H
              have H := H1
              clear H1
              have H' := Aside0.mk H
              clear H
              have hcz12_0 : wr.cell? ⟨gb193, 0, none⟩ = some (.string a0_0) := (blk_cell BK193.out 0).trans rfl
              have hcz12_1 : wr.cell? ⟨gb193, 1, none⟩ = some (.slice A0_1 l0_1.length c0_1) := (blk_cell BK193.out 1).trans rfl
              have hfz12_0 := blk_frozen BK193.out 0
              have hfz12_1 := blk_frozen BK193.out 1
              have p194 : 0 ≤ (x7_1 : Int) := of_decide_eq_true (by first | (with_reducible assumption) | assumption)
              have q194 : x7_1 < (l0_1.length : Int) := of_decide_eq_true (by first | (with_reducible assumption) | assumption)
              obtain ⟨ad194, e194, hx194_0⟩ := Kd.at_string HR0_1.out x7_1 p194 q194
              cases e194
              replace hx194_0 := (HB.out.cell (World.block_lt_of_cell? w _ hx194_0)).trans hx194_0
              replace p194 := eq_true p194
              replace q194 := eq_true q194
              go_wp2_with (first | ((with_reducible refine gate_callee (f := 28) rfl ?_); refine goesL_ (some 21) rfl rfl Try.func28 (by kernel_rfl) rfl #[.slice A1 l1.length c1, .string (rdOf ByteArray.empty l0_1 x7_1)] rfl (by (try simp only [List.map_toArray, List.map_cons, List.map_nil]); first | done | rfl | (simp only [List.length_drop, List.length_take]; rfl)) ?_; (with_reducible refine (quireref15_has.calls k1 _ _ l1 (rdOf ByteArray.empty l0_1 x7_1) false _ ?side1 ?side2 A7.out).mono ?_); (case side1 => repeat (first | exact (Kd.C_below HR1.out HB.out) | (with_reducible refine Kd.C_alloc ?_ _) | (with_reducible refine Kd.C_drewN ?_ _) | (with_reducible refine Kd.C_drew ?_))); (case side2 => exact HC1.out); rintro e w' ⟨rfl, ⟨nd, rfl⟩⟩; refine ⟨_, rfl, ?_⟩; have p196 : 0 ≤ (x7_1 : Int) := of_decide_eq_true (by first | (with_reducible assumption) | assumption); have q196 : x7_1 < (l0_1.length : Int) := of_decide_eq_true (by first | (with_reducible assumption) | assumption); obtain ⟨ad196, e196, hx196_0⟩ := Kd.at_string HR0_1.out x7_1 p196 q196; obtain rfl : ad194 = ad196 := (by injection e196); replace hx196_0 := (HB.out.cell (World.block_lt_of_cell? w _ hx196_0)).trans hx196_0; replace p196 := eq_true p196; replace q196 := eq_true q196) | (go_at_call 28; (with_reducible refine (quireref15_has.calls k1 _ _ l2 (rdOf ByteArray.empty l0_1 x7_1) true _ ?side1 ?side2 A10.out).mono ?_); (case side1 => repeat (first | exact (Kd.C_below HR2.out (by repeat (first | (with_reducible first | exact HB.out | apply below_alloc | apply pw_below_drewN | apply below_drew1 | refine below_set ?_ GE193.out) | exact HB.out))) | (with_reducible refine Kd.C_alloc ?_ _) | (with_reducible refine Kd.C_drewN ?_ _) | (with_reducible refine Kd.C_drew ?_))); (case side2 => exact HC2.out); rintro e w' ⟨rfl, ⟨nd, rfl⟩⟩))
              go_roundg k1
              case measure => have := HK1.out; omega
              case rel => exact ⟨(wrap64 (x7_1 + 1)), (by first | rfl | (simp; done) | (simp [*]; done)), H', ⟨by have := HK1.out; omega⟩, ⟨by (with_reducible repeat (first | refine blk_drewN ?_ _ | refine blk_drew ?_ | refine blk_alloc ?_ _)); exact BK193.out⟩, ⟨by repeat (first | (with_reducible first | exact HB.out | apply below_alloc | apply pw_below_drewN | apply below_drew1 | refine below_set ?_ GE193.out) | exact HB.out)⟩⟩
            · replace c11 := Bool.eq_false_iff.mpr c11
              subst c11
              have H1 : (some false) = some r := by rw [if_neg (show ¬ (false = true) by decide)] at H; exact H
              clear H
              have H := H1
              clear H1
              obtain rfl := Option.some.inj H
              have hcz13_0 : wr.cell? ⟨gb193, 0, none⟩ = some (.string a0_0) := (blk_cell BK193.out 0).trans rfl
              have hcz13_1 : wr.cell? ⟨gb193, 1, none⟩ = some (.slice A0_1 l0_1.length c0_1) := (blk_cell BK193.out 1).trans rfl
              have hfz13_0 := blk_frozen BK193.out 0
              have hfz13_1 := blk_frozen BK193.out 1
              have p194 : 0 ≤ (x7_1 : Int) := of_decide_eq_true (by first | (with_reducible assumption) | assumption)
              have q194 : x7_1 < (l0_1.length : Int) := of_decide_eq_true (by first | (with_reducible assumption) | assumption)
              obtain ⟨ad194, e194, hx194_0⟩ := Kd.at_string HR0_1.out x7_1 p194 q194
              cases e194
              replace hx194_0 := (HB.out.cell (World.block_lt_of_cell? w _ hx194_0)).trans hx194_0
              replace p194 := eq_true p194
              replace q194 := eq_true q194
              go_wp2_with (first | ((with_reducible refine gate_callee (f := 28) rfl ?_); refine goesL_ (some 21) rfl rfl Try.func28 (by kernel_rfl) rfl #[.slice A1 l1.length c1, .string (rdOf ByteArray.empty l0_1 x7_1)] rfl (by (try simp only [List.map_toArray, List.map_cons, List.map_nil]); first | done | rfl | (simp only [List.length_drop, List.length_take]; rfl)) ?_; (with_reducible refine (quireref15_has.calls k1 _ _ l1 (rdOf ByteArray.empty l0_1 x7_1) false _ ?side1 ?side2 A7.out).mono ?_); (case side1 => repeat (first | exact (Kd.C_below HR1.out HB.out) | (with_reducible refine Kd.C_alloc ?_ _) | (with_reducible refine Kd.C_drewN ?_ _) | (with_reducible refine Kd.C_drew ?_))); (case side2 => exact HC1.out); rintro e w' ⟨rfl, ⟨nd, rfl⟩⟩; refine ⟨_, rfl, ?_⟩; have p196 : 0 ≤ (x7_1 : Int) := of_decide_eq_true (by first | (with_reducible assumption) | assumption); have q196 : x7_1 < (l0_1.length : Int) := of_decide_eq_true (by first | (with_reducible assumption) | assumption); obtain ⟨ad196, e196, hx196_0⟩ := Kd.at_string HR0_1.out x7_1 p196 q196; obtain rfl : ad194 = ad196 := (by injection e196); replace hx196_0 := (HB.out.cell (World.block_lt_of_cell? w _ hx196_0)).trans hx196_0; replace p196 := eq_true p196; replace q196 := eq_true q196) | (go_at_call 28; (with_reducible refine (quireref15_has.calls k1 _ _ l2 (rdOf ByteArray.empty l0_1 x7_1) false _ ?side1 ?side2 A10.out).mono ?_); (case side1 => repeat (first | exact (Kd.C_below HR2.out (by repeat (first | (with_reducible first | exact HB.out | apply below_alloc | apply pw_below_drewN | apply below_drew1 | refine below_set ?_ GE193.out) | exact HB.out))) | (with_reducible refine Kd.C_alloc ?_ _) | (with_reducible refine Kd.C_drewN ?_ _) | (with_reducible refine Kd.C_drew ?_))); (case side2 => exact HC2.out); rintro e w' ⟨rfl, ⟨nd, rfl⟩⟩))
              go_ret
              exact ⟨by first | rfl | (simp [errW_none, errW_some] <;> rfl) | (simp [*, errW_none, errW_some] <;> rfl), by repeat (first | (with_reducible first | exact HB.out | apply below_alloc | apply pw_below_drewN | apply below_drew1 | refine below_set ?_ GE193.out) | exact HB.out)⟩
        · rw [if_neg c6] at H
          exact absurd H (by simp)
      · rw [if_neg c5] at H
        have c5b0 : decide (x7_1 < (l0_1.length : Int)) = false := decide_eq_false c5
        clear c5
        obtain rfl := Option.some.inj H
        have hcz14_0 : wr.cell? ⟨gb193, 0, none⟩ = some (.string a0_0) := (blk_cell BK193.out 0).trans rfl
        have hcz14_1 : wr.cell? ⟨gb193, 1, none⟩ = some (.slice A0_1 l0_1.length c0_1) := (blk_cell BK193.out 1).trans rfl
        have hfz14_0 := blk_frozen BK193.out 0
        have hfz14_1 := blk_frozen BK193.out 1
        go_wp2
        go_ret
        exact ⟨by first | rfl | (simp [errW_none, errW_some] <;> rfl) | (simp [*, errW_none, errW_some] <;> rfl), by repeat (first | (with_reducible first | exact HB.out | apply below_alloc | apply pw_below_drewN | apply below_drew1 | refine below_set ?_ GE193.out) | exact HB.out)⟩

end Go.Proofs.Ytdllpgeagdckmaa.Q

/- The document's least: of a list that is not empty, by the builtin min. -/
namespace Go.Proofs.Ytdllpgeagdckmaa.Q
open Go.RowKit Go.Proofs.YtdllpgeagdckmaaW.PrintWords Go.Proofs.YtdllpgeagdckmaaW.PrintLast Go.Proofs.YtdllpgeagdckmaaW.PrintMore Go.Proofs.Ytdllpgeagdckmaa.MapKit Go.Maps Go.Proofs.Ytdllpgeagdckmaa.Ord
attribute [local go_sem] max2_int min2_int max_two min_two max_three min_three max_four min_four
set_option linter.unusedVariables false
set_option linter.unusedSimpArgs false

def minL (l : List ByteArray) : ByteArray := l.foldl Lib.minS (l.headD ByteArray.empty)
theorem minS_self (x : ByteArray) : Lib.minS x x = x := by unfold Lib.minS; split <;> rfl
theorem minL_step {l : List ByteArray} {i : Nat} (hi : i < l.length) (h0 : 0 < i) : (l.take (i + 1)).foldl Lib.minS (l.headD ByteArray.empty) = Lib.minS ((l.take i).foldl Lib.minS (l.headD ByteArray.empty)) l[i] := by
  rw [List.take_succ_eq_append_getElem hi, List.foldl_append]
  rfl
def quireref15_least.f (l : List ByteArray) : Option ByteArray := if 0 < l.length ∧ l.length ≤ 10000000 then some (minL l) else none

set_option maxHeartbeats 4000000 in
set_option maxRecDepth 100000 in
theorem quireref15_least.calls (A0 : Option Addr) (c0 : Nat) (l0 : List ByteArray) (r : ByteArray) (w : World) (hr0 : Kd.C Kd.string w A0 l0.length l0) (hc0 : l0.length ≤ c0) (h : quireref15_least.f l0 = some r) :
    Calls Try.prog 25 #[.slice A0 l0.length c0] w fun e w' => e = .returned (.string r) ∧ Drawn0 w w' := by
  unfold quireref15_least.f at h
  split at h
  · rename_i hb
    cases h
    obtain ⟨hb1, hb2⟩ := hb
    have HR := Aside0.mk hr0
    have hmin : ∀ (w : World) (x y : ByteArray), (Builtin.min2 (.string x) (.string y)).run Try.prog w = .ok (.string (Lib.minS x y)) w := fun w x y => by simpa [Builtin.min_] using Lib.run_min_strs (P := Try.prog) w #[] 9 x y
    obtain ⟨ad, rfl, z0⟩ := name_at hr0 0 hb1
    have e0 : ad.add 0 = ad := by simp [Addr.add]
    have hbi : (0 : Int) < (l0.length : Int) := by omega
    have hbj : (l0.length : Int) ≤ 10000000 := by omega
    have hh : l0[0] = l0.headD ByteArray.empty := by cases l0 with
      | nil => simp at hb1
      | cons x l => rfl
    obtain ⟨s0, hs0⟩ : ∃ s, s = l0[0] := ⟨_, rfl⟩
    rw [← hs0] at z0 hh
    rw [e0] at z0
    have HH := Aside0.mk hh
    clear hr0 hh hs0 e0
    go_enter Try.func25, Try.ntmps25
    go_wp2_with fail
    go_loopg [3, 4] l0.length (fun kq v3 v4 w' => w' = w ∧ ∃ i : Nat, v4 = .int .i64 (i : Int) ∧ Aside0 (1 ≤ i ∧ i ≤ l0.length) ∧ Aside0 (kq + i = l0.length + 1) ∧ v3 = .string ((l0.take i).foldl Lib.minS (l0.headD ByteArray.empty)))
    case atStart =>
      refine ⟨rfl, 1, rfl, ⟨by omega⟩, ⟨by omega⟩, ?_⟩
      have e : (l0.take 1).foldl Lib.minS (l0.headD ByteArray.empty) = s0 := by
        rw [HH.out]
        cases l0 with
        | nil => rfl
        | cons x l => exact minS_self x
      rw [e]
    obtain ⟨rfl, i, rfl, HI, HK, rfl⟩ := hrel
    obtain ⟨s, hs⟩ : ∃ s, s = (l0.take i).foldl Lib.minS (l0.headD ByteArray.empty) := ⟨_, rfl⟩
    rw [← hs]
    have hi := HI.out
    have hk := HK.out
    by_cases hlt : i < l0.length
    · have hz : decide ((i : Int) < (l0.length : Int)) = true := decide_eq_true (by omega)
      obtain ⟨k1, rfl⟩ : ∃ k1, gk = k1 + 1 := ⟨gk - 1, by omega⟩
      obtain ⟨ad', e', z1⟩ := name_at HR.out i hlt
      cases e'
      have hst := minL_step hlt (by omega)
      obtain ⟨u, hu⟩ : ∃ u, u = l0[i] := ⟨_, rfl⟩
      rw [← hu] at z1 hst
      rw [← hs] at hst
      have HST := Aside0.mk hst
      clear hst hu hs
      go_wp2_with fail
      go_roundg k1
      case measure => omega
      case rel => exact ⟨rfl, i + 1, by push_cast; rfl, ⟨by omega⟩, ⟨by omega⟩, by rw [HST.out]⟩
    · have hz : decide ((i : Int) < (l0.length : Int)) = false := decide_eq_false (by omega)
      have he : s = minL l0 := by rw [hs, List.take_of_length_le (by omega)]; rfl
      have HE := Aside0.mk he
      clear hs he
      go_wp2_with fail
      go_ret
      exact ⟨by rw [← HE.out]; rfl, Drawn0.refl _⟩
  · cases h
end Go.Proofs.Ytdllpgeagdckmaa.Q

/- The document's find and has come to what they say. -/
namespace Go.Proofs.Ytdllpgeagdckmaa.Q
open Go.RowKit Go.Proofs.YtdllpgeagdckmaaW.PrintWords Go.Proofs.YtdllpgeagdckmaaW.PrintLast Go.Proofs.YtdllpgeagdckmaaW.PrintMore Go.Proofs.Ytdllpgeagdckmaa.Ord
set_option linter.unusedVariables false
set_option linter.unusedSimpArgs false

/-- The place of a name in a list of names and uses; -1: there is none. -/
def Fd (l : List S33) (s : ByteArray) (v : Int) : Prop := (v = -1 ∧ s ∉ l.map (·.f0)) ∨ ∃ j : Nat, v = (j : Int) ∧ ∃ h : j < l.length, l[j].f0 = s
theorem find_l0 (l : List S33) (s : ByteArray) (hl : l.length ≤ 10000000) : ∀ n i : Nat, i + n = l.length → s ∉ (l.take i).map (·.f0) → ∃ v, Ev (fun k => quireref15_find.l0 k l s (i : Int)) v ∧ Fd l s v
  | 0, i, hi, hm => ⟨-1, Ev.step (f := fun _ => some (-1)) (fun k => by
      unfold quireref15_find.l0
      rw [if_neg (by omega)]) (Ev.now _), .inl ⟨rfl, by rwa [List.take_of_length_le (by omega)] at hm⟩⟩
  | n + 1, i, hi, hm => by
    have hlt : i < l.length := by omega
    by_cases he : l[i].f0 = s
    · refine ⟨(i : Int), Ev.step (f := fun _ => some (i : Int)) (fun k => ?_) (Ev.now _), .inr ⟨i, rfl, hlt, he⟩⟩
      unfold quireref15_find.l0
      rw [if_pos (by omega), if_pos (by omega), rd33_at hlt, if_pos (by rw [he])]
    · obtain ⟨v, hv, hp⟩ := find_l0 l s hl n (i + 1) (by omega) (by
        rw [List.take_succ_eq_append_getElem hlt, List.map_append, List.mem_append]
        rintro (h | h)
        · exact hm h
        · simp only [List.map_cons, List.map_nil, List.mem_singleton] at h
          exact he h.symm)
      refine ⟨v, Ev.step (fun k => ?_) hv, hp⟩
      conv => lhs; unfold quireref15_find.l0
      rw [if_pos (by omega), if_pos (by omega), rd33_at hlt, if_neg (fun h => he (toList_eq.1 h)), w64 (by omega) (by omega)]
      rfl
theorem find_ev (l : List S33) (s : ByteArray) (hl : l.length ≤ 10000000) : ∃ v, Ev (fun k => quireref15_find.f k l s) v ∧ Fd l s v := find_l0 l s hl l.length 0 (by omega) (by simp)

theorem has_l0 (l : List ByteArray) (s : ByteArray) (hl : l.length ≤ 10000000) : ∀ n i : Nat, i + n = l.length → s ∉ l.take i → ∃ b : Bool, Ev (fun k => quireref15_has.l0 k l s (i : Int)) b ∧ (b = true ↔ s ∈ l)
  | 0, i, hi, hm => ⟨false, Ev.step (f := fun _ => some false) (fun k => by
      unfold quireref15_has.l0
      rw [if_neg (by omega)]) (Ev.now _), by rw [List.take_of_length_le (by omega)] at hm; simp [hm]⟩
  | n + 1, i, hi, hm => by
    have hlt : i < l.length := by omega
    by_cases he : l[i] = s
    · refine ⟨true, Ev.step (f := fun _ => some true) (fun k => ?_) (Ev.now _), ?_⟩
      · unfold quireref15_has.l0
        rw [if_pos (by omega), if_pos (by omega), rd_at hlt, if_pos (by rw [he])]
      · rw [← he]
        simp
    · obtain ⟨v, hv, hp⟩ := has_l0 l s hl n (i + 1) (by omega) (by
        rw [List.take_succ_eq_append_getElem hlt, List.mem_append, List.mem_singleton]
        rintro (h | h)
        · exact hm h
        · exact he h.symm)
      refine ⟨v, Ev.step (fun k => ?_) hv, hp⟩
      conv => lhs; unfold quireref15_has.l0
      rw [if_pos (by omega), if_pos (by omega), rd_at hlt, if_neg (fun h => he (toList_eq.1 h)), w64 (by omega) (by omega)]
      rfl
theorem has_ev (l : List ByteArray) (s : ByteArray) (hl : l.length ≤ 10000000) : ∃ b : Bool, Ev (fun k => quireref15_has.f k l s) b ∧ (b = true ↔ s ∈ l) := has_l0 l s hl l.length 0 (by omega) (by simp)
end Go.Proofs.Ytdllpgeagdckmaa.Q
