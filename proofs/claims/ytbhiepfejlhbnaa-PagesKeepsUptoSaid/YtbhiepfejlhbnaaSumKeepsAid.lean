/- SumKeeps: what its walk asks is so, from some number of rounds on; the contract for the row. -/
import Derived.Test.YtbhiepfejlhbnaaSumRowsAid
import Derived.Test.YtbhiepfejlhbnaaSumKeepsWalk
namespace Go.Proofs.Ytbhiepfejlhbnaa.Q
open Go.RowKit Go.Proofs.YtbhiepfejlhbnaaW.PrintWords Go.Proofs.YtbhiepfejlhbnaaW.PrintLast Go.Proofs.YtbhiepfejlhbnaaW.PrintMore Go.Proofs.Ytbhiepfejlhbnaa.SumSpec Go.Proofs.Ytbhiepfejlhbnaa.Opens
set_option linter.unusedVariables false

theorem sum_l1_ex (l : List Int) (i : Int) (nxt : Int → Option Int) (hn : ∀ y, ∃ r, Ev (fun k => sum_Sum.l0 k y l (l.length : Int) (wrap64 (i + 1))) r) : ∀ (d j : Nat) (x : Int), j + d = 8 → ∃ r, Ev (fun k => sum_Sum.l1 k x l (l.length : Int) i (j : Int)) r
  | 0, j, x, hj => by
    obtain ⟨r, hr⟩ := hn x
    refine ⟨r, Ev.step (fun k => ?_) hr⟩
    conv => lhs; unfold sum_Sum.l1
    rw [if_neg (by omega)]
  | d + 1, j, x, hj => by
    have hw : wrap64 ((j : Int) + 1) = ((j + 1 : Nat) : Int) := by rw [w64 (by omega) (by omega)]; omega
    by_cases hb : Go.bits .and .u32 x 1 = 1
    · obtain ⟨r, hr⟩ := sum_l1_ex l i nxt hn d (j + 1) (Go.bits .xor .u32 (x / 2) 3988292384) (by omega)
      refine ⟨r, Ev.step (fun k => ?_) hr⟩
      conv => lhs; unfold sum_Sum.l1
      rw [if_pos (by omega), if_pos hb, hw]
    · obtain ⟨r, hr⟩ := sum_l1_ex l i nxt hn d (j + 1) (x / 2) (by omega)
      refine ⟨r, Ev.step (fun k => ?_) hr⟩
      conv => lhs; unfold sum_Sum.l1
      rw [if_pos (by omega), if_neg hb, hw]

theorem sum_l0_ex (l : List Int) (hl : l.length ≤ Lim) : ∀ (d i : Nat) (x : Int), i + d = l.length → ∃ r, Ev (fun k => sum_Sum.l0 k x l (l.length : Int) (i : Int)) r
  | 0, i, x, hi => by
    refine ⟨_, Ev.step (f := fun _ => some (Go.bits .xor .u32 4294967295 x)) (fun k => ?_) (Ev.now _)⟩
    conv => lhs; unfold sum_Sum.l0
    rw [if_neg (by omega)]
  | d + 1, i, x, hi => by
    unfold Lim at hl
    have hw : wrap64 ((i : Int) + 1) = ((i + 1 : Nat) : Int) := by rw [w64 (by omega) (by omega)]; omega
    obtain ⟨r, hr⟩ := sum_l1_ex l (i : Int) (fun _ => none) (fun y => by rw [hw]; exact sum_l0_ex l (by unfold Lim; omega) d (i + 1) y (by omega)) 8 0 (Go.bits .xor .u32 x ((rd l (i : Int)) % 4294967296)) rfl
    refine ⟨r, Ev.step (fun k => ?_) hr⟩
    conv => lhs; unfold sum_Sum.l0
    rw [if_pos (by omega), if_pos (by omega), if_pos (by omega)]
    rfl

theorem sum_ev_ex (l : List Int) (hl : l.length ≤ Lim) : ∃ r, Ev (fun k => sum_Sum.f k l) r := by
  obtain ⟨r, hr⟩ := sum_l0_ex l hl l.length 0 4294967295 (by omega)
  exact ⟨r, Ev.congr (fun k => rfl) hr⟩

theorem ev_both {α β : Type} {f : Nat → Option α} {g : Nat → Option β} {P : Nat → Prop} {r : α} (h : Ev f r) (k : ∃ K, ∀ n, K ≤ n → P n) : ∃ K, ∀ n, K ≤ n → f n = some r ∧ P n := by
  obtain ⟨a, ha⟩ := h
  obtain ⟨b, hb⟩ := k
  exact ⟨max a b, fun n hn => ⟨ha n (by omega), hb n (by omega)⟩⟩

theorem sumKeeps_holds (w : World) (A0 : Option Addr) (c0 : Nat) (l0 : List (List Int)) (h0 : (Kd.slice 5 (Kd.int .u8)).C w A0 l0.length l0) (hc0 : l0.length ≤ c0) (q0 : ∀ x ∈ l0, ∀ p ∈ x, (Lit.int .u8 p).wf = true)
    (A1 : Option Addr) (c1 : Nat) (l1 : List Int) (h1 : (Kd.int .u8).C w A1 l1.length l1) (hc1 : l1.length ≤ c1) (q1 : ∀ p ∈ l1, (Lit.int .u8 p).wf = true) (hB : (l0.map (fun x => x.length + 1)).sum + 1 + l1.length ≤ 1048576) :
    Calls Try.prog 5 #[.slice A0 l0.length c0, .slice A1 l1.length c1] w fun e w' => e = .returned (.bool true) ∧ Below w.heap.size w w' := by
  obtain ⟨hs, hj⟩ := short_of (l := l0) (B := (l0.map (fun x => x.length + 1)).sum + 1) (Nat.le_refl _) (by omega)
  have hl1 : l1.length ≤ Lim := by unfold Lim; omega
  have hjl : (joinS l0).length ≤ Lim := by unfold Lim; omega
  have hbt := byt_wf q1
  obtain ⟨sm, hsm⟩ := sum_ev_ex l1 hl1
  have hrs := short_res hbt (show l1.length ≤ 10000000 by omega)
  have hd : ∀ {α : Type} [DecidableEq α] (x : α), decide (x = x) = true := fun x => decide_eq_true rfl
  have s1 := sameL_ev l0 l0 hs
  have s2 := same_ev l1 l1 hl1
  have s3 := same_ev (joinS l0) (joinS l0) hjl
  have s4 := sameL_ev (resSp (splitS l1)).1 (resSp (splitS l1)).1 hrs
  rw [decide_eq_true rfl] at s1 s2 s3 s4
  have hrd := read_ev l1 hbt hl1 0 (by omega) (by omega)
  obtain ⟨K, hK⟩ := ev_both (β := Unit) (g := fun _ => none) awake_ev (ev_both (β := Unit) (g := fun _ => none) (owns_ev l0 hs) (ev_both (β := Unit) (g := fun _ => none) (join_ev l0 hs hjl) (ev_both (β := Unit) (g := fun _ => none) hsm (ev_both (β := Unit) (g := fun _ => none) hrd (ev_both (β := Unit) (g := fun _ => none) (split_ev l1 hbt hl1) (ev_both (β := Unit) (g := fun _ => none) s1 (ev_both (β := Unit) (g := fun _ => none) s2 (ev_both (β := Unit) (g := fun _ => none) s3 (ev_both (β := Unit) (g := fun _ => none) s4 ⟨0, fun _ _ => trivial⟩)))))))))
  obtain ⟨t1, t2, t3, t4, t5, t6, t7, t8, t9, t10, _⟩ := hK K (Nat.le_refl _)
  have hlen := sum_len l0
  have hz : ∀ x ∈ (resSp (splitS l1)).1, x.length ≤ 10000000 ∧ (resSp (splitS l1)).1.length ≤ 1048576 := by
    cases h : splitS l1 with
    | none => intro x hx; cases hx
    | some z =>
      have hz := splitS_some l1 z hbt h
      have h2 := body_len z
      have h3 : (joinS z).length = (num z.length).length + (body z).length := by simp [joinS]
      rw [hz] at h3
      intro x hx
      have := mem_body_len (show x ∈ z from hx)
      refine ⟨by omega, ?_⟩
      show z.length ≤ _
      omega
  have hzl : (resSp (splitS l1)).1.length ≤ 2000000 := by
    cases h : (resSp (splitS l1)).1 with
    | nil => simp
    | cons x r => have := (hz x (by rw [h]; exact List.mem_cons_self)).2; rw [h] at this; omega
  refine sumKeeps_walk K w A0 c0 l0 h0 hc0 A1 c1 l1 h1 hc1 (joinS l0) (resSp (splitS l1)).1 (resSp (splitS l1)).2 sm _ _ _ t1 t2 (own_ev l1 hl1) t3 t4 t5 t6 t7 t8 t9 t10 ?_ (by omega) (by omega) hzl (fun x hx => by have := sum_mem x hx; omega) (fun x hx => by have := (hz x hx).1; omega) (by omega)
  cases splitS l1 with
  | none => exact .inr rfl
  | some z => exact .inl rfl

end Go.Proofs.Ytbhiepfejlhbnaa.Q
