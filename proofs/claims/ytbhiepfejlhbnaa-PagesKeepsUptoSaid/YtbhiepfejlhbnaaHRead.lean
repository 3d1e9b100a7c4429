/- Contracts of the functions that sum.Reader makes (closures over a slice, a place and a fault), typed by hand over the printed contract of sum.Read. -/
import Derived.Test.YtbhiepfejlhbnaaQ1
import Derived.OneCell
namespace Go.Proofs.Ytbhiepfejlhbnaa.Q
open Go.RowKit Go.Proofs.YtbhiepfejlhbnaaW.PrintWords Go.Proofs.YtbhiepfejlhbnaaW.PrintLast Go.Proofs.YtbhiepfejlhbnaaW.PrintMore
attribute [local go_sem] max2_int min2_int max_two min_two max_three min_three max_four min_four
set_option linter.unusedVariables false
set_option linter.unusedSimpArgs false

/-- What the first function of a Reader comes to: the number, the place, the fault. -/
def rdNum (k : Nat) (l : List Int) (at_ : Int) (bad : Bool) : Option (Int × Int × Bool) :=
  (sum_Read.f k l at_).bind fun b => if bad = true then some (0, at_, true) else if b.2.2 = 0 then some (b.1, b.2.1, false) else some (0, at_, true)

/-- What the second comes to. -/
def rdBytes (l : List Int) (at_ : Int) (bad : Bool) (n : Int) : Option (List Int × Int × Bool) :=
  if bad = true then some ([], at_, true) else
  if n > IntKind.u64.wrap (wrap64 ((l.length : Int) - at_)) then some ([], at_, true) else
  if 0 ≤ at_ ∧ 0 ≤ n ∧ at_ + n ≤ l.length ∧ (l.length : Int) < 140737488355328 then some ((l.take (at_ + n).toNat).drop at_.toNat, at_ + n, false) else none

/-- A one-cell block. -/
def Box1 (w : World) (b t : Nat) (v : Value) : Prop := w.heap[b]? = some (.cells #[v] t (0, 0))

theorem Box1.cell {w : World} {b t : Nat} {v : Value} (h : Box1 w b t v) : w.cell? ⟨b, 0, none⟩ = some v := by
  unfold Box1 at h; simp [World.cell?, h]
theorem Box1.free {w : World} {b t : Nat} {v : Value} (h : Box1 w b t v) : w.frozen? ⟨b, 0, none⟩ = false := by
  unfold Box1 at h; simp [World.frozen?, h]
theorem Box1.set {w : World} {b t : Nat} {v : Value} (h : Box1 w b t v) (u : Value) : Box1 (w.setCell ⟨b, 0, none⟩ u) b t u := by
  unfold Box1 at h ⊢; simp [World.setCell, Array.getElem?_modify, h]
theorem Box1.far {w : World} {b t : Nat} {v : Value} (h : Box1 w b t v) {p : Addr} (hp : b ≠ p.block) (u : Value) : Box1 (w.setCell p u) b t v := (Below.heap_setCell w p u b hp).trans h
theorem Box1.lt {w : World} {b t : Nat} {v : Value} (h : Box1 w b t v) : b < w.heap.size := blk_lt h
theorem Box1.drewN {w : World} {b t : Nat} {v : Value} (h : Box1 w b t v) (m : Nat) : Box1 (w.drewN m) b t v := h

/-- A list of bytes that is read is the same where every cell that held a byte holds it still. -/
theorem C_cells {k : IntKind} {w w' : World} {A : Option Addr} {n : Nat} {xs : List Int} (h : Kd.C (Kd.int k) w A n xs) (hk : ∀ p x, w.cell? p = some (.int k x) → w'.cell? p = some (.int k x)) : Kd.C (Kd.int k) w' A n xs := by
  refine ⟨h.1, h.2.1, fun hn => ?_⟩
  obtain ⟨ad, e, hc⟩ := h.2.2 hn
  refine ⟨ad, e, fun j p hj => ?_⟩
  obtain ⟨c, hl, hR, hcell⟩ := hc j p hj
  refine ⟨c, hl, hR, fun i u hu => ?_⟩
  have hR' : c = [Value.int k p] := hR
  subst hR'
  have : u = Value.int k p := by
    cases i with
    | zero => simpa using hu.symm
    | succ i => simp at hu
  subst this
  exact hk _ _ (hcell i _ hu)

/-- A cell that holds what a box does not hold is none of the box. -/
theorem Box1.other {w : World} {b t : Nat} {v : Value} (h : Box1 w b t v) {p : Addr} {u : Value} (hp : w.cell? p = some u) (hne : u ≠ v) : p.block ≠ b := by
  intro e
  unfold Box1 at h
  unfold World.cell? at hp
  rw [e, h] at hp
  simp only at hp
  split at hp
  · cases hp
  · obtain ⟨hlt, hv⟩ := Array.getElem?_eq_some_iff.1 hp
    have h0 : p.off = 0 := by
      have : p.off < 1 := hlt
      omega
    apply hne
    rw [← hv]
    simp [h0]

theorem Box1.C_set {k : IntKind} {w : World} {A : Option Addr} {n : Nat} {xs : List Int} {b t : Nat} {v : Value} (hb : Box1 w b t v) (hv : ∀ x, Value.int k x ≠ v) (u : Value) (h : Kd.C (Kd.int k) w A n xs) : Kd.C (Kd.int k) (w.setCell ⟨b, 0, none⟩ u) A n xs :=
  C_cells h fun p x hp => (World.cell?_setCell_other _ _ _ _ (fun e => hb.other hp (hv x) (by rw [← e]))).trans hp

theorem size_set (w : World) (a : Addr) (u : Value) : (w.setCell a u).heap.size = w.heap.size := by simp [World.setCell]
theorem size_set2 (w : World) (a b : Addr) (u v : Value) : ((w.setCell a u).setCell b v).heap.size = w.heap.size := by rw [size_set, size_set]
/-- Same streams. -/
def SameStr (w w' : World) : Prop := w'.os = w.os ∧ w'.tape = w.tape ∧ w'.output = w.output


theorem keep2 {w : World} {b5 b6 : Nat} {m : Nat} (u v : Value) : Kept w (((w.drewN m).setCell ⟨b6, 0, none⟩ u).setCell ⟨b5, 0, none⟩ v) (fun k => k = b5 ∨ k = b6) :=
  (((Kept.refl w _).drewN m).setCell (p := ⟨b6, 0, none⟩) (.inl (.inr rfl)) u).setCell (p := ⟨b5, 0, none⟩) (.inl (.inl rfl)) v
theorem keep1 {w : World} {b5 b6 : Nat} {m : Nat} (u : Value) : Kept w ((w.drewN m).setCell ⟨b6, 0, none⟩ u) (fun k => k = b5 ∨ k = b6) :=
  ((Kept.refl w _).drewN m).setCell (p := ⟨b6, 0, none⟩) (.inl (.inr rfl)) u

theorem num_calls (k : Nat) (A0 : Option Addr) (c0 : Nat) (l0 : List Int) (b1 b5 b6 : Nat) (at_ : Int) (bad : Bool) (n' at' : Int) (bad' : Bool) (w : World)
    (hr0 : Kd.C (Kd.int .u8) w A0 l0.length l0) (hc0 : l0.length ≤ c0) (h1 : Box1 w b1 23 (.slice A0 l0.length c0)) (h5 : Box1 w b5 3 (.int .i64 at_)) (h6 : Box1 w b6 4 (.bool bad))
    (hne : b5 ≠ b6) (h : rdNum k l0 at_ bad = some (n', at', bad')) :
    Calls Try.prog 36 #[.pointer (some ⟨b1, 0, none⟩), .pointer (some ⟨b5, 0, none⟩), .pointer (some ⟨b6, 0, none⟩)] w fun e w' => e = .returned (.int .u64 n') ∧
      Box1 w' b5 3 (.int .i64 at') ∧ Box1 w' b6 4 (.bool bad') ∧ Kept w w' (fun k => k = b5 ∨ k = b6) ∧ SameStr w w' := by
  have c1 := h1.cell
  have c5 := h5.cell
  have c6 := h6.cell
  have f5 := h5.free
  have f6 := h6.free
  have HR0 := Aside0.mk hr0
  have HC0 := Aside0.mk hc0
  have H5 := Aside0.mk h5
  have H6 := Aside0.mk h6
  clear hr0 hc0 h1 h5 h6
  unfold rdNum at h
  obtain ⟨⟨r1, r2, r3⟩, hread, h'⟩ := Option.bind_eq_some_iff.mp h
  have HRD := Aside0.mk hread
  have c5' : ∀ m (u : Value), ((w.drewN m).setCell ⟨b6, 0, none⟩ u).cell? ⟨b5, 0, none⟩ = some (.int .i64 at_) := fun m u => by
    rw [World.cell?_setCell_other _ _ _ _ (by simp [hne.symm])]; exact c5
  have HNE := Aside0.mk hne
  clear hread h hne
  cases bad with
  | true =>
    simp only [if_true, Option.some.injEq, Prod.mk.injEq] at h'
    obtain ⟨rfl, rfl, rfl⟩ := h'
    go_enter Try.func36, Try.ntmps36
    go_wp2_with fail
    refine (sum_Read.calls k A0 c0 l0 at_ r1 r2 r3 w HR0.out HC0.out HRD.out).mono ?_
    rintro e w1 ⟨rfl, m, rfl⟩
    go_wp2
    go_ret
    exact ⟨rfl, (H5.out.drewN m).far (p := ⟨b6, 0, none⟩) HNE.out _, (H6.out.drewN m).set _, keep1 _, rfl, rfl, rfl⟩
  | false =>
    simp only [Bool.false_eq_true, if_false] at h'
    by_cases hz : r3 = 0
    · rw [if_pos hz] at h'
      simp only [Option.some.injEq, Prod.mk.injEq] at h'
      obtain ⟨rfl, rfl, rfl⟩ := h'
      subst hz
      go_enter Try.func36, Try.ntmps36
      go_wp2_with fail
      refine (sum_Read.calls k A0 c0 l0 at_ r1 r2 0 w HR0.out HC0.out HRD.out).mono ?_
      rintro e w1 ⟨rfl, m, rfl⟩
      go_wp2
      go_ret
      exact ⟨rfl, ((H5.out.drewN m).far (p := ⟨b6, 0, none⟩) HNE.out _).set _, ((H6.out.drewN m).set _).far (p := ⟨b5, 0, none⟩) HNE.out.symm _, keep2 _ _, rfl, rfl, rfl⟩
    · rw [if_neg hz] at h'
      simp only [Option.some.injEq, Prod.mk.injEq] at h'
      obtain ⟨rfl, rfl, rfl⟩ := h'
      have hz' : (r3 != 0) = true := by simpa using hz
      clear hz
      go_enter Try.func36, Try.ntmps36
      go_wp2_with fail
      refine (sum_Read.calls k A0 c0 l0 at_ r1 r2 r3 w HR0.out HC0.out HRD.out).mono ?_
      rintro e w1 ⟨rfl, m, rfl⟩
      go_wp2
      go_ret
      exact ⟨rfl, (H5.out.drewN m).far (p := ⟨b6, 0, none⟩) HNE.out _, (H6.out.drewN m).set _, keep1 _, rfl, rfl, rfl⟩

/-- The third: was all read without a fault? -/
theorem done_calls (A0 : Option Addr) (c0 : Nat) (n : Nat) (b1 b5 b6 : Nat) (at_ : Int) (bad : Bool) (w : World)
    (h1 : Box1 w b1 23 (.slice A0 n c0)) (h5 : Box1 w b5 3 (.int .i64 at_)) (h6 : Box1 w b6 4 (.bool bad)) :
    Calls Try.prog 38 #[.pointer (some ⟨b6, 0, none⟩), .pointer (some ⟨b5, 0, none⟩), .pointer (some ⟨b1, 0, none⟩)] w fun e w' => e = .returned (.bool (!bad && (at_ == (n : Int)))) ∧ w = w' := by
  have c1 := h1.cell
  have c5 := h5.cell
  have c6 := h6.cell
  clear h1 h5 h6
  cases bad
  all_goals
    go_enter Try.func38, Try.ntmps38
    go_wp2
    all_goals go_ret
    all_goals exact ⟨by simp, rfl⟩


theorem bytes_bad (A0 : Option Addr) (c0 : Nat) (n0 : Nat) (b1 b5 b6 : Nat) (at_ : Int) (n : Int) (w : World)
    (h1 : Box1 w b1 23 (.slice A0 n0 c0)) (h5 : Box1 w b5 3 (.int .i64 at_)) (h6 : Box1 w b6 4 (.bool true)) (hne : b5 ≠ b6) :
    Calls Try.prog 37 #[.int .u64 n, .pointer (some ⟨b6, 0, none⟩), .pointer (some ⟨b1, 0, none⟩), .pointer (some ⟨b5, 0, none⟩)] w fun e w' => e = .returned (.slice none 0 0) ∧
      Box1 w' b5 3 (.int .i64 at_) ∧ Box1 w' b6 4 (.bool true) ∧ Kept w w' (fun k => k = b5 ∨ k = b6) ∧ SameStr w w' := by
  have c1 := h1.cell
  have c5 := h5.cell
  have c6 := h6.cell
  have f6 := h6.free
  have H5 := Aside0.mk h5
  have H6 := Aside0.mk h6
  have HNE := Aside0.mk hne
  clear h1 h5 h6 hne
  go_enter Try.func37, Try.ntmps37
  go_wp2
  go_ret
  exact ⟨rfl, H5.out.far (p := ⟨b6, 0, none⟩) HNE.out _, H6.out.set _, (Kept.refl w _).setCell (p := ⟨b6, 0, none⟩) (.inl (.inr rfl)) _, rfl, rfl, rfl⟩

theorem bytes_far (A0 : Option Addr) (c0 : Nat) (n0 : Nat) (b1 b5 b6 : Nat) (at_ : Int) (n : Int) (w : World)
    (h1 : Box1 w b1 23 (.slice A0 n0 c0)) (h5 : Box1 w b5 3 (.int .i64 at_)) (h6 : Box1 w b6 4 (.bool false)) (hne : b5 ≠ b6) (hn : n > IntKind.u64.wrap (wrap64 ((n0 : Int) - at_))) (ha : 0 ≤ at_) (hl : at_ ≤ n0) (hm : (n0 : Int) ≤ 140737488355328) :
    Calls Try.prog 37 #[.int .u64 n, .pointer (some ⟨b6, 0, none⟩), .pointer (some ⟨b1, 0, none⟩), .pointer (some ⟨b5, 0, none⟩)] w fun e w' => e = .returned (.slice none 0 0) ∧
      Box1 w' b5 3 (.int .i64 at_) ∧ Box1 w' b6 4 (.bool true) ∧ Kept w w' (fun k => k = b5 ∨ k = b6) ∧ SameStr w w' := by
  have c1 := h1.cell
  have c5 := h5.cell
  have c6 := h6.cell
  have f6 := h6.free
  have H5 := Aside0.mk h5
  have H6 := Aside0.mk h6
  have HNE := Aside0.mk hne
  have hn' : ((n0 : Int) - at_) < n := by
    have e1 : wrap64 ((n0 : Int) - at_) = (n0 : Int) - at_ := by unfold wrap64; omega
    have e2 : IntKind.u64.wrap ((n0 : Int) - at_) = (n0 : Int) - at_ := by rw [IntKind.wrap_u64]; omega
    rw [e1, e2] at hn
    exact hn
  clear h1 h5 h6 hne hn
  go_enter Try.func37, Try.ntmps37
  go_wp2
  go_ret
  exact ⟨rfl, H5.out.far (p := ⟨b6, 0, none⟩) HNE.out _, H6.out.set _, (Kept.refl w _).setCell (p := ⟨b6, 0, none⟩) (.inl (.inr rfl)) _, rfl, rfl, rfl⟩

set_option maxRecDepth 100000 in
theorem bytes_ok (A0 : Option Addr) (c0 : Nat) (l0 : List Int) (b1 b5 b6 : Nat) (at_ : Int) (n : Int) (w : World) (hr0 : Kd.C (Kd.int .u8) w A0 l0.length l0) (hc0 : l0.length ≤ c0)
    (h1 : Box1 w b1 23 (.slice A0 l0.length c0)) (h5 : Box1 w b5 3 (.int .i64 at_)) (h6 : Box1 w b6 4 (.bool false)) (hne : b5 ≠ b6) (ha : 0 ≤ at_) (hn : 0 ≤ n) (hl : at_ + n ≤ l0.length) (hm : (l0.length : Int) ≤ 140737488355327) :
    Calls Try.prog 37 #[.int .u64 n, .pointer (some ⟨b6, 0, none⟩), .pointer (some ⟨b1, 0, none⟩), .pointer (some ⟨b5, 0, none⟩)] w fun e w' => ∃ v, e = .returned v ∧ Kd.R (Kd.int .u8) 5 w' w.heap.size (fun _ => True) v ((l0.take (at_ + n).toNat).drop at_.toNat) ∧
      Box1 w' b5 3 (.int .i64 (at_ + n)) ∧ Box1 w' b6 4 (.bool false) ∧ Kept w w' (fun k => k = b5 ∨ k = b6) ∧ SameStr w w' := by
  have c1 := h1.cell
  have c5 := h5.cell
  have c6 := h6.cell
  have f5 := h5.free
  have f6 := h6.free
  have h15 : b1 ≠ b5 := fun e => by subst e; unfold Box1 at h1 h5; rw [h1] at h5; cases h5
  have h16 : b1 ≠ b6 := fun e => by subst e; unfold Box1 at h1 h6; rw [h1] at h6; cases h6
  have H5 := Aside0.mk h5
  have H6 := Aside0.mk h6
  have hn' : ¬ ((l0.length : Int) - at_) < n := by omega
  have c5a : ∀ u : Value, (w.setCell ⟨b6, 0, none⟩ u).cell? ⟨b5, 0, none⟩ = some (.int .i64 at_) := fun u => by
    rw [World.cell?_setCell_other _ _ _ _ (by simp [hne.symm])]; exact c5
  have f5a : ∀ u : Value, (w.setCell ⟨b6, 0, none⟩ u).frozen? ⟨b5, 0, none⟩ = false := fun u => by rw [World.frozen?_setCell]; exact f5
  have c1a : ∀ u : Value, (w.setCell ⟨b6, 0, none⟩ u).cell? ⟨b1, 0, none⟩ = some (.slice A0 l0.length c0) := fun u => by
    rw [World.cell?_setCell_other _ _ _ _ (by simp [h16.symm])]; exact c1
  have c1b : ∀ u v : Value, ((w.setCell ⟨b6, 0, none⟩ u).setCell ⟨b5, 0, none⟩ v).cell? ⟨b1, 0, none⟩ = some (.slice A0 l0.length c0) := fun u v => by
    rw [World.cell?_setCell_other _ _ _ _ (by simp [h15.symm])]; exact c1a u
  have c5b : ∀ u v : Value, ((w.setCell ⟨b6, 0, none⟩ u).setCell ⟨b5, 0, none⟩ v).cell? ⟨b5, 0, none⟩ = some v := fun u v => World.cell?_setCell_same _ _ _ (c5a u)
  obtain ⟨i0, hi0, _, hsz, _⟩ := info_parts info5
  obtain ⟨A17, hcut, hA17, hC17⟩ := print_mid_of (P := Try.prog) (Value.int .u8) 0 23 5 .i64 .i64 Try.underlying23 hi0 hsz A0 c0 l0 at_ (at_ + n) ha (by omega) hl hc0
  have hr1 : Kd.C (Kd.int .u8) ((w.setCell ⟨b6, 0, none⟩ (.bool false)).setCell ⟨b5, 0, none⟩ (.int .i64 (at_ + n))) A0 l0.length l0 :=
    (h5.far (p := ⟨b6, 0, none⟩) hne _).C_set (fun x => by simp) _ (h6.C_set (fun x => by simp) _ hr0)
  have HR := Aside0.mk (Kd.C_of_reads (h1 := fun _ => rfl) (hA17 _ (Kd.reads_of_C hr1)))
  have HL := Aside0.mk (show ((l0.take (at_ + n).toNat).drop at_.toNat).length < 140737488355328 by rw [List.length_drop, List.length_take]; omega)
  clear h1 h5 h6 hi0 hsz hA17 hC17 hr0 hc0 hr1
  obtain ⟨ys, hys⟩ : ∃ ys, ys = (l0.take (at_ + n).toNat).drop at_.toNat := ⟨_, rfl⟩
  rw [← hys] at hcut HR HL ⊢
  have HYS := Aside0.mk hys
  have HNE := Aside0.mk hne
  have H15 := Aside0.mk h15
  have H16 := Aside0.mk h16
  clear hys h15 h16
  clear c1a
  go_enter Try.func37, Try.ntmps37
  go_wp2_with (first | ((with_reducible refine gate_dst (N := 21) rfl ?_); refine Kd.R_lit (Kd.int .u8) _ 5 ?hg (N := 21) ?hd (xs := ([] : List Int)) (inner := []) (ok := fun _ => True) (okp := fun _ => True) ?hr ?hp (fun _ hk => hk) trivial (Below.refl _ _) (Nat.le_refl _) (by simp) ?_; (case hd => rfl); (case hg => rfl); (case hr => first | (go_simp; done) | (go_simp; rfl)); (case hp => exact (Reps.none _ _)); intro v127 w3 ho4 hb hg_ hnew_; clear hg_ hnew_; have HB := Aside0.mk hb; have HO := Aside0.mk ho4; have c5c := (hb.cell (World.block_lt_of_cell? _ _ (c5b (.bool false) (.int .i64 (at_ + n))))).trans (c5b (.bool false) (.int .i64 (at_ + n))); have c1c := (hb.cell (World.block_lt_of_cell? _ _ (c1b (.bool false) (.int .i64 (at_ + n))))).trans (c1b (.bool false) (.int .i64 (at_ + n))); have hs0 := size_set2 w ⟨b6, 0, none⟩ ⟨b5, 0, none⟩ (.bool false) (.int .i64 (at_ + n)); have hb0 : Below w.heap.size ((w.setCell ⟨b6, 0, none⟩ (.bool false)).setCell ⟨b5, 0, none⟩ (.int .i64 (at_ + n))) w3 := (by first | exact hb | exact (hs0 ▸ hb)); have hO0 : Kd.R (Kd.int .u8) 5 w3 w.heap.size (fun _ => True) v127 [] := (by first | exact ho4 | exact (hs0 ▸ ho4)); have hs3 : w.heap.size ≤ w3.heap.size := (by have h_ := hb0.size; rw [hs0] at h_; exact h_); clear hb ho4 hs0) | ((with_reducible refine gate_builtin (b := .append) (xs := #[.tmp 21, .tmp 28]) rfl ?_); at_builtin; refine Kd.R_append_rows (Kd.int .u8) (w0 := (w.setCell ⟨b6, 0, none⟩ (.bool false)).setCell ⟨b5, 0, none⟩ (.int .i64 (at_ + n))) w.heap.size rfl (.tmp 21) (.tmp 28) 23 5 (.int .u8 0) 1 rfl Try.underlying23 info5 rfl (by decide) (by omega) v127 [] ys _ _ _ (fun _ => True) (fun _ => False) rfl rfl ?aO ?aR (fun _ _ h => h) (fun _ h => h.elim) ?aF ?aB ?aS ?aL ?_; (case aR => exact Kd.C_below HR.out HB.out); (case aB => exact hb0); (case aF => exact (fun _ _ => trivial)); (case aO => exact hO0); (case aS => exact hs3); (case aL => have := HL.out; simp; omega); intro v130 w5 ho hb hg hat; have HO2 := Aside0.mk ho; have HB2 := Aside0.mk hb; clear ho hb hg hat))
  go_ret
  have hB2 := HB2.out
  have hx5 : Box1 ((w.setCell ⟨b6, 0, none⟩ (.bool false)).setCell ⟨b5, 0, none⟩ (.int .i64 (at_ + n))) b5 3 (.int .i64 (at_ + n)) := (H5.out.far (p := ⟨b6, 0, none⟩) HNE.out _).set _
  have hx6 : Box1 ((w.setCell ⟨b6, 0, none⟩ (.bool false)).setCell ⟨b5, 0, none⟩ (.int .i64 (at_ + n))) b6 4 (.bool false) := (H6.out.set _).far (p := ⟨b5, 0, none⟩) HNE.out.symm _
  refine ⟨_, rfl, by simpa using HO2.out, (hB2.block b5 H5.out.lt).trans hx5, (hB2.block b6 H6.out.lt).trans hx6, ?_, ?_⟩
  · refine Kept.then_ (S2 := fun _ => False) (((Kept.refl w _).setCell (p := ⟨b6, 0, none⟩) (.inl (.inr rfl)) (.bool false)).setCell (p := ⟨b5, 0, none⟩) (.inl (.inl rfl)) (.int .i64 (at_ + n))) ⟨hB2.size, fun i hi _ => hB2.block i (by rw [size_set2] at hi; exact hi)⟩ (fun _ h => h.elim)
  · exact ⟨hB2.os, hB2.tape, hB2.output⟩

/-- The second function, as rdBytes tells it. -/
theorem bytes_calls (A0 : Option Addr) (c0 : Nat) (l0 : List Int) (b1 b5 b6 : Nat) (at_ : Int) (bad : Bool) (n : Int) (r : List Int) (at' : Int) (bad' : Bool) (w : World) (hr0 : Kd.C (Kd.int .u8) w A0 l0.length l0) (hc0 : l0.length ≤ c0)
    (h1 : Box1 w b1 23 (.slice A0 l0.length c0)) (h5 : Box1 w b5 3 (.int .i64 at_)) (h6 : Box1 w b6 4 (.bool bad)) (hne : b5 ≠ b6) (ha : 0 ≤ at_) (hl : at_ ≤ l0.length) (hm : (l0.length : Int) ≤ 140737488355327)
    (h : rdBytes l0 at_ bad n = some (r, at', bad')) :
    Calls Try.prog 37 #[.int .u64 n, .pointer (some ⟨b6, 0, none⟩), .pointer (some ⟨b1, 0, none⟩), .pointer (some ⟨b5, 0, none⟩)] w fun e w' => ∃ v, e = .returned v ∧ Kd.R (Kd.int .u8) 5 w' w.heap.size (fun _ => True) v r ∧
      Box1 w' b5 3 (.int .i64 at') ∧ Box1 w' b6 4 (.bool bad') ∧ Kept w w' (fun k => k = b5 ∨ k = b6) ∧ SameStr w w' := by
  unfold rdBytes at h
  cases bad with
  | true =>
    simp only [if_true, Option.some.injEq, Prod.mk.injEq] at h
    obtain ⟨rfl, rfl, rfl⟩ := h
    exact (bytes_bad A0 c0 _ b1 b5 b6 at_ n w h1 h5 h6 hne).mono fun e w' h => ⟨_, h.1, Kd.R_nil _ _ _ _ _, h.2⟩
  | false =>
    simp only [Bool.false_eq_true, if_false] at h
    by_cases hc : n > IntKind.u64.wrap (wrap64 ((l0.length : Int) - at_))
    · rw [if_pos hc] at h
      simp only [Option.some.injEq, Prod.mk.injEq] at h
      obtain ⟨rfl, rfl, rfl⟩ := h
      exact (bytes_far A0 c0 _ b1 b5 b6 at_ n w h1 h5 h6 hne hc ha hl (by omega)).mono fun e w' h => ⟨_, h.1, Kd.R_nil _ _ _ _ _, h.2⟩
    · rw [if_neg hc] at h
      split at h
      · rename_i hq
        simp only [Option.some.injEq, Prod.mk.injEq] at h
        obtain ⟨rfl, rfl, rfl⟩ := h
        exact bytes_ok A0 c0 l0 b1 b5 b6 at_ n w hr0 hc0 h1 h5 h6 hne hq.1 hq.2.1 hq.2.2.1 hm
      · cases h


/-- A Reader: three functions over three boxes. -/
theorem reader_calls (A0 : Option Addr) (n c0 : Nat) (w : World) :
    Calls Try.prog 28 #[.slice A0 n c0] w fun e w' => e = .returned (.tuple #[
        .func (.func 36) #[] #[.pointer (some ⟨w.heap.size, 0, none⟩), .pointer (some ⟨w.heap.size + 1, 0, none⟩), .pointer (some ⟨w.heap.size + 1 + 1, 0, none⟩)],
        .func (.func 37) #[] #[.pointer (some ⟨w.heap.size + 1 + 1, 0, none⟩), .pointer (some ⟨w.heap.size, 0, none⟩), .pointer (some ⟨w.heap.size + 1, 0, none⟩)],
        .func (.func 38) #[] #[.pointer (some ⟨w.heap.size + 1 + 1, 0, none⟩), .pointer (some ⟨w.heap.size + 1, 0, none⟩), .pointer (some ⟨w.heap.size, 0, none⟩)]]) ∧
      Box1 w' w.heap.size 23 (.slice A0 n c0) ∧ Box1 w' (w.heap.size + 1) 3 (.int .i64 0) ∧ Box1 w' (w.heap.size + 1 + 1) 4 (.bool false) ∧ Below w.heap.size w w' := by
  have hmf : ∀ (fn : Fn) (first cap : Array Value) (w : World), (Instr.makeFunc fn first cap).run Try.prog w = .ok (.func fn first cap) w := fun _ _ _ _ => rfl
  go_enter Try.func28, Try.ntmps28
  go_wp2
  go_ret3
  refine ⟨rfl, ?_, ?_, ?_, ((((Below.refl _ _).alloc (Nat.le_refl _) _).alloc (by simp) _).alloc (by simp; omega) _)⟩
  · unfold Box1
    rw [Below.heap_alloc _ _ _ (by simp; omega), Below.heap_alloc _ _ _ (by simp)]
    exact heap_alloc_new w _
  · unfold Box1
    rw [Below.heap_alloc _ _ _ (by simp)]
    have := heap_alloc_new (w.alloc (.cells #[.slice A0 n c0] 23)) (.cells #[.int .i64 0] 3)
    simpa using this
  · unfold Box1
    have := heap_alloc_new ((w.alloc (.cells #[.slice A0 n c0] 23)).alloc (.cells #[.int .i64 0] 3)) (.cells #[.bool false] 4)
    simpa using this

def sum_Split.l0 : Nat → List Int → Int → Int → Bool → List (List Int) → Int → Option (List (List Int) × Int)
  | 0, _, _, _, _, _, _ => none
  | k + 1, l, n, at_, bad, x, i =>
    if i < n then
      if 0 ≤ at_ ∧ at_ ≤ (l.length : Int) ∧ (l.length : Int) ≤ 140737488355327 ∧ 0 ≤ i then
      (rdNum k l at_ bad).bind fun b => (rdBytes l b.2.1 b.2.2 b.1).bind fun c =>
        if 0 ≤ b.2.1 ∧ b.2.1 ≤ (l.length : Int) then
        if x.length < 5864062014805 then sum_Split.l0 k l n c.2.1 c.2.2 (x ++ [c.1]) (IntKind.u64.wrap (i + 1)) else none else none
      else none
    else if (!bad && (at_ == (l.length : Int))) = true then some (x, 0) else some ([], 9)
def sum_Split.f (k : Nat) (l : List Int) : Option (List (List Int) × Int) :=
  (rdNum k l 0 false).bind fun b => if b.1 > IntKind.u64.wrap (l.length : Int) then some ([], 9) else sum_Split.l0 k l b.1 b.2.1 b.2.2 [] 0


theorem rdNum.mono : ∀ l a b k, LeO (rdNum k l a b) (rdNum (k + 1) l a b) := by
  intro l a b k
  unfold rdNum
  exact LeO.bind (sum_Read.mono _ _ _) (fun _ => LeO.refl _)
theorem sum_Split.mono_l : ∀ k, ∀ y0 y1 y2 y3 y4 y5, LeO (sum_Split.l0 k y0 y1 y2 y3 y4 y5) (sum_Split.l0 (k + 1) y0 y1 y2 y3 y4 y5)
  | 0 => fun _ _ _ _ _ _ r h => by simp [sum_Split.l0] at h
  | k + 1 => by
    have ih0 := sum_Split.mono_l k
    intro y0 y1 y2 y3 y4 y5
    unfold sum_Split.l0
    repeat' first
      | (with_reducible exact ih0 _ _ _ _ _ _)
      | (with_reducible exact rdNum.mono _ _ _ _)
      | (with_reducible exact LeO.refl _)
      | (with_reducible refine LeO.ite ?_ ?_)
      | (with_reducible refine LeO.bind ?_ (fun _ => ?_))
theorem sum_Split.mono : ∀ a0 k, LeO (sum_Split.f k a0) (sum_Split.f (k + 1) a0) := by
  intro a0 k
  have ih0 := sum_Split.mono_l k
  unfold sum_Split.f
  repeat' first
      | (with_reducible exact ih0 _ _ _ _ _ _)
      | (with_reducible exact rdNum.mono _ _ _ _)
      | (with_reducible exact LeO.refl _)
      | (with_reducible refine LeO.ite ?_ ?_)
      | (with_reducible refine LeO.bind ?_ (fun _ => ?_))

theorem Box1.kept {w W : World} {b t : Nat} {v : Value} {S : Nat → Prop} (h : Box1 w b t v) (hk : Kept w W S) (hne : ¬ S b) : Box1 W b t v := (hk.2 b h.lt hne).trans h
theorem Box1.below {w W : World} {b t : Nat} {v : Value} {B : Nat} (h : Box1 w b t v) (hb : Below B w W) (hlt : b < B) : Box1 W b t v := (hb.block b hlt).trans h
theorem below_kept {B : Nat} {w w1 w2 : World} {S : Nat → Prop} (h : Below B w w1) (hB : B ≤ w1.heap.size) (hk : Kept w1 w2 S) (hs : SameStr w1 w2) (hS : ∀ k, S k → B ≤ k) : Below B w w2 :=
  ⟨hs.1.trans h.os, hs.2.1.trans h.tape, hs.2.2.trans h.output, Nat.le_trans h.size hk.1, fun i hi => (hk.2 i (by omega) (fun h2 => by have := hS i h2; omega)).trans (h.block i hi)⟩
theorem Box1.grown {w W : World} {b t : Nat} {v : Value} {row : Option Nat} (h : Box1 w b t v) (hg : w.grownBy W row) (hne : some b ≠ row) : Box1 W b t v := (hg.block b h.lt hne).trans h

set_option maxHeartbeats 1000000 in
set_option maxRecDepth 100000 in
theorem sum_Split.calls (k : Nat) (A0 : Option Addr) (c0 : Nat) (l0 : List Int) (r1 : List (List Int)) (r2 : Int) (w : World) (hr0 : Kd.C (Kd.int .u8) w A0 l0.length l0) (hc0 : l0.length ≤ c0) (h : sum_Split.f k l0 = some (r1, r2)) :
    Calls Try.prog 12 #[.slice A0 l0.length c0] w fun e w' => ∃ v0_ : Value, e = .returned (.tuple #[v0_, .int .i64 r2]) ∧ Kd.S (Kd.slice 5 (Kd.int .u8)) 23 w' w.heap.size (fun _ => True) v0_ r1 ∧ Below w.heap.size w w' := by
  have HR0 := Aside0.mk hr0
  have HC0 := Aside0.mk hc0
  unfold sum_Split.f at h
  obtain ⟨⟨n1, a1, bd1⟩, hnum, h'⟩ := Option.bind_eq_some_iff.mp h
  have HN := Aside0.mk hnum
  have HH := Aside0.mk h'
  clear hr0 hc0 h hnum h'
  go_enter Try.func12, Try.ntmps12
  go_wp2_with fail
  refine (reader_calls A0 l0.length c0 w).mono ?_
  rintro e w1 ⟨rfl, hb1, hb5, hb6, hbel⟩
  have H1 := Aside0.mk hb1
  have H5 := Aside0.mk hb5
  have H6 := Aside0.mk hb6
  have HB := Aside0.mk hbel
  clear hb1 hb5 hb6 hbel
  go_wp2_with fail
  refine (num_calls k A0 c0 l0 w.heap.size (w.heap.size + 1) (w.heap.size + 1 + 1) 0 false n1 a1 bd1 w1 (Kd.C_below HR0.out HB.out) HC0.out H1.out H5.out H6.out (by omega) HN.out).mono ?_
  rintro e w2 ⟨rfl, hb5, hb6, hk, hss⟩
  have H52 := Aside0.mk hb5
  have H62 := Aside0.mk hb6
  have H12 := Aside0.mk (H1.out.kept hk (by omega))
  have HB2 := Aside0.mk (below_kept HB.out HB.out.size hk hss (by omega))
  clear hb5 hb6 hk hss H1 H5 H6 HB HN
  have h' := HH.out
  clear HH

  by_cases hc : n1 > IntKind.u64.wrap (l0.length : Int)
  · rw [if_pos hc] at h'
    simp only [Option.some.injEq, Prod.mk.injEq] at h'
    obtain ⟨rfl, rfl⟩ := h'
    have hcd : decide (n1 > IntKind.u64.wrap (l0.length : Int)) = true := decide_eq_true hc
    go_wp2
    go_ret2
    exact ⟨_, rfl, Kd.S_nil _ _ _ _ _, HB2.out⟩
  · rw [if_neg hc] at h'
    have hcd : decide (n1 > IntKind.u64.wrap (l0.length : Int)) = false := decide_eq_false hc
    have HL := Aside0.mk h'
    clear h' hc
    go_wp2_with fail
    go_loopg [8, 23] k (fun kq v8 v23 w' => ∃ (a2 : Int) (bd2 : Bool) (x2 : List (List Int)) (i2 : Int), v23 = .int .u64 i2 ∧ Aside0 (sum_Split.l0 kq l0 n1 a2 bd2 x2 i2 = some (r1, r2)) ∧ Aside0 (kq ≤ k) ∧
      Aside0 (Box1 w' w.heap.size 23 (.slice A0 l0.length c0)) ∧ Aside0 (Box1 w' (w.heap.size + 1) 3 (.int .i64 a2)) ∧ Aside0 (Box1 w' (w.heap.size + 1 + 1) 4 (.bool bd2)) ∧
      Aside0 (Kd.S (Kd.slice 5 (Kd.int .u8)) 23 w' w.heap.size (fun b => b ≠ w.heap.size + 1 ∧ b ≠ w.heap.size + 1 + 1 ∧ b ≠ w.heap.size) v8 x2) ∧ Aside0 (Below w.heap.size w w'))
    case atStart => exact ⟨a1, bd1, [], 0, rfl, HL, ⟨Nat.le_refl _⟩, H12, H52, H62, ⟨Kd.S_nil _ _ _ _ _⟩, HB2⟩
    case round =>
      clear HL H12 H52 H62 HB2
      obtain ⟨a2, bd2, x2, i2, rfl, HA, HK, B1, B5, B6, HS, HB⟩ := hrel
      cases gk with
      | zero => exact absurd HA.out (by simp [sum_Split.l0])
      | succ k1 =>
        have h' := HA.out
        clear HA
        unfold sum_Split.l0 at h'
        by_cases hi : i2 < n1
        · rw [if_pos hi] at h'
          by_cases hg : 0 ≤ a2 ∧ a2 ≤ (l0.length : Int) ∧ (l0.length : Int) ≤ 140737488355327 ∧ 0 ≤ i2
          · rw [if_pos hg] at h'
            obtain ⟨⟨n3, a3, bd3⟩, hnum, h'⟩ := Option.bind_eq_some_iff.mp h'
            obtain ⟨⟨y3, a4, bd4⟩, hbyt, h'⟩ := Option.bind_eq_some_iff.mp h'
            by_cases hg3 : 0 ≤ a3 ∧ a3 ≤ (l0.length : Int)
            · rw [if_pos hg3] at h'
              by_cases hx : x2.length < 5864062014805
              · rw [if_pos hx] at h'
                have hid : decide (i2 < n1) = true := decide_eq_true hi
                have HA := Aside0.mk h'
                have HNUM := Aside0.mk hnum
                have HBYT := Aside0.mk hbyt
                have HX := Aside0.mk hx
                have HG := Aside0.mk hg
                have HG3 := Aside0.mk hg3
                clear h' hnum hbyt hx hg hg3 hi
                go_wp2_with fail
                refine (num_calls k1 A0 c0 l0 w.heap.size (w.heap.size + 1) (w.heap.size + 1 + 1) a2 bd2 n3 a3 bd3 wr (Kd.C_below HR0.out HB.out) HC0.out B1.out B5.out B6.out (by omega) HNUM.out).mono ?_
                rintro e w3 ⟨rfl, hb5, hb6, hk, hss⟩
                have B53 := Aside0.mk hb5
                have B63 := Aside0.mk hb6
                have B13 := Aside0.mk (B1.out.kept hk (by omega))
                have HB3 := Aside0.mk (below_kept HB.out HB.out.size hk hss (by omega))
                have HS3 := Aside0.mk (Kd.S_kept HS.out hk (fun b hb => by rintro (h | h); exact hb.1 h; exact hb.2.1 h))
                clear hb5 hb6 hk hss B1 B5 B6 HB HS HNUM
                go_wp2_with fail
                refine (bytes_calls A0 c0 l0 w.heap.size (w.heap.size + 1) (w.heap.size + 1 + 1) a3 bd3 n3 y3 a4 bd4 w3 (Kd.C_below HR0.out HB3.out) HC0.out B13.out B53.out B63.out (by omega) HG3.out.1 HG3.out.2 HG.out.2.2.1 HBYT.out).mono ?_
                rintro e w4 ⟨vy, rfl, hy, hb5, hb6, hk, hss⟩
                have B54 := Aside0.mk hb5
                have B64 := Aside0.mk hb6
                have B14 := Aside0.mk (B13.out.kept hk (by omega))
                have HB4 := Aside0.mk (below_kept HB3.out HB3.out.size hk hss (by omega))
                have hS4 : Kd.S (Kd.slice 5 (Kd.int .u8)) 23 w4 w.heap.size (fun b => (b ≠ w.heap.size + 1 ∧ b ≠ w.heap.size + 1 + 1 ∧ b ≠ w.heap.size) ∧ b < w3.heap.size) u8 x2 :=
                  Kd.S_mono (Kd.S_kept (Kd.S_bound HS3.out) hk (fun b hb => by rintro (h | h); exact hb.1.1 h; exact hb.1.2.1 h)) (fun b hb => ⟨hb.1, hb.2.2.1⟩)
                have HS4 := Aside0.mk hS4
                have hown : ∀ b, u8.ownBlock = some b → (b ≠ w.heap.size + 1 ∧ b ≠ w.heap.size + 1 + 1 ∧ b ≠ w.heap.size) ∧ b < w3.heap.size := fun b hb => (Kd.S_R hS4).1 b hb
                have HOWN := Aside0.mk hown
                obtain ⟨Ao, co, hvy⟩ := Kd.R_slice hy
                subst hvy
                have hy2 : Kd.R (Kd.int .u8) 5 w4 w.heap.size (fun b => w3.heap.size ≤ b) (.slice Ao y3.length co) y3 := Kd.R_lower (Kd.R_mono (Kd.R_bound hy) (fun b hb => hb.2.1)) HB3.out.size
                have HY := Aside0.mk hy2
                have HLT := Aside0.mk (show w.heap.size + 1 + 1 < w3.heap.size from B63.out.lt)
                clear hb5 hb6 hk hss hS4 hy hy2 hown B13 B53 B63 HB3 HS3 HBYT
                go_wp2_with ((with_reducible refine gate_builtin (b := .append) (xs := #[.tmp 25, .tmp 30]) rfl ?_); at_builtin; refine Kd.S_append (Kd.slice 5 (Kd.int .u8)) (w0 := w) w.heap.size rfl (.tmp 25) (.tmp 30) 22 23 (.slice none 0 0) 24 rfl Try.underlying22 info23 rfl (by decide) (by omega) u8 x2 y3 [.slice Ao y3.length co] (fun b => b ≠ w.heap.size + 1 ∧ b ≠ w.heap.size + 1 + 1 ∧ b ≠ w.heap.size) (fun b => w3.heap.size ≤ b) rfl rfl ?aP ?aH ?aF ?aO ?aB ?aS ?aL ?_; (case aP => exact Kd.M_row HY.out); (case aH => (intro b hb; have h1 := HLT.out; exact ⟨⟨by omega, by omega, by omega⟩, fun he => by have h2 := (HOWN.out b he.symm).2; omega⟩)); (case aF => (intro b hb; have h1 := B64.out.lt; exact ⟨by omega, by omega, by omega⟩)); (case aO => exact Kd.S_mono HS4.out (fun b hb => ⟨hb.1, by have := hb.2; omega⟩)); (case aB => exact HB4.out); (case aS => exact HB4.out.size); (case aL => have := HX.out; omega); intro v1 w5 ho hb hg hat; have HS5 := Aside0.mk ho; have HB5 := Aside0.mk hb; have B15 := Aside0.mk (B14.out.grown hg (fun he => ((HOWN.out _ he.symm).1.2.2 rfl))); have B55 := Aside0.mk (B54.out.grown hg (fun he => ((HOWN.out _ he.symm).1.1 rfl))); have B65 := Aside0.mk (B64.out.grown hg (fun he => ((HOWN.out _ he.symm).1.2.1 rfl))); clear ho hb hg hat)
                go_roundg k1
                case measure => have := HK.out; omega
                case rel => exact ⟨a4, bd4, x2 ++ [y3], _, by first | rfl | (simp; done) | (simp [*]; done), HA, ⟨by have := HK.out; omega⟩, B15, B55, B65, HS5, HB5⟩
              · rw [if_neg hx] at h'
                cases h'
            · rw [if_neg hg3] at h'
              cases h'
          · rw [if_neg hg] at h'
            cases h'
        · rw [if_neg hi] at h'
          have hid : decide (i2 < n1) = false := decide_eq_false hi
          have HA := Aside0.mk h'
          clear h' hi
          go_wp2_with fail
          refine (done_calls A0 c0 l0.length w.heap.size (w.heap.size + 1) (w.heap.size + 1 + 1) a2 bd2 wr B1.out B5.out B6.out).mono ?_
          rintro e w3 ⟨rfl, rfl⟩
          have h' := HA.out
          clear HA
          cases hd : (!bd2 && (a2 == (l0.length : Int))) with
          | true =>
            rw [hd, if_pos rfl] at h'
            simp only [Option.some.injEq, Prod.mk.injEq] at h'
            obtain ⟨rfl, rfl⟩ := h'
            go_wp2
            go_ret2
            exact ⟨_, rfl, Kd.S_mono HS.out (fun _ _ => trivial), HB.out⟩
          | false =>
            rw [hd, if_neg (by simp)] at h'
            simp only [Option.some.injEq, Prod.mk.injEq] at h'
            obtain ⟨rfl, rfl⟩ := h'
            go_wp2
            go_ret2
            exact ⟨_, rfl, Kd.S_nil _ _ _ _ _, HB.out⟩

end Go.Proofs.Ytbhiepfejlhbnaa.Q
