/- SumLists and SumBack as plain statements: for lists of bytes within bounds, from some number of rounds on, the printed law answers true. -/
import Derived.Test.YtbhiepfejlhbnaaSumTie2
namespace Go.Proofs.Ytbhiepfejlhbnaa.Q
open Go.RowKit Go.Proofs.YtbhiepfejlhbnaaW.PrintWords Go.Proofs.YtbhiepfejlhbnaaW.PrintLast Go.Proofs.YtbhiepfejlhbnaaW.PrintMore Go.Proofs.Ytbhiepfejlhbnaa.SumSpec
set_option linter.unusedVariables false

theorem mem_body_len {z : List (List Int)} {x : List Int} (h : x ∈ z) : x.length ≤ (body z).length := by
  induction z with
  | nil => cases h
  | cons y z ih =>
    simp only [body, List.length_append]
    rcases List.mem_cons.1 h with rfl | h
    · omega
    · have := ih h; omega

theorem split_short {l : List Int} {z : List (List Int)} (hb : Byt l) (hl : l.length ≤ 10000000) (h : splitS l = some z) : Short z := by
  have hz := splitS_some l z hb h
  have h1 := body_len z
  have h2 : (joinS z).length = (num z.length).length + (body z).length := by simp [joinS]
  rw [hz] at h2
  exact ⟨by omega, fun x hx => by have := mem_body_len hx; omega⟩

theorem short_nil : Short [] := ⟨by simp, fun x h => by cases h⟩
theorem short_res {l : List Int} (hb : Byt l) (hl : l.length ≤ 10000000) : Short (resSp (splitS l)).1 := by
  cases h : splitS l with
  | none => exact short_nil
  | some z => exact split_short hb hl h

theorem own_now (l : List Int) (hl : l.length ≤ Lim) : Ev (fun _ => quirelaw02_own.f l) l := ⟨0, fun _ _ => own_ev l hl⟩

theorem sumLists_pure (l0 : List (List Int)) (l1 : List Int) (hs : Short l0) (hj : (joinS l0).length ≤ Lim) (hb : Byt l1) (hl : l1.length ≤ 10000000) : Ev (fun k => quirelaw02_SumLists.f k l0 l1) true := by
  unfold quirelaw02_SumLists.f
  refine Ev.bind awake_ev ?_
  refine Ev.congr (fun k => if_pos rfl) ?_
  refine Ev.bind (owns_ev l0 hs) (Ev.bind (join_ev l0 hs hj) (Ev.bind (rjoin_ev l0 hs hj) (Ev.bind (same_ev _ _ hj) ?_)))
  rw [decide_eq_true rfl]
  have hl' : l1.length ≤ Lim := by unfold Lim; omega
  have h1 : Ev (fun k => (quirelaw02_own.f l1).bind fun t => (sum_Split.f k t).bind fun p => (quireref02_Split.f k l1).bind fun q => (quireref01_SameLists.f k p.1 q.1).bind fun t => if t = true then some (p.2 == q.2) else some false) true := by
    refine Ev.bind (own_now l1 hl') (Ev.bind (split_ev l1 hb hl') (Ev.bind (rsplit_ev l1 hb hl') (Ev.bind (sameL_ev _ _ (short_res hb hl)) ?_)))
    rw [decide_eq_true rfl]
    refine Ev.congr (f := fun _ => some true) (fun k => ?_) (Ev.now _)
    rw [if_pos rfl, beq_self_eq_true]
  exact Ev.step (fun k => rfl) h1


theorem byt_append {a b : List Int} (ha : Byt a) (hb : Byt b) : Byt (a ++ b) := fun c hc => (List.mem_append.1 hc).elim (ha c) (hb c)
theorem byt_join {l : List (List Int)} (h : ∀ x ∈ l, Byt x) : Byt (joinS l) := by
  refine byt_append (num_byt _) ?_
  induction l with
  | nil => intro c hc; cases hc
  | cons x l ih => exact byt_append (byt_append (num_byt _) (h x List.mem_cons_self)) (ih (fun y hy => h y (List.mem_cons_of_mem _ hy)))

theorem joinS_pos (l : List (List Int)) : 0 < (joinS l).length := by
  have := num_pos l.length
  simp [joinS]
  omega

theorem sumBack_j1 (b : List Int) (hb : Byt b) (hl : b.length ≤ 10000000) : Ev (fun k => quirelaw02_SumBack.j1 k b false) true := by
  have hl' : b.length ≤ Lim := by unfold Lim; omega
  refine Ev.step (fun k => by
    conv => lhs; unfold quirelaw02_SumBack.j1) ?_
  refine Ev.congr (fun k => if_neg (by simp)) ?_
  refine Ev.bind (own_now b hl') (Ev.bind (split_ev b hb hl') ?_)
  cases h : splitS b with
  | none =>
    refine Ev.congr (f := fun _ => some true) (fun k => ?_) (Ev.now _)
    rw [if_neg (by simp [resSp]), if_pos (by simp [resSp])]
  | some z =>
    have hz := splitS_some b z hb h
    refine Ev.congr (fun k => if_pos rfl) ?_
    have hs := split_short hb hl h
    refine Ev.bind (join_ev z hs (by rw [hz]; exact hl')) (Ev.bind (same_ev _ b (by rw [hz]; exact hl')) ?_)
    rw [hz, decide_eq_true rfl]
    exact Ev.now _

theorem sumBack_pure (b : List Int) (n : Int) (l : List (List Int)) (cut : Int) (hb : Byt b) (hl : b.length ≤ 10000000) (hn0 : 0 ≤ n) (hn1 : n ≤ 18446744073709551615) (hs : Short l) (hj : (joinS l).length ≤ 100000000000) (hlb : ∀ x ∈ l, Byt x) (hc0 : 0 ≤ cut) (hc1 : cut ≤ 65535) :
    Ev (fun k => quirelaw02_SumBack.f k b n l cut) true := by
  have hl' : b.length ≤ Lim := by unfold Lim; omega
  have hj' : (joinS l).length ≤ Lim := by unfold Lim; omega
  have hjb := byt_join hlb
  have hm : (n % 9223372036854775808).toNat < 9223372036854775808 := by omega
  have h9 := num_le9 hm
  have hlx : ∀ x ∈ l, x.length < 128 ^ 9 := fun x hx => by have := hs.2 x hx; have e : (128 : Nat) ^ 9 = 9223372036854775808 := rfl; omega
  have hln : l.length < 128 ^ 9 := by have := hs.1; have e : (128 : Nat) ^ 9 = 9223372036854775808 := rfl; omega
  unfold quirelaw02_SumBack.f
  refine Ev.bind awake_ev ?_
  refine Ev.congr (fun k => if_pos rfl) ?_
  refine Ev.bind (own_now b hl') (Ev.bind (number_ev n hn0 hn1) ?_)
  refine Ev.congr (fun k => if_pos (by omega)) ?_
  have hrd := read_ev (b ++ num (n % 9223372036854775808).toNat) (byt_append hb (num_byt _)) (by rw [List.length_append]; unfold Lim; omega) (b.length : Int) (by omega) (by rw [List.length_append]; omega)
  rw [Int.toNat_natCast, List.drop_left] at hrd
  have hr1 := rdS_num 9 0 0 (n % 9223372036854775808).toNat [] (by omega) (by simpa using hm) (fun h => by omega)
  rw [List.append_nil] at hr1
  rw [hr1] at hrd
  have er : resS (b.length : Int) (some (0 + ((n % 9223372036854775808).toNat : Int) * 128 ^ 0, 0 + (num (n % 9223372036854775808).toNat).length)) = (n % 9223372036854775808, (b.length : Int) + ((num (n % 9223372036854775808).toNat).length : Int), 0) := by
    simp only [resS, Int.pow_zero, Int.mul_one, Int.zero_add, Nat.zero_add]
    rw [Int.toNat_of_nonneg (by omega)]
  rw [er] at hrd
  refine Ev.bind hrd ?_
  refine Ev.congr (fun k => (if_pos rfl).trans (if_pos (Int.tmod_eq_emod_of_nonneg hn0).symm)) ?_
  refine Ev.bind (number_ev n hn0 hn1) ?_
  have ew : wrap64 ((b.length : Int) + ((num (n % 9223372036854775808).toNat).length : Int)) = (b.length : Int) + ((num (n % 9223372036854775808).toNat).length : Int) := w64 (by omega) (by omega)
  rw [ew, bne_self_eq_false]
  refine Ev.step (fun k => by
    conv => lhs; unfold quirelaw02_SumBack.j0) ?_
  refine Ev.congr (fun k => if_neg (by simp)) ?_
  refine Ev.bind (owns_ev l hs) (Ev.bind (join_ev l hs hj') ?_)
  have hjp := joinS_pos l
  refine Ev.congr (fun k => if_neg (by omega)) ?_
  refine Ev.bind (own_now _ hj') (Ev.bind (split_ev _ hjb hj') (Ev.bind (own_now _ hj') ?_))
  refine Ev.congr (fun k => if_pos (by omega)) ?_
  refine Ev.bind (split_ev (joinS l ++ [0]) (byt_append hjb (fun c hc => by rw [List.mem_singleton.1 hc]; omega)) (by rw [List.length_append, List.length_singleton]; unfold Lim; omega)) ?_
  have et : Int.tmod (wrap64 cut) ((joinS l).length : Int) = cut % ((joinS l).length : Int) := by rw [w64 (by omega) (by omega), Int.tmod_eq_emod_of_nonneg hc0]
  have hm0 : 0 ≤ cut % ((joinS l).length : Int) := Int.emod_nonneg _ (by omega)
  have hm1 : cut % ((joinS l).length : Int) < ((joinS l).length : Int) := Int.emod_lt_of_pos _ (by omega)
  rw [et]
  generalize cut % ((joinS l).length : Int) = c at *
  refine Ev.congr (fun k => (if_pos hm0).trans (if_pos (by omega))) ?_
  have htl : ((joinS l).take c.toNat).length ≤ Lim := by rw [List.length_take]; omega
  have htb : Byt ((joinS l).take c.toNat) := fun x hx => hjb x (List.mem_of_mem_take hx)
  refine Ev.bind (own_now _ htl) (Ev.bind (split_ev _ htb htl) ?_)
  have h1 := splitS_join l [] hln hlx
  rw [List.append_nil, if_pos rfl] at h1
  have h2 := splitS_join l [0] hln hlx
  rw [if_neg (by simp)] at h2
  have h3 : splitS ((joinS l).take c.toNat) = none := by
    refine splitS_cut l _ ((joinS l).drop c.toNat) hln hlx hjb (List.take_append_drop _ _).symm ?_ ?_
    · intro e
      have := congrArg List.length e
      rw [List.length_drop, List.length_nil] at this
      omega
    · rw [List.length_take]
      have e : (128 : Nat) ^ 9 = 9223372036854775808 := rfl
      omega
  rw [h1, h2, h3]
  refine Ev.congr (fun k => if_pos rfl) ?_
  refine Ev.bind (sameL_ev l l hs) ?_
  rw [decide_eq_true rfl]
  refine Ev.congr (fun k => (if_pos rfl).trans (if_pos rfl)) ?_
  exact sumBack_j1 b hb hl

end Go.Proofs.Ytbhiepfejlhbnaa.Q
