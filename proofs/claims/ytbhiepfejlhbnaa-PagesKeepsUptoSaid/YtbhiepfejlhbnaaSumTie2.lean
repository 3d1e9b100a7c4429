/- Lists of bytes: the printed functions come to what SumSpec tells. -/
import Derived.Test.YtbhiepfejlhbnaaSumTie
namespace Go.Proofs.Ytbhiepfejlhbnaa.Q
open Go.RowKit Go.Proofs.YtbhiepfejlhbnaaW.PrintWords Go.Proofs.YtbhiepfejlhbnaaW.PrintLast Go.Proofs.YtbhiepfejlhbnaaW.PrintMore Go.Proofs.Ytbhiepfejlhbnaa.SumSpec
set_option linter.unusedVariables false

theorem own_ev (l : List Int) (hl : l.length ≤ Lim) : quirelaw02_own.f l = some l := by
  unfold Lim at hl
  unfold quirelaw02_own.f
  simp only [Option.bind_some, List.length_nil, List.nil_append]
  rw [if_pos (by omega)]

theorem drop_L1 {l : List (List Int)} {i : Nat} (h : i < l.length) : l.drop i = rd_L1 l (i : Int) :: l.drop (i + 1) := by
  rw [List.drop_eq_getElem_cons h]
  congr 1
  unfold rd_L1
  rw [Int.toNat_natCast, List.getD_eq_getElem?_getD, List.getElem?_eq_getElem h]
  rfl
theorem mem_L1 {l : List (List Int)} {i : Nat} (h : i < l.length) : rd_L1 l (i : Int) ∈ l := List.mem_of_mem_drop (by rw [drop_L1 h]; exact List.mem_cons_self)

/-- All lists short, and not too many. -/
def Short (l : List (List Int)) : Prop := l.length ≤ 10000000 ∧ ∀ x ∈ l, x.length ≤ 100000000000
theorem Short.lim {l : List (List Int)} (h : Short l) {x : List Int} (hx : x ∈ l) : x.length ≤ Lim := by have := h.2 x hx; unfold Lim; omega

theorem owns_l0 (l : List (List Int)) (hs : Short l) : ∀ (d i : Nat) (acc : List (List Int)), i + d = l.length → acc.length ≤ i → Ev (fun k => quirelaw02_owns.l0 k l acc (i : Int)) (acc ++ l.drop i)
  | 0, i, acc, hi, ha => by
    obtain rfl : i = l.length := by omega
    refine Ev.step (f := fun _ => some (acc ++ l.drop l.length)) (fun k => ?_) (Ev.now _)
    unfold quirelaw02_owns.l0
    rw [if_neg (by omega), List.drop_length, List.append_nil]
  | d + 1, i, acc, hi, ha => by
    have hlt : i < l.length := by omega
    have ih := owns_l0 l hs d (i + 1) (acc ++ [rd_L1 l (i : Int)]) (by omega) (by simp; omega)
    refine Ev.step (fun k => ?_) (by rw [drop_L1 hlt]; simpa using ih)
    conv => lhs; unfold quirelaw02_owns.l0
    have h1 := hs.1
    rw [if_pos (by omega), if_pos (by omega), own_ev _ (hs.lim (mem_L1 hlt))]
    simp only [Option.bind_some]
    rw [if_pos (by omega), w64 (by omega) (by omega)]

theorem owns_ev (l : List (List Int)) (hs : Short l) : Ev (fun k => quirelaw02_owns.f k l) l := by
  have := owns_l0 l hs l.length 0 [] (by omega) (by simp)
  simpa [quirelaw02_owns.f] using this

theorem same_l0 (x y : List Int) (hx : x.length ≤ Lim) (hl : x.length = y.length) : ∀ (d i : Nat), i + d = x.length → Ev (fun k => quireref01_SameBytes.l0 k x y (i : Int)) (decide (x.drop i = y.drop i))
  | 0, i, hi => by
    unfold Lim at hx
    refine Ev.step (f := fun _ => some true) (fun k => ?_) ?_
    · unfold quireref01_SameBytes.l0
      rw [if_neg (by omega)]
    · rw [List.drop_eq_nil_of_le (by omega), List.drop_eq_nil_of_le (by omega)]
      exact Ev.now _
  | d + 1, i, hi => by
    have hx' := hx
    unfold Lim at hx
    have e1 := drop_rd (l := x) (a := (i : Int)) (by omega) (by omega)
    have e2 := drop_rd (l := y) (a := (i : Int)) (by omega) (by omega)
    rw [Int.toNat_natCast] at e1 e2
    have ih := same_l0 x y hx' hl d (i + 1) (by omega)
    rw [e1, e2]
    by_cases h : rd x (i : Int) = rd y (i : Int)
    · refine Ev.step (f := fun k => quireref01_SameBytes.l0 k x y ((i + 1 : Nat) : Int)) (fun k => ?_) ?_
      · conv => lhs; unfold quireref01_SameBytes.l0
        rw [if_pos (by omega), if_pos (by omega), if_pos (by omega), if_pos h, w64 (by omega) (by omega)]
        rfl
      · simpa [h] using ih
    · refine Ev.step (f := fun _ => some false) (fun k => ?_) ?_
      · unfold quireref01_SameBytes.l0
        rw [if_pos (by omega), if_pos (by omega), if_pos (by omega), if_neg h]
      · have : decide (rd x (i : Int) :: x.drop (i + 1) = rd y (i : Int) :: y.drop (i + 1)) = false := by simp [h]
        rw [this]
        exact Ev.now _

theorem same_ev (x y : List Int) (hx : x.length ≤ Lim) : Ev (fun k => quireref01_SameBytes.f k x y) (decide (x = y)) := by
  by_cases hl : x.length = y.length
  · have := same_l0 x y hx hl x.length 0 (by omega)
    refine Ev.congr (fun k => ?_) this
    unfold quireref01_SameBytes.f
    rw [if_pos (by omega)]
    rfl
  · have e : decide (x = y) = false := decide_eq_false (fun h => hl (by rw [h]))
    rw [e]
    refine Ev.congr (f := fun _ => some false) (fun k => ?_) (Ev.now _)
    unfold quireref01_SameBytes.f
    rw [if_neg (by omega)]

theorem sameL_l0 (x y : List (List Int)) (hx : Short x) (hl : x.length = y.length) : ∀ (d i : Nat), i + d = x.length → Ev (fun k => quireref01_SameLists.l0 k x y (i : Int)) (decide (x.drop i = y.drop i))
  | 0, i, hi => by
    have h1 := hx.1
    refine Ev.step (f := fun _ => some true) (fun k => ?_) ?_
    · unfold quireref01_SameLists.l0
      rw [if_neg (by omega)]
    · rw [List.drop_eq_nil_of_le (by omega), List.drop_eq_nil_of_le (by omega)]
      exact Ev.now _
  | d + 1, i, hi => by
    have h1 := hx.1
    have e1 := drop_L1 (l := x) (i := i) (by omega)
    have e2 := drop_L1 (l := y) (i := i) (by omega)
    have ih := sameL_l0 x y hx hl d (i + 1) (by omega)
    have hb := same_ev (rd_L1 x (i : Int)) (rd_L1 y (i : Int)) (hx.lim (mem_L1 (by omega)))
    rw [e1, e2]
    refine Ev.step (f := fun k => (quireref01_SameBytes.f k (rd_L1 x (i : Int)) (rd_L1 y (i : Int))).bind fun t => if t = true then quireref01_SameLists.l0 k x y ((i + 1 : Nat) : Int) else some false) (fun k => ?_) ?_
    · conv => lhs; unfold quireref01_SameLists.l0
      rw [if_pos (by omega), if_pos (by omega), if_pos (by omega), w64 (by omega) (by omega)]
      rfl
    · refine Ev.bind hb ?_
      by_cases h : rd_L1 x (i : Int) = rd_L1 y (i : Int)
      · simpa [h] using ih
      · simpa [h] using Ev.now false

theorem sameL_ev (x y : List (List Int)) (hx : Short x) : Ev (fun k => quireref01_SameLists.f k x y) (decide (x = y)) := by
  by_cases hl : x.length = y.length
  · have := sameL_l0 x y hx hl x.length 0 (by omega)
    refine Ev.congr (fun k => ?_) this
    unfold quireref01_SameLists.f
    rw [if_pos (by omega)]
    rfl
  · have e : decide (x = y) = false := decide_eq_false (fun h => hl (by rw [h]))
    rw [e]
    refine Ev.congr (f := fun _ => some false) (fun k => ?_) (Ev.now _)
    unfold quireref01_SameLists.f
    rw [if_neg (by omega)]

/-- How long a join may be on the way. -/
def Fits (pre : List Int) (l : List (List Int)) : Prop := (pre ++ body l).length ≤ Lim

theorem num_of_len {n : Nat} (h : n ≤ Lim) : (IntKind.u64.wrap (n : Int) % 9223372036854775808).toNat = n := by
  unfold Lim at h
  rw [wu64 (by omega) (by omega)]
  omega

theorem join_l0 (l : List (List Int)) (hs : Short l) : ∀ (d i : Nat) (acc : List Int), i + d = l.length → (acc ++ body (l.drop i)).length ≤ Lim → Ev (fun k => sum_Join.l0 k acc l (l.length : Int) (i : Int)) (acc ++ body (l.drop i))
  | 0, i, acc, hi, ha => by
    have h1 := hs.1
    obtain rfl : i = l.length := by omega
    refine Ev.step (f := fun _ => some (acc ++ body (l.drop l.length))) (fun k => ?_) (Ev.now _)
    unfold sum_Join.l0
    rw [if_neg (by omega), List.drop_length]
    simp [body]
  | d + 1, i, acc, hi, ha => by
    have h1 := hs.1
    have hlt : i < l.length := by omega
    have hd := drop_L1 hlt
    rw [hd] at ha ⊢
    have hx := hs.lim (mem_L1 hlt)
    generalize rd_L1 l (i : Int) = x at *
    have ha' := ha
    simp only [body, List.length_append] at ha'
    have hp := put_ev acc (IntKind.u64.wrap (x.length : Int)) (by unfold Lim at hx; rw [wu64 (by omega) (by omega)]; omega) (by unfold Lim at hx; rw [wu64 (by omega) (by omega)]; omega) (by omega)
    rw [num_of_len hx] at hp
    have ih := join_l0 l hs d (i + 1) (acc ++ num x.length ++ x) (by omega) (by simpa [body] using ha)
    have hgen : rd_L1 l (i : Int) = x := by
      have := hd
      rw [drop_L1 hlt] at this
      exact (List.cons.inj this).1
    refine Ev.step (f := fun k => (sum_Put.f k acc (IntKind.u64.wrap (x.length : Int))).bind fun t => if t.length + x.length < 140737488355328 then sum_Join.l0 k (t ++ x) l (l.length : Int) ((i + 1 : Nat) : Int) else none) (fun k => ?_) ?_
    · conv => lhs; unfold sum_Join.l0
      rw [if_pos (by omega), if_pos (by omega), if_pos (by omega), w64 (by omega) (by omega), hgen]
      rfl
    · refine Ev.bind hp ?_
      rw [show (acc ++ body (x :: l.drop (i + 1))) = acc ++ num x.length ++ x ++ body (l.drop (i + 1)) by simp [body]]
      refine Ev.congr (fun k => ?_) ih
      unfold Lim at ha'
      rw [if_pos (by simp; omega)]

theorem join_ev (l : List (List Int)) (hs : Short l) (hl : (joinS l).length ≤ Lim) : Ev (fun k => sum_Join.f k l) (joinS l) := by
  have h1 := hs.1
  have hn := number_ev (IntKind.u64.wrap (l.length : Int)) (by rw [wu64 (by omega) (by omega)]; omega) (by rw [wu64 (by omega) (by omega)]; omega)
  rw [num_of_len (by unfold Lim; omega)] at hn
  refine Ev.congr (fun k => rfl) (Ev.bind hn ?_)
  have := join_l0 l hs l.length 0 (num l.length) (by omega) hl
  exact this

theorem rjoin_l0 (l : List (List Int)) (hs : Short l) : ∀ (d i : Nat) (acc : List Int), i + d = l.length → (acc ++ body (l.drop i)).length ≤ Lim → Ev (fun k => quireref02_Join.l0 k l acc (i : Int)) (acc ++ body (l.drop i))
  | 0, i, acc, hi, ha => by
    have h1 := hs.1
    obtain rfl : i = l.length := by omega
    refine Ev.step (f := fun _ => some (acc ++ body (l.drop l.length))) (fun k => ?_) (Ev.now _)
    unfold quireref02_Join.l0
    rw [if_neg (by omega), List.drop_length]
    simp [body]
  | d + 1, i, acc, hi, ha => by
    have h1 := hs.1
    have hlt : i < l.length := by omega
    have hd := drop_L1 hlt
    rw [hd] at ha ⊢
    have hx := hs.lim (mem_L1 hlt)
    generalize rd_L1 l (i : Int) = x at *
    have ha' := ha
    simp only [body, List.length_append] at ha'
    have hp := rnumber_ev (IntKind.u64.wrap (x.length : Int)) (by unfold Lim at hx; rw [wu64 (by omega) (by omega)]; omega)
    rw [num_of_len hx] at hp
    have ih := rjoin_l0 l hs d (i + 1) (acc ++ num x.length ++ x) (by omega) (by simpa [body] using ha)
    have hgen : rd_L1 l (i : Int) = x := by
      have := hd
      rw [drop_L1 hlt] at this
      exact (List.cons.inj this).1
    refine Ev.step (f := fun k => (quireref02_Number.f k (IntKind.u64.wrap (x.length : Int))).bind fun t => if acc.length + t.length < 140737488355328 then ((some (acc ++ t : List Int)).bind fun y => if y.length + x.length < 140737488355328 then quireref02_Join.l0 k l (y ++ x) ((i + 1 : Nat) : Int) else none) else none) (fun k => ?_) ?_
    · conv => lhs; unfold quireref02_Join.l0
      rw [if_pos (by omega), if_pos (by omega), w64 (by omega) (by omega), hgen]
      rfl
    · refine Ev.bind hp ?_
      rw [show (acc ++ body (x :: l.drop (i + 1))) = acc ++ num x.length ++ x ++ body (l.drop (i + 1)) by simp [body]]
      refine Ev.congr (fun k => ?_) ih
      unfold Lim at ha'
      rw [if_pos (by omega)]
      simp only [Option.bind_some]
      rw [if_pos (by simp; omega)]

theorem rjoin_ev (l : List (List Int)) (hs : Short l) (hl : (joinS l).length ≤ Lim) : Ev (fun k => quireref02_Join.f k l) (joinS l) := by
  have h1 := hs.1
  have hn := rnumber_ev (IntKind.u64.wrap (l.length : Int)) (by rw [wu64 (by omega) (by omega)]; omega)
  rw [num_of_len (by unfold Lim; omega)] at hn
  refine Ev.congr (fun k => rfl) (Ev.bind hn ?_)
  have := rjoin_l0 l hs l.length 0 (num l.length) (by omega) hl
  exact this


def resSp : Option (List (List Int)) → List (List Int) × Int
  | none => ([], 9)
  | some z => (z, 0)

theorem rdNum_ev (l : List Int) (hb : Byt l) (hl : l.length ≤ Lim) (a : Int) (h0 : 0 ≤ a) (h1 : a ≤ l.length) (bad : Bool) :
    Ev (fun k => rdNum k l a bad) (if bad = true then (0, a, true) else match rdS 9 0 0 (l.drop a.toNat) with | none => (0, a, true) | some (v, c) => (v, a + c, false)) := by
  unfold rdNum
  refine Ev.bind (read_ev l hb hl a h0 h1) ?_
  cases bad with
  | true => simpa using Ev.now (0, a, true)
  | false =>
    cases rdS 9 0 0 (l.drop a.toNat) with
    | none => simpa [resS] using Ev.now (0, a, true)
    | some q =>
      obtain ⟨v, c⟩ := q
      simpa [resS] using Ev.now (v, a + (c : Int), false)

theorem split_bad (l : List Int) (hb : Byt l) (hl : l.length ≤ Lim) (a : Int) (h0 : 0 ≤ a) (h1 : a ≤ l.length) (n : Nat) (hn : n ≤ Lim) : ∀ (d i : Nat) (x : List (List Int)), i + d = n → x.length ≤ i →
    Ev (fun k => sum_Split.l0 k l (n : Int) a true x (i : Int)) ([], 9)
  | 0, i, x, hi, hx => by
    refine Ev.step (f := fun _ => some ([], 9)) (fun k => ?_) (Ev.now _)
    unfold sum_Split.l0
    rw [if_neg (by omega)]
    rfl
  | d + 1, i, x, hi, hx => by
    have hl' := hl
    have hn' := hn
    unfold Lim at hl hn
    have ih := split_bad l hb hl' a h0 h1 n hn' d (i + 1) (x ++ [[]]) (by omega) (by simp; omega)
    have hr := rdNum_ev l hb hl' a h0 h1 true
    rw [if_pos rfl] at hr
    refine Ev.step (f := fun k => (rdNum k l a true).bind fun b => (rdBytes l b.2.1 b.2.2 b.1).bind fun c => if 0 ≤ b.2.1 ∧ b.2.1 ≤ (l.length : Int) then if x.length < 5864062014805 then sum_Split.l0 k l n c.2.1 c.2.2 (x ++ [c.1]) (IntKind.u64.wrap ((i : Int) + 1)) else none else none) (fun k => ?_) ?_
    · conv => lhs; unfold sum_Split.l0
      rw [if_pos (by omega), if_pos ⟨h0, h1, by omega, by omega⟩]
    · refine Ev.bind hr ?_
      refine Ev.congr (fun k => ?_) ih
      unfold rdBytes
      simp only [if_true, Option.bind_some]
      rw [if_pos ⟨h0, h1⟩, if_pos (by omega), wu64 (by omega) (by omega)]
      rfl

theorem split_l0 (l : List Int) (hb : Byt l) (hl : l.length ≤ Lim) (n : Nat) (hn : n ≤ Lim) : ∀ (d i : Nat) (a : Nat) (x : List (List Int)), a ≤ l.length → i + d = n → x.length ≤ i →
    Ev (fun k => sum_Split.l0 k l (n : Int) (a : Int) false x (i : Int)) (resSp (loopS d l a x))
  | 0, i, a, x, ha, hi, hx => by
    refine Ev.step (f := fun _ => some (resSp (loopS 0 l a x))) (fun k => ?_) (Ev.now _)
    unfold sum_Split.l0
    rw [if_neg (by omega)]
    simp only [loopS, Bool.not_false, Bool.true_and, beq_iff_eq]
    by_cases he : a = l.length
    · rw [if_pos (by omega), if_pos he]; rfl
    · rw [if_neg (by omega), if_neg he]; rfl
  | d + 1, i, a, x, ha, hi, hx => by
    have hl' := hl
    have hn' := hn
    unfold Lim at hl hn
    have hr := rdNum_ev l hb hl' (a : Int) (by omega) (by omega) false
    rw [if_neg (by simp), Int.toNat_natCast] at hr
    refine Ev.step (f := fun k => (rdNum k l a false).bind fun b => (rdBytes l b.2.1 b.2.2 b.1).bind fun c => if 0 ≤ b.2.1 ∧ b.2.1 ≤ (l.length : Int) then if x.length < 5864062014805 then sum_Split.l0 k l n c.2.1 c.2.2 (x ++ [c.1]) (IntKind.u64.wrap ((i : Int) + 1)) else none else none) (fun k => ?_) ?_
    · conv => lhs; unfold sum_Split.l0
      rw [if_pos (by omega), if_pos ⟨by omega, by omega, by omega, by omega⟩]
    · refine Ev.bind hr ?_
      simp only [loopS]
      have hnone : Ev (fun k => (rdBytes l (a : Int) true 0).bind fun c => if 0 ≤ (a : Int) ∧ (a : Int) ≤ (l.length : Int) then if x.length < 5864062014805 then sum_Split.l0 k l n c.2.1 c.2.2 (x ++ [c.1]) (IntKind.u64.wrap ((i : Int) + 1)) else none else none) ([], 9) := by
        refine Ev.congr (fun k => ?_) (split_bad l hb hl' (a : Int) (by omega) (by omega) n hn' d (i + 1) (x ++ [[]]) (by omega) (by simp; omega))
        unfold rdBytes
        simp only [if_true, Option.bind_some]
        rw [if_pos ⟨by omega, by omega⟩, if_pos (by omega), wu64 (by omega) (by omega)]
        rfl
      cases hs : rdS 9 0 0 (l.drop a) with
      | none => exact Ev.congr (fun k => rfl) hnone
      | some q =>
        obtain ⟨v, c⟩ := q
        have hlen := rdS_len _ _ _ _ _ _ hs
        rw [List.length_drop] at hlen
        obtain ⟨nv, _, _, hv, _, _, _⟩ := rdS_some _ _ _ _ _ _ (fun z hz => hb z (List.mem_of_mem_drop hz)) hs
        have hv0 : 0 ≤ v := by
          rw [hv]
          simp only [Int.zero_add, Int.pow_zero, Int.mul_one]
          omega
        simp only
        by_cases hg : v > (l.length : Int) - ((a : Int) + (c : Int))
        · rw [if_pos hg]
          refine Ev.congr (fun k => ?_) (split_bad l hb hl' ((a : Int) + c) (by omega) (by omega) n hn' d (i + 1) (x ++ [[]]) (by omega) (by simp; omega))
          unfold rdBytes
          rw [if_neg (by simp), w64 (by omega) (by omega), wu64 (by omega) (by omega), if_pos hg]
          simp only [Option.bind_some]
          rw [if_pos ⟨by omega, by omega⟩, if_pos (by omega), wu64 (by omega) (by omega)]
          rfl
        · rw [if_neg hg]
          have ih := split_l0 l hb hl' n hn' d (i + 1) (a + c + v.toNat) (x ++ [(l.drop (a + c)).take v.toNat]) (by omega) (by omega) (by simp; omega)
          refine Ev.congr (fun k => ?_) ih
          unfold rdBytes
          rw [if_neg (by simp), w64 (by omega) (by omega), wu64 (by omega) (by omega), if_neg hg, if_pos ⟨by omega, by omega, by omega, by omega⟩]
          simp only [Option.bind_some]
          rw [if_pos ⟨by omega, by omega⟩, if_pos (by omega), wu64 (by omega) (by omega)]
          have e1 : (a : Int) + (c : Int) + v = ((a + c + v.toNat : Nat) : Int) := by omega
          have e2 : ((a : Int) + (c : Int)).toNat = a + c := by omega
          have e3 : ((a + c + v.toNat : Nat) : Int).toNat = a + c + v.toNat := by omega
          rw [e1, e2, e3, List.drop_take]
          have e4 : a + c + v.toNat - (a + c) = v.toNat := by omega
          rw [e4]
          rfl

theorem split_ev (l : List Int) (hb : Byt l) (hl : l.length ≤ Lim) : Ev (fun k => sum_Split.f k l) (resSp (splitS l)) := by
  have hl' := hl
  unfold Lim at hl
  unfold sum_Split.f
  have hr := rdNum_ev l hb hl' 0 (by omega) (by omega) false
  rw [if_neg (by simp)] at hr
  have e0 : (0 : Int).toNat = 0 := rfl
  rw [e0, List.drop_zero] at hr
  refine Ev.bind hr ?_
  unfold splitS
  rw [wu64 (by omega) (by omega)]
  cases hs : rdS 9 0 0 l with
  | none =>
    refine Ev.congr (fun k => if_neg (show ¬ (0 : Int) > (l.length : Int) by omega)) ?_
    exact split_bad l hb hl' 0 (by omega) (by omega) 0 (by unfold Lim; omega) 0 0 [] (by omega) (by simp)
  | some q =>
    obtain ⟨v, c⟩ := q
    have hlen := rdS_len _ _ _ _ _ _ hs
    obtain ⟨nv, _, _, hv, _, _, _⟩ := rdS_some _ _ _ _ _ _ hb hs
    have hv0 : 0 ≤ v := by
      rw [hv]
      simp only [Int.zero_add, Int.pow_zero, Int.mul_one]
      omega
    simp only
    by_cases hg : v > (l.length : Int)
    · rw [if_pos hg]
      exact Ev.congr (f := fun _ => some ([], 9)) (fun k => if_pos hg) (Ev.now _)
    · rw [if_neg hg]
      refine Ev.congr (fun k => if_neg hg) ?_
      have := split_l0 l hb hl' v.toNat (by unfold Lim; omega) v.toNat 0 c [] (by omega) (by omega) (by simp)
      rw [Int.toNat_of_nonneg hv0] at this
      simpa using this


theorem rsplit_l0 (l : List Int) (hb : Byt l) (hl : l.length ≤ Lim) (n : Nat) (hn : n ≤ Lim) : ∀ (d i : Nat) (a : Nat) (x : List (List Int)), a ≤ l.length → i + d = n → x.length ≤ i →
    Ev (fun k => quireref02_Split.l0 k l (n : Int) (a : Int) x (i : Int)) (resSp (loopS d l a x))
  | 0, i, a, x, ha, hi, hx => by
    unfold Lim at hn hl
    refine Ev.step (f := fun _ => some (resSp (loopS 0 l a x))) (fun k => ?_) (Ev.now _)
    unfold quireref02_Split.l0
    rw [w64 (by omega) (by omega), if_neg (by omega)]
    simp only [loopS]
    by_cases he : a = l.length
    · rw [if_pos (by omega), if_pos he]; rfl
    · rw [if_neg (by omega), if_neg he]; rfl
  | d + 1, i, a, x, ha, hi, hx => by
    have hl' := hl
    have hn' := hn
    unfold Lim at hl hn
    have hr := rread_ev l hb hl' (a : Int) (by omega) (by omega)
    rw [Int.toNat_natCast] at hr
    have hstep : ∀ k, quireref02_Split.l0 (k + 1) l (n : Int) (a : Int) x (i : Int) = (quireref02_Read.f k l (a : Int)).bind fun q => if q.2.2 = 0 then
        (if q.1 > IntKind.u64.wrap (wrap64 ((l.length : Int) - q.2.1)) then some ([], 9) else
          if 0 ≤ q.2.1 then if q.2.1 ≤ wrap64 (q.2.1 + wrap64 q.1) then if wrap64 (q.2.1 + wrap64 q.1) ≤ (l.length : Int) then
            if ((l.take (wrap64 (q.2.1 + wrap64 q.1)).toNat).drop q.2.1.toNat).length < 140737488355328 then
            if x.length < 5864062014805 then quireref02_Split.l0 k l n (wrap64 (q.2.1 + wrap64 q.1)) (x ++ [(l.take (wrap64 (q.2.1 + wrap64 q.1)).toNat).drop q.2.1.toNat]) (wrap64 ((i : Int) + 1)) else none else none else none else none else none)
        else some ([], 9) := fun k => by
      conv => lhs; unfold quireref02_Split.l0
      have hw : wrap64 (n : Int) = n := w64 (by omega) (by omega)
      rw [hw, if_pos (by omega)]
      simp only [Option.bind_some, List.nil_append, List.length_nil, Nat.zero_add]
    refine Ev.step hstep (Ev.bind hr ?_)
    simp only [loopS]
    cases hs : rdS 9 0 0 (l.drop a) with
    | none => exact Ev.congr (f := fun _ => some ([], 9)) (fun k => rfl) (Ev.now _)
    | some q =>
      obtain ⟨v, c⟩ := q
      have hlen := rdS_len _ _ _ _ _ _ hs
      rw [List.length_drop] at hlen
      obtain ⟨nv, _, _, hv, _, hnv, _⟩ := rdS_some _ _ _ _ _ _ (fun z hz => hb z (List.mem_of_mem_drop hz)) hs
      have hv1 : v = nv := by
        rw [hv]
        simp only [Int.zero_add, Int.pow_zero, Int.mul_one]
      have hnv' : nv < 9223372036854775808 := by simpa using hnv
      have er : resS (a : Int) (some (v, c)) = (v, (a : Int) + (c : Int), 0) := rfl
      rw [er]
      dsimp only
      have hw1 : wrap64 ((l.length : Int) - ((a : Int) + (c : Int))) = (l.length : Int) - ((a : Int) + (c : Int)) := w64 (by omega) (by omega)
      have hw2 : IntKind.u64.wrap ((l.length : Int) - ((a : Int) + (c : Int))) = (l.length : Int) - ((a : Int) + (c : Int)) := wu64 (by omega) (by omega)
      by_cases hg : v > (l.length : Int) - ((a : Int) + (c : Int))
      · rw [if_pos hg]
        refine Ev.congr (f := fun _ => some ([], 9)) (fun k => ?_) (Ev.now _)
        rw [if_pos rfl, hw1, hw2, if_pos hg]
      · rw [if_neg hg]
        have ih := rsplit_l0 l hb hl' n hn' d (i + 1) (a + c + v.toNat) (x ++ [(l.drop (a + c)).take v.toNat]) (by omega) (by omega) (by simp; omega)
        refine Ev.congr (fun k => ?_) ih
        have hw3 : wrap64 v = v := w64 (by omega) (by omega)
        have hw4 : wrap64 ((a : Int) + (c : Int) + v) = (a : Int) + (c : Int) + v := w64 (by omega) (by omega)
        rw [if_pos rfl, hw1, hw2, if_neg hg, hw3, hw4, if_pos (by omega), if_pos (by omega), if_pos (by omega)]
        have e1 : (a : Int) + (c : Int) + v = ((a + c + v.toNat : Nat) : Int) := by omega
        have e2 : ((a : Int) + (c : Int)).toNat = a + c := by omega
        have e3 : ((a + c + v.toNat : Nat) : Int).toNat = a + c + v.toNat := by omega
        rw [e1, e2, e3, List.drop_take]
        have e4 : a + c + v.toNat - (a + c) = v.toNat := by omega
        rw [e4, if_pos (by rw [List.length_take, List.length_drop]; omega), if_pos (by omega), w64 (by omega) (by omega)]
        rfl

theorem rsplit_ev (l : List Int) (hb : Byt l) (hl : l.length ≤ Lim) : Ev (fun k => quireref02_Split.f k l) (resSp (splitS l)) := by
  have hl' := hl
  unfold Lim at hl
  have hr := rread_ev l hb hl' 0 (by omega) (by omega)
  have e0 : (0 : Int).toNat = 0 := rfl
  rw [e0, List.drop_zero] at hr
  refine Ev.congr (fun k => rfl) (Ev.bind hr ?_)
  unfold splitS
  have hw : IntKind.u64.wrap (l.length : Int) = l.length := wu64 (by omega) (by omega)
  cases hs : rdS 9 0 0 l with
  | none =>
    refine Ev.congr (fun k => if_neg (by simp [resS])) ?_
    refine Ev.step (f := fun _ => some ([], 9)) (fun k => ?_) (Ev.now _)
    rfl
  | some q =>
    obtain ⟨v, c⟩ := q
    have hlen := rdS_len _ _ _ _ _ _ hs
    obtain ⟨nv, _, _, hv, _, _, _⟩ := rdS_some _ _ _ _ _ _ hb hs
    have hv0 : 0 ≤ v := by
      rw [hv]
      simp only [Int.zero_add, Int.pow_zero, Int.mul_one]
      omega
    have er : resS 0 (some (v, c)) = (v, 0 + (c : Int), 0) := rfl
    rw [er]
    dsimp only
    refine Ev.congr (fun k => if_pos rfl) ?_
    rw [hw]
    by_cases hg : v > (l.length : Int)
    · rw [if_pos hg, decide_eq_true hg]
      exact Ev.step (f := fun _ => some ([], 9)) (fun k => rfl) (Ev.now _)
    · rw [if_neg hg, decide_eq_false hg]
      have := rsplit_l0 l hb hl' v.toNat (by unfold Lim; omega) v.toNat 0 c [] (by omega) (by omega) (by simp)
      rw [Int.toNat_of_nonneg hv0] at this
      rw [Int.zero_add]
      exact Ev.step (fun k => rfl) this

theorem awake_ev : Ev (fun k => quirelaw02_awake.f k) true := by
  refine Ev.of (quirelaw02_awake.mono) (k := 20) ?_
  decide +kernel

end Go.Proofs.Ytbhiepfejlhbnaa.Q
