/- The printed functions of layer sum, and the document's, come to what SumSpec tells: from some number of rounds on. -/
import Derived.Test.YtbhiepfejlhbnaaQ
import Derived.Test.YtbhiepfejlhbnaaSumSpec
import Derived.Laws.BitsAllLaws
namespace Go.Proofs.Ytbhiepfejlhbnaa.Q
open Go.RowKit Go.Proofs.YtbhiepfejlhbnaaW.PrintWords Go.Proofs.YtbhiepfejlhbnaaW.PrintLast Go.Proofs.YtbhiepfejlhbnaaW.PrintMore Go.Proofs.Ytbhiepfejlhbnaa.SumSpec
set_option linter.unusedVariables false

theorem w64 {x : Int} (h0 : -9223372036854775808 ≤ x) (h1 : x ≤ 9223372036854775807) : wrap64 x = x := by unfold wrap64; omega
theorem wu64 {x : Int} (h0 : 0 ≤ x) (h1 : x ≤ 18446744073709551615) : IntKind.u64.wrap x = x := by rw [IntKind.wrap_u64]; omega

/-- What this file needs to know of lengths: far below all bounds. -/
def Lim : Nat := 1000000000000

theorem or128 (x : Int) (h : 0 ≤ x) : Go.bits .or .u8 (x % 256) 128 = 128 + x % 128 := by
  have h1 : ∀ a : Fin 256, (a.val ||| 128) = 128 + a.val % 128 := by decide +kernel
  have h2 := h1 ⟨(x % 256).toNat, by omega⟩
  have h3 := u8_or (x % 256) 128 (by omega) (by omega) (by omega) (by omega)
  simp only [Int.reduceToNat] at h3 h2
  rw [h3, h2]
  omega

theorem and63 (x : Int) (h0 : 0 ≤ x) (h1 : x ≤ 18446744073709551615) : Go.bits .and .u64 x 9223372036854775807 = x % 9223372036854775808 := by
  rw [u64_and x 9223372036854775807 h0 (by omega) (by omega) (by omega)]
  have e : (9223372036854775807 : Int).toNat = 2 ^ 63 - 1 := rfl
  rw [e, Nat.and_two_pow_sub_one_eq_mod]
  omega

theorem put_l0 : ∀ (n : Nat) (x : List Int), n < 9223372036854775808 → x.length + 20 < 140737488355328 + 10 - (num n).length → Ev (fun k => sum_Put.l0 k x (n : Int)) (x ++ num n) := by
  intro n
  induction n using Nat.strongRecOn with
  | _ n ih =>
    intro x hn hx
    by_cases h : n < 128
    · refine Ev.step (f := fun _ => some (x ++ num n)) (fun k => ?_) (Ev.now _)
      unfold sum_Put.l0
      rw [if_neg (by omega), if_pos (by omega), num_small h]
      have e : (n : Int) % 256 = n := by omega
      rw [e]
    · rw [num_big h] at hx
      simp only [List.length_cons] at hx
      have h2 := ih (n / 128) (by omega) (x ++ [128 + (n : Int) % 128]) (by omega) (by simp; omega)
      refine Ev.step (fun k => ?_) (by simpa [num_big h] using h2)
      conv => lhs; unfold sum_Put.l0
      rw [if_pos (by omega), if_pos (by omega), or128 _ (by omega)]

theorem num_le9 {n : Nat} (h : n < 9223372036854775808) : (num n).length ≤ 9 := num_len 8 n (by simpa using h)

theorem put_ev (x : List Int) (a : Int) (h0 : 0 ≤ a) (h1 : a ≤ 18446744073709551615) (hx : x.length ≤ Lim) : Ev (fun k => sum_Put.f k x a) (x ++ num (a % 9223372036854775808).toNat) := by
  unfold Lim at hx
  have hn : (a % 9223372036854775808).toNat < 9223372036854775808 := by omega
  have := put_l0 (a % 9223372036854775808).toNat x hn (by have := num_le9 hn; omega)
  refine Ev.congr (fun k => ?_) this
  unfold sum_Put.f
  rw [and63 a h0 h1]
  congr 1
  omega

theorem number_ev (a : Int) (h0 : 0 ≤ a) (h1 : a ≤ 18446744073709551615) : Ev (fun k => sum_Number.f k a) (num (a % 9223372036854775808).toNat) := by
  have h := put_ev [] a h0 h1 (by simp)
  rw [List.nil_append] at h
  exact Ev.congr (fun k => rfl) (Ev.bind h (Ev.now _))

theorem rnumber_l0 : ∀ (n : Nat) (x : List Int), n < 9223372036854775808 → x.length + 20 < 140737488355328 + 10 - (num n).length → Ev (fun k => quireref02_Number.l0 k (n : Int) x) (x ++ num n) := by
  intro n
  induction n using Nat.strongRecOn with
  | _ n ih =>
    intro x hn hx
    by_cases h : n < 128
    · refine Ev.step (f := fun _ => some (x ++ num n)) (fun k => ?_) (Ev.now _)
      unfold quireref02_Number.l0
      rw [if_neg (by omega), if_pos (by omega), num_small h]
      have e : (n : Int) % 256 = n := by omega
      rw [e]
    · rw [num_big h] at hx
      simp only [List.length_cons] at hx
      have h2 := ih (n / 128) (by omega) (x ++ [128 + (n : Int) % 128]) (by omega) (by simp; omega)
      refine Ev.step (fun k => ?_) (by simpa [num_big h] using h2)
      conv => lhs; unfold quireref02_Number.l0
      rw [if_pos (by omega), if_pos (by omega)]
      have e : Int.tdiv (n : Int) 128 = ((n / 128 : Nat) : Int) := by rw [Int.tdiv_eq_ediv_of_nonneg (by omega)]; omega
      have e2 : Int.tmod (n : Int) 128 = (n : Int) % 128 := Int.tmod_eq_emod_of_nonneg (by omega)
      rw [e, e2, wu64 (by omega) (by omega), wu64 (by omega) (by omega)]
      have e3 : (128 + (n : Int) % 128) % 256 = 128 + (n : Int) % 128 := by omega
      rw [e3]
      first | done | rfl | (have e : ((n : Int) / 128) = ((n / 128 : Nat) : Int) := by omega
                            rw [e])

theorem rnumber_ev (a : Int) (h0 : 0 ≤ a) : Ev (fun k => quireref02_Number.f k a) (num (a % 9223372036854775808).toNat) := by
  have hn : (a % 9223372036854775808).toNat < 9223372036854775808 := by omega
  have := rnumber_l0 (a % 9223372036854775808).toNat [] hn (by have := num_le9 hn; simp; omega)
  rw [List.nil_append] at this
  refine Ev.congr (fun k => ?_) this
  unfold quireref02_Number.f
  rw [Int.tmod_eq_emod_of_nonneg h0]
  congr 1
  omega


/-! ### Reading a number -/
theorem pw_bd {i : Nat} (h : i ≤ 8) : (0 : Int) < 128 ^ i ∧ (128 : Int) ^ i ≤ 72057594037927936 := by
  have : i = 0 ∨ i = 1 ∨ i = 2 ∨ i = 3 ∨ i = 4 ∨ i = 5 ∨ i = 6 ∨ i = 7 ∨ i = 8 := by omega
  rcases this with rfl | rfl | rfl | rfl | rfl | rfl | rfl | rfl | rfl <;> decide

theorem shl_pw (c : Int) (i : Nat) (hi : i ≤ 8) (h0 : 0 ≤ c) (h1 : c < 128) : shl .u64 c (7 * (i : Int)) = c * 128 ^ i := by
  have hb := pw_bd hi
  unfold shl
  have e1 : min (7 * (i : Int)).toNat (IntKind.bits .u64) = 7 * i := by
    have : IntKind.bits .u64 = 64 := rfl
    omega
  rw [e1]
  have e2 : (2 : Int) ^ (7 * i) = 128 ^ i := by rw [Int.pow_mul]; rfl
  rw [e2]
  generalize (128 : Int) ^ i = p at *
  have h2 : c * p ≤ 127 * 72057594037927936 := by
    have h3 : c * p ≤ 127 * p := Int.mul_le_mul_of_nonneg_right (by omega) (by omega)
    omega
  have h4 : 0 ≤ c * p := Int.mul_nonneg h0 (by omega)
  exact wu64 h4 (by omega)

theorem or_pw (acc c : Int) (i : Nat) (hi : i ≤ 8) (h0 : 0 ≤ c) (h1 : c < 128) (a0 : 0 ≤ acc) (a1 : acc < 128 ^ i) : Go.bits .or .u64 acc (c * 128 ^ i) = acc + c * 128 ^ i := by
  have hb := pw_bd hi
  have h2 : c * 128 ^ i ≤ 127 * 72057594037927936 := by
    have h3 : c * 128 ^ i ≤ 127 * 128 ^ i := Int.mul_le_mul_of_nonneg_right (by omega) (by omega)
    omega
  have h4 : 0 ≤ c * 128 ^ i := Int.mul_nonneg h0 (by omega)
  rw [u64_or acc _ a0 (by omega) h4 (by omega)]
  have e1 : (c * 128 ^ i).toNat = c.toNat <<< (7 * i) := by
    rw [Nat.shiftLeft_eq, Nat.pow_mul]
    have : c * 128 ^ i = ((c.toNat * 128 ^ i : Nat) : Int) := by
      rw [Int.natCast_mul, Int.natCast_pow, Int.toNat_of_nonneg h0]; rfl
    rw [this, Int.toNat_natCast]
  have e2 : acc.toNat < 2 ^ (7 * i) := by
    have : (2 : Nat) ^ (7 * i) = 128 ^ i := by rw [Nat.pow_mul]
    rw [this]
    have h5 : ((128 ^ i : Nat) : Int) = (128 : Int) ^ i := by rw [Int.natCast_pow]; rfl
    omega
  rw [e1, Nat.or_comm, ← Nat.shiftLeft_add_eq_or_of_lt e2, Int.natCast_add, ← e1]
  omega

theorem drop_rd {l : List Int} {a : Int} (h0 : 0 ≤ a) (h1 : a < l.length) : l.drop a.toNat = rd l a :: l.drop (a.toNat + 1) := by
  rw [List.drop_eq_getElem_cons (by omega)]
  congr 1
  unfold rd
  rw [List.getD_eq_getElem?_getD, List.getElem?_eq_getElem (by omega)]
  rfl

/-- What Read comes to at a place. -/
def resS (a : Int) : Option (Int × Nat) → Int × Int × Int
  | none => (0, 0, 9)
  | some (v, m) => (v, a + m, 0)

theorem and127 (c : Int) (h0 : 0 ≤ c) (h1 : c ≤ 255) : IntKind.u64.wrap (Go.bits .and .u8 c 127) = c % 128 := by
  rw [u8_and c 127 h0 (by omega) (by omega) (by omega)]
  have e : (127 : Int).toNat = 2 ^ 7 - 1 := rfl
  rw [e, Nat.and_two_pow_sub_one_eq_mod, wu64 (by omega) (by omega)]
  omega

theorem read_l0 (l : List Int) (hb : Byt l) (hl : l.length ≤ Lim) (a : Int) (h0 : 0 ≤ a) (h1 : a ≤ l.length) : ∀ (f i : Nat) (acc : Int), i + f = 9 → 0 ≤ acc → acc < 128 ^ i →
    Ev (fun k => sum_Read.l0 k l a acc i) (resS a (rdS f i acc (l.drop (a.toNat + i))))
  | 0, i, acc, hi, a0, a1 => by
    unfold Lim at hl
    obtain rfl : i = 9 := by omega
    refine Ev.step (f := fun k => sum_Read.j2 k l a acc ((9 : Nat) : Int) false) (fun k => by conv => lhs; unfold sum_Read.l0; rw [if_neg (by omega)]; rfl) ?_
    refine Ev.step (f := fun _ => some (0, 0, 9)) (fun k => ?_) (Ev.now _)
    unfold sum_Read.j2
    rfl
  | f + 1, i, acc, hi, a0, a1 => by
    have hl' := hl
    unfold Lim at hl
    have hw : wrap64 (a + (i : Int)) = a + i := w64 (by omega) (by omega)
    by_cases hlt : a + (i : Int) < l.length
    · have hd := drop_rd (l := l) (a := a + i) (by omega) hlt
      have e1 : (a + (i : Int)).toNat = a.toNat + i := by omega
      rw [e1] at hd
      rw [hd]
      have hc := hb (rd l (a + i)) (List.mem_of_mem_drop (by rw [hd]; exact List.mem_cons_self))
      refine Ev.step (f := fun k => sum_Read.j2 k l a acc i true) (fun k => by conv => lhs; unfold sum_Read.l0; rw [if_pos (by omega), hw, decide_eq_true hlt]) ?_
      have hpw := pw_bd (i := i) (by omega)
      have h7 : wrap64 (7 * (i : Int)) = 7 * i := w64 (by omega) (by omega)
      generalize hcc : rd l (a + i) = c at *
      have hsh := shl_pw (c % 128) i (by omega) (by omega) (by omega)
      have hor := or_pw acc (c % 128) i (by omega) (by omega) (by omega) a0 a1
      simp only [rdS]
      by_cases hs : c < 128
      · rw [if_pos hs]
        have hm : c % 128 = c := by omega
        by_cases hz : c = 0 ∧ 0 < i
        · rw [if_pos hz]
          refine Ev.step (f := fun _ => some (0, 0, 9)) (fun k => ?_) (Ev.now _)
          unfold sum_Read.j2
          rw [if_pos rfl, hw, if_pos (by omega), if_pos hlt, h7, if_pos (by omega), hcc, if_pos hs, if_pos hz.1, if_pos (by omega)]
        · rw [if_neg hz]
          refine Ev.step (f := fun _ => some (acc + c * 128 ^ i, a + ((i + 1 : Nat) : Int), 0)) (fun k => ?_) (Ev.now _)
          unfold sum_Read.j2
          rw [if_pos rfl, hw, if_pos (by omega), if_pos hlt, h7, if_pos (by omega), hcc, if_pos hs, and127 c hc.1 hc.2, hsh, hor, hm]
          have hw2 : wrap64 (a + (i : Int) + 1) = a + ((i + 1 : Nat) : Int) := by rw [w64 (by omega) (by omega)]; omega
          rw [hw2]
          by_cases hc0 : c = 0
          · rw [if_pos hc0, if_neg (by omega)]
          · rw [if_neg hc0]
      · rw [if_neg hs]
        have hm : c % 128 = c - 128 := by omega
        rw [hm] at hsh hor
        have ih := read_l0 l hb hl' a h0 h1 f (i + 1) (acc + (c - 128) * 128 ^ i) (by omega)
          (by have : 0 ≤ (c - 128) * 128 ^ i := Int.mul_nonneg (by omega) (by omega); omega)
          (by
            rw [Int.pow_succ]
            generalize (128 : Int) ^ i = p at *
            have h3 : (c - 128) * p ≤ 127 * p := Int.mul_le_mul_of_nonneg_right (by omega) (by omega)
            omega)
        refine Ev.step (f := fun k => sum_Read.l0 k l a (acc + (c - 128) * 128 ^ i) ((i + 1 : Nat) : Int)) (fun k => ?_) ?_
        · conv => lhs; unfold sum_Read.j2
          rw [if_pos rfl, hw, if_pos (by omega), if_pos hlt, h7, if_pos (by omega), hcc, if_neg hs, and127 c hc.1 hc.2, hm, hsh, hor]
          have hw3 : wrap64 ((i : Int) + 1) = ((i + 1 : Nat) : Int) := by rw [w64 (by omega) (by omega)]; omega
          rw [hw3]
        · have e2 : a.toNat + i + 1 = a.toNat + (i + 1) := by omega
          rw [e2]
          exact ih
    · have hnil : l.drop (a.toNat + i) = [] := List.drop_eq_nil_of_le (by omega)
      rw [hnil]
      refine Ev.step (f := fun k => sum_Read.j2 k l a acc i false) (fun k => by conv => lhs; unfold sum_Read.l0; rw [if_pos (by omega), hw, decide_eq_false hlt]) ?_
      refine Ev.step (f := fun _ => some (0, 0, 9)) (fun k => ?_) (Ev.now _)
      unfold sum_Read.j2
      rfl

theorem read_ev (l : List Int) (hb : Byt l) (hl : l.length ≤ Lim) (a : Int) (h0 : 0 ≤ a) (h1 : a ≤ l.length) : Ev (fun k => sum_Read.f k l a) (resS a (rdS 9 0 0 (l.drop a.toNat))) := by
  have h := read_l0 l hb hl a h0 h1 9 0 0 rfl (by omega) (by decide)
  rw [Nat.add_zero] at h
  refine Ev.congr (f := fun k => sum_Read.j0 k l a 0 false) (fun k => by unfold sum_Read.f; rw [if_neg (by omega), decide_eq_false (by omega)]) ?_
  refine Ev.step (fun k => ?_) h
  conv => lhs; unfold sum_Read.j0
  rfl

theorem rread_l0 (l : List Int) (hb : Byt l) (hl : l.length ≤ Lim) (a : Int) (h0 : 0 ≤ a) (h1 : a ≤ l.length) : ∀ (f i : Nat) (acc : Int), i + f = 9 → 0 ≤ acc → acc < 128 ^ i →
    Ev (fun k => quireref02_Read.l0 k l a acc i) (resS a (rdS f i acc (l.drop (a.toNat + i))))
  | 0, i, acc, hi, a0, a1 => by
    unfold Lim at hl
    obtain rfl : i = 9 := by omega
    refine Ev.step (f := fun _ => some (0, 0, 9)) (fun k => ?_) (Ev.now _)
    unfold quireref02_Read.l0
    rw [if_neg (by omega)]
  | f + 1, i, acc, hi, a0, a1 => by
    have hl' := hl
    unfold Lim at hl
    have hw : wrap64 (a + (i : Int)) = a + i := w64 (by omega) (by omega)
    by_cases hlt : a + (i : Int) < l.length
    · have hd := drop_rd (l := l) (a := a + i) (by omega) hlt
      have e1 : (a + (i : Int)).toNat = a.toNat + i := by omega
      rw [e1] at hd
      rw [hd]
      have hc := hb (rd l (a + i)) (List.mem_of_mem_drop (by rw [hd]; exact List.mem_cons_self))
      have hpw := pw_bd (i := i) (by omega)
      have h7 : wrap64 (7 * (i : Int)) = 7 * i := w64 (by omega) (by omega)
      have h7u : IntKind.u64.wrap (7 * (i : Int)) = 7 * i := wu64 (by omega) (by omega)
      generalize hcc : rd l (a + i) = c at *
      have hsh := shl_pw (c % 128) i (by omega) (by omega) (by omega)
      have htm : IntKind.u64.wrap (Int.tmod c 128) = c % 128 := by rw [Int.tmod_eq_emod_of_nonneg hc.1, wu64 (by omega) (by omega)]
      have hbd : 0 ≤ c % 128 * 128 ^ i ∧ c % 128 * 128 ^ i ≤ 127 * 72057594037927936 := by
        generalize (128 : Int) ^ i = p at *
        have h3 : c % 128 * p ≤ 127 * p := Int.mul_le_mul_of_nonneg_right (by omega) (by omega)
        exact ⟨Int.mul_nonneg (by omega) (by omega), by omega⟩
      have hsum : IntKind.u64.wrap (acc + c % 128 * 128 ^ i) = acc + c % 128 * 128 ^ i := wu64 (by omega) (by omega)
      simp only [rdS]
      by_cases hs : c < 128
      · rw [if_pos hs]
        have hm : c % 128 = c := by omega
        by_cases hz : c = 0 ∧ 0 < i
        · rw [if_pos hz]
          refine Ev.step (f := fun _ => some (0, 0, 9)) (fun k => ?_) (Ev.now _)
          unfold quireref02_Read.l0
          rw [if_pos (by omega), hw, if_neg (by omega), if_pos (by omega), if_pos hlt, h7, h7u, if_pos (by omega), hcc, if_neg (by omega), if_pos hz.1, if_pos (by omega)]
        · rw [if_neg hz]
          refine Ev.step (f := fun _ => some (acc + c * 128 ^ i, a + ((i + 1 : Nat) : Int), 0)) (fun k => ?_) (Ev.now _)
          unfold quireref02_Read.l0
          rw [if_pos (by omega), hw, if_neg (by omega), if_pos (by omega), if_pos hlt, h7, h7u, if_pos (by omega), hcc, if_neg (by omega), htm, hsh, hsum, hm]
          have hw2 : wrap64 (a + (i : Int) + 1) = a + ((i + 1 : Nat) : Int) := by rw [w64 (by omega) (by omega)]; omega
          rw [hw2]
          by_cases hc0 : c = 0
          · rw [if_pos hc0, if_neg (by omega)]
          · rw [if_neg hc0]
      · rw [if_neg hs]
        have hm : c % 128 = c - 128 := by omega
        rw [hm] at hsh hsum htm
        have ih := rread_l0 l hb hl' a h0 h1 f (i + 1) (acc + (c - 128) * 128 ^ i) (by omega)
          (by have : 0 ≤ (c - 128) * 128 ^ i := Int.mul_nonneg (by omega) (by omega); omega)
          (by
            rw [Int.pow_succ]
            generalize (128 : Int) ^ i = p at *
            have h3 : (c - 128) * p ≤ 127 * p := Int.mul_le_mul_of_nonneg_right (by omega) (by omega)
            omega)
        refine Ev.step (f := fun k => quireref02_Read.l0 k l a (acc + (c - 128) * 128 ^ i) ((i + 1 : Nat) : Int)) (fun k => ?_) ?_
        · conv => lhs; unfold quireref02_Read.l0
          rw [if_pos (by omega), hw, if_neg (by omega), if_pos (by omega), if_pos hlt, h7, h7u, if_pos (by omega), hcc, if_pos (by omega), htm, hsh, hsum]
          have hw3 : wrap64 ((i : Int) + 1) = ((i + 1 : Nat) : Int) := by rw [w64 (by omega) (by omega)]; omega
          rw [hw3]
        · have e2 : a.toNat + i + 1 = a.toNat + (i + 1) := by omega
          rw [e2]
          exact ih
    · have hnil : l.drop (a.toNat + i) = [] := List.drop_eq_nil_of_le (by omega)
      rw [hnil]
      refine Ev.step (f := fun _ => some (0, 0, 9)) (fun k => ?_) (Ev.now _)
      unfold quireref02_Read.l0
      rw [if_pos (by omega), hw, if_pos (by omega)]

theorem rread_ev (l : List Int) (hb : Byt l) (hl : l.length ≤ Lim) (a : Int) (h0 : 0 ≤ a) (h1 : a ≤ l.length) : Ev (fun k => quireref02_Read.f k l a) (resS a (rdS 9 0 0 (l.drop a.toNat))) := by
  have h := rread_l0 l hb hl a h0 h1 9 0 0 rfl (by omega) (by decide)
  rw [Nat.add_zero] at h
  refine Ev.congr (f := fun k => quireref02_Read.j0 k l a false) (fun k => by unfold quireref02_Read.f; rw [if_neg (by omega), decide_eq_false (by omega)]) ?_
  refine Ev.step (fun k => ?_) h
  conv => lhs; unfold quireref02_Read.j0
  rfl

end Go.Proofs.Ytbhiepfejlhbnaa.Q
