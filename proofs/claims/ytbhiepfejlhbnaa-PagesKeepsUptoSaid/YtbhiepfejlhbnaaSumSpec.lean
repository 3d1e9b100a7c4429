/- The plain law of layer sum: numbers as bytes, the number at a place, lists of bytes as bytes; no program in sight. -/
namespace Go.Proofs.Ytbhiepfejlhbnaa.SumSpec

/-- All are bytes. -/
def Byt (l : List Int) : Prop := ∀ c ∈ l, 0 ≤ c ∧ c ≤ 255

/-- A number as bytes. -/
def num (n : Nat) : List Int := if n < 128 then [(n : Int)] else (128 + (n : Int) % 128) :: num (n / 128)
  termination_by n
  decreasing_by omega

theorem num_small {n : Nat} (h : n < 128) : num n = [(n : Int)] := by rw [num, if_pos h]
theorem num_big {n : Nat} (h : ¬ n < 128) : num n = (128 + (n : Int) % 128) :: num (n / 128) := by rw [num, if_neg h]

theorem num_pos (n : Nat) : 0 < (num n).length := by
  by_cases h : n < 128
  · rw [num_small h]; simp
  · rw [num_big h]; simp

theorem num_len : ∀ (k n : Nat), n < 128 ^ (k + 1) → (num n).length ≤ k + 1
  | 0, n, h => by rw [num_small (by omega)]; simp
  | k + 1, n, h => by
    by_cases hn : n < 128
    · rw [num_small hn]; simp
    · rw [num_big hn, List.length_cons]
      have := num_len k (n / 128) (by rw [Nat.pow_succ] at h; omega)
      omega

theorem num_byt (n : Nat) : Byt (num n) := by
  induction n using Nat.strongRecOn with
  | _ n ih =>
    by_cases h : n < 128
    · rw [num_small h]
      intro c hc
      rw [List.mem_singleton.1 hc]
      omega
    · rw [num_big h]
      intro c hc
      rcases List.mem_cons.1 hc with rfl | hc
      · omega
      · exact ih (n / 128) (by omega) c hc

/-- The number at the head of bytes, with so many bytes at most to come, i read: its value and how many bytes it took. -/
def rdS : Nat → Nat → Int → List Int → Option (Int × Nat)
  | 0, _, _, _ => none
  | _ + 1, _, _, [] => none
  | f + 1, i, acc, c :: r => if c < 128 then (if c = 0 ∧ 0 < i then none else some (acc + c * 128 ^ i, i + 1)) else rdS f (i + 1) (acc + (c - 128) * 128 ^ i) r

theorem pw_pos (i : Nat) : (0 : Int) < 128 ^ i := Int.pow_pos (by omega)

/-- It is read as it, wherever it stands. -/
theorem rdS_num : ∀ (f i : Nat) (acc : Int) (n : Nat) (rest : List Int), 0 < f → n < 128 ^ f → (0 < i → 0 < n) → rdS f i acc (num n ++ rest) = some (acc + n * 128 ^ i, i + (num n).length)
  | 0, i, acc, n, rest, hf, h, h0 => by omega
  | f + 1, i, acc, n, rest, hf, h, h0 => by
    by_cases hn : n < 128
    · rw [num_small hn]
      simp only [List.cons_append, List.nil_append, rdS, List.length_singleton]
      rw [if_pos (by omega), if_neg (by intro hh; have := h0 hh.2; omega)]
    · rw [num_big hn]
      simp only [List.cons_append, rdS, List.length_cons]
      rw [if_neg (by omega), rdS_num f (i + 1) _ (n / 128) rest (by rcases Nat.eq_zero_or_pos f with e | e; (subst e; simp at h; omega); exact e) (by rw [Nat.pow_succ] at h; omega) (fun _ => by omega)]
      congr 1
      rw [Prod.mk.injEq]
      refine ⟨?_, by omega⟩
      have e : ((n : Int) = 128 * ((n / 128 : Nat) : Int) + (n : Int) % 128) := by omega
      rw [Int.pow_succ]
      generalize (128 : Int) ^ i = p
      have e2 : (128 + (n : Int) % 128 - 128) = (n : Int) % 128 := by omega
      rw [e2, Int.add_assoc]
      congr 1
      have e3 : ((n / 128 : Nat) : Int) * (p * 128) = (128 * ((n / 128 : Nat) : Int)) * p := by
        rw [Int.mul_comm p 128, ← Int.mul_assoc, Int.mul_comm ((n / 128 : Nat) : Int) 128]
      rw [e3, ← Int.add_mul, Int.add_comm ((n : Int) % 128), ← e]

/-- What is read is a number's bytes, and then the rest. -/
theorem rdS_some : ∀ (f i : Nat) (acc : Int) (l : List Int) (v : Int) (m : Nat), Byt l → rdS f i acc l = some (v, m) →
    ∃ (n : Nat) (rest : List Int), l = num n ++ rest ∧ v = acc + n * 128 ^ i ∧ m = i + (num n).length ∧ n < 128 ^ f ∧ (0 < i → 0 < n)
  | 0, i, acc, l, v, m, hb, h => by simp [rdS] at h
  | f + 1, i, acc, [], v, m, hb, h => by simp [rdS] at h
  | f + 1, i, acc, c :: r, v, m, hb, h => by
    simp only [rdS] at h
    have hc := hb c List.mem_cons_self
    have hr : Byt r := fun x hx => hb x (List.mem_cons_of_mem _ hx)
    by_cases h1 : c < 128
    · rw [if_pos h1] at h
      split at h
      · cases h
      · rename_i h2
        simp only [Option.some.injEq, Prod.mk.injEq] at h
        obtain ⟨rfl, rfl⟩ := h
        refine ⟨c.toNat, r, ?_, ?_, ?_, ?_, fun hi => by omega⟩
        · rw [num_small (by omega), List.singleton_append, Int.toNat_of_nonneg hc.1]
        · rw [Int.toNat_of_nonneg hc.1]
        · rw [num_small (by omega)]; rfl
        · rw [Nat.pow_succ]
          have : 0 < 128 ^ f := Nat.pow_pos (by omega)
          have h3 : 1 * 128 ≤ 128 ^ f * 128 := Nat.mul_le_mul_right 128 this
          omega
    · rw [if_neg h1] at h
      obtain ⟨n, rest, hl, hv, hm, hn, h0⟩ := rdS_some f (i + 1) _ r v m hr h
      have hn0 := h0 (by omega)
      refine ⟨n * 128 + (c - 128).toNat, rest, ?_, ?_, ?_, ?_, fun _ => by omega⟩
      · rw [num_big (by omega), hl, List.cons_append]
        have e1 : (n * 128 + (c - 128).toNat) / 128 = n := by omega
        have e2 : 128 + ((n * 128 + (c - 128).toNat : Nat) : Int) % 128 = c := by omega
        rw [e1, e2]
      · rw [hv, Int.pow_succ]
        have e : ((n * 128 + (c - 128).toNat : Nat) : Int) = (n : Int) * 128 + (c - 128) := by omega
        rw [e, Int.add_mul]
        generalize (128 : Int) ^ i = p
        have e3 : (n : Int) * (p * 128) = (n : Int) * 128 * p := by rw [Int.mul_comm p 128, Int.mul_assoc]
        rw [e3]
        omega
      · have e1 : (n * 128 + (c - 128).toNat) / 128 = n := by omega
        rw [num_big (by omega), List.length_cons, e1]
        omega
      · rw [Nat.pow_succ]
        have h3 : (n + 1) * 128 ≤ 128 ^ f * 128 := Nat.mul_le_mul_right 128 hn
        omega

theorem rdS_len : ∀ (f i : Nat) (acc : Int) (l : List Int) (v : Int) (m : Nat), rdS f i acc l = some (v, m) → i < m ∧ m ≤ i + l.length
  | 0, i, acc, l, v, m, h => by simp [rdS] at h
  | f + 1, i, acc, [], v, m, h => by simp [rdS] at h
  | f + 1, i, acc, c :: r, v, m, h => by
    simp only [rdS] at h
    rw [List.length_cons]
    by_cases h1 : c < 128
    · rw [if_pos h1] at h
      split at h
      · cases h
      · simp only [Option.some.injEq, Prod.mk.injEq] at h
        omega
    · rw [if_neg h1] at h
      have := rdS_len f (i + 1) _ r v m h
      omega

/-- Lists behind one another, each with its length ahead. -/
def body : List (List Int) → List Int
  | [] => []
  | x :: l => num x.length ++ x ++ body l
theorem body_append (l m : List (List Int)) : body (l ++ m) = body l ++ body m := by
  induction l with
  | nil => rfl
  | cons x l ih => simp [body, ih]
/-- Lists of bytes as bytes. -/
def joinS (l : List (List Int)) : List Int := num l.length ++ body l

/-- So many lists are split off at a place; behind them nothing may stand. -/
def loopS : Nat → List Int → Nat → List (List Int) → Option (List (List Int))
  | 0, l, a, acc => if a = l.length then some acc else none
  | m + 1, l, a, acc => match rdS 9 0 0 (l.drop a) with
    | none => none
    | some (v, c) => if v > (l.length : Int) - (a + c) then none else loopS m l (a + c + v.toNat) (acc ++ [(l.drop (a + c)).take v.toNat])
def splitS (l : List Int) : Option (List (List Int)) := match rdS 9 0 0 l with
  | none => none
  | some (v, c) => if v > (l.length : Int) then none else loopS v.toNat l c []

theorem body_len (l : List (List Int)) : l.length ≤ (body l).length := by
  induction l with
  | nil => simp [body]
  | cons x l ih => have := num_pos x.length; simp [body]; omega

/-- Lists laid behind something are split off; a rest is a fault. -/
theorem loopS_body : ∀ (xs : List (List Int)) (pre rest : List Int) (acc : List (List Int)), (∀ x ∈ xs, x.length < 128 ^ 9) →
    loopS xs.length (pre ++ body xs ++ rest) pre.length acc = if rest = [] then some (acc ++ xs) else none
  | [], pre, rest, acc, _ => by
    simp only [List.length_nil, loopS, body, List.append_nil, List.length_append]
    cases rest with
    | nil => simp
    | cons c r => simp
  | x :: xs, pre, rest, acc, hx => by
    simp only [List.length_cons, loopS]
    have e0 : (pre ++ body (x :: xs) ++ rest).drop pre.length = num x.length ++ (x ++ body xs ++ rest) := by
      rw [List.append_assoc, List.drop_left]; simp [body]
    rw [e0, rdS_num 9 0 0 x.length _ (by omega) (hx x List.mem_cons_self) (fun h => by omega)]
    simp only [Nat.zero_add, Int.zero_add, Int.pow_zero, Int.mul_one]
    have e1 : ((pre ++ body (x :: xs) ++ rest).length : Int) - ((pre.length : Int) + ((num x.length).length : Int)) = ((x.length + (body xs).length + rest.length : Nat) : Int) := by
      simp only [body, List.length_append]; omega
    rw [e1, if_neg (by omega)]
    have e2 : (pre ++ body (x :: xs) ++ rest) = (pre ++ num x.length ++ x) ++ body xs ++ rest := by simp [body]
    have e3 : pre.length + (num x.length).length + (x.length : Int).toNat = (pre ++ num x.length ++ x).length := by simp; omega
    have e4 : ((pre ++ body (x :: xs) ++ rest).drop (pre.length + (num x.length).length)).take (x.length : Int).toNat = x := by
      rw [show pre ++ body (x :: xs) ++ rest = (pre ++ num x.length) ++ (x ++ (body xs ++ rest)) by simp [body], show pre.length + (num x.length).length = (pre ++ num x.length).length by simp, List.drop_left, Int.toNat_natCast, List.take_left]
    rw [e4, e3, e2, loopS_body xs _ rest _ (fun y hy => hx y (List.mem_cons_of_mem _ hy))]
    simp

theorem splitS_join (l : List (List Int)) (rest : List Int) (hl : l.length < 128 ^ 9) (hx : ∀ x ∈ l, x.length < 128 ^ 9) : splitS (joinS l ++ rest) = if rest = [] then some l else none := by
  unfold splitS
  have e0 : joinS l ++ rest = num l.length ++ (body l ++ rest) := by simp [joinS]
  rw [e0, rdS_num 9 0 0 l.length _ (by omega) hl (fun h => by omega)]
  simp only [Nat.zero_add, Int.zero_add, Int.pow_zero, Int.mul_one]
  have hb := body_len l
  rw [if_neg (by simp only [List.length_append]; omega), Int.toNat_natCast]
  have := loopS_body l (num l.length) rest [] hx
  rw [List.nil_append, List.append_assoc] at this
  exact this

/-- What is split is a join of it. -/
theorem loopS_some : ∀ (m : Nat) (l : List Int) (a : Nat) (acc z : List (List Int)), Byt l → a ≤ l.length → loopS m l a acc = some z → ∃ xs, z = acc ++ xs ∧ xs.length = m ∧ l.drop a = body xs
  | 0, l, a, acc, z, hb, ha, h => by
    simp only [loopS] at h
    split at h
    · rename_i e
      cases h
      exact ⟨[], by simp, rfl, by rw [e]; simp [body]⟩
    · cases h
  | m + 1, l, a, acc, z, hb, ha, h => by
    simp only [loopS] at h
    split at h
    · cases h
    · rename_i v c hr
      have hbd : Byt (l.drop a) := fun x hx => hb x (List.mem_of_mem_drop hx)
      obtain ⟨n, rest, hl, hv, hm, hn, _⟩ := rdS_some 9 0 0 _ v c hbd hr
      simp only [Int.zero_add, Int.pow_zero, Int.mul_one, Nat.zero_add] at hv hm
      subst hv hm
      split at h
      · cases h
      · rename_i hle
        have hlen : l.length - a = (num n).length + rest.length := by
          have := congrArg List.length hl
          simpa using this
        have hn2 : n ≤ rest.length := by omega
        rw [Int.toNat_natCast] at h
        obtain ⟨xs, hz, hxl, hxd⟩ := loopS_some m l (a + (num n).length + n) _ z hb (by omega) h
        have hd1 : l.drop (a + (num n).length) = rest := by
          rw [← List.drop_drop, hl, List.drop_left]
        refine ⟨rest.take n :: xs, by rw [hz, hd1]; simp, by simp [hxl], ?_⟩
        rw [hl]
        simp only [body]
        rw [List.length_take, Nat.min_eq_left hn2, List.append_assoc]
        congr 1
        rw [← hxd, ← List.drop_drop, hd1]
        exact (List.take_append_drop n rest).symm

theorem splitS_some (l : List Int) (z : List (List Int)) (hb : Byt l) (h : splitS l = some z) : joinS z = l := by
  unfold splitS at h
  split at h
  · cases h
  · rename_i v c hr
    obtain ⟨n, rest, hl, hv, hm, hn, _⟩ := rdS_some 9 0 0 _ v c hb hr
    simp only [Int.zero_add, Int.pow_zero, Int.mul_one, Nat.zero_add] at hv hm
    subst hv hm
    split at h
    · cases h
    · rw [Int.toNat_natCast] at h
      obtain ⟨xs, hz, hxl, hxd⟩ := loopS_some n l _ _ z hb (by rw [hl]; simp) h
      rw [List.nil_append] at hz
      subst hz
      unfold joinS
      rw [hxl, ← hxd, hl, List.drop_left]

/-- A beginning that is not all of a join is split into nothing. -/
theorem splitS_cut (l : List (List Int)) (p : List Int) (s : List Int) (hl : l.length < 128 ^ 9) (hx : ∀ x ∈ l, x.length < 128 ^ 9) (hb : Byt (joinS l)) (he : joinS l = p ++ s) (hs : s ≠ []) (hp : p.length < 128 ^ 9) : splitS p = none := by
  cases hc : splitS p with
  | none => rfl
  | some z =>
    have hbp : Byt p := fun x hxx => hb x (by rw [he]; exact List.mem_append_left _ hxx)
    have hz := splitS_some p z hbp hc
    have hzl : z.length ≤ p.length := by
      rw [← hz]
      have := body_len z
      simp only [joinS, List.length_append]
      omega
    have hzx : ∀ x ∈ z, x.length ≤ p.length := by
      intro x hxz
      rw [← hz]
      have : x.length ≤ (body z).length := by
        clear hz hzl hc
        induction z with
        | nil => cases hxz
        | cons y z ih =>
          simp only [body, List.length_append]
          rcases List.mem_cons.1 hxz with rfl | h
          · omega
          · have := ih h; omega
      simp only [joinS, List.length_append]
      omega
    have h1 := splitS_join z s (by omega) (fun x hxz => by have := hzx x hxz; omega)
    rw [if_neg hs, hz, ← he] at h1
    have h2 := splitS_join l [] hl hx
    rw [List.append_nil, if_pos rfl] at h2
    rw [h2] at h1
    cases h1

end Go.Proofs.Ytbhiepfejlhbnaa.SumSpec
