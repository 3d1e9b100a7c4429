/- Names as the program holds them: their order, sets and tables of names in maps. -/
import Derived.Test.YtdllpgeagdckmaaQ0
import Derived.Test.YtdllpgeagdckmaaMapKit
import Derived.Test.YtdllpgeagdckmaaOTheory
import Derived.Sort.Walk0
import Derived.Lib.Hide
namespace Go.Proofs.Ytdllpgeagdckmaa.Q
open Go.RowKit Go.Proofs.YtdllpgeagdckmaaW.PrintWords Go.Proofs.YtdllpgeagdckmaaW.PrintLast Go.Proofs.YtdllpgeagdckmaaW.PrintMore Go.Proofs.Ytdllpgeagdckmaa.MapKit Go.Maps Go.Proofs.Ytdllpgeagdckmaa.Ord
set_option linter.unusedVariables false
set_option linter.unusedSimpArgs false

def ltN (a b : ByteArray) : Bool := Op.bytesLess a.toList b.toList
theorem toList_data (a : ByteArray) : a.toList = a.data.toList := ByteArray.toList_eq a
instance memDec (s : ByteArray) (S : List ByteArray) : Decidable (s ∈ S) := @List.instDecidableMemOfLawfulBEq ByteArray instBEqOfDecidableEq inferInstance s S
theorem bytes_ext {a b : ByteArray} (h : a.data.toList = b.data.toList) : a = b := by
  cases a; cases b
  simp only [ByteArray.mk.injEq]
  exact Array.toList_inj.1 h
theorem ltN_iff (a b : ByteArray) : ltN a b = decide (a.data.toList < b.data.toList) := by
  rw [ltN, Go.Proofs.bytesLess_eq, toList_data, toList_data]
theorem totN : Tot ltN where
  irr a := by rw [ltN_iff]; exact decide_eq_false (List.lt_irrefl _)
  tr a b c h1 h2 := by
    rw [ltN_iff] at *
    exact decide_eq_true (List.lt_trans (of_decide_eq_true h1) (of_decide_eq_true h2))
  tri a b := by
    rw [ltN_iff, ltN_iff, decide_eq_true_iff, decide_eq_true_iff]
    rcases Classical.em (a.data.toList < b.data.toList) with h | h
    · exact .inl h
    · rcases Classical.em (b.data.toList < a.data.toList) with h' | h'
      · exact .inr (.inr h')
      · exact .inr (.inl (bytes_ext (List.le_antisymm (List.not_lt.1 h') (List.not_lt.1 h))))

def netOf (l : List S41) : Net ByteArray := l.map fun v => (v.f0, v.f1)

/-- What a map keyed by strings holds. -/
def keyB (F : ByteArray → Option Value) : Lit → Option Value := ofStr (fun l => F ⟨l.toArray⟩)
theorem keyB_at (F : ByteArray → Option Value) (s : ByteArray) : keyB F (.string s.data.toList) = F s := by
  show F ⟨s.data.toList.toArray⟩ = F s
  rw [Array.toArray_toList]
theorem upd_keyB (F : ByteArray → Option Value) (s : ByteArray) (v : Option Value) : upd (keyB F) (.string s.data.toList) v = keyB (fun y => if y = s then v else F y) := by
  rw [keyB, upd_str, keyB]
  congr 1
  funext l
  have e : (l = s.data.toList) ↔ ((⟨l.toArray⟩ : ByteArray) = s) := ⟨fun h => by rw [h, Array.toArray_toList], fun h => by rw [← h]⟩
  by_cases h : l = s.data.toList
  · rw [if_pos h, if_pos (e.1 h)]
  · rw [if_neg h, if_neg (fun h' => h (e.2 h'))]

theorem key9 : Keyed Try.prog 9 := string_keyed Try.underlying9
theorem zero4 (w : World) : (zeroValue 4).run Try.prog w = .ok (.bool false) w := by kernel_rfl
theorem zero23 (w : World) : (zeroValue 23).run Try.prog w = .ok (.slice none 0 0) w := by kernel_rfl

/-- A set of names. -/
def setB (S : List ByteArray) (s : ByteArray) : Option Value := if s ∈ S then some (.bool true) else none
def SetIs (w : World) (g n : Nat) (S : List ByteArray) : Prop := MapIs Try.prog 9 w g n (keyB (setB S))
theorem SetIs.made (w : World) : SetIs (w.alloc (.map #[] 0)) w.heap.size 0 [] := by
  refine (MapIs.made w Try.prog 9).congr fun s => ?_
  cases s <;> simp [keyB, ofStr, setB]
theorem SetIs.congr {w : World} {g n : Nat} {S S' : List ByteArray} (h : SetIs w g n S) (e : ∀ x, x ∈ S ↔ x ∈ S') : SetIs w g n S' := by
  refine MapIs.congr h fun s => ?_
  cases s <;> simp [keyB, ofStr, setB, e]
theorem SetIs.below {w w' : World} {g n : Nat} {S : List ByteArray} (h : SetIs w g n S) (hb : Below w.heap.size w w') : SetIs w' g n S := MapIs.below h hb
theorem SetIs.lt {w : World} {g n : Nat} {S : List ByteArray} (h : SetIs w g n S) : g < w.heap.size := MapIs.lt h
theorem map_block {P : Program} {k : TypeId} {w : World} {b n : Nat} {f : Lit → Option Value} (h : MapIs P k w b n f) : ∃ es clock, w.heap[b]? = some (.map es clock) := by
  obtain ⟨D, ⟨es, clock, h1, _⟩, _⟩ := h
  exact ⟨es, clock, h1⟩
/-- A map is no row. -/
theorem map_ne_row {P : Program} {k : TypeId} {w : World} {b n : Nat} {f : Lit → Option Value} (h : MapIs P k w b n f) {base e size m : Nat} {v : Value} {xs : List Value} (ho : w.ownsRow base e size v m xs) : v.ownBlock ≠ some b := fun e' => by
  obtain ⟨es, clock, hm⟩ := map_block h
  obtain ⟨cs, hc⟩ := own_typed ho b e'
  rw [hm] at hc
  cases hc
theorem map_ne_cells {P : Program} {k : TypeId} {w : World} {b n : Nat} {f : Lit → Option Value} (h : MapIs P k w b n f) {g t : Nat} {cs : Array Value} {fr : Nat × Nat} (ho : w.heap[g]? = some (.cells cs t fr)) : g ≠ b := fun e' => by
  obtain ⟨es, clock, hm⟩ := map_block h
  rw [e', hm] at ho
  cases ho
theorem map_far {P : Program} {k : TypeId} {w : World} {b n : Nat} {f : Lit → Option Value} (h : MapIs P k w b n f) {p : Addr} (hp : b ≠ p.block) (u : Value) : MapIs P k (w.setCell p u) b n f := h.move (Below.heap_setCell w p u b hp)

section
variable {w : World} {ops : Array Oper} {rest : List Oper} {o : Oper} {a : Act} {Q : Exit → Act → World → Prop}
/-- 'set[name]'. -/
theorem set_look (hg : o.guard = none) (m x : Operand) (hop : o.op = Op.lookup 69 m x false) {b n : Nat} {S : List ByteArray} (hm : a.eval m = .map (some b)) (h : SetIs w b n S) (s : ByteArray) (hx : a.eval x = .string s) (hlen : s.size ≤ maxLen)
    (hK : wpList Try.prog ops Q rest (a.put o.dst (.bool (decide (s ∈ S)))) w) : wpList Try.prog ops Q (o :: rest) a w := by
  refine wpList_look hg m x 69 hop 4 key9 Try.underlying69 (zero4 _) hm h (.string s) (.string s.data.toList) hx (Go.WideMaps.keyOf_string_mk Try.underlying9 hlen) ?_
  rw [keyB_at]
  by_cases hs : s ∈ S
  · simpa [setB, hs] using hK
  · simpa [setB, hs] using hK
theorem set_look_w (hw : Region.wanted o (yielded ops a.tmps) = true) (m x : Operand) (hop : o.op = Op.lookup 69 m x false) {b n : Nat} {S : List ByteArray} (hm : a.eval m = .map (some b)) (h : SetIs w b n S) (s : ByteArray) (hx : a.eval x = .string s) (hlen : s.size ≤ maxLen)
    (hK : wpList Try.prog ops Q rest (a.put o.dst (.bool (decide (s ∈ S)))) w) : wpList Try.prog ops Q (o :: rest) a w := by
  refine wpList_look_w hw m x 69 hop 4 key9 Try.underlying69 (zero4 _) hm h (.string s) (.string s.data.toList) hx (Go.WideMaps.keyOf_string_mk Try.underlying9 hlen) ?_
  rw [keyB_at]
  by_cases hs : s ∈ S
  · simpa [setB, hs] using hK
  · simpa [setB, hs] using hK
/-- 'set[name] = true'. -/
theorem set_put (hg : o.guard = none) (m x v : Operand) (hop : o.op = Op.mapUpdate 69 m x v) {b n : Nat} {S : List ByteArray} (hm : a.eval m = .map (some b)) (h : SetIs w b n S) (hn : n < maxLen) (s : ByteArray) (hx : a.eval x = .string s) (hv : a.eval v = .bool true) (hlen : s.size ≤ maxLen)
    (hK : ∀ w', SetIs w' b (n + 1) (S ++ [s]) → w.grownBy w' (some b) → wpList Try.prog ops Q rest (a.put o.dst undef) w') : wpList Try.prog ops Q (o :: rest) a w := by
  refine wpList_put hg m x v 69 hop 4 key9 Try.underlying69 hm h hn (.string s) (.string s.data.toList) (key_lit _) (.bool true) hx hv (Go.WideMaps.keyOf_string_mk Try.underlying9 hlen) (fun w' h1 h2 => hK w' ?_ h2)
  rw [upd_keyB] at h1
  refine h1.congr fun l => ?_
  cases l with
  | string l =>
    simp only [keyB, ofStr, setB, List.mem_append, List.mem_singleton]
    by_cases h1 : (⟨l.toArray⟩ : ByteArray) = s
    · simp [h1]
    · simp [h1]
  | _ => rfl
end

/-- A row of strings of the call's own. -/
def SRow (w : World) (base : Nat) (v : Value) (xs : List ByteArray) : Prop := w.ownsRow base 9 1 v xs.length (xs.map Value.string)
theorem SRow.nil (w : World) (base : Nat) : SRow w base (.slice none 0 0) [] := own_nil _ _ _ _
theorem SRow.below {w w' : World} {base : Nat} {v : Value} {xs : List ByteArray} (h : SRow w base v xs) (hb : Below w.heap.size w w') : SRow w' base v xs := pw_own_below h hb
theorem SRow.reads {w : World} {base : Nat} {v : Value} {xs : List ByteArray} (h : SRow w base v xs) : ∃ A c, v = .slice A xs.length c ∧ xs.length ≤ c ∧ Kd.string.C w A xs.length xs := by
  have := Kd.R_of_own (enc := Value.string) (h1 := fun _ => rfl) (ok := fun _ => True) h (fun _ _ => trivial)
  exact Kd.R_reads this

section
variable {w : World} {ops : Array Oper} {rest : List Oper} {o : Oper} {a : Act} {Q : Exit → Act → World → Prop}
/-- 'append(row, name)'. -/
theorem srow_append {W : World} (base : Nat) (hgd : o.guard = none) (s x : Operand) (ho : o.op = .call { callee := .builtin .append, args := #[s, x], argTypes := #[23, 23] }) {v : Value} {xs : List ByteArray} (hs : a.eval s = v) (y : ByteArray) (hx : a.eval x = .slice (some ⟨W.heap.size, 0, none⟩) 1 1)
    (HO : SRow W base v xs) (hl : xs.length ≤ 8000000) (hbase : base ≤ W.heap.size)
    (hK : ∀ A c w', SRow w' base (.slice A (xs.length + 1) c) (xs ++ [y]) → W.grownBy w' v.ownBlock → ((Value.slice A (xs.length + 1) c).ownBlock = v.ownBlock ∨ ∃ k, (Value.slice A (xs.length + 1) c).ownBlock = some k ∧ W.heap.size ≤ k) → wpList Try.prog ops Q rest (a.put o.dst (.slice A (xs.length + 1) c)) w') :
    wpList Try.prog ops Q (o :: rest) a (W.alloc (.cells #[.string y] 9)) := by
  obtain ⟨i0, hi, hzz⟩ := Option.map_eq_some_iff.1 info9
  simp only [Prod.mk.injEq] at hzz
  obtain ⟨hz0, hz1, hz2⟩ := hzz
  refine wpList_append_own_at (W.alloc (.cells #[.string y] 9)) hgd s x 23 ho base 9 i0 (.string ⟨#[]⟩) 1 16 Try.underlying23 hi hz0 hz1 hz2 rfl (by omega) v xs.length (xs.map Value.string) hs (HO.alloc _) ⟨W.heap.size, 0, none⟩ 1 1 [.string y] hx rfl
    (World.news_of_block (cs := #[.string y]) (t := 9) (fr := (0, 0)) (heap_alloc_new W _)) (by simp [Value.oneCell']) (by simp only [maxLen]; omega) (by omega) (by simp; omega) ?_
  intro v1 w1 hown hg _ hat
  obtain ⟨A, c, rfl⟩ := own_slice hown
  refine hK A c w1 ?_ (World.grownBy.trans (World.grownBy_alloc W _ _) hg) ?_
  · rw [SRow, List.length_append, List.map_append]
    exact hown
  · rcases hat with hat | hat
    · exact .inl hat
    · exact .inr ⟨_, hat, by simp⟩
/-- 'append(row, names...)'. -/
theorem srow_appendAll {W : World} (base : Nat) (hgd : o.guard = none) (s x : Operand) (ho : o.op = .call { callee := .builtin .append, args := #[s, x], argTypes := #[23, 23] }) {v : Value} {xs ys : List ByteArray} {A : Option Addr} {c : Nat} (hs : a.eval s = v) (hx : a.eval x = .slice A ys.length c)
    (HO : SRow W base v xs) (HR : Kd.string.C W A ys.length ys) (hl : xs.length + ys.length ≤ 8000000) (hbase : base ≤ W.heap.size)
    (hK : ∀ A' c' w', SRow w' base (.slice A' (xs.length + ys.length) c') (xs ++ ys) → W.grownBy w' v.ownBlock → ((Value.slice A' (xs.length + ys.length) c').ownBlock = v.ownBlock ∨ ∃ k, (Value.slice A' (xs.length + ys.length) c').ownBlock = some k ∧ W.heap.size ≤ k) → wpList Try.prog ops Q rest (a.put o.dst (.slice A' (xs.length + ys.length) c')) w') :
    wpList Try.prog ops Q (o :: rest) a W := by
  refine Kd.R_append_row (w0 := W) Value.string ByteArray.empty (h1 := fun _ => rfl) base hgd s x 23 9 (.string ⟨#[]⟩) 16 ho Try.underlying23 info9 rfl (by omega) v xs ys A ys.length c (fun _ => True) hs hx (fun _ _ => trivial)
    (Kd.R_of_own HO (fun _ _ => trivial)) HR ((Below.refl _ _).mono hbase) hbase (by omega) ?_
  intro v1 w1 hR _ hg hat
  have hown := Kd.own_of_R hR
  obtain ⟨A', c', rfl⟩ := own_slice hown
  rw [List.length_append] at hown hat
  have hown2 : w1.ownsRow base 9 1 (.slice A' (xs.length + ys.length) c') (xs ++ ys).length (encs Value.string (xs ++ ys)) := by rw [List.length_append]; exact hown
  rw [List.length_append]
  exact hK A' c' w1 hown2 hg hat
end
theorem SRow.shape {w : World} {base : Nat} {v : Value} {xs : List ByteArray} (h : SRow w base v xs) : ∃ A c, v = .slice A xs.length c := own_slice h
theorem SRow.take {w : World} {base n c : Nat} {A : Option Addr} {xs : List ByteArray} (h : SRow w base (.slice A n c) xs) {m : Nat} (hm : m ≤ xs.length) : SRow w base (.slice A m c) (xs.take m) := by
  have h1 := Kd.R_of_own (enc := Value.string) (h1 := fun _ => rfl) (ok := fun _ => True) h (fun _ _ => trivial)
  exact Kd.own_of_R (Kd.R_take h1 hm)
theorem slice_take (A : Option Addr) (n c m : Nat) (hm : m ≤ c) : ∀ W, (Instr.slice 23 (.slice A n c) none (some (.int .i64 (m : Int))) none).run Try.prog W = .ok (.slice A m c) W := by
  intro W
  obtain ⟨i0, hi, hzz⟩ := Option.map_eq_some_iff.1 info9
  simp only [Prod.mk.injEq] at hzz
  obtain ⟨hz0, hz1, hz2⟩ := hzz
  have hel : Try.prog.elem 23 = 9 := by simp [Program.elem, Try.underlying23]
  have hu : Try.prog.underlying 23 = some (.slice (Try.prog.elem 23)) := by rw [hel]; exact Try.underlying23
  rw [run_slice_h W 23 A n c hu .i64 m (by omega) (by omega), hel]
  have ha : A.map (·.add 0) = A := by cases A <;> simp [Addr.add]
  simp [sizeOf, typeInfo, hi, hz1, sliced, Result.andThen, ha]
theorem SRow.other {w w' : World} {base : Nat} {v : Value} {xs : List ByteArray} (h : SRow w base v xs) {row : Option Nat} (hg : w.grownBy w' row) (hne : v.ownBlock = none ∨ v.ownBlock ≠ row) : SRow w' base v xs := own_other h hg hne
theorem SRow.base_le {w : World} {base : Nat} {v : Value} {xs : List ByteArray} (h : SRow w base v xs) (k : Nat) (hk : v.ownBlock = some k) : base ≤ k := own_base h k hk
theorem SRow.alloc {w : World} {base : Nat} {v : Value} {xs : List ByteArray} (h : SRow w base v xs) (o : Obj) : SRow (w.alloc o) base v xs := h.below (below_alloc (Below.refl _ _) o)

/-- How many names a list holds. -/
def tot : Net ByteArray → Nat
  | [] => 0
  | v :: l => 1 + v.2.length + tot l
/-- The lists are of a size that memory bears. -/
structure Fit (l : List S41) (want hv : List ByteArray) : Prop where
  tot_ : tot (netOf l) ≤ 3000000
  want_ : want.length ≤ 3000000
  hv_ : hv.length ≤ 3000000
  names : ∀ v ∈ l, v.f0.size ≤ maxLen
  uses : ∀ v ∈ l, ∀ u ∈ v.f1, u.size ≤ maxLen
  wants : ∀ u ∈ want, u.size ≤ maxLen
  havs : ∀ u ∈ hv, u.size ≤ maxLen
end Go.Proofs.Ytdllpgeagdckmaa.Q
