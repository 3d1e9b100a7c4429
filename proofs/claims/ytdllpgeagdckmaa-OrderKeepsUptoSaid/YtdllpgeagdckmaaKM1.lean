/- Put together out of the texts Open, Shelf, Q0, MapKit, OTheory, OKit, OIter, OTwice, OOf: what each proves stands at its head. -/
import Derived.Test.YtdllpgeagdckmaaRows
import Derived.Test.YtdllpgeagdckmaaWWords
import Derived.Deep.Slices
import Derived.ChangeSlices
import Derived.Shelf.SlIter.Nil
import Derived.Shelf.SortM.Plain
import Derived.Shelf.SortM.SortNone
import Derived.Shelf.SlMaps.Clone
import Derived.Ground.GgzProg
import Derived.Ground.SlgmProg
import Derived.Ground.SlmcProg
import Derived.Shelf.Small.Bits
import Derived.Shelf.Strconv.Itoa0
import Derived.Shelf.Sort.Plain
import Derived.Ground.Names2Prog
import Derived.Shelf.Slices.Clone
import Derived.Shelf.Slices.MinMaxS
import Derived.Shelf.Slices.In.SortNone
import Derived.Ground.SlgnProg
import Derived.Shelf.SlicesE.Clone
import Derived.Test.YtdllpgeagdckmaaProg
import Derived.Below
import Derived.Deep.Draws
import Derived.Deep.AppendLies
import Derived.Maps.AppendAt
import Derived.OwnWalk
import Derived.Laws.BytesArg
import Derived.Laws.MakeOwn
import Derived.Laws.OwnMore
import Derived.Deep.OwnRows
import Derived.Tactics
import Derived.Lib.ConvBytes
import Derived.Laws.Slices
import Derived.WalkKit
import Derived.KernelRfl
import Derived.RowKit3
import Derived.Deep.LoopGhost
import Derived.Deep.QuietTactic
import Derived.BigQuiet
import Derived.WideLaws
import Derived.Deep.DeepCutAuto
import Derived.Deep.CutBlock
import Derived.Deep.RegionHeld3
import Derived.Laws.Rows
import Derived.Lib.AppendStr
import Derived.ArgAppend
import Derived.Laws.IdiomCopy
import Derived.OrdersHeld
import Derived.Laws.BitsLemmas
import Derived.RowKit
import Derived.Test.YtdllpgeagdckmaaWLast
import Derived.Test.YtdllpgeagdckmaaWTab
import Derived.Test.YtdllpgeagdckmaaWFour
import Derived.Test.YtdllpgeagdckmaaWQPut
import Derived.Test.YtdllpgeagdckmaaWApart
import Derived.Test.YtdllpgeagdckmaaWArr
import Derived.Test.YtdllpgeagdckmaaWZeros
import Derived.Test.YtdllpgeagdckmaaWFoot
import Derived.Test.YtdllpgeagdckmaaWKept
import Derived.Test.YtdllpgeagdckmaaWShare
import Derived.Test.YtdllpgeagdckmaaWN
import Derived.Test.YtdllpgeagdckmaaWFootNe
import Derived.Test.YtdllpgeagdckmaaWAt
import Derived.Test.YtdllpgeagdckmaaWEqStruct
import Derived.Test.YtdllpgeagdckmaaWRepsOne
import Derived.Test.YtdllpgeagdckmaaWInv
import Derived.Test.YtdllpgeagdckmaaWInvWords
import Derived.Test.YtdllpgeagdckmaaWGuard
import Derived.Test.YtdllpgeagdckmaaWNEv
import Derived.Test.YtdllpgeagdckmaaWMore
import Derived.Maps.Own
import Derived.Maps.OwnOps
import Derived.Maps.OwnSet
import Derived.Maps.Views
import Derived.Maps.Ext
import Derived.Sort.Walk0
import Derived.Lib.Hide
import Derived.Sort.KeysCollected
import Derived.Outline
import Derived.Maps.RangeWalk
import Derived.StillTailTactics

/- Arguments opened to rows that are read (Kd.C), kind by kind, with what the bound on their bulk says of lengths. -/
namespace Go.Proofs.Ytdllpgeagdckmaa.Opens
open Go.ChangeShapes Go.WideShapes Go.Deep Go.RowKit Go.Proofs.YtdllpgeagdckmaaW.PrintWords
section
variable {H : Type} {enc : TypeId × Value → H} {P : Program} {w : World} {base : Nat} {spare : Nat → Bool} {held : Bool}

theorem bulkAll_append (l r : List (DataW H)) : Rows.uptoBulkAll (l ++ r) = Rows.uptoBulkAll l + Rows.uptoBulkAll r := by
  induction l with
  | nil => simp [Rows.uptoBulkAll]
  | cons x l ih => simp only [List.cons_append, Rows.uptoBulkAll, ih]; omega

theorem bulk_sum {α : Type} (wt : α → Nat) (D : Nat → DataW H) (g : Nat → α) : ∀ n, (∀ i, i < n → wt (g i) ≤ Rows.uptoBulk (D i)) → ((((List.range n).map g).map wt)).sum ≤ Rows.uptoBulkAll ((List.range n).map D)
  | 0, _ => by simp
  | n + 1, h => by
    have ih := bulk_sum wt D g n (fun i hi => h i (by omega))
    have h1 := h n (by omega)
    simp only [List.range_succ, List.map_append, List.map_cons, List.map_nil, List.sum_append, List.sum_cons, List.sum_nil, bulkAll_append, Rows.uptoBulkAll]
    omega

theorem open_C {α : Type} (d : Kd α) (wt : α → Nat) (Q : α → Prop) {t e : TypeId} {fuel : Nat} {cs : List Value} {x : DataW H × List MemPlace} (ht : P.underlying t = some (.slice e)) (hsz : P.cellsOf e = d.sz)
    (hel : ∀ n cs y, DataW.trod enc P w base spare held n e cs = some y → ∃ p : α, d.K w p cs ∧ Q p ∧ wt p ≤ Rows.uptoBulk y.1) (h : DataW.trod enc P w base spare held fuel t cs = some x) :
    ∃ (A : Option Addr) (cap : Nat) (xs : List α), cs = [.slice A xs.length cap] ∧ xs.length ≤ cap ∧ cap ≤ maxLen ∧ d.C w A xs.length xs ∧ (∀ p ∈ xs, Q p) ∧ (xs.map wt).sum + 1 ≤ Rows.uptoBulk x.1 := by
  rcases open_slice ht h with ⟨rfl, rfl⟩ | ⟨a, len, cap, m, n, D, Pl, rfl, hb, hl, hm, hmm, rfl, hi⟩
  · refine ⟨none, 0, [], rfl, by simp, by simp [maxLen], ⟨rfl, by simp, fun h => by simp at h⟩, by simp, by simp [Rows.uptoBulk]⟩
  · have hle : len ≤ m := by rw [hmm]; split <;> omega
    have h1 : ∀ i, i < len → ∃ p : α, (∃ cs', w.cells? base (a.add (i * P.cellsOf e)) (P.cellsOf e) = some cs' ∧ d.K w p cs') ∧ Q p ∧ wt p ≤ Rows.uptoBulk (D i) := fun i hil => by
      obtain ⟨cs', hc, ht'⟩ := hi i (by omega)
      obtain ⟨p, hk, hq, hw⟩ := hel _ _ _ ht'
      exact ⟨p, ⟨cs', hc, hk⟩, hq, hw⟩
    by_cases hz : len = 0
    · subst hz
      refine ⟨some a, cap, [], rfl, by simp, hm, ⟨rfl, by simp, fun h => by simp at h⟩, by simp, by simp [Rows.uptoBulk]⟩
    · obtain ⟨p0, _⟩ := h1 0 (by omega)
      have : Nonempty α := ⟨p0⟩
      have h2 : ∀ i, ∃ p : α, i < len → (∃ cs', w.cells? base (a.add (i * P.cellsOf e)) (P.cellsOf e) = some cs' ∧ d.K w p cs') ∧ Q p ∧ wt p ≤ Rows.uptoBulk (D i) := fun i => by
        by_cases hil : i < len
        · obtain ⟨p, hp⟩ := h1 i hil
          exact ⟨p, fun _ => hp⟩
        · exact ⟨p0, fun h => absurd h hil⟩
      obtain ⟨g, hg⟩ := Classical.axiomOfChoice h2
      have hlen : ((List.range len).map g).length = len := by simp
      refine ⟨some a, cap, (List.range len).map g, by rw [hlen], by rw [hlen]; exact hl, hm, ⟨rfl, by rw [hlen]; unfold maxLen at hm; omega, fun _ => ⟨a, rfl, fun j p hj => ?_⟩⟩, ?_, ?_⟩
      · have hjl : j < len := by
          have := (List.getElem?_eq_some_iff.1 hj).1
          rwa [hlen] at this
        have hp : p = g j := by
          rw [List.getElem?_map, List.getElem?_range hjl] at hj
          simpa using hj.symm
        subst hp
        obtain ⟨⟨cs', hc, hk⟩, _, _⟩ := hg j hjl
        obtain ⟨_, hcl, hat⟩ := World.cells?_some hc
        refine ⟨cs', d.K_len hk, hk, fun i u hu => ?_⟩
        have hil : i < cs'.length := (List.getElem?_eq_some_iff.1 hu).1
        have := hat (i := i) (by omega)
        rw [← hsz, ← Go.Deep.add_add, this, hu]
      · intro p hp
        obtain ⟨i, hir, rfl⟩ := List.mem_map.1 hp
        exact (hg i (List.mem_range.1 hir)).2.1
      · have := bulk_sum wt D g len (fun i hi => (hg i hi).2.2)
        simp only [Rows.uptoBulk]
        omega

theorem one_le (d : DataW H) : 1 ≤ Rows.uptoBulk d := by
  cases d with
  | lit l => cases l <;> simp [Rows.uptoBulk]
  | nil => simp [Rows.uptoBulk]
  | ptr d => simp [Rows.uptoBulk]
  | slice elems spare => simp [Rows.uptoBulk]
  | agg parts => simp [Rows.uptoBulk]
  | iface t d => simp [Rows.uptoBulk]
  | map entries => simp [Rows.uptoBulk]
  | held h => simp [Rows.uptoBulk]

/-- Elements that are whole numbers. -/
theorem el_int {e : TypeId} {k : IntKind} (he : P.underlying e = some (.int k)) : ∀ n cs y, DataW.trod enc P w base spare held n e cs = some y → ∃ p : Int, (Kd.int k).K w p cs ∧ (Lit.int k p).wf = true ∧ (fun _ : Int => 1) p ≤ Rows.uptoBulk y.1 := by
  intro n cs y h
  obtain ⟨a, e0, rfl, wa⟩ := DataW.trod_int he h
  exact ⟨a, e0, wa, one_le _⟩

theorem sum_one {α : Type} (xs : List α) : (xs.map (fun _ => 1)).sum = xs.length := by
  induction xs with
  | nil => rfl
  | cons x xs ih => simp [ih]; omega

/-- A slice of whole numbers. -/
theorem open_C_int {t e : TypeId} {k : IntKind} (ht : P.underlying t = some (.slice e)) (he : P.underlying e = some (.int k)) (hc : P.cellsOf e = 1) : ∀ n cs y, DataW.trod enc P w base spare held n t cs = some y →
    ∃ (A : Option Addr) (cap : Nat) (xs : List Int), cs = [.slice A xs.length cap] ∧ xs.length ≤ cap ∧ cap ≤ maxLen ∧ (Kd.int k).C w A xs.length xs ∧ (∀ p ∈ xs, (Lit.int k p).wf = true) ∧ xs.length + 1 ≤ Rows.uptoBulk y.1 := by
  intro n cs y h
  obtain ⟨A, cap, xs, h1, h2, h3, h4, h5, h6⟩ := open_C (Kd.int k) (fun _ => 1) (fun p => (Lit.int k p).wf = true) ht hc (el_int he) h
  rw [sum_one] at h6
  exact ⟨A, cap, xs, h1, h2, h3, h4, h5, h6⟩

/-- A slice of slices of whole numbers. -/
theorem open_C_ints {t t1 e : TypeId} {k : IntKind} (ht : P.underlying t = some (.slice t1)) (hc1 : P.cellsOf t1 = 1) (ht1 : P.underlying t1 = some (.slice e)) (he : P.underlying e = some (.int k)) (hc : P.cellsOf e = 1) (n : Nat) (cs : List Value) (y : DataW H × List MemPlace) (h : DataW.trod enc P w base spare held n t cs = some y) :
    ∃ (A : Option Addr) (cap : Nat) (xs : List (List Int)), cs = [.slice A xs.length cap] ∧ xs.length ≤ cap ∧ cap ≤ maxLen ∧ (Kd.slice e (Kd.int k)).C w A xs.length xs ∧ (∀ x ∈ xs, ∀ p ∈ x, (Lit.int k p).wf = true) ∧ (xs.map (fun x => x.length + 1)).sum + 1 ≤ Rows.uptoBulk y.1 := by
  refine open_C (Kd.slice e (Kd.int k)) (fun x => x.length + 1) (fun x => ∀ p ∈ x, (Lit.int k p).wf = true) ht hc1 (fun n cs y h => ?_) h
  obtain ⟨A, cap, xs, h1, h2, h3, h4, h5, h6⟩ := open_C_int ht1 he hc n cs y h
  exact ⟨xs, ⟨A, cap, h1, h2, h4⟩, h5, h6⟩
end
end Go.Proofs.Ytdllpgeagdckmaa.Opens

/-
  DERIVED: THE SHELF's CONTRACTS AT THIS DUMP, IN PLAIN WORDS (tools/lay-plain.mjs out of 'TryShelf.lean', which tools/lay-shelf.mjs wrote): THE SAME DECLARATIONS UNDER THE SAME NAMES: 'import', 'namespace', 'open', 'def', 'theorem' AND NOTHING ELSE: no command of the shelf's: FOR A HAND-IN. Each laying: the table of numbers ('.._ren') and one theorem, a field a fact of the dump's own or the kernel's comparison; each contract: ONE APPLICATION.
-/
namespace Go.Proofs
open Go.Shelf
def Try.lays128_ren : Go.Shelf.Ren := ⟨fun | 128 => 57 | n => n, fun | 51 => 118 | 3 => 3 | 4 => 4 | 46 => 100 | 5 => 5 | 9 => 9 | n => n, fun | n => n⟩
theorem Try.lays128 : Go.Proofs.Lays.n128 Try.prog Try.lays128_ren := {
  mixed := by kernel_rfl
  f128 := Try.func57.trans (congrArg some (by kernel_rfl))
  t3 := Try.underlying3
  a3 := Try.isAgg3
  z3 := Try.sizeOf3
  v3 := Try.zeroValue3
  t4 := Try.underlying4
  a4 := Try.isAgg4
  z4 := Try.sizeOf4
  v4 := Try.zeroValue4
  t5 := Try.underlying5
  a5 := Try.isAgg5
  z5 := Try.sizeOf5
  v5 := Try.zeroValue5
  t9 := Try.underlying9
  a9 := Try.isAgg9
  z9 := Try.sizeOf9
  v9 := Try.zeroValue9
  t46 := Try.underlying100
  a46 := Try.isAgg100
  z46 := Try.sizeOf100
  v46 := Try.zeroValue100
  t51 := Try.underlying118
  a51 := Try.isAgg118
  z51 := Try.sizeOf118
  v51 := Try.zeroValue118 }
/-- bits.Len32: "Len32 returns the minimum number of bits required to represent x; the result is 0 for x == 0.": IT RETURNS 'Lib.bitLen x'; the world is as it was. ('h0', 'h1': x is a uint32.) (LAID: no walk: one application.) -/
theorem Try.bits_Len32 (x : Int) (w : World) (h0 : 0 ≤ x) (h1 : x ≤ 4294967295) :
    Calls Try.prog 57 #[.int .u32 x] w fun e w' => e = .returned (.int .i64 (Lib.bitLen x.toNat)) ∧ w' = w := Any.bits_Len32 Try.lays128 x w h0 h1
def Try.lays125_ren : Go.Shelf.Ren := ⟨fun | 125 => 42 | 128 => 57 | 129 => 58 | n => n, fun | 46 => 100 | 3 => 3 | 51 => 118 | 53 => 103 | 4 => 4 | 5 => 5 | 9 => 9 | n => n, fun | n => n⟩
theorem Try.lays125 : Go.Proofs.Lays.n125 Try.prog Try.lays125_ren := {
  mixed := by kernel_rfl
  f125 := Try.func42.trans (congrArg some (by kernel_rfl))
  f128 := Try.func57.trans (congrArg some (by kernel_rfl))
  f129 := Try.func58.trans (congrArg some (by kernel_rfl))
  t3 := Try.underlying3
  a3 := Try.isAgg3
  z3 := Try.sizeOf3
  v3 := Try.zeroValue3
  t4 := Try.underlying4
  a4 := Try.isAgg4
  z4 := Try.sizeOf4
  v4 := Try.zeroValue4
  t5 := Try.underlying5
  a5 := Try.isAgg5
  z5 := Try.sizeOf5
  v5 := Try.zeroValue5
  t9 := Try.underlying9
  a9 := Try.isAgg9
  z9 := Try.sizeOf9
  v9 := Try.zeroValue9
  t46 := Try.underlying100
  a46 := Try.isAgg100
  z46 := Try.sizeOf100
  v46 := Try.zeroValue100
  t51 := Try.underlying118
  a51 := Try.isAgg118
  z51 := Try.sizeOf118
  v51 := Try.zeroValue118
  t53 := Try.underlying103
  a53 := Try.isAgg103
  z53 := Try.sizeOf103
  v53 := Try.zeroValue103 }
/-- bits.Len: "Len returns the minimum number of bits required to represent x; the result is 0 for x == 0.": IT RETURNS 'Lib.bitLen x'; the world is as it was. (A uint has 64 bits in the model.) ITS CALLEE bits.Len64 IS MET BY ITS OWN CONTRACT OFF THE SHELF (lay that first). (LAID: no walk: one application.) -/
theorem Try.bits_Len (x : Int) (w : World) (h0 : 0 ≤ x) (h1 : x ≤ 18446744073709551615) :
    Calls Try.prog 42 #[.int .u64 x] w fun e w' => e = .returned (.int .i64 (Lib.bitLen x.toNat)) ∧ w' = w := Any.bits_Len Try.lays125 x w h0 h1
def Try.lays129_ren : Go.Shelf.Ren := ⟨fun | 129 => 58 | n => n, fun | 53 => 103 | 3 => 3 | 4 => 4 | 46 => 100 | 5 => 5 | 9 => 9 | n => n, fun | n => n⟩
theorem Try.lays129 : Go.Proofs.Lays.n129 Try.prog Try.lays129_ren := {
  mixed := by kernel_rfl
  f129 := Try.func58.trans (congrArg some (by kernel_rfl))
  t3 := Try.underlying3
  a3 := Try.isAgg3
  z3 := Try.sizeOf3
  v3 := Try.zeroValue3
  t4 := Try.underlying4
  a4 := Try.isAgg4
  z4 := Try.sizeOf4
  v4 := Try.zeroValue4
  t5 := Try.underlying5
  a5 := Try.isAgg5
  z5 := Try.sizeOf5
  v5 := Try.zeroValue5
  t9 := Try.underlying9
  a9 := Try.isAgg9
  z9 := Try.sizeOf9
  v9 := Try.zeroValue9
  t46 := Try.underlying100
  a46 := Try.isAgg100
  z46 := Try.sizeOf100
  v46 := Try.zeroValue100
  t53 := Try.underlying103
  a53 := Try.isAgg103
  z53 := Try.sizeOf103
  v53 := Try.zeroValue103 }
/-- bits.Len64: "Len64 returns the minimum number of bits required to represent x; the result is 0 for x == 0.": IT RETURNS 'Lib.bitLen x'; the world is as it was. ('h0', 'h1': x is a uint64.) (LAID: no walk: one application.) -/
theorem Try.bits_Len64 (x : Int) (w : World) (h0 : 0 ≤ x) (h1 : x ≤ 18446744073709551615) :
    Calls Try.prog 58 #[.int .u64 x] w fun e w' => e = .returned (.int .i64 (Lib.bitLen x.toNat)) ∧ w' = w := Any.bits_Len64 Try.lays129 x w h0 h1
def Try.lays190_ren : Go.Shelf.Ren := ⟨fun | 190 => 30 | 125 => 42 | 258 => 41 | 128 => 57 | 129 => 58 | 302 => 48 | 303 => 49 | 304 => 50 | 305 => 51 | 306 => 52 | 307 => 53 | 308 => 54 | 309 => 55 | 310 => 56 | 333 => 61 | 329 => 62 | 330 => 63 | 334 => 64 | 335 => 65 | 336 => 66 | 344 => 68 | n => n, fun | 31 => 23 | 9 => 9 | 3 => 3 | 46 => 100 | 0 => 0 | 51 => 118 | 53 => 103 | 4 => 4 | 183 => 110 | 182 => 109 | 131 => 115 | 5 => 5 | 218 => 126 | 222 => 130 | 228 => 139 | 229 => 140 | n => n, fun | n => n⟩
theorem Try.lays190 : Go.Proofs.Lays.n190 Try.prog Try.lays190_ren := {
  mixed := by kernel_rfl
  f125 := Try.func42.trans (congrArg some (by kernel_rfl))
  f128 := Try.func57.trans (congrArg some (by kernel_rfl))
  f129 := Try.func58.trans (congrArg some (by kernel_rfl))
  f190 := Try.func30.trans (congrArg some (by kernel_rfl))
  f258 := Try.func41.trans (congrArg some (by kernel_rfl))
  f302 := Try.func48.trans (congrArg some (by kernel_rfl))
  f303 := Try.func49.trans (congrArg some (by kernel_rfl))
  f304 := Try.func50.trans (congrArg some (by kernel_rfl))
  f305 := Try.func51.trans (congrArg some (by kernel_rfl))
  f306 := Try.func52.trans (congrArg some (by kernel_rfl))
  f307 := Try.func53.trans (congrArg some (by kernel_rfl))
  f308 := Try.func54.trans (congrArg some (by kernel_rfl))
  f309 := Try.func55.trans (congrArg some (by kernel_rfl))
  f310 := Try.func56.trans (congrArg some (by kernel_rfl))
  f329 := Try.func62.trans (congrArg some (by kernel_rfl))
  f330 := Try.func63.trans (congrArg some (by kernel_rfl))
  f333 := Try.func61.trans (congrArg some (by kernel_rfl))
  f334 := Try.func64.trans (congrArg some (by kernel_rfl))
  f335 := Try.func65.trans (congrArg some (by kernel_rfl))
  f336 := Try.func66.trans (congrArg some (by kernel_rfl))
  f344 := Try.func68.trans (congrArg some (by kernel_rfl))
  t0 := Try.underlying0
  a0 := Try.isAgg0
  z0 := Try.sizeOf0
  v0 := Try.zeroValue0
  t3 := Try.underlying3
  a3 := Try.isAgg3
  z3 := Try.sizeOf3
  v3 := Try.zeroValue3
  t4 := Try.underlying4
  a4 := Try.isAgg4
  z4 := Try.sizeOf4
  v4 := Try.zeroValue4
  t5 := Try.underlying5
  a5 := Try.isAgg5
  z5 := Try.sizeOf5
  v5 := Try.zeroValue5
  t9 := Try.underlying9
  a9 := Try.isAgg9
  z9 := Try.sizeOf9
  v9 := Try.zeroValue9
  t31 := Try.underlying23
  a31 := Try.isAgg23
  z31 := Try.sizeOf23
  v31 := Try.zeroValue23
  t46 := Try.underlying100
  a46 := Try.isAgg100
  z46 := Try.sizeOf100
  v46 := Try.zeroValue100
  t51 := Try.underlying118
  a51 := Try.isAgg118
  z51 := Try.sizeOf118
  v51 := Try.zeroValue118
  t53 := Try.underlying103
  a53 := Try.isAgg103
  z53 := Try.sizeOf103
  v53 := Try.zeroValue103
  t131 := Try.underlying115
  a131 := Try.isAgg115
  z131 := Try.sizeOf115
  v131 := Try.zeroValue115
  t182 := Try.underlying109
  a182 := Try.isAgg109
  z182 := Try.sizeOf109
  v182 := Try.zeroValue109
  t183 := Try.underlying110
  a183 := Try.isAgg110
  z183 := Try.sizeOf110
  v183 := Try.zeroValue110
  t218 := Try.underlying126
  a218 := Try.isAgg126
  z218 := Try.sizeOf126
  v218 := Try.zeroValue126
  t222 := Try.underlying130
  a222 := Try.isAgg130
  z222 := Try.sizeOf130
  v222 := Try.zeroValue130
  t228 := Try.underlying139
  a228 := Try.isAgg139
  z228 := Try.sizeOf139
  v228 := Try.zeroValue139
  t229 := Try.underlying140
  a229 := Try.isAgg140
  z229 := Try.sizeOf140
  v229 := Try.zeroValue140 }
open Go.Sort Go.RowKit in
theorem Try.slices_Sort_string (blk off cap : Nat) (ss : List (List UInt8)) (w : World) (hH : Holds encStr w blk off ss.toArray) (hblk : blk < w.heap.size) (hsz : ss.length < 4611686018427387904) :
    Calls Try.prog 30 #[.slice (some ⟨blk, off, none⟩) ss.length cap] w fun e w' =>
      e = .returned (.tuple #[]) ∧ ∃ n os, w' = grow (putRow encStr (Sort.ahead w n) blk off (ss.mergeSort fun x y => decide (x ≤ y)).toArray) os := Any.slices_Sort_string Try.lays190 blk off cap ss w hH hblk hsz
def Try.laysNm216_ren : Go.Shelf.Ren := ⟨fun | 16 => 36 | n => n, fun | 24 => 23 | 9 => 9 | 4 => 4 | n => n, fun | n => n⟩
theorem Try.laysNm216 : Go.Proofs.Lays2.n16 Try.prog Try.laysNm216_ren := {
  mixed := by kernel_rfl
  f16 := Try.func36.trans (congrArg some (by kernel_rfl))
  t4 := Try.underlying4
  a4 := Try.isAgg4
  z4 := Try.sizeOf4
  v4 := Try.zeroValue4
  t9 := Try.underlying9
  a9 := Try.isAgg9
  z9 := Try.sizeOf9
  v9 := Try.zeroValue9
  t24 := Try.underlying23
  a24 := Try.isAgg23
  z24 := Try.sizeOf23
  v24 := Try.zeroValue23
  i9 := by kernel_rfl }
open Go.RowKit Go.Lib in
/-- slices.Clone at []string: "Clone returns a copy of the slice. The elements are copied using assignment, so this is a shallow clone. The result may have additional unused capacity. The result preserves the nilness of s.": OF A SLICE THAT IS NOT nil IT RETURNS A SLICE THAT IS NOT nil, OF THE SAME ELEMENTS, IN MEMORY OF THE CALL's OWN: in the how-to's words (6f): 'w'.ownsRow B e 1 v' n cells': v' begins at the head of a row among the blocks from B on (B: the heap's size at the call), not frozen, whose first cells are the elements · 'Below B w w'': below B all is as it was. The capacity is whatever the run-time gives. 'zs': what the cells behind the slice's address hold; 'zs.take n': its elements. (LAID: no walk: one application.) -/
theorem Try.slices_Clone_string (b off n c : Nat) (zs : List ByteArray) (w : World) (hz : n ≤ zs.length) (hbig : n * 16 ≤ 140737488355328) (hc : ∀ j, j < zs.length → w.cell? ⟨b, off + j, none⟩ = some (.string (zs.getD j ByteArray.empty))) :
    Calls Try.prog 36 #[.slice (some ⟨b, off, none⟩) n c] w fun e w' => ∃ v', e = .returned v' ∧ w'.ownsRow w.heap.size 9 1 v' n ((zs.take n).map (Value.string)) ∧ v' ≠ .slice none 0 0 ∧ Below w.heap.size w w' := Any.slices_Clone_string Try.laysNm216 b off n c zs w hz hbig hc
open Go.RowKit Go.Lib in
/-- The same at nil: nil comes back; the world is as it was. (LAID: no walk: one application.) -/
theorem Try.slices_Clone_string_nil (n c : Nat) (w : World) :
    Calls Try.prog 36 #[.slice none n c] w fun e w' => e = .returned (.slice none 0 0) ∧ w' = w := Any.slices_Clone_string_nil Try.laysNm216 n c w
open Go.RowKit Go.Lib in
/-- The same at a slice of length 0 that is not nil, WHATEVER ITS ADDRESS (no cell is asked for): a slice that is not nil and owns nothing comes back. (LAID: no walk: one application.) -/
theorem Try.slices_Clone_string_zero (a : Addr) (c : Nat) (w : World) :
    Calls Try.prog 36 #[.slice (some a) 0 c] w fun e w' => ∃ v', e = .returned v' ∧ w'.ownsRow w.heap.size 9 1 v' 0 [] ∧ v' ≠ .slice none 0 0 ∧ Below w.heap.size w w' := Any.slices_Clone_string_zero Try.laysNm216 a c w
def Try.laysNm219_ren : Go.Shelf.Ren := ⟨fun | 19 => 20 | n => n, fun | 24 => 23 | 9 => 9 | 3 => 3 | 4 => 4 | 20 => 20 | 0 => 0 | n => n, fun | n => n⟩
theorem Try.laysNm219 : Go.Proofs.Lays2.n19 Try.prog Try.laysNm219_ren := {
  mixed := by kernel_rfl
  f19 := Try.func20.trans (congrArg some (by kernel_rfl))
  t0 := Try.underlying0
  a0 := Try.isAgg0
  z0 := Try.sizeOf0
  v0 := Try.zeroValue0
  t3 := Try.underlying3
  a3 := Try.isAgg3
  z3 := Try.sizeOf3
  v3 := Try.zeroValue3
  t4 := Try.underlying4
  a4 := Try.isAgg4
  z4 := Try.sizeOf4
  v4 := Try.zeroValue4
  t9 := Try.underlying9
  a9 := Try.isAgg9
  z9 := Try.sizeOf9
  v9 := Try.zeroValue9
  t20 := Try.underlying20
  a20 := Try.isAgg20
  z20 := Try.sizeOf20
  v20 := Try.zeroValue20
  t24 := Try.underlying23
  a24 := Try.isAgg23
  z24 := Try.sizeOf23
  v24 := Try.zeroValue23 }
open Go.RowKit Go.Lib in
/-- slices.Min at []string: "Min returns the minimal value in x. It panics if x is empty.": OF A SLICE THAT IS NOT EMPTY IT RETURNS 'Lib.minOfS (the elements)' (bytes, lexically); the world is as it was. (Of an empty one it panics: no contract here.) (LAID: no walk: one application.) -/
theorem Try.slices_Min_string (b off n c : Nat) (zs : List ByteArray) (w : World) (hn : 0 < n) (hz : n ≤ zs.length) (hbig : n ≤ 9223372036854775807) (hc : ∀ j, j < zs.length → w.cell? ⟨b, off + j, none⟩ = some (.string (zs.getD j ByteArray.empty))) :
    Calls Try.prog 20 #[.slice (some ⟨b, off, none⟩) n c] w fun e w' => e = .returned (.string (Lib.minOfS (zs.take n))) ∧ w' = w := Any.slices_Min_string Try.laysNm219 b off n c zs w hn hz hbig hc
open Go.RowKit Go.Sort in
/-- .. and plain. (LAID: no walk: one application.) -/
theorem Try.slices_Sort_string_none (p : Option Addr) (cap : Nat) (w : World) :
    Calls Try.prog 30 #[.slice p 0 cap] w fun e w' => e = .returned (.tuple #[]) ∧ w' = w := Any.slices_Sort_string_none Try.lays190 p cap w
def Try.laysSlE041_f36_ren : Go.Shelf.Ren := ⟨fun | 41 => 36 | n => n, fun | 22 => 23 | 23 => 9 | 4 => 4 | n => n, fun | n => n⟩
theorem Try.laysSlE041_f36 : Go.Proofs.SlLaysE0.n41 Try.prog Try.laysSlE041_f36_ren := {
  mixed := by kernel_rfl
  f41 := ⟨Try.f36.name, by decide, Try.func36.trans (congrArg some (by kernel_rfl))⟩
  t4 := Try.underlying4
  a4 := Try.isAgg4
  z4 := Try.sizeOf4
  v4 := Try.zeroValue4
  t22 := Try.underlying23
  a22 := Try.isAgg23
  z22 := Try.sizeOf23
  v22 := Try.zeroValue23 }
open Go.RowKit Go.Lib in
/-- slices.Clone: "Clone returns a copy of the slice. The elements are copied using assignment, so this is a shallow clone. The result may have additional unused capacity. The result preserves the nilness of s.": OF A SLICE THAT IS NOT nil IT RETURNS A SLICE THAT IS NOT nil, OF THE SAME CELLS, IN MEMORY OF THE CALL's OWN ('ownsRow': the how-to's 6f); below the heap's size at the call all is as it was. (LAID AT THE INSTANCE 'slices.Clone[[]string,string]': no walk: one application.) -/
theorem Try.slices_Clone (i0 : TypeInfo) (z : Value) (size bytes : Nat) (hi : Try.prog.info? 9 = some i0) (hz0 : i0.zero = some z) (hz1 : i0.size = size) (hz2 : i0.bytes = bytes) (hzs : z.cells.size = size) (hsz : 0 < size) (z23 : ∀ w, (Go.sizeOf 9).run Try.prog w = .ok size w) (b off n c : Nat) (news : List Value) (w : World) (hl : news.length = n * size) (hn : n ≤ maxLen) (hbig : n * bytes ≤ 140737488355328) (hc : ∀ j u, news[j]? = some u → w.cell? ⟨b, off + j, none⟩ = some u) (h1 : ∀ u ∈ news, u.oneCell' = true) :
    Calls Try.prog 36 #[.slice (some ⟨b, off, none⟩) n c] w fun e w' => ∃ v', e = .returned v' ∧ w'.ownsRow w.heap.size 9 size v' n news ∧ v' ≠ .slice none 0 0 ∧ Below w.heap.size w w' := AnyE.slices_Clone Try.laysSlE041_f36 i0 z size bytes hi hz0 hz1 hz2 hzs hsz z23 b off n c news w hl hn hbig hc h1
open Go.RowKit Go.Lib in
/-- The same at nil: nil comes back; the world is as it was; nothing is asked of the element's type. (LAID AT THE INSTANCE 'slices.Clone[[]string,string]': no walk: one application.) -/
theorem Try.slices_Clone_nil (n c : Nat) (w : World) :
    Calls Try.prog 36 #[.slice none n c] w fun e w' => e = .returned (.slice none 0 0) ∧ w' = w := AnyE.slices_Clone_nil Try.laysSlE041_f36 n c w
def Try.keys38_ren : Go.Shelf.Ren := ⟨fun | 7 => 38 | 10 => 45 | n => n, fun | 23 => 69 | 26 => 9 | 3 => 4 | 28 => 82 | 0 => 0 | 27 => 81 | 33 => 54 | 4 => 4 | n => n, fun | n => n⟩
theorem Try.keys38 : Go.Proofs.SlLaysZ.n7 Try.prog Try.keys38_ren := {
  mixed := by kernel_rfl
  f7 := ⟨Try.f38.name, by decide, Try.func38.trans (congrArg some (by kernel_rfl))⟩
  f10 := ⟨Try.f45.name, by decide, Try.func45.trans (congrArg some (by kernel_rfl))⟩
  t0 := Try.underlying0
  a0 := Try.isAgg0
  z0 := Try.sizeOf0
  v0 := Try.zeroValue0
  t4 := Try.underlying4
  a4 := Try.isAgg4
  z4 := Try.sizeOf4
  v4 := Try.zeroValue4
  t23 := Try.underlying69
  a23 := Try.isAgg69
  z23 := Try.sizeOf69
  v23 := Try.zeroValue69
  t26 := Try.underlying9
  a26 := Try.isAgg9
  z26 := Try.sizeOf9
  v26 := Try.zeroValue9
  t27 := Try.underlying81
  a27 := Try.isAgg81
  z27 := Try.sizeOf81
  v27 := Try.zeroValue81
  t28 := Try.underlying82
  a28 := Try.isAgg82
  z28 := Try.sizeOf82
  v28 := Try.zeroValue82
  t33 := Try.underlying54
  a33 := Try.isAgg54
  z33 := Try.sizeOf54
  v33 := Try.zeroValue54 }
def Try.sorted37_ren : Go.Shelf.Ren := ⟨fun | 6 => 37 | 8 => 44 | 9 => 30 | 11 => 59 | 13 => 42 | 12 => 41 | 23 => 57 | 24 => 58 | 14 => 48 | 15 => 49 | 16 => 50 | 17 => 51 | 18 => 52 | 19 => 53 | 20 => 54 | 21 => 55 | 22 => 56 | 25 => 61 | 26 => 62 | 27 => 63 | 28 => 64 | 29 => 65 | 30 => 66 | 31 => 68 | n => n, fun | 26 => 9 | 28 => 82 | 24 => 23 | 0 => 0 | 3 => 3 | 37 => 100 | 48 => 118 | 50 => 103 | 4 => 4 | 40 => 110 | 39 => 109 | 45 => 115 | 5 => 5 | 9 => 9 | 51 => 126 | 55 => 130 | 57 => 139 | 58 => 140 | 33 => 54 | n => n, fun | n => n⟩
theorem Try.sorted37 : Go.Proofs.SlLaysZ.n6 Try.prog Try.sorted37_ren := {
  mixed := by kernel_rfl
  f6 := ⟨Try.f37.name, by decide, Try.func37.trans (congrArg some (by kernel_rfl))⟩
  f8 := ⟨Try.f44.name, by decide, Try.func44.trans (congrArg some (by kernel_rfl))⟩
  f11 := ⟨Try.f59.name, by decide, Try.func59.trans (congrArg some (by kernel_rfl))⟩
  t0 := Try.underlying0
  a0 := Try.isAgg0
  z0 := Try.sizeOf0
  v0 := Try.zeroValue0
  t24 := Try.underlying23
  a24 := Try.isAgg23
  z24 := Try.sizeOf23
  v24 := Try.zeroValue23
  t26 := Try.underlying9
  a26 := Try.isAgg9
  z26 := Try.sizeOf9
  v26 := Try.zeroValue9
  t28 := Try.underlying82
  a28 := Try.isAgg82
  z28 := Try.sizeOf82
  v28 := Try.zeroValue82
  i26 := by kernel_rfl }
def Try.sort30_ren : Go.Shelf.Ren := ⟨fun | 6 => 30 | 8 => 42 | 9 => 41 | 19 => 57 | 20 => 58 | 21 => 48 | 22 => 49 | 23 => 50 | 24 => 51 | 25 => 52 | 26 => 53 | 27 => 54 | 28 => 55 | 29 => 56 | 36 => 61 | 31 => 62 | 32 => 63 | 37 => 64 | 38 => 65 | 39 => 66 | 41 => 68 | n => n, fun | 27 => 23 | 29 => 9 | 3 => 3 | 32 => 100 | 26 => 23 | 0 => 0 | 44 => 118 | 46 => 103 | 4 => 4 | 36 => 110 | 35 => 109 | 41 => 115 | 5 => 5 | 9 => 9 | 53 => 126 | 57 => 130 | 63 => 139 | 64 => 140 | n => n, fun | n => n⟩
theorem Try.sort30 : Go.Proofs.SlLaysM.n6 Try.prog Try.sort30_ren := {
  mixed := by kernel_rfl
  f6 := ⟨Try.f30.name, by decide, Try.func30.trans (congrArg some (by kernel_rfl))⟩
  f8 := Try.func42.trans (congrArg some (by kernel_rfl))
  f9 := ⟨Try.f41.name, by decide, Try.func41.trans (congrArg some (by kernel_rfl))⟩
  f19 := Try.func57.trans (congrArg some (by kernel_rfl))
  f20 := Try.func58.trans (congrArg some (by kernel_rfl))
  f21 := ⟨Try.f48.name, by decide, Try.func48.trans (congrArg some (by kernel_rfl))⟩
  f22 := ⟨Try.f49.name, by decide, Try.func49.trans (congrArg some (by kernel_rfl))⟩
  f23 := ⟨Try.f50.name, by decide, Try.func50.trans (congrArg some (by kernel_rfl))⟩
  f24 := ⟨Try.f51.name, by decide, Try.func51.trans (congrArg some (by kernel_rfl))⟩
  f25 := ⟨Try.f52.name, by decide, Try.func52.trans (congrArg some (by kernel_rfl))⟩
  f26 := ⟨Try.f53.name, by decide, Try.func53.trans (congrArg some (by kernel_rfl))⟩
  f27 := ⟨Try.f54.name, by decide, Try.func54.trans (congrArg some (by kernel_rfl))⟩
  f28 := ⟨Try.f55.name, by decide, Try.func55.trans (congrArg some (by kernel_rfl))⟩
  f29 := ⟨Try.f56.name, by decide, Try.func56.trans (congrArg some (by kernel_rfl))⟩
  f31 := Try.func62.trans (congrArg some (by kernel_rfl))
  f32 := Try.func63.trans (congrArg some (by kernel_rfl))
  f36 := ⟨Try.f61.name, by decide, Try.func61.trans (congrArg some (by kernel_rfl))⟩
  f37 := ⟨Try.f64.name, by decide, Try.func64.trans (congrArg some (by kernel_rfl))⟩
  f38 := ⟨Try.f65.name, by decide, Try.func65.trans (congrArg some (by kernel_rfl))⟩
  f39 := ⟨Try.f66.name, by decide, Try.func66.trans (congrArg some (by kernel_rfl))⟩
  f41 := ⟨Try.f68.name, by decide, Try.func68.trans (congrArg some (by kernel_rfl))⟩
  t0 := Try.underlying0
  a0 := Try.isAgg0
  z0 := Try.sizeOf0
  v0 := Try.zeroValue0
  t3 := Try.underlying3
  a3 := Try.isAgg3
  z3 := Try.sizeOf3
  v3 := Try.zeroValue3
  t4 := Try.underlying4
  a4 := Try.isAgg4
  z4 := Try.sizeOf4
  v4 := Try.zeroValue4
  t5 := Try.underlying5
  a5 := Try.isAgg5
  z5 := Try.sizeOf5
  v5 := Try.zeroValue5
  t9 := Try.underlying9
  a9 := Try.isAgg9
  z9 := Try.sizeOf9
  v9 := Try.zeroValue9
  t26 := Try.underlying23
  a26 := Try.isAgg23
  z26 := Try.sizeOf23
  v26 := Try.zeroValue23
  t27 := Try.underlying23
  a27 := Try.isAgg23
  z27 := Try.sizeOf23
  v27 := Try.zeroValue23
  t29 := Try.underlying9
  a29 := Try.isAgg9
  z29 := Try.sizeOf9
  v29 := Try.zeroValue9
  t32 := Try.underlying100
  a32 := Try.isAgg100
  z32 := Try.sizeOf100
  v32 := Try.zeroValue100
  t35 := Try.underlying109
  a35 := Try.isAgg109
  z35 := Try.sizeOf109
  v35 := Try.zeroValue109
  t36 := Try.underlying110
  a36 := Try.isAgg110
  z36 := Try.sizeOf110
  v36 := Try.zeroValue110
  t41 := Try.underlying115
  a41 := Try.isAgg115
  z41 := Try.sizeOf115
  v41 := Try.zeroValue115
  t44 := Try.underlying118
  a44 := Try.isAgg118
  z44 := Try.sizeOf118
  v44 := Try.zeroValue118
  t46 := Try.underlying103
  a46 := Try.isAgg103
  z46 := Try.sizeOf103
  v46 := Try.zeroValue103
  t53 := Try.underlying126
  a53 := Try.isAgg126
  z53 := Try.sizeOf126
  v53 := Try.zeroValue126
  t57 := Try.underlying130
  a57 := Try.isAgg130
  z57 := Try.sizeOf130
  v57 := Try.zeroValue130
  t63 := Try.underlying139
  a63 := Try.isAgg139
  z63 := Try.sizeOf139
  v63 := Try.zeroValue139
  t64 := Try.underlying140
  a64 := Try.isAgg140
  z64 := Try.sizeOf140
  v64 := Try.zeroValue140 }
def Try.clone39_ren : Go.Shelf.Ren := ⟨fun | 5 => 39 | 7 => 46 | n => n, fun | 23 => 69 | 25 => 9 | 3 => 4 | 4 => 4 | 20 => 20 | n => n, fun | n => n⟩
theorem Try.clone39 : Go.Proofs.SlLaysW.n5 Try.prog Try.clone39_ren := {
  mixed := by kernel_rfl
  f5 := ⟨Try.f39.name, by decide, Try.func39.trans (congrArg some (by kernel_rfl))⟩
  f7 := Try.func46.trans (congrArg some (by kernel_rfl))
  t4 := Try.underlying4
  a4 := Try.isAgg4
  z4 := Try.sizeOf4
  v4 := Try.zeroValue4
  t20 := Try.underlying20
  a20 := Try.isAgg20
  z20 := Try.sizeOf20
  v20 := Try.zeroValue20
  t23 := Try.underlying69
  a23 := Try.isAgg69
  z23 := Try.sizeOf69
  v23 := Try.zeroValue69 }
end Go.Proofs

-- Made by a program of this session (turnprint.py), after the manner of the kit's print.
namespace Go.Proofs.Ytdllpgeagdckmaa.Q
open Go.RowKit Go.Proofs.YtdllpgeagdckmaaW.PrintWords Go.Proofs.YtdllpgeagdckmaaW.PrintLast Go.Proofs.YtdllpgeagdckmaaW.PrintMore
attribute [local go_sem] max2_int min2_int max_two min_two max_three min_three max_four min_four   -- for this text's walks alone
set_option linter.unusedVariables false
set_option linter.unusedSimpArgs false



def errW : Option Int → Value
  | none => .nilIface
  | some c => .iface 0 (.int .i64 c)
theorem errW_none : errW none = .nilIface := rfl
theorem errW_some (c : Int) : errW (some c) = .iface 0 (.int .i64 c) := rfl

theorem info5 : (Try.prog.info? 5).map (fun i => (i.zero, i.size, i.bytes)) = some (some (.int .u8 0), 1, 1) := by kernel_rfl
theorem info9 : (Try.prog.info? 9).map (fun i => (i.zero, i.size, i.bytes)) = some (some (.string ⟨#[]⟩), 1, 16) := by kernel_rfl
theorem info23 : (Try.prog.info? 23).map (fun i => (i.zero, i.size, i.bytes)) = some (some (.slice none 0 0), 1, 24) := by kernel_rfl
theorem info33 : (Try.prog.info? 33).map (fun i => (i.zero, i.size, i.bytes)) = some (some (.agg #[(.string ⟨#[]⟩), (.slice none 0 0)]), 2, 40) := by kernel_rfl
theorem info41 : (Try.prog.info? 41).map (fun i => (i.zero, i.size, i.bytes)) = some (some (.agg #[(.string ⟨#[]⟩), (.slice none 0 0)]), 2, 40) := by kernel_rfl
-- the values' own types
def rd_L1 (xs : List (List ByteArray)) (i : Int) : (List ByteArray) := xs.getD i.toNat ([] : List ByteArray)
theorem at_L1 {w : World} {A : Option Addr} {n : Nat} {xs : List (List ByteArray)} (h : Kd.C (Kd.slice 9 Kd.string) w A n xs) (i : Int) (h0 : 0 ≤ i) (h1 : i < n) : ∃ ad A0 c0, A = some ad ∧ w.cell? (ad.add i.toNat) = some (.slice A0 (rd_L1 xs i).length c0) ∧ (rd_L1 xs i).length ≤ c0 ∧ Kd.string.C w A0 (rd_L1 xs i).length (rd_L1 xs i) := by
  obtain ⟨ad, c, e, _, hK, hc0⟩ := Kd.C_get h ([] : List ByteArray) i h0 h1
  have hc : ∀ j u, c[j]? = some u → w.cell? (ad.add (i.toNat * 1 + j)) = some u := hc0
  obtain ⟨A0, c0, rfl, l0, g0⟩ := hK
  exact ⟨ad, A0, c0, e, by have hq := hc 0 _ rfl; rwa [Nat.mul_one, Nat.add_zero] at hq, l0, g0⟩

/-! #### struct type 41 -/
structure S41 where
  f0 : ByteArray
  f1 : (List ByteArray)
def z41 : S41 := ⟨(⟨#[]⟩ : ByteArray), ([] : List ByteArray)⟩
def k41 : Kd S41 := Kd.iso (Kd.pair Kd.string (Kd.slice 9 Kd.string)) (fun x : S41 => (x.f0, x.f1))
theorem k41_open {w : World} {x : S41} {cs : List Value} (h : k41.K w x cs) : ∃ A1 c1, cs = [.string x.f0, .slice A1 x.f1.length c1] ∧ x.f1.length ≤ c1 ∧ Kd.string.C w A1 x.f1.length x.f1 := by
  obtain ⟨_, _, rfl, rfl, ⟨A1, c1, rfl, l1, g1⟩⟩ := h
  exact ⟨A1, c1, rfl, l1, g1⟩
theorem k41_openM {w : World} {base : Nat} {ok : Nat → Prop} {x : S41} {cs : List Value} (h : k41.M w base ok x cs) : ∃ v1, cs = [.string x.f0, v1] ∧ Kd.string.R 9 w base ok v1 x.f1 := by
  obtain ⟨_, _, rfl, rfl, ⟨v1, rfl, g1⟩⟩ := h
  exact ⟨v1, rfl, g1⟩
theorem k41_mk (w : World) (x : S41) {A1 : Option Addr} {c1 : Nat} (l1 : x.f1.length ≤ c1) (g1 : Kd.string.C w A1 x.f1.length x.f1) : k41.K w x [.string x.f0, .slice A1 x.f1.length c1] := ⟨[.string x.f0], [.slice A1 x.f1.length c1], rfl, rfl, ⟨A1, c1, rfl, l1, g1⟩⟩
theorem k41_mkM (w : World) (base : Nat) (ok : Nat → Prop) (x : S41) {v1 : Value} (g1 : Kd.string.R 9 w base ok v1 x.f1) : k41.M w base ok x [.string x.f0, v1] := ⟨[.string x.f0], [v1], rfl, rfl, ⟨v1, rfl, g1⟩⟩
theorem k41_openF {W : World} {ok : Nat → Prop} {x : S41} {cs : List Value} (h : Kd.FK k41 W ok x cs) : ∃ A1 c1, cs = [.string x.f0, .slice A1 x.f1.length c1] ∧ x.f1.length ≤ c1 ∧ Kd.F Kd.string W ok A1 x.f1.length x.f1 := by
  obtain ⟨A1, c1, rfl, l1, _⟩ := k41_open (Kd.FK_now h)
  exact ⟨A1, c1, rfl, l1, (fun W' hW => by obtain ⟨A1_, c1_, he, l1_, g1_⟩ := k41_open (h W' hW); injection (Option.some.inj (show some (Value.slice A1 x.f1.length c1) = some (Value.slice A1_ x.f1.length c1_) from congrArg (fun l => l[1]?) he)) with ha_ _ _; rw [ha_]; exact g1_)⟩
theorem k41_mkF (W : World) (ok : Nat → Prop) (x : S41) {A1 : Option Addr} {c1 : Nat} (l1 : x.f1.length ≤ c1) (g1 : Kd.F Kd.string W ok A1 x.f1.length x.f1) : Kd.FK k41 W ok x [.string x.f0, .slice A1 x.f1.length c1] := fun W2 hW => k41_mk W2 x l1 (g1 W2 hW)
def rd_T41 (xs : List S41) (i : Int) : S41 := xs.getD i.toNat z41
theorem at_T41 {w : World} {A : Option Addr} {n : Nat} {xs : List S41} (h : Kd.C k41 w A n xs) (i : Int) (h0 : 0 ≤ i) (h1 : i < n) : ∃ ad A1 c1, A = some ad ∧ w.cell? (ad.add (i.toNat * 2)) = some (.string (rd_T41 xs i).f0) ∧ w.cell? ⟨(ad.add (i.toNat * 2)).block, (ad.add (i.toNat * 2)).off + 1, none⟩ = some (.slice A1 (rd_T41 xs i).f1.length c1) ∧ (rd_T41 xs i).f1.length ≤ c1 ∧ Kd.string.C w A1 (rd_T41 xs i).f1.length (rd_T41 xs i).f1 := by
  obtain ⟨ad, c, e, _, hK, hc0⟩ := Kd.C_get h z41 i h0 h1
  have hc : ∀ j u, c[j]? = some u → w.cell? (ad.add (i.toNat * 2 + j)) = some u := hc0
  obtain ⟨A1, c1, rfl, l1, g1⟩ := k41_open hK
  exact ⟨ad, A1, c1, e, hc 0 _ rfl, by rw [← add_field _ _ 1 (by omega)]; exact hc 1 _ rfl, l1, g1⟩

def rd_L3 (xs : List (List S41)) (i : Int) : (List S41) := xs.getD i.toNat ([] : List S41)
theorem at_L3 {w : World} {A : Option Addr} {n : Nat} {xs : List (List S41)} (h : Kd.C (Kd.slice 41 k41) w A n xs) (i : Int) (h0 : 0 ≤ i) (h1 : i < n) : ∃ ad A0 c0, A = some ad ∧ w.cell? (ad.add i.toNat) = some (.slice A0 (rd_L3 xs i).length c0) ∧ (rd_L3 xs i).length ≤ c0 ∧ k41.C w A0 (rd_L3 xs i).length (rd_L3 xs i) := by
  obtain ⟨ad, c, e, _, hK, hc0⟩ := Kd.C_get h ([] : List S41) i h0 h1
  have hc : ∀ j u, c[j]? = some u → w.cell? (ad.add (i.toNat * 1 + j)) = some u := hc0
  obtain ⟨A0, c0, rfl, l0, g0⟩ := hK
  exact ⟨ad, A0, c0, e, by have hq := hc 0 _ rfl; rwa [Nat.mul_one, Nat.add_zero] at hq, l0, g0⟩

/-! #### struct type 33 -/
structure S33 where
  f0 : ByteArray
  f1 : (List ByteArray)
def z33 : S33 := ⟨(⟨#[]⟩ : ByteArray), ([] : List ByteArray)⟩
def k33 : Kd S33 := Kd.iso (Kd.pair Kd.string (Kd.slice 9 Kd.string)) (fun x : S33 => (x.f0, x.f1))
theorem k33_open {w : World} {x : S33} {cs : List Value} (h : k33.K w x cs) : ∃ A1 c1, cs = [.string x.f0, .slice A1 x.f1.length c1] ∧ x.f1.length ≤ c1 ∧ Kd.string.C w A1 x.f1.length x.f1 := by
  obtain ⟨_, _, rfl, rfl, ⟨A1, c1, rfl, l1, g1⟩⟩ := h
  exact ⟨A1, c1, rfl, l1, g1⟩
theorem k33_openM {w : World} {base : Nat} {ok : Nat → Prop} {x : S33} {cs : List Value} (h : k33.M w base ok x cs) : ∃ v1, cs = [.string x.f0, v1] ∧ Kd.string.R 9 w base ok v1 x.f1 := by
  obtain ⟨_, _, rfl, rfl, ⟨v1, rfl, g1⟩⟩ := h
  exact ⟨v1, rfl, g1⟩
theorem k33_mk (w : World) (x : S33) {A1 : Option Addr} {c1 : Nat} (l1 : x.f1.length ≤ c1) (g1 : Kd.string.C w A1 x.f1.length x.f1) : k33.K w x [.string x.f0, .slice A1 x.f1.length c1] := ⟨[.string x.f0], [.slice A1 x.f1.length c1], rfl, rfl, ⟨A1, c1, rfl, l1, g1⟩⟩
theorem k33_mkM (w : World) (base : Nat) (ok : Nat → Prop) (x : S33) {v1 : Value} (g1 : Kd.string.R 9 w base ok v1 x.f1) : k33.M w base ok x [.string x.f0, v1] := ⟨[.string x.f0], [v1], rfl, rfl, ⟨v1, rfl, g1⟩⟩
theorem k33_openF {W : World} {ok : Nat → Prop} {x : S33} {cs : List Value} (h : Kd.FK k33 W ok x cs) : ∃ A1 c1, cs = [.string x.f0, .slice A1 x.f1.length c1] ∧ x.f1.length ≤ c1 ∧ Kd.F Kd.string W ok A1 x.f1.length x.f1 := by
  obtain ⟨A1, c1, rfl, l1, _⟩ := k33_open (Kd.FK_now h)
  exact ⟨A1, c1, rfl, l1, (fun W' hW => by obtain ⟨A1_, c1_, he, l1_, g1_⟩ := k33_open (h W' hW); injection (Option.some.inj (show some (Value.slice A1 x.f1.length c1) = some (Value.slice A1_ x.f1.length c1_) from congrArg (fun l => l[1]?) he)) with ha_ _ _; rw [ha_]; exact g1_)⟩
theorem k33_mkF (W : World) (ok : Nat → Prop) (x : S33) {A1 : Option Addr} {c1 : Nat} (l1 : x.f1.length ≤ c1) (g1 : Kd.F Kd.string W ok A1 x.f1.length x.f1) : Kd.FK k33 W ok x [.string x.f0, .slice A1 x.f1.length c1] := fun W2 hW => k33_mk W2 x l1 (g1 W2 hW)
def rd_T33 (xs : List S33) (i : Int) : S33 := xs.getD i.toNat z33
theorem at_T33 {w : World} {A : Option Addr} {n : Nat} {xs : List S33} (h : Kd.C k33 w A n xs) (i : Int) (h0 : 0 ≤ i) (h1 : i < n) : ∃ ad A1 c1, A = some ad ∧ w.cell? (ad.add (i.toNat * 2)) = some (.string (rd_T33 xs i).f0) ∧ w.cell? ⟨(ad.add (i.toNat * 2)).block, (ad.add (i.toNat * 2)).off + 1, none⟩ = some (.slice A1 (rd_T33 xs i).f1.length c1) ∧ (rd_T33 xs i).f1.length ≤ c1 ∧ Kd.string.C w A1 (rd_T33 xs i).f1.length (rd_T33 xs i).f1 := by
  obtain ⟨ad, c, e, _, hK, hc0⟩ := Kd.C_get h z33 i h0 h1
  have hc : ∀ j u, c[j]? = some u → w.cell? (ad.add (i.toNat * 2 + j)) = some u := hc0
  obtain ⟨A1, c1, rfl, l1, g1⟩ := k33_open hK
  exact ⟨ad, A1, c1, e, hc 0 _ rfl, by rw [← add_field _ _ 1 (by omega)]; exact hc 1 _ rfl, l1, g1⟩

def rd_L5 (xs : List (List S33)) (i : Int) : (List S33) := xs.getD i.toNat ([] : List S33)
theorem at_L5 {w : World} {A : Option Addr} {n : Nat} {xs : List (List S33)} (h : Kd.C (Kd.slice 33 k33) w A n xs) (i : Int) (h0 : 0 ≤ i) (h1 : i < n) : ∃ ad A0 c0, A = some ad ∧ w.cell? (ad.add i.toNat) = some (.slice A0 (rd_L5 xs i).length c0) ∧ (rd_L5 xs i).length ≤ c0 ∧ k33.C w A0 (rd_L5 xs i).length (rd_L5 xs i) := by
  obtain ⟨ad, c, e, _, hK, hc0⟩ := Kd.C_get h ([] : List S33) i h0 h1
  have hc : ∀ j u, c[j]? = some u → w.cell? (ad.add (i.toNat * 1 + j)) = some u := hc0
  obtain ⟨A0, c0, rfl, l0, g0⟩ := hK
  exact ⟨ad, A0, c0, e, by have hq := hc 0 _ rfl; rwa [Nat.mul_one, Nat.add_zero] at hq, l0, g0⟩

def rd_L6 (xs : List (List (List ByteArray))) (i : Int) : (List (List ByteArray)) := xs.getD i.toNat ([] : List (List ByteArray))
theorem at_L6 {w : World} {A : Option Addr} {n : Nat} {xs : List (List (List ByteArray))} (h : Kd.C (Kd.slice 23 (Kd.slice 9 Kd.string)) w A n xs) (i : Int) (h0 : 0 ≤ i) (h1 : i < n) : ∃ ad A0 c0, A = some ad ∧ w.cell? (ad.add i.toNat) = some (.slice A0 (rd_L6 xs i).length c0) ∧ (rd_L6 xs i).length ≤ c0 ∧ (Kd.slice 9 Kd.string).C w A0 (rd_L6 xs i).length (rd_L6 xs i) := by
  obtain ⟨ad, c, e, _, hK, hc0⟩ := Kd.C_get h ([] : List (List ByteArray)) i h0 h1
  have hc : ∀ j u, c[j]? = some u → w.cell? (ad.add (i.toNat * 1 + j)) = some u := hc0
  obtain ⟨A0, c0, rfl, l0, g0⟩ := hK
  exact ⟨ad, A0, c0, e, by have hq := hc 0 _ rfl; rwa [Nat.mul_one, Nat.add_zero] at hq, l0, g0⟩

def rd_L8 (xs : List (List Int)) (i : Int) : (List Int) := xs.getD i.toNat ([] : List Int)
theorem at_L8 {w : World} {A : Option Addr} {n : Nat} {xs : List (List Int)} (h : Kd.C (Kd.slice 3 (Kd.int .i64)) w A n xs) (i : Int) (h0 : 0 ≤ i) (h1 : i < n) : ∃ ad A0 c0, A = some ad ∧ w.cell? (ad.add i.toNat) = some (.slice A0 (rd_L8 xs i).length c0) ∧ (rd_L8 xs i).length ≤ c0 ∧ (Kd.int .i64).C w A0 (rd_L8 xs i).length (rd_L8 xs i) := by
  obtain ⟨ad, c, e, _, hK, hc0⟩ := Kd.C_get h ([] : List Int) i h0 h1
  have hc : ∀ j u, c[j]? = some u → w.cell? (ad.add (i.toNat * 1 + j)) = some u := hc0
  obtain ⟨A0, c0, rfl, l0, g0⟩ := hK
  exact ⟨ad, A0, c0, e, by have hq := hc 0 _ rfl; rwa [Nat.mul_one, Nat.add_zero] at hq, l0, g0⟩

def rd_L10 (xs : List (List Int)) (i : Int) : (List Int) := xs.getD i.toNat ([] : List Int)
theorem at_L10 {w : World} {A : Option Addr} {n : Nat} {xs : List (List Int)} (h : Kd.C (Kd.slice 103 (Kd.int .u64)) w A n xs) (i : Int) (h0 : 0 ≤ i) (h1 : i < n) : ∃ ad A0 c0, A = some ad ∧ w.cell? (ad.add i.toNat) = some (.slice A0 (rd_L10 xs i).length c0) ∧ (rd_L10 xs i).length ≤ c0 ∧ (Kd.int .u64).C w A0 (rd_L10 xs i).length (rd_L10 xs i) := by
  obtain ⟨ad, c, e, _, hK, hc0⟩ := Kd.C_get h ([] : List Int) i h0 h1
  have hc : ∀ j u, c[j]? = some u → w.cell? (ad.add (i.toNat * 1 + j)) = some u := hc0
  obtain ⟨A0, c0, rfl, l0, g0⟩ := hK
  exact ⟨ad, A0, c0, e, by have hq := hc 0 _ rfl; rwa [Nat.mul_one, Nat.add_zero] at hq, l0, g0⟩

def rd_L12 (xs : List (List Int)) (i : Int) : (List Int) := xs.getD i.toNat ([] : List Int)
theorem at_L12 {w : World} {A : Option Addr} {n : Nat} {xs : List (List Int)} (h : Kd.C (Kd.slice 5 (Kd.int .u8)) w A n xs) (i : Int) (h0 : 0 ≤ i) (h1 : i < n) : ∃ ad A0 c0, A = some ad ∧ w.cell? (ad.add i.toNat) = some (.slice A0 (rd_L12 xs i).length c0) ∧ (rd_L12 xs i).length ≤ c0 ∧ (Kd.int .u8).C w A0 (rd_L12 xs i).length (rd_L12 xs i) := by
  obtain ⟨ad, c, e, _, hK, hc0⟩ := Kd.C_get h ([] : List Int) i h0 h1
  have hc : ∀ j u, c[j]? = some u → w.cell? (ad.add (i.toNat * 1 + j)) = some u := hc0
  obtain ⟨A0, c0, rfl, l0, g0⟩ := hK
  exact ⟨ad, A0, c0, e, by have hq := hc 0 _ rfl; rwa [Nat.mul_one, Nat.add_zero] at hq, l0, g0⟩

end Go.Proofs.Ytdllpgeagdckmaa.Q

/- Maps that a call makes or owns, whatever their keys and elements: what they hold is a function of the key as it reads, the elements as raw values. -/
namespace Go.Proofs.Ytdllpgeagdckmaa.MapKit
open Go Go.RowKit Go.Maps
set_option linter.unusedVariables false

/-- An element as it stands. -/
def rawElem (v : Value) : Option (DataW Value × List MemPlace) := some (.held v, [])

/-- What a map's datum holds. -/
def Holds (D : DataW Value) (f : Lit → Option Value) : Prop :=
  (∀ s z, D.atKey s z = match f s with | none => z | some v => .held v) ∧ ∀ s, Maps.has D s = (f s).isSome

/-- Block b is a map of at most n entries that holds f. -/
def MapIs (P : Program) (k : TypeId) (w : World) (b n : Nat) (f : Lit → Option Value) : Prop := ∃ D, w.ownsMap P k rawElem b n D ∧ Holds D f

/-- One key more (or anew). -/
noncomputable def upd (f : Lit → Option Value) (s : Lit) (v : Option Value) : Lit → Option Value := by
  classical
  exact fun x => if x = s then v else f x
theorem upd_same (f : Lit → Option Value) (s : Lit) (v : Option Value) : upd f s v s = v := by simp [upd]
theorem upd_other (f : Lit → Option Value) {s x : Lit} (v : Option Value) (h : x ≠ s) : upd f s v x = f x := by simp [upd, h]
def ofStr (F : List UInt8 → Option Value) : Lit → Option Value
  | .string l => F l
  | _ => none
def ofInt (k : IntKind) (F : Int → Option Value) : Lit → Option Value
  | .int q n => if q = k then F n else none
  | _ => none
theorem upd_str (F : List UInt8 → Option Value) (s : List UInt8) (v : Option Value) : upd (ofStr F) (.string s) v = ofStr (fun y => if y = s then v else F y) := by
  funext x
  by_cases h : x = .string s
  · subst h
    rw [upd_same]
    simp [ofStr]
  · rw [upd_other _ _ h]
    cases x with
    | string l =>
      have : l ≠ s := fun e => h (by rw [e])
      simp [ofStr, this]
    | _ => rfl
theorem upd_int (k : IntKind) (F : Int → Option Value) (s : Int) (v : Option Value) : upd (ofInt k F) (.int k s) v = ofInt k (fun y => if y = s then v else F y) := by
  funext x
  by_cases h : x = .int k s
  · subst h
    rw [upd_same]
    simp [ofInt]
  · rw [upd_other _ _ h]
    cases x with
    | int q n =>
      by_cases hq : q = k
      · subst hq
        have : n ≠ s := fun e => h (by rw [e])
        simp [ofInt, this]
      · simp [ofInt, hq]
    | _ => rfl

theorem key_lit (s : List UInt8) : WideAt.IsKeyLit (.string s) := by first | trivial | simp [WideAt.IsKeyLit]
theorem key_int (k : IntKind) (n : Int) : WideAt.IsKeyLit (.int k n) := by first | trivial | simp [WideAt.IsKeyLit]

section
variable {P : Program} {k : TypeId} {w : World} {b n : Nat} {f : Lit → Option Value}

theorem MapIs.made (w : World) (P : Program) (k : TypeId) : MapIs P k (w.alloc (.map #[] 0)) w.heap.size 0 (fun _ => none) :=
  ⟨.map [], World.ownsMap_made w P k rawElem, fun s z => rfl, fun s => rfl⟩
theorem MapIs.mono (h : MapIs P k w b n f) {n' : Nat} (hn : n ≤ n') : MapIs P k w b n' f := by
  obtain ⟨D, h1, h2⟩ := h
  exact ⟨D, h1.mono hn, h2⟩
theorem MapIs.lt (h : MapIs P k w b n f) : b < w.heap.size := by
  obtain ⟨D, h1, _⟩ := h
  exact h1.lt
theorem MapIs.move {w' : World} (h : MapIs P k w b n f) (hb : w'.heap[b]? = w.heap[b]?) : MapIs P k w' b n f := by
  obtain ⟨D, ⟨es, clock, h1, h3⟩, h2⟩ := h
  exact ⟨D, ⟨es, clock, hb.trans h1, h3⟩, h2⟩
theorem MapIs.below {w' : World} (h : MapIs P k w b n f) (hb : Below w.heap.size w w') : MapIs P k w' b n f := h.move (hb.block b h.lt)
theorem MapIs.kept {w' : World} {row : Option Nat} (h : MapIs P k w b n f) (hg : w.grownBy w' row) (hne : row ≠ some b) : MapIs P k w' b n f := h.move (hg.block b h.lt (fun e => hne e.symm))
theorem MapIs.congr {g : Lit → Option Value} (h : MapIs P k w b n f) (e : ∀ s, f s = g s) : MapIs P k w b n g := by
  obtain rfl : f = g := funext e
  exact h

theorem Holds.put {D : DataW Value} (hD : IsMap D) (h : Holds D f) (s : Lit) (hs : WideAt.IsKeyLit s) (v : Value) : Holds (D.put s (.held v)) (upd f s (some v)) := by
  refine ⟨fun x z => ?_, fun x => ?_⟩
  · by_cases hx : x = s
    · subst hx
      rw [atKey_put_same hD hs, upd_same]
    · rw [atKey_put_other hx, h.1, upd_other _ _ hx]
  · by_cases hx : x = s
    · subst hx
      rw [has_put_same hD hs, upd_same]
      rfl
    · rw [has_put_other hx, h.2, upd_other _ _ hx]
theorem Holds.del {D : DataW Value} (h : Holds D f) (s : Lit) : Holds (D.del s) (upd f s none) := by
  refine ⟨fun x z => ?_, fun x => ?_⟩
  · by_cases hx : x = s
    · subst hx
      rw [atKey_del_same, upd_same]
    · rw [atKey_del_other hx, h.1, upd_other _ _ hx]
  · by_cases hx : x = s
    · subst hx
      rw [has_del_same, upd_same]
      rfl
    · rw [has_del_other hx, h.2, upd_other _ _ hx]

variable {ops : Array Oper} {rest : List Oper} {o : Oper} {a : Act} {Q : Exit → Act → World → Prop}

/-- 'm[k] = v'. -/
theorem wpList_put (hg : o.guard = none) (m x v : Operand) (t : TypeId) (hop : o.op = Op.mapUpdate t m x v)
    (e : TypeId) (K : Keyed P k) (ht : P.underlying t = some (.map k e)) (hm : a.eval m = .map (some b)) (h : MapIs P k w b n f) (hn : n < maxLen) (key : Value) (s : Lit) (hs : WideAt.IsKeyLit s) (val : Value) (hx : a.eval x = key) (hv : a.eval v = val) (hkey : keyOf P k key = some s)
    (hK : ∀ w', MapIs P k w' b (n + 1) (upd f s (some val)) → w.grownBy w' (some b) → wpList P ops Q rest (a.put o.dst undef) w') :
    wpList P ops Q (o :: rest) a w := by
  obtain ⟨D, h1, h2⟩ := h
  exact wpList_mapUpdate_own w hg m x v t hop k e K ht rawElem b n D hm h1 hn key val s hx hv hkey (.held val) [] rfl (fun w' r1 r2 => hK w' ⟨_, r1, h2.put h1.isMap _ hs _⟩ r2)

theorem look_value {D : DataW Value} (h : Holds D f) {s : Lit} {z v : Value} {ps : List MemPlace} (hv : rawElem v = some (D.atKey s (.held z), ps)) : v = (f s).getD z := by
  rw [h.1] at hv
  unfold rawElem at hv
  cases e : f s with
  | none =>
    rw [e] at hv
    simp only [Option.some.injEq, Prod.mk.injEq, DataW.held.injEq] at hv
    exact hv.1
  | some u =>
    rw [e] at hv
    simp only [Option.some.injEq, Prod.mk.injEq, DataW.held.injEq] at hv
    exact hv.1

/-- 'm[k]'. -/
theorem wpList_look (hg : o.guard = none) (m x : Operand) (t : TypeId) (hop : o.op = Op.lookup t m x false)
    (e : TypeId) (K : Keyed P k) (ht : P.underlying t = some (.map k e)) {z : Value} (hz : (zeroValue e).run P w = .ok z w) (hm : a.eval m = .map (some b)) (h : MapIs P k w b n f) (key : Value) (s : Lit) (hx : a.eval x = key) (hkey : keyOf P k key = some s)
    (hK : wpList P ops Q rest (a.put o.dst ((f s).getD z)) w) :
    wpList P ops Q (o :: rest) a w := by
  obtain ⟨D, h1, h2⟩ := h
  refine wpList_plain hg fun K' hK' => ?_
  obtain ⟨v, ps, hrun, hv⟩ := h1.lookup K ht hz (zd := .held z) (zp := []) rfl hkey
  obtain rfl := look_value h2 hv
  unfold Oper.wp
  simp [execOp, hop, hm, hx, hrun, Result.andThen]
  exact hK' _ _ (by simpa using hK)

/-- 'm[k]' behind a guard that lets it by. -/
theorem wpList_look_w (hw : Region.wanted o (yielded ops a.tmps) = true) (m x : Operand) (t : TypeId) (hop : o.op = Op.lookup t m x false)
    (e : TypeId) (K : Keyed P k) (ht : P.underlying t = some (.map k e)) {z : Value} (hz : (zeroValue e).run P w = .ok z w) (hm : a.eval m = .map (some b)) (h : MapIs P k w b n f) (key : Value) (s : Lit) (hx : a.eval x = key) (hkey : keyOf P k key = some s)
    (hK : wpList P ops Q rest (a.put o.dst ((f s).getD z)) w) :
    wpList P ops Q (o :: rest) a w := by
  obtain ⟨D, h1, h2⟩ := h
  refine wpList_step fun K' hK' => ?_
  simp only [hw, if_true]
  obtain ⟨v, ps, hrun, hv⟩ := h1.lookup K ht hz (zd := .held z) (zp := []) rfl hkey
  obtain rfl := look_value h2 hv
  unfold Oper.wp
  simp [execOp, hop, hm, hx, hrun, Result.andThen]
  exact hK' _ _ (by simpa using hK)

/-- 'v, ok := m[k]'. -/
theorem wpList_look_ok (hg : o.guard = none) (m x : Operand) (t : TypeId) (hop : o.op = Op.lookup t m x true)
    (e : TypeId) (K : Keyed P k) (ht : P.underlying t = some (.map k e)) {z : Value} (hz : (zeroValue e).run P w = .ok z w) (hm : a.eval m = .map (some b)) (h : MapIs P k w b n f) (key : Value) (s : Lit) (hx : a.eval x = key) (hkey : keyOf P k key = some s)
    (hK : wpList P ops Q rest (a.put o.dst (.tuple #[(f s).getD z, .bool (f s).isSome])) w) :
    wpList P ops Q (o :: rest) a w := by
  obtain ⟨D, h1, h2⟩ := h
  refine wpList_lookup_own_ok w hg m x t hop k e K ht rawElem hz (.held z) [] rfl b n D hm h1 key s hx hkey (fun v ps hv => ?_)
  obtain rfl := look_value h2 hv
  rw [h2.2]
  exact hK
end
end Go.Proofs.Ytdllpgeagdckmaa.MapKit

/- Names that need one another: who is reached, who lies on a circle, and in which order they come. Plain lists, no program. -/
namespace Go.Proofs.Ytdllpgeagdckmaa.Ord
set_option linter.unusedVariables false
set_option linter.unusedSimpArgs false
set_option linter.unusedSectionVars false
section
variable {N : Type} [DecidableEq N]

/-- A strict total order. -/
structure Tot (lt : N → N → Bool) : Prop where
  irr : ∀ a, lt a a = false
  tr : ∀ a b c, lt a b = true → lt b c = true → lt a c = true
  tri : ∀ a b, lt a b = true ∨ a = b ∨ lt b a = true

def IsLeast (lt : N → N → Bool) (P : N → Prop) (m : N) : Prop := P m ∧ ∀ x, P x → lt x m = false

theorem IsLeast.unique {lt : N → N → Bool} (T : Tot lt) {P : N → Prop} {a b : N} (ha : IsLeast lt P a) (hb : IsLeast lt P b) : a = b := by
  rcases T.tri a b with h | h | h
  · rw [hb.2 a ha.1] at h; cases h
  · exact h
  · rw [ha.2 b hb.1] at h; cases h
theorem IsLeast.congr {lt : N → N → Bool} {P Q : N → Prop} {a : N} (h : IsLeast lt P a) (e : ∀ x, P x ↔ Q x) : IsLeast lt Q a := ⟨(e a).1 h.1, fun x hx => h.2 x ((e x).2 hx)⟩

def mnO (lt : N → N → Bool) (a b : N) : N := if lt b a then b else a
def leastO (lt : N → N → Bool) : N → List N → N
  | a, [] => a
  | a, b :: l => leastO lt (mnO lt a b) l

theorem leastO_is {lt : N → N → Bool} (T : Tot lt) : ∀ (l : List N) (a : N), IsLeast lt (· ∈ a :: l) (leastO lt a l)
  | [], a => ⟨by simp [leastO], fun x hx => by
      rw [List.mem_singleton.1 hx]
      exact T.irr _⟩
  | b :: l, a => by
    have h := leastO_is T l (mnO lt a b)
    have hm : mnO lt a b = a ∨ mnO lt a b = b := by unfold mnO; split <;> simp
    have ha : ∀ z, lt z (mnO lt a b) = false → lt (mnO lt a b) z = true ∨ mnO lt a b = z := fun z hz => by
      rcases T.tri (mnO lt a b) z with h1 | h1 | h1
      · exact .inl h1
      · exact .inr h1
      · rw [hz] at h1; cases h1
    refine ⟨?_, fun x hx => ?_⟩
    · show leastO lt (mnO lt a b) l ∈ _
      rcases List.mem_cons.1 h.1 with h1 | h1
      · rw [h1]
        rcases hm with e | e <;> rw [e] <;> simp
      · exact List.mem_cons_of_mem _ (List.mem_cons_of_mem _ h1)
    · show lt x (leastO lt (mnO lt a b) l) = false
      have hk : lt (mnO lt a b) (leastO lt (mnO lt a b) l) = false := h.2 _ List.mem_cons_self
      have key : ∀ z, lt z (mnO lt a b) = false → lt z (leastO lt (mnO lt a b) l) = false := fun z hz => by
        cases hc : lt z (leastO lt (mnO lt a b) l) with
        | false => rfl
        | true =>
          rcases ha z hz with h1 | h1
          · rw [T.tr _ _ _ h1 hc] at hk; cases hk
          · rw [h1] at hk hc; rw [hk] at hc; cases hc
      rcases List.mem_cons.1 hx with rfl | hx
      · refine key _ ?_
        unfold mnO
        split
        · rename_i h1
          cases hc : lt x b with
          | false => rfl
          | true => have := T.irr x; rw [T.tr _ _ _ hc h1] at this; cases this
        · exact T.irr _
      rcases List.mem_cons.1 hx with rfl | hx
      · refine key _ ?_
        unfold mnO
        split
        · exact T.irr _
        · rename_i h1
          simpa using h1
      · exact h.2 x (List.mem_cons_of_mem _ hx)

/-! ### The net -/
abbrev Net (N : Type) := List (N × List N)

def usesOf (list : Net N) (x : N) : Option (List N) := (list.find? (fun v => v.1 == x)).map (·.2)

inductive Reach (list : Net N) (hv from_ : List N) : N → Prop
  | base (x : N) (h : x ∈ from_) (hn : x ∉ hv) : Reach list hv from_ x
  | step (y x : N) (us : List N) (hy : Reach list hv from_ y) (hu : usesOf list y = some us) (h : x ∈ us) (hn : x ∉ hv) : Reach list hv from_ x

theorem Reach.not_have {list : Net N} {hv from_ : List N} {x : N} (h : Reach list hv from_ x) : x ∉ hv := by
  cases h <;> assumption

def Cyc (list : Net N) (hv : List N) (x : N) : Prop := ∃ us, usesOf list x = some us ∧ Reach list hv us x

/-- What is reached from what is reached is reached. -/
theorem Reach.trans {list : Net N} {hv from_ us : List N} {x y : N} (hx : Reach list hv from_ x) (hu : usesOf list x = some us) (hy : Reach list hv us y) : Reach list hv from_ y := by
  induction hy with
  | base z h hn => exact .step x z us hx hu h hn
  | step a z vs ha hv' h hn ih => exact .step a z vs ih hv' h hn

/-! ### What stands twice -/
def dupUses (name : N) : List N → List N → List N
  | _, [] => []
  | s, u :: us => (if u ∈ s then [name] else []) ++ dupUses name (s ++ [u]) us
def badsFrom : List N → Net N → List N
  | _, [] => []
  | s, v :: l => ((if v.1 ∈ s then [v.1] else []) ++ dupUses v.1 [] v.2) ++ badsFrom (s ++ [v.1]) l
def bads (list : Net N) : List N := badsFrom [] list

theorem mem_dupUses {name x : N} : ∀ (us s : List N), x ∈ dupUses name s us ↔ x = name ∧ ¬ (us.Nodup ∧ ∀ u ∈ us, u ∉ s)
  | [], s => by simp [dupUses]
  | u :: us, s => by
    rw [dupUses, List.mem_append, mem_dupUses us]
    by_cases hu : u ∈ s
    · simp only [hu, if_true, List.nodup_cons, List.mem_cons, List.not_mem_nil, or_false]
      constructor
      · rintro (rfl | ⟨rfl, _⟩)
        · exact ⟨rfl, fun ⟨_, h⟩ => h u (.inl rfl) hu⟩
        · exact ⟨rfl, fun ⟨_, h⟩ => h u (.inl rfl) hu⟩
      · exact fun ⟨e, _⟩ => .inl e
    · simp only [hu, if_false, List.not_mem_nil, false_or, List.nodup_cons, List.mem_cons, List.mem_append, List.mem_singleton, List.not_mem_nil, or_false]
      refine and_congr_right fun _ => not_congr ⟨fun ⟨h1, h2⟩ => ⟨⟨fun hc => ?_, h1⟩, fun a ha => ?_⟩, fun ⟨⟨h0, h1⟩, h2⟩ => ⟨h1, fun a ha hc => ?_⟩⟩
      · exact h2 u hc (.inr rfl)
      · rcases ha with rfl | ha
        · exact hu
        · exact fun hc => h2 a ha (.inl hc)
      · rcases hc with hc | rfl
        · exact h2 a (.inr ha) hc
        · exact h0 ha

theorem mem_badsFrom {x : N} : ∀ (l : Net N) (s : List N), x ∈ badsFrom s l ↔ (x ∈ s ∧ x ∈ l.map (·.1)) ∨ 2 ≤ (l.map (·.1)).count x ∨ ∃ v ∈ l, v.1 = x ∧ ¬ v.2.Nodup
  | [], s => by simp [badsFrom]
  | v :: l, s => by
    rw [badsFrom, List.mem_append, List.mem_append, mem_badsFrom l, mem_dupUses]
    have hc : ∀ y, 1 ≤ (l.map (·.1)).count y ↔ y ∈ l.map (·.1) := fun y => by
      rw [Nat.one_le_iff_ne_zero, ← Nat.pos_iff_ne_zero, List.count_pos_iff]
    by_cases hx : x = v.1
    · subst hx
      have e1 : ((v :: l).map (·.1)).count v.1 = (l.map (·.1)).count v.1 + 1 := by simp
      rw [e1, show 2 ≤ (l.map (·.1)).count v.1 + 1 ↔ v.1 ∈ l.map (·.1) by rw [← hc]; omega]
      constructor
      · rintro ((h | ⟨_, h⟩) | ⟨_, h⟩ | h | ⟨a, ha, e, h⟩)
        · refine .inl ⟨?_, by simp⟩
          by_cases hs : v.1 ∈ s
          · exact hs
          · rw [if_neg hs] at h; simp at h
        · exact .inr (.inr ⟨v, List.mem_cons_self, rfl, fun hn => h ⟨hn, by simp⟩⟩)
        · exact .inr (.inl h)
        · exact .inr (.inl ((hc _).1 (by omega)))
        · exact .inr (.inr ⟨a, List.mem_cons_of_mem _ ha, e, h⟩)
      · rintro (⟨h, _⟩ | h | ⟨a, ha, e, h⟩)
        · exact .inl (.inl (by rw [if_pos h]; simp))
        · exact .inr (.inl ⟨by simp, h⟩)
        · rcases List.mem_cons.1 ha with rfl | ha
          · exact .inl (.inr ⟨rfl, fun ⟨h1, _⟩ => h h1⟩)
          · exact .inr (.inr (.inr ⟨a, ha, e, h⟩))
    · have e1 : ((v :: l).map (·.1)).count x = (l.map (·.1)).count x := by simp [Ne.symm hx]
      rw [e1]
      have e2 : (x ∈ s ++ [v.1]) ↔ x ∈ s := by simp [hx]
      rw [e2]
      have e3 : x ∈ (v :: l).map (·.1) ↔ x ∈ l.map (·.1) := by simp [hx]
      rw [e3]
      have e4 : (∃ a ∈ v :: l, a.1 = x ∧ ¬ a.2.Nodup) ↔ ∃ a ∈ l, a.1 = x ∧ ¬ a.2.Nodup := by
        constructor
        · rintro ⟨a, ha, e, h⟩
          rcases List.mem_cons.1 ha with rfl | ha
          · exact absurd e.symm hx
          · exact ⟨a, ha, e, h⟩
        · rintro ⟨a, ha, e, h⟩
          exact ⟨a, List.mem_cons_of_mem _ ha, e, h⟩
      rw [e4]
      have e5 : ¬ (x ∈ if v.1 ∈ s then [v.1] else []) := by split <;> simp [hx]
      simp [e5, hx]

theorem mem_bads {x : N} {list : Net N} : x ∈ bads list ↔ 2 ≤ (list.map (·.1)).count x ∨ ∃ v ∈ list, v.1 = x ∧ ¬ v.2.Nodup := by
  rw [bads, mem_badsFrom]
  simp

theorem bads_nil {list : Net N} (h : bads list = []) : (list.map (·.1)).Nodup ∧ ∀ v ∈ list, v.2.Nodup := by
  have hx : ∀ x, x ∉ bads list := by simp [h]
  refine ⟨List.nodup_iff_count.2 fun a => ?_, fun v hv => ?_⟩
  · have := hx a
    rw [mem_bads] at this
    omega
  · have := hx v.1
    rw [mem_bads] at this
    exact Classical.not_not.1 fun hn => this (.inr ⟨v, hv, rfl, hn⟩)

theorem usesOf_mem {list : Net N} (h : (list.map (·.1)).Nodup) {x : N} {us : List N} : usesOf list x = some us ↔ (x, us) ∈ list := by
  induction list with
  | nil => simp [usesOf]
  | cons v l ih =>
    simp only [List.map_cons, List.nodup_cons] at h
    have ih := ih h.2
    unfold usesOf at ih ⊢
    by_cases hx : v.1 = x
    · subst hx
      simp only [List.find?_cons, beq_self_eq_true, Option.map_some, Option.some.injEq, List.mem_cons]
      constructor
      · rintro rfl
        exact .inl rfl
      · rintro (e | e)
        · rw [← e]
        · exact absurd (List.mem_map_of_mem (f := (·.1)) e) h.1
    · simp only [List.find?_cons, beq_eq_false_iff_ne.2 hx, List.mem_cons]
      rw [ih]
      constructor
      · exact .inr
      · rintro (e | e)
        · exact absurd (by rw [← e]) hx
        · exact e
theorem usesOf_none {list : Net N} {x : N} : usesOf list x = none ↔ x ∉ list.map (·.1) := by
  simp only [usesOf, Option.map_eq_none_iff, List.find?_eq_none, List.mem_map, not_exists, not_and, beq_iff_eq]

theorem usesOf_snoc {l : Net N} {v : N × List N} (hn : v.1 ∉ l.map (·.1)) (x : N) : usesOf (l ++ [v]) x = if x = v.1 then some v.2 else usesOf l x := by
  unfold usesOf
  rw [List.find?_append]
  by_cases hx : x = v.1
  · subst hx
    have : l.find? (fun y => y.1 == v.1) = none := by
      rw [List.find?_eq_none]
      intro y hy
      simp only [beq_iff_eq]
      exact fun e => hn (by rw [← e]; exact List.mem_map_of_mem (f := (·.1)) hy)
    rw [this]
    simp
  · rw [if_neg hx]
    have : [v].find? (fun y => y.1 == x) = none := by
      rw [List.find?_eq_none]
      intro y hy
      rw [List.mem_singleton.1 hy]
      simp only [beq_iff_eq]
      exact fun e => hx e.symm
    rw [this, Option.or_none]

/-! ### The answer -/
/-- Who could come now. -/
def Next (list : Net N) (hv want out : List N) (x : N) : Prop := Reach list hv want x ∧ x ∉ out ∧ ∀ us, usesOf list x = some us → ∀ u ∈ us, u ∈ hv ∨ u ∈ out

structure Greedy (lt : N → N → Bool) (list : Net N) (hv want l : List N) : Prop where
  mem : ∀ x, x ∈ l ↔ Reach list hv want x
  nodup : l.Nodup
  least : ∀ i x, l[i]? = some x → IsLeast lt (Next list hv want (l.take i)) x

theorem Greedy.unique {lt : N → N → Bool} (T : Tot lt) {list : Net N} {hv want l l' : List N} (h : Greedy lt list hv want l) (h' : Greedy lt list hv want l') : l = l' := by
  have hlen : l.length = l'.length := ((List.perm_ext_iff_of_nodup h.nodup h'.nodup).2 fun x => (h.mem x).trans (h'.mem x).symm).length_eq
  have key : ∀ i, i ≤ l.length → l.take i = l'.take i := by
    intro i
    induction i with
    | zero => intro _; simp
    | succ i ih =>
      intro hi
      have e := ih (by omega)
      have h1 := h.least i _ (List.getElem?_eq_getElem (show i < l.length by omega))
      have h2 := h'.least i _ (List.getElem?_eq_getElem (show i < l'.length by omega))
      rw [e] at h1
      rw [List.take_succ_eq_append_getElem (by omega), List.take_succ_eq_append_getElem (by omega), e, h1.unique T h2]
  have := key l.length (Nat.le_refl _)
  rw [List.take_length] at this
  rw [this, hlen, List.take_length]

inductive Sorts (lt : N → N → Bool) (emp : N) (list : Net N) (want hv : List N) : List N → N → Int → Prop
  | twice (m : N) (h : IsLeast lt (· ∈ bads list) m) : Sorts lt emp list want hv [] m 14
  | none_ (m : N) (h0 : bads list = []) (h : IsLeast lt (fun x => Reach list hv want x ∧ usesOf list x = none) m) : Sorts lt emp list want hv [] m 6
  | cycle (m : N) (h0 : bads list = []) (h1 : ∀ x, Reach list hv want x → usesOf list x ≠ none) (h : IsLeast lt (fun x => Reach list hv want x ∧ Cyc list hv x) m) : Sorts lt emp list want hv [] m 15
  | ok (l : List N) (h0 : bads list = []) (h1 : ∀ x, Reach list hv want x → usesOf list x ≠ none) (h2 : ∀ x, Reach list hv want x → ¬ Cyc list hv x) (h : Greedy lt list hv want l) : Sorts lt emp list want hv l emp 0

theorem Sorts.unique {lt : N → N → Bool} (T : Tot lt) {emp : N} {list : Net N} {want hv l l' : List N} {m m' : N} {e e' : Int} (h : Sorts lt emp list want hv l m e) (h' : Sorts lt emp list want hv l' m' e') : l = l' ∧ m = m' ∧ e = e' := by
  cases h with
  | twice m h =>
    cases h' with
    | twice m' h' => exact ⟨rfl, h.unique T h', rfl⟩
    | none_ m' h0 h' => have := h.1; rw [h0] at this; simp at this
    | cycle m' h0 h1 h' => have := h.1; rw [h0] at this; simp at this
    | ok l' h0 h1 h2 h' => have := h.1; rw [h0] at this; simp at this
  | none_ m h0 h =>
    cases h' with
    | twice m' h' => have := h'.1; rw [h0] at this; simp at this
    | none_ m' h0 h' => exact ⟨rfl, h.unique T h', rfl⟩
    | cycle m' h0 h1 h' => exact absurd h.1.2 (h1 _ h.1.1)
    | ok l' h0 h1 h2 h' => exact absurd h.1.2 (h1 _ h.1.1)
  | cycle m h0 h1 h =>
    cases h' with
    | twice m' h' => have := h'.1; rw [h0] at this; simp at this
    | none_ m' h0 h' => exact absurd h'.1.2 (h1 _ h'.1.1)
    | cycle m' h0 h1 h' => exact ⟨rfl, h.unique T h', rfl⟩
    | ok l' h0 h1 h2 h' => exact absurd h.1.2 (h2 _ h.1.1)
  | ok l h0 h1 h2 h =>
    cases h' with
    | twice m' h' => have := h'.1; rw [h0] at this; simp at this
    | none_ m' h0 h' => exact absurd h'.1.2 (h1 _ h'.1.1)
    | cycle m' h0 h1 h' => exact absurd h'.1.2 (h2 _ h'.1.1)
    | ok l' h0 h1 h2 h' => exact ⟨h.unique T h', rfl, rfl⟩

/-- Only who is in the list, what they use, who is wanted and there matters. -/
theorem Sorts.turned {lt : N → N → Bool} {emp : N} {list list' : Net N} {want want' hv l : List N} {m : N} {e : Int} (h : Sorts lt emp list want hv l m e) (hp : list.Perm list') (hw : ∀ x, x ∉ hv → (x ∈ want ↔ x ∈ want')) : Sorts lt emp list' want' hv l m e := by
  have hb : ∀ x, x ∈ bads list ↔ x ∈ bads list' := fun x => by
    rw [mem_bads, mem_bads, (hp.map (·.1)).count_eq]
    refine or_congr Iff.rfl ⟨fun ⟨v, hv, r⟩ => ⟨v, hp.mem_iff.1 hv, r⟩, fun ⟨v, hv, r⟩ => ⟨v, hp.mem_iff.2 hv, r⟩⟩
  have hb0 : bads list = [] → bads list' = [] := fun h0 => List.eq_nil_iff_forall_not_mem.2 fun x hx => by rw [← hb, h0] at hx; simp at hx
  have hu : bads list = [] → ∀ x, usesOf list x = usesOf list' x := fun h0 x => by
    have n1 := (bads_nil h0).1
    have n2 := (bads_nil (hb0 h0)).1
    cases hx : usesOf list' x with
    | none => rw [usesOf_none] at hx ⊢; rw [(hp.map (·.1)).mem_iff]; exact hx
    | some us => rw [usesOf_mem n2] at hx; rw [usesOf_mem n1, hp.mem_iff]; exact hx
  have hr : ∀ (a b : List N), bads list = [] → (∀ x, x ∉ hv → (x ∈ a ↔ x ∈ b)) → ∀ x, Reach list hv a x ↔ Reach list' hv b x := fun a b h0 hab x => by
    constructor
    · intro h
      induction h with
      | base z h hn => exact .base z ((hab z hn).1 h) hn
      | step y z us hy hus h hn ih => exact .step y z us ih (by rw [← hu h0]; exact hus) h hn
    · intro h
      induction h with
      | base z h hn => exact .base z ((hab z hn).2 h) hn
      | step y z us hy hus h hn ih => exact .step y z us ih (by rw [hu h0]; exact hus) h hn
  have hc : bads list = [] → ∀ x, Cyc list hv x ↔ Cyc list' hv x := fun h0 x => by
    unfold Cyc
    rw [hu h0 x]
    exact ⟨fun ⟨us, a, b⟩ => ⟨us, a, (hr us us h0 (fun _ _ => Iff.rfl) x).1 b⟩, fun ⟨us, a, b⟩ => ⟨us, a, (hr us us h0 (fun _ _ => Iff.rfl) x).2 b⟩⟩
  cases h with
  | twice m h => exact .twice m (h.congr hb)
  | none_ m h0 h => exact .none_ m (hb0 h0) (h.congr fun x => by rw [hr _ _ h0 hw, hu h0])
  | cycle m h0 h1 h => exact .cycle m (hb0 h0) (fun x hx => by rw [← hu h0]; exact h1 x ((hr _ _ h0 hw x).2 hx)) (h.congr fun x => by rw [hr _ _ h0 hw, hc h0])
  | ok l h0 h1 h2 h =>
    refine .ok l (hb0 h0) (fun x hx => by rw [← hu h0]; exact h1 x ((hr _ _ h0 hw x).2 hx)) (fun x hx => by rw [← hc h0]; exact h2 x ((hr _ _ h0 hw x).2 hx)) ⟨fun x => (h.mem x).trans (hr _ _ h0 hw x), h.nodup, fun i x hi => (h.least i x hi).congr fun y => ?_⟩
    unfold Next
    rw [hr _ _ h0 hw, hu h0]

/-! ### Somebody can always come -/
theorem countP_lt {α : Type} {p q : α → Bool} : ∀ {l : List α}, (∀ x ∈ l, p x = true → q x = true) → (∃ x ∈ l, q x = true ∧ p x = false) → l.countP p < l.countP q
  | [], _, ⟨x, hx, _⟩ => by simp at hx
  | a :: l, h, ⟨x, hx, hq, hp⟩ => by
    have hle : l.countP p ≤ l.countP q := List.countP_mono_left fun x hx => h x (List.mem_cons_of_mem _ hx)
    rw [List.countP_cons, List.countP_cons]
    rcases List.mem_cons.1 hx with rfl | hx
    · simp [hq, hp]; omega
    · have := countP_lt (fun x hx => h x (List.mem_cons_of_mem _ hx)) ⟨x, hx, hq, hp⟩
      have ha := h a List.mem_cons_self
      cases hpa : p a with
      | false => simp; split <;> omega
      | true => simp [ha hpa]; omega

theorem exists_next {list : Net N} {hv want : List N} (h1 : ∀ x, Reach list hv want x → usesOf list x ≠ none) (h2 : ∀ x, Reach list hv want x → ¬ Cyc list hv x)
    (all out : List N) (hall : ∀ x, x ∈ all ↔ Reach list hv want x) {x0 : N} (hx0 : x0 ∈ all) (hn0 : x0 ∉ out) : ∃ x, Next list hv want out x := by
  classical
  let desc : N → N → Bool := fun x y => decide (y ∉ out ∧ ∃ us, usesOf list x = some us ∧ Reach list hv us y)
  suffices H : ∀ n x, x ∈ all → x ∉ out → all.countP (desc x) = n → ∃ x, Next list hv want out x from H _ x0 hx0 hn0 rfl
  intro n
  induction n using Nat.strongRecOn with
  | _ n ih =>
    intro x hx hn hcnt
    have hrx := (hall x).1 hx
    obtain ⟨us, hus⟩ := Option.ne_none_iff_exists'.1 (h1 x hrx)
    by_cases hu : ∀ u ∈ us, u ∈ hv ∨ u ∈ out
    · exact ⟨x, hrx, hn, fun us' e => by rw [hus] at e; cases e; exact hu⟩
    · have ⟨u, hu⟩ := Classical.not_forall.1 hu
      have ⟨hm, hu⟩ := Classical.not_imp.1 hu
      have hnh : u ∉ hv := fun e => hu (.inl e)
      have hno : u ∉ out := fun e => hu (.inr e)
      have hru : Reach list hv want u := .step x u us hrx hus hm hnh
      have hxu : Reach list hv us u := .base u hm hnh
      refine ih (all.countP (desc u)) ?_ u ((hall u).2 hru) hno rfl
      rw [← hcnt]
      refine countP_lt (fun y _ hy => ?_) ⟨u, (hall u).2 hru, ?_, ?_⟩
      · have ⟨ho, vs, hvs, hy⟩ := of_decide_eq_true hy
        exact decide_eq_true ⟨ho, us, hus, hxu.trans hvs hy⟩
      · exact decide_eq_true ⟨hno, us, hus, hxu⟩
      · exact decide_eq_false fun ⟨_, vs, hvs, hy⟩ => h2 u hru ⟨vs, hvs, hy⟩

theorem subset_length : ∀ {l m : List N}, l.Nodup → (∀ x ∈ l, x ∈ m) → l.length ≤ m.length
  | [], m, _, _ => Nat.zero_le _
  | a :: l, m, hn, hs => by
    rw [List.nodup_cons] at hn
    have ha : a ∈ m := hs a List.mem_cons_self
    have h1 := subset_length (m := m.erase a) hn.2 (fun x hx => (List.mem_erase_of_ne (fun e => hn.1 (by rw [← e]; exact hx))).2 (hs x (List.mem_cons_of_mem _ hx)))
    have h2 := List.length_erase_of_mem ha
    have h3 := List.length_pos_of_mem ha
    rw [List.length_cons]
    omega
theorem subset_full {l m : List N} (hn : l.Nodup) (hs : ∀ x ∈ l, x ∈ m) (hl : m.length ≤ l.length) : ∀ x ∈ m, x ∈ l := fun x hx => by
  rcases Classical.em (x ∈ l) with h | h
  · exact h
  · have h1 := subset_length (l := x :: l) (m := m) (List.nodup_cons.2 ⟨h, hn⟩) (fun y hy => by
      rcases List.mem_cons.1 hy with rfl | hy
      · exact hx
      · exact hs y hy)
    rw [List.length_cons] at h1
    omega

/-! ### Who is reached, found step by step -/
structure Dfs (list : Net N) (hv from_ stack seen : List N) : Prop where
  st : ∀ x ∈ stack, x ∈ hv ∨ Reach list hv from_ x
  sn : ∀ x ∈ seen, Reach list hv from_ x
  nd : seen.Nodup
  fr : ∀ x ∈ from_, x ∈ hv ∨ x ∈ seen ∨ x ∈ stack
  cl : ∀ y ∈ seen, ∀ us, usesOf list y = some us → ∀ u ∈ us, u ∈ hv ∨ u ∈ seen ∨ u ∈ stack

theorem Dfs.start (list : Net N) (hv from_ : List N) : Dfs list hv from_ from_ [] :=
  ⟨fun x hx => (Classical.em (x ∈ hv)).imp id fun hn => .base x hx hn, by simp, List.nodup_nil, fun x hx => .inr (.inr hx), by simp⟩
theorem Dfs.skip {list : Net N} {hv from_ stack seen : List N} {x : N} (h : Dfs list hv from_ (stack ++ [x]) seen) (hx : x ∈ hv ∨ x ∈ seen) : Dfs list hv from_ stack seen := by
  have key : ∀ u, (u ∈ hv ∨ u ∈ seen ∨ u ∈ stack ++ [x]) → u ∈ hv ∨ u ∈ seen ∨ u ∈ stack := fun u hu => by
    rcases hu with hu | hu | hu
    · exact .inl hu
    · exact .inr (.inl hu)
    · rcases List.mem_append.1 hu with hu | hu
      · exact .inr (.inr hu)
      · rw [List.mem_singleton.1 hu]
        exact hx.imp id .inl
  exact ⟨fun y hy => h.st y (List.mem_append_left _ hy), h.sn, h.nd, fun y hy => key y (h.fr y hy), fun y hy us hus u hu => key u (h.cl y hy us hus u hu)⟩
theorem Dfs.top {list : Net N} {hv from_ stack seen : List N} {x : N} (h : Dfs list hv from_ (stack ++ [x]) seen) (hx : x ∉ hv) : Reach list hv from_ x := (h.st x (by simp)).resolve_left hx
theorem Dfs.push {list : Net N} {hv from_ stack seen : List N} {x : N} (h : Dfs list hv from_ (stack ++ [x]) seen) (hx : x ∉ hv) (hs : x ∉ seen) : Dfs list hv from_ (stack ++ (usesOf list x).getD []) (seen ++ [x]) := by
  have hr := h.top hx
  have key : ∀ u, (u ∈ hv ∨ u ∈ seen ∨ u ∈ stack ++ [x]) → u ∈ hv ∨ u ∈ seen ++ [x] ∨ u ∈ stack ++ (usesOf list x).getD [] := fun u hu => by
    rcases hu with hu | hu | hu
    · exact .inl hu
    · exact .inr (.inl (List.mem_append_left _ hu))
    · rcases List.mem_append.1 hu with hu | hu
      · exact .inr (.inr (List.mem_append_left _ hu))
      · exact .inr (.inl (List.mem_append_right _ hu))
  refine ⟨fun y hy => ?_, fun y hy => ?_, ?_, fun y hy => key y (h.fr y hy), fun y hy us hus u hu => ?_⟩
  · rcases List.mem_append.1 hy with hy | hy
    · exact h.st y (List.mem_append_left _ hy)
    · cases hu : usesOf list x with
      | none => rw [hu] at hy; simp at hy
      | some us =>
        rw [hu] at hy
        exact (Classical.em (y ∈ hv)).imp id fun hn => .step x y us hr hu hy hn
  · rcases List.mem_append.1 hy with hy | hy
    · exact h.sn y hy
    · rw [List.mem_singleton.1 hy]; exact hr
  · rw [List.nodup_append]
    exact ⟨h.nd, by simp, fun a ha b hb e => hs (by rw [← List.mem_singleton.1 hb, ← e]; exact ha)⟩
  · rcases List.mem_append.1 hy with hy | hy
    · exact key u (h.cl y hy us hus u hu)
    · rw [List.mem_singleton.1 hy] at hus
      exact .inr (.inr (List.mem_append_right _ (by rw [hus]; exact hu)))
theorem Dfs.done {list : Net N} {hv from_ seen : List N} (h : Dfs list hv from_ [] seen) (x : N) : x ∈ seen ↔ Reach list hv from_ x := by
  refine ⟨h.sn x, fun hr => ?_⟩
  induction hr with
  | base z hz hn => exact ((h.fr z hz).resolve_left hn).resolve_right (by simp)
  | step y z us hy hus hz hn ih => exact ((h.cl y ih us hus z hz).resolve_left hn).resolve_right (by simp)

/-- What may still be laid onto the list of what is to be looked at. -/
def pot : Net N → List N → Nat
  | [], _ => 0
  | v :: l, seen => (if v.1 ∈ seen then 0 else v.2.length) + pot l seen
theorem pot_out : ∀ {list : Net N} {seen : List N} {x : N}, x ∉ list.map (·.1) → pot list (seen ++ [x]) = pot list seen
  | [], _, _, _ => rfl
  | v :: l, seen, x, h => by
    simp only [List.map_cons, List.mem_cons, not_or] at h
    rw [pot, pot, pot_out h.2]
    simp [Ne.symm h.1]
theorem pot_push : ∀ {list : Net N} {seen : List N} {x : N}, (list.map (·.1)).Nodup → x ∉ seen → pot list (seen ++ [x]) + ((usesOf list x).getD []).length = pot list seen
  | [], _, _, _, _ => rfl
  | v :: l, seen, x, h, hs => by
    simp only [List.map_cons, List.nodup_cons] at h
    by_cases hx : v.1 = x
    · subst hx
      have e : (usesOf (v :: l) v.1).getD [] = v.2 := by simp [usesOf]
      rw [e, pot, pot, pot_out h.1]
      simp [hs]
      omega
    · have e : usesOf (v :: l) x = usesOf l x := by simp [usesOf, List.find?_cons, beq_eq_false_iff_ne.2 hx]
      rw [e, pot, pot, ← pot_push h.2 hs]
      simp [hx]
      omega
theorem pot_le (list : Net N) (seen : List N) : pot list seen ≤ pot list [] := by
  induction list with
  | nil => simp [pot]
  | cons v l ih =>
    rw [pot, pot]
    split <;> simp <;> omega
end
end Go.Proofs.Ytdllpgeagdckmaa.Ord

/- Names as the program holds them: their order, sets and tables of names in maps. -/
namespace Go.Proofs.Ytdllpgeagdckmaa.Q
open Go.RowKit Go.Proofs.YtdllpgeagdckmaaW.PrintWords Go.Proofs.YtdllpgeagdckmaaW.PrintLast Go.Proofs.YtdllpgeagdckmaaW.PrintMore Go.Proofs.Ytdllpgeagdckmaa.MapKit Go.Maps Go.Proofs.Ytdllpgeagdckmaa.Ord
set_option linter.unusedVariables false
set_option linter.unusedSimpArgs false

def ltN (a b : ByteArray) : Bool := Op.bytesLess a.toList b.toList
theorem toList_data (a : ByteArray) : a.toList = a.data.toList := ByteArray.toList_eq a
instance memDec (s : ByteArray) (S : List ByteArray) : Decidable (s ∈ S) := @List.instDecidableMemOfLawfulBEq ByteArray instBEqOfDecidableEq inferInstance s S
theorem bytes_ext {a b : ByteArray} (h : a.data.toList = b.data.toList) : a = b := by
  cases a; cases b
  simp only [ByteArray.mk.injEq]
  exact Array.toList_inj.1 h
theorem ltN_iff (a b : ByteArray) : ltN a b = decide (a.data.toList < b.data.toList) := by
  rw [ltN, Go.Proofs.bytesLess_eq, toList_data, toList_data]
theorem totN : Tot ltN where
  irr a := by rw [ltN_iff]; exact decide_eq_false (List.lt_irrefl _)
  tr a b c h1 h2 := by
    rw [ltN_iff] at *
    exact decide_eq_true (List.lt_trans (of_decide_eq_true h1) (of_decide_eq_true h2))
  tri a b := by
    rw [ltN_iff, ltN_iff, decide_eq_true_iff, decide_eq_true_iff]
    rcases Classical.em (a.data.toList < b.data.toList) with h | h
    · exact .inl h
    · rcases Classical.em (b.data.toList < a.data.toList) with h' | h'
      · exact .inr (.inr h')
      · exact .inr (.inl (bytes_ext (List.le_antisymm (List.not_lt.1 h') (List.not_lt.1 h))))

def netOf (l : List S41) : Net ByteArray := l.map fun v => (v.f0, v.f1)

/-- What a map keyed by strings holds. -/
def keyB (F : ByteArray → Option Value) : Lit → Option Value := ofStr (fun l => F ⟨l.toArray⟩)
theorem keyB_at (F : ByteArray → Option Value) (s : ByteArray) : keyB F (.string s.data.toList) = F s := by
  show F ⟨s.data.toList.toArray⟩ = F s
  rw [Array.toArray_toList]
theorem upd_keyB (F : ByteArray → Option Value) (s : ByteArray) (v : Option Value) : upd (keyB F) (.string s.data.toList) v = keyB (fun y => if y = s then v else F y) := by
  rw [keyB, upd_str, keyB]
  congr 1
  funext l
  have e : (l = s.data.toList) ↔ ((⟨l.toArray⟩ : ByteArray) = s) := ⟨fun h => by rw [h, Array.toArray_toList], fun h => by rw [← h]⟩
  by_cases h : l = s.data.toList
  · rw [if_pos h, if_pos (e.1 h)]
  · rw [if_neg h, if_neg (fun h' => h (e.2 h'))]

theorem key9 : Keyed Try.prog 9 := string_keyed Try.underlying9
theorem zero4 (w : World) : (zeroValue 4).run Try.prog w = .ok (.bool false) w := by kernel_rfl
theorem zero23 (w : World) : (zeroValue 23).run Try.prog w = .ok (.slice none 0 0) w := by kernel_rfl

/-- A set of names. -/
def setB (S : List ByteArray) (s : ByteArray) : Option Value := if s ∈ S then some (.bool true) else none
def SetIs (w : World) (g n : Nat) (S : List ByteArray) : Prop := MapIs Try.prog 9 w g n (keyB (setB S))
theorem SetIs.made (w : World) : SetIs (w.alloc (.map #[] 0)) w.heap.size 0 [] := by
  refine (MapIs.made w Try.prog 9).congr fun s => ?_
  cases s <;> simp [keyB, ofStr, setB]
theorem SetIs.congr {w : World} {g n : Nat} {S S' : List ByteArray} (h : SetIs w g n S) (e : ∀ x, x ∈ S ↔ x ∈ S') : SetIs w g n S' := by
  refine MapIs.congr h fun s => ?_
  cases s <;> simp [keyB, ofStr, setB, e]
theorem SetIs.below {w w' : World} {g n : Nat} {S : List ByteArray} (h : SetIs w g n S) (hb : Below w.heap.size w w') : SetIs w' g n S := MapIs.below h hb
theorem SetIs.lt {w : World} {g n : Nat} {S : List ByteArray} (h : SetIs w g n S) : g < w.heap.size := MapIs.lt h
theorem map_block {P : Program} {k : TypeId} {w : World} {b n : Nat} {f : Lit → Option Value} (h : MapIs P k w b n f) : ∃ es clock, w.heap[b]? = some (.map es clock) := by
  obtain ⟨D, ⟨es, clock, h1, _⟩, _⟩ := h
  exact ⟨es, clock, h1⟩
/-- A map is no row. -/
theorem map_ne_row {P : Program} {k : TypeId} {w : World} {b n : Nat} {f : Lit → Option Value} (h : MapIs P k w b n f) {base e size m : Nat} {v : Value} {xs : List Value} (ho : w.ownsRow base e size v m xs) : v.ownBlock ≠ some b := fun e' => by
  obtain ⟨es, clock, hm⟩ := map_block h
  obtain ⟨cs, hc⟩ := own_typed ho b e'
  rw [hm] at hc
  cases hc
theorem map_ne_cells {P : Program} {k : TypeId} {w : World} {b n : Nat} {f : Lit → Option Value} (h : MapIs P k w b n f) {g t : Nat} {cs : Array Value} {fr : Nat × Nat} (ho : w.heap[g]? = some (.cells cs t fr)) : g ≠ b := fun e' => by
  obtain ⟨es, clock, hm⟩ := map_block h
  rw [e', hm] at ho
  cases ho
theorem map_far {P : Program} {k : TypeId} {w : World} {b n : Nat} {f : Lit → Option Value} (h : MapIs P k w b n f) {p : Addr} (hp : b ≠ p.block) (u : Value) : MapIs P k (w.setCell p u) b n f := h.move (Below.heap_setCell w p u b hp)

section
variable {w : World} {ops : Array Oper} {rest : List Oper} {o : Oper} {a : Act} {Q : Exit → Act → World → Prop}
/-- 'set[name]'. -/
theorem set_look (hg : o.guard = none) (m x : Operand) (hop : o.op = Op.lookup 69 m x false) {b n : Nat} {S : List ByteArray} (hm : a.eval m = .map (some b)) (h : SetIs w b n S) (s : ByteArray) (hx : a.eval x = .string s) (hlen : s.size ≤ maxLen)
    (hK : wpList Try.prog ops Q rest (a.put o.dst (.bool (decide (s ∈ S)))) w) : wpList Try.prog ops Q (o :: rest) a w := by
  refine wpList_look hg m x 69 hop 4 key9 Try.underlying69 (zero4 _) hm h (.string s) (.string s.data.toList) hx (Go.WideMaps.keyOf_string_mk Try.underlying9 hlen) ?_
  rw [keyB_at]
  by_cases hs : s ∈ S
  · simpa [setB, hs] using hK
  · simpa [setB, hs] using hK
theorem set_look_w (hw : Region.wanted o (yielded ops a.tmps) = true) (m x : Operand) (hop : o.op = Op.lookup 69 m x false) {b n : Nat} {S : List ByteArray} (hm : a.eval m = .map (some b)) (h : SetIs w b n S) (s : ByteArray) (hx : a.eval x = .string s) (hlen : s.size ≤ maxLen)
    (hK : wpList Try.prog ops Q rest (a.put o.dst (.bool (decide (s ∈ S)))) w) : wpList Try.prog ops Q (o :: rest) a w := by
  refine wpList_look_w hw m x 69 hop 4 key9 Try.underlying69 (zero4 _) hm h (.string s) (.string s.data.toList) hx (Go.WideMaps.keyOf_string_mk Try.underlying9 hlen) ?_
  rw [keyB_at]
  by_cases hs : s ∈ S
  · simpa [setB, hs] using hK
  · simpa [setB, hs] using hK
/-- 'set[name] = true'. -/
theorem set_put (hg : o.guard = none) (m x v : Operand) (hop : o.op = Op.mapUpdate 69 m x v) {b n : Nat} {S : List ByteArray} (hm : a.eval m = .map (some b)) (h : SetIs w b n S) (hn : n < maxLen) (s : ByteArray) (hx : a.eval x = .string s) (hv : a.eval v = .bool true) (hlen : s.size ≤ maxLen)
    (hK : ∀ w', SetIs w' b (n + 1) (S ++ [s]) → w.grownBy w' (some b) → wpList Try.prog ops Q rest (a.put o.dst undef) w') : wpList Try.prog ops Q (o :: rest) a w := by
  refine wpList_put hg m x v 69 hop 4 key9 Try.underlying69 hm h hn (.string s) (.string s.data.toList) (key_lit _) (.bool true) hx hv (Go.WideMaps.keyOf_string_mk Try.underlying9 hlen) (fun w' h1 h2 => hK w' ?_ h2)
  rw [upd_keyB] at h1
  refine h1.congr fun l => ?_
  cases l with
  | string l =>
    simp only [keyB, ofStr, setB, List.mem_append, List.mem_singleton]
    by_cases h1 : (⟨l.toArray⟩ : ByteArray) = s
    · simp [h1]
    · simp [h1]
  | _ => rfl
end

/-- A row of strings of the call's own. -/
def SRow (w : World) (base : Nat) (v : Value) (xs : List ByteArray) : Prop := w.ownsRow base 9 1 v xs.length (xs.map Value.string)
theorem SRow.nil (w : World) (base : Nat) : SRow w base (.slice none 0 0) [] := own_nil _ _ _ _
theorem SRow.below {w w' : World} {base : Nat} {v : Value} {xs : List ByteArray} (h : SRow w base v xs) (hb : Below w.heap.size w w') : SRow w' base v xs := pw_own_below h hb
theorem SRow.reads {w : World} {base : Nat} {v : Value} {xs : List ByteArray} (h : SRow w base v xs) : ∃ A c, v = .slice A xs.length c ∧ xs.length ≤ c ∧ Kd.string.C w A xs.length xs := by
  have := Kd.R_of_own (enc := Value.string) (h1 := fun _ => rfl) (ok := fun _ => True) h (fun _ _ => trivial)
  exact Kd.R_reads this

section
variable {w : World} {ops : Array Oper} {rest : List Oper} {o : Oper} {a : Act} {Q : Exit → Act → World → Prop}
/-- 'append(row, name)'. -/
theorem srow_append {W : World} (base : Nat) (hgd : o.guard = none) (s x : Operand) (ho : o.op = .call { callee := .builtin .append, args := #[s, x], argTypes := #[23, 23] }) {v : Value} {xs : List ByteArray} (hs : a.eval s = v) (y : ByteArray) (hx : a.eval x = .slice (some ⟨W.heap.size, 0, none⟩) 1 1)
    (HO : SRow W base v xs) (hl : xs.length ≤ 8000000) (hbase : base ≤ W.heap.size)
    (hK : ∀ A c w', SRow w' base (.slice A (xs.length + 1) c) (xs ++ [y]) → W.grownBy w' v.ownBlock → ((Value.slice A (xs.length + 1) c).ownBlock = v.ownBlock ∨ ∃ k, (Value.slice A (xs.length + 1) c).ownBlock = some k ∧ W.heap.size ≤ k) → wpList Try.prog ops Q rest (a.put o.dst (.slice A (xs.length + 1) c)) w') :
    wpList Try.prog ops Q (o :: rest) a (W.alloc (.cells #[.string y] 9)) := by
  obtain ⟨i0, hi, hzz⟩ := Option.map_eq_some_iff.1 info9
  simp only [Prod.mk.injEq] at hzz
  obtain ⟨hz0, hz1, hz2⟩ := hzz
  refine wpList_append_own_at (W.alloc (.cells #[.string y] 9)) hgd s x 23 ho base 9 i0 (.string ⟨#[]⟩) 1 16 Try.underlying23 hi hz0 hz1 hz2 rfl (by omega) v xs.length (xs.map Value.string) hs (HO.alloc _) ⟨W.heap.size, 0, none⟩ 1 1 [.string y] hx rfl
    (World.news_of_block (cs := #[.string y]) (t := 9) (fr := (0, 0)) (heap_alloc_new W _)) (by simp [Value.oneCell']) (by simp only [maxLen]; omega) (by omega) (by simp; omega) ?_
  intro v1 w1 hown hg _ hat
  obtain ⟨A, c, rfl⟩ := own_slice hown
  refine hK A c w1 ?_ (World.grownBy.trans (World.grownBy_alloc W _ _) hg) ?_
  · rw [SRow, List.length_append, List.map_append]
    exact hown
  · rcases hat with hat | hat
    · exact .inl hat
    · exact .inr ⟨_, hat, by simp⟩
/-- 'append(row, names...)'. -/
theorem srow_appendAll {W : World} (base : Nat) (hgd : o.guard = none) (s x : Operand) (ho : o.op = .call { callee := .builtin .append, args := #[s, x], argTypes := #[23, 23] }) {v : Value} {xs ys : List ByteArray} {A : Option Addr} {c : Nat} (hs : a.eval s = v) (hx : a.eval x = .slice A ys.length c)
    (HO : SRow W base v xs) (HR : Kd.string.C W A ys.length ys) (hl : xs.length + ys.length ≤ 8000000) (hbase : base ≤ W.heap.size)
    (hK : ∀ A' c' w', SRow w' base (.slice A' (xs.length + ys.length) c') (xs ++ ys) → W.grownBy w' v.ownBlock → ((Value.slice A' (xs.length + ys.length) c').ownBlock = v.ownBlock ∨ ∃ k, (Value.slice A' (xs.length + ys.length) c').ownBlock = some k ∧ W.heap.size ≤ k) → wpList Try.prog ops Q rest (a.put o.dst (.slice A' (xs.length + ys.length) c')) w') :
    wpList Try.prog ops Q (o :: rest) a W := by
  refine Kd.R_append_row (w0 := W) Value.string ByteArray.empty (h1 := fun _ => rfl) base hgd s x 23 9 (.string ⟨#[]⟩) 16 ho Try.underlying23 info9 rfl (by omega) v xs ys A ys.length c (fun _ => True) hs hx (fun _ _ => trivial)
    (Kd.R_of_own HO (fun _ _ => trivial)) HR ((Below.refl _ _).mono hbase) hbase (by omega) ?_
  intro v1 w1 hR _ hg hat
  have hown := Kd.own_of_R hR
  obtain ⟨A', c', rfl⟩ := own_slice hown
  rw [List.length_append] at hown hat
  have hown2 : w1.ownsRow base 9 1 (.slice A' (xs.length + ys.length) c') (xs ++ ys).length (encs Value.string (xs ++ ys)) := by rw [List.length_append]; exact hown
  rw [List.length_append]
  exact hK A' c' w1 hown2 hg hat
end
theorem SRow.shape {w : World} {base : Nat} {v : Value} {xs : List ByteArray} (h : SRow w base v xs) : ∃ A c, v = .slice A xs.length c := own_slice h
theorem SRow.take {w : World} {base n c : Nat} {A : Option Addr} {xs : List ByteArray} (h : SRow w base (.slice A n c) xs) {m : Nat} (hm : m ≤ xs.length) : SRow w base (.slice A m c) (xs.take m) := by
  have h1 := Kd.R_of_own (enc := Value.string) (h1 := fun _ => rfl) (ok := fun _ => True) h (fun _ _ => trivial)
  exact Kd.own_of_R (Kd.R_take h1 hm)
theorem slice_take (A : Option Addr) (n c m : Nat) (hm : m ≤ c) : ∀ W, (Instr.slice 23 (.slice A n c) none (some (.int .i64 (m : Int))) none).run Try.prog W = .ok (.slice A m c) W := by
  intro W
  obtain ⟨i0, hi, hzz⟩ := Option.map_eq_some_iff.1 info9
  simp only [Prod.mk.injEq] at hzz
  obtain ⟨hz0, hz1, hz2⟩ := hzz
  have hel : Try.prog.elem 23 = 9 := by simp [Program.elem, Try.underlying23]
  have hu : Try.prog.underlying 23 = some (.slice (Try.prog.elem 23)) := by rw [hel]; exact Try.underlying23
  rw [run_slice_h W 23 A n c hu .i64 m (by omega) (by omega), hel]
  have ha : A.map (·.add 0) = A := by cases A <;> simp [Addr.add]
  simp [sizeOf, typeInfo, hi, hz1, sliced, Result.andThen, ha]
theorem SRow.other {w w' : World} {base : Nat} {v : Value} {xs : List ByteArray} (h : SRow w base v xs) {row : Option Nat} (hg : w.grownBy w' row) (hne : v.ownBlock = none ∨ v.ownBlock ≠ row) : SRow w' base v xs := own_other h hg hne
theorem SRow.base_le {w : World} {base : Nat} {v : Value} {xs : List ByteArray} (h : SRow w base v xs) (k : Nat) (hk : v.ownBlock = some k) : base ≤ k := own_base h k hk
theorem SRow.alloc {w : World} {base : Nat} {v : Value} {xs : List ByteArray} (h : SRow w base v xs) (o : Obj) : SRow (w.alloc o) base v xs := h.below (below_alloc (Below.refl _ _) o)

/-- How many names a list holds. -/
def tot : Net ByteArray → Nat
  | [] => 0
  | v :: l => 1 + v.2.length + tot l
/-- The lists are of a size that memory bears. -/
structure Fit (l : List S41) (want hv : List ByteArray) : Prop where
  tot_ : tot (netOf l) ≤ 3000000
  want_ : want.length ≤ 3000000
  hv_ : hv.length ≤ 3000000
  names : ∀ v ∈ l, v.f0.size ≤ maxLen
  uses : ∀ v ∈ l, ∀ u ∈ v.f1, u.size ≤ maxLen
  wants : ∀ u ∈ want, u.size ≤ maxLen
  havs : ∀ u ∈ hv, u.size ≤ maxLen
end Go.Proofs.Ytdllpgeagdckmaa.Q

/- A set's names, sorted; a set, cloned: the library's contracts at this dump. -/
namespace Go.Proofs.Ytdllpgeagdckmaa.Q
open Go.RowKit Go.Maps Go.Sort Go.Shelf Go.Proofs.YtdllpgeagdckmaaW.PrintWords Go.Proofs.Ytdllpgeagdckmaa.MapKit Go.Proofs.Ytdllpgeagdckmaa.Ord
set_option linter.unusedVariables false
set_option linter.unusedSimpArgs false

theorem sorts37 (m : Nat) : AnyZ.SortsIn Try.prog Try.sorted37_ren Fence.wide m :=
  ⟨fun blk off cap ss W hH hblk hsz => callsIn_wide.2 (AnyM.slices_Sort_string Try.sort30 blk off cap ss W hH hblk hsz),
   fun p cap W => callsIn_wide.2 (AnyM.slices_Sort_string_none Try.sort30 p cap W)⟩

/-- maps.Keys. -/
theorem keys_calls (mb : Option Nat) (W : World) : Calls Try.prog 38 #[.map mb] W fun e w' => e = .returned (.func (.func 45) #[] #[.pointer (some ⟨W.heap.size, 0, none⟩)]) ∧ w' = W.alloc (.cells #[.map mb] 69) :=
  (callsIn_wide (n := 5)).1 (AnyZ.keys_in Try.keys38 Fence.wide 5 trivial rfl mb W)

set_option maxHeartbeats 1000000 in
/-- slices.Sorted at what maps.Keys handed back. -/
theorem sorted_owns {H : Type} (b nn : Nat) (D0 : DataW H) (R : Value → Option (DataW H × List MemPlace)) (w : World) (hown : w.ownsMap Try.prog 9 R b nn D0) (hmax : Maps.size D0 ≤ maxLen) (hbytes : Maps.size D0 * 16 ≤ 140737488355328) :
    Calls Try.prog 37 #[.func (.func 45) #[] #[.pointer (some ⟨w.heap.size, 0, none⟩)]] (w.alloc (.cells #[.map (some b)] 69)) fun e w' => ∃ (v : Value) (ss : List (List UInt8)), e = .returned v ∧ ss.Perm (strKeys D0) ∧
      w'.ownsRow (w.alloc (.cells #[.map (some b)] 69)).heap.size 9 1 v ss.length ((ss.mergeSort (fun x y => decide (x ≤ y))).map encStr) ∧ (v = .slice none 0 0 ↔ ss = []) ∧ Below (w.alloc (.cells #[.map (some b)] 69)).heap.size (w.alloc (.cells #[.map (some b)] 69)) w' := by
  have hbl := hown.lt
  have hseq : SeqGives Fence.wide 2 Try.prog 45 #[.pointer (some ⟨w.heap.size, 0, none⟩)] encStr (fun ss => ss.Perm (strKeys D0)) (Maps.size D0) (w.alloc (.cells #[.map (some b)] 69)) :=
    AnyZ.keys_gives (ρ := Try.keys38_ren) { Try.keys38 with } Fence.wide _ trivial rfl (by omega) w.heap.size b nn D0 _ (by simp) (by simp) (by
      obtain ⟨es, clock, hb, Ft, hs, hD⟩ := hown
      exact ⟨es, clock, (Below.heap_alloc _ _ b hbl).trans hb, Ft, hs, hD⟩)
  exact (callsIn_wide (n := 5)).1 (AnyZ.sorted_in Try.sorted37 Fence.wide 5 trivial trivial trivial trivial rfl (by omega) (sorts37 _) (enters_of Try.func30 (by kernel_rfl) rfl) 45 #[.pointer (some ⟨w.heap.size, 0, none⟩)] trivial (enters_of Try.func45 (by kernel_rfl) rfl) _ _ hmax hbytes _ hseq)

def sortL (S : List ByteArray) : List (List UInt8) := (S.map (·.data.toList)).mergeSort leB
/-- The names of a list, rising. -/
def sortB (S : List ByteArray) : List ByteArray := (sortL S).map fun l => ⟨l.toArray⟩
theorem mem_sortB {S : List ByteArray} {x : ByteArray} : x ∈ sortB S ↔ x ∈ S := by
  unfold sortB sortL
  rw [List.mem_map]
  constructor
  · rintro ⟨l, hl, rfl⟩
    rw [List.mem_mergeSort, List.mem_map] at hl
    obtain ⟨s, hs, rfl⟩ := hl
    rwa [Array.toArray_toList]
  · intro h
    exact ⟨x.data.toList, by rw [List.mem_mergeSort, List.mem_map]; exact ⟨x, h, rfl⟩, by rw [Array.toArray_toList]⟩
theorem sortB_length (S : List ByteArray) : (sortB S).length = S.length := by simp [sortB, sortL]
theorem sortB_rising {S : List ByteArray} (h : S.Nodup) : (sortB S).Pairwise (fun a b => ltN a b = true) := by
  have tr : ∀ a b c : List UInt8, leB a b = true → leB b c = true → leB a c = true := fun a b c h1 h2 => by simp only [leB, decide_eq_true_eq] at *; exact List.le_trans h1 h2
  have tl : ∀ a b : List UInt8, (leB a b || leB b a) = true := fun a b => by simp only [leB, Bool.or_eq_true, decide_eq_true_eq]; exact List.le_total a b
  have h1 := List.pairwise_mergeSort tr tl (S.map (·.data.toList))
  have h2 : ((S.map (·.data.toList)).mergeSort leB).Nodup := (List.mergeSort_perm _ _).nodup_iff.2 (List.pairwise_map.2 (h.imp fun hne e => hne (bytes_ext e)))
  refine List.pairwise_map.2 ((h1.and h2).imp fun {a b} ⟨hle, hne⟩ => ?_)
  rw [ltN_iff]
  refine decide_eq_true ?_
  simp only [leB, decide_eq_true_eq] at hle
  rcases Classical.em (a < b) with hlt | hlt
  · simpa using hlt
  · exact absurd (List.le_antisymm hle (List.not_lt.1 hlt)) hne
theorem sortB_nodup {S : List ByteArray} (h : S.Nodup) : (sortB S).Nodup := (sortB_rising h).imp fun {a b} hl e => by rw [e, totN.irr] at hl; cases hl

/-- slices.Sorted(maps.Keys(set)). -/
theorem sorted_set (w : World) (g n : Nat) (S : List ByteArray) (h : SetIs w g n S) (hnd : S.Nodup) (hn : n ≤ 8000000) :
    Calls Try.prog 37 #[.func (.func 45) #[] #[.pointer (some ⟨w.heap.size, 0, none⟩)]] (w.alloc (.cells #[.map (some g)] 69)) fun e w' => ∃ v, e = .returned v ∧ SRow w' w.heap.size v (sortB S) ∧ Below w.heap.size w w' := by
  obtain ⟨D, ho, hD⟩ := h
  have hsz := ho.size_le
  refine (sorted_owns g n D _ w ho (by unfold maxLen; omega) (by omega)).mono ?_
  rintro e w' ⟨v, ss, rfl, hp, hr, _, hb⟩
  obtain ⟨es, hDe, hpw, _⟩ := ho.entries key9
  obtain ⟨es', hDe', hko⟩ := ho.keysOf
  obtain rfl : es = es' := by rw [hDe] at hDe'; simpa using hDe'
  have hperm : (S.map (·.data.toList)).Perm (strKeys D) := by
    subst hDe
    refine perm_strKeys hpw (fun p hp => by obtain ⟨v, hv⟩ := hko p hp; obtain ⟨x, _, hx, _⟩ := Maps.keyOf_str Try.underlying9 hv; exact ⟨x, hx⟩) (List.pairwise_map.2 (hnd.imp fun hne e => hne (bytes_ext e))) (fun x => ?_)
    rw [hD.2, keyB, ofStr, setB, List.mem_map]
    by_cases hx : (⟨x.toArray⟩ : ByteArray) ∈ S
    · simp only [hx, if_true, Option.isSome_some, iff_true]
      exact ⟨_, hx, rfl⟩
    · simp only [hx, if_false, Option.isSome_none, Bool.false_eq_true, iff_false]
      rintro ⟨s, hs, rfl⟩
      exact hx (by rwa [Array.toArray_toList])
  have hss : ss.mergeSort leB = sortL S := mergeSort_of_perm (hp.trans hperm.symm)
  have hlen : ss.length = (sortB S).length := by rw [sortB_length, (hp.trans hperm.symm).length_eq, List.length_map]
  refine ⟨v, rfl, ?_, (below_alloc (Below.refl _ _) _).trans (hb.mono (by simp))⟩
  have e1 : (ss.mergeSort (fun x y => decide (x ≤ y))).map encStr = (sortB S).map Value.string := by
    rw [show ss.mergeSort (fun x y => decide (x ≤ y)) = sortL S from hss, sortB, List.map_map]
    rfl
  rw [e1, hlen] at hr
  exact own_weaken hr (by simp)

/-- maps.Clone(set). -/
theorem clone_set (w : World) (g n : Nat) (S : List ByteArray) (h : SetIs w g n S) :
    Calls Try.prog 39 #[.map (some g)] w fun e w' => e = .returned (.map (some w.heap.size)) ∧ SetIs w' w.heap.size n S ∧ Below w.heap.size w w' := by
  obtain ⟨D, ho, hD⟩ := h
  exact (AnyW.maps_Clone_owns Try.clone39 9 _ g n D w ho).mono fun e w' ⟨he, h1, _, hb⟩ => ⟨he, ⟨D, h1, hD⟩, hb⟩

theorem plain_of_cell {w : World} {a : Addr} {v : Value} (h : w.cell? a = some v) : a = ⟨a.block, a.off, none⟩ := by
  obtain ⟨b, o, s⟩ := a
  cases s with
  | none => rfl
  | some s =>
    unfold World.cell? at h
    simp only [Option.isSome_some, if_true] at h
    split at h <;> cases h

theorem names_cells {w : World} {A : Option Addr} {xs : List ByteArray} (h : Kd.string.C w A xs.length xs) (hn : 0 < xs.length) : ∃ b off, A = some ⟨b, off, none⟩ ∧ ∀ j, j < xs.length → w.cell? ⟨b, off + j, none⟩ = some (.string (xs.getD j ByteArray.empty)) := by
  obtain ⟨ad, rfl, hc⟩ := h.2.2 hn
  have hcell : ∀ j, j < xs.length → w.cell? (ad.add j) = some (.string (xs.getD j ByteArray.empty)) := fun j hj => by
    obtain ⟨c, hl, hR, hu⟩ := hc j _ (List.getElem?_eq_getElem hj)
    have hsz : Kd.string.sz = 1 := rfl
    have hR' : c = [.string xs[j]] := hR
    subst hR'
    have := hu 0 _ rfl
    rw [hsz, Nat.mul_one, Nat.add_zero] at this
    rw [this, List.getD_eq_getElem?_getD, List.getElem?_eq_getElem hj, Option.getD_some]
  have h0 := hcell 0 hn
  have e0 : ad.add 0 = ad := by simp [Addr.add]
  rw [e0] at h0
  have hp := plain_of_cell h0
  refine ⟨ad.block, ad.off, by rw [← hp], fun j hj => ?_⟩
  have := hcell j hj
  rw [hp] at this
  unfold Addr.add at this
  split at this
  · rename_i hj0
    subst hj0
    exact this
  · exact this

/-- slices.Clone of names. -/
theorem clone_names (w : World) (A : Option Addr) (c : Nat) (xs : List ByteArray) (h : Kd.string.C w A xs.length xs) (hl : xs.length ≤ 3000000) :
    Calls Try.prog 36 #[.slice A xs.length c] w fun e w' => ∃ v, e = .returned v ∧ SRow w' w.heap.size v xs ∧ Below w.heap.size w w' := by
  rcases Nat.eq_zero_or_pos xs.length with h0 | h0
  · obtain rfl := List.eq_nil_of_length_eq_zero h0
    cases A with
    | none => exact (Try.slices_Clone_string_nil 0 c w).mono fun e w' ⟨he, hw⟩ => ⟨_, he, SRow.nil _ _, by rw [hw]; exact Below.refl _ _⟩
    | some ad => exact (Try.slices_Clone_string_zero ad c w).mono fun e w' ⟨v, he, ho, _, hb⟩ => ⟨v, he, ho, hb⟩
  · obtain ⟨b, off, rfl, hc⟩ := names_cells h h0
    refine (Try.slices_Clone_string b off xs.length c xs w (Nat.le_refl _) (by omega) hc).mono ?_
    rintro e w' ⟨v, rfl, ho, _, hb⟩
    rw [List.take_length] at ho
    exact ⟨v, rfl, ho, hb⟩

theorem minS_mn (x y : ByteArray) : Lib.minS x y = mnO ltN x y := by
  unfold Lib.minS mnO
  rw [ltN_iff]
  by_cases h1 : y.data.toList < x.data.toList
  · have h2 : ¬ x.data.toList < y.data.toList := fun h => List.lt_irrefl _ (List.lt_trans h h1)
    have h3 : ¬ x.data.toList = y.data.toList := fun h => List.lt_irrefl _ (by rw [h] at h1; exact h1)
    rw [if_neg (by rintro (h | h); exact h2 h; exact h3 h), if_pos (decide_eq_true h1)]
  · have h2 : x.data.toList < y.data.toList ∨ x.data.toList = y.data.toList := by
      rcases Classical.em (x.data.toList < y.data.toList) with h | h
      · exact .inl h
      · exact .inr (List.le_antisymm (List.not_lt.1 h1) (List.not_lt.1 h))
    rw [if_pos h2, if_neg (by simpa using h1)]
theorem foldl_leastO : ∀ (xs : List ByteArray) (a : ByteArray), xs.foldl Lib.minS a = leastO ltN a xs
  | [], a => rfl
  | x :: xs, a => by rw [List.foldl_cons, foldl_leastO xs, leastO, minS_mn]
theorem minOf_is (xs : List ByteArray) (a : ByteArray) : IsLeast ltN (· ∈ a :: xs) (Lib.minOfS (a :: xs)) := by
  have e : Lib.minOfS (a :: xs) = leastO ltN a xs := by
    unfold Lib.minOfS
    rw [List.foldl_cons, List.headD_cons, minS_mn, foldl_leastO]
    congr 1
    unfold mnO
    rw [totN.irr]
    rfl
  rw [e]
  exact leastO_is totN xs a

/-- slices.Min of names. -/
theorem min_names (w : World) (A : Option Addr) (c : Nat) (xs : List ByteArray) (h : Kd.string.C w A xs.length xs) (hl : xs.length ≤ 9000000) (hn : 0 < xs.length) :
    Calls Try.prog 20 #[.slice A xs.length c] w fun e w' => ∃ m, e = .returned (.string m) ∧ IsLeast ltN (· ∈ xs) m ∧ w = w' := by
  obtain ⟨b, off, rfl, hc⟩ := names_cells h hn
  refine (Try.slices_Min_string b off xs.length c xs w hn (Nat.le_refl _) (by omega) hc).mono ?_
  rintro e w' ⟨rfl, rfl⟩
  rw [List.take_length]
  cases xs with
  | nil => simp at hn
  | cons x xs => exact ⟨_, rfl, minOf_is xs x, rfl⟩
end Go.Proofs.Ytdllpgeagdckmaa.Q

/- order.twice: the least name that stands twice, or uses one twice. -/
namespace Go.Proofs.Ytdllpgeagdckmaa.Q
open Go.RowKit Go.Proofs.YtdllpgeagdckmaaW.PrintWords Go.Proofs.YtdllpgeagdckmaaW.PrintLast Go.Proofs.YtdllpgeagdckmaaW.PrintMore Go.Proofs.Ytdllpgeagdckmaa.MapKit Go.Maps Go.Proofs.Ytdllpgeagdckmaa.Ord
attribute [local go_sem] max2_int min2_int max_two min_two max_three min_three max_four min_four
set_option linter.unusedVariables false
set_option linter.unusedSimpArgs false

theorem dupUses_snoc (nm u : ByteArray) : ∀ (us s : List ByteArray), dupUses nm s (us ++ [u]) = dupUses nm s us ++ (if u ∈ s ++ us then [nm] else [])
  | [], s => by simp [dupUses]
  | a :: us, s => by
    rw [List.cons_append, dupUses, dupUses, dupUses_snoc nm u us, List.append_assoc, List.append_assoc]
    simp
theorem badsFrom_snoc (v : ByteArray × List ByteArray) : ∀ (l : Net ByteArray) (s : List ByteArray), badsFrom s (l ++ [v]) = badsFrom s l ++ ((if v.1 ∈ s ++ l.map (·.1) then [v.1] else []) ++ dupUses v.1 [] v.2)
  | [], s => by simp [badsFrom]
  | a :: l, s => by
    rw [List.cons_append, badsFrom, badsFrom, badsFrom_snoc v l, List.map_cons]
    simp only [List.append_assoc, List.cons_append, List.nil_append]
theorem dupUses_length (nm : ByteArray) : ∀ (us s : List ByteArray), (dupUses nm s us).length ≤ us.length
  | [], s => by simp [dupUses]
  | a :: us, s => by
    rw [dupUses, List.length_append, List.length_cons]
    have := dupUses_length nm us (s ++ [a])
    split <;> simp <;> omega
theorem badsFrom_length : ∀ (l : Net ByteArray) (s : List ByteArray), (badsFrom s l).length ≤ tot l
  | [], s => by simp [badsFrom]
  | a :: l, s => by
    rw [badsFrom, List.length_append, List.length_append, tot]
    have h1 := badsFrom_length l (s ++ [a.1])
    have h2 := dupUses_length a.1 a.2 []
    split <;> simp <;> omega
theorem tot_append : ∀ (l l' : Net ByteArray), tot (l ++ l') = tot l + tot l'
  | [], l' => by simp [tot]
  | a :: l, l' => by rw [List.cons_append, tot, tot, tot_append l l']; omega
theorem tot_take (l : Net ByteArray) (i : Nat) : tot (l.take i) ≤ tot l := by
  have := tot_append (l.take i) (l.drop i)
  rw [List.take_append_drop] at this
  omega
theorem tot_uses {l : Net ByteArray} {i : Nat} (h : i < l.length) : tot (l.take i) + 1 + (l[i]).2.length ≤ tot l := by
  have h1 := tot_append (l.take i) (l.drop i)
  rw [List.take_append_drop, List.drop_eq_getElem_cons h, tot] at h1
  omega

theorem tot_ge : ∀ l : Net ByteArray, l.length ≤ tot l
  | [] => Nat.le_refl _
  | a :: l => by
    have := tot_ge l
    rw [tot, List.length_cons]
    omega
/-- The i-th vocabulary's cells. -/
theorem vocab_at {w : World} {A : Option Addr} {l : List S41} (h : Kd.C k41 w A l.length l) (i : Nat) (hi : i < l.length) : ∃ ad A1 c1, A = some ad ∧ w.cell? (ad.add (i * 2)) = some (.string l[i].f0) ∧ w.cell? ⟨(ad.add (i * 2)).block, (ad.add (i * 2)).off + 1, none⟩ = some (.slice A1 l[i].f1.length c1) ∧ l[i].f1.length ≤ c1 ∧ Kd.string.C w A1 l[i].f1.length l[i].f1 := by
  obtain ⟨ad, A1, c1, e, h1, h2, h3, h4⟩ := at_T41 h (i : Int) (by omega) (by omega)
  have er : rd_T41 l (i : Int) = l[i] := by simp [rd_T41, List.getD_eq_getElem?_getD, List.getElem?_eq_getElem hi]
  rw [er] at h1 h2 h3 h4
  exact ⟨ad, A1, c1, e, by simpa using h1, by simpa using h2, h3, h4⟩
/-- The j-th name's cell. -/
theorem name_at {w : World} {A : Option Addr} {l : List ByteArray} (h : Kd.C Kd.string w A l.length l) (j : Nat) (hj : j < l.length) : ∃ ad, A = some ad ∧ w.cell? (ad.add j) = some (.string l[j]) := by
  obtain ⟨ad, e, h1⟩ := Kd.at_string h (j : Int) (by omega) (by omega)
  refine ⟨ad, e, ?_⟩
  have er : rdOf ByteArray.empty l (j : Int) = l[j] := by simp [rdOf, List.getD_eq_getElem?_getD, List.getElem?_eq_getElem hj]
  rw [er] at h1
  simpa using h1

def TwiceP (l : List S41) (w : World) (e : Ending) (w' : World) : Prop :=
  ((bads (netOf l) = [] ∧ e = .returned (.tuple #[.string ⟨#[]⟩, .bool false])) ∨ ∃ m, IsLeast ltN (· ∈ bads (netOf l)) m ∧ e = .returned (.tuple #[.string m, .bool true])) ∧ Below w.heap.size w w'

/-- What is known between two rounds. -/
structure TwRel (w w' : World) (g : Nat) (v5 : Value) (bad names : List ByteArray) (n : Nat) : Prop where
  row : SRow w' w.heap.size v5 bad
  set : SetIs w' g n names
  below : Below w.heap.size w w'

theorem TwRel.appended {w w2 w5 : World} {g : Nat} {v5 v5' : Value} {bad names : List ByteArray} {n : Nat} {x : ByteArray} (h : TwRel w w2 g v5 bad names n) (hr : SRow w5 w.heap.size v5' (bad ++ [x])) (hg : w2.grownBy w5 v5.ownBlock) : TwRel w w5 g v5' (bad ++ [x]) names n :=
  ⟨hr, h.set.kept hg (map_ne_row h.set h.row), pw_below_grown h.below _ h.below.size hg (h.row.base_le)⟩
theorem TwRel.alloc {w w2 : World} {g : Nat} {v5 : Value} {bad names : List ByteArray} {n : Nat} (h : TwRel w w2 g v5 bad names n) (o : Obj) : TwRel w (w2.alloc o) g v5 bad names n :=
  ⟨h.row.alloc o, h.set.below (below_alloc (Below.refl _ _) o), below_alloc h.below o⟩
theorem TwRel.put {w w2 w5 : World} {g : Nat} {v5 : Value} {bad names : List ByteArray} {n : Nat} {x : ByteArray} (h : TwRel w w2 g v5 bad names n) (hs : SetIs w5 g (n + 1) (names ++ [x])) (hg : w2.grownBy w5 (some g)) (hge : w.heap.size ≤ g) : TwRel w w5 g v5 bad (names ++ [x]) (n + 1) :=
  ⟨h.row.other hg (.inr (map_ne_row h.set h.row)), hs, pw_below_grown h.below _ h.below.size hg (fun k e => by cases e; exact hge)⟩
theorem TwRel.far {w w2 w5 : World} {g g8 : Nat} {v5 : Value} {bad names : List ByteArray} {n m : Nat} {S : List ByteArray} (h : TwRel w w2 g v5 bad names n) (hs : SetIs w2 g8 m S) (hg : w2.grownBy w5 (some g8)) (hne : g ≠ g8) (hge : w.heap.size ≤ g8) : TwRel w w5 g v5 bad names n :=
  ⟨h.row.other hg (.inr (map_ne_row hs h.row)), h.set.kept hg (fun e => hne (Option.some.inj e).symm), pw_below_grown h.below _ h.below.size hg (fun k e => by cases e; exact hge)⟩
theorem row_blk {w2 w5 : World} {base b t : Nat} {v : Value} {xs : List ByteArray} {cs : Array Value} (hr : SRow w2 base v xs) (hg : w2.grownBy w5 v.ownBlock) (hb : w2.heap[b]? = some (.cells cs t (0, 0))) (ht : t ≠ 9) : w5.heap[b]? = some (.cells cs t (0, 0)) :=
  blk_grown hb hg (fun e => by
    obtain ⟨cs', hc⟩ := own_typed hr b e.symm
    rw [hb] at hc
    simp at hc
    exact ht hc.2)

set_option maxHeartbeats 4000000 in
set_option maxRecDepth 100000 in
theorem twice_calls (w : World) (A : Option Addr) (c : Nat) (l : List S41) (hC : Kd.C k41 w A l.length l) (hc : l.length ≤ c) (htot : tot (netOf l) ≤ 3000000) (hnm : ∀ v ∈ l, v.f0.size ≤ maxLen) (hus : ∀ v ∈ l, ∀ u ∈ v.f1, u.size ≤ maxLen) :
    Calls Try.prog 17 #[.slice A l.length c] w (TwiceP l w) := by
  have HC := Aside0.mk hC
  have HNM := Aside0.mk hnm
  have HUS := Aside0.mk hus
  have HTOT := Aside0.mk htot
  clear hC hnm hus htot
  have hmm := @run_makeMap Try.prog
  go_enter Try.func17, Try.ntmps17
  go_upto_region 3 with fail
  have h0 : TwRel w (w.alloc (.map #[] 0)) w.heap.size (.slice none 0 0) [] [] 0 := ⟨SRow.nil _ _, SetIs.made w, below_alloc (Below.refl _ _) _⟩
  generalize w.alloc (.map #[] 0) = w1 at *
  obtain ⟨g, hg⟩ : ∃ g, g = w.heap.size := ⟨_, rfl⟩
  rw [← hg] at h0 ⊢
  have HG := Aside0.mk hg
  have H0 := Aside0.mk h0
  clear hg h0
  go_wp2
  go_loopg [5, 14] (l.length + 1) (fun kq v5 v14 w' => ∃ i : Nat, v14 = .int .i64 (i : Int) ∧ Aside0 (i ≤ l.length) ∧ Aside0 (kq + i = l.length + 1) ∧ Aside0 (TwRel w w' g v5 (badsFrom [] ((netOf l).take i)) (((netOf l).take i).map (·.1)) i))
  case atStart => exact ⟨0, rfl, ⟨Nat.zero_le _⟩, ⟨by omega⟩, H0⟩
  case round =>
    clear H0
    obtain ⟨i, rfl, HI, HK, HT⟩ := hrel
    have hi := HI.out
    have hk := HK.out
    by_cases hlt : i < l.length
    · have hz : decide ((i : Int) < (l.length : Int)) = true := decide_eq_true (by omega)
      obtain ⟨k1, rfl⟩ : ∃ k1, gk = k1 + 1 := ⟨gk - 1, by omega⟩
      have hT := HT.out
      obtain ⟨bad, hbad⟩ : ∃ x, x = badsFrom [] ((netOf l).take i) := ⟨_, rfl⟩
      obtain ⟨nm, hnm⟩ : ∃ x, x = ((netOf l).take i).map (·.1) := ⟨_, rfl⟩
      rw [← hbad, ← hnm] at hT
      have hbl : bad.length ≤ tot ((netOf l).take i) := by rw [hbad]; exact badsFrom_length _ _
      have HBAD := Aside0.mk hbad
      have HNMS := Aside0.mk hnm
      clear HT hbad hnm
      obtain ⟨Av, cv, rfl⟩ := hT.row.shape
      have HT := Aside0.mk hT
      clear hT
      obtain ⟨ad, A1, c1, rfl, z0, z1, hc1, hC1⟩ := vocab_at HC.out i hlt
      obtain ⟨v, hv⟩ : ∃ v, v = l[i] := ⟨_, rfl⟩
      rw [← hv] at z0 z1 hc1 hC1
      have x0 := pw_cell_below HT.out.below z0
      have x1 := pw_cell_below HT.out.below z1
      clear z0 z1
      have hmem : v ∈ l := by rw [hv]; exact List.getElem_mem hlt
      have hnet : (netOf l)[i]'(by simpa [netOf] using hlt) = (v.f0, v.f1) := by simp [netOf, hv]
      have hti : (netOf l).take (i + 1) = (netOf l).take i ++ [(v.f0, v.f1)] := by rw [List.take_succ_eq_append_getElem (by simpa [netOf] using hlt), hnet]
      have htu : tot ((netOf l).take i) + 1 + v.f1.length ≤ tot (netOf l) := by
        have := tot_uses (l := netOf l) (i := i) (by simpa [netOf] using hlt)
        rw [hnet] at this
        exact this
      have HN0 := Aside0.mk (HNM.out v hmem)
      have HU0 := Aside0.mk (HUS.out v hmem)
      have HTI := Aside0.mk hti
      have HTU := Aside0.mk htu
      have HC1 := Aside0.mk hC1
      have HCL := Aside0.mk hc1
      clear hmem hnet hti htu hC1 hc1 hv hi
      have HBL := Aside0.mk hbl
      have hil : i + 1 ≤ 3000000 := by
        have h1 := tot_ge (netOf l)
        have h2 : (netOf l).length = l.length := by simp [netOf]
        have := HTOT.out
        omega
      have HIL := Aside0.mk hil
      clear hbl
      go_upto_region 6 with fail
      have hT2 := HT.out.alloc (.cells #[.string v.f0, .slice A1 v.f1.length c1] 41)
      have hb7 : (wr.alloc (.cells #[.string v.f0, .slice A1 v.f1.length c1] 41)).heap[wr.heap.size]? = some (.cells #[.string v.f0, .slice A1 v.f1.length c1] 41 (0, 0)) := heap_alloc_new _ _
      generalize wr.alloc (.cells #[.string v.f0, .slice A1 v.f1.length c1] 41) = w2 at *
      obtain ⟨b7, hb7'⟩ : ∃ b7, b7 = wr.heap.size := ⟨_, rfl⟩
      rw [← hb7'] at hb7 ⊢
      clear hb7'
      have y0 : w2.cell? ⟨b7, 0, none⟩ = some (.string v.f0) := (blk_cell hb7 0).trans rfl
      have HT2 := Aside0.mk hT2
      have HB7 := Aside0.mk hb7
      clear hT2 hb7 x0 x1
      go_upto_if 21 with (at_lookup; refine set_look rfl _ _ rfl rfl HT2.out.set v.f0 rfl (HN0.out) ?_)
      go_frame
      go_cut [5] (fun v5 wx => Aside0 (∃ bad1, bad1 = bad ++ (if v.f0 ∈ nm then [v.f0] else []) ∧ TwRel w wx g v5 bad1 nm i ∧ wx.heap[b7]? = some (.cells #[.string v.f0, .slice A1 v.f1.length c1] 41 (0, 0))))
      case first =>
        by_cases hd : v.f0 ∈ nm
        · have hdb : decide (v.f0 ∈ nm) = true := decide_eq_true hd
          go_wp2_with ((with_reducible refine gate_builtin (b := .append) (xs := #[.tmp 22, .tmp 25]) rfl ?_); refine srow_append w.heap.size rfl (.tmp 22) (.tmp 25) rfl rfl v.f0 rfl HT2.out.row (by have := HBL.out; have := HTU.out; have := HTOT.out; omega) HT2.out.below.size ?_; intro A5 c5 w5 hr hg hat; have HR5 := Aside0.mk hr; have HG5 := Aside0.mk hg; clear hr hg hat)
          go_meet
          exact ⟨_, (by rw [if_pos hd]), HT2.out.appended HR5.out HG5.out, row_blk HT2.out.row HG5.out HB7.out (by decide)⟩
        · have hdb : decide (v.f0 ∈ nm) = false := decide_eq_false hd
          go_wp2
          go_meet
          exact ⟨bad, by rw [if_neg hd, List.append_nil], HT2.out, HB7.out⟩
      case rest =>
        obtain ⟨bad1, hb1, hT3, hb73⟩ := hcut.out
        have HBAD1 := Aside0.mk hb1
        have HT3 := Aside0.mk hT3
        have HB73 := Aside0.mk hb73
        have y0 : wc.cell? ⟨b7, 0, none⟩ = some (.string v.f0) := (blk_cell hb73 0).trans rfl
        clear hcut hb1 hT3 hb73
        go_upto_region 9 with (at_mapUpdate; refine set_put rfl _ _ _ rfl rfl HT3.out.set (by have := HIL.out; unfold maxLen; omega) v.f0 rfl rfl (HN0.out) ?_; intro w4 hs4 hg4; have HS4 := Aside0.mk hs4; have HG4 := Aside0.mk hg4; clear hs4 hg4)
        have hT5 : TwRel w (w4.alloc (.map #[] 0)) g u5 bad1 (nm ++ [v.f0]) (i + 1) := (HT3.out.put HS4.out HG4.out (by rw [HG.out]; exact Nat.le_refl _)).alloc _
        have hb75 : (w4.alloc (.map #[] 0)).heap[b7]? = some (.cells #[.string v.f0, .slice A1 v.f1.length c1] 41 (0, 0)) := blk_alloc (blk_grown HB73.out HG4.out (fun e => map_ne_cells HT3.out.set HB73.out (Option.some.inj e))) _
        have hs5 : SetIs (w4.alloc (.map #[] 0)) w4.heap.size 0 [] := SetIs.made w4
        go_upto_region 10 with fail
        generalize w4.alloc (.map #[] 0) = w5 at *
        obtain ⟨g8, hg8⟩ : ∃ g8, g8 = w4.heap.size := ⟨_, rfl⟩
        have hne8 : g ≠ g8 := by
          have := HS4.out.lt
          omega
        have hge8 : w.heap.size ≤ g8 := by
          have h1 := HT3.out.below.size
          have h2 := HG4.out.size
          omega
        rw [← hg8] at hs5 ⊢
        have HNE8 := Aside0.mk hne8
        have HGE8 := Aside0.mk hge8
        clear hg8 y0 hne8 hge8
        have HT5 := Aside0.mk hT5
        have HB75 := Aside0.mk hb75
        have HS5 := Aside0.mk hs5
        have y1 : w5.cell? ⟨b7, 1, none⟩ = some (.slice A1 v.f1.length c1) := (blk_cell hb75 1).trans rfl
        clear hT5 hb75 hs5
        go_wp2_with fail
        go_loopg [5, 34] (v.f1.length + 1) (fun kq v5 v34 w' => ∃ j : Nat, v34 = .int .i64 (j : Int) ∧ Aside0 (j ≤ v.f1.length) ∧ Aside0 (kq + j = v.f1.length + 1) ∧ Aside0 (TwRel w w' g v5 (bad1 ++ dupUses v.f0 [] (v.f1.take j)) (nm ++ [v.f0]) (i + 1)) ∧ Aside0 (SetIs w' g8 j (v.f1.take j)) ∧ Aside0 (w'.heap[b7]? = some (.cells #[.string v.f0, .slice A1 v.f1.length c1] 41 (0, 0))))
        case atStart => exact ⟨0, rfl, ⟨Nat.zero_le _⟩, ⟨by omega⟩, ⟨by simpa [dupUses] using HT5.out⟩, ⟨by simpa using HS5.out⟩, HB75⟩
        clear HT5 HS5 HB75 y1
        obtain ⟨j, rfl, HJ, HKJ, HTJ, HSJ, HBJ⟩ := hrel
        have hj := HJ.out
        have hkj := HKJ.out
        by_cases hltj : j < v.f1.length
        · have hzj : decide ((j : Int) < (v.f1.length : Int)) = true := decide_eq_true (by omega)
          obtain ⟨k2, rfl⟩ : ∃ k2, gk = k2 + 1 := ⟨gk - 1, by omega⟩
          have hTJ := HTJ.out
          obtain ⟨bad2, hbad2⟩ : ∃ x, x = bad1 ++ dupUses v.f0 [] (v.f1.take j) := ⟨_, rfl⟩
          rw [← hbad2] at hTJ
          obtain ⟨A5, c5, rfl⟩ := hTJ.row.shape
          obtain ⟨ad2, e2, z0⟩ := name_at (Kd.C_below HC1.out hTJ.below) j hltj
          subst e2
          obtain ⟨u, hu⟩ : ∃ u, u = v.f1[j] := ⟨_, rfl⟩
          rw [← hu] at z0
          have hut : v.f1.take (j + 1) = v.f1.take j ++ [u] := by rw [List.take_succ_eq_append_getElem hltj, ← hu]
          have hul : u.size ≤ maxLen := HU0.out u (by rw [hu]; exact List.getElem_mem hltj)
          have hbl2 : bad2.length ≤ 3000000 := by
            have h1 := dupUses_length v.f0 (v.f1.take j) []
            have h2 : (v.f1.take j).length ≤ v.f1.length := by simp; omega
            have h3 : bad1.length ≤ bad.length + 1 := by
              rw [HBAD1.out, List.length_append]
              split <;> simp
            have h4 := HBL.out
            have h5 := HTU.out
            have h6 := HTOT.out
            rw [hbad2, List.length_append]
            omega
          have hj2 : j + 1 ≤ 3000000 := by
            have h5 := HTU.out
            have h6 := HTOT.out
            omega
          have hsn := dupUses_snoc v.f0 u (v.f1.take j) []
          rw [List.nil_append] at hsn
          have HBAD2 := Aside0.mk hbad2
          have HT6 := Aside0.mk hTJ
          have HUT := Aside0.mk hut
          have HUL := Aside0.mk hul
          have HBL2 := Aside0.mk hbl2
          have HJ2 := Aside0.mk hj2
          have HSN := Aside0.mk hsn
          have y0 : wr.cell? ⟨b7, 0, none⟩ = some (.string v.f0) := (blk_cell HBJ.out 0).trans rfl
          clear HTJ hTJ hbad2 hut hul hbl2 hsn hu hj
          by_cases hd : u ∈ v.f1.take j
          · have hdb : decide (u ∈ v.f1.take j) = true := decide_eq_true hd
            go_wp2_with (first | (at_lookup; refine set_look rfl _ _ rfl rfl HSJ.out u rfl (HUL.out) ?_) | ((with_reducible refine gate_builtin (b := .append) (xs := #[.tmp 41, .tmp 44]) rfl ?_); refine srow_append w.heap.size rfl (.tmp 41) (.tmp 44) rfl rfl v.f0 rfl HT6.out.row (by have := HBL2.out; omega) HT6.out.below.size ?_; intro A6 c6 w6 hr hg hat; have HR6 := Aside0.mk hr; have HG6 := Aside0.mk hg; clear hr hg hat) | (at_mapUpdate; refine set_put rfl _ _ _ rfl rfl (HSJ.out.kept HG6.out (map_ne_row HSJ.out HT6.out.row)) (by have := HJ2.out; unfold maxLen; omega) u rfl rfl (HUL.out) ?_; intro w7 hs7 hg7; have HS7 := Aside0.mk hs7; have HG7 := Aside0.mk hg7; clear hs7 hg7))
            go_roundg k2
            case measure => omega
            case rel =>
              refine ⟨j + 1, by push_cast; rfl, ⟨by omega⟩, ⟨by omega⟩, ⟨?_⟩, ⟨by rw [HUT.out]; exact HS7.out⟩, ⟨?_⟩⟩
              · rw [HUT.out, HSN.out, if_pos hd, ← List.append_assoc, ← HBAD2.out]
                exact (HT6.out.appended HR6.out HG6.out).far (HSJ.out.kept HG6.out (map_ne_row HSJ.out HT6.out.row)) HG7.out HNE8.out HGE8.out
              · exact blk_grown (row_blk HT6.out.row HG6.out HBJ.out (by decide)) HG7.out (fun e => map_ne_cells (HSJ.out.kept HG6.out (map_ne_row HSJ.out HT6.out.row)) (row_blk HT6.out.row HG6.out HBJ.out (by decide)) (Option.some.inj e))
          · have hdb : decide (u ∈ v.f1.take j) = false := decide_eq_false hd
            go_wp2_with (first | (at_lookup; refine set_look rfl _ _ rfl rfl HSJ.out u rfl (HUL.out) ?_) | (at_mapUpdate; refine set_put rfl _ _ _ rfl rfl HSJ.out (by have := HJ2.out; unfold maxLen; omega) u rfl rfl (HUL.out) ?_; intro w7 hs7 hg7; have HS7 := Aside0.mk hs7; have HG7 := Aside0.mk hg7; clear hs7 hg7))
            go_roundg k2
            case measure => omega
            case rel =>
              refine ⟨j + 1, by push_cast; rfl, ⟨by omega⟩, ⟨by omega⟩, ⟨?_⟩, ⟨by rw [HUT.out]; exact HS7.out⟩, ⟨?_⟩⟩
              · rw [HUT.out, HSN.out, if_neg hd, List.append_nil, ← HBAD2.out]
                exact HT6.out.far HSJ.out HG7.out HNE8.out HGE8.out
              · exact blk_grown HBJ.out HG7.out (fun e => map_ne_cells HSJ.out HBJ.out (Option.some.inj e))
        · have hzj : decide ((j : Int) < (v.f1.length : Int)) = false := decide_eq_false (by omega)
          have hjl : j = v.f1.length := by omega
          have HTJ2 : Aside0 (TwRel w _ g _ (badsFrom [] ((netOf l).take (i + 1))) (((netOf l).take (i + 1)).map (·.1)) (i + 1)) := ⟨by
            have h1 := HTJ.out
            rw [hjl, List.take_length, HBAD1.out, HBAD.out, HNMS.out, List.append_assoc] at h1
            rw [HTI.out, badsFrom_snoc, List.map_append, List.nil_append]
            exact h1⟩
          clear HTJ hjl
          go_wp2_with fail
          go_roundg k1
          case measure => omega
          case rel => exact ⟨i + 1, by push_cast; rfl, ⟨by omega⟩, ⟨by omega⟩, HTJ2⟩
    · have hz : decide ((i : Int) < (l.length : Int)) = false := decide_eq_false (by omega)
      have hil : i = l.length := by omega
      have HT9 : Aside0 (TwRel w _ g _ (bads (netOf l)) _ i) := ⟨by
        have h1 := HT.out
        rw [List.take_of_length_le (by simp [netOf]; omega)] at h1
        exact h1⟩
      have hbl : (bads (netOf l)).length ≤ 3000000 := Nat.le_trans (badsFrom_length _ _) HTOT.out
      clear HT hil
      obtain ⟨bad, hbad⟩ : ∃ x, x = bads (netOf l) := ⟨_, rfl⟩
      rw [← hbad] at HT9 hbl
      have hT9 := HT9.out
      obtain ⟨A5, c5, rfl⟩ := hT9.row.shape
      obtain ⟨A6, c6, e6, hc6, hC6⟩ := hT9.row.reads
      simp only [Value.slice.injEq, true_and] at e6
      obtain ⟨rfl, rfl⟩ := e6
      have HBAD := Aside0.mk hbad
      have HC6 := Aside0.mk hC6
      have HBE := Aside0.mk hT9.below
      clear hT9 HT9 hC6 hbad hc6
      rcases Nat.eq_zero_or_pos bad.length with h0 | h0
      · have hb0 := List.eq_nil_of_length_eq_zero h0
        subst hb0
        go_wp2_with fail
        go_ret2
        exact ⟨.inl ⟨HBAD.out.symm, rfl⟩, HBE.out⟩
      · have hb0 : ((bad.length : Int) == 0) = false := by simp; intro e; subst e; simp at h0
        have HBL0 := Aside0.mk hbl
        clear hbl
        go_wp2_with (go_at_call 20; refine (min_names _ _ _ bad HC6.out (by have := HBL0.out; omega) h0).mono ?_; rintro e w' ⟨m, rfl, hm, rfl⟩; have HM := Aside0.mk hm; clear hm)
        go_ret2
        exact ⟨.inr ⟨m, by rw [← HBAD.out]; exact HM.out, rfl⟩, HBE.out⟩
end Go.Proofs.Ytdllpgeagdckmaa.Q

/- order.of: the net of a list: who uses whom, who is there already. -/
namespace Go.Proofs.Ytdllpgeagdckmaa.Q
open Go.RowKit Go.Proofs.YtdllpgeagdckmaaW.PrintWords Go.Proofs.YtdllpgeagdckmaaW.PrintLast Go.Proofs.YtdllpgeagdckmaaW.PrintMore Go.Proofs.Ytdllpgeagdckmaa.MapKit Go.Maps Go.Proofs.Ytdllpgeagdckmaa.Ord
attribute [local go_sem] max2_int min2_int max_two min_two max_three min_three max_four min_four
set_option linter.unusedVariables false
set_option linter.unusedSimpArgs false

/-- What the map of uses holds: of each name a slice that reads as its uses. -/
def UsesF (w : World) (F : ByteArray → Option Value) (l : Net ByteArray) : Prop :=
  (∀ x, usesOf l x = none → F x = none) ∧ ∀ x us, usesOf l x = some us → ∃ A c, F x = some (.slice A us.length c) ∧ us.length ≤ c ∧ Kd.string.C w A us.length us
theorem UsesF.below {w w' : World} {F : ByteArray → Option Value} {l : Net ByteArray} (h : UsesF w F l) (hb : Below w.heap.size w w') : UsesF w' F l :=
  ⟨h.1, fun x us hx => by
    obtain ⟨A, c, h1, h2, h3⟩ := h.2 x us hx
    exact ⟨A, c, h1, h2, Kd.C_below h3 hb⟩⟩

/-- The net in memory. -/
structure NetAt (w : World) (b gu gh : Nat) (l : List S41) (hv : List ByteArray) : Prop where
  blk : w.heap[b]? = some (.cells #[.map (some gu), .map (some gh)] 71 (0, 0))
  uses : ∃ F n, MapIs Try.prog 9 w gu n (keyB F) ∧ UsesF w F (netOf l)
  have_ : ∃ n, n ≤ 3000000 ∧ SetIs w gh n hv
theorem NetAt.below {w w' : World} {b gu gh : Nat} {l : List S41} {hv : List ByteArray} (h : NetAt w b gu gh l hv) (hb : Below w.heap.size w w') : NetAt w' b gu gh l hv :=
  ⟨blk_below h.blk hb, by
    obtain ⟨F, n, h1, h2⟩ := h.uses
    exact ⟨F, n, h1.below hb, h2.below hb⟩, by
    obtain ⟨n, h0, h1⟩ := h.have_
    exact ⟨n, h0, h1.below hb⟩⟩

/-- What is known while the net is made. -/
structure OfRel (w w' : World) (b gu gh : Nat) (F : ByteArray → Option Value) (i j : Nat) (hv : List ByteArray) : Prop where
  blk : w'.heap[b]? = some (.cells #[.map (some gu), .map (some gh)] 71 (0, 0))
  uses : MapIs Try.prog 9 w' gu i (keyB F)
  have_ : SetIs w' gh j hv
  below : Below w.heap.size w w'
  gu_ : w.heap.size ≤ gu
  gh_ : w.heap.size ≤ gh
  ne : gu ≠ gh

theorem OfRel.alloc {w w2 : World} {b gu gh : Nat} {F : ByteArray → Option Value} {i j : Nat} {hv : List ByteArray} (h : OfRel w w2 b gu gh F i j hv) (o : Obj) : OfRel w (w2.alloc o) b gu gh F i j hv :=
  ⟨blk_alloc h.blk o, h.uses.below (below_alloc (Below.refl _ _) o), h.have_.below (below_alloc (Below.refl _ _) o), below_alloc h.below o, h.gu_, h.gh_, h.ne⟩
theorem OfRel.drew {w w2 : World} {b gu gh : Nat} {F : ByteArray → Option Value} {i j : Nat} {hv : List ByteArray} (h : OfRel w w2 b gu gh F i j hv) : OfRel w w2.drew b gu gh F i j hv :=
  ⟨h.blk, h.uses.below (below_drew (Below.refl _ _)), h.have_.below (below_drew (Below.refl _ _)), below_drew h.below, h.gu_, h.gh_, h.ne⟩
theorem OfRel.putU {w w2 w3 : World} {b gu gh : Nat} {F F' : ByteArray → Option Value} {i i' j : Nat} {hv : List ByteArray} (h : OfRel w w2 b gu gh F i j hv) (hm : MapIs Try.prog 9 w3 gu i' (keyB F')) (hg : w2.grownBy w3 (some gu)) : OfRel w w3 b gu gh F' i' j hv :=
  ⟨blk_grown h.blk hg (fun e => map_ne_cells h.uses h.blk (Option.some.inj e)), hm, h.have_.kept hg (fun e => h.ne (Option.some.inj e)), pw_below_grown h.below _ h.below.size hg (fun k e => by cases e; exact h.gu_), h.gu_, h.gh_, h.ne⟩
theorem OfRel.putH {w w2 w3 : World} {b gu gh : Nat} {F : ByteArray → Option Value} {i j j' : Nat} {hv hv' : List ByteArray} (h : OfRel w w2 b gu gh F i j hv) (hm : SetIs w3 gh j' hv') (hg : w2.grownBy w3 (some gh)) : OfRel w w3 b gu gh F i j' hv' :=
  ⟨blk_grown h.blk hg (fun e => map_ne_cells h.have_ h.blk (Option.some.inj e)), h.uses.kept hg (fun e => h.ne (Option.some.inj e).symm), hm, pw_below_grown h.below _ h.below.size hg (fun k e => by cases e; exact h.gh_), h.gu_, h.gh_, h.ne⟩

def OfP (l : List S41) (hv : List ByteArray) (w : World) (e : Ending) (w' : World) : Prop :=
  ∃ b gu gh, e = .returned (.pointer (some ⟨b, 0, none⟩)) ∧ NetAt w' b gu gh l hv ∧ Below w.heap.size w w'

set_option maxHeartbeats 4000000 in
set_option maxRecDepth 100000 in
theorem of_calls (w : World) (A Ah : Option Addr) (c ch : Nat) (l : List S41) (hv : List ByteArray) (hC : Kd.C k41 w A l.length l) (hCh : Kd.string.C w Ah hv.length hv) (htot : tot (netOf l) ≤ 3000000) (hhl : hv.length ≤ 3000000) (hnm : ∀ v ∈ l, v.f0.size ≤ maxLen) (hhv : ∀ u ∈ hv, u.size ≤ maxLen) (hnd : ((netOf l).map (·.1)).Nodup) :
    Calls Try.prog 18 #[.slice A l.length c, .slice Ah hv.length ch] w (OfP l hv w) := by
  have HC := Aside0.mk hC
  have HCH := Aside0.mk hCh
  have HNM := Aside0.mk hnm
  have HHV := Aside0.mk hhv
  have HTOT := Aside0.mk htot
  have HND := Aside0.mk hnd
  have hll : l.length ≤ 3000000 := by
    have h1 := tot_ge (netOf l)
    have h2 : (netOf l).length = l.length := by simp [netOf]
    omega
  clear hC hCh hnm hhv htot hnd
  have hmm := @run_makeMap Try.prog
  go_enter Try.func18, Try.ntmps18
  go_upto_region 2 with fail
  have h0 : OfRel w (((w.alloc (.map #[] 0)).alloc (.map #[] 0)).alloc (.cells #[.map (some w.heap.size), .map (some (w.heap.size + 1))] 71)) (w.heap.size + 1 + 1) w.heap.size (w.heap.size + 1) (fun _ => none) 0 0 [] := by
    refine ⟨?_, ?_, ?_, below_alloc (below_alloc (below_alloc (Below.refl _ _) _) _) _, Nat.le_refl _, by omega, by omega⟩
    · have := heap_alloc_new ((w.alloc (.map #[] 0)).alloc (.map #[] 0)) (.cells #[.map (some w.heap.size), .map (some (w.heap.size + 1))] 71)
      simpa using this
    · have h1 := MapIs.made w Try.prog 9
      have h2 := (h1.below (below_alloc (Below.refl _ _) (.map #[] 0))).below (below_alloc (Below.refl _ _) (.cells #[.map (some w.heap.size), .map (some (w.heap.size + 1))] 71))
      refine h2.congr fun s => ?_
      cases s <;> rfl
    · have h1 := SetIs.made (w.alloc (.map #[] 0))
      have h2 := h1.below (below_alloc (Below.refl _ _) (.cells #[.map (some w.heap.size), .map (some (w.heap.size + 1))] 71))
      simpa using h2
  generalize ((w.alloc (.map #[] 0)).alloc (.map #[] 0)).alloc (.cells #[.map (some w.heap.size), .map (some (w.heap.size + 1))] 71) = w1 at *
  obtain ⟨b, hb⟩ : ∃ b, b = w.heap.size + 1 + 1 := ⟨_, rfl⟩
  obtain ⟨gh, hgh⟩ : ∃ b, b = w.heap.size + 1 := ⟨_, rfl⟩
  rw [← hb, ← hgh] at h0
  rw [← hb]
  obtain ⟨gu, hgu⟩ : ∃ b, b = w.heap.size := ⟨_, rfl⟩
  have H0 : Aside0 (OfRel w w1 b gu gh (fun _ => none) 0 0 []) := ⟨by rw [hgu]; exact h0⟩
  clear hb hgh hgu h0
  go_wp2
  go_loopg [16] (l.length + 1) (fun kq v16 w' => ∃ i : Nat, v16 = .int .i64 (i : Int) ∧ Aside0 (i ≤ l.length) ∧ Aside0 (kq + i = l.length + 1) ∧ Aside0 (∃ F, OfRel w w' b gu gh F i 0 [] ∧ UsesF w F ((netOf l).take i)))
  case atStart => exact ⟨0, rfl, ⟨Nat.zero_le _⟩, ⟨by omega⟩, ⟨_, H0.out, fun x _ => rfl, fun x us hx => by simp [usesOf] at hx⟩⟩
  case round =>
    clear H0
    obtain ⟨i, rfl, HI, HK, HT⟩ := hrel
    have hi := HI.out
    have hk := HK.out
    obtain ⟨F, hR, hF⟩ := HT.out
    have HR := Aside0.mk hR
    have HF := Aside0.mk hF
    clear HT hR hF
    by_cases hlt : i < l.length
    · have hz : decide ((i : Int) < (l.length : Int)) = true := decide_eq_true (by omega)
      obtain ⟨k1, rfl⟩ : ∃ k1, gk = k1 + 1 := ⟨gk - 1, by omega⟩
      obtain ⟨ad, A1, c1, rfl, z0, z1, hc1, hC1⟩ := vocab_at HC.out i hlt
      obtain ⟨v, hv'⟩ : ∃ v, v = l[i] := ⟨_, rfl⟩
      rw [← hv'] at z0 z1 hc1 hC1
      have x0 := pw_cell_below HR.out.below z0
      have x1 := pw_cell_below HR.out.below z1
      have hmem : v ∈ l := by rw [hv']; exact List.getElem_mem hlt
      have hnet : (netOf l)[i]'(by simpa [netOf] using hlt) = (v.f0, v.f1) := by simp [netOf, hv']
      have hti : (netOf l).take (i + 1) = (netOf l).take i ++ [(v.f0, v.f1)] := by rw [List.take_succ_eq_append_getElem (by simpa [netOf] using hlt), hnet]
      have hnn : v.f0 ∉ ((netOf l).take i).map (·.1) := by
        have h1 := HND.out
        have h2 : (((netOf l).take (i + 1)).map (·.1)).Nodup := h1.sublist ((List.take_sublist _ _).map _)
        rw [hti, List.map_append, List.nodup_append] at h2
        exact fun hm => h2.2.2 _ hm v.f0 (by simp) rfl
      have HN0 := Aside0.mk (HNM.out v hmem)
      have HTI := Aside0.mk hti
      have HNN := Aside0.mk hnn
      have HC1 := Aside0.mk hC1
      have HCL := Aside0.mk hc1
      have hib : i + 1 ≤ 3000000 := by omega
      clear z0 z1 hmem hnet hti hnn hC1 hc1 hv' hi
      go_upto_region 5 with fail
      have hT2 := HR.out.alloc (.cells #[.string v.f0, .slice A1 v.f1.length c1] 41)
      have hb7 : (wr.alloc (.cells #[.string v.f0, .slice A1 v.f1.length c1] 41)).heap[wr.heap.size]? = some (.cells #[.string v.f0, .slice A1 v.f1.length c1] 41 (0, 0)) := heap_alloc_new _ _
      generalize wr.alloc (.cells #[.string v.f0, .slice A1 v.f1.length c1] 41) = w2 at *
      obtain ⟨b7, hb7'⟩ : ∃ b7, b7 = wr.heap.size := ⟨_, rfl⟩
      rw [← hb7'] at hb7 ⊢
      clear hb7'
      have y0 : w2.cell? ⟨b7, 0, none⟩ = some (.string v.f0) := (blk_cell hb7 0).trans rfl
      have y1 : w2.cell? ⟨b7, 1, none⟩ = some (.slice A1 v.f1.length c1) := (blk_cell hb7 1).trans rfl
      have n0 : w2.cell? ⟨b, 0, none⟩ = some (.map (some gu)) := (blk_cell hT2.blk 0).trans rfl
      have HT2 := Aside0.mk hT2
      clear hT2 hb7 x0 x1
      go_still_tail 8, (by kernel_rfl)
      change wpList _ _ _ _ _ w2.drew
      refine wpList_put rfl _ _ _ 68 rfl 23 key9 Try.underlying68 rfl HT2.out.drew.uses (by unfold maxLen; omega) (.string v.f0) (.string v.f0.data.toList) (key_lit _) (.slice A1 v.f1.length c1) rfl rfl (Go.WideMaps.keyOf_string_mk Try.underlying9 HN0.out) ?_
      intro w3 hm3 hg3
      rw [upd_keyB] at hm3
      have HR3 := Aside0.mk (HT2.out.drew.putU hm3 hg3)
      clear hm3 hg3 y0 y1 n0
      go_wp2_with fail
      go_roundg k1
      case measure => omega
      case rel =>
        refine ⟨i + 1, by push_cast; rfl, ⟨by omega⟩, ⟨by omega⟩, ⟨_, HR3.out, ?_, ?_⟩⟩
        · intro x hx
          rw [HTI.out, usesOf_snoc HNN.out] at hx
          by_cases he : x = v.f0
          · rw [if_pos he] at hx; cases hx
          · rw [if_neg he] at hx
            simp only [if_neg he]
            exact HF.out.1 x hx
        · intro x us hx
          rw [HTI.out, usesOf_snoc HNN.out] at hx
          by_cases he : x = v.f0
          · rw [if_pos he] at hx
            cases hx
            simp only [if_pos he]
            exact ⟨A1, c1, rfl, HCL.out, HC1.out⟩
          · rw [if_neg he] at hx
            simp only [if_neg he]
            exact HF.out.2 x us hx
    · have hz : decide ((i : Int) < (l.length : Int)) = false := decide_eq_false (by omega)
      have hF : UsesF w F (netOf l) := by
        have h1 := HF.out
        rwa [List.take_of_length_le (by simp [netOf]; omega)] at h1
      have HF2 := Aside0.mk hF
      clear HF hF
      go_wp2_with fail
      go_loopg [31] (hv.length + 1) (fun kq v31 w' => ∃ j : Nat, v31 = .int .i64 (j : Int) ∧ Aside0 (j ≤ hv.length) ∧ Aside0 (kq + j = hv.length + 1) ∧ Aside0 (OfRel w w' b gu gh F i j (hv.take j)))
      case atStart => exact ⟨0, rfl, ⟨Nat.zero_le _⟩, ⟨by omega⟩, HR⟩
      clear HR
      obtain ⟨j, rfl, HJ, HKJ, HR⟩ := hrel
      have hj := HJ.out
      have hkj := HKJ.out
      by_cases hltj : j < hv.length
      · have hzj : decide ((j : Int) < (hv.length : Int)) = true := decide_eq_true (by omega)
        obtain ⟨k2, rfl⟩ : ∃ k2, gk = k2 + 1 := ⟨gk - 1, by omega⟩
        obtain ⟨ad2, rfl, z0⟩ := name_at (Kd.C_below HCH.out HR.out.below) j hltj
        obtain ⟨u, hu⟩ : ∃ u, u = hv[j] := ⟨_, rfl⟩
        rw [← hu] at z0
        have hut : hv.take (j + 1) = hv.take j ++ [u] := by rw [List.take_succ_eq_append_getElem hltj, ← hu]
        have hul : u.size ≤ maxLen := HHV.out u (by rw [hu]; exact List.getElem_mem hltj)
        have HUT := Aside0.mk hut
        have HUL := Aside0.mk hul
        have n1 : wr.cell? ⟨b, 1, none⟩ = some (.map (some gh)) := (blk_cell HR.out.blk 1).trans rfl
        clear hut hul hu hj
        go_wp2_with (at_mapUpdate; refine set_put rfl _ _ _ rfl rfl HR.out.have_ (by unfold maxLen; omega) u rfl rfl (HUL.out) ?_; intro w7 hs7 hg7; have HR7 := Aside0.mk (HR.out.putH hs7 hg7); clear hs7 hg7)
        go_roundg k2
        case measure => omega
        case rel => exact ⟨j + 1, by push_cast; rfl, ⟨by omega⟩, ⟨by omega⟩, ⟨by rw [HUT.out]; exact HR7.out⟩⟩
      · have hzj : decide ((j : Int) < (hv.length : Int)) = false := decide_eq_false (by omega)
        have hR9 := HR.out
        rw [List.take_of_length_le (by omega)] at hR9
        have HR9 := Aside0.mk hR9
        clear hR9 HR
        go_wp2_with fail
        go_ret
        exact ⟨b, gu, gh, rfl, ⟨HR9.out.blk, ⟨F, i, HR9.out.uses, HF2.out.below HR9.out.below⟩, ⟨j, by omega, HR9.out.have_⟩⟩, HR9.out.below⟩
end Go.Proofs.Ytdllpgeagdckmaa.Q
