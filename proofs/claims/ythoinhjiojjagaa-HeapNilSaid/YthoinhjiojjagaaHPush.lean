/- A new root: what push does. -/
import Derived.Test.YthoinhjiojjagaaHNil
import Derived.Deep.RegionLaw
import Derived.RegionTactic
import Derived.ChangeAlike
namespace Go.Proofs.Ythoinhjiojjagaa.Hp
open Go.RowKit Go.Proofs.YthoinhjiojjagaaW.PrintWords Go.Proofs.YthoinhjiojjagaaW.PrintLast Go.Proofs.YthoinhjiojjagaaW.PrintMore Go.Proofs.Ythoinhjiojjagaa.MapKit Go.Maps
attribute [local go_sem] max2_int min2_int max_two min_two max_three min_three max_four min_four
set_option linter.unusedVariables false
set_option linter.unusedSimpArgs false

/-- A word's cells. -/
def wordK : Kd (Bool × Int) := Kd.pair Kd.bool (Kd.int .u64)

def cellsOf (xs : List (Bool × Int)) : List Value := xs.flatMap fun x => [.bool x.1, .int .u64 x.2]

/-- A row of words of the call's own. -/
def WRow (w : World) (base : Nat) (v : Value) (xs : List (Bool × Int)) : Prop := w.ownsRow base 76 2 v xs.length (cellsOf xs)

theorem cellsOf_length (xs : List (Bool × Int)) : (cellsOf xs).length = 2 * xs.length := by
  induction xs with
  | nil => rfl
  | cons x xs ih => simp only [cellsOf, List.flatMap_cons, List.length_append, List.length_cons, List.length_nil] at ih ⊢; omega
theorem cellsOf_append (xs ys : List (Bool × Int)) : cellsOf (xs ++ ys) = cellsOf xs ++ cellsOf ys := by simp [cellsOf]

theorem info76 : (Try.prog.info? 76).map (fun i => (i.zero, i.size, i.bytes)) = some (some (.agg #[.bool false, .int .u64 0]), 2, 16) := by kernel_rfl

/-- The heap's block. -/
def HBlk (w : World) (b : Nat) (vy vo : Value) (g : Nat) (vr vp : Value) (wd sm : Int) : Prop := w.heap[b]? = some (.cells #[vy, vo, .map (some g), vr, vp, .int .i64 wd, .int .i64 sm] 71 (0, 0))

/-- All but the blocks of S is kept, and the world's streams too. -/
structure KS (w W : World) (S : Nat → Prop) : Prop where
  kept : Kept w W S
  os : W.os = w.os
  tape : W.tape = w.tape
  output : W.output = w.output
theorem KS.refl (w : World) (S : Nat → Prop) : KS w w S := ⟨Kept.refl _ _, rfl, rfl, rfl⟩
theorem KS.of_below {w W : World} (h : Below w.heap.size w W) (S : Nat → Prop) : KS w W S := ⟨Kept.of_below h S, h.os, h.tape, h.output⟩
theorem KS.mono {w W : World} {S S' : Nat → Prop} (h : KS w W S) (hs : ∀ k, S k → S' k) : KS w W S' := ⟨h.kept.mono hs, h.os, h.tape, h.output⟩
theorem KS.then_ {w W W2 : World} {S S2 : Nat → Prop} (h : KS w W S) (k : KS W W2 S2) (hs : ∀ k, S2 k → S k ∨ w.heap.size ≤ k) : KS w W2 S := ⟨h.kept.then_ k.kept hs, k.os.trans h.os, k.tape.trans h.tape, k.output.trans h.output⟩
theorem KS.of_grown {w W W2 : World} {S : Nat → Prop} {row : Option Nat} (hg : W.grownBy W2 row) (h : KS w W S) (hr : ∀ k, row = some k → S k ∨ w.heap.size ≤ k) : KS w W2 S := ⟨h.kept.of_grown hg hr, hg.os.trans h.os, hg.tape.trans h.tape, hg.output.trans h.output⟩
theorem KS.setCell {w W : World} {S : Nat → Prop} (h : KS w W S) {p : Addr} (hp : S p.block ∨ w.heap.size ≤ p.block) (u : Value) : KS w (W.setCell p u) S := ⟨h.kept.setCell hp u, h.os, h.tape, h.output⟩
theorem KS.size {w W : World} {S : Nat → Prop} (h : KS w W S) : w.heap.size ≤ W.heap.size := h.kept.1
theorem KS.below {w W W2 : World} {S : Nat → Prop} (h : KS w W S) (hb : Below W.heap.size W W2) : KS w W2 S := ⟨h.kept.below hb, hb.os.trans h.os, hb.tape.trans h.tape, hb.output.trans h.output⟩
theorem KS.to_below {w0 w W : World} {B : Nat} {S : Nat → Prop} (h : KS w W S) (hb : Below B w0 w) (hB : B ≤ w.heap.size) (hS : ∀ k, S k → B ≤ k) : Below B w0 W :=
  ⟨h.os.trans hb.os, h.tape.trans hb.tape, h.output.trans hb.output, Nat.le_trans hb.size h.size, fun i hi => (h.kept.2 i (Nat.lt_of_lt_of_le hi hB) (fun hs => by have := hS i hs; omega)).trans (hb.block i hi)⟩

theorem push_end {w w1 w2 : World} {base b : Nat} {vy vo : Value} {g : Nat} {vr vp : Value} {wd sm : Int} {xs : List (Bool × Int)} {r : Bool} {n : Int} {gg cap : Nat} {W : World} {e : Ending} (hb : HBlk w b vy vo g vr vp wd sm) (hr : WRow w base vr xs) (hne : vr.ownBlock ≠ some b) (hbase : base ≤ w.heap.size) (hw1 : w1 = w.alloc (.cells #[.bool r, .int .u64 n] 76))
    (hW : W = (w1.alloc (.cells #[.bool r, .int .u64 n] 76)).drew ∨ W = w1.drew.alloc (.cells #[.bool r, .int .u64 n] 76)) (ho : w2.ownsRow base 76 2 (.slice (some ⟨gg, 0, none⟩) (xs.length + 1) cap) (xs.length + 1) (cellsOf xs ++ [.bool r, .int .u64 n])) (hg : W.grownBy w2 vr.ownBlock) (hat : vr.ownBlock = some gg ∨ gg = W.heap.size)
    (he : e = .returned (.int .i64 0)) :
    e = .returned (.int .i64 0) ∧ ∃ vr', HBlk (w2.setCell ⟨b, 3, none⟩ (.slice (some ⟨gg, 0, none⟩) (xs.length + 1) cap)) b vy vo g vr' vp wd sm ∧ WRow (w2.setCell ⟨b, 3, none⟩ (.slice (some ⟨gg, 0, none⟩) (xs.length + 1) cap)) base vr' (xs ++ [(r, n)]) ∧ (vr'.ownBlock = vr.ownBlock ∨ ∃ k, vr'.ownBlock = some k ∧ w.heap.size ≤ k) ∧ KS w (w2.setCell ⟨b, 3, none⟩ (.slice (some ⟨gg, 0, none⟩) (xs.length + 1) cap)) (fun k => k = b ∨ some k = vr.ownBlock) := by
  have hB : Below w.heap.size w W := by
    rcases hW with rfl | rfl <;> subst hw1
    · exact below_drew (below_alloc (below_alloc (Below.refl _ _) _) _)
    · exact below_alloc (below_drew (below_alloc (Below.refl _ _) _)) _
  have hbW : HBlk W b vy vo g vr vp wd sm := blk_below hb hB
  have hb2 : HBlk w2 b vy vo g vr vp wd sm := blk_grown hbW hg (fun e => hne e.symm)
  have hbg : b ≠ gg := fun e => by
    subst e
    rcases hat with h | h
    · exact hne h
    · have h1 := blk_lt hb
      have h2 := hB.size
      omega
  refine ⟨he, _, blk_put (cs := #[vy, vo, .map (some g), vr, vp, .int .i64 wd, .int .i64 sm]) hb2 3 _ rfl, ?_, ?_, ?_⟩
  · have := own_setCell ho (p := ⟨b, 3, none⟩) (fun e => hbg (by simpa [Value.ownBlock] using e)) (.slice (some ⟨gg, 0, none⟩) (xs.length + 1) cap)
    rw [WRow, cellsOf_append]
    simpa [show cellsOf [(r, n)] = [.bool r, .int .u64 n] from rfl] using this
  · rcases hat with h | h
    · exact .inl h.symm
    · refine .inr ⟨gg, rfl, ?_⟩
      rw [h]
      exact hB.size
  · refine KS.setCell (KS.of_grown hg (KS.of_below hB _) (fun k hk => .inl (.inr hk.symm))) (.inl (.inl rfl)) _

set_option maxHeartbeats 1000000 in
set_option maxRecDepth 100000 in
theorem push_calls (w : World) (base b : Nat) (vy vo : Value) (g : Nat) (vr vp : Value) (wd sm : Int) (xs : List (Bool × Int)) (r : Bool) (n : Int) (hb : HBlk w b vy vo g vr vp wd sm) (hr : WRow w base vr xs) (hlt : xs.length ≤ 65535) (hbase : base ≤ w.heap.size) (hne : vr.ownBlock ≠ some b) :
    Calls Try.prog 53 #[.pointer (some ⟨b, 0, none⟩), .agg #[.bool r, .int .u64 n]] w fun e w' => e = .returned (.int .i64 0) ∧ ∃ vr', HBlk w' b vy vo g vr' vp wd sm ∧ WRow w' base vr' (xs ++ [(r, n)]) ∧ (vr'.ownBlock = vr.ownBlock ∨ ∃ k, vr'.ownBlock = some k ∧ w.heap.size ≤ k) ∧ KS w w' (fun k => k = b ∨ some k = vr.ownBlock) := by
  obtain ⟨Av, cv, rfl⟩ := own_slice hr
  have HB := Aside0.mk hb
  have HR := Aside0.mk hr
  have HNE := Aside0.mk hne
  have HLT := Aside0.mk hlt
  have hd : decide ((65536 : Int) ≤ (xs.length : Int)) = false := decide_eq_false (by omega)
  clear hb hr hne hlt
  go_enter Try.func53, Try.ntmps53
  go_upto_region 1 with fail
  obtain ⟨w1, hw1⟩ : ∃ w1, w1 = w.alloc (.cells #[.bool r, .int .u64 n] 76) := ⟨_, rfl⟩
  rw [← hw1]
  have hb1 : HBlk w1 b vy vo g (.slice Av xs.length cv) vp wd sm := by rw [hw1]; exact blk_alloc HB.out _
  have hx1 : w1.heap[w.heap.size]? = some (.cells #[.bool r, .int .u64 n] 76 (0, 0)) := by rw [hw1]; exact heap_alloc_new w _
  have c3 : w1.cell? ⟨b, 3, none⟩ = some (.slice Av xs.length cv) := by simp [World.cell?, show w1.heap[b]? = _ from hb1]
  have x0 : w1.cell? ⟨w.heap.size, 0, none⟩ = some (.bool r) := by simp [World.cell?, hx1]
  have x1 : w1.cell? ⟨w.heap.size, 1, none⟩ = some (.int .u64 n) := by simp [World.cell?, hx1]
  have HB1 := Aside0.mk hb1
  have HX1 := Aside0.mk hx1
  have HW1 := Aside0.mk hw1
  clear hb1 hx1 hw1
  go_wp2
  obtain ⟨i0, hi, hzz⟩ := Option.map_eq_some_iff.1 info76
  simp only [Prod.mk.injEq] at hzz
  obtain ⟨hz0, hz1, hz2⟩ := hzz
  have hB1 : Below w.heap.size w w1 := by rw [HW1.out]; exact below_alloc (Below.refl _ _) _
  have hs1 : w.heap.size + 1 = w1.heap.size := by rw [HW1.out]; simp
  have HB1w := Aside0.mk hB1
  have HS1 := Aside0.mk hs1
  clear hB1 hs1
  have hown2 : (w1.alloc (.cells #[.bool r, .int .u64 n] 76)).drew.ownsRow base 76 2 (.slice Av xs.length cv) xs.length (cellsOf xs) := pw_own_below HR.out (below_drew (below_alloc HB1w.out _))
  have hnews2 : ∀ j u, [Value.bool r, Value.int .u64 n][j]? = some u → (w1.alloc (.cells #[.bool r, .int .u64 n] 76)).drew.cell? ((⟨w1.heap.size, 0, none⟩ : Addr).add j) = some u := World.news_of_block (cs := #[.bool r, .int .u64 n]) (t := 76) (fr := (0, 0)) (heap_alloc_new w1 _)
  have hone2 : ∀ u ∈ [Value.bool r, Value.int .u64 n], u.oneCell' = true := fun u hu => by
    simp only [List.mem_cons, List.not_mem_nil, or_false] at hu
    rcases hu with rfl | rfl <;> rfl
  have hmax2 : xs.length + 1 ≤ maxLen := by
    have := HLT.out
    simp only [maxLen]
    omega
  have hbytes2 : (xs.length + 1) * 16 ≤ 140737488355328 := by
    have := HLT.out
    omega
  have hbase2 : base ≤ (w1.alloc (.cells #[.bool r, .int .u64 n] 76)).drew.heap.size := by
    have := HS1.out
    simp
    omega
  have hb2 : ∀ w2 : World, (w1.alloc (.cells #[.bool r, .int .u64 n] 76)).drew.grownBy w2 (Value.slice Av xs.length cv).ownBlock → HBlk w2 b vy vo g (.slice Av xs.length cv) vp wd sm := fun w2 hg => blk_grown (blk_drew (blk_alloc HB1.out _)) hg (fun e => HNE.out e.symm)
  have HF := Aside0.mk (And.intro hown2 (And.intro hnews2 (And.intro hone2 (And.intro hmax2 (And.intro hbytes2 (And.intro hbase2 hb2))))))
  clear hown2 hnews2 hone2 hmax2 hbytes2 hbase2 hb2
  have c3a : (w1.alloc (.cells #[.bool r, .int .u64 n] 76)).cell? ⟨b, 3, none⟩ = some (.slice Av xs.length cv) := (blk_cell (blk_alloc HB1.out _) 3).trans rfl
  go_region_law ((refine step_append_lies _ rfl (.tmp 15) (.tmp 17) 67 rfl base 76 i0 (.agg #[.bool false, .int .u64 0]) 2 16 Try.underlying67 hi hz0 hz1 hz2 rfl (by decide) (.slice Av xs.length cv) xs.length (cellsOf xs) rfl HF.out.1 ⟨w1.heap.size, 0, none⟩ 1 1 [.bool r, .int .u64 n] rfl rfl HF.out.2.1 HF.out.2.2.1 (by decide) HF.out.2.2.2.1 HF.out.2.2.2.2.1 HF.out.2.2.2.2.2.1 _ rfl ?_); (intro gg cap w2 ho hg hat hlt2; obtain ⟨c3', f3'⟩ : w2.cell? ⟨b, 3, none⟩ = some (.slice Av xs.length cv) ∧ w2.frozen? ⟨b, 3, none⟩ = false := ⟨(blk_cell (HF.out.2.2.2.2.2.2 w2 hg) 3).trans rfl, blk_frozen (HF.out.2.2.2.2.2.2 w2 hg) 3⟩; have HO := Aside0.mk ho; have HG := Aside0.mk hg; have HAT := Aside0.mk hat; have HLT2 := Aside0.mk hlt2; clear ho hg hat hlt2))
  all_goals
    go_wp2
    go_ret
    refine push_end HB.out HR.out HNE.out hbase HW1.out ?_ HO.out HG.out HAT.out rfl
    exact .inl rfl
end Go.Proofs.Ythoinhjiojjagaa.Hp
