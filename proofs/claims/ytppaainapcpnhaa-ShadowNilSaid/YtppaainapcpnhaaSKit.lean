/- Bytes, what a call keeps, and the disk in memory. -/
import Derived.Test.YtppaainapcpnhaaQ1
import Derived.Test.YtppaainapcpnhaaQ2
import Derived.Test.YtppaainapcpnhaaMapKit
import Derived.Test.YtppaainapcpnhaaApartKit
import Derived.Laws.CopyOwn
import Derived.Outline
namespace Go.Proofs.Ytppaainapcpnhaa.Sh
open Go Go.RowKit Go.Proofs.YtppaainapcpnhaaW.PrintWords Go.Proofs.YtppaainapcpnhaaW.PrintLast Go.Proofs.YtppaainapcpnhaaW.PrintMore Go.Proofs.Ytppaainapcpnhaa.MapKit Go.Maps Go.Proofs.Ytppaainapcpnhaa.ApartKit Go.Proofs.Ytppaainapcpnhaa.Q
attribute [local go_sem] max2_int min2_int max_two min_two max_three min_three max_four min_four
set_option linter.unusedVariables false
set_option linter.unusedSimpArgs false

def bts (xs : List Int) : Array Value := (xs.map (Value.int .u8)).toArray

/-- All but the blocks of S is kept, and the world's streams too. -/
structure KS (w W : World) (S : Nat → Prop) : Prop where
  kept : Kept w W S
  os : W.os = w.os
  tape : W.tape = w.tape
  output : W.output = w.output
theorem KS.refl (w : World) (S : Nat → Prop) : KS w w S := ⟨Kept.refl _ _, rfl, rfl, rfl⟩
theorem KS.of_below {w W : World} (h : Below w.heap.size w W) (S : Nat → Prop) : KS w W S := ⟨Kept.of_below h S, h.os, h.tape, h.output⟩
theorem KS.mono {w W : World} {S S' : Nat → Prop} (h : KS w W S) (hs : ∀ k, S k → S' k) : KS w W S' := ⟨h.kept.mono hs, h.os, h.tape, h.output⟩
theorem KS.then_ {w W W2 : World} {S S2 : Nat → Prop} (h : KS w W S) (k : KS W W2 S2) (hs : ∀ k, S2 k → S k ∨ w.heap.size ≤ k) : KS w W2 S := ⟨h.kept.then_ k.kept hs, k.os.trans h.os, k.tape.trans h.tape, k.output.trans h.output⟩
theorem KS.of_grown {w W W2 : World} {S : Nat → Prop} {row : Option Nat} (h : KS w W S) (hg : W.grownBy W2 row) (hr : ∀ k, row = some k → S k ∨ w.heap.size ≤ k) : KS w W2 S := ⟨h.kept.of_grown hg hr, hg.os.trans h.os, hg.tape.trans h.tape, hg.output.trans h.output⟩
theorem KS.setCell {w W : World} {S : Nat → Prop} (h : KS w W S) {p : Addr} (hp : S p.block ∨ w.heap.size ≤ p.block) (u : Value) : KS w (W.setCell p u) S := ⟨h.kept.setCell hp u, h.os, h.tape, h.output⟩
theorem KS.size {w W : World} {S : Nat → Prop} (h : KS w W S) : w.heap.size ≤ W.heap.size := h.kept.1
theorem KS.block {w W : World} {S : Nat → Prop} (h : KS w W S) {k : Nat} (hk : k < w.heap.size) (hs : ¬ S k) : W.heap[k]? = w.heap[k]? := h.kept.2 k hk hs
theorem KS.below {w W W2 : World} {S : Nat → Prop} (h : KS w W S) (hb : Below W.heap.size W W2) : KS w W2 S := ⟨h.kept.below hb, hb.os.trans h.os, hb.tape.trans h.tape, hb.output.trans h.output⟩
theorem KS.to_below {w0 w W : World} {B : Nat} {S : Nat → Prop} (h : KS w W S) (hb : Below B w0 w) (hB : B ≤ w.heap.size) (hS : ∀ k, S k → B ≤ k) : Below B w0 W :=
  ⟨h.os.trans hb.os, h.tape.trans hb.tape, h.output.trans hb.output, Nat.le_trans hb.size h.size, fun i hi => (h.block (Nat.lt_of_lt_of_le hi hB) (fun hs => by have := hS i hs; omega)).trans (hb.block i hi)⟩

/-- A row of bytes of the call's own. -/
def BRow (w : World) (base : Nat) (v : Value) (xs : List Int) : Prop := w.ownsRow base 5 1 v xs.length (xs.map (Value.int .u8))
theorem BRow.shape {w : World} {base : Nat} {v : Value} {xs : List Int} (h : BRow w base v xs) : ∃ A c, v = .slice A xs.length c := own_slice h
theorem BRow.stay {w w' : World} {base : Nat} {v : Value} {xs : List Int} (h : BRow w base v xs) (hk : ∀ b, v.ownBlock = some b → w'.heap[b]? = w.heap[b]?) : BRow w' base v xs := own_move h hk
theorem BRow.block {w : World} {base : Nat} {v : Value} {xs : List Int} (h : BRow w base v xs) {b : Nat} (hb : v.ownBlock = some b) : ∃ cs, w.heap[b]? = some (.cells cs 5 (0, 0)) := own_typed h b hb
theorem BRow.lt {w : World} {base : Nat} {v : Value} {xs : List Int} (h : BRow w base v xs) {b : Nat} (hb : v.ownBlock = some b) : b < w.heap.size := own_lt h b hb
theorem BRow.base_le {w : World} {base : Nat} {v : Value} {xs : List Int} (h : BRow w base v xs) (k : Nat) (hk : v.ownBlock = some k) : base ≤ k := own_base h k hk
theorem BRow.reads {w : World} {base : Nat} {v : Value} {xs : List Int} (h : BRow w base v xs) : ∃ A c, v = .slice A xs.length c ∧ xs.length ≤ c ∧ (Kd.int .u8).C w A xs.length xs :=
  Kd.R_reads (Kd.R_of_own (enc := Value.int .u8) (h1 := fun _ => rfl) (ok := fun _ => True) h (fun _ _ => trivial))
theorem BRow.weak {w : World} {base base' : Nat} {v : Value} {xs : List Int} (h : BRow w base v xs) (hb : base' ≤ base) : BRow w base' v xs := by
  obtain ⟨h1, h2⟩ := h
  refine ⟨h1, ?_⟩
  rcases h2 with h2 | ⟨g, cap, cur, hv, hg, r⟩
  · exact .inl h2
  · exact .inr ⟨g, cap, cur, hv, Nat.le_trans hb hg, r⟩

/-- Bytes that no disk holds as its own. -/
structure Dat (w : World) (base kb sb : Nat) (v : Value) (xs : List Int) : Prop where
  row : BRow w base v xs
  nk : v.ownBlock ≠ some kb
  ns : v.ownBlock ≠ some sb
theorem Dat.keep {w w' : World} {base kb sb : Nat} {v : Value} {xs : List Int} {S : Nat → Prop} (h : Dat w base kb sb v xs) (hk : KS w w' S) (hS : ∀ k cs, S k → w.heap[k]? = some (.cells cs 5 (0, 0)) → k = kb ∨ k = sb) : Dat w' base kb sb v xs :=
  ⟨h.row.stay fun b hb => hk.block (h.row.lt hb) fun hs => by
    obtain ⟨cs, hc⟩ := h.row.block hb
    rcases hS b cs hs hc with rfl | rfl
    · exact h.nk hb
    · exact h.ns hb, h.nk, h.ns⟩

/-! ### The disk -/
/-- A disk: what is kept, what is seen, the writes that are not kept yet, its life. -/
structure Dsk where
  kept : List Int
  seen : List Int
  pend : List (Int × List Int)
  life : Int

def pendCells : List (Int × Value) → List Value
  | [] => []
  | (s, v) :: l => .int .i64 s :: v :: pendCells l
theorem pendCells_length : ∀ l, (pendCells l).length = 2 * l.length
  | [] => rfl
  | (s, v) :: l => by simp [pendCells, pendCells_length l]; omega
theorem pendCells_append : ∀ l m, pendCells (l ++ m) = pendCells l ++ pendCells m
  | [], m => rfl
  | (s, v) :: l, m => by simp [pendCells, pendCells_append l m]

/-- The disk in memory: at block b, its bytes at kb and sb, its pending writes where vp says. -/
structure DskAt (w : World) (base b kb sb : Nat) (vp : Value) (D : Dsk) : Prop where
  blk : w.heap[b]? = some (.cells #[.slice (some ⟨kb, 0, none⟩) D.kept.length D.kept.length, .slice (some ⟨sb, 0, none⟩) D.seen.length D.seen.length, vp, .int .i64 D.life] 93 (0, 0))
  kept : w.heap[kb]? = some (.cells (bts D.kept) 5 (0, 0))
  seen : w.heap[sb]? = some (.cells (bts D.seen) 5 (0, 0))
  ne : kb ≠ sb
  bb : base ≤ b
  bk : base ≤ kb
  bs : base ≤ sb
  len : D.kept.length = D.seen.length
  pend : ∃ PV : List (Int × Value), w.ownsRow base 98 2 vp PV.length (pendCells PV) ∧ PV.map (·.1) = D.pend.map (·.1) ∧ ∀ (i : Nat) (s : Int) (v : Value), PV[i]? = some (s, v) → ∃ xs, D.pend[i]? = some (s, xs) ∧ Dat w base kb sb v xs
/-- The blocks that a call on the disk may turn. -/
def DF (b kb sb : Nat) (vp : Value) (k : Nat) : Prop := k = b ∨ k = kb ∨ k = sb ∨ vp.ownBlock = some k

theorem DskAt.typed {w : World} {base b kb sb : Nat} {vp : Value} {D : Dsk} (h : DskAt w base b kb sb vp D) : ∀ k cs, DF b kb sb vp k → w.heap[k]? = some (.cells cs 5 (0, 0)) → k = kb ∨ k = sb := by
  rintro k cs (rfl | rfl | rfl | hk) hc
  · have := h.blk
    rw [hc] at this
    simp at this
  · exact .inl rfl
  · exact .inr rfl
  · obtain ⟨PV, ho, _⟩ := h.pend
    obtain ⟨cs', hc'⟩ := own_typed ho k hk
    rw [hc] at hc'
    simp at hc'
theorem Dat.disk {w w' : World} {base base' b kb sb : Nat} {vp v : Value} {D : Dsk} {xs : List Int} (h : Dat w base' kb sb v xs) (hd : DskAt w base b kb sb vp D) (hk : KS w w' (DF b kb sb vp)) : Dat w' base' kb sb v xs := h.keep hk hd.typed
/-- The disk stays where none of its blocks is turned. -/
theorem DskAt.stay {w w' : World} {base b kb sb : Nat} {vp : Value} {D : Dsk} {S : Nat → Prop} (h : DskAt w base b kb sb vp D) (hk : KS w w' S) (hS : ∀ k, S k → ¬ DF b kb sb vp k) (hT : ∀ k cs, S k → w.heap[k]? ≠ some (.cells cs 5 (0, 0))) : DskAt w' base b kb sb vp D where
  blk := (hk.block (blk_lt h.blk) fun hs => hS _ hs (.inl rfl)).trans h.blk
  kept := (hk.block (blk_lt h.kept) fun hs => hS _ hs (.inr (.inl rfl))).trans h.kept
  seen := (hk.block (blk_lt h.seen) fun hs => hS _ hs (.inr (.inr (.inl rfl)))).trans h.seen
  ne := h.ne
  bb := h.bb
  bk := h.bk
  bs := h.bs
  len := h.len
  pend := by
    obtain ⟨PV, ho, h1, h2⟩ := h.pend
    refine ⟨PV, own_move ho fun k hk' => hk.block (own_lt ho k hk') fun hs => hS _ hs (.inr (.inr (.inr hk'))), h1, fun i s v hi => ?_⟩
    obtain ⟨xs, h3, h4⟩ := h2 i s v hi
    exact ⟨xs, h3, h4.keep hk fun k cs hs hc => absurd hc (hT k cs hs)⟩
theorem DskAt.below {w w' : World} {base b kb sb : Nat} {vp : Value} {D : Dsk} (h : DskAt w base b kb sb vp D) (hb : Below w.heap.size w w') : DskAt w' base b kb sb vp D :=
  h.stay (KS.of_below hb (fun _ => False)) (fun k hs => hs.elim) (fun k cs hs => hs.elim)
theorem DF_base {w : World} {base b kb sb : Nat} {vp : Value} {D : Dsk} (h : DskAt w base b kb sb vp D) {k : Nat} (hk : DF b kb sb vp k) : base ≤ k := by
  rcases hk with rfl | rfl | rfl | hk
  · exact h.bb
  · exact h.bk
  · exact h.bs
  · obtain ⟨PV, ho, _⟩ := h.pend
    exact own_base ho k hk

theorem byte_cell {w : World} {b : Nat} {xs : List Int} (h : w.heap[b]? = some (.cells (bts xs) 5 (0, 0))) (i : Nat) (hi : i < xs.length) : w.cell? ⟨b, i, none⟩ = some (.int .u8 xs[i]) := by
  rw [blk_cell h i]
  simp [bts, hi]

/-! ### Len, check, spend -/
theorem len_nil (w : World) : Calls Try.prog 25 #[.pointer none] w fun e w' => e = .returned (.int .i64 0) ∧ w = w' := by
  go_enter Try.func25, Try.ntmps25
  go_wp2
  go_ret
  exact ⟨rfl, rfl⟩
theorem len_calls (w : World) (base b kb sb : Nat) (vp : Value) (D : Dsk) (h : DskAt w base b kb sb vp D) (n : Nat) (hn : D.seen.length = 32 * n) (hl : n ≤ 8192) : Calls Try.prog 25 #[.pointer (some ⟨b, 0, none⟩)] w fun e w' => e = .returned (.int .i64 (n : Int)) ∧ w = w' := by
  have c1 : w.cell? ⟨b, 1, none⟩ = some (.slice (some ⟨sb, 0, none⟩) D.seen.length D.seen.length) := (blk_cell h.blk 1).trans rfl
  rw [hn] at c1
  obtain ⟨m, hm⟩ : ∃ m, m = 32 * n := ⟨_, rfl⟩
  rw [← hm] at c1
  have hq : (m : Int) / 32 = (n : Int) := by omega
  have hm2 : m ≤ 300000 := by omega
  have HQ := Aside0.mk hq
  clear h hn hm hq
  go_enter Try.func25, Try.ntmps25
  go_wp2
  go_ret
  exact ⟨by show Ending.returned (.int .i64 ((m : Int) / 32)) = _; rw [HQ.out], rfl⟩
end Go.Proofs.Ytppaainapcpnhaa.Sh
