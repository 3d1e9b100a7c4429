/- The store in memory; its root; check, Epoch, Get, Put. -/
import Derived.Test.YtppaainapcpnhaaSNew
import Derived.StillTailTactics
namespace Go.Proofs.Ytppaainapcpnhaa.Sh
open Go Go.RowKit Go.Proofs.YtppaainapcpnhaaW.PrintWords Go.Proofs.YtppaainapcpnhaaW.PrintLast Go.Proofs.YtppaainapcpnhaaW.PrintMore Go.Proofs.Ytppaainapcpnhaa.MapKit Go.Maps Go.Proofs.Ytppaainapcpnhaa.ApartKit Go.Proofs.Ytppaainapcpnhaa.Q
attribute [local go_sem] max2_int min2_int max_two min_two max_three min_three max_four min_four
set_option linter.unusedVariables false
set_option linter.unusedSimpArgs false

/-- A store: which root counts, the epoch, the table's pages, the pages that are kept and that are now (where they lie, what they hold), is it dead? -/
structure Sto where
  root : Int
  epoch : Int
  tables : List Int
  kept : Int → Option (Int × List Int)
  now : Int → Option (Int × List Int)
  dead : Bool

/-- Pages in a map. -/
def PMap (w : World) (base kb sb m n : Nat) (F : Int → Option (Int × List Int)) : Prop :=
  ∃ G : Int → Option Value, MapIs Try.prog 3 w m n (ofInt .i64 G) ∧ ∀ i, (F i = none → G i = none) ∧ ∀ p, F i = some p → ∃ v, G i = some (.agg #[.int .i64 p.1, v]) ∧ Dat w base kb sb v p.2
theorem PMap.made (w : World) (base kb sb : Nat) : PMap (w.alloc (.map #[] 0)) base kb sb w.heap.size 0 (fun _ => none) :=
  ⟨fun _ => none, (MapIs.made w Try.prog 3).congr fun s => by cases s <;> simp [ofInt], fun i => ⟨fun _ => rfl, fun p h => by cases h⟩⟩
theorem PMap.keep {w w' : World} {base kb sb m n : Nat} {F : Int → Option (Int × List Int)} {S : Nat → Prop} (h : PMap w base kb sb m n F) (hk : KS w w' S) (hm : ¬ S m) (hS : ∀ k cs, S k → w.heap[k]? = some (.cells cs 5 (0, 0)) → k = kb ∨ k = sb) : PMap w' base kb sb m n F := by
  obtain ⟨G, h1, h2⟩ := h
  refine ⟨G, h1.move (hk.block h1.lt hm), fun i => ⟨(h2 i).1, fun p hp => ?_⟩⟩
  obtain ⟨v, h3, h4⟩ := (h2 i).2 p hp
  exact ⟨v, h3, h4.keep hk hS⟩
theorem PMap.lt {w : World} {base kb sb m n : Nat} {F : Int → Option (Int × List Int)} (h : PMap w base kb sb m n F) : m < w.heap.size := by
  obtain ⟨G, h1, _⟩ := h
  exact h1.lt
theorem PMap.block {w : World} {base kb sb m n : Nat} {F : Int → Option (Int × List Int)} (h : PMap w base kb sb m n F) : ∃ es clock, w.heap[m]? = some (.map es clock) := by
  obtain ⟨G, ⟨D, ⟨es, clock, h1, _⟩, _⟩, _⟩ := h
  exact ⟨es, clock, h1⟩
theorem PMap.ne_cells {w : World} {base kb sb m n : Nat} {F : Int → Option (Int × List Int)} (h : PMap w base kb sb m n F) {k : Nat} {cs : Array Value} {t : TypeId} {fr : Nat × Nat} (hc : w.heap[k]? = some (.cells cs t fr)) : k ≠ m := fun e => by
  obtain ⟨es, clock, h1⟩ := h.block
  rw [e, h1] at hc
  cases hc
theorem PMap.mono {w : World} {base kb sb m n n' : Nat} {F : Int → Option (Int × List Int)} (h : PMap w base kb sb m n F) (hn : n ≤ n') : PMap w base kb sb m n' F := by
  obtain ⟨G, h1, h2⟩ := h
  exact ⟨G, h1.mono hn, h2⟩

/-- The store in memory: its block s, its disk's block b, the maps km and nm, the row vt of the table's pages. -/
structure StoAt (w : World) (base s b kb sb km nm : Nat) (vt : Value) (nk nn : Nat) (T : Sto) : Prop where
  blk : w.heap[s]? = some (.cells #[.pointer (some ⟨b, 0, none⟩), .int .i64 T.root, .int .u64 T.epoch, vt, .map (some km), .map (some nm), .bool T.dead] 76 (0, 0))
  tabs : w.ownsRow base 3 1 vt T.tables.length (T.tables.map (.int .i64))
  kept : PMap w base kb sb km nk T.kept
  now : PMap w base kb sb nm nn T.now
  ne : km ≠ nm
  bs : base ≤ s
  bk : base ≤ km
  bn : base ≤ nm

/-- The store stays where only blocks of the disk are turned (and new ones come). -/
theorem StoAt.disk {w w' : World} {base s b kb sb km nm : Nat} {vt vp : Value} {nk nn : Nat} {T : Sto} {D : Dsk} (h : StoAt w base s b kb sb km nm vt nk nn T) (hd : DskAt w base b kb sb vp D) (hk : KS w w' (DF b kb sb vp)) : StoAt w' base s b kb sb km nm vt nk nn T := by
  have typ : ∀ k, DF b kb sb vp k → ∃ cs t, w.heap[k]? = some (Obj.cells cs t (0, 0)) ∧ t ≠ 76 ∧ t ≠ 3 := fun k hk => by
    rcases hk with rfl | rfl | rfl | hk
    · exact ⟨_, _, hd.blk, by decide, by decide⟩
    · exact ⟨_, _, hd.kept, by decide, by decide⟩
    · exact ⟨_, _, hd.seen, by decide, by decide⟩
    · obtain ⟨PV, ho, _⟩ := hd.pend
      obtain ⟨cs, hc⟩ := own_typed ho k hk
      exact ⟨cs, _, hc, by decide, by decide⟩
  have nm_ : ∀ {m n F}, PMap w base kb sb m n F → ¬ DF b kb sb vp m := fun {m n F} hm hd' => by
    obtain ⟨cs, t, hc, _⟩ := typ _ hd'
    exact hm.ne_cells hc rfl
  exact
  { blk := (hk.block (blk_lt h.blk) fun hs => by
      obtain ⟨cs, t, hc, h1, _⟩ := typ s hs
      rw [h.blk] at hc
      simp at hc
      exact h1 hc.2.symm).trans h.blk
    tabs := own_move h.tabs fun k hk' => hk.block (own_lt h.tabs k hk') fun hs => by
      obtain ⟨cs, t, hc, _, h2⟩ := typ k hs
      obtain ⟨cs', hc'⟩ := own_typed h.tabs k hk'
      rw [hc'] at hc
      simp at hc
      exact h2 hc.2.symm
    kept := h.kept.keep hk (nm_ h.kept) hd.typed
    now := h.now.keep hk (nm_ h.now) hd.typed
    ne := h.ne, bs := h.bs, bk := h.bk, bn := h.bn }
theorem StoAt.below {w w' : World} {base s b kb sb km nm : Nat} {vt : Value} {nk nn : Nat} {T : Sto} (h : StoAt w base s b kb sb km nm vt nk nn T) (hb : Below w.heap.size w w') : StoAt w' base s b kb sb km nm vt nk nn T where
  blk := blk_below h.blk hb
  tabs := pw_own_below h.tabs hb
  kept := h.kept.keep (KS.of_below hb (fun _ => False)) id (fun k cs hs => hs.elim)
  now := h.now.keep (KS.of_below hb (fun _ => False)) id (fun k cs hs => hs.elim)
  ne := h.ne
  bs := h.bs
  bk := h.bk
  bn := h.bn
/-- The disk stays where the store is turned: its block and its maps. -/
def SF (s km nm : Nat) (k : Nat) : Prop := k = s ∨ k = km ∨ k = nm
theorem DskAt.store {w w' : World} {base s b kb sb km nm : Nat} {vt vp : Value} {nk nn : Nat} {T : Sto} {D : Dsk} (hd : DskAt w base b kb sb vp D) (h : StoAt w base s b kb sb km nm vt nk nn T) (hk : KS w w' (SF s km nm)) : DskAt w' base b kb sb vp D := by
  have mp : ∀ {m n F k cs t fr}, PMap w base kb sb m n F → w.heap[k]? = some (Obj.cells cs t fr) → m ≠ k := fun hm hc e => hm.ne_cells hc e.symm
  refine hd.stay hk (fun k hs hdf => ?_) (fun k cs hs hc => ?_)
  · have key : ∃ cs t, w.heap[k]? = some (Obj.cells cs t (0, 0)) ∧ t ≠ 76 := by
      rcases hdf with rfl | rfl | rfl | hk'
      · exact ⟨_, _, hd.blk, by decide⟩
      · exact ⟨_, _, hd.kept, by decide⟩
      · exact ⟨_, _, hd.seen, by decide⟩
      · obtain ⟨PV, ho, _⟩ := hd.pend
        obtain ⟨cs, hc⟩ := own_typed ho k hk'
        exact ⟨cs, _, hc, by decide⟩
    obtain ⟨cs, t, hc, ht⟩ := key
    rcases hs with rfl | rfl | rfl
    · rw [h.blk] at hc
      simp at hc
      exact ht hc.2.symm
    · exact mp h.kept hc rfl
    · exact mp h.now hc rfl
  · rcases hs with rfl | rfl | rfl
    · rw [h.blk] at hc
      simp at hc
    · exact mp h.kept hc rfl
    · exact mp h.now hc rfl

/-! ### check -/
def chkS (dead : Bool) (i : Int) : Int := if dead = true then 3 else if i < 0 ∨ 728 ≤ i then 4 else 0
theorem scheck_nil (w : World) (i : Int) : Calls Try.prog 32 #[.pointer none, .int .i64 i] w fun e w' => e = .returned (.int .i64 2) ∧ w = w' := by
  go_enter Try.func32, Try.ntmps32
  go_wp2
  go_ret
  exact ⟨rfl, rfl⟩
theorem scheck_calls (w : World) (s : Nat) (dead : Bool) (hc : w.cell? ⟨s, 6, none⟩ = some (.bool dead)) (i : Int) :
    Calls Try.prog 32 #[.pointer (some ⟨s, 0, none⟩), .int .i64 i] w fun e w' => e = .returned (.int .i64 (chkS dead i)) ∧ w = w' := by
  cases dead with
  | true =>
    go_enter Try.func32, Try.ntmps32
    go_wp2
    go_ret
    exact ⟨rfl, rfl⟩
  | false =>
    obtain ⟨r, hr⟩ : ∃ r, r = chkS false i := ⟨_, rfl⟩
    rw [← hr]
    unfold chkS at hr
    rw [if_neg (by decide)] at hr
    by_cases h2 : i < 0
    · have h3 : decide (i < 0) = true := decide_eq_true h2
      obtain rfl : r = 4 := by rw [hr, if_pos (.inl h2)]
      clear hr
      go_enter Try.func32, Try.ntmps32
      go_wp2
      go_ret
      exact ⟨rfl, rfl⟩
    · have h3 : decide (i < 0) = false := decide_eq_false h2
      by_cases h4 : 728 ≤ i
      · have h5 : decide (728 ≤ i) = true := decide_eq_true h4
        obtain rfl : r = 4 := by rw [hr, if_pos (.inr h4)]
        clear hr
        go_enter Try.func32, Try.ntmps32
        go_wp2
        go_ret
        exact ⟨rfl, rfl⟩
      · have h5 : decide (728 ≤ i) = false := decide_eq_false h4
        obtain rfl : r = 0 := by rw [hr, if_neg (by omega)]
        clear hr
        go_enter Try.func32, Try.ntmps32
        go_wp2
        go_ret
        exact ⟨rfl, rfl⟩

/-! ### Epoch -/
theorem epoch_nil (w : World) : Calls Try.prog 22 #[.pointer none] w fun e w' => e = .returned (.int .u64 0) ∧ w = w' := by
  go_enter Try.func22, Try.ntmps22
  go_wp2
  go_ret
  exact ⟨rfl, rfl⟩
theorem epoch_calls (w : World) (s : Nat) (ep : Int) (hc : w.cell? ⟨s, 6, none⟩ = some (.bool false)) (he : w.cell? ⟨s, 2, none⟩ = some (.int .u64 ep)) : Calls Try.prog 22 #[.pointer (some ⟨s, 0, none⟩)] w fun e w' => e = .returned (.int .u64 ep) ∧ w = w' := by
  go_enter Try.func22, Try.ntmps22
  go_wp2
  go_ret
  exact ⟨rfl, rfl⟩
end Go.Proofs.Ytppaainapcpnhaa.Sh
