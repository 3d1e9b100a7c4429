/- effect.Prim: the table's words, one by one. -/
import Derived.Test.YtbhkkmjifjmpiaaDoorQ
import Derived.Test.YtbhkkmjifjmpiaaDoorShelf
import Derived.Lib.Hide
import Derived.Deep.LoopGhost
namespace Go.Proofs.YtbhkkmjifjmpiaaDoor.E
open Go.RowKit Go.Proofs.YtbhkkmjifjmpiaaDoorW.PrintWords Go.Proofs.YtbhkkmjifjmpiaaDoorW.PrintLast Go.Proofs.YtbhkkmjifjmpiaaDoorW.PrintMore
set_option linter.unusedVariables false
set_option linter.unusedSimpArgs false

def tableL : List UInt8 := [49, 50, 58, 100, 117, 112, 32, 49, 48, 58, 100, 114, 111, 112, 32, 50, 50, 58, 115, 119, 97, 112, 32, 50, 51, 58, 111, 118, 101, 114, 32, 51, 51, 58, 114, 111, 116, 32, 50, 49, 58, 110, 105, 112, 32, 50, 51, 58, 116, 117, 99, 107, 32, 50, 49, 58, 43, 32, 50, 49, 58, 45, 32, 50, 49, 58, 42, 32, 50, 49, 58, 47, 32, 50, 49, 58, 109, 111, 100, 32, 49, 49, 58, 110, 101, 103, 32, 49, 49, 58, 97, 98, 115, 32, 50, 49, 58, 109, 105, 110, 32, 50, 49, 58, 109, 97, 120, 32, 50, 49, 58, 60, 32, 50, 49, 58, 62, 32, 50, 49, 58, 61, 32, 50, 49, 58, 97, 110, 100, 32, 50, 49, 58, 111, 114, 32, 49, 49, 58, 110, 111, 116, 32, 49, 49, 58, 105, 110, 116, 63, 32, 49, 49, 58, 115, 116, 114, 63, 32, 49, 49, 58, 98, 111, 111, 108, 63, 32, 49, 49, 58, 108, 105, 115, 116, 63, 32, 49, 49, 58, 113, 117, 111, 116, 63, 32, 49, 49, 58, 98, 111, 120, 63, 32, 49, 49, 58, 108, 101, 110, 103, 116, 104, 32, 50, 49, 58, 97, 112, 112, 101, 110, 100, 32, 50, 49, 58, 110, 116, 104, 32, 51, 49, 58, 115, 108, 105, 99, 101, 32, 49, 49, 58, 119, 114, 97, 112, 32, 50, 49, 58, 112, 97, 105, 114, 32, 49, 50, 58, 117, 110, 112, 97, 105, 114, 32, 49, 49, 58, 114, 101, 118, 101, 114, 115, 101, 32, 50, 49, 58, 99, 117, 114, 114, 121, 32, 50, 49, 58, 99, 111, 109, 112, 111, 115, 101, 32, 49, 49, 58, 62, 115, 116, 114, 32, 49, 49, 58, 62, 105, 110, 116, 32, 99, 97, 108, 108, 32, 100, 105, 112, 32, 107, 101, 101, 112, 32, 105, 102, 32, 119, 104, 101, 110, 32, 116, 105, 109, 101, 115, 32, 101, 97, 99, 104, 32, 108, 111, 111, 112, 32, 49, 49, 58, 98, 111, 120, 32, 49, 49, 58, 103, 101, 116, 32, 50, 48, 58, 112, 117, 116, 32, 49, 48, 58, 46]
def words : List (List UInt8) := Lib.fields tableL
theorem words_len : words.length = 52 := by decide +kernel

/-- The first of the words that tells of this name. -/
def lookP : List (List UInt8) → List UInt8 → Int × Int × Bool
  | [], _ => (0, 0, false)
  | l :: r, nm => if (Lib.cut l [58]).2.2 = true ∧ (Lib.cut l [58]).2.1 = nm then ((((Lib.cut l [58]).1.getD 0 48).toNat : Int) - 48, (((Lib.cut l [58]).1.getD 1 48).toNat : Int) - 48, true) else lookP r nm

/-- A word that tells of a name tells two digits ahead of it. -/
theorem words_two : ∀ l ∈ words, (Lib.cut l [58]).2.2 = true → (Lib.cut l [58]).1.length = 2 ∧ 48 ≤ ((Lib.cut l [58]).1.getD 0 48).toNat ∧ ((Lib.cut l [58]).1.getD 0 48).toNat ≤ 57 ∧ 48 ≤ ((Lib.cut l [58]).1.getD 1 48).toNat ∧ ((Lib.cut l [58]).1.getD 1 48).toNat ≤ 57 := by decide +kernel
theorem words_short : ∀ l ∈ words, l.length ≤ 100 := by decide +kernel
theorem table_ascii : ∀ b ∈ tableL, b.toNat < 128 := by decide +kernel

theorem tab_below {w w' : World} (h : Lib.TabIs Tryd.prog w "strings.asciiSpace" .u8 Lib.asciiSpaceTab) (hb : Below w.heap.size w w') : Lib.TabIs Tryd.prog w' "strings.asciiSpace" .u8 Lib.asciiSpaceTab := by
  obtain ⟨g, hgn⟩ : ∃ g, Tryd.prog.globalNamed "strings.asciiSpace" = some g := Option.isSome_iff_exists.1 (by kernel_rfl)
  unfold Lib.TabIs World.var? at h ⊢
  rw [hgn] at h ⊢
  simp only [Option.bind_some] at h ⊢
  have hlt : g < w.heap.size := by
    rcases Nat.lt_or_ge g w.heap.size with h' | h'
    · exact h'
    · rw [Array.getElem?_eq_none h'] at h; cases h
  rw [hb.block g hlt]
  exact h

/-- strings.Fields of the table. -/
theorem fields_table (w : World) (htab : Lib.TabIs Tryd.prog w "strings.asciiSpace" .u8 Lib.asciiSpaceTab) : Calls Tryd.prog 9 #[.string ⟨tableL.toArray⟩] w fun e w' =>
    e = .returned (.slice (some ⟨w.heap.size, 0, none⟩) words.length words.length) ∧ w' = w.alloc (.cells (words.map fun l => Value.string ⟨l.toArray⟩).toArray 9) :=
  Tryd.strings_Fields_laid ⟨tableL.toArray⟩ w (by decide +kernel) (fun j b hj => table_ascii b (List.mem_of_getElem? hj)) htab

theorem lookP_drop {j : Nat} {nm : List UInt8} (hj : j < words.length) : lookP (words.drop j) nm = if (Lib.cut words[j] [58]).2.2 = true ∧ (Lib.cut words[j] [58]).2.1 = nm then ((((Lib.cut words[j] [58]).1.getD 0 48).toNat : Int) - 48, (((Lib.cut words[j] [58]).1.getD 1 48).toNat : Int) - 48, true) else lookP (words.drop (j + 1)) nm := by
  rw [List.drop_eq_getElem_cons hj]
  rfl

set_option maxHeartbeats 4000000 in
set_option maxRecDepth 100000 in
theorem prim_walk (w : World) (s : ByteArray) (m : Int) (hm : w.cell? ⟨2, 0, none⟩ = some (.int .i64 m)) (htab : Lib.TabIs Tryd.prog w "strings.asciiSpace" .u8 Lib.asciiSpaceTab) :
    Calls Tryd.prog 5 #[.string s] w fun e w' => e = .returned (.tuple #[.agg #[.int .i64 (lookP words s.toList).1, .int .i64 (lookP words s.toList).2.1], .bool (lookP words s.toList).2.2]) ∧ Below w.heap.size w w' := by
  have hF := fields_table (w.alloc (.cells #[.int .i64 0, .int .i64 0] 23)) (tab_below htab (below_alloc (Below.refl _ _) _))
  have HF := Lib.hid hF
  have HM := Aside0.mk hm
  have hwl := words_len
  clear hm htab hF
  go_enter Tryd.func5, Tryd.ntmps5
  go_wp2_with fail
  refine HF.out.mono ?_
  rintro e w1 ⟨rfl, rfl⟩
  go_wp2_with fail
  obtain ⟨W1, hW1⟩ : ∃ W1, W1 = (w.alloc (.cells #[.int .i64 0, .int .i64 0] 23)).alloc (.cells (words.map fun l => Value.string ⟨l.toArray⟩).toArray 9) := ⟨_, rfl⟩
  rw [← hW1]
  have hB1 : Below w.heap.size w W1 := hW1 ▸ below_alloc (below_alloc (Below.refl _ _) _) _
  have hc : ∀ j (hj : j < words.length), W1.cell? ⟨w.heap.size + 1, j, none⟩ = some (.string ⟨(words[j]).toArray⟩) := fun j hj => by
    have h1 : W1.heap[w.heap.size + 1]? = some (.cells (words.map fun l => Value.string ⟨l.toArray⟩).toArray 9 (0, 0)) := by
      rw [hW1]
      have := heap_alloc_new (w.alloc (.cells #[.int .i64 0, .int .i64 0] 23)) (.cells (words.map fun l => Value.string ⟨l.toArray⟩).toArray 9)
      simpa using this
    simp [World.cell?, h1, hj]
  have hg : W1.heap[w.heap.size]? = some (.cells #[.int .i64 0, .int .i64 0] 23 (0, 0)) := by
    rw [hW1, Below.heap_alloc _ _ _ (by simp)]
    exact heap_alloc_new w _
  have hm1 : W1.cell? ⟨2, 0, none⟩ = some (.int .i64 m) := by
    have hlt : 2 < w.heap.size := World.block_lt_of_cell? _ _ HM.out
    exact (World.cell?_of_block (hB1.block 2 hlt)).trans HM.out
  have HB1 := Aside0.mk hB1
  have HC := Aside0.mk hc
  have HG := Aside0.mk hg
  have g0 : W1.cell? ⟨w.heap.size, 0, none⟩ = some (.int .i64 0) := by simp [World.cell?, hg]
  have g1 : W1.cell? ⟨w.heap.size, 1, none⟩ = some (.int .i64 0) := by simp [World.cell?, hg]
  have gf0 : W1.frozen? ⟨w.heap.size, 0, none⟩ = false := by simp [World.frozen?, hg]
  have gf1 : W1.frozen? ⟨w.heap.size, 1, none⟩ = false := by simp [World.frozen?, hg]
  have HM1 := Aside0.mk hm1
  clear hB1 hc hg hm1 hW1
  go_loopg [11] (words.length + 1) (fun kq u11 w' => ∃ j : Nat, u11 = .int .i64 (j : Int) ∧ j ≤ words.length ∧ kq + j = words.length + 1 ∧ lookP words s.toList = lookP (words.drop j) s.toList ∧ ∃ m, w' = W1.drewN m)
  case atStart => exact ⟨0, rfl, by omega, by omega, rfl, 0, rfl⟩
  · obtain ⟨j, rfl, hj, hkj, hlk, n, rfl⟩ := hrel
    by_cases hlt : j < words.length
    · rw [lookP_drop hlt] at hlk
      have hcj := HC.out j hlt
      have hmem : words[j] ∈ words := List.getElem_mem hlt
      have h2 := words_two _ hmem
      have hsh := words_short _ hmem
      have hjz : decide ((j : Int) < 52) = true := decide_eq_true (by omega)
      generalize words[j] = l at *
      have hcut := Tryd.strings_Cut ⟨l.toArray⟩ ⟨#[58]⟩ m (W1.drewN n) (by show l.toArray.size < _; simp; omega) HM1.out
      obtain ⟨own, hown⟩ : ∃ x, x = (Lib.cut l [58]).1 := ⟨_, rfl⟩
      obtain ⟨kn, hkn⟩ : ∃ x, x = (Lib.cut l [58]).2.1 := ⟨_, rfl⟩
      obtain ⟨ok, hok⟩ : ∃ x, x = (Lib.cut l [58]).2.2 := ⟨_, rfl⟩
      have ecut : Lib.cut (⟨l.toArray⟩ : ByteArray).data.toList (⟨#[58]⟩ : ByteArray).data.toList = (own, kn, ok) := by rw [hown, hkn, hok]
      rw [ecut] at hcut
      rw [← hown, ← hkn, ← hok] at hlk
      rw [← hown, ← hok] at h2
      have HCUT := Lib.hid hcut
      have HLK := Aside0.mk hlk
      have H2 := Aside0.mk h2
      clear hcut hlk h2 ecut hown hkn hok hmem
      cases gk with
      | zero => omega
      | succ g2 =>
        go_wp2_with fail
        refine HCUT.out.mono ?_
        rintro e w2 ⟨rfl, n2, rfl⟩
        cases ok with
        | false =>
          go_wp2_with fail
          go_roundg g2
          case measure => omega
          case rel => exact ⟨j + 1, by push_cast; rfl, by omega, by omega, (HLK.out).trans (if_neg (by simp)), _, rfl⟩
        | true =>
          by_cases hk : kn = s.toList
          · have hkb : (kn == s.toList) = true := beq_iff_eq.mpr hk
            obtain ⟨hl2, ha0, ha1, hb0, hb1⟩ := H2.out rfl
            obtain ⟨a, b, rfl⟩ : ∃ a b, own = [a, b] := by
              rcases own with _ | ⟨a, _ | ⟨b, _ | ⟨c, r⟩⟩⟩
              · simp at hl2
              · simp at hl2
              · exact ⟨a, b, rfl⟩
              · simp at hl2
            simp only [List.getD_cons_zero, List.getD_cons_succ] at ha0 ha1 hb0 hb1
            go_upto_region 6 with fail
            go_region
            go_wp2
            refine bodyPost_ret (results_ct rfl _ _ w.heap.size 23 #[.int .i64 (((a.toNat : Int) - 48) % 256), .int .i64 (((b.toNat : Int) - 48) % 256)] (0, 0) _ rfl (by refine blk_put (cs := #[.int .i64 (((a.toNat : Int) - 48) % 256), .int .i64 0]) ?_ 1 _ rfl; refine blk_put (cs := #[.int .i64 0, .int .i64 0]) ?_ 0 _ rfl; refine blk_drewN ?_ _; exact HG.out) Tryd.underlying23 rfl (by kernel_rfl)) rfl ?_
            rw [HLK.out, if_pos (by simp [hk])]
            have ea : ((a.toNat : Int) - 48) % 256 = (a.toNat : Int) - 48 := by omega
            have eb : ((b.toNat : Int) - 48) % 256 = (b.toNat : Int) - 48 := by omega
            rw [ea, eb]
            refine ⟨rfl, ?_⟩
            exact below_set (below_set (pw_below_drewN HB1.out _) (Nat.le_refl _)) (Nat.le_refl _)
          · have hkb : (kn == s.toList) = false := beq_eq_false_iff_ne.mpr hk
            go_wp2_with fail
            go_roundg g2
            case measure => omega
            case rel => exact ⟨j + 1, by push_cast; rfl, by omega, by omega, (HLK.out).trans (if_neg (fun h => hk h.2)), _, rfl⟩
    · have hjz : decide ((j : Int) < 52) = false := decide_eq_false (by omega)
      rw [List.drop_eq_nil_of_le (by omega)] at hlk
      have HLK := Aside0.mk hlk
      clear hlk
      go_wp2_with fail
      refine bodyPost_ret (results_ct rfl _ _ w.heap.size 23 #[.int .i64 0, .int .i64 0] (0, 0) _ rfl (by refine blk_put (cs := #[.int .i64 0, .int .i64 0]) ?_ 1 _ rfl; refine blk_put (cs := #[.int .i64 0, .int .i64 0]) ?_ 0 _ rfl; refine blk_drewN ?_ _; exact HG.out) Tryd.underlying23 rfl (by kernel_rfl)) rfl ?_
      rw [HLK.out]
      refine ⟨rfl, ?_⟩
      exact below_set (below_set (pw_below_drewN HB1.out _) (Nat.le_refl _)) (Nat.le_refl _)
end Go.Proofs.YtbhkkmjifjmpiaaDoor.E
