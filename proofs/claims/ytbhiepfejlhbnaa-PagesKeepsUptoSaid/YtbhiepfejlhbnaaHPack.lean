/- A page's bytes, and what they hold: pages.Pack, pages.Unpack, awake. -/
import Derived.Test.YtbhiepfejlhbnaaHPages
import Derived.Test.YtbhiepfejlhbnaaSumKeepsAid
namespace Go.Proofs.Ytbhiepfejlhbnaa.Q
open Go.RowKit Go.Proofs.YtbhiepfejlhbnaaW.PrintWords Go.Proofs.YtbhiepfejlhbnaaW.PrintLast Go.Proofs.YtbhiepfejlhbnaaW.PrintMore Go.Proofs.Ytbhiepfejlhbnaa.ApartKit Go.Proofs.Ytbhiepfejlhbnaa.HApart
set_option linter.unusedVariables false
set_option linter.unusedSimpArgs false

/-- A number's four bytes. -/
def le4 (a : Int) : List Int := [a % 256, a / 256 % 256, a / 65536 % 256, a / 16777216 % 256]
/-- A page's bytes behind its sum. -/
def restS (id : Int) (d : List Int) : List Int := le4 id ++ (le4 d.length ++ (d ++ List.replicate (116 - d.length) 0))
def pageS (s id : Int) (d : List Int) : List Int := le4 s ++ restS id d
theorem restS_len {id : Int} {d : List Int} (h : d.length ≤ 116) : (restS id d).length = 124 := by
  simp only [restS, le4, List.length_append, List.length_cons, List.length_nil, List.length_replicate]
  omega
theorem pageS_len {s id : Int} {d : List Int} (h : d.length ≤ 116) : (pageS s id d).length = 128 := by
  rw [pageS, List.length_append, restS_len h]; rfl

def z8 : Value := .int .u8 0
def v4 (a : Int) : List Value := (le4 a).map (.int .u8)
theorem lay_1 (id n : Int) : put4 (put4 (List.replicate 128 z8) 4 id) 8 n = [z8, z8, z8, z8] ++ (v4 id ++ (v4 n ++ List.replicate 116 z8)) := rfl
theorem lay_2 (id n : Int) (d : List Value) : splice ([z8, z8, z8, z8] ++ (v4 id ++ (v4 n ++ List.replicate 116 z8))) 12 d = [z8, z8, z8, z8] ++ (v4 id ++ (v4 n ++ (d ++ List.replicate (116 - d.length) z8))) := by
  have e1 : ([z8, z8, z8, z8] ++ (v4 id ++ (v4 n ++ List.replicate 116 z8))) = ([z8, z8, z8, z8] ++ (v4 id ++ v4 n)) ++ List.replicate 116 z8 := by simp only [List.append_assoc]
  have e2 : ([z8, z8, z8, z8] ++ (v4 id ++ v4 n)).length = 12 := rfl
  have e3 : (([z8, z8, z8, z8] ++ (v4 id ++ v4 n)) ++ List.replicate 116 z8).take 12 = [z8, z8, z8, z8] ++ (v4 id ++ v4 n) := List.take_left' (l₁ := [z8, z8, z8, z8] ++ (v4 id ++ v4 n)) e2
  have e4 : (([z8, z8, z8, z8] ++ (v4 id ++ v4 n)) ++ List.replicate 116 z8).drop (12 + d.length) = List.replicate (116 - d.length) z8 := by
    rw [List.drop_append, e2, List.drop_eq_nil_of_le (by rw [e2]; omega), List.nil_append, List.drop_replicate]
    congr 1
    omega
  rw [e1, splice, e3, e4]
  simp only [List.append_assoc]
theorem lay_3 (s : Int) (l : List Value) : put4 ([z8, z8, z8, z8] ++ l) 0 s = v4 s ++ l := rfl
theorem lay_rest (id : Int) (d : List Int) : v4 id ++ (v4 d.length ++ (d.map (.int .u8) ++ List.replicate (116 - (d.map (Value.int .u8)).length) z8)) = (restS id d).map (.int .u8) := by
  simp only [restS, List.map_append, List.map_replicate, List.length_map]
  rfl

theorem C_off {w : World} {base e N c b off : Nat} {k : IntKind} {cs : List Value} {xs : List Int} (h : w.ownsRow base e 1 (.slice (some ⟨b, 0, none⟩) N c) N cs) (hx : ∀ (j : Nat) (x : Int), xs[j]? = some x → cs[off + j]? = some (Value.int k x)) (hl : off + xs.length ≤ N) (hm : N ≤ 1000000000000) :
    (Kd.int k).C w (some ⟨b, off, none⟩) xs.length xs := by
  refine ⟨rfl, by omega, fun hn => ⟨_, rfl, fun j p hj => ⟨[.int k p], rfl, rfl, fun i u hu => ?_⟩⟩⟩
  cases i with
  | zero =>
    simp only [List.getElem?_cons_zero, Option.some.injEq] at hu
    subst hu
    have hsz : (Kd.int k).sz = 1 := rfl
    rw [hsz, Nat.mul_one, Nat.add_zero, Addr.add_lit]
    exact own_cell h (hx j p hj)
  | succ i => simp at hu

theorem sizeB : (Try.prog.info? 5).map (·.size) = some 1 := by kernel_rfl
theorem made_one (v : Value) (n : Nat) : (madeCells #[v] n).toList = List.replicate n v := by
  unfold madeCells
  rw [Array.toList_map]
  apply List.ext_getElem
  · simp
  · intro i h1 h2
    simp [Nat.mod_one]
theorem pack_zeros : (madeCells (Value.int .u8 0).cells (128 * 1)).toList = List.replicate 128 z8 := made_one _ _

set_option maxHeartbeats 4000000 in
set_option maxRecDepth 100000 in
theorem pack_large (w : World) (id : Int) (A : Option Addr) (c : Nat) (d : List Int) (hl : 116 < d.length) (hl2 : d.length ≤ 2000000) :
    Calls Try.prog 22 #[.int .u32 id, .slice A d.length c] w fun e w' => e = .returned (.tuple #[.slice none 0 0, .int .i64 11]) ∧ w' = w := by
  have hd : decide ((d.length : Int) > 116) = true := decide_eq_true (by omega)
  go_enter Try.func22, Try.ntmps22
  go_wp2
  go_ret2
  exact ⟨rfl, rfl⟩

set_option maxHeartbeats 4000000 in
set_option maxRecDepth 100000 in
theorem pack_small (w : World) (id : Int) (A : Option Addr) (c : Nat) (d : List Int) (hl : d.length ≤ 116) (h0 : (Kd.int .u8).C w A d.length d) (hc0 : d.length ≤ c) (k : Nat) (s : Int) (hs : sum_Sum.f k (restS id d) = some s) :
    Calls Try.prog 22 #[.int .u32 id, .slice A d.length c] w fun e w' => ∃ b, e = .returned (.tuple #[.slice (some ⟨b, 0, none⟩) 128 128, .int .i64 0]) ∧ w'.ownsRow w.heap.size 5 1 (.slice (some ⟨b, 0, none⟩) 128 128) 128 ((pageS s id d).map (.int .u8)) ∧ Below w.heap.size w w' := by
  have hd : decide ((d.length : Int) > 116) = false := decide_eq_false (by omega)
  have HC := Aside0.mk h0
  have HLE := Aside0.mk hc0
  obtain ⟨iB, hiB, hzB, hsB, hbB⟩ := info_parts infoB
  have HI := Aside0.mk hiB
  have HZ := Aside0.mk hzB
  have HS := Aside0.mk hsB
  have HBB := Aside0.mk hbB
  have HSUM := Aside0.mk hs
  clear h0 hc0 hiB hzB hsB hbB hs
  go_enter Try.func22, Try.ntmps22
  go_wp2_with (at_make; refine wpList_make_full w rfl _ _ 23 rfl w.heap.size 5 iB (.int .u8 0) 1 Try.underlying23 HI.out HZ.out HS.out .i64 .i64 128 128 128 rfl rfl rfl rfl ?aB ?aM ?aS ?_; (case aB => (rw [HBB.out]; decide)); (case aM => decide); (case aS => exact Nat.le_refl _); intro w1 ho hg; rw [pack_zeros] at ho; have HO1 := Aside0.mk ho; have HG1 := Aside0.mk hg; clear ho hg)
  refine (put32_at w1 w.heap.size w.heap.size 128 128 4 124 124 _ id HO1.out (by omega) (by omega) (by omega)).mono ?_
  rintro e w2 ⟨rfl, h2, g2⟩
  have HO2 := Aside0.mk h2
  have HG2 := Aside0.mk g2
  clear h2 g2
  go_wp2_with fail
  refine (put32_at w2 w.heap.size w.heap.size 128 128 8 120 120 _ (d.length : Int) HO2.out (by omega) (by omega) (by omega)).mono ?_
  rintro e w3 ⟨rfl, h3, g3⟩
  rw [lay_1] at h3
  have HO3 := Aside0.mk h3
  have hb3 : Below w.heap.size w w3 := pw_below_grown (pw_below_grown (pw_below_grown (Below.refl _ _) _ (Nat.le_refl _) HG1.out (fun k e => by cases e)) _ HG1.out.size HG2.out (fun k e => by cases e; exact Nat.le_refl _)) _ (Nat.le_trans HG1.out.size HG2.out.size) g3 (fun k e => by cases e; exact Nat.le_refl _)
  have HB3 := Aside0.mk hb3
  clear h3 g3 hb3 HO1 HO2 HG1 HG2
  go_wp2_with ((with_reducible refine gate_builtin (b := .copy) (xs := #[.tmp 22, .tmp 23]) rfl ?_); go_loud (refine wpList_copy_into rfl (.tmp 22) (.tmp 23) _ _ rfl 5 Try.underlying23 sizeB .u8 w.heap.size w.heap.size 128 128 12 116 116 c A d _ rfl rfl HO3.out (Kd.C_below HC.out HB3.out) ?aF ?aN ?_); (case aF => omega); (case aN => omega); intro w4 ho hg; rw [lay_2] at ho; have HO4 := Aside0.mk ho; have HG4 := Aside0.mk hg; clear ho hg)
  have hlr : (restS id d).length = 124 := restS_len hl
  have hsum := sum_Sum.calls k (some ⟨w.heap.size, 4, none⟩) 124 (restS id d) s w4 (C_off HO4.out (fun j x hj => by
    rw [lay_rest, show 4 + j = j + 4 from Nat.add_comm _ _]
    show ((restS id d).map (Value.int .u8))[j]? = _
    rw [List.getElem?_map, hj]; rfl) (by omega) (by omega)) (by omega) HSUM.out
  rw [hlr] at hsum
  refine hsum.mono ?_
  rintro e w5 ⟨rfl, hb5⟩
  have HO5 := Aside0.mk (own_below HO4.out hb5.below)
  have HB5 := Aside0.mk (below_step (pw_below_grown HB3.out _ HB3.out.size HG4.out (fun k e => by cases e; exact Nat.le_refl _)) hb5.below)
  clear hb5 hsum HO4 HO3 HG4
  go_wp2_with fail
  refine (put32_at w5 w.heap.size w.heap.size 128 128 0 128 128 _ s HO5.out (by omega) (by omega) (by omega)).mono ?_
  rintro e w6 ⟨rfl, h6, g6⟩
  rw [lay_3, lay_rest] at h6
  have HO6 := Aside0.mk h6
  have HB6 := Aside0.mk (pw_below_grown HB5.out _ HB5.out.size g6 (fun k e => by cases e; exact Nat.le_refl _))
  clear h6 g6
  go_wp2_with fail
  go_ret2
  refine ⟨w.heap.size, rfl, ?_, HB6.out⟩
  rw [pageS, List.map_append]
  exact HO6.out
end Go.Proofs.Ytbhiepfejlhbnaa.Q
