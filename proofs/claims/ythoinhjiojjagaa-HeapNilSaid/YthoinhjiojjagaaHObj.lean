/- Where an object's header and fields lie. -/
import Derived.Test.YthoinhjiojjagaaHSee
import Derived.WalkSmall
namespace Go.Proofs.Ythoinhjiojjagaa.Hp
open Go.RowKit Go.Proofs.YthoinhjiojjagaaW.PrintWords Go.Proofs.YthoinhjiojjagaaW.PrintLast Go.Proofs.YthoinhjiojjagaaW.PrintMore Go.Proofs.Ythoinhjiojjagaa.MapKit Go.Maps
attribute [local go_sem] max2_int min2_int max_two min_two max_three min_three max_four min_four
set_option linter.unusedVariables false
set_option linter.unusedSimpArgs false

/-- Where an object's fields begin. -/
def fieldsAt (p m : Nat) : Nat := if m = 0 then p * 2 else p * 2 + 2

theorem slice_from (gb n c p : Nat) (hp : p < n) (hc : n ≤ c) (hm : n ≤ 1000000) : ∀ W, (Instr.slice 67 (.slice (some ⟨gb, 0, none⟩) n c) (some (.int .u64 (p : Int))) none none).run Try.prog W = .ok (.slice (some ⟨gb, p * 2, none⟩) (n - p) (c - p)) W := by
  intro W
  obtain ⟨i0, hi, hzz⟩ := Option.map_eq_some_iff.1 info76
  simp only [Prod.mk.injEq] at hzz
  obtain ⟨hz0, hz1, hz2⟩ := hzz
  have hel : Try.prog.elem 67 = 76 := by simp [Program.elem, Try.underlying67]
  have hu : Try.prog.underlying 67 = some (.slice (Try.prog.elem 67)) := by rw [hel]; exact Try.underlying67
  rw [run_slice_l W 67 _ n c hu .u64 p (by omega) (by omega), hel]
  have : ¬ c = p := by omega
  simp [sizeOf, typeInfo, hi, hz1, sliced, Result.andThen, this, Addr.add]
  intro h
  omega
theorem slice_obj (gb p n c m : Nat) (hm : 1 + m ≤ c) : ∀ W, (Instr.slice 67 (.slice (some ⟨gb, p * 2, none⟩) n c) (some (.int .i64 1)) (some (.int .u64 (1 + (m : Int)))) (some (.int .u64 (1 + (m : Int))))).run Try.prog W = .ok (.slice (some ⟨gb, fieldsAt p m, none⟩) m m) W := by
  intro W
  obtain ⟨i0, hi, hzz⟩ := Option.map_eq_some_iff.1 info76
  simp only [Prod.mk.injEq] at hzz
  obtain ⟨hz0, hz1, hz2⟩ := hzz
  have hel : Try.prog.elem 67 = 76 := by simp [Program.elem, Try.underlying67]
  have hu : Try.prog.underlying 67 = some (.slice (Try.prog.elem 67)) := by rw [hel]; exact Try.underlying67
  rw [run_slice_lhm W 67 _ n c hu .i64 .u64 .u64 1 (1 + (m : Int)) (1 + (m : Int)) (by omega) (by omega) (by omega) (by omega), hel]
  have e1 : (1 + (m : Int)).toNat = 1 + m := by omega
  by_cases h : m = 0
  · subst h
    simp [sizeOf, typeInfo, hi, hz1, sliced, Result.andThen, fieldsAt]
  · simp [sizeOf, typeInfo, hi, hz1, sliced, Result.andThen, h, e1, Addr.add, fieldsAt]

set_option maxRecDepth 100000 in
theorem at_young (w : World) (b gb n c p : Nat) (a : Int) (h0 : w.cell? ⟨b, 0, none⟩ = some (.slice (some ⟨gb, 0, none⟩) n c)) (ha : a = 2 * (p : Int)) (hp : p < n) (hc : n ≤ c) (hm : n ≤ 1000000) :
    Calls Try.prog 60 #[.pointer (some ⟨b, 0, none⟩), .int .u64 a] w fun e w' => e = .returned (.slice (some ⟨gb, p * 2, none⟩) (n - p) (c - p)) ∧ w' = w := by
  have hs := slice_from gb n c p hp hc hm
  have hb : bits BinOp.and IntKind.u64 a 1 = 0 := by rw [and_one_u64 _ (by omega) (by omega)]; omega
  have hd : a / 2 = (p : Int) := by omega
  have ha0 : 0 ≤ a := by omega
  have ha1 : a ≤ 2000000 := by omega
  clear hp hc hm ha
  go_enter Try.func60, Try.ntmps60
  go_wp2
  go_ret
  exact ⟨rfl, rfl⟩

set_option maxRecDepth 100000 in
theorem at_old (w : World) (b gb n c p : Nat) (a : Int) (h0 : w.cell? ⟨b, 1, none⟩ = some (.slice (some ⟨gb, 0, none⟩) n c)) (ha : a = 2 * (p : Int) + 1) (hp : p < n) (hc : n ≤ c) (hm : n ≤ 1000000) :
    Calls Try.prog 60 #[.pointer (some ⟨b, 0, none⟩), .int .u64 a] w fun e w' => e = .returned (.slice (some ⟨gb, p * 2, none⟩) (n - p) (c - p)) ∧ w' = w := by
  have hs := slice_from gb n c p hp hc hm
  have hb : bits BinOp.and IntKind.u64 a 1 = 1 := by rw [and_one_u64 _ (by omega) (by omega)]; omega
  have hd : a / 2 = (p : Int) := by omega
  have ha0 : 0 ≤ a := by omega
  have ha1 : a ≤ 2000001 := by omega
  clear hp hc hm ha
  go_enter Try.func60, Try.ntmps60
  go_wp2
  go_ret
  exact ⟨rfl, rfl⟩

set_option maxRecDepth 100000 in
theorem object_of (w : World) (b gb n c p m : Nat) (a hd : Int) (hat : Calls Try.prog 60 #[.pointer (some ⟨b, 0, none⟩), .int .u64 a] w fun e w' => e = .returned (.slice (some ⟨gb, p * 2, none⟩) (n - p) (c - p)) ∧ w' = w)
    (hh : w.cell? ⟨gb, p * 2 + 1, none⟩ = some (.int .u64 hd)) (h0 : 0 ≤ hd) (h1 : hd ≤ 1000000000) (hm : hd / 65536 = (m : Int)) (hn : p + 1 + m ≤ n) (hc : n ≤ c) :
    Calls Try.prog 44 #[.pointer (some ⟨b, 0, none⟩), .int .u64 a] w fun e w' => e = .returned (.tuple #[.int .u64 hd, .slice (some ⟨gb, fieldsAt p m, none⟩) m m]) ∧ ∃ k, w' = w.drewN k := by
  have hs := slice_obj gb p (n - p) (c - p) m (by omega)
  have hlt : 0 < n - p := by omega
  have hml : (m : Int) ≤ 20000 := by omega
  have HAT := Lib.hid hat
  have HN := Lib.hid hn
  have HC := Lib.hid hc
  clear hn hc hat
  go_enter Try.func44, Try.ntmps44
  go_wp2_with (go_at_call 60; refine HAT.out.mono ?_; rintro e w' ⟨rfl, rfl⟩)
  go_quiet (fail)
  go_wp2
  go_ret2
  exact ⟨rfl, _, rfl⟩
end Go.Proofs.Ythoinhjiojjagaa.Hp
