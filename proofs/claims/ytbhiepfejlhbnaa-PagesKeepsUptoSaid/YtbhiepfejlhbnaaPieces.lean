/- Rows made one behind the other, told apart by where they lie; and lists of rows as a family. -/
import Derived.Test.YtbhiepfejlhbnaaApartKit
import Derived.Test.YtbhiepfejlhbnaaWApart
namespace Go.Proofs.Ytbhiepfejlhbnaa.ApartKit
open Go Go.RowKit Go.Proofs.YtbhiepfejlhbnaaW.PrintWords
set_option linter.unusedVariables false

theorem R_of_own {w : World} {base e : Nat} {k : IntKind} {v : Value} {xs : List Int} {ok : Nat → Prop} (h : w.ownsRow base e 1 v xs.length (xs.map (Value.int k))) (hok : ∀ b, v.ownBlock = some b → ok b) : (Kd.int k).R e w base ok v xs := by
  refine ⟨hok, xs.map (Value.int k), h, ⟨by simp [Kd.int, Kd.scalar], fun j p hj => ?_⟩⟩
  show (((xs.map (Value.int k)).drop (j * 1)).take 1) = [Value.int k p]
  rw [Nat.mul_one, List.drop_eq_getElem_cons (by simpa using (List.getElem?_eq_some_iff.1 hj).1)]
  have := (List.getElem?_eq_some_iff.1 hj).2
  simp [this]

theorem own_of_R {w : World} {base e : Nat} {k : IntKind} {v : Value} {xs : List Int} {ok : Nat → Prop} (h : (Kd.int k).R e w base ok v xs) : w.ownsRow base e 1 v xs.length (xs.map (Value.int k)) ∧ ∀ b, v.ownBlock = some b → ok b := by
  obtain ⟨h0, inner, ho, hr⟩ := h
  refine ⟨?_, h0⟩
  have he : inner = xs.map (Value.int k) := by
    apply List.ext_getElem?
    intro j
    have hl : inner.length = xs.length * 1 := hr.1
    by_cases hj : j < xs.length
    · have hp := hr.2 j (xs[j]) (List.getElem?_eq_getElem hj)
      have hp' : ((inner.drop (j * 1)).take 1) = [Value.int k xs[j]] := hp
      rw [Nat.mul_one, List.drop_eq_getElem_cons (by omega)] at hp'
      simp only [List.take_succ_cons, List.take_zero, List.cons.injEq, and_true] at hp'
      rw [List.getElem?_eq_getElem (by omega), hp', List.getElem?_map, List.getElem?_eq_getElem hj]
      rfl
    · rw [List.getElem?_eq_none (by omega), List.getElem?_eq_none (by simp; omega)]
  rw [← he]
  exact ho

theorem R_between {α : Type} {d : Kd α} {w : World} {lo base base' e : Nat} {v : Value} {xs : List α} (h : d.R e w lo (fun _ => True) v xs) (hb : base' ≤ lo) : d.R e w base' (fun b => lo ≤ b ∧ b < w.heap.size) v xs :=
  Kd.R_lower (Kd.R_mono (Kd.R_bound h) (fun b hb => ⟨hb.2.1, hb.2.2.1⟩)) hb
theorem S_between {α : Type} {d : Kd α} {w : World} {lo base' e : Nat} {v : Value} {xs : List α} (h : Kd.S d e w lo (fun _ => True) v xs) (hb : base' ≤ lo) : Kd.S d e w base' (fun b => lo ≤ b ∧ b < w.heap.size) v xs :=
  Kd.S_lower (Kd.S_mono (Kd.S_bound h) (fun b hb => ⟨hb.2.1, hb.2.2.1⟩)) hb

/-- A list of rows: what its own row holds, and the rows told apart. -/
theorem S_open {w : World} {base e0 e : Nat} {k : IntKind} {v : Value} {xs : List (List Int)} {ok : Nat → Prop} (h : Kd.S (Kd.slice e (Kd.int k)) e0 w base ok v xs) :
    ∃ (L : List Value) (f : Nat → Nat), L.length = xs.length ∧ w.ownsRow base e0 1 v L.length L ∧ (∀ b, v.ownBlock = some b → ok b) ∧
      ∀ (j : Nat) (u : Value), L[j]? = some u → ∃ x, xs[j]? = some x ∧ w.ownsRow base e 1 u x.length (x.map (Value.int k)) ∧ ∀ b, u.ownBlock = some b → f b = j ∧ ok b := by
  obtain ⟨f, h0, inner, ho, hr⟩ := h
  have hl : inner.length = xs.length := by
    have h1 : inner.length = xs.zipIdx.length * 1 := hr.1
    simpa using h1
  refine ⟨inner, f, hl, ?_, h0, fun j u hu => ?_⟩
  · rw [hl]
    have ho' : w.ownsRow base e0 1 v xs.zipIdx.length inner := ho
    rwa [List.length_zipIdx] at ho'
  · have hj : j < xs.length := by rw [← hl]; exact (List.getElem?_eq_some_iff.1 hu).1
    have hz : xs.zipIdx[j]? = some (xs[j], j) := by rw [List.getElem?_zipIdx, List.getElem?_eq_getElem hj, Nat.zero_add]; rfl
    have hM := hr.2 j _ hz
    obtain ⟨v', hv', hR⟩ := (show ∃ v', ((inner.drop (j * 1)).take 1) = [v'] ∧ (Kd.int k).R e w base (fun b => (ok b ∧ some b ≠ v.ownBlock) ∧ f b = j) v' (xs[j]) from hM)
    rw [Nat.mul_one, List.drop_eq_getElem_cons (by omega)] at hv'
    simp only [List.take_succ_cons, List.take_zero, List.cons.injEq, and_true] at hv'
    have hv2 : v' = u := by rw [← hv']; exact (List.getElem?_eq_some_iff.1 hu).2
    subst hv2
    have hh := own_of_R hR
    exact ⟨xs[j], List.getElem?_eq_getElem hj, hh.1, fun b hb => ⟨(hh.2 b hb).2, (hh.2 b hb).1.1⟩⟩

/-- Rows (their lengths alone), each in blocks of its own. -/
def Apt (w : World) (base E : Nat) (ok : Nat → Prop) (L : List Value) : Prop :=
  ∃ (n : Nat → Nat) (f : Nat → Nat), (∀ k, n k ≤ 1000000000) ∧ ∀ (k : Nat) (v : Value), L[k]? = some v → (∃ xs, w.ownsRow base E 1 v (n k) xs) ∧ ∀ b, v.ownBlock = some b → f b = k ∧ ok b

theorem Apt.nil (w : World) (base E : Nat) (ok : Nat → Prop) : Apt w base E ok [] := ⟨fun _ => 0, fun _ => 0, fun _ => Nat.zero_le _, fun k v h => by simp at h⟩
theorem Apt.one {w : World} {base E n : Nat} {ok : Nat → Prop} {v : Value} {xs : List Value} (h : w.ownsRow base E 1 v n xs) (hn : n ≤ 1000000000) (hok : ∀ b, v.ownBlock = some b → ok b) : Apt w base E ok [v] :=
  ⟨fun _ => n, fun _ => 0, fun _ => hn, fun k u hu => by
    have hk : k = 0 := by
      have := (List.getElem?_eq_some_iff.1 hu).1
      simpa using this
    subst hk
    simp only [List.getElem?_cons_zero, Option.some.injEq] at hu
    subst hu
    exact ⟨⟨xs, h⟩, fun b hb => ⟨rfl, hok b hb⟩⟩⟩
theorem Apt.mono {w : World} {base E : Nat} {ok ok' : Nat → Prop} {L : List Value} (h : Apt w base E ok L) (hk : ∀ b, ok b → ok' b) : Apt w base E ok' L := by
  obtain ⟨n, f, hn, h⟩ := h
  exact ⟨n, f, hn, fun k v hv => ⟨(h k v hv).1, fun b hb => ⟨((h k v hv).2 b hb).1, hk b ((h k v hv).2 b hb).2⟩⟩⟩
theorem Apt.append {w : World} {base E : Nat} {ok1 ok2 ok : Nat → Prop} {L M : List Value} (h : Apt w base E ok1 L) (k : Apt w base E ok2 M) (hd : ∀ b, ok1 b → ¬ ok2 b) (h1 : ∀ b, ok1 b → ok b) (h2 : ∀ b, ok2 b → ok b) : Apt w base E ok (L ++ M) := by
  classical
  obtain ⟨n, f, hn, h⟩ := h
  obtain ⟨m, g, hm, k⟩ := k
  refine ⟨fun i => if i < L.length then n i else m (i - L.length), fun b => if ok1 b then f b else g b + L.length, fun i => ?_, fun i v hv => ?_⟩
  · dsimp only
    split
    · exact hn _
    · exact hm _
  · by_cases hi : i < L.length
    · rw [List.getElem?_append_left hi] at hv
      obtain ⟨⟨xs, ho⟩, hf⟩ := h i v hv
      refine ⟨⟨xs, by dsimp only; rw [if_pos hi]; exact ho⟩, fun b hb => ?_⟩
      obtain ⟨e1, e2⟩ := hf b hb
      exact ⟨by dsimp only; rw [if_pos e2]; exact e1, h1 b e2⟩
    · rw [List.getElem?_append_right (by omega)] at hv
      obtain ⟨⟨xs, ho⟩, hf⟩ := k _ v hv
      refine ⟨⟨xs, by dsimp only; rw [if_neg hi]; exact ho⟩, fun b hb => ?_⟩
      obtain ⟨e1, e2⟩ := hf b hb
      exact ⟨by dsimp only; rw [if_neg (fun h => hd b h e2)]; omega, h2 b e2⟩
theorem Apt.stay {w w' : World} {base E : Nat} {ok : Nat → Prop} {L : List Value} (h : Apt w base E ok L) (hk : ∀ (b : Nat) (cs : Array Value), w.heap[b]? = some (Obj.cells cs E (0, 0)) → ok b → w'.heap[b]? = w.heap[b]?) : Apt w' base E ok L := by
  obtain ⟨n, f, hn, h⟩ := h
  exact ⟨n, f, hn, fun k v hv => by
    obtain ⟨⟨xs, ho⟩, hf⟩ := h k v hv
    exact ⟨⟨xs, own_stay ho (fun b hb => by obtain ⟨cs, hc⟩ := own_typed ho b hb; exact hk b cs hc (hf b hb).2)⟩, hf⟩⟩
theorem Apt.lower {w : World} {base base' E : Nat} {ok : Nat → Prop} {L : List Value} (h : Apt w base E ok L) (hb : base' ≤ base) : Apt w base' E ok L := by
  obtain ⟨n, f, hn, h⟩ := h
  exact ⟨n, f, hn, fun k v hv => ⟨by obtain ⟨xs, ho⟩ := (h k v hv).1; exact ⟨xs, own_weaken ho hb⟩, (h k v hv).2⟩⟩
theorem Apt.fam {w : World} {base E : Nat} {ok : Nat → Prop} {L : List Value} (h : Apt w base E ok L) (mk : (Nat → Nat) → Nat → Nat → Value) : ∃ (n f : Nat → Nat), (∀ k, n k ≤ 1000000000) ∧ Fam w base E L [] n (mk n) f := by
  obtain ⟨n, f, hn, h⟩ := h
  exact ⟨n, f, hn, ⟨fun k v hv => ⟨by obtain ⟨xs, ho⟩ := (h k v hv).1; exact ⟨xs, ho, fun h => by simp at h⟩, fun b hb => ((h k v hv).2 b hb).1⟩, fun k g hg => by simp at hg⟩⟩
theorem S_apt {w : World} {base e0 e : Nat} {k : IntKind} {v : Value} {xs : List (List Int)} {ok : Nat → Prop} (h : Kd.S (Kd.slice e (Kd.int k)) e0 w base ok v xs) (hx : ∀ x ∈ xs, x.length ≤ 1000000000) :
    ∃ (L : List Value), L.length = xs.length ∧ w.ownsRow base e0 1 v L.length L ∧ (∀ b, v.ownBlock = some b → ok b) ∧ Apt w base e ok L := by
  obtain ⟨L, f, hl, ho, hok, hj⟩ := S_open h
  refine ⟨L, hl, ho, hok, fun j => if j < xs.length then (xs.getD j []).length else 0, f, fun j => ?_, fun j u hu => ?_⟩
  · dsimp only
    split
    · rename_i hjl
      rw [List.getD_eq_getElem?_getD, List.getElem?_eq_getElem hjl]
      exact hx _ (List.getElem_mem hjl)
    · omega
  · obtain ⟨x, hxj, hu2, hf⟩ := hj j u hu
    have hjl := (List.getElem?_eq_some_iff.1 hxj).1
    refine ⟨⟨x.map (Value.int k), ?_⟩, hf⟩
    · dsimp only
      rw [if_pos hjl, List.getD_eq_getElem?_getD, hxj]
      exact hu2
end Go.Proofs.Ytbhiepfejlhbnaa.ApartKit
