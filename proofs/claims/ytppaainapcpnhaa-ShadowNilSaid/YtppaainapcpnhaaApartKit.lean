/- Rows of the call's own that grow side by side: append told in full (in place, or a new row and nothing else), and families of rows told apart by their blocks. -/
import Derived.Maps.AppendAt
import Derived.Below
import Derived.OwnWalk
import Derived.Test.YtppaainapcpnhaaWWords
import Derived.Test.YtppaainapcpnhaaWKept
namespace Go.Proofs.Ytppaainapcpnhaa.ApartKit
open Go Go.RowKit Go.Proofs.YtppaainapcpnhaaW.PrintWords
set_option linter.unusedVariables false

section
variable {P : Program} (w : World)

/-- append: in place (the same block, the same capacity, nothing else turned), or a new row and nothing that was there has turned. -/
theorem run_append_two (base : Nat) (t ty e : TypeId) (i : TypeInfo) (z : Value) (bytes : Nat) (ht : P.underlying t = some (.slice e)) (hi : P.info? e = some i) (hz : i.zero = some z)
    (hsize : i.size = 1) (hby : i.bytes = bytes) (hzs : z.cells.size = 1)
    (v : Value) (n : Nat) (xs : List Value) (hown : w.ownsRow base e 1 v n xs)
    (a : Addr) (m c : Nat) (news : List Value) (hl : news.length = m) (hm : 0 < m) (hnews : ∀ j u, news[j]? = some u → w.cell? (a.add j) = some u) (h1 : ∀ u ∈ news, u.oneCell' = true)
    (h63 : n + m ≤ maxLen) (hbytes : (n + m) * bytes ≤ 140737488355328) (hbase : base ≤ w.heap.size) :
    ∃ v' w', (Builtin.append_ #[t, t] ty #[v, .slice (some a) m c]).run P w = .ok v' w' ∧ w'.ownsRow base e 1 v' (n + m) (xs ++ news) ∧
      ((∃ g cap, v = .slice (some ⟨g, 0, none⟩) n cap ∧ v' = .slice (some ⟨g, 0, none⟩) (n + m) cap ∧ w.grownBy w' (some g) ∧ w'.heap.size = w.heap.size) ∨
       (v'.ownBlock = some w.heap.size ∧ Below w.heap.size w w')) := by
  subst hby
  have hl1 : news.length = m * i.size := by rw [hsize, Nat.mul_one]; exact hl
  rw [← hsize] at hown hzs ⊢
  have hsz : 0 < i.size := by omega
  have hsmall : n + m ≤ 9223372036854775807 := by simp only [maxLen] at h63; omega
  have hlen : (xs ++ news).length = (n + m) * i.size := by rw [List.length_append, hown.1, hl1, Nat.add_mul]
  have grown : ∀ (old : Nat), old < n + m →
      (w.drew.alloc (.cells (xs.toArray ++ news.toArray ++ Builtin.zeroCells z.cells (grownCap w (n + m) old e - (n + m))) e)).ownsRow base e i.size
        (.slice (some ⟨w.heap.size, 0, none⟩) (n + m) (grownCap w (n + m) old e)) (n + m) (xs ++ news) ∧
      Below w.heap.size w (w.drew.alloc (.cells (xs.toArray ++ news.toArray ++ Builtin.zeroCells z.cells (grownCap w (n + m) old e - (n + m))) e)) := by
    intro old ho
    have hge := grownCap_ge w (n + m) old e
    have hcm : grownCap w (n + m) old e ≤ maxLen := grownCap_le_maxLen w (n + m) old e h63
    refine ⟨⟨hlen, .inr ⟨w.heap.size, _, _, rfl, hbase, heap_alloc_new w.drew _, hge, hcm, ?_, ?_⟩⟩, ⟨rfl, rfl, rfl, by simp, fun k hk => Below.heap_alloc w.drew _ k hk⟩⟩
    · simp only [Array.size_append, List.size_toArray, size_zeroCells, hzs, hown.1, hl1, ← Nat.add_mul]
      congr 1
      omega
    · simp only [Array.toList_append, List.append_assoc]
      rw [← List.append_assoc, ← hlen]
      exact List.take_left
  rcases hown.2 with ⟨rfl, rfl⟩ | ⟨g, cap, cur, rfl, hbg, hg, hnc, hcm, hcs, htake⟩
  · have hx : xs = [] := List.eq_nil_of_length_eq_zero (by simpa using hown.1)
    subst hx
    have hr := run_append_nil (P := P) w t ty e i z ht hi hz a m c news hl1 hnews (by omega) (by omega) (by have hb := hbytes; simp only [Nat.zero_add] at hb; omega)
    have hgr := grown 0 (by omega)
    simp only [Nat.zero_add, List.nil_append, Array.empty_append] at hgr ⊢
    exact ⟨_, _, hr, hgr.1, .inr ⟨rfl, hgr.2⟩⟩
  · by_cases hroom : n + m ≤ cap
    · have hfit : n * i.size + news.length ≤ cur.size := by rw [hl1, hcs, ← Nat.add_mul]; exact Nat.mul_le_mul_right _ hroom
      have hr := run_append_room (P := P) w t ty e i ht hi g n cap cur hg a m c news hl1 hnews h1 hroom hfit
      refine ⟨_, _, hr, ⟨hlen, .inr ⟨g, cap, _, rfl, hbg, setRow_heap w g cur _ e _ hg, hroom, hcm, ?_, ?_⟩⟩, .inl ⟨g, cap, rfl, rfl, ⟨rfl, rfl, rfl, by simp, fun k _ hk => setRow_other w g k _ (fun e => hk (by rw [e]))⟩, by simp⟩⟩
      · simp only [List.size_toArray, List.length_append, List.length_take, List.length_drop, Array.length_toList]
        omega
      · rw [htake, ← hlen]
        exact List.take_left
    · have holds : ∀ j u, xs[j]? = some u → w.cell? ((⟨g, 0, none⟩ : Addr).add j) = some u := hown.cells (g := g) rfl
      have hr := run_append_grow (P := P) w t ty e i z ht hi hz ⟨g, 0, none⟩ n cap xs hown.1 holds a m c news hl1 hnews (by omega) (by omega) (growslice_fits (by omega) hbytes)
      have hgr := grown cap (by omega)
      exact ⟨_, _, hr, hgr.1, .inr ⟨rfl, hgr.2⟩⟩

/-- The same at the operation, one element laid into a block of its own ahead of it. -/
theorem wpList_append_two {ops : Array Oper} {rest : List Oper} {o : Oper} {a : Act} {Q : Exit → Act → World → Prop} (hgd : o.guard = none) (s x : Operand) (t : TypeId)
    (ho : o.op = .call { callee := .builtin .append, args := #[s, x], argTypes := #[t, t] })
    (base : Nat) (e : TypeId) (z : Value) (bytes : Nat) (ht : P.underlying t = some (.slice e)) (hinfo : (P.info? e).map (fun i => (i.zero, i.size, i.bytes)) = some (some z, 1, bytes)) (hzs : z.cells.size = 1)
    (v u : Value) (n : Nat) (xs : List Value) (hs : a.eval s = v) (hown : w.ownsRow base e 1 v n xs) (hx : a.eval x = .slice (some ⟨w.heap.size, 0, none⟩) 1 1) (hu : u.oneCell' = true)
    (h63 : n + 1 ≤ maxLen) (hbytes : (n + 1) * bytes ≤ 140737488355328) (hbase : base ≤ w.heap.size)
    (h : ∀ v' w', w'.ownsRow base e 1 v' (n + 1) (xs ++ [u]) →
      ((∃ g cap, v = .slice (some ⟨g, 0, none⟩) n cap ∧ v' = .slice (some ⟨g, 0, none⟩) (n + 1) cap ∧ w.grownBy w' (some g)) ∨
       ((∃ b, v'.ownBlock = some b ∧ w.heap.size ≤ b) ∧ Below w.heap.size w w')) → wpList P ops Q rest (a.put o.dst v') w') :
    wpList P ops Q (o :: rest) a (w.alloc (.cells #[u] e)) := by
  refine wpList_plain hgd fun K hK => ?_
  obtain ⟨i0, hi, hz0, hz1, hz2⟩ := info_parts hinfo
  have hown2 : (w.alloc (.cells #[u] e)).ownsRow base e 1 v n xs := by
    obtain ⟨h1, h2⟩ := hown
    refine ⟨h1, ?_⟩
    rcases h2 with h2 | ⟨g, cap, cur, hv, hg, hh, r⟩
    · exact .inl h2
    · exact .inr ⟨g, cap, cur, hv, hg, (Below.heap_alloc w _ g (blk_lt hh)).trans hh, r⟩
  obtain ⟨v', w', hr, h2, h3⟩ := run_append_two (P := P) (w.alloc (.cells #[u] e)) base t o.type e i0 z bytes ht hi hz0 hz1 hz2 hzs v n xs hown2 ⟨w.heap.size, 0, none⟩ 1 1 [u] rfl (by omega) (cell_one_new _ _ _)
    (by intro u' hu'; rw [List.mem_singleton.1 hu']; exact hu) h63 hbytes (by simp; omega)
  unfold Oper.wp execOp
  simp only [ho, resolve, invoke, builtin, Sem.run_bind, Sem.run_pure, Result.andThen_ok, List.map_toArray, List.map_cons, List.map_nil, hs, hx, hr]
  refine hK _ _ (h v' w' h2 ?_)
  rcases h3 with ⟨g, cap, e1, e2, hg, _⟩ | ⟨hb, hbel⟩
  · exact .inl ⟨g, cap, e1, e2, ⟨hg.os, hg.tape, hg.output, Nat.le_trans (by simp) hg.size, fun k hk hne => (hg.block k (by simp; omega) hne).trans (Below.heap_alloc w _ k hk)⟩⟩
  · refine .inr ⟨⟨_, hb, by simp⟩, ⟨hbel.os, hbel.tape, hbel.output, Nat.le_trans (by simp) hbel.size, fun k hk => (hbel.block k (by simp; omega)).trans (Below.heap_alloc w _ k hk)⟩⟩
end

/-- append of a whole row of the call's own (nil or not) onto another: where the new one lies. -/
theorem wpList_append_row {P : Program} (w : World) {ops : Array Oper} {rest : List Oper} {o : Oper} {a : Act} {Q : Exit → Act → World → Prop} (hgd : o.guard = none) (s x : Operand) (t : TypeId)
    (ho : o.op = .call { callee := .builtin .append, args := #[s, x], argTypes := #[t, t] })
    (base base2 : Nat) (e : TypeId) (z : Value) (bytes : Nat) (ht : P.underlying t = some (.slice e)) (hinfo : (P.info? e).map (fun i => (i.zero, i.size, i.bytes)) = some (some z, 1, bytes)) (hzs : z.cells.size = 1)
    (v u : Value) (n m : Nat) (xs news : List Value) (hs : a.eval s = v) (hown : w.ownsRow base e 1 v n xs) (hx : a.eval x = u) (hsrc : w.ownsRow base2 e 1 u m news) (h1 : ∀ y ∈ news, y.oneCell' = true)
    (h63 : n + m ≤ maxLen) (hbytes : (n + m) * bytes ≤ 140737488355328) (hbase : base ≤ w.heap.size)
    (h : ∀ v' w', w'.ownsRow base e 1 v' (n + m) (xs ++ news) → w.grownBy w' v.ownBlock → (v'.ownBlock = v.ownBlock ∨ v'.ownBlock = some w.heap.size) → wpList P ops Q rest (a.put o.dst v') w') :
    wpList P ops Q (o :: rest) a w := by
  refine wpList_plain hgd fun K hK => ?_
  obtain ⟨i0, hi, hz0, hz1, hz2⟩ := info_parts hinfo
  obtain ⟨hl, hu⟩ := hsrc
  rcases hu with ⟨rfl, rfl⟩ | ⟨g, cap, cur, rfl, hb, hh, hr⟩
  · have hn : news = [] := List.eq_nil_of_length_eq_zero (by simpa using hl)
    subst hn
    have hrun := run_append_owned_none (P := P) w base t o.type e i0 1 ht hi v n xs hown
    unfold Oper.wp execOp
    simp only [ho, resolve, invoke, builtin, Sem.run_bind, Sem.run_pure, Result.andThen_ok, List.map_toArray, List.map_cons, List.map_nil, hs, hx, hrun]
    exact hK _ _ (h v w (by simpa using hown) (World.grownBy.refl _ _) (.inl rfl))
  · have hcells : ∀ j y, news[j]? = some y → w.cell? ((⟨g, 0, none⟩ : Addr).add j) = some y := World.ownsRow.cells (v := .slice (some ⟨g, 0, none⟩) m cap) ⟨hl, .inr ⟨g, cap, cur, rfl, hb, hh, hr⟩⟩ (g := g) rfl
    obtain ⟨v', w', hrun, h2, h3, _, h5⟩ := run_append_own_at (P := P) w base t o.type e i0 z 1 bytes ht hi hz0 hz1 hz2 hzs (by omega) v n xs hown ⟨g, 0, none⟩ m cap news hl hcells h1 h63 hbytes hbase
    unfold Oper.wp execOp
    simp only [ho, resolve, invoke, builtin, Sem.run_bind, Sem.run_pure, Result.andThen_ok, List.map_toArray, List.map_cons, List.map_nil, hs, hx, hrun]
    exact hK _ _ (h v' w' h2 h3 h5)

/-- Every block that is v's stays: the row stays. -/
theorem own_stay {w w' : World} {base E n : Nat} {v : Value} {xs : List Value} (h : w.ownsRow base E 1 v n xs) (hk : ∀ b, v.ownBlock = some b → w'.heap[b]? = w.heap[b]?) : w'.ownsRow base E 1 v n xs := own_move h hk

/-- Rows told apart: V's are what came, G's what has grown out of the first of them; f: whose a block is. -/
structure Fam (w : World) (base E : Nat) (VL GL : List Value) (n : Nat → Nat) (mk : Nat → Nat → Value) (f : Nat → Nat) : Prop where
  V : ∀ k v, VL[k]? = some v → (∃ xs, w.ownsRow base E 1 v (n k) xs ∧ (k < GL.length → ∀ t, t < n k → xs[t]? = some (mk k t))) ∧ ∀ b, v.ownBlock = some b → f b = k
  G : ∀ k g, GL[k]? = some g → (∃ xs, w.ownsRow base E 1 g (n k + 9) xs ∧ ∀ t, t < n k + 9 → xs[t]? = some (mk k t)) ∧ ∀ b, g.ownBlock = some b → f b = k

theorem Fam.stay {w w' : World} {base E : Nat} {VL GL : List Value} {n : Nat → Nat} {mk : Nat → Nat → Value} {f : Nat → Nat} (h : Fam w base E VL GL n mk f)
    (hk : ∀ (b : Nat) (cs : Array Value), w.heap[b]? = some (Obj.cells cs E (0, 0)) → w'.heap[b]? = w.heap[b]?) : Fam w' base E VL GL n mk f := by
  refine ⟨fun k v hv => ?_, fun k g hg => ?_⟩
  · obtain ⟨⟨xs, ho, hm⟩, hf⟩ := h.V k v hv
    exact ⟨⟨xs, own_stay ho (fun b hb => by obtain ⟨cs, hc⟩ := own_typed ho b hb; exact hk b cs hc), hm⟩, hf⟩
  · obtain ⟨⟨xs, ho, hm⟩, hf⟩ := h.G k g hg
    exact ⟨⟨xs, own_stay ho (fun b hb => by obtain ⟨cs, hc⟩ := own_typed ho b hb; exact hk b cs hc), hm⟩, hf⟩

/-- The next of them has grown: its own block and new ones alone have turned. -/
theorem Fam.next {w w' : World} {base E : Nat} {VL GL : List Value} {n : Nat → Nat} {mk : Nat → Nat → Value} {f : Nat → Nat} (h : Fam w base E VL GL n mk f) {v g : Value} (hv : VL[GL.length]? = some v)
    {xs ys : List Value} (hx : w'.ownsRow base E 1 v (n GL.length) xs) (mx : ∀ t, t < n GL.length → xs[t]? = some (mk GL.length t)) (hy : w'.ownsRow base E 1 g (n GL.length + 9) ys) (my : ∀ t, t < n GL.length + 9 → ys[t]? = some (mk GL.length t))
    (hg : g.ownBlock = v.ownBlock ∨ ∃ b, g.ownBlock = some b ∧ w.heap.size ≤ b) (hk : ∀ b, b < w.heap.size → v.ownBlock ≠ some b → w'.heap[b]? = w.heap[b]?) :
    Fam w' base E VL (GL ++ [g]) n mk (fun b => if w.heap.size ≤ b then GL.length else f b) := by
  have hold : ∀ (u : Value) (m : Nat) (zs : List Value), w.ownsRow base E 1 u m zs → ∀ b, u.ownBlock = some b → b < w.heap.size := fun u m zs ho b hb => own_lt ho b hb
  have hvf := (h.V _ v hv).2
  have hother : ∀ (u : Value) (m k : Nat) (zs : List Value), w.ownsRow base E 1 u m zs → (∀ b, u.ownBlock = some b → f b = k) → k ≠ GL.length → w'.ownsRow base E 1 u m zs := fun u m k zs ho hf hne =>
    own_stay ho (fun b hb => hk b (hold u m zs ho b hb) (fun he => hne (by rw [← hf b hb, hvf b he])))
  refine ⟨fun k u hu => ?_, fun k u hu => ?_⟩
  · obtain ⟨⟨zs, ho, hm⟩, hf⟩ := h.V k u hu
    refine ⟨?_, fun b hb => by
      have := hold u _ zs ho b hb
      rw [if_neg (by omega)]
      exact hf b hb⟩
    by_cases he : k = GL.length
    · subst he
      rw [hv] at hu
      cases hu
      exact ⟨xs, hx, fun _ => mx⟩
    · refine ⟨zs, hother u _ k zs ho hf he, fun hl => hm ?_⟩
      rw [List.length_append, List.length_singleton] at hl
      omega
  · by_cases he : k < GL.length
    · rw [List.getElem?_append_left he] at hu
      obtain ⟨⟨zs, ho, hm⟩, hf⟩ := h.G k u hu
      exact ⟨⟨zs, hother u _ k zs ho hf (by omega), hm⟩, fun b hb => by
        have := hold u _ zs ho b hb
        rw [if_neg (by omega)]
        exact hf b hb⟩
    · have hkl : k < (GL ++ [g]).length := (List.getElem?_eq_some_iff.1 hu).1
      rw [List.length_append, List.length_singleton] at hkl
      obtain rfl : k = GL.length := by omega
      rw [List.getElem?_append_right (Nat.le_refl _), Nat.sub_self] at hu
      simp only [List.getElem?_cons_zero, Option.some.injEq] at hu
      subst hu
      refine ⟨⟨ys, hy, my⟩, fun b hb => ?_⟩
      rcases hg with hg | ⟨b', hb', hle⟩
      · rw [hg] at hb
        obtain ⟨⟨zs, ho, _⟩, hf⟩ := h.V _ v hv
        have := hold v _ zs ho b hb
        rw [if_neg (by omega)]
        exact hf b hb
      · rw [hb'] at hb
        cases hb
        rw [if_pos hle]

/-- A store into a row. -/
theorem own_put {w : World} {base E b cap n : Nat} {xs : List Value} (h : w.ownsRow base E 1 (.slice (some ⟨b, 0, none⟩) n cap) n xs) (j : Nat) (hj : j < n) (u : Value) :
    (w.setCell ⟨b, j, none⟩ u).ownsRow base E 1 (.slice (some ⟨b, 0, none⟩) n cap) n (xs.set j u) := by
  obtain ⟨hl, h2⟩ := h
  refine ⟨by simpa using hl, .inr ?_⟩
  rcases h2 with ⟨h2, _⟩ | ⟨g, cap', cur, hv, hb, hh, hn, hm, hs, ht⟩
  · simp at h2
  · simp only [Value.slice.injEq, Option.some.injEq, Addr.mk.injEq, and_true, true_and] at hv
    obtain ⟨rfl, rfl⟩ := hv
    refine ⟨b, cap, cur.setIfInBounds j u, rfl, hb, ?_, hn, hm, by simpa using hs, ?_⟩
    · simp [World.setCell, Array.getElem?_modify, hh]
    · rw [← ht, Array.toList_setIfInBounds, List.take_set]

theorem own_head {w : World} {base E n : Nat} {v : Value} {xs : List Value} (h : w.ownsRow base E 1 v n xs) (hn : 0 < n) : ∃ b cap, v = .slice (some ⟨b, 0, none⟩) n cap ∧ base ≤ b ∧ b < w.heap.size := by
  rcases h.2 with ⟨_, h0⟩ | ⟨g, cap, cur, rfl, hb, hh, _⟩
  · omega
  · exact ⟨g, cap, rfl, hb, blk_lt hh⟩
theorem own_val {w : World} {base E n : Nat} {v : Value} {xs : List Value} (h : w.ownsRow base E 1 v n xs) : ∃ A cap, v = .slice A n cap := by
  rcases h.2 with ⟨rfl, rfl⟩ | ⟨g, cap, cur, rfl, _⟩
  · exact ⟨none, 0, rfl⟩
  · exact ⟨_, cap, rfl⟩
theorem own_cell {w : World} {base E b cap n m : Nat} {xs : List Value} {u : Value} {j : Nat} (h : w.ownsRow base E 1 (.slice (some ⟨b, 0, none⟩) m cap) n xs) (hu : xs[j]? = some u) : w.cell? ⟨b, j, none⟩ = some u := by
  have := h.cells (g := b) rfl j u hu
  rwa [Addr.add_lit, Nat.zero_add] at this
theorem own_free {w : World} {base E b cap n m : Nat} {xs : List Value} (h : w.ownsRow base E 1 (.slice (some ⟨b, 0, none⟩) m cap) n xs) (j : Nat) : w.frozen? ⟨b, j, none⟩ = false := by
  obtain ⟨cs, hc⟩ := own_typed h b rfl
  simp [World.frozen?, hc]
theorem own_ne {w : World} {base base' E E' n n' : Nat} {v u : Value} {xs ys : List Value} (h : w.ownsRow base E 1 v n xs) (k : w.ownsRow base' E' 1 u n' ys) (hne : E ≠ E') {b : Nat} (hb : v.ownBlock = some b) : u.ownBlock ≠ some b := fun hb' => by
  obtain ⟨cs, hc⟩ := own_typed h b hb
  obtain ⟨cs', hc'⟩ := own_typed k b hb'
  rw [hc] at hc'
  simp at hc'
  exact hne hc'.2

end Go.Proofs.Ytppaainapcpnhaa.ApartKit
