/- Row; Tab; Yes; Least; GraphP: merged texts. -/
import Derived.Test.YtmghkonmfbpjcabJA
import Derived.ArgAppend
import Derived.Laws.AppendOwn
import Derived.Laws.OwnMore
import Derived.Maps.AppendAt
import Derived.Deep.AppendLies
import Derived.Laws.MakeOwn
/- A row of the call's own, wherever it begins in its block: what append, a reslice and a store make of it. No program in sight. -/
namespace Go.Proofs.Ytmghkonmfbpjcab
set_option linter.unusedVariables false
set_option linter.unusedSimpArgs false
open Go.RowKit

def Row (w : World) (base : Nat) (e : TypeId) (v : Value) (xs : List Value) : Prop :=
  (v = .slice none 0 0 ∧ xs = []) ∨
  ∃ g o cap cur, v = .slice (some ⟨g, o, none⟩) xs.length cap ∧ base ≤ g ∧ w.heap[g]? = some (.cells cur e (0, 0)) ∧ xs.length ≤ cap ∧ cap ≤ maxLen ∧ o + cap ≤ cur.size ∧
    ∀ j x, xs[j]? = some x → cur[o + j]? = some x

section
variable {w w' : World} {base : Nat} {e : TypeId} {v : Value} {xs : List Value}

theorem Row.nil_ (w : World) (base : Nat) (e : TypeId) : Row w base e (.slice none 0 0) [] := .inl ⟨rfl, rfl⟩
theorem lt_of_heap {g : Nat} {o : Obj} (h : w.heap[g]? = some o) : g < w.heap.size := by
  rcases Nat.lt_or_ge g w.heap.size with hl | hl
  · exact hl
  · rw [Array.getElem?_eq_none hl] at h; cases h
theorem Row.lt (h : Row w base e v xs) : ∀ k, v.ownBlock = some k → base ≤ k ∧ k < w.heap.size := by
  rintro k hk
  rcases h with ⟨rfl, _⟩ | ⟨g, o, cap, cur, rfl, hb, hh, _⟩
  · simp [Value.ownBlock] at hk
  · simp [Value.ownBlock] at hk
    subst hk
    exact ⟨hb, lt_of_heap hh⟩
theorem Row.of_block (h : Row w base e v xs) (hk : ∀ k, v.ownBlock = some k → w'.heap[k]? = w.heap[k]?) : Row w' base e v xs := by
  rcases h with h | ⟨g, o, cap, cur, hv, hb, hh, r⟩
  · exact .inl h
  · exact .inr ⟨g, o, cap, cur, hv, hb, (hk g (by rw [hv]; rfl)).trans hh, r⟩
theorem Row.kept {row : Option Nat} (h : Row w base e v xs) (hg : w.grownBy w' row) (hne : v.ownBlock = none ∨ v.ownBlock ≠ row) : Row w' base e v xs :=
  h.of_block fun k hk => hg.block k (h.lt k hk).2 (by
    rcases hne with hn | hn
    · rw [hn] at hk; cases hk
    · rw [← hk]; exact hn)
theorem Row.below {B : Nat} (h : Row w base e v xs) (hb : Below B w w') (hB : ∀ k, v.ownBlock = some k → k < B) : Row w' base e v xs :=
  h.of_block fun k hk => hb.block k (hB k hk)
theorem Row.below' (h : Row w base e v xs) (hb : Below w.heap.size w w') : Row w' base e v xs :=
  h.of_block fun k hk => hb.block k (h.lt k hk).2
theorem Row.alloc (h : Row w base e v xs) (o : Obj) : Row (w.alloc o) base e v xs := h.of_block fun k hk => Below.heap_alloc w o k (h.lt k hk).2
theorem Row.drew (h : Row w base e v xs) : Row w.drew base e v xs := h
theorem Row.drewN (h : Row w base e v xs) (n : Nat) : Row (w.drewN n) base e v xs := h
theorem Row.far (h : Row w base e v xs) {p : Addr} (hp : v.ownBlock ≠ some p.block) (u : Value) : Row (w.setCell p u) base e v xs :=
  h.of_block fun k hk => Below.heap_setCell w p u k (by rintro rfl; exact hp hk)
theorem Row.mono {base' : Nat} (h : Row w base e v xs) (hb : base' ≤ base) : Row w base' e v xs := by
  rcases h with h | ⟨g, o, cap, cur, hv, hg, r⟩
  · exact .inl h
  · exact .inr ⟨g, o, cap, cur, hv, Nat.le_trans hb hg, r⟩
theorem Row.shape (h : Row w base e v xs) : ∃ A cap, v = .slice A xs.length cap ∧ xs.length ≤ cap ∧ cap ≤ maxLen := by
  rcases h with ⟨rfl, rfl⟩ | ⟨g, o, cap, cur, rfl, _, _, hc, hm, _⟩
  · exact ⟨none, 0, rfl, Nat.le_refl _, Nat.zero_le _⟩
  · exact ⟨_, cap, rfl, hc, hm⟩
theorem Row.vals {A : Option Addr} {n cap : Nat} (h : Row w base e (.slice A n cap) xs) : ValsAt w A xs := fun hn => by
  rcases h with ⟨_, rfl⟩ | ⟨g, o, cap, cur, hv, hb, hh, _, _, _, hc⟩
  · exact absurd rfl hn
  · injection hv with hA
    subst hA
    refine ⟨g, o, rfl, lt_of_heap hh, fun i x hi => ?_⟩
    have := hc i x hi
    simp [World.cell?, hh, this]
/-- an element, and that it may be written -/
theorem Row.get (h : Row w base e v xs) {k : Nat} (hk : k < xs.length) :
    ∃ g o cap x, v = .slice (some ⟨g, o, none⟩) xs.length cap ∧ base ≤ g ∧ g < w.heap.size ∧ xs[k]? = some x ∧ w.cell? ⟨g, o + k, none⟩ = some x ∧ w.frozen? ⟨g, o + k, none⟩ = false := by
  rcases h with ⟨_, rfl⟩ | ⟨g, o, cap, cur, rfl, hb, hh, _, _, _, hc⟩
  · simp at hk
  · have hx : xs[k]? = some xs[k] := List.getElem?_eq_getElem hk
    exact ⟨g, o, cap, xs[k], rfl, hb, lt_of_heap hh, hx, by simp [World.cell?, hh, hc k _ hx], by simp [World.frozen?, hh]⟩
theorem heap_setCell_own {c : Array Value} {t : TypeId} {fr : Nat × Nat} {g o : Nat} (h : w.heap[g]? = some (.cells c t fr)) (u : Value) :
    (w.setCell ⟨g, o, none⟩ u).heap[g]? = some (.cells (c.setIfInBounds o u) t fr) := by
  simp [World.setCell, Array.getElem?_modify, h]
theorem Row.store {g o n cap : Nat} (h : Row w base e (.slice (some ⟨g, o, none⟩) n cap) xs) (k : Nat) (u : Value) :
    Row (w.setCell ⟨g, o + k, none⟩ u) base e (.slice (some ⟨g, o, none⟩) n cap) (xs.set k u) := by
  rcases h with ⟨hv, _⟩ | ⟨g', o', cap', cur, hv, hb, hh, h1, h2, h3, hc⟩
  · cases hv
  · injection hv with hA hn hcp
    injection hA with hA
    injection hA with hg ho
    subst hg ho hn hcp
    refine .inr ⟨g, o, cap, _, by simp, hb, heap_setCell_own hh u, by simpa using h1, h2, by simpa using h3, fun j x hj => ?_⟩
    rw [List.getElem?_set] at hj
    rw [Array.getElem?_setIfInBounds]
    split at hj
    · rename_i he
      subst he
      split at hj
      · rename_i hk
        simp only [↓reduceIte]
        rw [if_pos (by omega)]
        exact hj
      · cases hj
    · rename_i he
      rw [if_neg (by omega)]
      exact hc j x hj
theorem Row.tail {g o n cap : Nat} {x : Value} (h : Row w base e (.slice (some ⟨g, o, none⟩) n cap) (x :: xs)) :
    Row w base e (.slice (some (if cap = 1 then ⟨g, o, none⟩ else ⟨g, o + 1, none⟩)) (n - 1) (cap - 1)) xs := by
  rcases h with ⟨hv, _⟩ | ⟨g', o', cap', cur, hv, hb, hh, h1, h2, h3, hc⟩
  · cases hv
  · injection hv with hA hn hcp
    injection hA with hA
    injection hA with hg ho
    subst hg ho hn hcp
    simp only [List.length_cons] at h1 ⊢
    by_cases h1c : cap = 1
    · refine .inr ⟨g, o, cap - 1, cur, by simp [h1c], hb, hh, by omega, by omega, by omega, fun j x hj => ?_⟩
      have hl : xs.length = 0 := by omega
      rw [List.length_eq_zero_iff] at hl
      subst hl
      simp at hj
    · refine .inr ⟨g, o + 1, cap - 1, cur, by simp [h1c], hb, hh, by omega, by omega, by omega, fun j y hj => ?_⟩
      rw [show o + 1 + j = o + (j + 1) by omega]
      exact hc (j + 1) y (by simpa using hj)
theorem Row.of_own {n : Nat} (h : w.ownsRow base e 1 v n xs) : Row w base e v xs := by
  obtain ⟨hl, ⟨hv, hn⟩ | ⟨g, cap, cur, hv, hb, hh, h1, h2, h3, h4⟩⟩ := h
  · subst hn
    exact .inl ⟨hv, List.eq_nil_of_length_eq_zero (by simpa using hl)⟩
  · have hn : n = xs.length := by omega
    subst hn
    refine .inr ⟨g, 0, cap, cur, hv, hb, hh, h1, h2, by omega, fun j x hj => ?_⟩
    rw [Nat.zero_add, ← Array.getElem?_toList]
    have : (cur.toList.take (xs.length * 1))[j]? = some x := by rw [h4]; exact hj
    rw [List.getElem?_take] at this
    split at this
    · exact this
    · cases this
theorem Row.own_nil (h : Row w base e (.slice none 0 0) xs) : xs = [] := by
  rcases h with ⟨_, h⟩ | ⟨g, o, cap, cur, hv, _⟩
  · exact h
  · cases hv
/-- a new block that is a row -/
theorem Row.made {cs : Array Value} {n : Nat} (hb : base ≤ w.heap.size) (hn : n = cs.size) (hm : n ≤ maxLen) :
    Row (w.alloc (.cells cs e)) base e (.slice (some ⟨w.heap.size, 0, none⟩) n n) cs.toList :=
  .inr ⟨w.heap.size, 0, n, cs, by simp [hn], hb, heap_alloc_new w _, by simp [hn], hm, by omega, fun j x hj => by rw [Nat.zero_add]; simpa using hj⟩

theorem setCells_heap (g : Nat) (t : TypeId) (fr : Nat × Nat) : ∀ (vs : List Value) (o : Nat) (w : World) (cur : Array Value), w.heap[g]? = some (.cells cur t fr) → o + vs.length ≤ cur.size →
    ∃ cur', (w.setCells g o vs).heap[g]? = some (.cells cur' t fr) ∧ cur'.size = cur.size ∧ (∀ j x, vs[j]? = some x → cur'[o + j]? = some x) ∧ ∀ i, i < o → cur'[i]? = cur[i]?
  | [], o, w, cur, h, _ => ⟨cur, h, rfl, by simp, fun _ _ => rfl⟩
  | u :: vs, o, w, cur, h, hl => by
    simp only [List.length_cons] at hl
    obtain ⟨cur', h1, h2, h3, h4⟩ := setCells_heap g t fr vs (o + 1) (w.setCell ⟨g, o, none⟩ u) _ (heap_setCell_own h u) (by simp; omega)
    refine ⟨cur', h1, by simpa using h2, fun j x hj => ?_, fun i hi => ?_⟩
    · rcases j with _ | j
      · simp at hj
        subst hj
        rw [Nat.add_zero, h4 o (by omega), Array.getElem?_setIfInBounds]
        simp
        omega
      · rw [show o + (j + 1) = o + 1 + j by omega]
        exact h3 j x (by simpa using hj)
    · rw [h4 i (by omega), Array.getElem?_setIfInBounds, if_neg (by omega)]
theorem setCells_grown (g : Nat) : ∀ (vs : List Value) (o : Nat) (w : World), w.grownBy (w.setCells g o vs) (some g)
  | [], _, w => World.grownBy.refl w _
  | u :: vs, o, w => by
    have h1 : w.grownBy (w.setCell ⟨g, o, none⟩ u) (some g) := ⟨rfl, rfl, rfl, by simp, fun k _ hne => Below.heap_setCell w _ u k (by rintro rfl; exact hne rfl)⟩
    exact h1.trans (setCells_grown g vs (o + 1) _)

/-- append onto such a row, from whatever slice can be read -/
theorem run_append_row {P : Program} (t ty : TypeId) (i : TypeInfo) (z : Value) (bytes : Nat) (ht : P.underlying t = some (.slice e)) (hi : P.info? e = some i) (hz : i.zero = some z)
    (hsize : i.size = 1) (hby : i.bytes = bytes) (hzs : z.cells.size = 1) (hr : Row w base e v xs) (A : Option Addr) (c : Nat) (news : List Value) (hn : ValsAt w A news)
    (h1 : ∀ u ∈ news, u.oneCell' = true) (h63 : xs.length + news.length ≤ maxLen) (hbytes : (xs.length + news.length) * bytes ≤ 140737488355328) (hbase : base ≤ w.heap.size) :
    ∃ v' w', (Builtin.append_ #[t, t] ty #[v, .slice A news.length c]).run P w = .ok v' w' ∧ Row w' base e v' (xs ++ news) ∧ w.grownBy w' v.ownBlock ∧ (v'.ownBlock = v.ownBlock ∨ ∀ k, v'.ownBlock = some k → w.heap.size ≤ k) := by
  by_cases hne : news = []
  · subst hne
    refine ⟨v, w, ?_, by simpa using hr, World.grownBy.refl w _, .inl rfl⟩
    rcases hr with ⟨rfl, rfl⟩ | ⟨g, o, cap, cur, rfl, _, _, hnc, _⟩
    · rcases A with _ | A <;> simp [Builtin.append_, run_underlying ht, sizeOf, typeInfo, hi, Builtin.lenOf, Builtin.firstCells, loadCells, loadCellsFrom]
    · rcases A with _ | A <;> simp [Builtin.append_, run_underlying ht, sizeOf, typeInfo, hi, Builtin.lenOf, Builtin.firstCells, loadCells, loadCellsFrom, hnc, storeCells]
  · obtain ⟨b, off, rfl, hb, hcell⟩ := hn hne
    have hnews : ∀ j u, news[j]? = some u → w.cell? ((⟨b, off, none⟩ : Addr).add j) = some u := fun j u hj => by rw [Addr.add_lit]; exact hcell j u hj
    rcases hr with ⟨rfl, rfl⟩ | ⟨g, o, cap, cur, rfl, hb', hh, hnc, hm, hcs, hc⟩
    · obtain ⟨v', w', hrun, h2, h3, h4, h5⟩ := run_append_own_at (P := P) w base t ty e i z 1 bytes ht hi hz hsize hby hzs (by omega) (.slice none 0 0) 0 [] (World.ownsRow_nil w _ e 1) ⟨b, off, none⟩ news.length c news (by simp) hnews h1 (by simpa using h63) (by simpa using hbytes) hbase
      exact ⟨v', w', hrun, Row.of_own h2, h3, h5.imp id fun h k hk => by rw [h] at hk; injection hk with hk; omega⟩
    · by_cases hroom : xs.length + news.length ≤ cap
      · have hrun := run_append_room_cells (P := P) w t ty e i ht hi g o xs.length cap ⟨b, off, none⟩ news.length c news (by rw [hsize]; simp) hnews h1 hroom
          (fun j hj => by
            rw [hsize]
            have hlt : o + xs.length * 1 + j < cur.size := by omega
            simp [World.cell?, hh]
            omega)
          (fun j hj => by simp [World.frozen?, hh])
        rw [hsize, Nat.mul_one] at hrun
        obtain ⟨cur', q1, q2, q3, q4⟩ := setCells_heap g e (0, 0) news (o + xs.length) w cur hh (by omega)
        refine ⟨_, _, hrun, .inr ⟨g, o, cap, cur', by simp, hb', q1, by simpa using hroom, hm, by omega, fun j x hj => ?_⟩, setCells_grown g news _ w, .inl rfl⟩
        rw [List.getElem?_append] at hj
        split at hj
        · rename_i hjl
          rw [q4 _ (by omega)]
          exact hc j x hj
        · rename_i hjl
          rw [show o + j = o + xs.length + (j - xs.length) by omega]
          exact q3 _ x hj
      · have holds : ∀ j u, xs[j]? = some u → w.cell? ((⟨g, o, none⟩ : Addr).add j) = some u := fun j u hj => by
          rw [Addr.add_lit]
          simp [World.cell?, hh, hc j u hj]
        obtain ⟨v', w', hrun, h2, h3⟩ := run_append_arg_grows (P := P) w t ty e i z 1 bytes ht hi hz hsize hby hzs (by omega) ⟨g, o, none⟩ xs.length cap xs (by simp) holds ⟨b, off, none⟩ news.length c news (by simp) hnews (by omega) h63 hbytes
        have hr' := Row.of_own h2
        exact ⟨v', w', hrun, hr'.mono hbase, ⟨h3.os, h3.tape, h3.output, h3.size, fun k hk _ => h3.block k hk (by simp)⟩, .inr fun k hk => (hr'.lt k hk).1⟩

theorem wp_append_row {P : Program} {o : Oper} {a : Act} {K : Act → World → Prop} {Q : Exit → Act → World → Prop} (s x : Operand) (t : TypeId)
    (ho : o.op = .call { callee := .builtin .append, args := #[s, x], argTypes := #[t, t] })
    (i : TypeInfo) (z : Value) (bytes : Nat) (ht : P.underlying t = some (.slice e)) (hi : P.info? e = some i) (hz : i.zero = some z)
    (hsize : i.size = 1) (hby : i.bytes = bytes) (hzs : z.cells.size = 1) (hs : a.eval s = v) (hr : Row w base e v xs) (A : Option Addr) (n c : Nat) (news : List Value) (hx : a.eval x = .slice A n c)
    (hnl : n = news.length) (hn : ValsAt w A news)
    (h1 : ∀ u ∈ news, u.oneCell' = true) (h63 : xs.length + news.length ≤ maxLen) (hbytes : (xs.length + news.length) * bytes ≤ 140737488355328) (hbase : base ≤ w.heap.size)
    (h : ∀ v' w', Row w' base e v' (xs ++ news) → w.grownBy w' v.ownBlock → (v'.ownBlock = v.ownBlock ∨ ∀ k, v'.ownBlock = some k → w.heap.size ≤ k) → K (a.put o.dst v') w') : o.wp P a w K Q := by
  subst hnl
  obtain ⟨v', w', hrun, h2, h3, h4⟩ := run_append_row (P := P) t o.type i z bytes ht hi hz hsize hby hzs hr A c news hn h1 h63 hbytes hbase
  unfold Oper.wp execOp
  simp only [ho, resolve, invoke, builtin, Sem.run_bind, Sem.run_pure, Result.andThen_ok, List.map_toArray, List.map_cons, List.map_nil, hs, hx, hrun]
  exact h v' w' h2 h3 h4

theorem wpList_append_row {P : Program} {ops : Array Oper} {rest : List Oper} {o : Oper} {a : Act} {Q : Exit → Act → World → Prop} (hgd : o.guard = none) (s x : Operand) (t : TypeId)
    (ho : o.op = .call { callee := .builtin .append, args := #[s, x], argTypes := #[t, t] })
    (i : TypeInfo) (z : Value) (bytes : Nat) (ht : P.underlying t = some (.slice e)) (hi : P.info? e = some i) (hz : i.zero = some z)
    (hsize : i.size = 1) (hby : i.bytes = bytes) (hzs : z.cells.size = 1) (hs : a.eval s = v) (hr : Row w base e v xs) (A : Option Addr) (n c : Nat) (news : List Value) (hx : a.eval x = .slice A n c)
    (hnl : n = news.length) (hn : ValsAt w A news)
    (h1 : ∀ u ∈ news, u.oneCell' = true) (h63 : xs.length + news.length ≤ maxLen) (hbytes : (xs.length + news.length) * bytes ≤ 140737488355328) (hbase : base ≤ w.heap.size)
    (h : ∀ v' w', Row w' base e v' (xs ++ news) → w.grownBy w' v.ownBlock → (v'.ownBlock = v.ownBlock ∨ ∀ k, v'.ownBlock = some k → w.heap.size ≤ k) → wpList P ops Q rest (a.put o.dst v') w') :
    wpList P ops Q (o :: rest) a w :=
  wpList_plain hgd fun _ hK => wp_append_row s x t ho i z bytes ht hi hz hsize hby hzs hs hr A n c news hx hnl hn h1 h63 hbytes hbase fun v' w' h2 h3 h4 => hK _ _ (h v' w' h2 h3 h4)

theorem step_append_row {P : Program} {ops : Array Oper} {o : Oper} {a : Act} {K : Act → World → Prop} {Q : Exit → Act → World → Prop} {E : Prop} (hgd : o.guard = none) (s x : Operand) (t : TypeId)
    (ho : o.op = .call { callee := .builtin .append, args := #[s, x], argTypes := #[t, t] })
    (i : TypeInfo) (z : Value) (bytes : Nat) (ht : P.underlying t = some (.slice e)) (hi : P.info? e = some i) (hz : i.zero = some z)
    (hsize : i.size = 1) (hby : i.bytes = bytes) (hzs : z.cells.size = 1) (hs : a.eval s = v) (hr : Row w base e v xs) (A : Option Addr) (n c : Nat) (news : List Value) (hx : a.eval x = .slice A n c)
    (hnl : n = news.length) (hn : ValsAt w A news)
    (h1 : ∀ u ∈ news, u.oneCell' = true) (h63 : xs.length + news.length ≤ maxLen) (hbytes : (xs.length + news.length) * bytes ≤ 140737488355328) (hbase : base ≤ w.heap.size)
    (h : ∀ v' w', Row w' base e v' (xs ++ news) → w.grownBy w' v.ownBlock → (v'.ownBlock = v.ownBlock ∨ ∀ k, v'.ownBlock = some k → w.heap.size ≤ k) → K (a.put o.dst v') w') :
    if Region.wanted o (yielded ops a.tmps) = true then Oper.wp P o a w K Q else E := by
  have hw : Region.wanted o (yielded ops a.tmps) = true := by simp [Region.wanted, hgd]
  rw [if_pos hw]
  exact wp_append_row s x t ho i z bytes ht hi hz hsize hby hzs hs hr A n c news hx hnl hn h1 h63 hbytes hbase h

/-- the one cell that a literal of one element is laid in -/
theorem vals_one (w : World) (x : Value) (t : TypeId) : ValsAt (w.alloc (.cells #[x] t)) (some ⟨w.heap.size, 0, none⟩) [x] :=
  ValsAt.mk (by simp) fun i v hi => by
    rcases i with _ | i
    · simp at hi
      subst hi
      simp
    · simp at hi
theorem ValsAt.nil {A : Option Addr} : ValsAt w A [] := fun h => absurd rfl h
end
theorem Row.lit1 {w : World} {base g : Nat} {e : TypeId} {x : Value} (h : g = w.heap.size) (hb : base ≤ w.heap.size) : Row (w.alloc (.cells #[x] e)) base e (.slice (some ⟨g, 0, none⟩) 1 1) [x] := by
  subst h
  exact Row.made hb (by simp) (by unfold maxLen; omega)
theorem vals_one_drew (w : World) (x : Value) (t : TypeId) : ValsAt (w.alloc (.cells #[x] t)).drew (some ⟨w.heap.size, 0, none⟩) [x] := vals_one w x t
theorem vals_one' {w : World} {x : Value} {t : TypeId} {g : Nat} (h : g = w.heap.size) : ValsAt (w.alloc (.cells #[x] t)).drew (some ⟨g, 0, none⟩) [x] := by subst h; exact vals_one w x t
end Go.Proofs.Ytmghkonmfbpjcab

/- Tables of rows that lie apart; the edges of a graph as two tables hold them. No program in sight. -/
namespace Go.Proofs.Ytmghkonmfbpjcab
set_option linter.unusedVariables false
set_option linter.unusedSimpArgs false
open Go.RowKit

/-- a block that is known whole -/
def Blk (w : World) (g : Nat) (t : TypeId) (cs : Array Value) : Prop := w.heap[g]? = some (.cells cs t (0, 0))
section
variable {w w' : World} {g : Nat} {t : TypeId} {cs : Array Value}
theorem Blk.lt (h : Blk w g t cs) : g < w.heap.size := lt_of_heap h
theorem Blk.cell (h : Blk w g t cs) (i : Nat) : w.cell? ⟨g, i, none⟩ = cs[i]? := by unfold Blk at h; simp [World.cell?, h]
theorem Blk.frozen (h : Blk w g t cs) (i : Nat) : w.frozen? ⟨g, i, none⟩ = false := by unfold Blk at h; simp [World.frozen?, h]
theorem Blk.new (w : World) (t : TypeId) (cs : Array Value) : Blk (w.alloc (.cells cs t)) w.heap.size t cs := heap_alloc_new w _
theorem Blk.alloc (h : Blk w g t cs) (o : Obj) : Blk (w.alloc o) g t cs := (Below.heap_alloc w o g h.lt).trans h
theorem Blk.drewN (h : Blk w g t cs) (n : Nat) : Blk (w.drewN n) g t cs := h
theorem Blk.drew (h : Blk w g t cs) : Blk w.drew g t cs := h
theorem Blk.set_ (h : Blk w g t cs) (i : Nat) (u : Value) : Blk (w.setCell ⟨g, i, none⟩ u) g t (cs.setIfInBounds i u) := heap_setCell_own h u
theorem Blk.far (h : Blk w g t cs) {p : Addr} (hp : g ≠ p.block) (u : Value) : Blk (w.setCell p u) g t cs := (Below.heap_setCell w p u g hp).trans h
theorem Blk.below {B : Nat} (h : Blk w g t cs) (hb : Below B w w') (hg : g < B) : Blk w' g t cs := (hb.block g hg).trans h
theorem Blk.grown {row : Option Nat} (h : Blk w g t cs) (hb : w.grownBy w' row) (hg : row ≠ some g) : Blk w' g t cs := (hb.block g h.lt (fun e => hg e.symm)).trans h
theorem Blk.ne_ {g' : Nat} {t' : TypeId} {cs' : Array Value} (h : Blk w g t cs) (h' : Blk w g' t' cs') (hne : t ≠ t') : g ≠ g' := by
  rintro rfl
  unfold Blk at h h'
  rw [h] at h'
  injection h' with h'
  injection h' with _ ht
  exact hne ht
theorem Row.ne_blk {base : Nat} {e : TypeId} {v : Value} {xs : List Value} (h : Row w base e v xs) (hg : Blk w g t cs) (hne : e ≠ t) : v.ownBlock ≠ some g := by
  rcases h with ⟨rfl, _⟩ | ⟨g', o, cap, cur, rfl, _, hh, _⟩
  · simp [Value.ownBlock]
  · intro he
    simp [Value.ownBlock] at he
    subst he
    exact Blk.ne_ (t := e) hh hg hne rfl
theorem Row.ne_row {base base' : Nat} {e e' : TypeId} {v u : Value} {xs ys : List Value} (h : Row w base e v xs) (h' : Row w base' e' u ys) (hne : e ≠ e') : v.ownBlock = none ∨ v.ownBlock ≠ u.ownBlock := by
  rcases h' with ⟨rfl, _⟩ | ⟨g', o, cap, cur, rfl, _, hh, _⟩
  · rcases hv : v.ownBlock with _ | k
    · exact .inl rfl
    · exact .inr (by simp [Value.ownBlock])
  · exact .inr (h.ne_blk (cs := cur) hh hne)
theorem Row.blk {base : Nat} {e : TypeId} {g o n cap : Nat} {xs : List Value} (h : Row w base e (.slice (some ⟨g, o, none⟩) n cap) xs) : ∃ cs, Blk w g e cs := by
  rcases h with ⟨h, _⟩ | ⟨g', o', cap', cur, hv, _, hh, _⟩
  · cases h
  · injection hv with hA
    injection hA with hA
    injection hA with hg
    subst hg
    exact ⟨cur, hh⟩
end

def upd {α : Type} (f : Nat → α) (i : Nat) (x : α) : Nat → α := fun j => if j = i then x else f j
theorem upd_same {α : Type} (f : Nat → α) (i : Nat) (x : α) : upd f i x i = x := by simp [upd]
theorem upd_other {α : Type} (f : Nat → α) {i j : Nat} (x : α) (h : j ≠ i) : upd f i x j = f j := by simp [upd, h]

/-- rows that lie apart -/
def Tab (w : World) (base : Nat) (e : TypeId) (N : Nat) (vs : Nat → Value) (xs : Nat → List Value) : Prop :=
  (∀ i, i < N → Row w base e (vs i) (xs i)) ∧ ∀ i j, i < N → j < N → i ≠ j → (vs i).ownBlock = none ∨ (vs i).ownBlock ≠ (vs j).ownBlock

section
variable {w w' : World} {base N : Nat} {e : TypeId} {vs : Nat → Value} {xs : Nat → List Value}
theorem Tab.of_blocks (h : Tab w base e N vs xs) (hk : ∀ i k, i < N → (vs i).ownBlock = some k → w'.heap[k]? = w.heap[k]?) : Tab w' base e N vs xs :=
  ⟨fun i hi => (h.1 i hi).of_block fun k hv => hk i k hi hv, h.2⟩
theorem Tab.below (h : Tab w base e N vs xs) (hb : Below w.heap.size w w') : Tab w' base e N vs xs := ⟨fun i hi => (h.1 i hi).below' hb, h.2⟩
theorem Tab.alloc (h : Tab w base e N vs xs) (o : Obj) : Tab (w.alloc o) base e N vs xs := ⟨fun i hi => (h.1 i hi).alloc o, h.2⟩
theorem Tab.drew (h : Tab w base e N vs xs) : Tab w.drew base e N vs xs := h
theorem Tab.drewN (h : Tab w base e N vs xs) (n : Nat) : Tab (w.drewN n) base e N vs xs := h
theorem Tab.far (h : Tab w base e N vs xs) {p : Addr} {t : TypeId} {cs : Array Value} (hp : Blk w p.block t cs) (hne : e ≠ t) (u : Value) : Tab (w.setCell p u) base e N vs xs :=
  ⟨fun i hi => (h.1 i hi).far ((h.1 i hi).ne_blk hp hne) u, h.2⟩
theorem Tab.nils (w : World) (base : Nat) (e : TypeId) (N : Nat) : Tab w base e N (fun _ => .slice none 0 0) (fun _ => []) := ⟨fun _ _ => Row.nil_ w base e, fun _ _ _ _ _ => .inl rfl⟩
theorem Tab.put (h : Tab w base e N vs xs) {i : Nat} (hi : i < N) {v' : Value} {ys : List Value} (hr : Row w' base e v' ys) (hg : w.grownBy w' (vs i).ownBlock)
    (hb : v'.ownBlock = (vs i).ownBlock ∨ ∀ k, v'.ownBlock = some k → w.heap.size ≤ k) : Tab w' base e N (upd vs i v') (upd xs i ys) := by
  refine ⟨fun j hj => ?_, fun j k hj hk hne => ?_⟩
  · by_cases hji : j = i
    · subst hji; rw [upd_same, upd_same]; exact hr
    · rw [upd_other _ _ hji, upd_other _ _ hji]
      exact (h.1 j hj).kept hg (h.2 j i hj hi hji)
  · by_cases hji : j = i
    · subst hji
      rw [upd_same, upd_other _ _ (Ne.symm hne)]
      rcases hv : v'.ownBlock with _ | b
      · exact .inl rfl
      · refine .inr fun he => ?_
        rcases hb with hb | hb
        · rw [hv] at hb
          rcases h.2 j k hj hk hne with h0 | h0
          · rw [h0] at hb; cases hb
          · exact h0 (hb.symm.trans he)
        · have := hb b hv
          have := ((h.1 k hk).lt b he.symm).2
          omega
    · rw [upd_other _ _ hji]
      by_cases hki : k = i
      · subst hki
        rw [upd_same]
        rcases hb with hb | hb
        · rw [hb]; exact h.2 j k hj hk hne
        · rcases hv : (vs j).ownBlock with _ | b
          · exact .inl rfl
          · refine .inr fun he => ?_
            have := hb b he.symm
            have := ((h.1 j hj).lt b hv).2
            omega
      · rw [upd_other _ _ hki]
        exact h.2 j k hj hk hne
end

def ints (l : List Int) : List Value := l.map (Value.int .i64)
theorem ints_append (a b : List Int) : ints (a ++ b) = ints a ++ ints b := List.map_append
theorem ints_length (a : List Int) : (ints a).length = a.length := List.length_map _
theorem ints_get (a : List Int) (k : Nat) : (ints a)[k]? = a[k]?.map (Value.int .i64) := List.getElem?_map

/-- the pairs that have been entered: who asks, whom -/
def fst (back : Bool) (i : Nat) (m : Int) : Int := if back then (i : Int) else m
def snd (back : Bool) (i : Nat) (m : Int) : Int := if back then m else (i : Int)
structure Edges (back : Bool) (n : Nat) (PE : Nat → Int → Prop) (xs : Nat → List Int) : Prop where
  asks : ∀ a, a < n → ∀ b : Int, b ∈ xs a ↔ ∃ i m, PE i m ∧ (a : Int) = fst back i m ∧ b = snd back i m
  asked : ∀ b, b < n → ∀ a : Int, a ∈ xs (n + b) ↔ ∃ i m, PE i m ∧ a = fst back i m ∧ (b : Int) = snd back i m

theorem Edges.start (back : Bool) (n : Nat) : Edges back n (fun _ _ => False) (fun _ => []) :=
  ⟨fun a _ b => by
    constructor
    · intro h; cases h
    · rintro ⟨_, _, h, _⟩; exact h.elim, fun a _ b => by
    constructor
    · intro h; cases h
    · rintro ⟨_, _, h, _⟩; exact h.elim⟩
theorem Edges.congr {back : Bool} {n : Nat} {PE PE' : Nat → Int → Prop} {xs : Nat → List Int} (h : Edges back n PE xs) (he : ∀ i m, PE i m ↔ PE' i m) : Edges back n PE' xs :=
  ⟨fun a ha b => (h.asks a ha b).trans ⟨fun ⟨i, m, hp, r⟩ => ⟨i, m, (he i m).1 hp, r⟩, fun ⟨i, m, hp, r⟩ => ⟨i, m, (he i m).2 hp, r⟩⟩,
   fun a ha b => (h.asked a ha b).trans ⟨fun ⟨i, m, hp, r⟩ => ⟨i, m, (he i m).1 hp, r⟩, fun ⟨i, m, hp, r⟩ => ⟨i, m, (he i m).2 hp, r⟩⟩⟩
theorem Edges.step {back : Bool} {n : Nat} {PE : Nat → Int → Prop} {xs : Nat → List Int} (h : Edges back n PE xs) (k : Nat) (m : Int) (a b : Nat) (ha : a < n) (hb : b < n)
    (hfa : (a : Int) = fst back k m) (hfb : (b : Int) = snd back k m) :
    Edges back n (fun i m' => PE i m' ∨ (i = k ∧ m' = m)) (upd (upd xs a (xs a ++ [(b : Int)])) (n + b) (xs (n + b) ++ [(a : Int)])) := by
  refine ⟨fun a' ha' b' => ?_, fun b' hb' a' => ?_⟩
  · rw [upd_other _ _ (show a' ≠ n + b by omega)]
    by_cases he : a' = a
    · subst he
      rw [upd_same, List.mem_append, h.asks a' ha' b', List.mem_singleton]
      constructor
      · rintro (⟨i, m', hp, r⟩ | rfl)
        · exact ⟨i, m', .inl hp, r⟩
        · exact ⟨k, m, .inr ⟨rfl, rfl⟩, hfa, hfb⟩
      · rintro ⟨i, m', hp | ⟨rfl, rfl⟩, r1, r2⟩
        · exact .inl ⟨i, m', hp, r1, r2⟩
        · exact .inr (r2.trans hfb.symm)
    · rw [upd_other _ _ he, h.asks a' ha' b']
      constructor
      · rintro ⟨i, m', hp, r⟩; exact ⟨i, m', .inl hp, r⟩
      · rintro ⟨i, m', hp | ⟨rfl, rfl⟩, r1, r2⟩
        · exact ⟨i, m', hp, r1, r2⟩
        · exact absurd (by have := r1.trans hfa.symm; omega) he
  · by_cases he : b' = b
    · subst he
      rw [upd_same, List.mem_append, h.asked b' hb' a', List.mem_singleton]
      constructor
      · rintro (⟨i, m', hp, r⟩ | rfl)
        · exact ⟨i, m', .inl hp, r⟩
        · exact ⟨k, m, .inr ⟨rfl, rfl⟩, hfa, hfb⟩
      · rintro ⟨i, m', hp | ⟨rfl, rfl⟩, r1, r2⟩
        · exact .inl ⟨i, m', hp, r1, r2⟩
        · exact .inr (r1.trans hfa.symm)
    · rw [upd_other _ _ (show n + b' ≠ n + b by omega), upd_other _ _ (show n + b' ≠ a by omega), h.asked b' hb' a']
      constructor
      · rintro ⟨i, m', hp, r⟩; exact ⟨i, m', .inl hp, r⟩
      · rintro ⟨i, m', hp | ⟨rfl, rfl⟩, r1, r2⟩
        · exact ⟨i, m', hp, r1, r2⟩
        · exact absurd (by have := r2.trans hfb.symm; omega) he

/-- make of n elements of one cell -/
theorem run_make1 {P : Program} (t e : TypeId) (i : TypeInfo) (z : Value) (bytes : Nat) (ht : P.underlying t = some (.slice e)) (hi : P.info? e = some i) (hz : i.zero = some z) (hsize : i.size = 1) (hby : i.bytes = bytes)
    (hb : bytes ≤ 64) (hzc : z.cells = #[z]) (n : Nat) (hn : n ≤ 65536) (w : World) :
    (Instr.makeSlice t (.int .i64 (n : Int)) (.int .i64 (n : Int))).run P w = .ok (.slice (some ⟨w.heap.size, 0, none⟩) n n) (w.alloc (.cells (madeCells #[z] n) e)) := by
  have hbb : (i.bytes : Int) * (n : Int) ≤ 281474976710656 := by
    have h : i.bytes * n ≤ 64 * 65536 := Nat.mul_le_mul (by omega) hn
    have h' : ((i.bytes * n : Nat) : Int) ≤ 281474976710656 := by omega
    rwa [Int.natCast_mul] at h'
  have h := run_make (P := P) w t e i z ht hi hz .i64 .i64 (n : Int) (n : Int) (by omega) (Int.le_refl _) hbb (by omega)
  simpa [hsize, hzc] using h
theorem Row.made1 {w : World} {base : Nat} {e : TypeId} {z : Value} {n : Nat} (hb : base ≤ w.heap.size) (hm : n ≤ 65536) :
    Row (w.alloc (.cells (madeCells #[z] n) e)) base e (.slice (some ⟨w.heap.size, 0, none⟩) n n) (List.replicate n z) := by
  have h := Row.made (w := w) (base := base) (e := e) (cs := madeCells #[z] n) (n := n) hb (by simp [size_madeCells]) (by unfold maxLen; omega)
  rwa [toList_madeCells_one] at h
theorem Blk.new' {w : World} {g : Nat} {t : TypeId} {cs : Array Value} (h : g = w.heap.size) : Blk (w.alloc (.cells cs t)) g t cs := by
  subst h
  exact Blk.new w t cs
theorem Row.made1' {w : World} {base g : Nat} {e : TypeId} {z : Value} {n : Nat} (h : g = w.heap.size) (hb : base ≤ w.heap.size) (hm : n ≤ 65536) :
    Row (w.alloc (.cells (madeCells #[z] n) e)) base e (.slice (some ⟨g, 0, none⟩) n n) (List.replicate n z) := by
  subst h
  exact Row.made1 hb hm
theorem Row.below_in {w w' : World} {B : Nat} {e : TypeId} {v : Value} {xs : List Value} {base : Nat} (h : Row w base e v xs) (hb : Below B w w') (hB : w.heap.size ≤ B) : Row w' base e v xs :=
  h.below hb fun k hk => Nat.lt_of_lt_of_le (h.lt k hk).2 hB
theorem Tab.sub {w : World} {base N M : Nat} {e : TypeId} {vs : Nat → Value} {xs : Nat → List Value} (h : Tab w base e N vs xs) (hM : M ≤ N) : Tab w base e M vs xs :=
  ⟨fun i hi => h.1 i (by omega), fun i j hi hj => h.2 i j (by omega) (by omega)⟩
theorem Tab.row {w : World} {base N : Nat} {e : TypeId} {vs : Nat → Value} {xs : Nat → List Value} (h : Tab w base e N vs xs) {i : Nat} (hi : i < N) : Row w base e (vs i) (xs i) := h.1 i hi
/-- one row more, in a block that is new -/
theorem Tab.add {w w' : World} {base N : Nat} {e : TypeId} {vs : Nat → Value} {xs : Nat → List Value} (h : Tab w base e N vs xs) (hb : Below w.heap.size w w') {v : Value} {ys : List Value}
    (hr : Row w' base e v ys) (hn : ∀ k, v.ownBlock = some k → w.heap.size ≤ k) : Tab w' base e (N + 1) (upd vs N v) (upd xs N ys) := by
  have hold := h.below hb
  refine ⟨fun i hi => ?_, fun i j hi hj hne => ?_⟩
  · by_cases hiN : i = N
    · subst hiN; rw [upd_same, upd_same]; exact hr
    · rw [upd_other _ _ hiN, upd_other _ _ hiN]; exact hold.1 i (by omega)
  · by_cases hiN : i = N
    · subst hiN
      rw [upd_same, upd_other _ _ (show j ≠ i by omega)]
      rcases hv : v.ownBlock with _ | b
      · exact .inl rfl
      · refine .inr fun he => ?_
        have := hn b hv
        have := ((h.1 j (by omega)).lt b he.symm).2
        omega
    · rw [upd_other _ _ hiN]
      by_cases hjN : j = N
      · subst hjN
        rw [upd_same]
        rcases hv : (vs i).ownBlock with _ | b
        · exact .inl rfl
        · refine .inr fun he => ?_
          have := hn b he.symm
          have := ((h.1 i (by omega)).lt b hv).2
          omega
      · rw [upd_other _ _ hjN]
        exact h.2 i j (by omega) (by omega) hne

/-- what is so of a graph that is being made: the two tables, and which pairs are in -/
structure GInv (tG tS tI : TypeId) (B : Nat) (w : World) (G5 GA GB : Nat) (bk : Bool) (n M : Nat) (PE : Nat → Int → Prop) (cnt : Nat) (wr : World) (vs : Nat → Value) (ys : Nat → List Value) (xs : Nat → List Int) : Prop where
  g5 : Blk wr G5 tG #[.slice (some ⟨GA, 0, none⟩) n n, .slice (some ⟨GB, 0, none⟩) n n]
  ra : Row wr B tS (.slice (some ⟨GA, 0, none⟩) n n) ((List.range n).map vs)
  rb : Row wr B tS (.slice (some ⟨GB, 0, none⟩) n n) ((List.range n).map fun i => vs (n + i))
  tab : Tab wr B tI M vs ys
  ysx : ∀ i, i < 2 * n → ys i = ints (xs i)
  edges : Edges bk n PE xs
  len : ∀ i, i < 2 * n → (xs i).length ≤ cnt
  r4 : Blk wr (B + 1) tG #[.slice none 0 0, .slice none 0 0]
  below : Below B w wr

section
variable {tG tS tI : TypeId} {B : Nat} {w : World} {G5 GA GB : Nat} {bk : Bool} {n M : Nat} {PE : Nat → Int → Prop} {cnt : Nat} {wr : World} {vs : Nat → Value} {ys : Nat → List Value} {xs : Nat → List Int}
theorem GInv.alloc (h : GInv tG tS tI B w G5 GA GB bk n M PE cnt wr vs ys xs) (hB : B ≤ wr.heap.size) (o : Obj) : GInv tG tS tI B w G5 GA GB bk n M PE cnt (wr.alloc o) vs ys xs :=
  ⟨h.g5.alloc o, h.ra.alloc o, h.rb.alloc o, h.tab.alloc o, h.ysx, h.edges, h.len, h.r4.alloc o, h.below.alloc hB o⟩
theorem GInv.drew (h : GInv tG tS tI B w G5 GA GB bk n M PE cnt wr vs ys xs) : GInv tG tS tI B w G5 GA GB bk n M PE cnt wr.drew vs ys xs :=
  ⟨h.g5.drew, h.ra.drew, h.rb.drew, h.tab.drew, h.ysx, h.edges, h.len, h.r4.drew, h.below.drew⟩
theorem GInv.congr {PE' : Nat → Int → Prop} {cnt' : Nat} (h : GInv tG tS tI B w G5 GA GB bk n M PE cnt wr vs ys xs) (he : ∀ i m, PE i m ↔ PE' i m) (hc : cnt ≤ cnt') : GInv tG tS tI B w G5 GA GB bk n M PE' cnt' wr vs ys xs :=
  ⟨h.g5, h.ra, h.rb, h.tab, h.ysx, h.edges.congr he, fun i hi => Nat.le_trans (h.len i hi) hc, h.r4, h.below⟩
theorem GInv.sub {M' : Nat} (h : GInv tG tS tI B w G5 GA GB bk n M PE cnt wr vs ys xs) (hM : M' ≤ M) : GInv tG tS tI B w G5 GA GB bk n M' PE cnt wr vs ys xs :=
  ⟨h.g5, h.ra, h.rb, h.tab.sub hM, h.ysx, h.edges, h.len, h.r4, h.below⟩
end

/-- a row more in a new block beside the tables -/
theorem GInv.add {tG tS tI : TypeId} {B : Nat} {w : World} {G5 GA GB : Nat} {bk : Bool} {n : Nat} {PE : Nat → Int → Prop} {cnt : Nat} {wr w' : World} {vs : Nat → Value} {ys : Nat → List Value} {xs : Nat → List Int}
    (h : GInv tG tS tI B w G5 GA GB bk n (2 * n) PE cnt wr vs ys xs) (hB : B ≤ wr.heap.size) (hb : Below wr.heap.size wr w') {v : Value} {zs : List Value} (hr : Row w' B tI v zs) (hn : ∀ k, v.ownBlock = some k → wr.heap.size ≤ k) :
    GInv tG tS tI B w G5 GA GB bk n (2 * n + 1) PE cnt w' (upd vs (2 * n) v) (upd ys (2 * n) zs) xs :=
  ⟨h.g5.below hb h.g5.lt, by
      have := h.ra.below' hb
      rwa [show (List.range n).map (upd vs (2 * n) v) = (List.range n).map vs from List.map_congr_left fun i hi => upd_other _ _ (by have := List.mem_range.1 hi; omega)], by
      have := h.rb.below' hb
      rwa [show ((List.range n).map fun i => upd vs (2 * n) v (n + i)) = (List.range n).map fun i => vs (n + i) from List.map_congr_left fun i hi => upd_other _ _ (by have := List.mem_range.1 hi; omega)],
    h.tab.add hb hr hn, fun i hi => by rw [upd_other _ _ (by omega)]; exact h.ysx i hi, h.edges, h.len, h.r4.below hb h.r4.lt, h.below.trans (hb.mono hB)⟩

theorem tabcell {w : World} {B g n : Nat} {e : TypeId} {vs : Nat → Value} {i : Nat} (h : Row w B e (.slice (some ⟨g, 0, none⟩) n n) ((List.range n).map vs)) (hi : i < n) : w.cell? ⟨g, i, none⟩ = some (vs i) := by
  obtain ⟨b, off, e, _, hc⟩ := h.vals (by intro h0; have := congrArg List.length h0; simp at this; omega)
  injection e with e
  injection e with e1 e2
  subst e1 e2
  have := hc i (vs i) (by simp [hi])
  rwa [Nat.zero_add] at this
theorem tabfree {w : World} {B g n : Nat} {e : TypeId} {vs : Nat → Value} {i : Nat} (h : Row w B e (.slice (some ⟨g, 0, none⟩) n n) ((List.range n).map vs)) (hi : i < n) : w.frozen? ⟨g, i, none⟩ = false := by
  obtain ⟨b, off, cap, x, e, _, _, _, _, hf⟩ := h.get (k := i) (by simpa using hi)
  injection e with e
  injection e with e
  injection e with e1 e2
  subst e1 e2
  rwa [Nat.zero_add] at hf
theorem rowlt {w : World} {B g o n c : Nat} {e : TypeId} {xs : List Value} (h : Row w B e (.slice (some ⟨g, o, none⟩) n c) xs) : g < w.heap.size := (h.lt g rfl).2
theorem rowge {w : World} {B g o n c : Nat} {e : TypeId} {xs : List Value} (h : Row w B e (.slice (some ⟨g, o, none⟩) n c) xs) : B ≤ g := (h.lt g rfl).1

theorem map_range_set {α : Type} (vs : Nat → α) (x : α) {n i : Nat} (_hi : i < n) : ((List.range n).map vs).set i x = (List.range n).map (upd vs i x) := by
  apply List.ext_getElem?
  intro j
  rw [List.getElem?_set]
  simp only [List.getElem?_map, List.length_map, List.length_range]
  by_cases hij : i = j
  · subst hij
    simp [_hi, upd]
  · rw [if_neg hij]
    by_cases hj : j < n
    · simp [hj, upd_other _ _ (Ne.symm hij)]
    · simp [hj]
theorem map_range_set' {α : Type} (vs : Nat → α) (x : α) {n i : Nat} (hi : i < n) : ((List.range n).map fun j => vs (n + j)).set i x = (List.range n).map fun j => upd vs (n + i) x (n + j) := by
  rw [map_range_set (fun j => vs (n + j)) x hi]
  refine List.map_congr_left fun j _ => ?_
  unfold upd
  by_cases h : j = i
  · simp [h]
  · rw [if_neg h, if_neg (by omega)]
/-- the two tables alone -/
structure GTab (tG tS tI : TypeId) (B : Nat) (w : World) (G5 GA GB : Nat) (n M : Nat) (wr : World) (vs : Nat → Value) (ys : Nat → List Value) : Prop where
  g5 : Blk wr G5 tG #[.slice (some ⟨GA, 0, none⟩) n n, .slice (some ⟨GB, 0, none⟩) n n]
  ra : Row wr B tS (.slice (some ⟨GA, 0, none⟩) n n) ((List.range n).map vs)
  rb : Row wr B tS (.slice (some ⟨GB, 0, none⟩) n n) ((List.range n).map fun i => vs (n + i))
  tab : Tab wr B tI M vs ys
  r4 : Blk wr (B + 1) tG #[.slice none 0 0, .slice none 0 0]
  below : Below B w wr
section
variable {tG tS tI : TypeId} {B : Nat} {w : World} {G5 GA GB : Nat} {bk : Bool} {n M : Nat} {PE : Nat → Int → Prop} {cnt : Nat} {wr wr1 w2 : World} {vs : Nat → Value} {ys : Nat → List Value} {xs : Nat → List Int} {v1 : Value} {zs : List Value}
theorem GInv.gt (h : GInv tG tS tI B w G5 GA GB bk n M PE cnt wr vs ys xs) : GTab tG tS tI B w G5 GA GB n M wr vs ys := ⟨h.g5, h.ra, h.rb, h.tab, h.r4, h.below⟩
theorem GTab.inv (h : GTab tG tS tI B w G5 GA GB n M wr vs ys) (hy : ∀ i, i < 2 * n → ys i = ints (xs i)) (he : Edges bk n PE xs) (hl : ∀ i, i < 2 * n → (xs i).length ≤ cnt) :
    GInv tG tS tI B w G5 GA GB bk n M PE cnt wr vs ys xs := ⟨h.g5, h.ra, h.rb, h.tab, hy, he, hl, h.r4, h.below⟩
theorem GTab.later (h : GTab tG tS tI B w G5 GA GB n M wr vs ys) (hB : B ≤ wr.heap.size) (hb : Below wr.heap.size wr wr1) : GTab tG tS tI B w G5 GA GB n M wr1 vs ys :=
  ⟨h.g5.below hb h.g5.lt, h.ra.below' hb, h.rb.below' hb, h.tab.below hb, h.r4.below hb h.r4.lt, h.below.trans (hb.mono hB)⟩
theorem GTab.putA (h : GTab tG tS tI B w G5 GA GB n M wr vs ys) (n1 : tI ≠ tG) (n2 : tI ≠ tS) (n3 : tS ≠ tG) (hAB : GA ≠ GB) (hM : 2 * n ≤ M) {i : Nat} (hi : i < n)
    (hB0 : B ≤ wr.heap.size) (hr : Row w2 B tI v1 zs) (hg : wr.grownBy w2 (vs i).ownBlock) (hat : v1.ownBlock = (vs i).ownBlock ∨ ∀ k, v1.ownBlock = some k → wr.heap.size ≤ k) :
    GTab tG tS tI B w G5 GA GB n M (w2.setCell ⟨GA, i, none⟩ v1) (upd vs i v1) (upd ys i zs) := by
  have hri := h.tab.row (i := i) (by omega)
  have a1 : (vs i).ownBlock ≠ some G5 := hri.ne_blk h.g5 n1
  have a2 : (vs i).ownBlock ≠ some (B + 1) := hri.ne_blk h.r4 n1
  obtain ⟨ca, hca⟩ := h.ra.blk
  obtain ⟨cb, hcb⟩ := h.rb.blk
  have a3 : (vs i).ownBlock ≠ some GA := hri.ne_blk hca n2
  have a4 : (vs i).ownBlock ≠ some GB := hri.ne_blk hcb n2
  have g5' := h.g5.grown hg a1
  have r4' := h.r4.grown hg a2
  have ca' := hca.grown hg a3
  have ra' := h.ra.kept hg (.inr (by simp [Value.ownBlock]; exact fun e => a3 e.symm))
  have rb' := h.rb.kept hg (.inr (by simp [Value.ownBlock]; exact fun e => a4 e.symm))
  have tab' := h.tab.put (by omega) hr hg hat
  have hB := rowge h.ra
  refine ⟨g5'.far (Blk.ne_ g5' ca' (Ne.symm n3)) _, ?_, ?_, tab'.far (p := ⟨GA, i, none⟩) ca' n2 _, r4'.far (Blk.ne_ r4' ca' (Ne.symm n3)) _, ?_⟩
  · have := ra'.store i v1
    rw [Nat.zero_add] at this
    rwa [map_range_set _ _ hi] at this
  · have := rb'.far (p := ⟨GA, i, none⟩) (by simp [Value.ownBlock]; exact fun e => hAB e.symm) v1
    rwa [show ((List.range n).map fun j => upd vs i v1 (n + j)) = (List.range n).map fun j => vs (n + j) from List.map_congr_left fun j hj => upd_other _ _ (by omega)]
  · exact (h.below.grown hg hB0 fun k hk => (hri.lt k hk).1).setCell hB _
theorem GTab.putB (h : GTab tG tS tI B w G5 GA GB n M wr vs ys) (n1 : tI ≠ tG) (n2 : tI ≠ tS) (n3 : tS ≠ tG) (hAB : GA ≠ GB) (hM : 2 * n ≤ M) {i : Nat} (hi : i < n)
    (hB0 : B ≤ wr.heap.size) (hr : Row w2 B tI v1 zs) (hg : wr.grownBy w2 (vs (n + i)).ownBlock) (hat : v1.ownBlock = (vs (n + i)).ownBlock ∨ ∀ k, v1.ownBlock = some k → wr.heap.size ≤ k) :
    GTab tG tS tI B w G5 GA GB n M (w2.setCell ⟨GB, i, none⟩ v1) (upd vs (n + i) v1) (upd ys (n + i) zs) := by
  have hri := h.tab.row (i := n + i) (by omega)
  have a1 : (vs (n + i)).ownBlock ≠ some G5 := hri.ne_blk h.g5 n1
  have a2 : (vs (n + i)).ownBlock ≠ some (B + 1) := hri.ne_blk h.r4 n1
  obtain ⟨ca, hca⟩ := h.ra.blk
  obtain ⟨cb, hcb⟩ := h.rb.blk
  have a3 : (vs (n + i)).ownBlock ≠ some GA := hri.ne_blk hca n2
  have a4 : (vs (n + i)).ownBlock ≠ some GB := hri.ne_blk hcb n2
  have g5' := h.g5.grown hg a1
  have r4' := h.r4.grown hg a2
  have cb' := hcb.grown hg a4
  have ra' := h.ra.kept hg (.inr (by simp [Value.ownBlock]; exact fun e => a3 e.symm))
  have rb' := h.rb.kept hg (.inr (by simp [Value.ownBlock]; exact fun e => a4 e.symm))
  have tab' := h.tab.put (by omega) hr hg hat
  have hB := rowge h.rb
  refine ⟨g5'.far (Blk.ne_ g5' cb' (Ne.symm n3)) _, ?_, ?_, tab'.far (p := ⟨GB, i, none⟩) cb' n2 _, r4'.far (Blk.ne_ r4' cb' (Ne.symm n3)) _, ?_⟩
  · have := ra'.far (p := ⟨GB, i, none⟩) (by simp [Value.ownBlock]; exact hAB) v1
    rwa [show (List.range n).map (upd vs (n + i) v1) = (List.range n).map vs from List.map_congr_left fun j hj => upd_other _ _ (by have := List.mem_range.1 hj; omega)]
  · have := rb'.store i v1
    rw [Nat.zero_add] at this
    rwa [map_range_set' _ _ hi] at this
  · exact (h.below.grown hg hB0 fun k hk => (hri.lt k hk).1).setCell hB _
theorem GInv.done (h : GInv tG tS tI B w G5 GA GB bk n M PE cnt wr vs ys xs) {k : Nat} {m : Int} {a b : Nat} {vs' : Nat → Value}
    (hT : GTab tG tS tI B w G5 GA GB n M w2 vs' (upd (upd ys a (ys a ++ [.int .i64 (b : Int)])) (n + b) (upd ys a (ys a ++ [.int .i64 (b : Int)]) (n + b) ++ [.int .i64 (a : Int)])))
    (ha : a < n) (hb : b < n) (hfa : (a : Int) = fst bk k m) (hfb : (b : Int) = snd bk k m) :
    GInv tG tS tI B w G5 GA GB bk n M (fun i m' => PE i m' ∨ (i = k ∧ m' = m)) (cnt + 1) w2 vs' (upd (upd ys a (ys a ++ [.int .i64 (b : Int)])) (n + b) (upd ys a (ys a ++ [.int .i64 (b : Int)]) (n + b) ++ [.int .i64 (a : Int)]))
      (upd (upd xs a (xs a ++ [(b : Int)])) (n + b) (xs (n + b) ++ [(a : Int)])) := by
  refine hT.inv (fun i hi => ?_) (h.edges.step k m a b ha hb hfa hfb) (fun i hi => ?_)
  · by_cases h1 : i = n + b
    · subst h1
      rw [upd_same, upd_same, upd_other _ _ (by omega), h.ysx _ hi, ints_append]
      rfl
    · rw [upd_other _ _ h1, upd_other _ _ h1]
      by_cases h2 : i = a
      · subst h2
        rw [upd_same, upd_same, h.ysx _ hi, ints_append]
        rfl
      · rw [upd_other _ _ h2, upd_other _ _ h2]
        exact h.ysx i hi
  · by_cases h1 : i = n + b
    · subst h1
      rw [upd_same, List.length_append]
      have := h.len _ hi
      simp
      omega
    · rw [upd_other _ _ h1]
      by_cases h2 : i = a
      · subst h2
        rw [upd_same, List.length_append]
        have := h.len _ hi
        simp
        omega
      · rw [upd_other _ _ h2]
        have := h.len _ hi
        omega
end

/-- a graph, made -/
structure Graph (tS tI : TypeId) (B : Nat) (GA GB : Nat) (bk : Bool) (n : Nat) (PE : Nat → Int → Prop) (wr : World) (vs : Nat → Value) (xs : Nat → List Int) : Prop where
  ra : Row wr B tS (.slice (some ⟨GA, 0, none⟩) n n) ((List.range n).map vs)
  rb : Row wr B tS (.slice (some ⟨GB, 0, none⟩) n n) ((List.range n).map fun i => vs (n + i))
  tab : Tab wr B tI (2 * n) vs (fun i => ints (xs i))
  edges : Edges bk n PE xs
  len : ∀ i, i < 2 * n → (xs i).length ≤ 2 * n
theorem GInv.out {tG tS tI : TypeId} {B : Nat} {w : World} {G5 GA GB : Nat} {bk : Bool} {n : Nat} {PE : Nat → Int → Prop} {wr : World} {vs : Nat → Value} {ys : Nat → List Value} {xs : Nat → List Int}
    (h : GInv tG tS tI B w G5 GA GB bk n (2 * n) PE (2 * n) wr vs ys xs) (n1 : tI ≠ tG) (n3 : tS ≠ tG) (u v : Value) :
    Graph tS tI B GA GB bk n PE ((wr.setCell ⟨B + 1, 0, none⟩ u).setCell ⟨B + 1, 1, none⟩ v) vs xs ∧ Below B w ((wr.setCell ⟨B + 1, 0, none⟩ u).setCell ⟨B + 1, 1, none⟩ v) := by
  obtain ⟨ca, hca⟩ := h.ra.blk
  obtain ⟨cb, hcb⟩ := h.rb.blk
  have e1 : GA ≠ B + 1 := Blk.ne_ hca h.r4 n3
  have e2 : GB ≠ B + 1 := Blk.ne_ hcb h.r4 n3
  have q := h.r4.set_ 0 u
  have t1 := (h.tab.far (p := ⟨B + 1, 0, none⟩) h.r4 n1 u).far (p := ⟨B + 1, 1, none⟩) q n1 v
  refine ⟨⟨(h.ra.far (by simp [Value.ownBlock]; exact e1) u).far (by simp [Value.ownBlock]; exact e1) v, (h.rb.far (by simp [Value.ownBlock]; exact e2) u).far (by simp [Value.ownBlock]; exact e2) v, ?_, h.edges, h.len⟩,
    (h.below.setCell (by simp) u).setCell (by simp) v⟩
  exact ⟨fun i hi => by have := t1.row hi; rw [h.ysx i hi] at this; exact this, fun i j hi hj hne => t1.2 i j hi hj hne⟩

attribute [irreducible] Blk Tab
end Go.Proofs.Ytmghkonmfbpjcab

/- Plain law: lists of yes and no; the greatest answer. No program in sight. -/
namespace Go.Proofs.Ytmghkonmfbpjcab
set_option linter.unusedVariables false
set_option linter.unusedSimpArgs false
open Go.RowKit

def bools (l : List Bool) : List Value := l.map Value.bool
theorem bools_length (a : List Bool) : (bools a).length = a.length := List.length_map _
theorem bools_get (a : List Bool) (k : Nat) : (bools a)[k]? = a[k]?.map Value.bool := List.getElem?_map
/-- the k-th yes or no -/
def yn (l : List Bool) (k : Nat) : Bool := l.getD k false
theorem ValsAt.bool {w : World} {A : Option Addr} {l : List Bool} (h : ValsAt w A (bools l)) {k : Nat} (hk : k < l.length) :
    ∃ b off, A = some ⟨b, off, none⟩ ∧ b < w.heap.size ∧ w.cell? ⟨b, off + k, none⟩ = some (.bool (yn l k)) := by
  obtain ⟨b, off, v, e, hb, hv, hc⟩ := h.get (k := k) (by rw [bools_length]; exact hk)
  rw [bools_get, List.getElem?_eq_getElem hk] at hv
  simp at hv
  subst hv
  exact ⟨b, off, e, hb, by rw [hc]; simp [yn, hk]⟩

theorem yn_set (x : List Bool) (k i : Nat) (b : Bool) (hk : k < x.length) : yn (x.set k b) i = if i = k then b else yn x i := by
  unfold yn
  rw [List.getD_eq_getElem?_getD, List.getD_eq_getElem?_getD, List.getElem?_set]
  by_cases h : i = k
  · subst h; simp [hk]
  · rw [if_neg (fun e => h e.symm), if_neg h]
theorem yn_out {x : List Bool} {i : Nat} (h : x.length ≤ i) : yn x i = false := by simp [yn, h]
theorem ext_yn {x y : List Bool} (hl : x.length = y.length) (h : ∀ i, i < x.length → yn x i = yn y i) : x = y := by
  apply List.ext_getElem hl
  intro i h1 h2
  have := h i h1
  simpa [yn, h1, h2] using this

/-- x says yes only where y does -/
def leB (x y : List Bool) : Prop := ∀ i, yn x i = true → yn y i = true
section
variable (S : List Bool → Nat → Bool) (n : Nat)
/-- it says yes only where it must -/
def Post (x : List Bool) : Prop := x.length = n ∧ ∀ i, i < n → yn x i = true → S x i = true
/-- an answer -/
def Ans (x : List Bool) : Prop := x.length = n ∧ ∀ i, i < n → yn x i = S x i
/-- above all that says yes only where it must -/
def Above (x : List Bool) : Prop := x.length = n ∧ ∀ z, Post S n z → leB z x
/-- the greatest answer -/
def Great (x : List Bool) : Prop := Ans S n x ∧ Above S n x
def Mono : Prop := ∀ x y i, leB x y → S x i = true → S y i = true
variable {S n}
theorem Above.start {x : List Bool} (hl : x.length = n) (h : ∀ i, i < n → yn x i = true) : Above S n x := ⟨hl, fun z hz i hi => by
  by_cases hin : i < n
  · exact h i hin
  · rw [yn_out (by rw [hz.1]; omega)] at hi; cases hi⟩
theorem Above.drop (hm : Mono S) {x : List Bool} (h : Above S n x) {k : Nat} (hk : k < n) (hs : S x k = false) : Above S n (x.set k false) := by
  refine ⟨by simpa using h.1, fun z hz i hi => ?_⟩
  rw [yn_set _ _ _ _ (by rw [h.1]; exact hk)]
  by_cases hik : i = k
  · subst hik
    have := hm z x i (h.2 z hz) (hz.2 i hk hi)
    rw [hs] at this
    cases this
  · rw [if_neg hik]
    exact h.2 z hz i hi
theorem Above.great (hm : Mono S) {x : List Bool} (h : Above S n x) (hp : ∀ i, i < n → yn x i = true → S x i = true) : Great S n x := by
  refine ⟨⟨h.1, fun i hi => ?_⟩, h⟩
  rw [Bool.eq_iff_iff]
  refine ⟨hp i hi, fun hs => ?_⟩
  by_cases hx : yn x i = true
  · exact hx
  · have hle : leB x (x.set i true) := fun j hj => by
      rw [yn_set _ _ _ _ (by rw [h.1]; exact hi)]
      split
      · rfl
      · exact hj
    have hz : Post S n (x.set i true) := by
      refine ⟨by simpa using h.1, fun j hj hjz => ?_⟩
      rw [yn_set _ _ _ _ (by rw [h.1]; exact hi)] at hjz
      by_cases hji : j = i
      · subst hji
        exact hm _ _ _ hle hs
      · rw [if_neg hji] at hjz
        exact hm _ _ _ hle (hp j hj hjz)
    exact h.2 _ hz i (by rw [yn_set _ _ _ _ (by rw [h.1]; exact hi), if_pos rfl])
theorem Great.unique {x y : List Bool} (hx : Great S n x) (hy : Great S n y) : x = y := by
  refine ext_yn (hx.1.1.trans hy.1.1.symm) fun i hi => ?_
  rw [hx.1.1] at hi
  rw [Bool.eq_iff_iff]
  exact ⟨hy.2.2 x ⟨hx.1.1, fun j hj h => by rw [← hx.1.2 j hj]; exact h⟩ i, hx.2.2 y ⟨hy.1.1, fun j hj h => by rw [← hy.1.2 j hj]; exact h⟩ i⟩
theorem Great.ans_le {x z : List Bool} (hx : Great S n x) (hz : Ans S n z) : leB z x :=
  hx.2.2 z ⟨hz.1, fun j hj h => by rw [← hz.2 j hj]; exact h⟩
end

def cnt (x : List Bool) : Nat := x.count true
theorem cnt_set {x : List Bool} {k : Nat} (hk : k < x.length) (hx : yn x k = true) : cnt (x.set k false) + 1 = cnt x := by
  unfold cnt
  rw [List.count_set hk]
  have h1 : x[k] = true := by simpa [yn, hk] using hx
  have h2 : 0 < x.count true := List.count_pos_iff.2 (by rw [← h1]; exact List.getElem_mem hk)
  simp [h1]
  omega
theorem cnt_le (x : List Bool) : cnt x ≤ x.length := List.count_le_length
theorem bools_set (x : List Bool) (k : Nat) (b : Bool) : (bools x).set k (.bool b) = bools (x.set k b) := (List.map_set).symm
theorem Row.bool {w : World} {B : Nat} {e : TypeId} {v : Value} {x : List Bool} (h : Row w B e v (bools x)) {k : Nat} (hk : k < x.length) :
    ∃ g o cap, v = .slice (some ⟨g, o, none⟩) x.length cap ∧ B ≤ g ∧ g < w.heap.size ∧ w.cell? ⟨g, o + k, none⟩ = some (.bool (yn x k)) ∧ w.frozen? ⟨g, o + k, none⟩ = false := by
  obtain ⟨g, o, cap, u, e1, hb, hl, hu, hc, hf⟩ := h.get (k := k) (by rw [bools_length]; exact hk)
  rw [bools_get, List.getElem?_eq_getElem hk] at hu
  simp at hu
  subst hu
  rw [bools_length] at e1
  exact ⟨g, o, cap, e1, hb, hl, by rw [hc]; simp [yn, hk], hf⟩
theorem Row.setb {w : World} {B : Nat} {e : TypeId} {g o n cap : Nat} {x : List Bool} (h : Row w B e (.slice (some ⟨g, o, none⟩) n cap) (bools x)) (k : Nat) (b : Bool) :
    Row (w.setCell ⟨g, o + k, none⟩ (.bool b)) B e (.slice (some ⟨g, o, none⟩) n cap) (bools (x.set k b)) := by
  rw [← bools_set]
  exact h.store k _

end Go.Proofs.Ytmghkonmfbpjcab

/- Plain law: the least answer, found by turns. No program in sight. -/
namespace Go.Proofs.Ytmghkonmfbpjcab
set_option linter.unusedVariables false
set_option linter.unusedSimpArgs false
open Go.RowKit

section
variable (S : List Bool → Nat → Bool) (n : Nat)
/-- it says yes wherever it must -/
def Closed (x : List Bool) : Prop := x.length = n ∧ ∀ i, i < n → S x i = true → yn x i = true
/-- below all that say yes wherever they must -/
def Under (x : List Bool) : Prop := x.length = n ∧ ∀ z, Closed S n z → leB x z
/-- the least answer -/
def Least (x : List Bool) : Prop := Ans S n x ∧ Under S n x
variable {S n}
theorem Under.start {x : List Bool} (hl : x.length = n) (h : ∀ i, yn x i = false) : Under S n x := ⟨hl, fun z hz i hi => by rw [h i] at hi; cases hi⟩
theorem Under.put (hm : Mono S) {x : List Bool} (h : Under S n x) {k : Nat} (hk : k < n) : Under S n (x.set k (S x k)) := by
  refine ⟨by simpa using h.1, fun z hz i hi => ?_⟩
  rw [yn_set _ _ _ _ (by rw [h.1]; exact hk)] at hi
  by_cases hik : i = k
  · subst hik
    rw [if_pos rfl] at hi
    exact hz.2 i hk (hm x z i (h.2 z hz) hi)
  · rw [if_neg hik] at hi
    exact h.2 z hz i hi
theorem leB_put {x : List Bool} {k : Nat} (hk : k < x.length) (hp : yn x k = true → S x k = true) : leB x (x.set k (S x k)) := fun i hi => by
  rw [yn_set _ _ _ _ hk]
  split
  · rename_i h; subst h; exact hp hi
  · exact hi
theorem Post.put (hm : Mono S) {x : List Bool} (h : Post S n x) {k : Nat} (hk : k < n) : Post S n (x.set k (S x k)) := by
  have hkx : k < x.length := by rw [h.1]; exact hk
  have hle := leB_put (S := S) hkx (h.2 k hk)
  refine ⟨by simpa using h.1, fun i hi hs => ?_⟩
  rw [yn_set _ _ _ _ hkx] at hs
  by_cases hik : i = k
  · subst hik
    rw [if_pos rfl] at hs
    exact hm _ _ _ hle hs
  · rw [if_neg hik] at hs
    exact hm _ _ _ hle (h.2 i hi hs)
theorem cnt_put {x : List Bool} {k : Nat} (hk : k < x.length) (h0 : yn x k = false) : cnt (x.set k true) = cnt x + 1 := by
  unfold cnt
  rw [List.count_set hk]
  have h1 : x[k] = false := by simpa [yn, hk] using h0
  simp [h1]
theorem Least.unique {x y : List Bool} (hx : Least S n x) (hy : Least S n y) : x = y := by
  refine ext_yn (hx.1.1.trans hy.1.1.symm) fun i hi => ?_
  rw [Bool.eq_iff_iff]
  exact ⟨hx.2.2 y ⟨hy.1.1, fun j hj h => by rw [hy.1.2 j hj]; exact h⟩ i, hy.2.2 x ⟨hx.1.1, fun j hj h => by rw [hx.1.2 j hj]; exact h⟩ i⟩

/-- in the midst of a turn: something was added, or what was reckoned is right, or it is an answer -/
def Turning (S : List Bool → Nat → Bool) (n c k : Nat) (x : List Bool) : Prop := Post S n x ∧ Under S n x ∧ (c < cnt x ∨ (c ≤ cnt x ∧ ∀ i, k ≤ i → i < n → yn x i = S x i) ∨ Ans S n x)
theorem set_yn {x : List Bool} {k : Nat} {b : Bool} (hk : k < x.length) (h : yn x k = b) : x.set k b = x := ext_yn (by simp) fun i _ => by
  rw [yn_set _ _ _ _ hk]
  split
  · rename_i h'; subst h'; exact h.symm
  · rfl
theorem Turning.step (hm : Mono S) {c k : Nat} {x : List Bool} (h : Turning S n c (k + 1) x) (hk : k < n) : Turning S n c k (x.set k (S x k)) := by
  obtain ⟨hp, hu, hr⟩ := h
  have hkx : k < x.length := by rw [hp.1]; exact hk
  refine ⟨hp.put hm hk, hu.put hm hk, ?_⟩
  by_cases he : yn x k = S x k
  · rw [set_yn hkx he]
    refine hr.imp id fun h => h.imp (fun ⟨hc, h⟩ => ⟨hc, fun i hi hin => ?_⟩) id
    rcases Nat.lt_or_ge k i with hlt | hge
    · exact h i hlt hin
    · obtain rfl : i = k := by omega
      exact he
  · cases hx : yn x k with
    | true => exact absurd (hx.trans (hp.2 k hk hx).symm) he
    | false =>
      cases hs : S x k with
      | false => exact absurd (hx.trans hs.symm) he
      | true =>
        rw [cnt_put hkx hx]
        rcases hr with hc | ⟨hc, _⟩ | ha
        · exact .inl (by omega)
        · exact .inl (by omega)
        · exact absurd (ha.2 k hk) he
/-- behind so many turns: an answer, or so many yeses -/
def Turned (S : List Bool → Nat → Bool) (n c : Nat) (x : List Bool) : Prop := Post S n x ∧ Under S n x ∧ (c ≤ cnt x ∨ Ans S n x)
theorem Turned.start {x : List Bool} (hl : x.length = n) (h : ∀ i, yn x i = false) : Turned S n 0 x := ⟨⟨hl, fun i _ hi => by rw [h i] at hi; cases hi⟩, Under.start hl h, .inl (Nat.zero_le _)⟩
theorem Turned.begin_ {c : Nat} {x : List Bool} (h : Turned S n c x) : Turning S n c n x := ⟨h.1, h.2.1, h.2.2.elim (fun h => .inr (.inl ⟨h, fun i hi hin => absurd hin (by omega)⟩)) fun h => .inr (.inr h)⟩
theorem Turning.end_ {c : Nat} {x : List Bool} (h : Turning S n c 0 x) : Turned S n (c + 1) x :=
  ⟨h.1, h.2.1, h.2.2.elim (fun h => .inl (by omega)) fun h => .inr (h.elim (fun h => ⟨‹Turning S n c 0 x›.1.1, fun i hi => h.2 i (Nat.zero_le _) hi⟩) id)⟩
theorem Turned.least {x : List Bool} (h : Turned S n (n + 1) x) : Least S n x := by
  refine ⟨h.2.2.resolve_left fun hc => ?_, h.2.1⟩
  have := cnt_le x
  rw [h.1.1] at this
  omega
end

/-- one turn, from the last one to the first -/
def sweep (S : List Bool → Nat → Bool) : Nat → List Bool → List Bool
  | 0, x => x
  | k + 1, x => sweep S k (x.set k (S x k))
def sweeps (S : List Bool → Nat → Bool) (n : Nat) : Nat → List Bool
  | 0 => List.replicate n false
  | c + 1 => sweep S n (sweeps S n c)
theorem Turning.sweep {S : List Bool → Nat → Bool} (hm : Mono S) {n c : Nat} : ∀ (k : Nat) (x : List Bool), k ≤ n → Turning S n c k x → Turning S n c 0 (sweep S k x)
  | 0, x, _, h => h
  | k + 1, x, hk, h => Turning.sweep hm k _ (by omega) (h.step hm (by omega))
theorem sweeps_turned {S : List Bool → Nat → Bool} (hm : Mono S) (n : Nat) : ∀ c, Turned S n c (sweeps S n c)
  | 0 => Turned.start (by simp [sweeps]) (fun i => by simp [sweeps, yn, List.getD_eq_getElem?_getD, List.getElem?_replicate]; split <;> simp)
  | c + 1 => (Turning.sweep hm n _ (Nat.le_refl _) (sweeps_turned hm n c).begin_).end_
def leastL (S : List Bool → Nat → Bool) (n : Nat) : List Bool := sweeps S n (n + 1)
theorem leastL_least {S : List Bool → Nat → Bool} (hm : Mono S) (n : Nat) : Least S n (leastL S n) := (sweeps_turned hm n (n + 1)).least

theorem closed_under {S : List Bool → Nat → Bool} (hm : Mono S) {n : Nat} {x : List Bool} (hc : Closed S n x) (hu : Under S n x) : x = leastL S n := by
  have hl := leastL_least hm n
  refine ext_yn (hc.1.trans hl.1.1.symm) fun i hi => ?_
  rw [Bool.eq_iff_iff]
  exact ⟨hu.2 _ ⟨hl.1.1, fun j hj h => by rw [hl.1.2 j hj]; exact h⟩ i, hl.2.2 x hc i⟩
end Go.Proofs.Ytmghkonmfbpjcab

/- Plain law: the nodes that may be come to. No program in sight. -/
namespace Go.Proofs.Ytmghkonmfbpjcab
set_option linter.unusedVariables false
set_option linter.unusedSimpArgs false
open Go.RowKit

/-- what must be come to -/
def reachS (l : List Nd) (x : List Bool) (i : Nat) : Bool := i == 0 || (List.range l.length).any fun j => yn x j && leadsB (l.getD j default) i
theorem reachS_mono (l : List Nd) : Mono (reachS l) := fun x y i h hs => by
  unfold reachS at *
  simp only [Bool.or_eq_true, List.any_eq_true, Bool.and_eq_true] at *
  exact hs.imp id fun ⟨j, hj, h1, h2⟩ => ⟨j, hj, h j h1, h2⟩
/-- where a program may come to -/
def reachL (l : List Nd) : List Bool := leastL (reachS l) l.length
theorem reachL_len (l : List Nd) : (reachL l).length = l.length := (leastL_least (reachS_mono l) l.length).1.1
/-- all that one node leads to is there -/
def shutAt (l : List Nd) (x : List Bool) (j : Nat) : Prop := ∀ n, l[j]? = some n → ∀ m : Nat, leadsB n m = true → yn x m = true
theorem reach_closed {l : List Nd} {x : List Bool} (hl : x.length = l.length) (h0 : yn x 0 = true) (h : ∀ j, j < l.length → yn x j = true → shutAt l x j) : Closed (reachS l) l.length x := by
  refine ⟨hl, fun i hi hs => ?_⟩
  unfold reachS at hs
  simp only [Bool.or_eq_true, List.any_eq_true, Bool.and_eq_true, beq_iff_eq, List.mem_range] at hs
  rcases hs with rfl | ⟨j, hj, h1, h2⟩
  · exact h0
  · have hn : l[j]? = some l[j] := List.getElem?_eq_getElem hj
    rw [List.getD_eq_getElem?_getD, hn] at h2
    exact h j hj h1 _ hn i h2
theorem Closed.shut {l : List Nd} {x : List Bool} (h : Closed (reachS l) l.length x) {j : Nat} (hj : yn x j = true) (hb : ∀ n, l[j]? = some n → ∀ m : Nat, leadsB n m = true → m < l.length) : shutAt l x j := fun n hn m hm => by
  refine h.2 m (hb n hn m hm) ?_
  unfold reachS
  simp only [Bool.or_eq_true, List.any_eq_true, Bool.and_eq_true, beq_iff_eq, List.mem_range]
  refine .inr ⟨j, (List.getElem?_eq_some_iff.1 hn).1, hj, ?_⟩
  rw [List.getD_eq_getElem?_getD, hn]
  exact hm
theorem under_start (l : List Nd) (hl : 1 ≤ l.length) : Under (reachS l) l.length ((List.replicate l.length false).set 0 true) := by
  refine ⟨by simp, fun z hz i hi => ?_⟩
  rw [yn_set _ _ _ _ (by simp; omega)] at hi
  by_cases h0 : i = 0
  · subst h0
    exact hz.2 0 (by omega) (by simp [reachS])
  · rw [if_neg h0] at hi
    simp [yn, List.getD_eq_getElem?_getD, List.getElem?_replicate] at hi
    split at hi <;> simp at hi
theorem under_add {l : List Nd} {x : List Bool} (h : Under (reachS l) l.length x) {j m : Nat} {n : Nd} (hj : yn x j = true) (hn : l[j]? = some n) (hm : leadsB n m = true) (hml : m < l.length) : Under (reachS l) l.length (x.set m true) := by
  refine ⟨by simpa using h.1, fun z hz i hi => ?_⟩
  rw [yn_set _ _ _ _ (by rw [h.1]; exact hml)] at hi
  by_cases him : i = m
  · subst him
    refine hz.2 i hml ?_
    unfold reachS
    simp only [Bool.or_eq_true, List.any_eq_true, Bool.and_eq_true, beq_iff_eq, List.mem_range]
    refine .inr ⟨j, (List.getElem?_eq_some_iff.1 hn).1, h.2 z hz j hj, ?_⟩
    rw [List.getD_eq_getElem?_getD, hn]
    exact hm
  · rw [if_neg him] at hi
    exact h.2 z hz i hi
theorem yn_set_mono {x : List Bool} {m i : Nat} (hm : m < x.length) (h : yn x i = true) : yn (x.set m true) i = true := by
  rw [yn_set _ _ _ _ hm]
  split
  · rfl
  · exact h
theorem leads_then {n : Nd} (h : n.op ≠ 12) : leadsB n n.t = true := by simp [leadsB, h]
theorem leads_else {n : Nd} (h : n.op = 11) : leadsB n n.e = true := by simp [leadsB, h]
theorem leads_cases {n : Nd} {m : Int} (h : leadsB n m = true) : (n.op ≠ 12 ∧ m = n.t) ∨ (n.op = 11 ∧ m = n.e) := by
  simp only [leadsB, Bool.or_eq_true, Bool.and_eq_true, bne_iff_ne, beq_iff_eq, ne_eq] at h
  rcases h with ⟨h1, h2⟩ | ⟨h1, h2⟩
  · exact .inl ⟨h1, h2.symm⟩
  · exact .inr ⟨h1, h2.symm⟩
theorem set_same_true {x : List Bool} {k : Nat} (hk : k < x.length) (h : yn x k = true) : x.set k true = x := set_yn hk h

/-- in the midst of a turn of ReachOf -/
structure Reaching (l : List Nd) (c k : Nat) (x : List Bool) : Prop where
  under : Under (reachS l) l.length x
  zero : yn x 0 = true
  way : c + 1 < cnt x ∨ (c + 1 ≤ cnt x ∧ ∀ j, j < k → yn x j = true → shutAt l x j) ∨ Closed (reachS l) l.length x
theorem cnt_set_true {x : List Bool} {m : Nat} (hm : m < x.length) : cnt (x.set m true) = if yn x m = true then cnt x else cnt x + 1 := by
  split
  · rename_i h; rw [set_same_true hm h]
  · rename_i h; exact cnt_put hm (by simpa using h)
theorem cnt_pos {x : List Bool} {i : Nat} (h : yn x i = true) : 1 ≤ cnt x := by
  have hi : i < x.length := by
    rcases Nat.lt_or_ge i x.length with h1 | h1
    · exact h1
    · rw [yn_out h1] at h; cases h
  unfold cnt
  refine List.count_pos_iff.2 ?_
  have : x[i] = true := by simpa [yn, hi] using h
  rw [← this]
  exact List.getElem_mem hi
/-- one more is come to -/
theorem Reaching.add {l : List Nd} {c k : Nat} {x : List Bool} (h : Reaching l c k x) {j m : Nat} {n : Nd} (hj : yn x j = true) (hn : l[j]? = some n) (hm : leadsB n m = true) (hml : m < l.length) (hb : ∀ n, l[j]? = some n → ∀ m : Nat, leadsB n m = true → m < l.length) :
    Reaching l c k (x.set m true) := by
  have hxl : m < x.length := by rw [h.under.1]; exact hml
  refine ⟨under_add h.under hj hn hm hml, yn_set_mono hxl h.zero, ?_⟩
  cases hy : yn x m with
  | true => rw [set_same_true hxl hy]; exact h.way
  | false =>
    have hcnt : cnt (x.set m true) = cnt x + 1 := cnt_put hxl hy
    rcases h.way with h1 | ⟨h1, _⟩ | h1
    · exact .inl (by omega)
    · exact .inl (by omega)
    · have := h1.shut hj hb n hn m hm
      rw [hy] at this
      cases this
theorem Reaching.start {l : List Nd} {c : Nat} {x : List Bool} (h : Under (reachS l) l.length x) (h0 : yn x 0 = true) (hw : c + 1 ≤ cnt x ∨ Closed (reachS l) l.length x) : Reaching l c 0 x :=
  ⟨h, h0, hw.elim (fun h => .inr (.inl ⟨h, fun j hj => absurd hj (by omega)⟩)) fun h => .inr (.inr h)⟩
theorem Reaching.next {l : List Nd} {c k : Nat} {x : List Bool} (h : Reaching l c k x) (hs : yn x k = true → shutAt l x k) : Reaching l c (k + 1) x :=
  ⟨h.under, h.zero, h.way.imp id fun h => h.imp (fun ⟨h1, h2⟩ => ⟨h1, fun j hj hy => by
    by_cases hjk : j = k
    · subst hjk; exact hs hy
    · exact h2 j (by omega) hy⟩) id⟩
theorem Reaching.end_ {l : List Nd} {c : Nat} {x : List Bool} (h : Reaching l c l.length x) : c + 1 + 1 ≤ cnt x ∨ Closed (reachS l) l.length x := by
  rcases h.way with h1 | ⟨h1, h2⟩ | h1
  · exact .inl (by omega)
  · exact .inr (reach_closed h.under.1 h.zero h2)
  · exact .inr h1
theorem reach_done {l : List Nd} {x : List Bool} (h : Under (reachS l) l.length x) (hw : l.length + 1 ≤ cnt x ∨ Closed (reachS l) l.length x) : x = reachL l := by
  rcases hw with h1 | h1
  · have := cnt_le x
    rw [h.1] at this
    omega
  · exact closed_under (reachS_mono l) h1 h
end Go.Proofs.Ytmghkonmfbpjcab
