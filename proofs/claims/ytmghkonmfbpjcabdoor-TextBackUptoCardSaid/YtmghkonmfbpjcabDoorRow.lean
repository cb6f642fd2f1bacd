/- A row of the call's own, wherever it begins in its block: what append, a reslice and a store make of it. No program in sight. -/
import Derived.Test.YtmghkonmfbpjcabDoorWords
import Derived.ArgAppend
import Derived.Laws.AppendOwn
import Derived.Laws.OwnMore
import Derived.Maps.AppendAt
import Derived.Deep.AppendLies
namespace Go.Proofs.YtmghkonmfbpjcabDoor
set_option linter.unusedVariables false
set_option linter.unusedSimpArgs false
open Go.RowKit

def Row (w : World) (base : Nat) (e : TypeId) (v : Value) (xs : List Value) : Prop :=
  (v = .slice none 0 0 ∧ xs = []) ∨
  ∃ g o cap cur, v = .slice (some ⟨g, o, none⟩) xs.length cap ∧ base ≤ g ∧ w.heap[g]? = some (.cells cur e (0, 0)) ∧ xs.length ≤ cap ∧ cap ≤ maxLen ∧ o + cap ≤ cur.size ∧
    ∀ j x, xs[j]? = some x → cur[o + j]? = some x

section
variable {w w' : World} {base : Nat} {e : TypeId} {v : Value} {xs : List Value}

theorem Row.nil_ (w : World) (base : Nat) (e : TypeId) : Row w base e (.slice none 0 0) [] := .inl ⟨rfl, rfl⟩
theorem lt_of_heap {g : Nat} {o : Obj} (h : w.heap[g]? = some o) : g < w.heap.size := by
  rcases Nat.lt_or_ge g w.heap.size with hl | hl
  · exact hl
  · rw [Array.getElem?_eq_none hl] at h; cases h
theorem Row.lt (h : Row w base e v xs) : ∀ k, v.ownBlock = some k → base ≤ k ∧ k < w.heap.size := by
  rintro k hk
  rcases h with ⟨rfl, _⟩ | ⟨g, o, cap, cur, rfl, hb, hh, _⟩
  · simp [Value.ownBlock] at hk
  · simp [Value.ownBlock] at hk
    subst hk
    exact ⟨hb, lt_of_heap hh⟩
theorem Row.of_block (h : Row w base e v xs) (hk : ∀ k, v.ownBlock = some k → w'.heap[k]? = w.heap[k]?) : Row w' base e v xs := by
  rcases h with h | ⟨g, o, cap, cur, hv, hb, hh, r⟩
  · exact .inl h
  · exact .inr ⟨g, o, cap, cur, hv, hb, (hk g (by rw [hv]; rfl)).trans hh, r⟩
theorem Row.kept {row : Option Nat} (h : Row w base e v xs) (hg : w.grownBy w' row) (hne : v.ownBlock = none ∨ v.ownBlock ≠ row) : Row w' base e v xs :=
  h.of_block fun k hk => hg.block k (h.lt k hk).2 (by
    rcases hne with hn | hn
    · rw [hn] at hk; cases hk
    · rw [← hk]; exact hn)
theorem Row.below {B : Nat} (h : Row w base e v xs) (hb : Below B w w') (hB : ∀ k, v.ownBlock = some k → k < B) : Row w' base e v xs :=
  h.of_block fun k hk => hb.block k (hB k hk)
theorem Row.below' (h : Row w base e v xs) (hb : Below w.heap.size w w') : Row w' base e v xs :=
  h.of_block fun k hk => hb.block k (h.lt k hk).2
theorem Row.alloc (h : Row w base e v xs) (o : Obj) : Row (w.alloc o) base e v xs := h.of_block fun k hk => Below.heap_alloc w o k (h.lt k hk).2
theorem Row.drew (h : Row w base e v xs) : Row w.drew base e v xs := h
theorem Row.drewN (h : Row w base e v xs) (n : Nat) : Row (w.drewN n) base e v xs := h
theorem Row.far (h : Row w base e v xs) {p : Addr} (hp : v.ownBlock ≠ some p.block) (u : Value) : Row (w.setCell p u) base e v xs :=
  h.of_block fun k hk => Below.heap_setCell w p u k (by rintro rfl; exact hp hk)
theorem Row.mono {base' : Nat} (h : Row w base e v xs) (hb : base' ≤ base) : Row w base' e v xs := by
  rcases h with h | ⟨g, o, cap, cur, hv, hg, r⟩
  · exact .inl h
  · exact .inr ⟨g, o, cap, cur, hv, Nat.le_trans hb hg, r⟩
theorem Row.shape (h : Row w base e v xs) : ∃ A cap, v = .slice A xs.length cap ∧ xs.length ≤ cap ∧ cap ≤ maxLen := by
  rcases h with ⟨rfl, rfl⟩ | ⟨g, o, cap, cur, rfl, _, _, hc, hm, _⟩
  · exact ⟨none, 0, rfl, Nat.le_refl _, Nat.zero_le _⟩
  · exact ⟨_, cap, rfl, hc, hm⟩
theorem Row.vals {A : Option Addr} {n cap : Nat} (h : Row w base e (.slice A n cap) xs) : ValsAt w A xs := fun hn => by
  rcases h with ⟨_, rfl⟩ | ⟨g, o, cap, cur, hv, hb, hh, _, _, _, hc⟩
  · exact absurd rfl hn
  · injection hv with hA
    subst hA
    refine ⟨g, o, rfl, lt_of_heap hh, fun i x hi => ?_⟩
    have := hc i x hi
    simp [World.cell?, hh, this]
/-- an element, and that it may be written -/
theorem Row.get (h : Row w base e v xs) {k : Nat} (hk : k < xs.length) :
    ∃ g o cap x, v = .slice (some ⟨g, o, none⟩) xs.length cap ∧ base ≤ g ∧ g < w.heap.size ∧ xs[k]? = some x ∧ w.cell? ⟨g, o + k, none⟩ = some x ∧ w.frozen? ⟨g, o + k, none⟩ = false := by
  rcases h with ⟨_, rfl⟩ | ⟨g, o, cap, cur, rfl, hb, hh, _, _, _, hc⟩
  · simp at hk
  · have hx : xs[k]? = some xs[k] := List.getElem?_eq_getElem hk
    exact ⟨g, o, cap, xs[k], rfl, hb, lt_of_heap hh, hx, by simp [World.cell?, hh, hc k _ hx], by simp [World.frozen?, hh]⟩
theorem heap_setCell_own {c : Array Value} {t : TypeId} {fr : Nat × Nat} {g o : Nat} (h : w.heap[g]? = some (.cells c t fr)) (u : Value) :
    (w.setCell ⟨g, o, none⟩ u).heap[g]? = some (.cells (c.setIfInBounds o u) t fr) := by
  simp [World.setCell, Array.getElem?_modify, h]
theorem Row.store {g o n cap : Nat} (h : Row w base e (.slice (some ⟨g, o, none⟩) n cap) xs) (k : Nat) (u : Value) :
    Row (w.setCell ⟨g, o + k, none⟩ u) base e (.slice (some ⟨g, o, none⟩) n cap) (xs.set k u) := by
  rcases h with ⟨hv, _⟩ | ⟨g', o', cap', cur, hv, hb, hh, h1, h2, h3, hc⟩
  · cases hv
  · injection hv with hA hn hcp
    injection hA with hA
    injection hA with hg ho
    subst hg ho hn hcp
    refine .inr ⟨g, o, cap, _, by simp, hb, heap_setCell_own hh u, by simpa using h1, h2, by simpa using h3, fun j x hj => ?_⟩
    rw [List.getElem?_set] at hj
    rw [Array.getElem?_setIfInBounds]
    split at hj
    · rename_i he
      subst he
      split at hj
      · rename_i hk
        simp only [↓reduceIte]
        rw [if_pos (by omega)]
        exact hj
      · cases hj
    · rename_i he
      rw [if_neg (by omega)]
      exact hc j x hj
theorem Row.tail {g o n cap : Nat} {x : Value} (h : Row w base e (.slice (some ⟨g, o, none⟩) n cap) (x :: xs)) :
    Row w base e (.slice (some (if cap = 1 then ⟨g, o, none⟩ else ⟨g, o + 1, none⟩)) (n - 1) (cap - 1)) xs := by
  rcases h with ⟨hv, _⟩ | ⟨g', o', cap', cur, hv, hb, hh, h1, h2, h3, hc⟩
  · cases hv
  · injection hv with hA hn hcp
    injection hA with hA
    injection hA with hg ho
    subst hg ho hn hcp
    simp only [List.length_cons] at h1 ⊢
    by_cases h1c : cap = 1
    · refine .inr ⟨g, o, cap - 1, cur, by simp [h1c], hb, hh, by omega, by omega, by omega, fun j x hj => ?_⟩
      have hl : xs.length = 0 := by omega
      rw [List.length_eq_zero_iff] at hl
      subst hl
      simp at hj
    · refine .inr ⟨g, o + 1, cap - 1, cur, by simp [h1c], hb, hh, by omega, by omega, by omega, fun j y hj => ?_⟩
      rw [show o + 1 + j = o + (j + 1) by omega]
      exact hc (j + 1) y (by simpa using hj)
theorem Row.of_own {n : Nat} (h : w.ownsRow base e 1 v n xs) : Row w base e v xs := by
  obtain ⟨hl, ⟨hv, hn⟩ | ⟨g, cap, cur, hv, hb, hh, h1, h2, h3, h4⟩⟩ := h
  · subst hn
    exact .inl ⟨hv, List.eq_nil_of_length_eq_zero (by simpa using hl)⟩
  · have hn : n = xs.length := by omega
    subst hn
    refine .inr ⟨g, 0, cap, cur, hv, hb, hh, h1, h2, by omega, fun j x hj => ?_⟩
    rw [Nat.zero_add, ← Array.getElem?_toList]
    have : (cur.toList.take (xs.length * 1))[j]? = some x := by rw [h4]; exact hj
    rw [List.getElem?_take] at this
    split at this
    · exact this
    · cases this
theorem Row.own_nil (h : Row w base e (.slice none 0 0) xs) : xs = [] := by
  rcases h with ⟨_, h⟩ | ⟨g, o, cap, cur, hv, _⟩
  · exact h
  · cases hv
/-- a new block that is a row -/
theorem Row.made {cs : Array Value} {n : Nat} (hb : base ≤ w.heap.size) (hn : n = cs.size) (hm : n ≤ maxLen) :
    Row (w.alloc (.cells cs e)) base e (.slice (some ⟨w.heap.size, 0, none⟩) n n) cs.toList :=
  .inr ⟨w.heap.size, 0, n, cs, by simp [hn], hb, heap_alloc_new w _, by simp [hn], hm, by omega, fun j x hj => by rw [Nat.zero_add]; simpa using hj⟩

theorem setCells_heap (g : Nat) (t : TypeId) (fr : Nat × Nat) : ∀ (vs : List Value) (o : Nat) (w : World) (cur : Array Value), w.heap[g]? = some (.cells cur t fr) → o + vs.length ≤ cur.size →
    ∃ cur', (w.setCells g o vs).heap[g]? = some (.cells cur' t fr) ∧ cur'.size = cur.size ∧ (∀ j x, vs[j]? = some x → cur'[o + j]? = some x) ∧ ∀ i, i < o → cur'[i]? = cur[i]?
  | [], o, w, cur, h, _ => ⟨cur, h, rfl, by simp, fun _ _ => rfl⟩
  | u :: vs, o, w, cur, h, hl => by
    simp only [List.length_cons] at hl
    obtain ⟨cur', h1, h2, h3, h4⟩ := setCells_heap g t fr vs (o + 1) (w.setCell ⟨g, o, none⟩ u) _ (heap_setCell_own h u) (by simp; omega)
    refine ⟨cur', h1, by simpa using h2, fun j x hj => ?_, fun i hi => ?_⟩
    · rcases j with _ | j
      · simp at hj
        subst hj
        rw [Nat.add_zero, h4 o (by omega), Array.getElem?_setIfInBounds]
        simp
        omega
      · rw [show o + (j + 1) = o + 1 + j by omega]
        exact h3 j x (by simpa using hj)
    · rw [h4 i (by omega), Array.getElem?_setIfInBounds, if_neg (by omega)]
theorem setCells_grown (g : Nat) : ∀ (vs : List Value) (o : Nat) (w : World), w.grownBy (w.setCells g o vs) (some g)
  | [], _, w => World.grownBy.refl w _
  | u :: vs, o, w => by
    have h1 : w.grownBy (w.setCell ⟨g, o, none⟩ u) (some g) := ⟨rfl, rfl, rfl, by simp, fun k _ hne => Below.heap_setCell w _ u k (by rintro rfl; exact hne rfl)⟩
    exact h1.trans (setCells_grown g vs (o + 1) _)

/-- append onto such a row, from whatever slice can be read -/
theorem run_append_row {P : Program} (t ty : TypeId) (i : TypeInfo) (z : Value) (bytes : Nat) (ht : P.underlying t = some (.slice e)) (hi : P.info? e = some i) (hz : i.zero = some z)
    (hsize : i.size = 1) (hby : i.bytes = bytes) (hzs : z.cells.size = 1) (hr : Row w base e v xs) (A : Option Addr) (c : Nat) (news : List Value) (hn : ValsAt w A news)
    (h1 : ∀ u ∈ news, u.oneCell' = true) (h63 : xs.length + news.length ≤ maxLen) (hbytes : (xs.length + news.length) * bytes ≤ 140737488355328) (hbase : base ≤ w.heap.size) :
    ∃ v' w', (Builtin.append_ #[t, t] ty #[v, .slice A news.length c]).run P w = .ok v' w' ∧ Row w' base e v' (xs ++ news) ∧ w.grownBy w' v.ownBlock ∧ (v'.ownBlock = v.ownBlock ∨ ∀ k, v'.ownBlock = some k → w.heap.size ≤ k) := by
  by_cases hne : news = []
  · subst hne
    refine ⟨v, w, ?_, by simpa using hr, World.grownBy.refl w _, .inl rfl⟩
    rcases hr with ⟨rfl, rfl⟩ | ⟨g, o, cap, cur, rfl, _, _, hnc, _⟩
    · rcases A with _ | A <;> simp [Builtin.append_, run_underlying ht, sizeOf, typeInfo, hi, Builtin.lenOf, Builtin.firstCells, loadCells, loadCellsFrom]
    · rcases A with _ | A <;> simp [Builtin.append_, run_underlying ht, sizeOf, typeInfo, hi, Builtin.lenOf, Builtin.firstCells, loadCells, loadCellsFrom, hnc, storeCells]
  · obtain ⟨b, off, rfl, hb, hcell⟩ := hn hne
    have hnews : ∀ j u, news[j]? = some u → w.cell? ((⟨b, off, none⟩ : Addr).add j) = some u := fun j u hj => by rw [Addr.add_lit]; exact hcell j u hj
    rcases hr with ⟨rfl, rfl⟩ | ⟨g, o, cap, cur, rfl, hb', hh, hnc, hm, hcs, hc⟩
    · obtain ⟨v', w', hrun, h2, h3, h4, h5⟩ := run_append_own_at (P := P) w base t ty e i z 1 bytes ht hi hz hsize hby hzs (by omega) (.slice none 0 0) 0 [] (World.ownsRow_nil w _ e 1) ⟨b, off, none⟩ news.length c news (by simp) hnews h1 (by simpa using h63) (by simpa using hbytes) hbase
      exact ⟨v', w', hrun, Row.of_own h2, h3, h5.imp id fun h k hk => by rw [h] at hk; injection hk with hk; omega⟩
    · by_cases hroom : xs.length + news.length ≤ cap
      · have hrun := run_append_room_cells (P := P) w t ty e i ht hi g o xs.length cap ⟨b, off, none⟩ news.length c news (by rw [hsize]; simp) hnews h1 hroom
          (fun j hj => by
            rw [hsize]
            have hlt : o + xs.length * 1 + j < cur.size := by omega
            simp [World.cell?, hh]
            omega)
          (fun j hj => by simp [World.frozen?, hh])
        rw [hsize, Nat.mul_one] at hrun
        obtain ⟨cur', q1, q2, q3, q4⟩ := setCells_heap g e (0, 0) news (o + xs.length) w cur hh (by omega)
        refine ⟨_, _, hrun, .inr ⟨g, o, cap, cur', by simp, hb', q1, by simpa using hroom, hm, by omega, fun j x hj => ?_⟩, setCells_grown g news _ w, .inl rfl⟩
        rw [List.getElem?_append] at hj
        split at hj
        · rename_i hjl
          rw [q4 _ (by omega)]
          exact hc j x hj
        · rename_i hjl
          rw [show o + j = o + xs.length + (j - xs.length) by omega]
          exact q3 _ x hj
      · have holds : ∀ j u, xs[j]? = some u → w.cell? ((⟨g, o, none⟩ : Addr).add j) = some u := fun j u hj => by
          rw [Addr.add_lit]
          simp [World.cell?, hh, hc j u hj]
        obtain ⟨v', w', hrun, h2, h3⟩ := run_append_arg_grows (P := P) w t ty e i z 1 bytes ht hi hz hsize hby hzs (by omega) ⟨g, o, none⟩ xs.length cap xs (by simp) holds ⟨b, off, none⟩ news.length c news (by simp) hnews (by omega) h63 hbytes
        have hr' := Row.of_own h2
        exact ⟨v', w', hrun, hr'.mono hbase, ⟨h3.os, h3.tape, h3.output, h3.size, fun k hk _ => h3.block k hk (by simp)⟩, .inr fun k hk => (hr'.lt k hk).1⟩

theorem wp_append_row {P : Program} {o : Oper} {a : Act} {K : Act → World → Prop} {Q : Exit → Act → World → Prop} (s x : Operand) (t : TypeId)
    (ho : o.op = .call { callee := .builtin .append, args := #[s, x], argTypes := #[t, t] })
    (i : TypeInfo) (z : Value) (bytes : Nat) (ht : P.underlying t = some (.slice e)) (hi : P.info? e = some i) (hz : i.zero = some z)
    (hsize : i.size = 1) (hby : i.bytes = bytes) (hzs : z.cells.size = 1) (hs : a.eval s = v) (hr : Row w base e v xs) (A : Option Addr) (n c : Nat) (news : List Value) (hx : a.eval x = .slice A n c)
    (hnl : n = news.length) (hn : ValsAt w A news)
    (h1 : ∀ u ∈ news, u.oneCell' = true) (h63 : xs.length + news.length ≤ maxLen) (hbytes : (xs.length + news.length) * bytes ≤ 140737488355328) (hbase : base ≤ w.heap.size)
    (h : ∀ v' w', Row w' base e v' (xs ++ news) → w.grownBy w' v.ownBlock → (v'.ownBlock = v.ownBlock ∨ ∀ k, v'.ownBlock = some k → w.heap.size ≤ k) → K (a.put o.dst v') w') : o.wp P a w K Q := by
  subst hnl
  obtain ⟨v', w', hrun, h2, h3, h4⟩ := run_append_row (P := P) t o.type i z bytes ht hi hz hsize hby hzs hr A c news hn h1 h63 hbytes hbase
  unfold Oper.wp execOp
  simp only [ho, resolve, invoke, builtin, Sem.run_bind, Sem.run_pure, Result.andThen_ok, List.map_toArray, List.map_cons, List.map_nil, hs, hx, hrun]
  exact h v' w' h2 h3 h4

theorem wpList_append_row {P : Program} {ops : Array Oper} {rest : List Oper} {o : Oper} {a : Act} {Q : Exit → Act → World → Prop} (hgd : o.guard = none) (s x : Operand) (t : TypeId)
    (ho : o.op = .call { callee := .builtin .append, args := #[s, x], argTypes := #[t, t] })
    (i : TypeInfo) (z : Value) (bytes : Nat) (ht : P.underlying t = some (.slice e)) (hi : P.info? e = some i) (hz : i.zero = some z)
    (hsize : i.size = 1) (hby : i.bytes = bytes) (hzs : z.cells.size = 1) (hs : a.eval s = v) (hr : Row w base e v xs) (A : Option Addr) (n c : Nat) (news : List Value) (hx : a.eval x = .slice A n c)
    (hnl : n = news.length) (hn : ValsAt w A news)
    (h1 : ∀ u ∈ news, u.oneCell' = true) (h63 : xs.length + news.length ≤ maxLen) (hbytes : (xs.length + news.length) * bytes ≤ 140737488355328) (hbase : base ≤ w.heap.size)
    (h : ∀ v' w', Row w' base e v' (xs ++ news) → w.grownBy w' v.ownBlock → (v'.ownBlock = v.ownBlock ∨ ∀ k, v'.ownBlock = some k → w.heap.size ≤ k) → wpList P ops Q rest (a.put o.dst v') w') :
    wpList P ops Q (o :: rest) a w :=
  wpList_plain hgd fun _ hK => wp_append_row s x t ho i z bytes ht hi hz hsize hby hzs hs hr A n c news hx hnl hn h1 h63 hbytes hbase fun v' w' h2 h3 h4 => hK _ _ (h v' w' h2 h3 h4)

theorem step_append_row {P : Program} {ops : Array Oper} {o : Oper} {a : Act} {K : Act → World → Prop} {Q : Exit → Act → World → Prop} {E : Prop} (hgd : o.guard = none) (s x : Operand) (t : TypeId)
    (ho : o.op = .call { callee := .builtin .append, args := #[s, x], argTypes := #[t, t] })
    (i : TypeInfo) (z : Value) (bytes : Nat) (ht : P.underlying t = some (.slice e)) (hi : P.info? e = some i) (hz : i.zero = some z)
    (hsize : i.size = 1) (hby : i.bytes = bytes) (hzs : z.cells.size = 1) (hs : a.eval s = v) (hr : Row w base e v xs) (A : Option Addr) (n c : Nat) (news : List Value) (hx : a.eval x = .slice A n c)
    (hnl : n = news.length) (hn : ValsAt w A news)
    (h1 : ∀ u ∈ news, u.oneCell' = true) (h63 : xs.length + news.length ≤ maxLen) (hbytes : (xs.length + news.length) * bytes ≤ 140737488355328) (hbase : base ≤ w.heap.size)
    (h : ∀ v' w', Row w' base e v' (xs ++ news) → w.grownBy w' v.ownBlock → (v'.ownBlock = v.ownBlock ∨ ∀ k, v'.ownBlock = some k → w.heap.size ≤ k) → K (a.put o.dst v') w') :
    if Region.wanted o (yielded ops a.tmps) = true then Oper.wp P o a w K Q else E := by
  have hw : Region.wanted o (yielded ops a.tmps) = true := by simp [Region.wanted, hgd]
  rw [if_pos hw]
  exact wp_append_row s x t ho i z bytes ht hi hz hsize hby hzs hs hr A n c news hx hnl hn h1 h63 hbytes hbase h

/-- the one cell that a literal of one element is laid in -/
theorem vals_one (w : World) (x : Value) (t : TypeId) : ValsAt (w.alloc (.cells #[x] t)) (some ⟨w.heap.size, 0, none⟩) [x] :=
  ValsAt.mk (by simp) fun i v hi => by
    rcases i with _ | i
    · simp at hi
      subst hi
      simp
    · simp at hi
theorem ValsAt.nil {A : Option Addr} : ValsAt w A [] := fun h => absurd rfl h
end
theorem Row.lit1 {w : World} {base g : Nat} {e : TypeId} {x : Value} (h : g = w.heap.size) (hb : base ≤ w.heap.size) : Row (w.alloc (.cells #[x] e)) base e (.slice (some ⟨g, 0, none⟩) 1 1) [x] := by
  subst h
  exact Row.made hb (by simp) (by unfold maxLen; omega)
theorem vals_one_drew (w : World) (x : Value) (t : TypeId) : ValsAt (w.alloc (.cells #[x] t)).drew (some ⟨w.heap.size, 0, none⟩) [x] := vals_one w x t
theorem vals_one' {w : World} {x : Value} {t : TypeId} {g : Nat} (h : g = w.heap.size) : ValsAt (w.alloc (.cells #[x] t)).drew (some ⟨g, 0, none⟩) [x] := by subst h; exact vals_one w x t
end Go.Proofs.YtmghkonmfbpjcabDoor
