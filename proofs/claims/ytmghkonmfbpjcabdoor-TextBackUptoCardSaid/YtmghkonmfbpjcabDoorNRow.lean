/- A slice of nodes that the call itself made: what append and a store into a field make of it. No program in sight. -/
import Derived.Test.YtmghkonmfbpjcabDoorTab
namespace Go.Proofs.YtmghkonmfbpjcabDoor
set_option linter.unusedVariables false
set_option linter.unusedSimpArgs false
open Go.RowKit

def ncells : List Nd → List Value
  | [] => []
  | n :: l => n.cells ++ ncells l
theorem Nd.cells_len (n : Nd) : n.cells.length = 6 := rfl
theorem ncells_len (l : List Nd) : (ncells l).length = l.length * 6 := by
  induction l with
  | nil => rfl
  | cons n l ih => simp only [ncells, List.length_append, Nd.cells_len, ih, List.length_cons]; omega
theorem ncells_append (a b : List Nd) : ncells (a ++ b) = ncells a ++ ncells b := by
  induction a with
  | nil => rfl
  | cons n a ih => simp only [List.cons_append, ncells, ih, List.append_assoc]
theorem ncells_get : ∀ (l : List Nd) (i j : Nat), j < 6 → (ncells l)[i * 6 + j]? = (l[i]?).bind fun n => n.cells[j]?
  | [], i, j, hj => by simp [ncells]
  | n :: l, 0, j, hj => by
    simp only [ncells, Nat.zero_mul, Nat.zero_add, List.getElem?_cons_zero, Option.bind_some]
    rw [List.getElem?_append_left (by rw [Nd.cells_len]; exact hj)]
  | n :: l, i + 1, j, hj => by
    simp only [ncells, List.getElem?_cons_succ]
    rw [List.getElem?_append_right (by rw [Nd.cells_len]; omega), Nd.cells_len, show (i + 1) * 6 + j - 6 = i * 6 + j by omega]
    exact ncells_get l i j hj
theorem ncells_one (l : List Nd) : ∀ u ∈ ncells l, u.oneCell' = true := by
  induction l with
  | nil => intro u hu; cases hu
  | cons n l ih =>
    intro u hu
    simp only [ncells, List.mem_append] at hu
    rcases hu with hu | hu
    · simp only [Nd.cells, List.mem_cons, List.not_mem_nil, or_false] at hu
      rcases hu with rfl | rfl | rfl | rfl | rfl | rfl <;> rfl
    · exact ih u hu

/-- a node with one field turned -/
def Nd.put (n : Nd) : Nat → Int → Nd
  | 0, x => { n with op := x }
  | 1, x => { n with d := x }
  | 2, x => { n with a := x }
  | 3, x => { n with b := x }
  | 4, x => { n with t := x }
  | _, x => { n with e := x }
theorem Nd.put_cells (n : Nd) (j : Nat) (x : Int) (hj : j < 6) : (n.put j x).cells = n.cells.set j (.int .i64 x) := by
  rcases j with _ | _ | _ | _ | _ | _ | j <;> first | rfl | omega
/-- where a node lies, whole -/
theorem lies_iff {n : Nd} {w : World} {b off : Nat} : n.lies w b off ↔ ∀ j, j < 6 → w.cell? ⟨b, off + j, none⟩ = n.cells[j]? := by
  constructor
  · rintro ⟨h0, h1, h2, h3, h4, h5⟩ j hj
    match j, hj with
    | 0, _ => exact h0
    | 1, _ => exact h1
    | 2, _ => exact h2
    | 3, _ => exact h3
    | 4, _ => exact h4
    | 5, _ => exact h5
  · intro h
    exact ⟨h 0 (by omega), h 1 (by omega), h 2 (by omega), h 3 (by omega), h 4 (by omega), h 5 (by omega)⟩
theorem NodesAt.cell {w : World} {b off : Nat} {l : List Nd} (h : NodesAt w (some ⟨b, off, none⟩) l) (k : Nat) (hk : k < l.length * 6) : w.cell? ⟨b, off + k, none⟩ = (ncells l)[k]? := by
  have hd : k / 6 < l.length := by omega
  obtain ⟨b', off', n, e, _, hn, hl⟩ := h.get hd
  injection e with e
  injection e with e1 e2
  subst e1 e2
  have h6 : k % 6 < 6 := Nat.mod_lt _ (by omega)
  have := lies_iff.1 hl (k % 6) h6
  rw [show off + k / 6 * 6 + k % 6 = off + k by omega] at this
  have hg := ncells_get l (k / 6) (k % 6) h6
  rw [show k / 6 * 6 + k % 6 = k by omega, hn] at hg
  rw [this, hg]
  rfl

/-- a slice of nodes of the call's own -/
def NRow (w : World) (base : Nat) (e : TypeId) (v : Value) (l : List Nd) : Prop := w.ownsRow base e 6 v l.length (ncells l)
section
variable {w w' : World} {base : Nat} {e : TypeId} {v : Value} {l : List Nd}
theorem NRow.nil_ (w : World) (base : Nat) (e : TypeId) : NRow w base e (.slice none 0 0) [] := ⟨rfl, .inl ⟨rfl, rfl⟩⟩
theorem NRow.open (h : NRow w base e v l) : (v = .slice none 0 0 ∧ l = []) ∨ ∃ g cap cur, v = .slice (some ⟨g, 0, none⟩) l.length cap ∧ base ≤ g ∧ w.heap[g]? = some (.cells cur e (0, 0)) ∧ l.length ≤ cap ∧ cap ≤ maxLen ∧ cur.size = cap * 6 ∧
    ∀ k, k < l.length * 6 → cur[k]? = (ncells l)[k]? := by
  obtain ⟨hl, ⟨hv, hn⟩ | ⟨g, cap, cur, hv, hb, hh, h1, h2, h3, h4⟩⟩ := h
  · exact .inl ⟨hv, List.eq_nil_of_length_eq_zero hn⟩
  · refine .inr ⟨g, cap, cur, hv, hb, hh, h1, h2, h3, fun k hk => ?_⟩
    rw [← h4, List.getElem?_take, if_pos hk, Array.getElem?_toList]
theorem NRow.close {g cap : Nat} {cur : Array Value} (hb : base ≤ g) (hh : w.heap[g]? = some (.cells cur e (0, 0))) (h1 : l.length ≤ cap) (h2 : cap ≤ maxLen) (h3 : cur.size = cap * 6)
    (h4 : ∀ k, k < l.length * 6 → cur[k]? = (ncells l)[k]?) : NRow w base e (.slice (some ⟨g, 0, none⟩) l.length cap) l := by
  refine ⟨ncells_len l, .inr ⟨g, cap, cur, rfl, hb, hh, h1, h2, h3, ?_⟩⟩
  refine List.ext_getElem? fun k => ?_
  rw [List.getElem?_take]
  split
  · rename_i hk
    rw [Array.getElem?_toList]
    exact h4 k hk
  · rename_i hk
    rw [List.getElem?_eq_none (by rw [ncells_len]; omega)]
theorem NRow.lt (h : NRow w base e v l) : ∀ k, v.ownBlock = some k → base ≤ k ∧ k < w.heap.size := by
  rintro k hk
  rcases h.open with ⟨rfl, _⟩ | ⟨g, cap, cur, rfl, hb, hh, _⟩
  · simp [Value.ownBlock] at hk
  · simp [Value.ownBlock] at hk
    subst hk
    exact ⟨hb, lt_of_heap hh⟩
theorem NRow.of_block (h : NRow w base e v l) (hk : ∀ k, v.ownBlock = some k → w'.heap[k]? = w.heap[k]?) : NRow w' base e v l := by
  obtain ⟨hl, ⟨hv, hn⟩ | ⟨g, cap, cur, hv, hb, hh, r⟩⟩ := h
  · exact ⟨hl, .inl ⟨hv, hn⟩⟩
  · exact ⟨hl, .inr ⟨g, cap, cur, hv, hb, (hk g (by rw [hv]; rfl)).trans hh, r⟩⟩
theorem NRow.kept {row : Option Nat} (h : NRow w base e v l) (hg : w.grownBy w' row) (hne : v.ownBlock = none ∨ v.ownBlock ≠ row) : NRow w' base e v l :=
  h.of_block fun k hk => hg.block k (h.lt k hk).2 (by
    rcases hne with hn | hn
    · rw [hn] at hk; cases hk
    · rw [← hk]; exact hn)
theorem NRow.below {B : Nat} (h : NRow w base e v l) (hb : Below B w w') (hB : ∀ k, v.ownBlock = some k → k < B) : NRow w' base e v l := h.of_block fun k hk => hb.block k (hB k hk)
theorem NRow.below' (h : NRow w base e v l) (hb : Below w.heap.size w w') : NRow w' base e v l := h.of_block fun k hk => hb.block k (h.lt k hk).2
theorem NRow.alloc (h : NRow w base e v l) (o : Obj) : NRow (w.alloc o) base e v l := h.of_block fun k hk => Below.heap_alloc w o k (h.lt k hk).2
theorem NRow.drew (h : NRow w base e v l) : NRow w.drew base e v l := h
theorem NRow.drewN (h : NRow w base e v l) (n : Nat) : NRow (w.drewN n) base e v l := h
theorem NRow.far (h : NRow w base e v l) {p : Addr} (hp : v.ownBlock ≠ some p.block) (u : Value) : NRow (w.setCell p u) base e v l :=
  h.of_block fun k hk => Below.heap_setCell w p u k (by rintro rfl; exact hp hk)
theorem NRow.mono {base' : Nat} (h : NRow w base e v l) (hb : base' ≤ base) : NRow w base' e v l := by
  obtain ⟨hl, h | ⟨g, cap, cur, hv, hg, r⟩⟩ := h
  · exact ⟨hl, .inl h⟩
  · exact ⟨hl, .inr ⟨g, cap, cur, hv, Nat.le_trans hb hg, r⟩⟩
theorem NRow.shape (h : NRow w base e v l) : ∃ A cap, v = .slice A l.length cap ∧ l.length ≤ cap ∧ cap ≤ maxLen := by
  rcases h.open with ⟨rfl, rfl⟩ | ⟨g, cap, cur, rfl, _, _, hc, hm, _⟩
  · exact ⟨none, 0, rfl, Nat.le_refl _, Nat.zero_le _⟩
  · exact ⟨_, cap, rfl, hc, hm⟩
theorem NRow.nodes {A : Option Addr} {n cap : Nat} (h : NRow w base e (.slice A n cap) l) : NodesAt w A l := fun hn => by
  rcases h.open with ⟨_, rfl⟩ | ⟨g, cap, cur, hv, hb, hh, _, _, _, hc⟩
  · exact absurd rfl hn
  · injection hv with hA
    subst hA
    refine ⟨g, 0, rfl, lt_of_heap hh, fun i n hi => lies_iff.2 fun j hj => ?_⟩
    have hlt : i < l.length := (List.getElem?_eq_some_iff.1 hi).1
    have := hc (i * 6 + j) (by omega)
    rw [ncells_get l i j hj, hi] at this
    rw [Nat.zero_add]
    simp only [World.cell?, hh, this]
    simp
theorem NRow.get (h : NRow w base e v l) {k : Nat} (hk : k < l.length) :
    ∃ g cap n, v = .slice (some ⟨g, 0, none⟩) l.length cap ∧ base ≤ g ∧ g < w.heap.size ∧ l[k]? = some n ∧ n.lies w g (k * 6) ∧ ∀ j, j < l.length * 6 → w.frozen? ⟨g, j, none⟩ = false := by
  have hN := h.shape
  rcases h.open with ⟨_, rfl⟩ | ⟨g, cap, cur, rfl, hb, hh, hcl, hcm, hcs, hc⟩
  · simp at hk
  · have hn := (h.nodes).get hk
    obtain ⟨b, off, n, e1, _, hn, hl⟩ := hn
    injection e1 with e1
    injection e1 with e1 e2
    subst e1 e2
    rw [Nat.zero_add] at hl
    exact ⟨g, cap, n, rfl, hb, lt_of_heap hh, hn, hl, fun j hj => by simp [World.frozen?, hh]⟩
theorem NRow.store {g n cap : Nat} (h : NRow w base e (.slice (some ⟨g, 0, none⟩) n cap) l) {k j : Nat} {x : Nd} (hk : l[k]? = some x) (hj : j < 6) (z : Int) :
    NRow (w.setCell ⟨g, k * 6 + j, none⟩ (.int .i64 z)) base e (.slice (some ⟨g, 0, none⟩) n cap) (l.set k (x.put j z)) := by
  have hlt : k < l.length := (List.getElem?_eq_some_iff.1 hk).1
  rcases h.open with ⟨hv, _⟩ | ⟨g', cap', cur, hv, hb, hh, h1, h2, h3, hc⟩
  · cases hv
  · injection hv with hA hn hcp
    injection hA with hA
    injection hA with hg _
    subst hg hn hcp
    have := NRow.close (w := w.setCell ⟨g, k * 6 + j, none⟩ (.int .i64 z)) (base := base) (e := e) (g := g) (cap := cap) (l := l.set k (x.put j z)) hb (heap_setCell_own hh _) (by simpa using h1) h2 (by simpa using h3) (fun i hi => ?_)
    · rwa [List.length_set] at this
    · rw [List.length_set] at hi
      rw [Array.getElem?_setIfInBounds]
      have e6 : i % 6 < 6 := Nat.mod_lt _ (by omega)
      have ei : i = i / 6 * 6 + i % 6 := by omega
      have hget : (ncells (l.set k (x.put j z)))[i]? = ((l.set k (x.put j z))[i / 6]?).bind fun n => n.cells[i % 6]? := by
        have := ncells_get (l.set k (x.put j z)) (i / 6) (i % 6) e6
        rwa [← ei] at this
      have hold : cur[i]? = (l[i / 6]?).bind fun n => n.cells[i % 6]? := by
        rw [hc i hi]
        have := ncells_get l (i / 6) (i % 6) e6
        rwa [← ei] at this
      rw [hget, List.getElem?_set]
      by_cases hik : k = i / 6
      · rw [if_pos hik, if_pos hlt, Option.bind_some, Nd.put_cells _ _ _ hj, List.getElem?_set]
        by_cases hij : j = i % 6
        · rw [if_pos (show k * 6 + j = i by omega), if_pos (show k * 6 + j < cur.size by omega), if_pos hij, if_pos (by rw [Nd.cells_len]; exact hj)]
        · rw [if_neg hij, if_neg (by omega), hold, ← hik, hk]
          rfl
      · rw [if_neg hik, if_neg (by omega), hold]
theorem NRow.put6 {g n cap : Nat} (h : NRow w base e (.slice (some ⟨g, 0, none⟩) n cap) l) {k : Nat} {x : Nd} (hk : l[k]? = some x) (y : Nd) :
    NRow ((((((w.setCell ⟨g, k * 6, none⟩ (.int .i64 y.op)).setCell ⟨g, k * 6 + 1, none⟩ (.int .i64 y.d)).setCell ⟨g, k * 6 + 2, none⟩ (.int .i64 y.a)).setCell ⟨g, k * 6 + 3, none⟩ (.int .i64 y.b)).setCell ⟨g, k * 6 + 4, none⟩ (.int .i64 y.t)).setCell ⟨g, k * 6 + 5, none⟩ (.int .i64 y.e))
      base e (.slice (some ⟨g, 0, none⟩) n cap) (l.set k y) := by
  have hlt : k < l.length := (List.getElem?_eq_some_iff.1 hk).1
  have hs : ∀ (z : Nd), (l.set k z)[k]? = some z := fun z => by rw [List.getElem?_set]; simp [hlt]
  have h0 := h.store hk (show 0 < 6 by omega) y.op
  rw [Nat.add_zero] at h0
  have h1 := h0.store (hs _) (show 1 < 6 by omega) y.d
  rw [List.set_set] at h1
  have h2 := h1.store (hs _) (show 2 < 6 by omega) y.a
  rw [List.set_set] at h2
  have h3 := h2.store (hs _) (show 3 < 6 by omega) y.b
  rw [List.set_set] at h3
  have h4 := h3.store (hs _) (show 4 < 6 by omega) y.t
  rw [List.set_set] at h4
  have h5 := h4.store (hs _) (show 5 < 6 by omega) y.e
  rw [List.set_set] at h5
  exact h5
theorem NRow.ne_blk {g : Nat} {t : TypeId} {cs : Array Value} (h : NRow w base e v l) (hg : Blk w g t cs) (hne : e ≠ t) : v.ownBlock ≠ some g := by
  rcases h.open with ⟨rfl, _⟩ | ⟨g', cap, cur, rfl, _, hh, _⟩
  · simp [Value.ownBlock]
  · intro he
    simp [Value.ownBlock] at he
    subst he
    have hB : Blk w g' e cur := by unfold Blk; exact hh
    exact hB.ne_ hg hne rfl
theorem NRow.blk {g n cap : Nat} (h : NRow w base e (.slice (some ⟨g, 0, none⟩) n cap) l) : ∃ cs, Blk w g e cs := by
  rcases h.open with ⟨hv, _⟩ | ⟨g', cap', cur, hv, hb, hh, _⟩
  · cases hv
  · injection hv with hA
    injection hA with hA
    injection hA with hg
    subst hg
    exact ⟨cur, by unfold Blk; exact hh⟩
theorem NRow.ne_row {base' : Nat} {e' : TypeId} {u : Value} {ys : List Value} (h : NRow w base e v l) (h' : Row w base' e' u ys) (hne : e ≠ e') : v.ownBlock = none ∨ v.ownBlock ≠ u.ownBlock := by
  rcases h' with ⟨rfl, _⟩ | ⟨g', o, cap, cur, rfl, _, hh, _⟩
  · rcases hv : v.ownBlock with _ | k
    · exact .inl rfl
    · exact .inr (by simp [Value.ownBlock])
  · exact .inr (h.ne_blk (cs := cur) (t := e') (by unfold Blk; exact hh) hne)
/-- an empty literal -/
theorem NRow.empty {g : Nat} (hg : g = w.heap.size) (hb : base ≤ w.heap.size) : NRow (w.alloc (.cells #[] e)) base e (.slice (some ⟨g, 0, none⟩) 0 0) [] := by
  subst hg
  exact NRow.close (l := []) (cap := 0) hb (heap_alloc_new w _) (by simp) (by simp) rfl (fun k hk => by simp at hk)

/-- append nodes onto such a slice, from whatever slice can be read -/
theorem run_append_nodes {P : Program} (t ty : TypeId) (i : TypeInfo) (z : Value) (bytes : Nat) (ht : P.underlying t = some (.slice e)) (hi : P.info? e = some i) (hz : i.zero = some z)
    (hsize : i.size = 6) (hby : i.bytes = bytes) (hzs : z.cells.size = 6) (hr : NRow w base e v l) (A : Option Addr) (c : Nat) (news : List Nd) (hn : NodesAt w A news)
    (h63 : l.length + news.length ≤ maxLen) (hbytes : (l.length + news.length) * bytes ≤ 140737488355328) (hbase : base ≤ w.heap.size) :
    ∃ v' w', (Builtin.append_ #[t, t] ty #[v, .slice A news.length c]).run P w = .ok v' w' ∧ NRow w' base e v' (l ++ news) ∧ w.grownBy w' v.ownBlock ∧ (v'.ownBlock = v.ownBlock ∨ ∀ k, v'.ownBlock = some k → w.heap.size ≤ k) := by
  by_cases hne : news = []
  · subst hne
    refine ⟨v, w, ?_, by simpa using hr, World.grownBy.refl w _, .inl rfl⟩
    rcases hr.open with ⟨rfl, rfl⟩ | ⟨g, cap, cur, rfl, _, _, hnc, _⟩
    · rcases A with _ | A <;> simp [Builtin.append_, run_underlying ht, sizeOf, typeInfo, hi, hsize, Builtin.lenOf, Builtin.firstCells, loadCells, loadCellsFrom]
    · rcases A with _ | A <;> simp [Builtin.append_, run_underlying ht, sizeOf, typeInfo, hi, hsize, Builtin.lenOf, Builtin.firstCells, loadCells, loadCellsFrom, hnc, storeCells]
  · obtain ⟨b, off, rfl, hb, hcell⟩ := hn hne
    have hnews : ∀ j u, (ncells news)[j]? = some u → w.cell? ((⟨b, off, none⟩ : Addr).add j) = some u := fun j u hj => by
      rw [Addr.add_lit, ← hj]
      exact NodesAt.cell hn j (by rw [← ncells_len]; exact (List.getElem?_eq_some_iff.1 hj).1)
    obtain ⟨v', w', hrun, h2, h3, h4, h5⟩ := run_append_own_at (P := P) w base t ty e i z 6 bytes ht hi hz hsize hby hzs (by omega) v l.length (ncells l) hr ⟨b, off, none⟩ news.length c (ncells news) (ncells_len _) hnews (ncells_one _) h63 hbytes hbase
    refine ⟨v', w', hrun, ?_, h3, h5.imp id fun h k hk => by rw [h] at hk; injection hk with hk; omega⟩
    show w'.ownsRow base e 6 v' (l ++ news).length (ncells (l ++ news))
    rw [List.length_append, ncells_append]
    exact h2

theorem wp_append_nodes {P : Program} {o : Oper} {a : Act} {K : Act → World → Prop} {Q : Exit → Act → World → Prop} (s x : Operand) (t : TypeId)
    (ho : o.op = .call { callee := .builtin .append, args := #[s, x], argTypes := #[t, t] })
    (i : TypeInfo) (z : Value) (bytes : Nat) (ht : P.underlying t = some (.slice e)) (hi : P.info? e = some i) (hz : i.zero = some z)
    (hsize : i.size = 6) (hby : i.bytes = bytes) (hzs : z.cells.size = 6) (hs : a.eval s = v) (hr : NRow w base e v l) (A : Option Addr) (n c : Nat) (news : List Nd) (hx : a.eval x = .slice A n c)
    (hnl : n = news.length) (hn : NodesAt w A news)
    (h63 : l.length + news.length ≤ maxLen) (hbytes : (l.length + news.length) * bytes ≤ 140737488355328) (hbase : base ≤ w.heap.size)
    (h : ∀ v' w', NRow w' base e v' (l ++ news) → w.grownBy w' v.ownBlock → (v'.ownBlock = v.ownBlock ∨ ∀ k, v'.ownBlock = some k → w.heap.size ≤ k) → K (a.put o.dst v') w') : o.wp P a w K Q := by
  subst hnl
  obtain ⟨v', w', hrun, h2, h3, h4⟩ := run_append_nodes (P := P) t o.type i z bytes ht hi hz hsize hby hzs hr A c news hn h63 hbytes hbase
  unfold Oper.wp execOp
  simp only [ho, resolve, invoke, builtin, Sem.run_bind, Sem.run_pure, Result.andThen_ok, List.map_toArray, List.map_cons, List.map_nil, hs, hx, hrun]
  exact h v' w' h2 h3 h4

theorem wpList_append_nodes {P : Program} {ops : Array Oper} {rest : List Oper} {o : Oper} {a : Act} {Q : Exit → Act → World → Prop} (hgd : o.guard = none) (s x : Operand) (t : TypeId)
    (ho : o.op = .call { callee := .builtin .append, args := #[s, x], argTypes := #[t, t] })
    (i : TypeInfo) (z : Value) (bytes : Nat) (ht : P.underlying t = some (.slice e)) (hi : P.info? e = some i) (hz : i.zero = some z)
    (hsize : i.size = 6) (hby : i.bytes = bytes) (hzs : z.cells.size = 6) (hs : a.eval s = v) (hr : NRow w base e v l) (A : Option Addr) (n c : Nat) (news : List Nd) (hx : a.eval x = .slice A n c)
    (hnl : n = news.length) (hn : NodesAt w A news)
    (h63 : l.length + news.length ≤ maxLen) (hbytes : (l.length + news.length) * bytes ≤ 140737488355328) (hbase : base ≤ w.heap.size)
    (h : ∀ v' w', NRow w' base e v' (l ++ news) → w.grownBy w' v.ownBlock → (v'.ownBlock = v.ownBlock ∨ ∀ k, v'.ownBlock = some k → w.heap.size ≤ k) → wpList P ops Q rest (a.put o.dst v') w') :
    wpList P ops Q (o :: rest) a w :=
  wpList_plain hgd fun _ hK => wp_append_nodes s x t ho i z bytes ht hi hz hsize hby hzs hs hr A n c news hx hnl hn h63 hbytes hbase fun v' w' h2 h3 h4 => hK _ _ (h v' w' h2 h3 h4)

theorem step_append_nodes {P : Program} {ops : Array Oper} {o : Oper} {a : Act} {K : Act → World → Prop} {Q : Exit → Act → World → Prop} {E : Prop} (hgd : o.guard = none) (s x : Operand) (t : TypeId)
    (ho : o.op = .call { callee := .builtin .append, args := #[s, x], argTypes := #[t, t] })
    (i : TypeInfo) (z : Value) (bytes : Nat) (ht : P.underlying t = some (.slice e)) (hi : P.info? e = some i) (hz : i.zero = some z)
    (hsize : i.size = 6) (hby : i.bytes = bytes) (hzs : z.cells.size = 6) (hs : a.eval s = v) (hr : NRow w base e v l) (A : Option Addr) (n c : Nat) (news : List Nd) (hx : a.eval x = .slice A n c)
    (hnl : n = news.length) (hn : NodesAt w A news)
    (h63 : l.length + news.length ≤ maxLen) (hbytes : (l.length + news.length) * bytes ≤ 140737488355328) (hbase : base ≤ w.heap.size)
    (h : ∀ v' w', NRow w' base e v' (l ++ news) → w.grownBy w' v.ownBlock → (v'.ownBlock = v.ownBlock ∨ ∀ k, v'.ownBlock = some k → w.heap.size ≤ k) → K (a.put o.dst v') w') :
    if Region.wanted o (yielded ops a.tmps) = true then Oper.wp P o a w K Q else E := by
  have hw : Region.wanted o (yielded ops a.tmps) = true := by simp [Region.wanted, hgd]
  rw [if_pos hw]
  exact wp_append_nodes s x t ho i z bytes ht hi hz hsize hby hzs hs hr A n c news hx hnl hn h63 hbytes hbase h

/-- the node that a literal of one element is laid in -/
theorem nodes_one' {w : World} {n : Nd} {t : TypeId} {g : Nat} (h : g = w.heap.size) : NodesAt (w.alloc (.cells #[.int .i64 n.op, .int .i64 n.d, .int .i64 n.a, .int .i64 n.b, .int .i64 n.t, .int .i64 n.e] t)) (some ⟨g, 0, none⟩) [n] := by
  subst h
  refine NodesAt.mk (by simp) fun i m hi => ?_
  rcases i with _ | i
  · simp at hi
    subst hi
    simp [Nd.lies]
  · simp at hi
end
theorem NodesAt.nil {w : World} {A : Option Addr} : NodesAt w A [] := fun h => absurd rfl h
end Go.Proofs.YtmghkonmfbpjcabDoor
