/- NRow GraphU Ms1 RunQ RunV Ms2 ReachR Each FactC. -/
import Derived.Test.YtmghkonmfbpjcaaGreatDoorGA
import Derived.Test.YtmghkonmfbpjcaaGreatDoorGB
import Derived.Deep.LoopGhost
import Derived.Deep.DeepCutAuto
set_option linter.unusedVariables false
set_option linter.unusedSimpArgs false
namespace Go.Proofs.YtmghkonmfbpjcaaGreatDoor
section
open Go.RowKit
def ncells : List Nd → List Value
 | [] => []
 | n :: l => n.cells ++ ncells l
theorem Nd.cells_len (n : Nd) : n.cells.length = 6 := rfl
theorem ncells_len (l : List Nd) : (ncells l).length = l.length * 6 := by (
 induction l with
 | nil => rfl
 | cons n l ih => simp only [ncells, List.length_append, Nd.cells_len, ih, List.length_cons]; omega)
theorem ncells_append (a b : List Nd) : ncells (a ++ b) = ncells a ++ ncells b := by (
 induction a with
 | nil => rfl
 | cons n a ih => simp only [List.cons_append, ncells, ih, List.append_assoc])
theorem ncells_get : ∀ (l : List Nd) (i j : Nat), j < 6 → (ncells l)[i * 6 + j]? = (l[i]?).bind fun n => n.cells[j]?
 | [], i, j, hj => by simp [ncells]
 | n :: l, 0, j, hj => by (
 simp only [ncells, Nat.zero_mul, Nat.zero_add, List.getElem?_cons_zero, Option.bind_some]
 rw [List.getElem?_append_left (by rw [Nd.cells_len]; exact hj)])
 | n :: l, i + 1, j, hj => by (
 simp only [ncells, List.getElem?_cons_succ]
 rw [List.getElem?_append_right (by rw [Nd.cells_len]; omega), Nd.cells_len, show (i + 1) * 6 + j - 6 = i * 6 + j by omega]
 exact ncells_get l i j hj)
theorem ncells_one (l : List Nd) : ∀ u ∈ ncells l, u.oneCell' = true := by (
 induction l with
 | nil => intro u hu; cases hu
 | cons n l ih =>
  intro u hu
  simp only [ncells, List.mem_append] at hu
  rcases hu with hu | hu
  · (
 simp only [Nd.cells, List.mem_cons, List.not_mem_nil, or_false] at hu
 rcases hu with rfl | rfl | rfl | rfl | rfl | rfl <;> rfl)
  · exact ih u hu)
def Nd.put (n : Nd) : Nat → Int → Nd
 | 0, x => { n with op := x }
 | 1, x => { n with d := x }
 | 2, x => { n with a := x }
 | 3, x => { n with b := x }
 | 4, x => { n with t := x }
 | _, x => { n with e := x }
theorem Nd.put_cells (n : Nd) (j : Nat) (x : Int) (hj : j < 6) : (n.put j x).cells = n.cells.set j (.int .i64 x) := by (
 rcases j with _ | _ | _ | _ | _ | _ | j <;> first | rfl | omega)
theorem lies_iff {n : Nd} {w : World} {b off : Nat} : n.lies w b off ↔ ∀ j, j < 6 → w.cell? ⟨b, off + j, none⟩ = n.cells[j]? := by (
 constructor
 · (
 rintro ⟨h0, h1, h2, h3, h4, h5⟩ j hj
 match j, hj with
 | 0, _ => exact h0
 | 1, _ => exact h1
 | 2, _ => exact h2
 | 3, _ => exact h3
 | 4, _ => exact h4
 | 5, _ => exact h5)
 · (
 intro h
 exact ⟨h 0 (by omega), h 1 (by omega), h 2 (by omega), h 3 (by omega), h 4 (by omega), h 5 (by omega)⟩))
theorem NodesAt.cell {w : World} {b off : Nat} {l : List Nd} (h : NodesAt w (some ⟨b, off, none⟩) l) (k : Nat) (hk : k < l.length * 6) : w.cell? ⟨b, off + k, none⟩ = (ncells l)[k]? := by (
 have hd : k / 6 < l.length := by omega
 obtain ⟨b', off', n, e, _, hn, hl⟩ := h.get hd
 injection e with e
 injection e with e1 e2
 subst e1 e2
 have h6 : k % 6 < 6 := Nat.mod_lt _ (by omega)
 have := lies_iff.1 hl (k % 6) h6
 rw [show off + k / 6 * 6 + k % 6 = off + k by omega] at this
 have hg := ncells_get l (k / 6) (k % 6) h6
 rw [show k / 6 * 6 + k % 6 = k by omega, hn] at hg
 rw [this, hg]
 rfl)
def NRow (w : World) (base : Nat) (e : TypeId) (v : Value) (l : List Nd) : Prop := w.ownsRow base e 6 v l.length (ncells l)
section
variable {w w' : World} {base : Nat} {e : TypeId} {v : Value} {l : List Nd}
theorem NRow.nil_ (w : World) (base : Nat) (e : TypeId) : NRow w base e (.slice none 0 0) [] := ⟨rfl, .inl ⟨rfl, rfl⟩⟩
theorem NRow.open (h : NRow w base e v l) : (v = .slice none 0 0 ∧ l = []) ∨ ∃ g cap cur, v = .slice (some ⟨g, 0, none⟩) l.length cap ∧ base ≤ g ∧ w.heap[g]? = some (.cells cur e (0, 0)) ∧ l.length ≤ cap ∧ cap ≤ maxLen ∧ cur.size = cap * 6 ∧
 ∀ k, k < l.length * 6 → cur[k]? = (ncells l)[k]? := by (
 obtain ⟨hl, ⟨hv, hn⟩ | ⟨g, cap, cur, hv, hb, hh, h1, h2, h3, h4⟩⟩ := h
 · exact .inl ⟨hv, List.eq_nil_of_length_eq_zero hn⟩
 · (
 refine .inr ⟨g, cap, cur, hv, hb, hh, h1, h2, h3, fun k hk => ?_⟩
 rw [← h4, List.getElem?_take, if_pos hk, Array.getElem?_toList]))
theorem NRow.close {g cap : Nat} {cur : Array Value} (hb : base ≤ g) (hh : w.heap[g]? = some (.cells cur e (0, 0))) (h1 : l.length ≤ cap) (h2 : cap ≤ maxLen) (h3 : cur.size = cap * 6)
 (h4 : ∀ k, k < l.length * 6 → cur[k]? = (ncells l)[k]?) : NRow w base e (.slice (some ⟨g, 0, none⟩) l.length cap) l := by (
 refine ⟨ncells_len l, .inr ⟨g, cap, cur, rfl, hb, hh, h1, h2, h3, ?_⟩⟩
 refine List.ext_getElem? fun k => ?_
 rw [List.getElem?_take]
 split
 · (
 rename_i hk
 rw [Array.getElem?_toList]
 exact h4 k hk)
 · (
 rename_i hk
 rw [List.getElem?_eq_none (by rw [ncells_len]; omega)]))
theorem NRow.lt (h : NRow w base e v l) : ∀ k, v.ownBlock = some k → base ≤ k ∧ k < w.heap.size := by (
 rintro k hk
 rcases h.open with ⟨rfl, _⟩ | ⟨g, cap, cur, rfl, hb, hh, _⟩
 · simp [Value.ownBlock] at hk
 · (
 simp [Value.ownBlock] at hk
 subst hk
 exact ⟨hb, lt_of_heap hh⟩))
theorem NRow.of_block (h : NRow w base e v l) (hk : ∀ k, v.ownBlock = some k → w'.heap[k]? = w.heap[k]?) : NRow w' base e v l := by (
 obtain ⟨hl, ⟨hv, hn⟩ | ⟨g, cap, cur, hv, hb, hh, r⟩⟩ := h
 · exact ⟨hl, .inl ⟨hv, hn⟩⟩
 · exact ⟨hl, .inr ⟨g, cap, cur, hv, hb, (hk g (by rw [hv]; rfl)).trans hh, r⟩⟩)
theorem NRow.kept {row : Option Nat} (h : NRow w base e v l) (hg : w.grownBy w' row) (hne : v.ownBlock = none ∨ v.ownBlock ≠ row) : NRow w' base e v l :=
 h.of_block fun k hk => hg.block k (h.lt k hk).2 (by
  rcases hne with hn | hn
  · rw [hn] at hk; cases hk
  · rw [← hk]; exact hn)
theorem NRow.below' (h : NRow w base e v l) (hb : Below w.heap.size w w') : NRow w' base e v l := h.of_block fun k hk => hb.block k (h.lt k hk).2
theorem NRow.alloc (h : NRow w base e v l) (o : Obj) : NRow (w.alloc o) base e v l := h.of_block fun k hk => Below.heap_alloc w o k (h.lt k hk).2
theorem NRow.drew (h : NRow w base e v l) : NRow w.drew base e v l := h
theorem NRow.drewN (h : NRow w base e v l) (n : Nat) : NRow (w.drewN n) base e v l := h
theorem NRow.far (h : NRow w base e v l) {p : Addr} (hp : v.ownBlock ≠ some p.block) (u : Value) : NRow (w.setCell p u) base e v l :=
 h.of_block fun k hk => Below.heap_setCell w p u k (by rintro rfl; exact hp hk)
theorem NRow.mono {base' : Nat} (h : NRow w base e v l) (hb : base' ≤ base) : NRow w base' e v l := by (
 obtain ⟨hl, h | ⟨g, cap, cur, hv, hg, r⟩⟩ := h
 · exact ⟨hl, .inl h⟩
 · exact ⟨hl, .inr ⟨g, cap, cur, hv, Nat.le_trans hb hg, r⟩⟩)
theorem NRow.shape (h : NRow w base e v l) : ∃ A cap, v = .slice A l.length cap ∧ l.length ≤ cap ∧ cap ≤ maxLen := by (
 rcases h.open with ⟨rfl, rfl⟩ | ⟨g, cap, cur, rfl, _, _, hc, hm, _⟩
 · exact ⟨none, 0, rfl, Nat.le_refl _, Nat.zero_le _⟩
 · exact ⟨_, cap, rfl, hc, hm⟩)
theorem NRow.nodes {A : Option Addr} {n cap : Nat} (h : NRow w base e (.slice A n cap) l) : NodesAt w A l := fun hn => by (
 rcases h.open with ⟨_, rfl⟩ | ⟨g, cap, cur, hv, hb, hh, _, _, _, hc⟩
 · exact absurd rfl hn
 · (
 injection hv with hA
 subst hA
 refine ⟨g, 0, rfl, lt_of_heap hh, fun i n hi => lies_iff.2 fun j hj => ?_⟩
 have hlt : i < l.length := (List.getElem?_eq_some_iff.1 hi).1
 have := hc (i * 6 + j) (by omega)
 rw [ncells_get l i j hj, hi] at this
 rw [Nat.zero_add]
 simp only [World.cell?, hh, this]
 simp))
theorem NRow.get (h : NRow w base e v l) {k : Nat} (hk : k < l.length) :
 ∃ g cap n, v = .slice (some ⟨g, 0, none⟩) l.length cap ∧ base ≤ g ∧ g < w.heap.size ∧ l[k]? = some n ∧ n.lies w g (k * 6) ∧ ∀ j, j < l.length * 6 → w.frozen? ⟨g, j, none⟩ = false := by (
 have hN := h.shape
 rcases h.open with ⟨_, rfl⟩ | ⟨g, cap, cur, rfl, hb, hh, hcl, hcm, hcs, hc⟩
 · simp at hk
 · (
 have hn := (h.nodes).get hk
 obtain ⟨b, off, n, e1, _, hn, hl⟩ := hn
 injection e1 with e1
 injection e1 with e1 e2
 subst e1 e2
 rw [Nat.zero_add] at hl
 exact ⟨g, cap, n, rfl, hb, lt_of_heap hh, hn, hl, fun j hj => by simp [World.frozen?, hh]⟩))
theorem NRow.store {g n cap : Nat} (h : NRow w base e (.slice (some ⟨g, 0, none⟩) n cap) l) {k j : Nat} {x : Nd} (hk : l[k]? = some x) (hj : j < 6) (z : Int) :
 NRow (w.setCell ⟨g, k * 6 + j, none⟩ (.int .i64 z)) base e (.slice (some ⟨g, 0, none⟩) n cap) (l.set k (x.put j z)) := by (
 have hlt : k < l.length := (List.getElem?_eq_some_iff.1 hk).1
 rcases h.open with ⟨hv, _⟩ | ⟨g', cap', cur, hv, hb, hh, h1, h2, h3, hc⟩
 · cases hv
 · (
 injection hv with hA hn hcp
 injection hA with hA
 injection hA with hg _
 subst hg hn hcp
 have := NRow.close (w := w.setCell ⟨g, k * 6 + j, none⟩ (.int .i64 z)) (base := base) (e := e) (g := g) (cap := cap) (l := l.set k (x.put j z)) hb (heap_setCell_own hh _) (by simpa using h1) h2 (by simpa using h3) (fun i hi => ?_)
 · rwa [List.length_set] at this
 · (
 rw [List.length_set] at hi
 rw [Array.getElem?_setIfInBounds]
 have e6 : i % 6 < 6 := Nat.mod_lt _ (by omega)
 have ei : i = i / 6 * 6 + i % 6 := by omega
 have hget : (ncells (l.set k (x.put j z)))[i]? = ((l.set k (x.put j z))[i / 6]?).bind fun n => n.cells[i % 6]? := by (
 have := ncells_get (l.set k (x.put j z)) (i / 6) (i % 6) e6
 rwa [← ei] at this)
 have hold : cur[i]? = (l[i / 6]?).bind fun n => n.cells[i % 6]? := by (
 rw [hc i hi]
 have := ncells_get l (i / 6) (i % 6) e6
 rwa [← ei] at this)
 rw [hget, List.getElem?_set]
 by_cases hik : k = i / 6
 · (
 rw [if_pos hik, if_pos hlt, Option.bind_some, Nd.put_cells _ _ _ hj, List.getElem?_set]
 by_cases hij : j = i % 6
 · rw [if_pos (show k * 6 + j = i by omega), if_pos (show k * 6 + j < cur.size by omega), if_pos hij, if_pos (by rw [Nd.cells_len]; exact hj)]
 · (
 rw [if_neg hij, if_neg (by omega), hold, ← hik, hk]
 rfl))
 · rw [if_neg hik, if_neg (by omega), hold])))
theorem NRow.put6 {g n cap : Nat} (h : NRow w base e (.slice (some ⟨g, 0, none⟩) n cap) l) {k : Nat} {x : Nd} (hk : l[k]? = some x) (y : Nd) :
 NRow ((((((w.setCell ⟨g, k * 6, none⟩ (.int .i64 y.op)).setCell ⟨g, k * 6 + 1, none⟩ (.int .i64 y.d)).setCell ⟨g, k * 6 + 2, none⟩ (.int .i64 y.a)).setCell ⟨g, k * 6 + 3, none⟩ (.int .i64 y.b)).setCell ⟨g, k * 6 + 4, none⟩ (.int .i64 y.t)).setCell ⟨g, k * 6 + 5, none⟩ (.int .i64 y.e))
  base e (.slice (some ⟨g, 0, none⟩) n cap) (l.set k y) := by (
 have hlt : k < l.length := (List.getElem?_eq_some_iff.1 hk).1
 have hs : ∀ (z : Nd), (l.set k z)[k]? = some z := fun z => by rw [List.getElem?_set]; simp [hlt]
 have h0 := h.store hk (show 0 < 6 by omega) y.op
 rw [Nat.add_zero] at h0
 have h1 := h0.store (hs _) (show 1 < 6 by omega) y.d
 rw [List.set_set] at h1
 have h2 := h1.store (hs _) (show 2 < 6 by omega) y.a
 rw [List.set_set] at h2
 have h3 := h2.store (hs _) (show 3 < 6 by omega) y.b
 rw [List.set_set] at h3
 have h4 := h3.store (hs _) (show 4 < 6 by omega) y.t
 rw [List.set_set] at h4
 have h5 := h4.store (hs _) (show 5 < 6 by omega) y.e
 rw [List.set_set] at h5
 exact h5)
theorem NRow.ne_blk {g : Nat} {t : TypeId} {cs : Array Value} (h : NRow w base e v l) (hg : Blk w g t cs) (hne : e ≠ t) : v.ownBlock ≠ some g := by (
 rcases h.open with ⟨rfl, _⟩ | ⟨g', cap, cur, rfl, _, hh, _⟩
 · simp [Value.ownBlock]
 · (
 intro he
 simp [Value.ownBlock] at he
 subst he
 have hB : Blk w g' e cur := by unfold Blk; exact hh
 exact hB.ne_ hg hne rfl))
theorem NRow.ne_row {base' : Nat} {e' : TypeId} {u : Value} {ys : List Value} (h : NRow w base e v l) (h' : Row w base' e' u ys) (hne : e ≠ e') : v.ownBlock = none ∨ v.ownBlock ≠ u.ownBlock := by (
 rcases h' with ⟨rfl, _⟩ | ⟨g', o, cap, cur, rfl, _, hh, _⟩
 · (
 rcases hv : v.ownBlock with _ | k
 · exact .inl rfl
 · exact .inr (by simp [Value.ownBlock]))
 · exact .inr (h.ne_blk (cs := cur) (t := e') (by unfold Blk; exact hh) hne))
theorem NRow.empty {g : Nat} (hg : g = w.heap.size) (hb : base ≤ w.heap.size) : NRow (w.alloc (.cells #[] e)) base e (.slice (some ⟨g, 0, none⟩) 0 0) [] := by (
 subst hg
 exact NRow.close (l := []) (cap := 0) hb (heap_alloc_new w _) (by simp) (by simp) rfl (fun k hk => by simp at hk))
theorem run_append_nodes {P : Program} (t ty : TypeId) (i : TypeInfo) (z : Value) (bytes : Nat) (ht : P.underlying t = some (.slice e)) (hi : P.info? e = some i) (hz : i.zero = some z)
 (hsize : i.size = 6) (hby : i.bytes = bytes) (hzs : z.cells.size = 6) (hr : NRow w base e v l) (A : Option Addr) (c : Nat) (news : List Nd) (hn : NodesAt w A news)
 (h63 : l.length + news.length ≤ maxLen) (hbytes : (l.length + news.length) * bytes ≤ 140737488355328) (hbase : base ≤ w.heap.size) :
 ∃ v' w', (Builtin.append_ #[t, t] ty #[v, .slice A news.length c]).run P w = .ok v' w' ∧ NRow w' base e v' (l ++ news) ∧ w.grownBy w' v.ownBlock ∧ (v'.ownBlock = v.ownBlock ∨ ∀ k, v'.ownBlock = some k → w.heap.size ≤ k) := by (
 by_cases hne : news = []
 · (
 subst hne
 refine ⟨v, w, ?_, by simpa using hr, World.grownBy.refl w _, .inl rfl⟩
 rcases hr.open with ⟨rfl, rfl⟩ | ⟨g, cap, cur, rfl, _, _, hnc, _⟩
 · rcases A with _ | A <;> simp [Builtin.append_, run_underlying ht, sizeOf, typeInfo, hi, hsize, Builtin.lenOf, Builtin.firstCells, loadCells, loadCellsFrom]
 · rcases A with _ | A <;> simp [Builtin.append_, run_underlying ht, sizeOf, typeInfo, hi, hsize, Builtin.lenOf, Builtin.firstCells, loadCells, loadCellsFrom, hnc, storeCells])
 · (
 obtain ⟨b, off, rfl, hb, hcell⟩ := hn hne
 have hnews : ∀ j u, (ncells news)[j]? = some u → w.cell? ((⟨b, off, none⟩ : Addr).add j) = some u := fun j u hj => by (
 rw [Addr.add_lit, ← hj]
 exact NodesAt.cell hn j (by rw [← ncells_len]; exact (List.getElem?_eq_some_iff.1 hj).1))
 obtain ⟨v', w', hrun, h2, h3, h4, h5⟩ := run_append_own_at (P := P) w base t ty e i z 6 bytes ht hi hz hsize hby hzs (by omega) v l.length (ncells l) hr ⟨b, off, none⟩ news.length c (ncells news) (ncells_len _) hnews (ncells_one _) h63 hbytes hbase
 refine ⟨v', w', hrun, ?_, h3, h5.imp id fun h k hk => by rw [h] at hk; injection hk with hk; omega⟩
 show w'.ownsRow base e 6 v' (l ++ news).length (ncells (l ++ news))
 rw [List.length_append, ncells_append]
 exact h2))
theorem wp_append_nodes {P : Program} {o : Oper} {a : Act} {K : Act → World → Prop} {Q : Exit → Act → World → Prop} (s x : Operand) (t : TypeId)
 (ho : o.op = .call { callee := .builtin .append, args := #[s, x], argTypes := #[t, t] })
 (i : TypeInfo) (z : Value) (bytes : Nat) (ht : P.underlying t = some (.slice e)) (hi : P.info? e = some i) (hz : i.zero = some z)
 (hsize : i.size = 6) (hby : i.bytes = bytes) (hzs : z.cells.size = 6) (hs : a.eval s = v) (hr : NRow w base e v l) (A : Option Addr) (n c : Nat) (news : List Nd) (hx : a.eval x = .slice A n c)
 (hnl : n = news.length) (hn : NodesAt w A news)
 (h63 : l.length + news.length ≤ maxLen) (hbytes : (l.length + news.length) * bytes ≤ 140737488355328) (hbase : base ≤ w.heap.size)
 (h : ∀ v' w', NRow w' base e v' (l ++ news) → w.grownBy w' v.ownBlock → (v'.ownBlock = v.ownBlock ∨ ∀ k, v'.ownBlock = some k → w.heap.size ≤ k) → K (a.put o.dst v') w') : o.wp P a w K Q := by (
 subst hnl
 obtain ⟨v', w', hrun, h2, h3, h4⟩ := run_append_nodes (P := P) t o.type i z bytes ht hi hz hsize hby hzs hr A c news hn h63 hbytes hbase
 unfold Oper.wp execOp
 simp only [ho, resolve, invoke, builtin, Sem.run_bind, Sem.run_pure, Result.andThen_ok, List.map_toArray, List.map_cons, List.map_nil, hs, hx, hrun]
 exact h v' w' h2 h3 h4)
theorem wpList_append_nodes {P : Program} {ops : Array Oper} {rest : List Oper} {o : Oper} {a : Act} {Q : Exit → Act → World → Prop} (hgd : o.guard = none) (s x : Operand) (t : TypeId)
 (ho : o.op = .call { callee := .builtin .append, args := #[s, x], argTypes := #[t, t] })
 (i : TypeInfo) (z : Value) (bytes : Nat) (ht : P.underlying t = some (.slice e)) (hi : P.info? e = some i) (hz : i.zero = some z)
 (hsize : i.size = 6) (hby : i.bytes = bytes) (hzs : z.cells.size = 6) (hs : a.eval s = v) (hr : NRow w base e v l) (A : Option Addr) (n c : Nat) (news : List Nd) (hx : a.eval x = .slice A n c)
 (hnl : n = news.length) (hn : NodesAt w A news)
 (h63 : l.length + news.length ≤ maxLen) (hbytes : (l.length + news.length) * bytes ≤ 140737488355328) (hbase : base ≤ w.heap.size)
 (h : ∀ v' w', NRow w' base e v' (l ++ news) → w.grownBy w' v.ownBlock → (v'.ownBlock = v.ownBlock ∨ ∀ k, v'.ownBlock = some k → w.heap.size ≤ k) → wpList P ops Q rest (a.put o.dst v') w') :
 wpList P ops Q (o :: rest) a w :=
 wpList_plain hgd fun _ hK => wp_append_nodes s x t ho i z bytes ht hi hz hsize hby hzs hs hr A n c news hx hnl hn h63 hbytes hbase fun v' w' h2 h3 h4=> hK _ _ (h v' w' h2 h3 h4)
theorem step_append_nodes {P : Program} {ops : Array Oper} {o : Oper} {a : Act} {K : Act → World → Prop} {Q : Exit → Act → World → Prop} {E : Prop} (hgd : o.guard = none) (s x : Operand) (t : TypeId)
 (ho : o.op = .call { callee := .builtin .append, args := #[s, x], argTypes := #[t, t] })
 (i : TypeInfo) (z : Value) (bytes : Nat) (ht : P.underlying t = some (.slice e)) (hi : P.info? e = some i) (hz : i.zero = some z)
 (hsize : i.size = 6) (hby : i.bytes = bytes) (hzs : z.cells.size = 6) (hs : a.eval s = v) (hr : NRow w base e v l) (A : Option Addr) (n c : Nat) (news : List Nd) (hx : a.eval x = .slice A n c)
 (hnl : n = news.length) (hn : NodesAt w A news)
 (h63 : l.length + news.length ≤ maxLen) (hbytes : (l.length + news.length) * bytes ≤ 140737488355328) (hbase : base ≤ w.heap.size)
 (h : ∀ v' w', NRow w' base e v' (l ++ news) → w.grownBy w' v.ownBlock → (v'.ownBlock = v.ownBlock ∨ ∀ k, v'.ownBlock = some k → w.heap.size ≤ k) → K (a.put o.dst v') w') :
 if Region.wanted o (yielded ops a.tmps) = true then Oper.wp P o a w K Q else E := by (
 have hw : Region.wanted o (yielded ops a.tmps) = true := by simp [Region.wanted, hgd]
 rw [if_pos hw]
 exact wp_append_nodes s x t ho i z bytes ht hi hz hsize hby hzs hs hr A n c news hx hnl hn h63 hbytes hbase h)
theorem nodes_one' {w : World} {n : Nd} {t : TypeId} {g : Nat} (h : g = w.heap.size) : NodesAt (w.alloc (.cells #[.int .i64 n.op, .int .i64 n.d, .int .i64 n.a, .int .i64 n.b, .int .i64 n.t, .int .i64 n.e] t)) (some ⟨g, 0, none⟩) [n] := by (
 subst h
 refine NodesAt.mk (by simp) fun i m hi => ?_
 rcases i with _ | i
 · (
 simp at hi
 subst hi
 simp [Nd.lies])
 · simp at hi)
end
end
section
open Go.RowKit
def skipN (t : Int) : Nd := ⟨0, 0, 0, 0, t, 0⟩
def ways (l : List Nd) (m : Int) : Nat := (sel (aheadP l m.toNat) l.length).length
def split1 (l : List Nd) (n : Nd) (N : Nat) : Nd := if 2 ≤ ways l n.t then { n with t := N, e := if n.op = 11 ∧ n.e = n.t then (N : Int) else n.e } else n
def skips1 (l : List Nd) (n : Nd) : List Nd := if 2 ≤ ways l n.t then [skipN n.t] else []
def elseB (l : List Nd) (n : Nd) : Bool := n.op == 11 && n.e != n.t && decide (2 ≤ ways l n.e)
def split2 (l : List Nd) (n x : Nd) (N : Nat) : Nd := if elseB l n = true then { x with e := N } else x
def skips2 (l : List Nd) (n : Nd) : List Nd := if elseB l n = true then [skipN n.e] else []
def step1 (l : List Nd) (k : Nat) (n : Nd) (out : List Nd) : List Nd := out.set k (split1 l n out.length) ++ skips1 l n
def step2 (l : List Nd) (k : Nat) (n x : Nd) (out : List Nd) : List Nd := out.set k (split2 l n x out.length) ++ skips2 l n
def splitStep (l : List Nd) (k : Nat) (n : Nd) (out : List Nd) : List Nd := if n.op = 0 ∨ n.op = 12 then out else step2 l k n (split1 l n out.length) (step1 l k n out)
def splitTo (l : List Nd) : Nat → List Nd
 | 0 => l
 | k + 1 => splitStep l k (l.getD k default) (splitTo l k)
def splitL (l : List Nd) : List Nd := splitTo l l.length
theorem splitTo_succ {l : List Nd} {k : Nat} {n : Nd} (hn : l[k]? = some n) : splitTo l (k + 1) = splitStep l k n (splitTo l k) := by (
 have : l.getD k default = n := by rw [List.getD_eq_getElem?_getD, hn]; rfl
 rw [splitTo, this])
theorem skips1_len (l : List Nd) (n : Nd) : (skips1 l n).length ≤ 1 := by unfold skips1; split <;> simp
theorem skips2_len (l : List Nd) (n : Nd) : (skips2 l n).length ≤ 1 := by unfold skips2; split <;> simp
theorem step1_len (l : List Nd) (k : Nat) (n : Nd) (out : List Nd) : (step1 l k n out).length = out.length + (skips1 l n).length := by simp [step1]
theorem step2_len (l : List Nd) (k : Nat) (n x : Nd) (out : List Nd) : (step2 l k n x out).length = out.length + (skips2 l n).length := by simp [step2]
theorem splitStep_len (l : List Nd) (k : Nat) (n : Nd) (out : List Nd) : out.length ≤ (splitStep l k n out).length ∧ (splitStep l k n out).length ≤ out.length + 2 := by (
 unfold splitStep
 split
 · omega
 · (
 rw [step2_len, step1_len]
 have := skips1_len l n
 have := skips2_len l n
 omega))
theorem splitTo_len (l : List Nd) : ∀ k, l.length ≤ (splitTo l k).length ∧ (splitTo l k).length ≤ l.length + 2 * k
 | 0 => by simp [splitTo]
 | k + 1 => by (
 have h1 := splitTo_len l k
 have h2 := splitStep_len l k (l.getD k default) (splitTo l k)
 rw [splitTo]
 omega)
theorem splitStep_get {l : List Nd} {k j : Nat} {n : Nd} {out : List Nd} (hk : k ≠ j) (hj : j < out.length) : (splitStep l k n out)[j]? = out[j]? := by (
 unfold splitStep
 split
 · rfl
 · (
 unfold step2
 rw [List.getElem?_append_left (by rw [List.length_set, step1_len]; omega), List.getElem?_set_ne hk]
 unfold step1
 rw [List.getElem?_append_left (by rw [List.length_set]; omega), List.getElem?_set_ne hk]))
theorem splitTo_get (l : List Nd) : ∀ (k j : Nat), k ≤ j → j < l.length → (splitTo l k)[j]? = l[j]?
 | 0, j, _, _ => rfl
 | k + 1, j, hk, hj => by (
 rw [splitTo, splitStep_get (by omega) (by have := splitTo_len l k; omega)]
 exact splitTo_get l k j (by omega) hj)
theorem splitStep_once {l : List Nd} {k : Nat} {n : Nd} {out : List Nd} (hk : k < out.length) (h0 : n.op ≠ 0) (h12 : n.op ≠ 12) :
 splitStep l k n out = out.set k (split2 l n (split1 l n out.length) (out.length + (skips1 l n).length)) ++ (skips1 l n ++ skips2 l n) := by (
 unfold splitStep
 rw [if_neg (by omega)]
 unfold step2
 rw [step1_len]
 unfold step1
 rw [List.set_append_left _ _ (by rw [List.length_set]; exact hk), List.set_set, List.append_assoc])
theorem splitStep_skip {l : List Nd} {k : Nat} {n : Nd} {out : List Nd} (h : n.op = 0 ∨ n.op = 12) : splitStep l k n out = out := by (
 unfold splitStep
 rw [if_pos h])
theorem set_self {α : Type} {l : List α} {k : Nat} {x : α} (h : l[k]? = some x) : l.set k x = l := by (
 refine List.ext_getElem? fun i => ?_
 rw [List.getElem?_set]
 split
 · (
 rename_i e
 subst e
 have := (List.getElem?_eq_some_iff.1 h).1
 rw [if_pos this, h])
 · rfl)
end
section
open Go.RowKit
def Edge (l : List Nd) (n m : Nat) : Prop := n < l.length ∧ m < l.length ∧ leadsB (nd l n) (m : Int) = true
theorem nd_some {l : List Nd} {n : Nat} (h : n < l.length) : l[n]? = some (nd l n) := by rw [nd, List.getD_eq_getElem?_getD, List.getElem?_eq_getElem h]; rfl
theorem nd_mem {l : List Nd} {n : Nat} (h : n < l.length) : nd l n ∈ l := List.mem_of_getElem? (nd_some h)
theorem mem_next {l : List Nd} {n : Nat} {m : Int} : m ∈ edgesOf true l n ↔ ∃ i : Nat, m = i ∧ Edge l n i := by
  unfold edgesOf Edge
  rw [if_pos rfl, mem_sel]
  constructor
  · rintro ⟨i, h1, h2, rfl⟩
    by_cases hn : n < l.length
    · exact ⟨i, rfl, hn, h1, by rw [nextP_eq (nd_some hn)] at h2; exact h2⟩
    · simp [nextP, List.getElem?_eq_none (Nat.le_of_not_lt hn)] at h2
  · rintro ⟨i, rfl, hn, h1, h2⟩
    exact ⟨i, h1, by rw [nextP_eq (nd_some hn)]; exact h2, rfl⟩
theorem mem_ahead {l : List Nd} {n : Nat} (hn : n < l.length) {m : Int} : m ∈ edgesOf false l n ↔ ∃ i : Nat, m = i ∧ Edge l i n := by
  unfold edgesOf Edge
  rw [if_neg (by simp), mem_sel]
  constructor
  · rintro ⟨i, h1, h2, rfl⟩
    exact ⟨i, rfl, h1, hn, by rw [aheadP_eq (nd_some h1)] at h2; exact h2⟩
  · rintro ⟨i, rfl, h1, _, h2⟩
    exact ⟨i, h1, by rw [aheadP_eq (nd_some h1)]; exact h2, rfl⟩
theorem flow_iff {bk em : Bool} {gen pass plus lt : List Bool} {l : List Nd} {x : List Bool} {n : Nat} :
    flowS bk em gen pass plus lt l x n = true ↔ yn gen n = true ∨ yn pass n = true ∧ (em = true ∨ ∃ m, m ∈ edgesOf bk l n) ∧ ∀ m ∈ edgesOf bk l n, yn plus m.toNat = true ∨ yn lt m.toNat = true ∧ yn x m.toNat = true := by
  unfold flowS saysB askOne
  cases yn gen n <;> cases yn pass n <;> rcases hE : edgesOf bk l n with _ | ⟨e0, es⟩ <;> simp
def Rc (t : Tm) (l : List Nd) (n : Nat) : Prop := recB t (nd l n) = true
def Kp (t : Tm) (l : List Nd) (n : Nat) : Prop := keepB t (nd l n) = true
theorem yn_rc {t : Tm} {l : List Nd} {n : Nat} (h : n < l.length) : yn (recL t l) n = true ↔ Rc t l n := by rw [yn_rec (nd_some h)]; exact Iff.rfl
theorem yn_kp {t : Tm} {l : List Nd} {n : Nat} (h : n < l.length) : yn (keepL t l) n = true ↔ Kp t l n := by rw [yn_keep (nd_some h)]; exact Iff.rfl
theorem yn_nrc {t : Tm} {l : List Nd} {n : Nat} (h : n < l.length) : yn (notL (recL t l)) n = true ↔ ¬ Rc t l n := by
  rw [yn_not (by rw [recL_len]; exact h), ← yn_rc h]
  cases yn (recL t l) n <;> simp
theorem yn_bnot {x : List Bool} {n : Nat} : (!yn x n) = true ↔ ¬ yn x n = true := by cases yn x n <;> simp
section
variable {t : Tm} {l : List Nd} {F : Fx}
theorem down_flow {x : List Bool} {P : Nat → Prop} (hx : ∀ i, i < l.length → (yn x i = true ↔ P i)) {n : Nat} (hn : n < l.length) :
    flowS true false (recL t l) (keepL t l) (noL l.length) (notL (noL l.length)) l x n = true ↔ Rc t l n ∨ Kp t l n ∧ (∃ m, Edge l n m) ∧ ∀ m, Edge l n m → P m := by
  rw [flow_iff, yn_rc hn, yn_kp hn]
  simp only [mem_next, yn_no, Bool.false_eq_true, false_or]
  refine or_congr Iff.rfl (and_congr Iff.rfl (and_congr ⟨fun ⟨m, i, e, h⟩ => ⟨i, h⟩, fun ⟨i, h⟩ => ⟨i, i, rfl, h⟩⟩ ?_))
  constructor
  · intro h m hm
    exact (hx m hm.2.1).1 (h m ⟨m, rfl, hm⟩).2
  · rintro h m ⟨i, rfl, hm⟩
    exact ⟨yn_yes (by simpa using hm.2.1), by simpa using (hx i hm.2.1).2 (h i hm)⟩
theorem up_flow {x : List Bool} {P : Nat → Prop} (hx : ∀ i, i < l.length → (yn x i = true ↔ P i)) {n : Nat} (hn : n < l.length) :
    flowS false false (noL l.length) (notL (noL l.length)) (mk l.length fun k => yn (keepL t l) k && yn (recL t l) k) (keepL t l) l x n = true ↔ (∃ m, Edge l m n) ∧ ∀ m, Edge l m n → Kp t l m ∧ (P m ∨ Rc t l m) := by
  rw [flow_iff, yn_no, yn_yes hn]
  simp only [mem_ahead hn, Bool.false_eq_true, false_or, true_and]
  refine and_congr ⟨fun ⟨m, i, e, h⟩ => ⟨i, h⟩, fun ⟨i, h⟩ => ⟨i, i, rfl, h⟩⟩ ?_
  have key : ∀ i : Nat, i < l.length → ((yn (mk l.length fun k => yn (keepL t l) k && yn (recL t l) k) i = true ∨ yn (keepL t l) i = true ∧ yn x i = true) ↔ (Kp t l i ∧ (P i ∨ Rc t l i))) := fun i hi => by
    rw [yn_mk hi, Bool.and_eq_true, yn_kp hi, yn_rc hi, hx i hi]
    constructor
    · rintro (⟨a, b⟩ | ⟨a, b⟩)
      · exact ⟨a, .inr b⟩
      · exact ⟨a, .inl b⟩
    · rintro ⟨a, b | b⟩
      · exact .inr ⟨a, b⟩
      · exact .inl ⟨a, b⟩
  constructor
  · intro h m hm
    exact (key m hm.1).1 (h m ⟨m, rfl, hm⟩)
  · rintro h m ⟨i, rfl, hm⟩
    exact (key i hm.1).2 (h i hm)
theorem delay_flow {e x : List Bool} {P : Nat → Prop} (hx : ∀ i, i < l.length → (yn x i = true ↔ P i)) {n : Nat} (hn : n < l.length) :
    flowS false false e (notL (noL l.length)) (noL l.length) (notL (recL t l)) l x n = true ↔ yn e n = true ∨ (∃ m, Edge l m n) ∧ ∀ m, Edge l m n → P m ∧ ¬ Rc t l m := by
  rw [flow_iff, yn_yes hn]
  simp only [mem_ahead hn, yn_no, Bool.false_eq_true, false_or, true_and]
  refine or_congr Iff.rfl (and_congr ⟨fun ⟨m, i, e, h⟩ => ⟨i, h⟩, fun ⟨i, h⟩ => ⟨i, i, rfl, h⟩⟩ ?_)
  constructor
  · intro h m hm
    have h1 := h m ⟨m, rfl, hm⟩
    exact ⟨(hx m hm.1).1 h1.2, (yn_nrc hm.1).1 h1.1⟩
  · rintro h m ⟨i, rfl, hm⟩
    have h1 := h i hm
    exact ⟨by simpa using (yn_nrc hm.1).2 h1.2, by simpa using (hx i hm.1).2 h1.1⟩
theorem alone_flow {f x : List Bool} {P : Nat → Prop} (hx : ∀ i, i < l.length → (yn x i = true ↔ P i)) {n : Nat} (hn : n < l.length) :
    flowS true true (noL l.length) (notL (noL l.length)) f (notL (recL t l)) l x n = true ↔ ∀ m, Edge l n m → yn f m = true ∨ ¬ Rc t l m ∧ P m := by
  rw [flow_iff, yn_no, yn_yes hn]
  simp only [mem_next, Bool.false_eq_true, false_or, true_or, true_and]
  constructor
  · intro h m hm
    exact (h m ⟨m, rfl, hm⟩).imp id fun h1 => ⟨(yn_nrc hm.2.1).1 h1.1, (hx m hm.2.1).1 h1.2⟩
  · rintro h m ⟨i, rfl, hm⟩
    exact (h i hm).imp (by simp) fun h1 => ⟨by simpa using (yn_nrc hm.2.1).2 h1.1, by simpa using (hx i hm.2.1).2 h1.2⟩
def Fx.D (F : Fx) (n : Nat) : Prop := yn F.down n = true
def Fx.U (F : Fx) (n : Nat) : Prop := yn F.up n = true
def Fx.E (F : Fx) (n : Nat) : Prop := yn F.early n = true
def Fx.Y (F : Fx) (n : Nat) : Prop := yn F.delay n = true
def Fx.L (F : Fx) (n : Nat) : Prop := yn F.late n = true
def Fx.A (F : Fx) (n : Nat) : Prop := yn F.alone n = true
theorem IsFx.downI (h : IsFx t l F) {n : Nat} (hn : n < l.length) : F.D n ↔ Rc t l n ∨ Kp t l n ∧ (∃ m, Edge l n m) ∧ ∀ m, Edge l n m → F.D m := by
  unfold Fx.D
  rw [h.down.1.2 n hn]
  exact down_flow (fun i _ => Iff.rfl) hn
theorem IsFx.upI (h : IsFx t l F) {n : Nat} (hn : n < l.length) : F.U n ↔ (∃ m, Edge l m n) ∧ ∀ m, Edge l m n → Kp t l m ∧ (F.U m ∨ Rc t l m) := by
  unfold Fx.U
  rw [h.up.1.2 n hn]
  exact up_flow (fun i _ => Iff.rfl) hn
theorem IsFx.delayI (h : IsFx t l F) {n : Nat} (hn : n < l.length) : F.Y n ↔ F.E n ∨ (∃ m, Edge l m n) ∧ ∀ m, Edge l m n → F.Y m ∧ ¬ Rc t l m := by
  unfold Fx.Y Fx.E
  rw [h.delay.1.2 n hn]
  exact delay_flow (fun i _ => Iff.rfl) hn
theorem IsFx.aloneI (h : IsFx t l F) {n : Nat} (hn : n < l.length) : F.A n ↔ ∀ m, Edge l n m → F.L m ∨ ¬ Rc t l m ∧ F.A m := by
  unfold Fx.A Fx.L
  rw [h.alone.1.2 n hn]
  exact alone_flow (fun i _ => Iff.rfl) hn
theorem IsFx.earlyI (h : IsFx t l F) {n : Nat} (hn : n < l.length) : F.E n ↔ F.D n ∧ ((¬ ∃ m, Edge l m n) ∨ ∃ m, Edge l m n ∧ (¬ Kp t l m ∨ ¬ F.D m ∧ ¬ F.U m)) := by
  have e0 : ((edgesOf false l n).length == 0) = true ↔ ¬ ∃ m, Edge l m n := by
    rw [beq_iff_eq, List.length_eq_zero_iff, List.eq_nil_iff_forall_not_mem]
    exact ⟨fun h ⟨m, hm⟩ => h m ((mem_ahead hn).2 ⟨m, rfl, hm⟩), fun h m hm => by obtain ⟨i, _, h2⟩ := (mem_ahead hn).1 hm; exact h ⟨i, h2⟩⟩
  unfold Fx.E
  rw [h.early, earlyL, yn_mk hn, Bool.and_eq_true, Bool.or_eq_true, e0, List.any_eq_true]
  refine and_congr Iff.rfl (or_congr Iff.rfl ?_)
  constructor
  · rintro ⟨m, hm, h2⟩
    obtain ⟨i, rfl, h3⟩ := (mem_ahead hn).1 hm
    simp only [Int.toNat_natCast, Bool.or_eq_true, Bool.and_eq_true, yn_bnot, yn_kp h3.1] at h2
    exact ⟨i, h3, h2⟩
  · rintro ⟨i, h3, h2⟩
    refine ⟨i, (mem_ahead hn).2 ⟨i, rfl, h3⟩, ?_⟩
    simp only [Int.toNat_natCast, Bool.or_eq_true, Bool.and_eq_true, yn_bnot, yn_kp h3.1]
    exact h2
theorem IsFx.lateI (h : IsFx t l F) {n : Nat} (hn : n < l.length) : F.L n ↔ F.Y n ∧ (Rc t l n ∨ ∃ m, Edge l n m ∧ ¬ F.Y m) := by
  unfold Fx.L
  rw [h.late, lateL, yn_mk hn, Bool.and_eq_true, Bool.or_eq_true, yn_rc hn, List.any_eq_true]
  refine and_congr Iff.rfl (or_congr Iff.rfl ?_)
  constructor
  · rintro ⟨m, hm, h2⟩
    obtain ⟨i, rfl, h3⟩ := mem_next.1 hm
    simp only [Int.toNat_natCast, yn_bnot] at h2
    exact ⟨i, h3, h2⟩
  · rintro ⟨i, h3, h2⟩
    exact ⟨i, mem_next.2 ⟨i, rfl, h3⟩, by simp only [Int.toNat_natCast, yn_bnot]; exact h2⟩
def Lone (l : List Nd) : Prop := ∀ n m, Edge l n m → (nd l n).op ≠ 0 → ∀ k, Edge l k m → k = n
theorem edge_one {l : List Nd} {n m k : Nat} (h : (nd l n).op ≠ 11) (h1 : Edge l n m) (h2 : Edge l n k) : m = k := by
  rcases leads_cases h1.2.2 with ⟨_, e1⟩ | ⟨e1, _⟩
  · rcases leads_cases h2.2.2 with ⟨_, e2⟩ | ⟨e2, _⟩
    · omega
    · exact absurd e2 h
  · exact absurd e1 h
theorem Edge.op {l : List Nd} {n m : Nat} (h : Edge l n m) : (nd l n).op ≠ 12 := by
  rcases leads_cases h.2.2 with ⟨e, _⟩ | ⟨e, _⟩
  · exact e
  · omega
theorem Edge.pos {regs : Int} {l : List Nd} (hR : Right regs l) {n m : Nat} (h : Edge l n m) : 1 ≤ m := by
  have hm := nd_mem h.1
  rcases leads_cases h.2.2 with ⟨e, e2⟩ | ⟨e, e2⟩
  · have := hR.then_ hm e; omega
  · have := hR.else_ hm e; omega
theorem kp_skip {n : Nat} (h : (nd l n).op = 0) : Kp t l n := by simp [Kp, keepB, hasD, inB, h]
theorem rc_op {n : Nat} (ht : 3 ≤ t.op ∧ t.op ≤ 8) (h : Rc t l n) : 3 ≤ (nd l n).op ∧ (nd l n).op ≤ 8 := by
  unfold Rc recB at h
  simp only [Bool.and_eq_true, beq_iff_eq] at h
  omega
variable {regs : Int}
theorem IsFx.down_next (h : IsFx t l F) {n m : Nat} (hD : F.D n) (hr : ¬ Rc t l n) (he : Edge l n m) : Kp t l n ∧ F.D m := by
  rcases (h.downI he.1).1 hD with h1 | ⟨h1, _, h2⟩
  · exact absurd h1 hr
  · exact ⟨h1, h2 m he⟩
theorem IsFx.down_skip (h : IsFx t l F) {n m : Nat} (h0 : (nd l n).op = 0) (he : Edge l n m) (hD : F.D m) : F.D n :=
  (h.downI he.1).2 (.inr ⟨kp_skip h0, ⟨m, he⟩, fun k hk => by rw [← edge_one (by omega) he hk]; exact hD⟩)
theorem IsFx.not_early (h : IsFx t l F) (hl : Lone l) {n m : Nat} (hD : F.D n) (hr : ¬ Rc t l n) (he : Edge l n m) : ¬ F.E m := fun hE => by
  obtain ⟨hk, hm⟩ := h.down_next hD hr he
  rcases ((h.earlyI he.2.1).1 hE).2 with h1 | ⟨k, h1, h2⟩
  · exact h1 ⟨n, he⟩
  · by_cases hn : (nd l n).op = 0
    · by_cases h0 : (nd l k).op = 0
      · rcases h2 with h2 | h2
        · exact h2 (kp_skip h0)
        · exact h2.1 (h.down_skip h0 h1 hm)
      · have := hl k m h1 h0 n he
        subst this
        exact h0 hn
    · have := hl n m he hn k h1
      subst this
      rcases h2 with h2 | h2
      · exact h2 hk
      · exact h2.1 hD
theorem IsFx.late_next (h : IsFx t l F) (hl : Lone l) {n m : Nat} (hL : F.L n) (hr : ¬ Rc t l n) (he : Edge l n m) : ¬ F.Y m := by
  obtain ⟨hY, h1⟩ := (h.lateI he.1).1 hL
  obtain ⟨k, h1, h2⟩ := h1.resolve_left hr
  by_cases h0 : (nd l n).op = 0
  · rw [edge_one (by omega) he h1]; exact h2
  · refine absurd ((h.delayI h1.2.1).2 (.inr ⟨⟨n, h1⟩, fun i hi => ?_⟩)) h2
    rw [hl n k h1 h0 i hi]
    exact ⟨hY, hr⟩
theorem IsFx.delay_next (h : IsFx t l F) {n m : Nat} (hY : F.Y n) (hL : ¬ F.L n) (he : Edge l n m) : ¬ Rc t l n ∧ F.Y m := by
  rw [h.lateI he.1] at hL
  refine ⟨fun hr => hL ⟨hY, .inl hr⟩, Classical.byContradiction fun hm => hL ⟨hY, .inr ⟨m, he, hm⟩⟩⟩
theorem IsFx.delay_back (h : IsFx t l F) (hl : Lone l) {n m : Nat} (hY : F.Y m) (hE : ¬ F.E m) (he : Edge l n m) : F.Y n ∧ ¬ Rc t l n ∧ ¬ F.L n := by
  obtain ⟨h1, h2⟩ := (((h.delayI he.2.1).1 hY).resolve_left hE).2 n he
  exact ⟨h1, h2, fun hL => h.late_next hl hL h2 he hY⟩
theorem IsFx.late_delay (h : IsFx t l F) {n : Nat} (hn : n < l.length) (hL : F.L n) : F.Y n := ((h.lateI hn).1 hL).1
theorem IsFx.early_delay (h : IsFx t l F) {n : Nat} (hn : n < l.length) (hE : F.E n) : F.Y n := (h.delayI hn).2 (.inl hE)
theorem IsFx.rec_down (h : IsFx t l F) {n : Nat} (hn : n < l.length) (hr : Rc t l n) : F.D n := (h.downI hn).2 (.inl hr)
theorem IsFx.end_down (h : IsFx t l F) (ht : 3 ≤ t.op ∧ t.op ≤ 8) {n : Nat} (hn : n < l.length) (h12 : (nd l n).op = 12) : ¬ F.D n := fun hD => by
  rcases (h.downI hn).1 hD with h1 | ⟨_, ⟨m, h1⟩, _⟩
  · have := rc_op ht h1; omega
  · exact h1.op h12
inductive Rch (l : List Nd) : Nat → Prop
  | zero : Rch l 0
  | next {n m : Nat} : Rch l n → Edge l n m → Rch l m
theorem IsFx.delay_down (h : IsFx t l F) (hR : Right regs l) {n : Nat} (hn : Rch l n) : F.Y n → F.D n := by
  induction hn with
  | zero =>
    intro hY
    have hlo := hR.lo
    rcases (h.delayI hlo).1 hY with h1 | ⟨⟨m, hm⟩, _⟩
    · exact ((h.earlyI hlo).1 h1).1
    · have := hm.pos hR; omega
  | next h1 he ih =>
    intro hY
    rcases (h.delayI he.2.1).1 hY with h2 | ⟨_, h2⟩
    · exact ((h.earlyI he.2.1).1 h2).1
    · obtain ⟨h3, h4⟩ := h2 _ he
      exact (h.down_next (ih h3) h4 he).2
end
end
section
open Go.RowKit
def reckV (op x y : Int) : Int := if op = 3 then wrap64 (x + y) else if op = 4 then wrap64 (x - y) else if op = 5 then wrap64 (x * y) else if op = 6 then bits .and .i64 x y else if op = 7 then bits .xor .i64 x y else if x < y then 1 else 0
def rg (r : List Int) (k : Int) : Int := r.getD k.toNat 0
theorem rg_get {r : List Int} {k : Nat} {z : Int} (h : r[k]? = some z) : rg r (k : Int) = z := by simp [rg, List.getD_eq_getElem?_getD, h]
structure Rn where
 regs : List Int
 read : Nat
 out : List Int
 ret : Int
 ended : Bool
 steps : Nat
 pos : Nat
 ts : List Tm
def stepR (l : List Nd) (inp : List Int) (s : Rn) : Rn :=
 let n := nd l s.pos
 if n.op = 1 then { s with steps := s.steps + 1, pos := n.t.toNat, regs := s.regs.set n.d.toNat n.a }
 else if n.op = 2 then { s with steps := s.steps + 1, pos := n.t.toNat, regs := s.regs.set n.d.toNat (rg s.regs n.a) }
 else if hasB n.op = true then { s with steps := s.steps + 1, pos := n.t.toNat, regs := s.regs.set n.d.toNat (reckV n.op (rg s.regs n.a) (rg s.regs n.b)), ts := s.ts ++ [n.tm] }
 else if n.op = 9 then (if s.read < inp.length then { s with steps := s.steps + 1, pos := n.t.toNat, regs := s.regs.set n.d.toNat (inp.getD s.read 0), read := s.read + 1 } else { s with steps := s.steps + 1, pos := n.t.toNat, regs := s.regs.set n.d.toNat 0 })
 else if n.op = 10 then { s with steps := s.steps + 1, pos := n.t.toNat, out := s.out ++ [rg s.regs n.a] }
 else if n.op = 11 then (if rg s.regs n.a = 0 then { s with steps := s.steps + 1, pos := n.e.toNat } else { s with steps := s.steps + 1, pos := n.t.toNat })
 else if n.op = 12 then { s with steps := s.steps + 1, pos := n.t.toNat, ret := rg s.regs n.a, ended := true }
 else { s with steps := s.steps + 1, pos := n.t.toNat }
theorem stepR_steps (l : List Nd) (inp : List Int) (s : Rn) : (stepR l inp s).steps = s.steps + 1 := by (
 unfold stepR
 simp only
 repeat' split
 all_goals rfl)
def goR (l : List Nd) (inp : List Int) : Nat → Rn → Rn
 | 0, s => s
 | k + 1, s => if s.ended = true then s else goR l inp k (stepR l inp s)
theorem goR_ended {l : List Nd} {inp : List Int} {s : Rn} (h : s.ended = true) : ∀ k, goR l inp k s = s
 | 0 => rfl
 | k + 1 => by rw [goR, if_pos h]
theorem goR_step {l : List Nd} {inp : List Int} {s : Rn} (h : s.ended = false) (k : Nat) : goR l inp (k + 1) s = goR l inp k (stepR l inp s) := by rw [goR, if_neg (by rw [h]; simp)]
def startR (regs : Int) : Rn := ⟨List.replicate regs.toNat 0, 0, [], 0, false, 0, 0, []⟩
def runR (regs : Int) (l : List Nd) (inp : List Int) (fuel : Nat) : Rn := goR l inp fuel (startR regs)
structure RnOk (regs : Int) (l : List Nd) (inp : List Int) (s : Rn) : Prop where
 regs : s.regs.length = regs.toNat
 pos : s.pos < l.length
 read : s.read ≤ inp.length
 out : s.out.length ≤ s.steps
 ts : s.ts.length ≤ s.steps
 key : ∀ t ∈ s.ts, ∃ n ∈ l, hasB n.op = true ∧ t = n.tm
theorem RnOk.start {regs : Int} {l : List Nd} {inp : List Int} (hR : Right regs l) : RnOk regs l inp (startR regs) :=
 ⟨by simp [startR], hR.lo, Nat.zero_le _, Nat.le_refl _, Nat.le_refl _, fun t ht => by cases ht⟩
theorem Right.pos_ {regs : Int} {l : List Nd} (hR : Right regs l) {n : Nd} (hn : n ∈ l) : n.t.toNat < l.length := by (
 by_cases h12 : n.op = 12
 · (
 have h := hR.frm n hn
 have h0 : n.t = 0 := by (
 simp only [badF, okF, shT, h12, Bool.or_eq_false_iff, Bool.not_eq_false', Bool.or_eq_true, beq_iff_eq] at h
 rcases h.1.2 with e | e
 · simp at e
 · exact e)
 have := hR.lo
 rw [h0]
 show 0 < l.length
 omega)
 · (
 have := hR.then_ hn h12
 omega))
theorem RnOk.step {regs : Int} {l : List Nd} {inp : List Int} {s : Rn} (hR : Right regs l) (h : RnOk regs l inp s) : RnOk regs l inp (stepR l inp s) := by (
 obtain ⟨h1, h2, h3, h4, h5, h6⟩ := h
 have hg : l[s.pos]? = some (nd l s.pos) := by rw [nd, List.getD_eq_getElem?_getD, List.getElem?_eq_getElem h2]; rfl
 have hn := List.mem_of_getElem? hg
 have hp := hR.pos_ hn
 generalize nd l s.pos = n at hg hn hp
 have hnd : nd l s.pos = n := nd_get hg
 unfold stepR
 simp only [hnd]
 split
 · exact ⟨by simpa using h1, hp, h3, Nat.le_succ_of_le h4, Nat.le_succ_of_le h5, h6⟩
 split
 · exact ⟨by simpa using h1, hp, h3, Nat.le_succ_of_le h4, Nat.le_succ_of_le h5, h6⟩
 split
 · (
 rename_i hB
 refine ⟨by simpa using h1, hp, h3, Nat.le_succ_of_le h4, by simp; omega, fun t ht => ?_⟩
 rcases List.mem_append.1 ht with e | e
 · exact h6 t e
 · exact ⟨n, hn, hB, by simpa using e⟩)
 split
 · (
 split
 · exact ⟨by simpa using h1, hp, by show s.read + 1 ≤ _; omega, Nat.le_succ_of_le h4, Nat.le_succ_of_le h5, h6⟩
 · exact ⟨by simpa using h1, hp, h3, Nat.le_succ_of_le h4, Nat.le_succ_of_le h5, h6⟩)
 split
 · exact ⟨h1, hp, h3, by simp; omega, Nat.le_succ_of_le h5, h6⟩
 split
 · (
 rename_i h11
 split
 · (
 have := hR.else_ hn h11
 exact ⟨h1, by show n.e.toNat < _; omega, h3, Nat.le_succ_of_le h4, Nat.le_succ_of_le h5, h6⟩)
 · exact ⟨h1, hp, h3, Nat.le_succ_of_le h4, Nat.le_succ_of_le h5, h6⟩)
 split
 · exact ⟨h1, hp, h3, Nat.le_succ_of_le h4, Nat.le_succ_of_le h5, h6⟩
 · exact ⟨h1, hp, h3, Nat.le_succ_of_le h4, Nat.le_succ_of_le h5, h6⟩)
end
section
open Go.RowKit
theorem stepR_out (l : List Nd) (inp : List Int) (s : Rn) : ∃ x, (stepR l inp s).out = s.out ++ x := by (
 unfold stepR
 simp only
 split
 · exact ⟨[], by simp⟩
 split
 · exact ⟨[], by simp⟩
 split
 · exact ⟨[], by simp⟩
 split
 · (
 split
 · exact ⟨[], by simp⟩
 · exact ⟨[], by simp⟩)
 split
 · exact ⟨_, rfl⟩
 split
 · (
 split
 · exact ⟨[], by simp⟩
 · exact ⟨[], by simp⟩)
 split
 · exact ⟨[], by simp⟩
 · exact ⟨[], by simp⟩)
theorem goR_add (l : List Nd) (inp : List Int) : ∀ (k m : Nat) (s : Rn), goR l inp (k + m) s = goR l inp m (goR l inp k s)
 | 0, m, s => by rw [Nat.zero_add]; rfl
 | k + 1, m, s => by (
 rw [show k + 1 + m = (k + m) + 1 by omega]
 by_cases h : s.ended = true
 · rw [goR_ended h, goR_ended h, goR_ended h]
 · (
 have h : s.ended = false := by simpa using h
 rw [goR_step h, goR_step h]
 exact goR_add l inp k m _))
theorem goR_out (l : List Nd) (inp : List Int) : ∀ (k : Nat) (s : Rn), ∃ x, (goR l inp k s).out = s.out ++ x
 | 0, s => ⟨[], by simp [goR]⟩
 | k + 1, s => by (
 by_cases h : s.ended = true
 · rw [goR_ended h]; exact ⟨[], by simp⟩
 · (
 have h : s.ended = false := by simpa using h
 rw [goR_step h]
 obtain ⟨x, hx⟩ := goR_out l inp k (stepR l inp s)
 obtain ⟨y, hy⟩ := stepR_out l inp s
 exact ⟨y ++ x, by rw [hx, hy, List.append_assoc]⟩))
def chV (c n : Int) : Int := (if c < 0 then -(c + 1) else c) % n
theorem chV_in (c : Int) {n : Int} (hn : 0 < n) : 0 ≤ chV c n ∧ chV c n < n := ⟨Int.emod_nonneg _ (by omega), Int.emod_lt_of_pos _ hn⟩
theorem Right.chk {regs : Int} {l : List Nd} (h : Right regs l) : chk regs l = 0 := by (
 obtain ⟨h1, h2, h3, h4, h5, h6, h7⟩ := h
 unfold Go.Proofs.YtmghkonmfbpjcaaGreatDoor.chk
 rw [if_neg (by omega), if_neg, if_neg, if_neg]
 · (
 simp only [List.any_eq_true, not_exists, not_and]
 intro n hn; rw [h7 n hn]; simp)
 · (
 simp only [List.any_eq_true, not_exists, not_and]
 intro n hn; rw [h6 n hn]; simp)
 · (
 simp only [List.any_eq_true, not_exists, not_and]
 intro n hn; rw [h5 n hn]; simp))
end
section
open Go.RowKit
def sumR (l : List Nd) (inp : List Int) (c : Nat → Nat) : Nat → Rn → Nat
  | 0, _ => 0
  | k + 1, s => if s.ended = true then 0 else c s.pos + sumR l inp c k (stepR l inp s)
theorem sumR_ended {l : List Nd} {inp : List Int} {c : Nat → Nat} {s : Rn} (h : s.ended = true) : ∀ k, sumR l inp c k s = 0
  | 0 => rfl
  | k + 1 => by rw [sumR, if_pos h]
theorem sumR_step {l : List Nd} {inp : List Int} {c : Nat → Nat} {s : Rn} (h : s.ended = false) (k : Nat) : sumR l inp c (k + 1) s = c s.pos + sumR l inp c k (stepR l inp s) := by rw [sumR, if_neg (by rw [h]; simp)]
theorem sr_pos (l : List Nd) (inp : List Int) (s : Rn) : ((stepR l inp s).pos = (nd l s.pos).t.toNat ∨ (nd l s.pos).op = 11 ∧ (stepR l inp s).pos = (nd l s.pos).e.toNat) ∧ ((stepR l inp s).ended = false → (nd l s.pos).op ≠ 12) ∧ ((stepR l inp s).ended = true → s.ended = true ∨ (nd l s.pos).op = 12) ∧ ((nd l s.pos).op ≠ 11 → (stepR l inp s).pos = (nd l s.pos).t.toNat) := by
  have hB : hasB (nd l s.pos).op = true → (nd l s.pos).op ≠ 12 := fun h e => by rw [e] at h; exact absurd h (by decide)
  unfold stepR
  generalize nd l s.pos = n at hB ⊢
  simp only
  repeat' split
  all_goals first
    | exact ⟨.inl rfl, fun _ => by omega, fun h => .inl h, fun _ => rfl⟩
    | exact ⟨.inl rfl, fun _ => hB (by assumption), fun h => .inl h, fun _ => rfl⟩
    | exact ⟨.inr ⟨by assumption, rfl⟩, fun _ => by omega, fun h => .inl h, fun h => absurd (by assumption) h⟩
    | exact ⟨.inl rfl, fun h => by simp at h, fun h => .inr (by assumption), fun _ => rfl⟩
theorem sr_edge {regs : Int} {l : List Nd} (hR : Right regs l) {inp : List Int} {s : Rn} (hp : s.pos < l.length) (he : (stepR l inp s).ended = false) : Edge l s.pos (stepR l inp s).pos := by
  obtain ⟨h1, h2, _, _⟩ := sr_pos l inp s
  have h12 := h2 he
  have hm := nd_mem hp
  rcases h1 with h1 | ⟨h11, h1⟩
  · have := hR.then_ hm h12
    exact ⟨hp, by rw [h1]; omega, by rw [h1, Int.toNat_of_nonneg (by omega)]; exact leads_then h12⟩
  · have := hR.else_ hm h11
    exact ⟨hp, by rw [h1]; omega, by rw [h1, Int.toNat_of_nonneg (by omega)]; exact leads_else h11⟩
section
variable {regs : Int} {l : List Nd} {inp : List Int}
theorem scan_le (hR : Right regs l) {Q : Nat → Prop} {A B p : Nat → Nat} (hend : ∀ n, n < l.length → (nd l n).op = 12 → Q n → p n = 0) (hst : ∀ n m, Edge l n m → Q n → Q m ∧ A m + p n ≤ B m + p m) :
    ∀ (k : Nat) (s : Rn) (q : Nat), s.ended = false → s.pos < l.length → Q s.pos → A s.pos + q ≤ B s.pos + p s.pos → (goR l inp k s).ended = true → sumR l inp A k s + q ≤ sumR l inp B k s
  | 0, s, q, he, _, _, _, h => by rw [goR] at h; rw [he] at h; cases h
  | k + 1, s, q, he, hp, hQ, hq, h => by
    rw [goR_step he] at h
    rw [sumR_step he, sumR_step he]
    by_cases h2 : (stepR l inp s).ended = true
    · rw [sumR_ended h2, sumR_ended h2]
      have h12 := ((sr_pos l inp s).2.2.1 h2).resolve_left (by rw [he]; simp)
      have := hend _ hp h12 hQ
      omega
    · have h2 : (stepR l inp s).ended = false := by simpa using h2
      have hE := sr_edge hR hp h2
      obtain ⟨h3, h4⟩ := hst _ _ hE hQ
      have := scan_le hR hend hst k _ (p s.pos) h2 hE.2.1 h3 h4 h
      omega
theorem scan_in (hR : Right regs l) {Q : Nat → Prop} {A B p : Nat → Nat} (hst : ∀ n m, Edge l n m → Q n → Q m ∧ A m + p m ≤ B m + p n) :
    ∀ (k : Nat) (s : Rn) (q : Nat), s.pos < l.length → Q s.pos → A s.pos + p s.pos ≤ B s.pos + q → sumR l inp A k s ≤ sumR l inp B k s + q
  | 0, s, q, _, _, _ => by simp [sumR]
  | k + 1, s, q, hp, hQ, hq => by
    by_cases he : s.ended = true
    · rw [sumR_ended he, sumR_ended he]; omega
    have he : s.ended = false := by simpa using he
    rw [sumR_step he, sumR_step he]
    by_cases h2 : (stepR l inp s).ended = true
    · rw [sumR_ended h2, sumR_ended h2]; omega
    · have h2 : (stepR l inp s).ended = false := by simpa using h2
      have hE := sr_edge hR hp h2
      obtain ⟨h3, h4⟩ := hst _ _ hE hQ
      have := scan_in hR hst k _ (p s.pos) hE.2.1 h3 h4
      omega
theorem sum_mono {A B : Nat → Nat} (hR : Right regs l) (h : ∀ n, n < l.length → A n ≤ B n) : ∀ (k : Nat) (s : Rn), s.pos < l.length → sumR l inp A k s ≤ sumR l inp B k s := fun k s hp => by
  have := scan_in (inp := inp) hR (Q := fun _ => True) (A := A) (B := B) (p := fun _ => 0) (fun n m he _ => ⟨trivial, by have := h m he.2.1; omega⟩) k s 0 hp trivial (by have := h _ hp; omega)
  omega
end
def costP (t : Tm) (l : List Nd) (pt tk : List Bool) (n : Nat) : Nat := (yn pt n).toNat + (recB t (nd l n) && !yn tk n).toNat
def costR (t : Tm) (l : List Nd) (n : Nat) : Nat := (recB t (nd l n)).toNat
def costE (F : Fx) (n : Nat) : Nat := (yn F.early n).toNat
def costL (F : Fx) (n : Nat) : Nat := (yn F.late n).toNat
section
variable {regs : Int} {t : Tm} {l : List Nd} {F : Fx} {inp : List Int}
theorem yes1 {b : Bool} (h : b = true) : b.toNat = 1 := by rw [h]; rfl
theorem yes0 {b : Bool} (h : ¬ b = true) : b.toNat = 0 := by simp at h; rw [h]; rfl
theorem yno {b : Bool} (h : ¬ b = true) : b = false := by simpa using h
theorem yesle (b : Bool) : b.toNat ≤ 1 := by cases b <;> decide
open Classical in
noncomputable def oneIf (P : Prop) : Nat := if P then 1 else 0
theorem oneIf_yes {P : Prop} (h : P) : oneIf P = 1 := if_pos h
theorem oneIf_no {P : Prop} (h : ¬ P) : oneIf P = 0 := if_neg h
theorem oneIf_b (b : Bool) : b.toNat = oneIf (b = true) := by cases b <;> simp [oneIf]
theorem early_le_rec (h : IsFx t l F) (hR : Right regs l) (hl : Lone l) (ht : 3 ≤ t.op ∧ t.op ≤ 8) (k : Nat) (he : (goR l inp k (startR regs)).ended = true) :
    sumR l inp (costE F) k (startR regs) ≤ sumR l inp (costR t l) k (startR regs) := by
  have hlo := hR.lo
  have key := scan_le (inp := inp) hR (Q := fun _ => True) (A := costE F) (B := costR t l) (p := fun n => oneIf (F.D n ∧ ¬ Rc t l n)) (fun n hn h12 _ => oneIf_no fun hD => h.end_down ht hn h12 hD.1)
    (fun n m hE _ => ⟨trivial, by
      unfold costE costR
      rw [oneIf_b, oneIf_b]
      show oneIf (F.E m) + _ ≤ oneIf (Rc t l m) + _
      by_cases hd : F.D n ∧ ¬ Rc t l n
      · have h1 := h.not_early hl hd.1 hd.2 hE
        have h2 := (h.down_next hd.1 hd.2 hE).2
        rw [oneIf_no h1, oneIf_yes hd]
        by_cases hr : Rc t l m
        · rw [oneIf_yes hr]; omega
        · rw [oneIf_yes (P := F.D m ∧ ¬ Rc t l m) ⟨h2, hr⟩]; omega
      · rw [oneIf_no hd]
        by_cases h1 : F.E m
        · have h2 := ((h.earlyI hE.2.1).1 h1).1
          rw [oneIf_yes h1]
          by_cases hr : Rc t l m
          · rw [oneIf_yes hr]; omega
          · rw [oneIf_yes (P := F.D m ∧ ¬ Rc t l m) ⟨h2, hr⟩]; omega
        · rw [oneIf_no h1]; omega⟩) k (startR regs) 0 rfl (by show 0 < l.length; omega) trivial (by
      unfold costE costR
      rw [oneIf_b, oneIf_b]
      show oneIf (F.E 0) + _ ≤ oneIf (Rc t l 0) + oneIf (F.D 0 ∧ ¬ Rc t l 0)
      by_cases h1 : F.E 0
      · have h2 := ((h.earlyI hlo).1 h1).1
        rw [oneIf_yes h1]
        by_cases hr : Rc t l 0
        · rw [oneIf_yes hr]; omega
        · rw [oneIf_yes (P := F.D 0 ∧ ¬ Rc t l 0) ⟨h2, hr⟩]; omega
      · rw [oneIf_no h1]; omega) he
  omega
theorem early_le_late (h : IsFx t l F) (hR : Right regs l) (hl : Lone l) (ht : 3 ≤ t.op ∧ t.op ≤ 8) (k : Nat) (he : (goR l inp k (startR regs)).ended = true) :
    sumR l inp (costE F) k (startR regs) ≤ sumR l inp (costL F) k (startR regs) := by
  have hlo := hR.lo
  have base : ∀ m, m < l.length → Rch l m → oneIf (F.E m) ≤ oneIf (F.L m) + oneIf (F.Y m ∧ ¬ F.L m) := fun m hm hr => by
    by_cases h1 : F.E m
    · rw [oneIf_yes h1]
      by_cases h2 : F.L m
      · rw [oneIf_yes h2]; omega
      · rw [oneIf_yes (P := F.Y m ∧ ¬ F.L m) ⟨h.early_delay hm h1, h2⟩]; omega
    · rw [oneIf_no h1]; omega
  have key := scan_le (inp := inp) hR (Q := Rch l) (A := costE F) (B := costL F) (p := fun n => oneIf (F.Y n ∧ ¬ F.L n)) (fun n hn h12 hr => oneIf_no fun hY => h.end_down ht hn h12 (h.delay_down hR hr hY.1))
    (fun n m hE hr => ⟨hr.next hE, by
      unfold costE costL
      rw [oneIf_b, oneIf_b]
      show oneIf (F.E m) + oneIf (F.Y n ∧ ¬ F.L n) ≤ oneIf (F.L m) + oneIf (F.Y m ∧ ¬ F.L m)
      by_cases hY : F.Y n ∧ ¬ F.L n
      · obtain ⟨h1, h2⟩ := h.delay_next hY.1 hY.2 hE
        have h3 := h.not_early hl (h.delay_down hR hr hY.1) h1 hE
        rw [oneIf_no h3, oneIf_yes hY]
        by_cases h4 : F.L m
        · rw [oneIf_yes h4]; omega
        · rw [oneIf_yes (P := F.Y m ∧ ¬ F.L m) ⟨h2, h4⟩]; omega
      · rw [oneIf_no hY]
        exact base m hE.2.1 (hr.next hE)⟩) k (startR regs) 0 rfl (by show 0 < l.length; omega) Rch.zero (by
      unfold costE costL
      rw [oneIf_b, oneIf_b]
      exact base 0 hlo Rch.zero) he
  omega
theorem late_le_early (h : IsFx t l F) (hR : Right regs l) (hl : Lone l) (k : Nat) :
    sumR l inp (costL F) k (startR regs) ≤ sumR l inp (costE F) k (startR regs) := by
  have hlo := hR.lo
  have key := scan_in (inp := inp) hR (Q := Rch l) (A := costL F) (B := costE F) (p := fun n => oneIf (F.Y n ∧ ¬ F.L n))
    (fun n m hE hr => ⟨hr.next hE, by
      unfold costE costL
      rw [oneIf_b, oneIf_b]
      show oneIf (F.L m) + oneIf (F.Y m ∧ ¬ F.L m) ≤ oneIf (F.E m) + oneIf (F.Y n ∧ ¬ F.L n)
      by_cases hY : F.Y m
      · have h0 : oneIf (F.E m) + oneIf (F.Y n ∧ ¬ F.L n) ≥ 1 := by
          by_cases h1 : F.E m
          · rw [oneIf_yes h1]; omega
          · obtain ⟨h2, _, h3⟩ := h.delay_back hl hY h1 hE
            rw [oneIf_yes (P := F.Y n ∧ ¬ F.L n) ⟨h2, h3⟩]; omega
        by_cases h4 : F.L m
        · rw [oneIf_yes h4, oneIf_no (fun h5 => h5.2 h4)]; omega
        · rw [oneIf_no h4, oneIf_yes (P := F.Y m ∧ ¬ F.L m) ⟨hY, h4⟩]; omega
      · rw [oneIf_no (fun hL => hY (h.late_delay hE.2.1 hL)), oneIf_no (fun h5 => hY h5.1)]; omega⟩) k (startR regs) 0 (by show 0 < l.length; omega) Rch.zero (by
      unfold costE costL
      rw [oneIf_b, oneIf_b]
      show oneIf (F.L 0) + oneIf (F.Y 0 ∧ ¬ F.L 0) ≤ oneIf (F.E 0) + 0
      by_cases hY : F.Y 0
      · have h1 : F.E 0 := Classical.byContradiction fun h1 => by
          obtain ⟨m, hm⟩ := (((h.delayI hlo).1 hY).resolve_left h1).1
          have := hm.pos hR
          omega
        rw [oneIf_yes h1]
        by_cases h4 : F.L 0
        · rw [oneIf_yes h4, oneIf_no (fun h5 => h5.2 h4)]; omega
        · rw [oneIf_no h4, oneIf_yes (P := F.Y 0 ∧ ¬ F.L 0) ⟨hY, h4⟩]; omega
      · rw [oneIf_no (fun hL => hY (h.late_delay hlo hL)), oneIf_no (fun h5 => hY h5.1)]; omega)
  omega
def Stuck (t : Tm) (l : List Nd) (F : Fx) (n : Nat) : Prop := F.D n ∧ ¬ Rc t l n ∧ F.A n ∧ (F.L n ∨ ¬ F.Y n)
theorem Stuck.next (h : IsFx t l F) (hl : Lone l) {n m : Nat} (hs : Stuck t l F n) (hE : Edge l n m) : Stuck t l F m ∧ ¬ F.Y m := by
  obtain ⟨h1, h2, h3, h4⟩ := hs
  have hD := (h.down_next h1 h2 hE).2
  have hY : ¬ F.Y m := fun hY => by
    obtain ⟨a, _, b⟩ := h.delay_back hl hY (h.not_early hl h1 h2 hE) hE
    rcases h4 with h4 | h4
    · exact b h4
    · exact h4 a
  rcases (h.aloneI hE.1).1 h3 m hE with h5 | ⟨h5, h6⟩
  · exact absurd (h.late_delay hE.2.1 h5) hY
  · exact ⟨⟨hD, h5, h6, .inr hY⟩, hY⟩
theorem late_le_lazy (h : IsFx t l F) (hR : Right regs l) (hl : Lone l) (ht : 3 ≤ t.op ∧ t.op ≤ 8) {pt tk : List Bool} (hp : ∀ n, n < l.length → yn pt n = (yn F.late n && !yn F.alone n)) (hk : ∀ n, n < l.length → yn tk n = (recB t (nd l n) && (!yn F.late n || !yn F.alone n)))
    (k : Nat) (he : (goR l inp k (startR regs)).ended = true) : sumR l inp (costL F) k (startR regs) ≤ sumR l inp (costP t l pt tk) k (startR regs) := by
  have hlo := hR.lo
  have base : ∀ m, m < l.length → Rch l m → costL F m ≤ costP t l pt tk m + oneIf (Stuck t l F m) := fun m hm hr => by
    unfold costL costP
    rw [hp m hm, hk m hm]
    by_cases h1 : F.L m
    · by_cases h2 : F.A m
      · by_cases h3 : Rc t l m
        · have e1 : yn F.late m = true := h1
          have e2 : yn F.alone m = true := h2
          have e3 : recB t (nd l m) = true := h3
          rw [e1, e2, e3]
          simp
        · rw [oneIf_yes (P := Stuck t l F m) ⟨h.delay_down hR hr (h.late_delay hm h1), h3, h2, .inl h1⟩]
          have := yesle (yn F.late m)
          omega
      · have e1 : yn F.late m = true := h1
        have e2 : yn F.alone m = false := yno h2
        rw [e1, e2]
        simp
    · have e1 : yn F.late m = false := yno h1
      rw [e1]
      simp
  have key := scan_le (inp := inp) hR (Q := Rch l) (A := costL F) (B := costP t l pt tk) (p := fun n => oneIf (Stuck t l F n)) (fun n hn h12 hr => oneIf_no fun hS => h.end_down ht hn h12 hS.1)
    (fun n m hE hr => ⟨hr.next hE, by
      show costL F m + oneIf (Stuck t l F n) ≤ costP t l pt tk m + oneIf (Stuck t l F m)
      by_cases hS : Stuck t l F n
      · obtain ⟨h1, h2⟩ := hS.next h hl hE
        have h3 : costL F m = 0 := yes0 fun e => h2 (h.late_delay hE.2.1 e)
        rw [oneIf_yes hS, oneIf_yes h1, h3]
        omega
      · rw [oneIf_no hS]
        exact base m hE.2.1 (hr.next hE)⟩) k (startR regs) 0 rfl (by show 0 < l.length; omega) Rch.zero (base 0 hlo Rch.zero) he
  omega
theorem lazy_le_late (hR : Right regs l) {pt tk : List Bool} (hp : ∀ n, n < l.length → yn pt n = (yn F.late n && !yn F.alone n)) (hk : ∀ n, n < l.length → yn tk n = (recB t (nd l n) && (!yn F.late n || !yn F.alone n))) (k : Nat) :
    sumR l inp (costP t l pt tk) k (startR regs) ≤ sumR l inp (costL F) k (startR regs) := by
  have hlo := hR.lo
  refine sum_mono hR (fun n hn => ?_) k _ (by show 0 < l.length; omega)
  unfold costP costL
  rw [hp n hn, hk n hn]
  cases yn F.late n <;> cases yn F.alone n <;> cases recB t (nd l n) <;> decide
end
end
section
open Go.RowKit
set_option maxHeartbeats 4000000
attribute [local irreducible] Row madeCells
theorem infoBoolG : (Tryz.prog.info? 4).map (fun i => (i.zero, i.size, i.bytes)) = some (some (.bool false), 1, 1) := by kernel_rfl
def BoolPost (t : TypeId) (x : List Bool) (w : World) (e : Ending) (w' : World) : Prop := ∃ v, e = .returned v ∧ Row w' w.heap.size t v (bools x) ∧ Below w.heap.size w w'
theorem Row.bool_at_ {w : World} {B g : Nat} {e : TypeId} {n c : Nat} {x : List Bool} (h : Row w B e (.slice (some ⟨g, 0, none⟩) n c) (bools x)) {k : Nat} (hk : k < x.length) :
 w.cell? ⟨g, k, none⟩ = some (.bool (yn x k)) ∧ w.frozen? ⟨g, k, none⟩ = false := by (
 obtain ⟨g0, o0, cp0, e0, _, _, cx, fx⟩ := h.bool hk
 injection e0 with e0 e1 e2
 injection e0 with e0
 injection e0 with e0 e3
 subst e0 e3
 rw [Nat.zero_add] at cx fx
 exact ⟨cx, fx⟩)
theorem Row.setb0 {w : World} {B : Nat} {e : TypeId} {g n cap : Nat} {x : List Bool} (h : Row w B e (.slice (some ⟨g, 0, none⟩) n cap) (bools x)) (k : Nat) (b : Bool) :
 Row (w.setCell ⟨g, k, none⟩ (.bool b)) B e (.slice (some ⟨g, 0, none⟩) n cap) (bools (x.set k b)) := by (
 have := h.setb k b
 rwa [Nat.zero_add] at this)
end
section
open Go.RowKit
set_option maxHeartbeats 2000000
attribute [local irreducible] Row madeCells
def SaysAt (P : Program) (F : FuncId) (caps : Array Value) (w : World) (k : Int) (b : Bool) : Prop :=
 ∀ W, Below w.heap.size w W → Calls P F (#[.int .i64 k] ++ caps) W fun e W' => e = .returned (.bool b) ∧ Below W.heap.size W W'
theorem idxSome_any (F : FuncId) (caps : Array Value) (p : Int → Bool) (S : Option Addr) (xs : List Int) (cap : Nat) (w : World) (hl : xs.length ≤ maxLen) (hS : ValsAt w S (ints xs))
 (hE : ∀ W args, (callFunc F args).run Tryz.prog W = .ok (.enter F args) W) (hF : ∀ m ∈ xs, SaysAt Tryz.prog F caps w m (p m)) :
 Calls Tryz.prog 158 #[.slice S xs.length cap, .func (.func F) #[] caps] w (IdxPost (xs.any p) w) := by (
 unfold maxLen at hl
 go_enter Tryz.func158, Tryz.ntmps158
 go_wp2
 go_loopw [8] (fun i wr => ∃ k : Nat, k ≤ xs.length ∧ i = .int .i64 k ∧ (xs.take k).any p = false ∧ Below w.heap.size w wr) (fun i _ => xs.length - (intOf i).toNat)
 case atStart => exact ⟨0, Nat.zero_le _, rfl, by simp, Below.refl _ _⟩
 case round => (
 obtain ⟨k, hk, rfl, hno, hbr⟩ := hrel
 have hzr := hbr.size
 have Hno := hide hno
 clear hno
 by_cases hlt : k < xs.length
 · (
 obtain ⟨b, off, v, rfl, hbl, hkn, hn⟩ := hS.get (k := k) (by rw [ints_length]; exact hlt)
 obtain ⟨s, hs, hv⟩ : ∃ s, xs[k]? = some s ∧ Value.int .i64 s = v := by simpa [ints] using hkn
 subst hv
 clear hkn
 have Hkn := hide hs
 have hm : s ∈ xs := List.mem_of_getElem? hs
 have c0 := ((bcell hbr).1 _ _ hbl).trans hn
 have hp := hF s hm wr hbr
 have Hp := hide hp
 clear hp hs
 have hbw : b < wr.heap.size := by omega
 go_wp2_with fail
 refine (Hp.out).mono ?_
 rintro e w1 ⟨rfl, hb1⟩
 have hbr1 := hbr.trans (hb1.mono hzr)
 cases ho : p s
 · (
 go_wp2_with fail
 go_roundw
 case rel => exact ⟨k + 1, by omega, by go_num, by rw [any_take_succ _ xs k s Hkn.out, Hno.out]; simp [ho], hbr1⟩
 case measure => simp [intOf]; omega)
 · (
 go_wp2_with fail
 go_ret
 exact ⟨k, rfl, by rw [any_of_take _ xs k s Hkn.out ho]; simp, hbr1⟩))
 · (
 go_wp2
 go_ret
 exact ⟨-1, rfl, by rw [← any_take_all _ xs k hlt, Hno.out]; rfl, hbr⟩)))
theorem anySome_any (F : FuncId) (caps : Array Value) (p : Int → Bool) (S : Option Addr) (xs : List Int) (cap : Nat) (w : World) (hl : xs.length ≤ maxLen) (hS : ValsAt w S (ints xs))
 (hE : ∀ W args, (callFunc F args).run Tryz.prog W = .ok (.enter F args) W) (hF : ∀ m ∈ xs, SaysAt Tryz.prog F caps w m (p m)) :
 Calls Tryz.prog 130 #[.slice S xs.length cap, .func (.func F) #[] caps] w fun e w' => e = .returned (.bool (xs.any p)) ∧ Below w.heap.size w w' := by (
 have h := idxSome_any F caps p S xs cap w hl hS hE hF
 have H := hide h
 clear h hF hS
 generalize xs.any p = q at *
 go_enter Tryz.func130, Tryz.ntmps130
 go_wp2_with (go_at_call 158; refine (H.out).mono ?_; rintro e w1 ⟨r, rfl, hr, hb1⟩)
 go_ret
 exact ⟨by rw [← hr]; rfl, hb1⟩)
theorem some_any (F : FuncId) (caps : Array Value) (p : Int → Bool) (S : Option Addr) (xs : List Int) (cap : Nat) (w : World) (hl : xs.length ≤ maxLen) (hS : ValsAt w S (ints xs))
 (hE : ∀ W args, (callFunc F args).run Tryz.prog W = .ok (.enter F args) W) (hF : ∀ m ∈ xs, SaysAt Tryz.prog F caps w m (p m)) :
 Calls Tryz.prog 83 #[.slice S xs.length cap, .func (.func F) #[] caps] w fun e w' => e = .returned (.bool (xs.any p)) ∧ Below w.heap.size w w' := by (
 have H := hide (anySome_any F caps p S xs cap w hl hS hE hF)
 clear hF hS
 generalize xs.any p = q at *
 go_enter Tryz.func83, Tryz.ntmps83
 go_wp2_with (go_at_call 130; refine (H.out).mono ?_; rintro e w1 ⟨rfl, hb1⟩)
 go_ret
 exact ⟨rfl, hb1⟩)
theorem each_any (F : FuncId) (caps : Array Value) (f : Nat → Bool) (regs : Int) (A : Option Addr) (n cap : Nat) (w : World) (hn : n ≤ 65536)
 (hE : ∀ W args, (callFunc F args).run Tryz.prog W = .ok (.enter F args) W) (hF : ∀ k : Nat, k < n → SaysAt Tryz.prog F caps w k (f k)) :
 Calls Tryz.prog 75 #[.agg #[.int .i64 regs, .slice A n cap], .func (.func F) #[] caps] w (BoolPost 4 (mk n f) w) := by (
 obtain ⟨ib, hbi, hbz, hbs, hbb⟩ := info_parts infoBoolG
 have hmk := run_make1 (P := Tryz.prog) 70 4 ib _ 1 Tryz.underlying70 hbi hbz hbs hbb (by omega) rfl n (by omega)
 go_enter Tryz.func75, Tryz.ntmps75
 go_wp2_with fail
 go_loopg [13] (n) (fun gk i wr => ∃ k : Nat, k ≤ n ∧ i = .int .i64 k ∧ gk = n - k ∧ ∃ x : List Bool, x.length = n ∧ (∀ j, j < k → yn x j = f j) ∧ Row wr w.heap.size 4 (.slice (some ⟨w.heap.size + 1, 0, none⟩) n n) (bools x) ∧ Below w.heap.size w wr)
 case atStart => exact ⟨0, Nat.zero_le _, rfl, rfl, List.replicate n false, by simp, fun j hj => by omega, by rw [bools, List.map_replicate]; exact (by repeat (first | ((with_reducible refine Row.made1' ?_ ?_ ?_); exact (by (try simp only [Sz]); first | done | omega | (try simp only [Sz] at *); omega); exact (by (try simp only [Sz]); first | done | omega | (try simp only [Sz] at *); omega); exact (by (try simp only [Sz]); first | done | omega | (try simp only [Sz] at *); omega)) | (with_reducible refine Row.drew ?_) | (with_reducible refine Row.drewN ?_ _) | (with_reducible refine Row.alloc ?_ _) | with_reducible assumption)), (by (with_reducible repeat first | apply Qa | assumption | apply Qb | apply Qc | apply Qd | apply Qe | refine Qf ?_ (by assumption) ?_); all_goals (try simp only [Sz]); first | done | omega | (try simp only [Sz] at *); omega)⟩
 case round => (
 obtain ⟨k, hk, rfl, hgk, x, hxl, hxf, hR, hB⟩ := hrel
 have Hgk := hide hgk
 have Hxf := hide hxf
 have hxlt := (hR.lt _ rfl).2
 clear hgk hxf hmk
 by_cases hlt : k < n
 · (
 have hp := hF k hlt wr hB
 have Hp := hide hp
 have HF := hide hF
 have HR := hide hR
 clear hp hF hR
 have u0 : (0 : Int) ≤ (k : Int) := by omega
 have u1 : (k : Int) < (n : Int) := by omega
 go_wp2_with fail
 refine (Hp.out).mono ?_
 rintro e w1 ⟨rfl, hb1⟩
 have hR1 := HR.out.below' hb1
 obtain ⟨g0, o0, cp0, e0, _, _, cx, fx⟩ := hR1.bool (k := k) (by rw [hxl]; exact hlt)
 injection e0 with e0 e1 e2
 injection e0 with e0
 injection e0 with e0 e3
 subst e0 e3
 simp only [Nat.zero_add] at cx fx
 clear e1 e2
 have hz1 := hb1.size
 have hx1 := Nat.lt_of_lt_of_le hxlt hz1
 have HR1 := hide hR1
 clear hR1
 go_wp2_with fail
 go_roundg (n - (k + 1))
 case measure => have := Hgk.out; omega
 case rel => (
 have hs := HR1.out.setb k (f k)
 rw [Nat.zero_add] at hs
 refine ⟨k + 1, by omega, by go_num, rfl, x.set k (f k), by simpa using hxl, fun j hj => ?_, hs, (hB.trans (hb1.mono hB.size)).setCell (by simp <;> omega) _⟩
 rw [yn_set _ _ _ _ (by rw [hxl]; exact hlt)]
 split
 · rename_i e; rw [e]
 · exact Hxf.out j (by omega)))
 · (
 have hkk : k = n := by omega
 subst hkk
 have hxe : x = mk k f := ext_yn (by rw [mk_len, hxl]) fun j hj => by rw [Hxf.out j (by omega), yn_mk (by omega)]
 subst hxe
 have HR := hide hR
 clear hR
 go_wp2_with fail
 go_ret
 exact ⟨_, rfl, HR.out, hB⟩)))
end
section
open Go.RowKit
set_option maxHeartbeats 2000000
attribute [local irreducible] Row madeCells
def tmA (t : Tm) : Array Value := #[.int .i64 t.op, .int .i64 t.a, .int .i64 t.b]
theorem of1_says (regs : Int) (A : Option Addr) (l : List Nd) (cap P T : Nat) (t : Tm) (w : World) (hP : Blk w P 24 #[.int .i64 regs, .slice A l.length cap]) (hT : Blk w T 41 (tmA t)) (hA : NodesAt w A l) {k : Nat} (hk : k < l.length) :
 SaysAt Tryz.prog 76 #[.pointer (some ⟨P, 0, none⟩), .pointer (some ⟨T, 0, none⟩)] w k (recB t (nd l k)) := by (
 intro W hW
 obtain ⟨b, off, n, rfl, hb, hn, hl⟩ := (hA.below hW).get hk
 rw [nd_get hn]
 obtain ⟨c0, c1, c2, c3, c4, c5⟩ := hl
 have hP' := hP.below hW hP.lt
 have hT' := hT.below hW hT.lt
 have p1 := hP'.cell 1
 have t0 := hT'.cell 0
 have t1 := hT'.cell 1
 have t2 := hT'.cell 2
 have lp := hP'.lt
 have lt := hT'.lt
 simp only [tmA, Yl] at p1 t0 t1 t2
 have u0 : (0 : Int) ≤ (k : Int) := by omega
 have u1 : (k : Int) < (l.length : Int) := by omega
 clear hP hT hP' hT' hA hn hW
 show Calls Tryz.prog 76 #[.int .i64 k, .pointer (some ⟨P, 0, none⟩), .pointer (some ⟨T, 0, none⟩)] W _
 unfold recB
 cases h1 : (n.op == t.op)
 · (
 go_enter Tryz.func76, Tryz.ntmps76
 go_wp2_with fail
 go_quiet (fail)
 go_wp2_with fail
 go_ret
 exact ⟨rfl, below_drewN (Below.refl _ _) _⟩)
 · (
 cases h2 : (n.a == t.a)
 · (
 go_enter Tryz.func76, Tryz.ntmps76
 go_wp2_with fail
 go_quiet (fail)
 go_wp2_with fail
 go_ret
 exact ⟨rfl, below_drewN (Below.refl _ _) _⟩)
 · (
 go_enter Tryz.func76, Tryz.ntmps76
 go_wp2_with fail
 go_quiet (fail)
 go_wp2_with fail
 go_ret
 exact ⟨by simp, below_drewN (Below.refl _ _) _⟩)))
theorem of2_says (regs : Int) (A : Option Addr) (l : List Nd) (cap P T : Nat) (t : Tm) (w : World) (hP : Blk w P 24 #[.int .i64 regs, .slice A l.length cap]) (hT : Blk w T 41 (tmA t)) (hA : NodesAt w A l) {k : Nat} (hk : k < l.length) :
 SaysAt Tryz.prog 77 #[.pointer (some ⟨P, 0, none⟩), .pointer (some ⟨T, 0, none⟩)] w k (keepB t (nd l k)) := by (
 intro W hW
 obtain ⟨b, off, n, rfl, hb, hn, hl⟩ := (hA.below hW).get hk
 rw [nd_get hn]
 obtain ⟨c0, c1, c2, c3, c4, c5⟩ := hl
 have hP' := hP.below hW hP.lt
 have hT' := hT.below hW hT.lt
 have p1 := hP'.cell 1
 have t0 := hT'.cell 0
 have t1 := hT'.cell 1
 have t2 := hT'.cell 2
 have lp := hP'.lt
 have lt := hT'.lt
 simp only [tmA, Yl] at p1 t0 t1 t2
 have u0 : (0 : Int) ≤ (k : Int) := by omega
 have u1 : (k : Int) < (l.length : Int) := by omega
 have hd : hasD n.op = !(decide (n.op < 1) || decide (9 < n.op)) := by (
 unfold hasD inB
 rw [Bool.eq_iff_iff]
 simp <;> omega)
 have Hd := hide hd
 clear hP hT hP' hT' hA hn hW hd
 show Calls Tryz.prog 77 #[.int .i64 k, .pointer (some ⟨P, 0, none⟩), .pointer (some ⟨T, 0, none⟩)] W _
 unfold keepB
 rw [Hd.out]
 by_cases h1 : n.op < 1
 · (
 have d1 : decide (n.op < 1) = true := by simp [h1]
 rw [d1]
 clear h1
 go_enter Tryz.func77, Tryz.ntmps77
 go_wp2
 go_ret
 exact ⟨rfl, (by (with_reducible repeat first | apply Qa | assumption | apply Qb | apply Qc | apply Qd | apply Qe | refine Qf ?_ (by assumption) ?_); all_goals (try simp only [Sz]); first | done | omega | (try simp only [Sz] at *); omega)⟩)
 · (
 have d1 : decide (n.op < 1) = false := by simp [h1]
 rw [d1]
 clear h1
 by_cases h2 : 9 < n.op
 · (
 have d2 : decide (9 < n.op) = true := by simp [h2]
 have d3 : decide (n.op > 9) = true := d2
 rw [d2]
 clear h2
 go_enter Tryz.func77, Tryz.ntmps77
 go_wp2
 go_ret
 exact ⟨rfl, (by (with_reducible repeat first | apply Qa | assumption | apply Qb | apply Qc | apply Qd | apply Qe | refine Qf ?_ (by assumption) ?_); all_goals (try simp only [Sz]); first | done | omega | (try simp only [Sz] at *); omega)⟩)
 · (
 have d2 : decide (9 < n.op) = false := by simp [h2]
 have d3 : decide (n.op > 9) = false := d2
 rw [d2]
 clear h2
 cases h3 : (n.d != t.a)
 · (
 go_enter Tryz.func77, Tryz.ntmps77
 go_wp2
 go_ret
 exact ⟨rfl, (by (with_reducible repeat first | apply Qa | assumption | apply Qb | apply Qc | apply Qd | apply Qe | refine Qf ?_ (by assumption) ?_); all_goals (try simp only [Sz]); first | done | omega | (try simp only [Sz] at *); omega)⟩)
 · (
 go_enter Tryz.func77, Tryz.ntmps77
 go_wp2
 go_ret
 exact ⟨by simp, (by (with_reducible repeat first | apply Qa | assumption | apply Qb | apply Qc | apply Qd | apply Qe | refine Qf ?_ (by assumption) ?_); all_goals (try simp only [Sz]); first | done | omega | (try simp only [Sz] at *); omega)⟩))))
theorem of31_says (L : Option Addr) (x : List Bool) (c g : Nat) (w : World) (hG : Blk w g 70 #[.slice L x.length c]) (hL : ValsAt w L (bools x)) {k : Nat} (hk : k < x.length) :
 SaysAt Tryz.prog 79 #[.pointer (some ⟨g, 0, none⟩)] w k (!yn x k) := by (
 intro W hW
 obtain ⟨b, off, rfl, hb, hc⟩ := (hL.below hW).bool hk
 have hG' := hG.below hW hG.lt
 have g0 := hG'.cell 0
 have lg := hG'.lt
 simp only [List.getElem?_toArray, List.getElem?_cons_zero] at g0
 have u0 : (0 : Int) ≤ (k : Int) := by omega
 have u1 : (k : Int) < (x.length : Int) := by omega
 clear hG hG' hL hW
 show Calls Tryz.prog 79 #[.int .i64 k, .pointer (some ⟨g, 0, none⟩)] W _
 go_enter Tryz.func79, Tryz.ntmps79
 go_wp2
 go_ret
 exact ⟨rfl, Below.refl _ _⟩)
theorem enter31 (W : World) (args : Array Value) : (callFunc 79 args).run Tryz.prog W = .ok (.enter 79 args) W := by kernel_rfl
theorem enter1 (W : World) (args : Array Value) : (callFunc 76 args).run Tryz.prog W = .ok (.enter 76 args) W := by kernel_rfl
theorem enter2 (W : World) (args : Array Value) : (callFunc 77 args).run Tryz.prog W = .ok (.enter 77 args) W := by kernel_rfl
theorem enter4 (W : World) (args : Array Value) : (callFunc 81 args).run Tryz.prog W = .ok (.enter 81 args) W := by kernel_rfl
theorem enter5 (W : World) (args : Array Value) : (callFunc 82 args).run Tryz.prog W = .ok (.enter 82 args) W := by kernel_rfl
theorem enter6 (W : World) (args : Array Value) : (callFunc 85 args).run Tryz.prog W = .ok (.enter 85 args) W := by kernel_rfl
theorem of3_any (regs : Int) (A : Option Addr) (n cap P : Nat) (L : Option Addr) (x : List Bool) (c : Nat) (w : World) (hn : n ≤ 65536) (hx : x.length = n) (hP : Blk w P 24 #[.int .i64 regs, .slice A n cap]) (hL : ValsAt w L (bools x)) :
 Calls Tryz.prog 78 #[.slice L n c, .pointer (some ⟨P, 0, none⟩)] w (BoolPost 4 (notL x) w) := by (
 subst hx
 have hE := fun (W : World) (hW : Below w.heap.size w W) (hb : Blk W w.heap.size 70 #[.slice L x.length c]) => each_any 79 #[.pointer (some ⟨w.heap.size, 0, none⟩)] (fun k => !yn x k) regs A x.length cap W hn enter31 (fun k hk => of31_says L x c w.heap.size W hb (hL.below hW) hk)
 have HE := hide hE
 have p0 := hP.cell 0
 have p1 := hP.cell 1
 have lp := hP.lt
 simp only [Yl] at p0 p1
 clear hE hP hL
 go_enter Tryz.func78, Tryz.ntmps78
 go_wp2_with (go_at_call 75; refine (HE.out _ (by (with_reducible repeat first | apply Qa | assumption | apply Qb | apply Qc | apply Qd | apply Qe | refine Qf ?_ (by assumption) ?_); all_goals (try simp only [Sz]); first | done | omega | (try simp only [Sz] at *); omega) (by repeat (first | ((with_reducible refine Blk.new' ?_); exact (by (try simp only [Sz]); first | done | omega | (try simp only [Sz] at *); omega)) | (with_reducible refine Blk.drew ?_) | (with_reducible refine Blk.drewN ?_ _) | (with_reducible refine Blk.alloc ?_ _) | with_reducible assumption))).mono ?_; rintro e w1 ⟨v, rfl, hr, hb⟩)
 go_ret
 exact ⟨_, rfl, hr.mono (by simp), (by (with_reducible repeat first | apply Qa | assumption | apply Qb | apply Qc | apply Qd | apply Qe | refine Qf ?_ (by assumption) ?_); all_goals (try simp only [Sz]); first | done | omega | (try simp only [Sz] at *); omega)⟩)
theorem of4_says (K R : Option Addr) (x y : List Bool) (c d g h : Nat) (w : World) (hG : Blk w g 70 #[.slice K x.length c]) (hH : Blk w h 70 #[.slice R y.length d]) (hK : ValsAt w K (bools x)) (hR : ValsAt w R (bools y)) {k : Nat} (hk : k < x.length) (hk2 : k < y.length) :
 SaysAt Tryz.prog 81 #[.pointer (some ⟨g, 0, none⟩), .pointer (some ⟨h, 0, none⟩)] w k (yn x k && yn y k) := by (
 intro W hW
 obtain ⟨b, off, rfl, hb, hc⟩ := (hK.below hW).bool hk
 obtain ⟨b2, off2, rfl, hb2, hc2⟩ := (hR.below hW).bool hk2
 have hG' := hG.below hW hG.lt
 have hH' := hH.below hW hH.lt
 have g0 := hG'.cell 0
 have h0 := hH'.cell 0
 have lg := hG'.lt
 have lh := hH'.lt
 simp only [List.getElem?_toArray, List.getElem?_cons_zero] at g0 h0
 have u0 : (0 : Int) ≤ (k : Int) := by omega
 have u1 : (k : Int) < (x.length : Int) := by omega
 have u2 : (k : Int) < (y.length : Int) := by omega
 clear hG hG' hH hH' hK hR hW
 show Calls Tryz.prog 81 #[.int .i64 k, .pointer (some ⟨g, 0, none⟩), .pointer (some ⟨h, 0, none⟩)] W _
 cases h1 : yn x k
 · (
 rw [h1] at hc
 go_enter Tryz.func81, Tryz.ntmps81
 go_wp2
 go_ret
 exact ⟨rfl, Below.refl _ _⟩)
 · (
 rw [h1] at hc
 go_enter Tryz.func81, Tryz.ntmps81
 go_wp2
 go_ret
 exact ⟨rfl, Below.refl _ _⟩))
def EdgeTab (w : World) (t : TypeId) (g GA n : Nat) (E : Nat → List Int) : Prop :=
 Blk w g t #[.slice (some ⟨GA, 0, none⟩) n n] ∧ GA < w.heap.size ∧ ∀ k, k < n → ∃ (R : Option Addr) (es : List Int) (c : Nat), w.cell? ⟨GA, k, none⟩ = some (.slice R es.length c) ∧ ValsAt w R (ints es) ∧ es.length ≤ 65536 ∧ ∀ m, m ∈ es ↔ m ∈ E k
theorem EdgeTab.below {w w' : World} {t : TypeId} {g GA n : Nat} {E : Nat → List Int} (h : EdgeTab w t g GA n E) (hb : Below w.heap.size w w') : EdgeTab w' t g GA n E := by (
 obtain ⟨h1, h2, h3⟩ := h
 refine ⟨h1.below hb h1.lt, Nat.lt_of_lt_of_le h2 hb.size, fun k hk => ?_⟩
 obtain ⟨R, es, c, c1, c2, c3⟩ := h3 k hk
 exact ⟨R, es, c, ((bcell hb).1 _ _ h2).trans c1, c2.below hb, c3⟩)
theorem any_same {es es' : List Int} {p : Int → Bool} (h : ∀ m, m ∈ es ↔ m ∈ es') : es.any p = es'.any p := by (
 rw [Bool.eq_iff_iff, List.any_eq_true, List.any_eq_true]
 simp only [h])
theorem len0_same {es es' : List Int} (h : ∀ m, m ∈ es ↔ m ∈ es') : (es.length == 0) = (es'.length == 0) := by (
 rw [Bool.eq_iff_iff]
 simp only [beq_iff_eq, List.length_eq_zero_iff, List.eq_nil_iff_forall_not_mem, h])
theorem of51_says (K D U : Option Addr) (x d u : List Bool) (kc dc uc g f : Nat) (cs : Array Value) (w : World) (hG : Blk w g 70 #[.slice K x.length kc]) (hF : Blk w f 72 cs) (f0 : cs[0]? = some (.slice D d.length dc)) (f1 : cs[1]? = some (.slice U u.length uc))
 (hK : ValsAt w K (bools x)) (hD : ValsAt w D (bools d)) (hU : ValsAt w U (bools u)) {m : Nat} (h1 : m < x.length) (h2 : m < d.length) (h3 : m < u.length) :
 SaysAt Tryz.prog 84 #[.pointer (some ⟨g, 0, none⟩), .pointer (some ⟨f, 0, none⟩)] w m (!yn x m || !yn d m && !yn u m) := by (
 intro W hW
 obtain ⟨b, off, rfl, hb, hc⟩ := (hK.below hW).bool h1
 obtain ⟨b2, off2, rfl, hb2, hc2⟩ := (hD.below hW).bool h2
 obtain ⟨b3, off3, rfl, hb3, hc3⟩ := (hU.below hW).bool h3
 have hG' := hG.below hW hG.lt
 have hF' := hF.below hW hF.lt
 have g0 := hG'.cell 0
 have q0 := (hF'.cell 0).trans f0
 have q1 := (hF'.cell 1).trans f1
 have lg := hG'.lt
 have lf := hF'.lt
 simp only [List.getElem?_toArray, List.getElem?_cons_zero] at g0
 have u0 : (0 : Int) ≤ (m : Int) := by omega
 have u1 : (m : Int) < (x.length : Int) := by omega
 have u2 : (m : Int) < (d.length : Int) := by omega
 have u3 : (m : Int) < (u.length : Int) := by omega
 clear hG hG' hF hF' hK hD hU hW f0 f1
 show Calls Tryz.prog 84 #[.int .i64 m, .pointer (some ⟨g, 0, none⟩), .pointer (some ⟨f, 0, none⟩)] W _
 cases e1 : yn x m
 · (
 rw [e1] at hc
 go_enter Tryz.func84, Tryz.ntmps84
 go_wp2
 go_ret
 exact ⟨rfl, Below.refl _ _⟩)
 · (
 rw [e1] at hc
 cases e2 : yn d m
 · (
 rw [e2] at hc2
 go_enter Tryz.func84, Tryz.ntmps84
 go_wp2
 go_ret
 exact ⟨rfl, Below.refl _ _⟩)
 · (
 rw [e2] at hc2
 go_enter Tryz.func84, Tryz.ntmps84
 go_wp2
 go_ret
 exact ⟨rfl, Below.refl _ _⟩)))
theorem of61_says (D : Option Addr) (d : List Bool) (dc f : Nat) (cs : Array Value) (w : World) (hF : Blk w f 72 cs) (f3 : cs[3]? = some (.slice D d.length dc)) (hD : ValsAt w D (bools d)) {m : Nat} (h2 : m < d.length) :
 SaysAt Tryz.prog 86 #[.pointer (some ⟨f, 0, none⟩)] w m (!yn d m) := by (
 intro W hW
 obtain ⟨b2, off2, rfl, hb2, hc2⟩ := (hD.below hW).bool h2
 have hF' := hF.below hW hF.lt
 have q0 := (hF'.cell 3).trans f3
 have lf := hF'.lt
 have u0 : (0 : Int) ≤ (m : Int) := by omega
 have u2 : (m : Int) < (d.length : Int) := by omega
 clear hF hF' hD hW f3
 show Calls Tryz.prog 86 #[.int .i64 m, .pointer (some ⟨f, 0, none⟩)] W _
 go_enter Tryz.func86, Tryz.ntmps86
 go_wp2
 go_ret
 exact ⟨rfl, Below.refl _ _⟩)
theorem enter51 (W : World) (args : Array Value) : (callFunc 84 args).run Tryz.prog W = .ok (.enter 84 args) W := by kernel_rfl
theorem enter61 (W : World) (args : Array Value) : (callFunc 86 args).run Tryz.prog W = .ok (.enter 86 args) W := by kernel_rfl
theorem of5_says (K D U : Option Addr) (x d u : List Bool) (kc dc uc g f a GA n : Nat) (E : Nat → List Int) (cs : Array Value) (w : World) (hG : Blk w g 70 #[.slice K x.length kc]) (hF : Blk w f 72 cs) (f0 : cs[0]? = some (.slice D d.length dc)) (f1 : cs[1]? = some (.slice U u.length uc))
 (hA : EdgeTab w 129 a GA n E) (hK : ValsAt w K (bools x)) (hD : ValsAt w D (bools d)) (hU : ValsAt w U (bools u)) (h1 : x.length = n) (h2 : d.length = n) (h3 : u.length = n) (hE : ∀ k m, m ∈ E k → 0 ≤ m ∧ m < (n : Int)) {k : Nat} (hk : k < n) :
 SaysAt Tryz.prog 82 #[.pointer (some ⟨f, 0, none⟩), .pointer (some ⟨a, 0, none⟩), .pointer (some ⟨g, 0, none⟩)] w k (yn d k && ((E k).length == 0 || (E k).any fun m => !yn x m.toNat || !yn d m.toNat && !yn u m.toNat)) := by (
 intro W hW
 obtain ⟨hB, hGA, hT⟩ := hA.below hW
 obtain ⟨R, es, c, hc, hR, hes, hsame⟩ := hT k hk
 have HD := hide (hD.below hW)
 obtain ⟨b2, off2, eD, hb2, hc2⟩ := HD.out.bool (k := k) (by omega)
 subst eD
 have hG' := hG.below hW hG.lt
 have hF' := hF.below hW hF.lt
 have q0 := (hF'.cell 0).trans f0
 have a0 := hB.cell 0
 have lf := hF'.lt
 have la := hB.lt
 simp only [List.getElem?_toArray, List.getElem?_cons_zero] at a0
 have u0 : (0 : Int) ≤ (k : Int) := by omega
 have u1 : (k : Int) < (n : Int) := by omega
 have u2 : (k : Int) < (d.length : Int) := by omega
 rw [← any_same hsame, ← len0_same hsame]
 have hS := some_any 84 #[.pointer (some ⟨g, 0, none⟩), .pointer (some ⟨f, 0, none⟩)] (fun m => !yn x m.toNat || !yn d m.toNat && !yn u m.toNat) R es c W (by unfold maxLen; omega) hR enter51 (fun m hm => by
  obtain ⟨m0, m1⟩ := hE k m ((hsame m).1 hm)
  obtain ⟨q, rfl⟩ := Int.eq_ofNat_of_zero_le m0
  exact of51_says K _ U x d u kc dc uc g f cs W hG' hF' f0 f1 (hK.below hW) HD.out (hU.below hW) (by omega) (by omega) (by omega))
 have HS := hide hS
 generalize (es.any fun m => !yn x m.toNat || !yn d m.toNat && !yn u m.toNat) = q at *
 clear hG hG' hF hF' hK hU hW f0 f1 hT hA hsame hB hS hD HD hE hR
 show Calls Tryz.prog 82 #[.int .i64 k, .pointer (some ⟨f, 0, none⟩), .pointer (some ⟨a, 0, none⟩), .pointer (some ⟨g, 0, none⟩)] W _
 cases e2 : yn d k
 · (
 rw [e2] at hc2
 go_enter Tryz.func82, Tryz.ntmps82
 go_wp2_with fail
 go_ret
 exact ⟨rfl, Below.refl _ _⟩)
 · (
 rw [e2] at hc2
 cases e3 : ((es.length : Int) == 0)
 · (
 have e4 : (es.length == 0) = false := by simp at e3 ⊢; exact e3
 rw [e4]
 go_enter Tryz.func82, Tryz.ntmps82
 go_wp2_with (go_at_call 83; refine (HS.out).mono ?_; rintro e w1 ⟨rfl, hb1⟩)
 go_ret
 exact ⟨by simp, hb1⟩)
 · (
 have e4 : (es.length == 0) = true := by simp at e3 ⊢; exact e3
 rw [e4]
 go_enter Tryz.func82, Tryz.ntmps82
 go_wp2_with fail
 go_ret
 exact ⟨rfl, Below.refl _ _⟩)))
theorem of6_says (D R0 : Option Addr) (d y : List Bool) (dc yc h f a GA n : Nat) (E : Nat → List Int) (cs : Array Value) (w : World) (hH : Blk w h 70 #[.slice R0 y.length yc]) (hF : Blk w f 72 cs) (f3 : cs[3]? = some (.slice D d.length dc))
 (hA : EdgeTab w 129 a GA n E) (hY : ValsAt w R0 (bools y)) (hD : ValsAt w D (bools d)) (h1 : y.length = n) (h2 : d.length = n) (hE : ∀ k m, m ∈ E k → 0 ≤ m ∧ m < (n : Int)) {k : Nat} (hk : k < n) :
 SaysAt Tryz.prog 85 #[.pointer (some ⟨f, 0, none⟩), .pointer (some ⟨h, 0, none⟩), .pointer (some ⟨a, 0, none⟩)] w k (yn d k && (yn y k || (E k).any fun m => !yn d m.toNat)) := by (
 intro W hW
 obtain ⟨hB, hGA, hT⟩ := hA.below hW
 obtain ⟨R, es, c, hc, hR, hes, hsame⟩ := hT k hk
 have HD := hide (hD.below hW)
 obtain ⟨b2, off2, eD, hb2, hc2⟩ := HD.out.bool (k := k) (by omega)
 subst eD
 obtain ⟨b3, off3, rfl, hb3, hc3⟩ := (hY.below hW).bool (k := k) (by omega)
 have hH' := hH.below hW hH.lt
 have hF' := hF.below hW hF.lt
 have q0 := (hF'.cell 3).trans f3
 have a0 := hB.cell 0
 have h0 := hH'.cell 0
 have lf := hF'.lt
 have la := hB.lt
 have lh := hH'.lt
 simp only [List.getElem?_toArray, List.getElem?_cons_zero] at a0 h0
 have u0 : (0 : Int) ≤ (k : Int) := by omega
 have u1 : (k : Int) < (n : Int) := by omega
 have u2 : (k : Int) < (d.length : Int) := by omega
 have u3 : (k : Int) < (y.length : Int) := by omega
 rw [← any_same hsame]
 have hS := some_any 86 #[.pointer (some ⟨f, 0, none⟩)] (fun m => !yn d m.toNat) R es c W (by unfold maxLen; omega) hR enter61 (fun m hm => by
  obtain ⟨m0, m1⟩ := hE k m ((hsame m).1 hm)
  obtain ⟨q, rfl⟩ := Int.eq_ofNat_of_zero_le m0
  exact of61_says _ d dc f cs W hF' f3 HD.out (by omega))
 have HS := hide hS
 generalize (es.any fun m => !yn d m.toNat) = q at *
 clear hF hF' hH hH' hW f3 hT hA hsame hB hS hD HD hE hR hY
 show Calls Tryz.prog 85 #[.int .i64 k, .pointer (some ⟨f, 0, none⟩), .pointer (some ⟨h, 0, none⟩), .pointer (some ⟨a, 0, none⟩)] W _
 cases e2 : yn d k
 · (
 rw [e2] at hc2
 go_enter Tryz.func85, Tryz.ntmps85
 go_wp2_with fail
 go_ret
 exact ⟨rfl, Below.refl _ _⟩)
 · (
 rw [e2] at hc2
 cases e3 : yn y k
 · (
 rw [e3] at hc3
 go_enter Tryz.func85, Tryz.ntmps85
 go_wp2_with (go_at_call 83; refine (HS.out).mono ?_; rintro e w1 ⟨rfl, hb1⟩)
 go_ret
 exact ⟨by simp, hb1⟩)
 · (
 rw [e3] at hc3
 go_enter Tryz.func85, Tryz.ntmps85
 go_wp2_with fail
 go_ret
 exact ⟨rfl, Below.refl _ _⟩)))
end
end Go.Proofs.YtmghkonmfbpjcaaGreatDoor
