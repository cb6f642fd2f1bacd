/- A slice of counts that the call itself made: what append makes of it. No program in sight. -/
import Derived.Test.YtmghkonmfbpjcabJC
namespace Go.Proofs.Ytmghkonmfbpjcab
set_option linter.unusedVariables false
set_option linter.unusedSimpArgs false
open Go.RowKit

/-- how often a term was reckoned -/
abbrev Ct := Tm × Int
def Ct.cells (n : Ct) : List Value := [.int .i64 n.1.op, .int .i64 n.1.a, .int .i64 n.1.b, .int .i64 n.2]
def Ct.lies (n : Ct) (w : World) (b off : Nat) : Prop :=
  w.cell? ⟨b, off, none⟩ = some (.int .i64 n.1.op) ∧ w.cell? ⟨b, off + 1, none⟩ = some (.int .i64 n.1.a) ∧ w.cell? ⟨b, off + 2, none⟩ = some (.int .i64 n.1.b) ∧ w.cell? ⟨b, off + 3, none⟩ = some (.int .i64 n.2)
/-- the terms of a slice -/
def CtsAt (w : World) (A : Option Addr) (l : List Ct) : Prop :=
  l ≠ [] → ∃ b off, A = some ⟨b, off, none⟩ ∧ b < w.heap.size ∧ ∀ (i : Nat) (n : Ct), l[i]? = some n → n.lies w b (off + i * 4)
theorem Ct.lies.below {n : Ct} {B : Nat} {w w' : World} {b off : Nat} (h : n.lies w b off) (hb : Below B w w') (hl : b < B) : n.lies w' b off := by
  obtain ⟨hc, _⟩ := bcell hb
  obtain ⟨h0, h1, h2, h3⟩ := h
  exact ⟨(hc _ _ hl).trans h0, (hc _ _ hl).trans h1, (hc _ _ hl).trans h2, (hc _ _ hl).trans h3⟩
theorem CtsAt.below {w w' : World} {A : Option Addr} {l : List Ct} (h : CtsAt w A l) (hb : Below w.heap.size w w') : CtsAt w' A l := fun hn => by
  obtain ⟨b, off, e, hl, hc⟩ := h hn
  exact ⟨b, off, e, Nat.lt_of_lt_of_le hl hb.size, fun i n hi => (hc i n hi).below hb hl⟩
theorem CtsAt.mk {w : World} {b off : Nat} {l : List Ct} (hb : b < w.heap.size) (h : ∀ (i : Nat) (n : Ct), l[i]? = some n → n.lies w b (off + i * 4)) : CtsAt w (some ⟨b, off, none⟩) l :=
  fun _ => ⟨b, off, rfl, hb, h⟩
theorem CtsAt.get {w : World} {A : Option Addr} {l : List Ct} (h : CtsAt w A l) {k : Nat} (hk : k < l.length) :
    ∃ b off n, A = some ⟨b, off, none⟩ ∧ b < w.heap.size ∧ l[k]? = some n ∧ n.lies w b (off + k * 4) := by
  obtain ⟨b, off, e, hb, hc⟩ := h (by intro h0; subst h0; simp at hk)
  exact ⟨b, off, l[k], e, hb, List.getElem?_eq_getElem hk, hc k _ (List.getElem?_eq_getElem hk)⟩
theorem CtsAt.nil {w : World} {A : Option Addr} : CtsAt w A [] := fun h => absurd rfl h
def ccells : List Ct → List Value
  | [] => []
  | n :: l => n.cells ++ ccells l
theorem Ct.cells_len (n : Ct) : n.cells.length = 4 := rfl
theorem ccells_len (l : List Ct) : (ccells l).length = l.length * 4 := by
  induction l with
  | nil => rfl
  | cons n l ih => simp only [ccells, List.length_append, Ct.cells_len, ih, List.length_cons]; omega
theorem ccells_append (a b : List Ct) : ccells (a ++ b) = ccells a ++ ccells b := by
  induction a with
  | nil => rfl
  | cons n a ih => simp only [List.cons_append, ccells, ih, List.append_assoc]
theorem ccells_get : ∀ (l : List Ct) (i j : Nat), j < 4 → (ccells l)[i * 4 + j]? = (l[i]?).bind fun n => n.cells[j]?
  | [], i, j, hj => by simp [ccells]
  | n :: l, 0, j, hj => by
    simp only [ccells, Nat.zero_mul, Nat.zero_add, List.getElem?_cons_zero, Option.bind_some]
    rw [List.getElem?_append_left (by rw [Ct.cells_len]; exact hj)]
  | n :: l, i + 1, j, hj => by
    simp only [ccells, List.getElem?_cons_succ]
    rw [List.getElem?_append_right (by rw [Ct.cells_len]; omega), Ct.cells_len, show (i + 1) * 4 + j - 4 = i * 4 + j by omega]
    exact ccells_get l i j hj
theorem ccells_one (l : List Ct) : ∀ u ∈ ccells l, u.oneCell' = true := by
  induction l with
  | nil => intro u hu; cases hu
  | cons n l ih =>
    intro u hu
    simp only [ccells, List.mem_append] at hu
    rcases hu with hu | hu
    · simp only [Ct.cells, List.mem_cons, List.not_mem_nil, or_false] at hu
      rcases hu with rfl | rfl | rfl | rfl <;> rfl
    · exact ih u hu

/-- where a node lies, whole -/
theorem clies_iff {n : Ct} {w : World} {b off : Nat} : n.lies w b off ↔ ∀ j, j < 4 → w.cell? ⟨b, off + j, none⟩ = n.cells[j]? := by
  constructor
  · rintro ⟨h0, h1, h2, h3⟩ j hj
    match j, hj with
    | 0, _ => exact h0
    | 1, _ => exact h1
    | 2, _ => exact h2
    | 3, _ => exact h3
  · intro h
    exact ⟨h 0 (by omega), h 1 (by omega), h 2 (by omega), h 3 (by omega)⟩
theorem CtsAt.cell {w : World} {b off : Nat} {l : List Ct} (h : CtsAt w (some ⟨b, off, none⟩) l) (k : Nat) (hk : k < l.length * 4) : w.cell? ⟨b, off + k, none⟩ = (ccells l)[k]? := by
  have hd : k / 4 < l.length := by omega
  obtain ⟨b', off', n, e, _, hn, hl⟩ := h.get hd
  injection e with e
  injection e with e1 e2
  subst e1 e2
  have h3' : k % 4 < 4 := Nat.mod_lt _ (by omega)
  have := clies_iff.1 hl (k % 4) h3'
  rw [show off + k / 4 * 4 + k % 4 = off + k by omega] at this
  have hg := ccells_get l (k / 4) (k % 4) h3'
  rw [show k / 4 * 4 + k % 4 = k by omega, hn] at hg
  rw [this, hg]
  rfl

/-- a slice of nodes of the call's own -/
def CRow (w : World) (base : Nat) (e : TypeId) (v : Value) (l : List Ct) : Prop := w.ownsRow base e 4 v l.length (ccells l)
section
variable {w w' : World} {base : Nat} {e : TypeId} {v : Value} {l : List Ct}
theorem CRow.nil_ (w : World) (base : Nat) (e : TypeId) : CRow w base e (.slice none 0 0) [] := ⟨rfl, .inl ⟨rfl, rfl⟩⟩
theorem CRow.open (h : CRow w base e v l) : (v = .slice none 0 0 ∧ l = []) ∨ ∃ g cap cur, v = .slice (some ⟨g, 0, none⟩) l.length cap ∧ base ≤ g ∧ w.heap[g]? = some (.cells cur e (0, 0)) ∧ l.length ≤ cap ∧ cap ≤ maxLen ∧ cur.size = cap * 4 ∧
    ∀ k, k < l.length * 4 → cur[k]? = (ccells l)[k]? := by
  obtain ⟨hl, ⟨hv, hn⟩ | ⟨g, cap, cur, hv, hb, hh, h1, h2, h3, h4⟩⟩ := h
  · exact .inl ⟨hv, List.eq_nil_of_length_eq_zero hn⟩
  · refine .inr ⟨g, cap, cur, hv, hb, hh, h1, h2, h3, fun k hk => ?_⟩
    rw [← h4, List.getElem?_take, if_pos hk, Array.getElem?_toList]
theorem CRow.close {g cap : Nat} {cur : Array Value} (hb : base ≤ g) (hh : w.heap[g]? = some (.cells cur e (0, 0))) (h1 : l.length ≤ cap) (h2 : cap ≤ maxLen) (h3 : cur.size = cap * 4)
    (h4 : ∀ k, k < l.length * 4 → cur[k]? = (ccells l)[k]?) : CRow w base e (.slice (some ⟨g, 0, none⟩) l.length cap) l := by
  refine ⟨ccells_len l, .inr ⟨g, cap, cur, rfl, hb, hh, h1, h2, h3, ?_⟩⟩
  refine List.ext_getElem? fun k => ?_
  rw [List.getElem?_take]
  split
  · rename_i hk
    rw [Array.getElem?_toList]
    exact h4 k hk
  · rename_i hk
    rw [List.getElem?_eq_none (by rw [ccells_len]; omega)]
theorem CRow.lt (h : CRow w base e v l) : ∀ k, v.ownBlock = some k → base ≤ k ∧ k < w.heap.size := by
  rintro k hk
  rcases h.open with ⟨rfl, _⟩ | ⟨g, cap, cur, rfl, hb, hh, _⟩
  · simp [Value.ownBlock] at hk
  · simp [Value.ownBlock] at hk
    subst hk
    exact ⟨hb, lt_of_heap hh⟩
theorem CRow.of_block (h : CRow w base e v l) (hk : ∀ k, v.ownBlock = some k → w'.heap[k]? = w.heap[k]?) : CRow w' base e v l := by
  obtain ⟨hl, ⟨hv, hn⟩ | ⟨g, cap, cur, hv, hb, hh, r⟩⟩ := h
  · exact ⟨hl, .inl ⟨hv, hn⟩⟩
  · exact ⟨hl, .inr ⟨g, cap, cur, hv, hb, (hk g (by rw [hv]; rfl)).trans hh, r⟩⟩
theorem CRow.kept {row : Option Nat} (h : CRow w base e v l) (hg : w.grownBy w' row) (hne : v.ownBlock = none ∨ v.ownBlock ≠ row) : CRow w' base e v l :=
  h.of_block fun k hk => hg.block k (h.lt k hk).2 (by
    rcases hne with hn | hn
    · rw [hn] at hk; cases hk
    · rw [← hk]; exact hn)
theorem CRow.below {B : Nat} (h : CRow w base e v l) (hb : Below B w w') (hB : ∀ k, v.ownBlock = some k → k < B) : CRow w' base e v l := h.of_block fun k hk => hb.block k (hB k hk)
theorem CRow.below' (h : CRow w base e v l) (hb : Below w.heap.size w w') : CRow w' base e v l := h.of_block fun k hk => hb.block k (h.lt k hk).2
theorem CRow.alloc (h : CRow w base e v l) (o : Obj) : CRow (w.alloc o) base e v l := h.of_block fun k hk => Below.heap_alloc w o k (h.lt k hk).2
theorem CRow.drew (h : CRow w base e v l) : CRow w.drew base e v l := h
theorem CRow.drewN (h : CRow w base e v l) (n : Nat) : CRow (w.drewN n) base e v l := h
theorem CRow.far (h : CRow w base e v l) {p : Addr} (hp : v.ownBlock ≠ some p.block) (u : Value) : CRow (w.setCell p u) base e v l :=
  h.of_block fun k hk => Below.heap_setCell w p u k (by rintro rfl; exact hp hk)
theorem CRow.mono {base' : Nat} (h : CRow w base e v l) (hb : base' ≤ base) : CRow w base' e v l := by
  obtain ⟨hl, h | ⟨g, cap, cur, hv, hg, r⟩⟩ := h
  · exact ⟨hl, .inl h⟩
  · exact ⟨hl, .inr ⟨g, cap, cur, hv, Nat.le_trans hb hg, r⟩⟩
theorem CRow.shape (h : CRow w base e v l) : ∃ A cap, v = .slice A l.length cap ∧ l.length ≤ cap ∧ cap ≤ maxLen := by
  rcases h.open with ⟨rfl, rfl⟩ | ⟨g, cap, cur, rfl, _, _, hc, hm, _⟩
  · exact ⟨none, 0, rfl, Nat.le_refl _, Nat.zero_le _⟩
  · exact ⟨_, cap, rfl, hc, hm⟩
theorem CRow.nodes {A : Option Addr} {n cap : Nat} (h : CRow w base e (.slice A n cap) l) : CtsAt w A l := fun hn => by
  rcases h.open with ⟨_, rfl⟩ | ⟨g, cap, cur, hv, hb, hh, _, _, _, hc⟩
  · exact absurd rfl hn
  · injection hv with hA
    subst hA
    refine ⟨g, 0, rfl, lt_of_heap hh, fun i n hi => clies_iff.2 fun j hj => ?_⟩
    have hlt : i < l.length := (List.getElem?_eq_some_iff.1 hi).1
    have := hc (i * 4 + j) (by omega)
    rw [ccells_get l i j hj, hi] at this
    rw [Nat.zero_add]
    simp only [World.cell?, hh, this]
    simp
theorem CRow.get (h : CRow w base e v l) {k : Nat} (hk : k < l.length) :
    ∃ g cap n, v = .slice (some ⟨g, 0, none⟩) l.length cap ∧ base ≤ g ∧ g < w.heap.size ∧ l[k]? = some n ∧ n.lies w g (k * 4) ∧ ∀ j, j < l.length * 4 → w.frozen? ⟨g, j, none⟩ = false := by
  have hN := h.shape
  rcases h.open with ⟨_, rfl⟩ | ⟨g, cap, cur, rfl, hb, hh, hcl, hcm, hcs, hc⟩
  · simp at hk
  · have hn := (h.nodes).get hk
    obtain ⟨b, off, n, e1, _, hn, hl⟩ := hn
    injection e1 with e1
    injection e1 with e1 e2
    subst e1 e2
    rw [Nat.zero_add] at hl
    exact ⟨g, cap, n, rfl, hb, lt_of_heap hh, hn, hl, fun j hj => by simp [World.frozen?, hh]⟩
theorem CRow.ne_blk {g : Nat} {t : TypeId} {cs : Array Value} (h : CRow w base e v l) (hg : Blk w g t cs) (hne : e ≠ t) : v.ownBlock ≠ some g := by
  rcases h.open with ⟨rfl, _⟩ | ⟨g', cap, cur, rfl, _, hh, _⟩
  · simp [Value.ownBlock]
  · intro he
    simp [Value.ownBlock] at he
    subst he
    have hB : Blk w g' e cur := by unfold Blk; exact hh
    exact hB.ne_ hg hne rfl
theorem CRow.blk {g n cap : Nat} (h : CRow w base e (.slice (some ⟨g, 0, none⟩) n cap) l) : ∃ cs, Blk w g e cs := by
  rcases h.open with ⟨hv, _⟩ | ⟨g', cap', cur, hv, hb, hh, _⟩
  · cases hv
  · injection hv with hA
    injection hA with hA
    injection hA with hg
    subst hg
    exact ⟨cur, by unfold Blk; exact hh⟩
theorem CRow.ne_row {base' : Nat} {e' : TypeId} {u : Value} {ys : List Value} (h : CRow w base e v l) (h' : Row w base' e' u ys) (hne : e ≠ e') : v.ownBlock = none ∨ v.ownBlock ≠ u.ownBlock := by
  rcases h' with ⟨rfl, _⟩ | ⟨g', o, cap, cur, rfl, _, hh, _⟩
  · rcases hv : v.ownBlock with _ | k
    · exact .inl rfl
    · exact .inr (by simp [Value.ownBlock])
  · exact .inr (h.ne_blk (cs := cur) (t := e') (by unfold Blk; exact hh) hne)
/-- append nodes onto such a slice, from whatever slice can be read -/
theorem run_append_counts {P : Program} (t ty : TypeId) (i : TypeInfo) (z : Value) (bytes : Nat) (ht : P.underlying t = some (.slice e)) (hi : P.info? e = some i) (hz : i.zero = some z)
    (hsize : i.size = 4) (hby : i.bytes = bytes) (hzs : z.cells.size = 4) (hr : CRow w base e v l) (A : Option Addr) (c : Nat) (news : List Ct) (hn : CtsAt w A news)
    (h3'3 : l.length + news.length ≤ maxLen) (hbytes : (l.length + news.length) * bytes ≤ 140737488355328) (hbase : base ≤ w.heap.size) :
    ∃ v' w', (Builtin.append_ #[t, t] ty #[v, .slice A news.length c]).run P w = .ok v' w' ∧ CRow w' base e v' (l ++ news) ∧ w.grownBy w' v.ownBlock ∧ (v'.ownBlock = v.ownBlock ∨ ∀ k, v'.ownBlock = some k → w.heap.size ≤ k) := by
  by_cases hne : news = []
  · subst hne
    refine ⟨v, w, ?_, by simpa using hr, World.grownBy.refl w _, .inl rfl⟩
    rcases hr.open with ⟨rfl, rfl⟩ | ⟨g, cap, cur, rfl, _, _, hnc, _⟩
    · rcases A with _ | A <;> simp [Builtin.append_, run_underlying ht, sizeOf, typeInfo, hi, hsize, Builtin.lenOf, Builtin.firstCells, loadCells, loadCellsFrom]
    · rcases A with _ | A <;> simp [Builtin.append_, run_underlying ht, sizeOf, typeInfo, hi, hsize, Builtin.lenOf, Builtin.firstCells, loadCells, loadCellsFrom, hnc, storeCells]
  · obtain ⟨b, off, rfl, hb, hcell⟩ := hn hne
    have hnews : ∀ j u, (ccells news)[j]? = some u → w.cell? ((⟨b, off, none⟩ : Addr).add j) = some u := fun j u hj => by
      rw [Addr.add_lit, ← hj]
      exact CtsAt.cell hn j (by rw [← ccells_len]; exact (List.getElem?_eq_some_iff.1 hj).1)
    obtain ⟨v', w', hrun, h2, h3, h4, h5⟩ := run_append_own_at (P := P) w base t ty e i z 4 bytes ht hi hz hsize hby hzs (by omega) v l.length (ccells l) hr ⟨b, off, none⟩ news.length c (ccells news) (ccells_len _) hnews (ccells_one _) h3'3 hbytes hbase
    refine ⟨v', w', hrun, ?_, h3, h5.imp id fun h k hk => by rw [h] at hk; injection hk with hk; omega⟩
    show w'.ownsRow base e 4 v' (l ++ news).length (ccells (l ++ news))
    rw [List.length_append, ccells_append]
    exact h2

theorem wp_append_counts {P : Program} {o : Oper} {a : Act} {K : Act → World → Prop} {Q : Exit → Act → World → Prop} (s x : Operand) (t : TypeId)
    (ho : o.op = .call { callee := .builtin .append, args := #[s, x], argTypes := #[t, t] })
    (i : TypeInfo) (z : Value) (bytes : Nat) (ht : P.underlying t = some (.slice e)) (hi : P.info? e = some i) (hz : i.zero = some z)
    (hsize : i.size = 4) (hby : i.bytes = bytes) (hzs : z.cells.size = 4) (hs : a.eval s = v) (hr : CRow w base e v l) (A : Option Addr) (n c : Nat) (news : List Ct) (hx : a.eval x = .slice A n c)
    (hnl : n = news.length) (hn : CtsAt w A news)
    (h3'3 : l.length + news.length ≤ maxLen) (hbytes : (l.length + news.length) * bytes ≤ 140737488355328) (hbase : base ≤ w.heap.size)
    (h : ∀ v' w', CRow w' base e v' (l ++ news) → w.grownBy w' v.ownBlock → (v'.ownBlock = v.ownBlock ∨ ∀ k, v'.ownBlock = some k → w.heap.size ≤ k) → K (a.put o.dst v') w') : o.wp P a w K Q := by
  subst hnl
  obtain ⟨v', w', hrun, h2, h3, h4⟩ := run_append_counts (P := P) t o.type i z bytes ht hi hz hsize hby hzs hr A c news hn h3'3 hbytes hbase
  unfold Oper.wp execOp
  simp only [ho, resolve, invoke, builtin, Sem.run_bind, Sem.run_pure, Result.andThen_ok, List.map_toArray, List.map_cons, List.map_nil, hs, hx, hrun]
  exact h v' w' h2 h3 h4

theorem wpList_append_counts {P : Program} {ops : Array Oper} {rest : List Oper} {o : Oper} {a : Act} {Q : Exit → Act → World → Prop} (hgd : o.guard = none) (s x : Operand) (t : TypeId)
    (ho : o.op = .call { callee := .builtin .append, args := #[s, x], argTypes := #[t, t] })
    (i : TypeInfo) (z : Value) (bytes : Nat) (ht : P.underlying t = some (.slice e)) (hi : P.info? e = some i) (hz : i.zero = some z)
    (hsize : i.size = 4) (hby : i.bytes = bytes) (hzs : z.cells.size = 4) (hs : a.eval s = v) (hr : CRow w base e v l) (A : Option Addr) (n c : Nat) (news : List Ct) (hx : a.eval x = .slice A n c)
    (hnl : n = news.length) (hn : CtsAt w A news)
    (h3'3 : l.length + news.length ≤ maxLen) (hbytes : (l.length + news.length) * bytes ≤ 140737488355328) (hbase : base ≤ w.heap.size)
    (h : ∀ v' w', CRow w' base e v' (l ++ news) → w.grownBy w' v.ownBlock → (v'.ownBlock = v.ownBlock ∨ ∀ k, v'.ownBlock = some k → w.heap.size ≤ k) → wpList P ops Q rest (a.put o.dst v') w') :
    wpList P ops Q (o :: rest) a w :=
  wpList_plain hgd fun _ hK => wp_append_counts s x t ho i z bytes ht hi hz hsize hby hzs hs hr A n c news hx hnl hn h3'3 hbytes hbase fun v' w' h2 h3 h4 => hK _ _ (h v' w' h2 h3 h4)

theorem step_append_counts {P : Program} {ops : Array Oper} {o : Oper} {a : Act} {K : Act → World → Prop} {Q : Exit → Act → World → Prop} {E : Prop} (hgd : o.guard = none) (s x : Operand) (t : TypeId)
    (ho : o.op = .call { callee := .builtin .append, args := #[s, x], argTypes := #[t, t] })
    (i : TypeInfo) (z : Value) (bytes : Nat) (ht : P.underlying t = some (.slice e)) (hi : P.info? e = some i) (hz : i.zero = some z)
    (hsize : i.size = 4) (hby : i.bytes = bytes) (hzs : z.cells.size = 4) (hs : a.eval s = v) (hr : CRow w base e v l) (A : Option Addr) (n c : Nat) (news : List Ct) (hx : a.eval x = .slice A n c)
    (hnl : n = news.length) (hn : CtsAt w A news)
    (h3'3 : l.length + news.length ≤ maxLen) (hbytes : (l.length + news.length) * bytes ≤ 140737488355328) (hbase : base ≤ w.heap.size)
    (h : ∀ v' w', CRow w' base e v' (l ++ news) → w.grownBy w' v.ownBlock → (v'.ownBlock = v.ownBlock ∨ ∀ k, v'.ownBlock = some k → w.heap.size ≤ k) → K (a.put o.dst v') w') :
    if Region.wanted o (yielded ops a.tmps) = true then Oper.wp P o a w K Q else E := by
  have hw : Region.wanted o (yielded ops a.tmps) = true := by simp [Region.wanted, hgd]
  rw [if_pos hw]
  exact wp_append_counts s x t ho i z bytes ht hi hz hsize hby hzs hs hr A n c news hx hnl hn h3'3 hbytes hbase h

/-- the term that a literal of one element is laid in -/
theorem counts_one' {w : World} {n : Ct} {t : TypeId} {g : Nat} (h : g = w.heap.size) : CtsAt (w.alloc (.cells #[.int .i64 n.1.op, .int .i64 n.1.a, .int .i64 n.1.b, .int .i64 n.2] t)) (some ⟨g, 0, none⟩) [n] := by
  subst h
  refine CtsAt.mk (by simp) fun i m hi => ?_
  rcases i with _ | i
  · simp at hi
    subst hi
    simp [Ct.lies]
  · simp at hi
end
end Go.Proofs.Ytmghkonmfbpjcab
