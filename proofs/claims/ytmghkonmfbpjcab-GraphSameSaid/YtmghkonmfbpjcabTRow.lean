/- A slice of terms that the call itself made: what append makes of it. No program in sight. -/
import Derived.Test.YtmghkonmfbpjcabJA
import Derived.Test.YtmghkonmfbpjcabJB
namespace Go.Proofs.Ytmghkonmfbpjcab
set_option linter.unusedVariables false
set_option linter.unusedSimpArgs false
open Go.RowKit

deriving instance DecidableEq for Tm
def Tm.cells (n : Tm) : List Value := [.int .i64 n.op, .int .i64 n.a, .int .i64 n.b]
def Tm.lies (n : Tm) (w : World) (b off : Nat) : Prop :=
  w.cell? ⟨b, off, none⟩ = some (.int .i64 n.op) ∧ w.cell? ⟨b, off + 1, none⟩ = some (.int .i64 n.a) ∧ w.cell? ⟨b, off + 2, none⟩ = some (.int .i64 n.b)
/-- the terms of a slice -/
def TmsAt (w : World) (A : Option Addr) (l : List Tm) : Prop :=
  l ≠ [] → ∃ b off, A = some ⟨b, off, none⟩ ∧ b < w.heap.size ∧ ∀ (i : Nat) (n : Tm), l[i]? = some n → n.lies w b (off + i * 3)
theorem Tm.lies.below {n : Tm} {B : Nat} {w w' : World} {b off : Nat} (h : n.lies w b off) (hb : Below B w w') (hl : b < B) : n.lies w' b off := by
  obtain ⟨hc, _⟩ := bcell hb
  obtain ⟨h0, h1, h2⟩ := h
  exact ⟨(hc _ _ hl).trans h0, (hc _ _ hl).trans h1, (hc _ _ hl).trans h2⟩
theorem TmsAt.below {w w' : World} {A : Option Addr} {l : List Tm} (h : TmsAt w A l) (hb : Below w.heap.size w w') : TmsAt w' A l := fun hn => by
  obtain ⟨b, off, e, hl, hc⟩ := h hn
  exact ⟨b, off, e, Nat.lt_of_lt_of_le hl hb.size, fun i n hi => (hc i n hi).below hb hl⟩
theorem TmsAt.mk {w : World} {b off : Nat} {l : List Tm} (hb : b < w.heap.size) (h : ∀ (i : Nat) (n : Tm), l[i]? = some n → n.lies w b (off + i * 3)) : TmsAt w (some ⟨b, off, none⟩) l :=
  fun _ => ⟨b, off, rfl, hb, h⟩
theorem TmsAt.get {w : World} {A : Option Addr} {l : List Tm} (h : TmsAt w A l) {k : Nat} (hk : k < l.length) :
    ∃ b off n, A = some ⟨b, off, none⟩ ∧ b < w.heap.size ∧ l[k]? = some n ∧ n.lies w b (off + k * 3) := by
  obtain ⟨b, off, e, hb, hc⟩ := h (by intro h0; subst h0; simp at hk)
  exact ⟨b, off, l[k], e, hb, List.getElem?_eq_getElem hk, hc k _ (List.getElem?_eq_getElem hk)⟩
theorem TmsAt.nil {w : World} {A : Option Addr} : TmsAt w A [] := fun h => absurd rfl h
def tcells : List Tm → List Value
  | [] => []
  | n :: l => n.cells ++ tcells l
theorem Tm.cells_len (n : Tm) : n.cells.length = 3 := rfl
theorem tcells_len (l : List Tm) : (tcells l).length = l.length * 3 := by
  induction l with
  | nil => rfl
  | cons n l ih => simp only [tcells, List.length_append, Tm.cells_len, ih, List.length_cons]; omega
theorem tcells_append (a b : List Tm) : tcells (a ++ b) = tcells a ++ tcells b := by
  induction a with
  | nil => rfl
  | cons n a ih => simp only [List.cons_append, tcells, ih, List.append_assoc]
theorem tcells_get : ∀ (l : List Tm) (i j : Nat), j < 3 → (tcells l)[i * 3 + j]? = (l[i]?).bind fun n => n.cells[j]?
  | [], i, j, hj => by simp [tcells]
  | n :: l, 0, j, hj => by
    simp only [tcells, Nat.zero_mul, Nat.zero_add, List.getElem?_cons_zero, Option.bind_some]
    rw [List.getElem?_append_left (by rw [Tm.cells_len]; exact hj)]
  | n :: l, i + 1, j, hj => by
    simp only [tcells, List.getElem?_cons_succ]
    rw [List.getElem?_append_right (by rw [Tm.cells_len]; omega), Tm.cells_len, show (i + 1) * 3 + j - 3 = i * 3 + j by omega]
    exact tcells_get l i j hj
theorem tcells_one (l : List Tm) : ∀ u ∈ tcells l, u.oneCell' = true := by
  induction l with
  | nil => intro u hu; cases hu
  | cons n l ih =>
    intro u hu
    simp only [tcells, List.mem_append] at hu
    rcases hu with hu | hu
    · simp only [Tm.cells, List.mem_cons, List.not_mem_nil, or_false] at hu
      rcases hu with rfl | rfl | rfl <;> rfl
    · exact ih u hu

/-- where a node lies, whole -/
theorem tlies_iff {n : Tm} {w : World} {b off : Nat} : n.lies w b off ↔ ∀ j, j < 3 → w.cell? ⟨b, off + j, none⟩ = n.cells[j]? := by
  constructor
  · rintro ⟨h0, h1, h2⟩ j hj
    match j, hj with
    | 0, _ => exact h0
    | 1, _ => exact h1
    | 2, _ => exact h2
  · intro h
    exact ⟨h 0 (by omega), h 1 (by omega), h 2 (by omega)⟩
theorem TmsAt.cell {w : World} {b off : Nat} {l : List Tm} (h : TmsAt w (some ⟨b, off, none⟩) l) (k : Nat) (hk : k < l.length * 3) : w.cell? ⟨b, off + k, none⟩ = (tcells l)[k]? := by
  have hd : k / 3 < l.length := by omega
  obtain ⟨b', off', n, e, _, hn, hl⟩ := h.get hd
  injection e with e
  injection e with e1 e2
  subst e1 e2
  have h3' : k % 3 < 3 := Nat.mod_lt _ (by omega)
  have := tlies_iff.1 hl (k % 3) h3'
  rw [show off + k / 3 * 3 + k % 3 = off + k by omega] at this
  have hg := tcells_get l (k / 3) (k % 3) h3'
  rw [show k / 3 * 3 + k % 3 = k by omega, hn] at hg
  rw [this, hg]
  rfl

/-- a slice of nodes of the call's own -/
def TRow (w : World) (base : Nat) (e : TypeId) (v : Value) (l : List Tm) : Prop := w.ownsRow base e 3 v l.length (tcells l)
section
variable {w w' : World} {base : Nat} {e : TypeId} {v : Value} {l : List Tm}
theorem TRow.nil_ (w : World) (base : Nat) (e : TypeId) : TRow w base e (.slice none 0 0) [] := ⟨rfl, .inl ⟨rfl, rfl⟩⟩
theorem TRow.open (h : TRow w base e v l) : (v = .slice none 0 0 ∧ l = []) ∨ ∃ g cap cur, v = .slice (some ⟨g, 0, none⟩) l.length cap ∧ base ≤ g ∧ w.heap[g]? = some (.cells cur e (0, 0)) ∧ l.length ≤ cap ∧ cap ≤ maxLen ∧ cur.size = cap * 3 ∧
    ∀ k, k < l.length * 3 → cur[k]? = (tcells l)[k]? := by
  obtain ⟨hl, ⟨hv, hn⟩ | ⟨g, cap, cur, hv, hb, hh, h1, h2, h3, h4⟩⟩ := h
  · exact .inl ⟨hv, List.eq_nil_of_length_eq_zero hn⟩
  · refine .inr ⟨g, cap, cur, hv, hb, hh, h1, h2, h3, fun k hk => ?_⟩
    rw [← h4, List.getElem?_take, if_pos hk, Array.getElem?_toList]
theorem TRow.close {g cap : Nat} {cur : Array Value} (hb : base ≤ g) (hh : w.heap[g]? = some (.cells cur e (0, 0))) (h1 : l.length ≤ cap) (h2 : cap ≤ maxLen) (h3 : cur.size = cap * 3)
    (h4 : ∀ k, k < l.length * 3 → cur[k]? = (tcells l)[k]?) : TRow w base e (.slice (some ⟨g, 0, none⟩) l.length cap) l := by
  refine ⟨tcells_len l, .inr ⟨g, cap, cur, rfl, hb, hh, h1, h2, h3, ?_⟩⟩
  refine List.ext_getElem? fun k => ?_
  rw [List.getElem?_take]
  split
  · rename_i hk
    rw [Array.getElem?_toList]
    exact h4 k hk
  · rename_i hk
    rw [List.getElem?_eq_none (by rw [tcells_len]; omega)]
theorem TRow.lt (h : TRow w base e v l) : ∀ k, v.ownBlock = some k → base ≤ k ∧ k < w.heap.size := by
  rintro k hk
  rcases h.open with ⟨rfl, _⟩ | ⟨g, cap, cur, rfl, hb, hh, _⟩
  · simp [Value.ownBlock] at hk
  · simp [Value.ownBlock] at hk
    subst hk
    exact ⟨hb, lt_of_heap hh⟩
theorem TRow.of_block (h : TRow w base e v l) (hk : ∀ k, v.ownBlock = some k → w'.heap[k]? = w.heap[k]?) : TRow w' base e v l := by
  obtain ⟨hl, ⟨hv, hn⟩ | ⟨g, cap, cur, hv, hb, hh, r⟩⟩ := h
  · exact ⟨hl, .inl ⟨hv, hn⟩⟩
  · exact ⟨hl, .inr ⟨g, cap, cur, hv, hb, (hk g (by rw [hv]; rfl)).trans hh, r⟩⟩
theorem TRow.kept {row : Option Nat} (h : TRow w base e v l) (hg : w.grownBy w' row) (hne : v.ownBlock = none ∨ v.ownBlock ≠ row) : TRow w' base e v l :=
  h.of_block fun k hk => hg.block k (h.lt k hk).2 (by
    rcases hne with hn | hn
    · rw [hn] at hk; cases hk
    · rw [← hk]; exact hn)
theorem TRow.below {B : Nat} (h : TRow w base e v l) (hb : Below B w w') (hB : ∀ k, v.ownBlock = some k → k < B) : TRow w' base e v l := h.of_block fun k hk => hb.block k (hB k hk)
theorem TRow.below' (h : TRow w base e v l) (hb : Below w.heap.size w w') : TRow w' base e v l := h.of_block fun k hk => hb.block k (h.lt k hk).2
theorem TRow.alloc (h : TRow w base e v l) (o : Obj) : TRow (w.alloc o) base e v l := h.of_block fun k hk => Below.heap_alloc w o k (h.lt k hk).2
theorem TRow.drew (h : TRow w base e v l) : TRow w.drew base e v l := h
theorem TRow.drewN (h : TRow w base e v l) (n : Nat) : TRow (w.drewN n) base e v l := h
theorem TRow.far (h : TRow w base e v l) {p : Addr} (hp : v.ownBlock ≠ some p.block) (u : Value) : TRow (w.setCell p u) base e v l :=
  h.of_block fun k hk => Below.heap_setCell w p u k (by rintro rfl; exact hp hk)
theorem TRow.mono {base' : Nat} (h : TRow w base e v l) (hb : base' ≤ base) : TRow w base' e v l := by
  obtain ⟨hl, h | ⟨g, cap, cur, hv, hg, r⟩⟩ := h
  · exact ⟨hl, .inl h⟩
  · exact ⟨hl, .inr ⟨g, cap, cur, hv, Nat.le_trans hb hg, r⟩⟩
theorem TRow.shape (h : TRow w base e v l) : ∃ A cap, v = .slice A l.length cap ∧ l.length ≤ cap ∧ cap ≤ maxLen := by
  rcases h.open with ⟨rfl, rfl⟩ | ⟨g, cap, cur, rfl, _, _, hc, hm, _⟩
  · exact ⟨none, 0, rfl, Nat.le_refl _, Nat.zero_le _⟩
  · exact ⟨_, cap, rfl, hc, hm⟩
theorem TRow.nodes {A : Option Addr} {n cap : Nat} (h : TRow w base e (.slice A n cap) l) : TmsAt w A l := fun hn => by
  rcases h.open with ⟨_, rfl⟩ | ⟨g, cap, cur, hv, hb, hh, _, _, _, hc⟩
  · exact absurd rfl hn
  · injection hv with hA
    subst hA
    refine ⟨g, 0, rfl, lt_of_heap hh, fun i n hi => tlies_iff.2 fun j hj => ?_⟩
    have hlt : i < l.length := (List.getElem?_eq_some_iff.1 hi).1
    have := hc (i * 3 + j) (by omega)
    rw [tcells_get l i j hj, hi] at this
    rw [Nat.zero_add]
    simp only [World.cell?, hh, this]
    simp
theorem TRow.get (h : TRow w base e v l) {k : Nat} (hk : k < l.length) :
    ∃ g cap n, v = .slice (some ⟨g, 0, none⟩) l.length cap ∧ base ≤ g ∧ g < w.heap.size ∧ l[k]? = some n ∧ n.lies w g (k * 3) ∧ ∀ j, j < l.length * 3 → w.frozen? ⟨g, j, none⟩ = false := by
  have hN := h.shape
  rcases h.open with ⟨_, rfl⟩ | ⟨g, cap, cur, rfl, hb, hh, hcl, hcm, hcs, hc⟩
  · simp at hk
  · have hn := (h.nodes).get hk
    obtain ⟨b, off, n, e1, _, hn, hl⟩ := hn
    injection e1 with e1
    injection e1 with e1 e2
    subst e1 e2
    rw [Nat.zero_add] at hl
    exact ⟨g, cap, n, rfl, hb, lt_of_heap hh, hn, hl, fun j hj => by simp [World.frozen?, hh]⟩
theorem TRow.ne_blk {g : Nat} {t : TypeId} {cs : Array Value} (h : TRow w base e v l) (hg : Blk w g t cs) (hne : e ≠ t) : v.ownBlock ≠ some g := by
  rcases h.open with ⟨rfl, _⟩ | ⟨g', cap, cur, rfl, _, hh, _⟩
  · simp [Value.ownBlock]
  · intro he
    simp [Value.ownBlock] at he
    subst he
    have hB : Blk w g' e cur := by unfold Blk; exact hh
    exact hB.ne_ hg hne rfl
theorem TRow.blk {g n cap : Nat} (h : TRow w base e (.slice (some ⟨g, 0, none⟩) n cap) l) : ∃ cs, Blk w g e cs := by
  rcases h.open with ⟨hv, _⟩ | ⟨g', cap', cur, hv, hb, hh, _⟩
  · cases hv
  · injection hv with hA
    injection hA with hA
    injection hA with hg
    subst hg
    exact ⟨cur, by unfold Blk; exact hh⟩
theorem TRow.ne_row {base' : Nat} {e' : TypeId} {u : Value} {ys : List Value} (h : TRow w base e v l) (h' : Row w base' e' u ys) (hne : e ≠ e') : v.ownBlock = none ∨ v.ownBlock ≠ u.ownBlock := by
  rcases h' with ⟨rfl, _⟩ | ⟨g', o, cap, cur, rfl, _, hh, _⟩
  · rcases hv : v.ownBlock with _ | k
    · exact .inl rfl
    · exact .inr (by simp [Value.ownBlock])
  · exact .inr (h.ne_blk (cs := cur) (t := e') (by unfold Blk; exact hh) hne)
/-- append nodes onto such a slice, from whatever slice can be read -/
theorem run_append_terms {P : Program} (t ty : TypeId) (i : TypeInfo) (z : Value) (bytes : Nat) (ht : P.underlying t = some (.slice e)) (hi : P.info? e = some i) (hz : i.zero = some z)
    (hsize : i.size = 3) (hby : i.bytes = bytes) (hzs : z.cells.size = 3) (hr : TRow w base e v l) (A : Option Addr) (c : Nat) (news : List Tm) (hn : TmsAt w A news)
    (h3'3 : l.length + news.length ≤ maxLen) (hbytes : (l.length + news.length) * bytes ≤ 140737488355328) (hbase : base ≤ w.heap.size) :
    ∃ v' w', (Builtin.append_ #[t, t] ty #[v, .slice A news.length c]).run P w = .ok v' w' ∧ TRow w' base e v' (l ++ news) ∧ w.grownBy w' v.ownBlock ∧ (v'.ownBlock = v.ownBlock ∨ ∀ k, v'.ownBlock = some k → w.heap.size ≤ k) := by
  by_cases hne : news = []
  · subst hne
    refine ⟨v, w, ?_, by simpa using hr, World.grownBy.refl w _, .inl rfl⟩
    rcases hr.open with ⟨rfl, rfl⟩ | ⟨g, cap, cur, rfl, _, _, hnc, _⟩
    · rcases A with _ | A <;> simp [Builtin.append_, run_underlying ht, sizeOf, typeInfo, hi, hsize, Builtin.lenOf, Builtin.firstCells, loadCells, loadCellsFrom]
    · rcases A with _ | A <;> simp [Builtin.append_, run_underlying ht, sizeOf, typeInfo, hi, hsize, Builtin.lenOf, Builtin.firstCells, loadCells, loadCellsFrom, hnc, storeCells]
  · obtain ⟨b, off, rfl, hb, hcell⟩ := hn hne
    have hnews : ∀ j u, (tcells news)[j]? = some u → w.cell? ((⟨b, off, none⟩ : Addr).add j) = some u := fun j u hj => by
      rw [Addr.add_lit, ← hj]
      exact TmsAt.cell hn j (by rw [← tcells_len]; exact (List.getElem?_eq_some_iff.1 hj).1)
    obtain ⟨v', w', hrun, h2, h3, h4, h5⟩ := run_append_own_at (P := P) w base t ty e i z 3 bytes ht hi hz hsize hby hzs (by omega) v l.length (tcells l) hr ⟨b, off, none⟩ news.length c (tcells news) (tcells_len _) hnews (tcells_one _) h3'3 hbytes hbase
    refine ⟨v', w', hrun, ?_, h3, h5.imp id fun h k hk => by rw [h] at hk; injection hk with hk; omega⟩
    show w'.ownsRow base e 3 v' (l ++ news).length (tcells (l ++ news))
    rw [List.length_append, tcells_append]
    exact h2

theorem wp_append_terms {P : Program} {o : Oper} {a : Act} {K : Act → World → Prop} {Q : Exit → Act → World → Prop} (s x : Operand) (t : TypeId)
    (ho : o.op = .call { callee := .builtin .append, args := #[s, x], argTypes := #[t, t] })
    (i : TypeInfo) (z : Value) (bytes : Nat) (ht : P.underlying t = some (.slice e)) (hi : P.info? e = some i) (hz : i.zero = some z)
    (hsize : i.size = 3) (hby : i.bytes = bytes) (hzs : z.cells.size = 3) (hs : a.eval s = v) (hr : TRow w base e v l) (A : Option Addr) (n c : Nat) (news : List Tm) (hx : a.eval x = .slice A n c)
    (hnl : n = news.length) (hn : TmsAt w A news)
    (h3'3 : l.length + news.length ≤ maxLen) (hbytes : (l.length + news.length) * bytes ≤ 140737488355328) (hbase : base ≤ w.heap.size)
    (h : ∀ v' w', TRow w' base e v' (l ++ news) → w.grownBy w' v.ownBlock → (v'.ownBlock = v.ownBlock ∨ ∀ k, v'.ownBlock = some k → w.heap.size ≤ k) → K (a.put o.dst v') w') : o.wp P a w K Q := by
  subst hnl
  obtain ⟨v', w', hrun, h2, h3, h4⟩ := run_append_terms (P := P) t o.type i z bytes ht hi hz hsize hby hzs hr A c news hn h3'3 hbytes hbase
  unfold Oper.wp execOp
  simp only [ho, resolve, invoke, builtin, Sem.run_bind, Sem.run_pure, Result.andThen_ok, List.map_toArray, List.map_cons, List.map_nil, hs, hx, hrun]
  exact h v' w' h2 h3 h4

theorem wpList_append_terms {P : Program} {ops : Array Oper} {rest : List Oper} {o : Oper} {a : Act} {Q : Exit → Act → World → Prop} (hgd : o.guard = none) (s x : Operand) (t : TypeId)
    (ho : o.op = .call { callee := .builtin .append, args := #[s, x], argTypes := #[t, t] })
    (i : TypeInfo) (z : Value) (bytes : Nat) (ht : P.underlying t = some (.slice e)) (hi : P.info? e = some i) (hz : i.zero = some z)
    (hsize : i.size = 3) (hby : i.bytes = bytes) (hzs : z.cells.size = 3) (hs : a.eval s = v) (hr : TRow w base e v l) (A : Option Addr) (n c : Nat) (news : List Tm) (hx : a.eval x = .slice A n c)
    (hnl : n = news.length) (hn : TmsAt w A news)
    (h3'3 : l.length + news.length ≤ maxLen) (hbytes : (l.length + news.length) * bytes ≤ 140737488355328) (hbase : base ≤ w.heap.size)
    (h : ∀ v' w', TRow w' base e v' (l ++ news) → w.grownBy w' v.ownBlock → (v'.ownBlock = v.ownBlock ∨ ∀ k, v'.ownBlock = some k → w.heap.size ≤ k) → wpList P ops Q rest (a.put o.dst v') w') :
    wpList P ops Q (o :: rest) a w :=
  wpList_plain hgd fun _ hK => wp_append_terms s x t ho i z bytes ht hi hz hsize hby hzs hs hr A n c news hx hnl hn h3'3 hbytes hbase fun v' w' h2 h3 h4 => hK _ _ (h v' w' h2 h3 h4)

theorem step_append_terms {P : Program} {ops : Array Oper} {o : Oper} {a : Act} {K : Act → World → Prop} {Q : Exit → Act → World → Prop} {E : Prop} (hgd : o.guard = none) (s x : Operand) (t : TypeId)
    (ho : o.op = .call { callee := .builtin .append, args := #[s, x], argTypes := #[t, t] })
    (i : TypeInfo) (z : Value) (bytes : Nat) (ht : P.underlying t = some (.slice e)) (hi : P.info? e = some i) (hz : i.zero = some z)
    (hsize : i.size = 3) (hby : i.bytes = bytes) (hzs : z.cells.size = 3) (hs : a.eval s = v) (hr : TRow w base e v l) (A : Option Addr) (n c : Nat) (news : List Tm) (hx : a.eval x = .slice A n c)
    (hnl : n = news.length) (hn : TmsAt w A news)
    (h3'3 : l.length + news.length ≤ maxLen) (hbytes : (l.length + news.length) * bytes ≤ 140737488355328) (hbase : base ≤ w.heap.size)
    (h : ∀ v' w', TRow w' base e v' (l ++ news) → w.grownBy w' v.ownBlock → (v'.ownBlock = v.ownBlock ∨ ∀ k, v'.ownBlock = some k → w.heap.size ≤ k) → K (a.put o.dst v') w') :
    if Region.wanted o (yielded ops a.tmps) = true then Oper.wp P o a w K Q else E := by
  have hw : Region.wanted o (yielded ops a.tmps) = true := by simp [Region.wanted, hgd]
  rw [if_pos hw]
  exact wp_append_terms s x t ho i z bytes ht hi hz hsize hby hzs hs hr A n c news hx hnl hn h3'3 hbytes hbase h

/-- the term that a literal of one element is laid in -/
theorem terms_one' {w : World} {n : Tm} {t : TypeId} {g : Nat} (h : g = w.heap.size) : TmsAt (w.alloc (.cells #[.int .i64 n.op, .int .i64 n.a, .int .i64 n.b] t)) (some ⟨g, 0, none⟩) [n] := by
  subst h
  refine TmsAt.mk (by simp) fun i m hi => ?_
  rcases i with _ | i
  · simp at hi
    subst hi
    simp [Tm.lies]
  · simp at hi
end
end Go.Proofs.Ytmghkonmfbpjcab
