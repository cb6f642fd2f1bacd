/- TRow RunP CRow ArgR ArgB Info Ops RefG Check Check2 FlowS RefS FlowP. -/
import Derived.Test.YtmghkonmfbpjcabGA
import Derived.Test.YtmghkonmfbpjcabProg
import Derived.WalkLawsBesides
import Derived.Deep.QuietTactic
import Derived.BigQuiet
import Derived.Deep.LoopGhost
import Derived.Deep.CutRange
import Derived.Deep.DeepCutAuto
set_option linter.unusedVariables false
set_option linter.unusedSimpArgs false
namespace Go.Proofs.Ytmghkonmfbpjcab
section
open Go.RowKit
deriving instance DecidableEq for Tm
def Tm.cells (n : Tm) : List Value := [.int .i64 n.op, .int .i64 n.a, .int .i64 n.b]
def Tm.lies (n : Tm) (w : World) (b off : Nat) : Prop :=
 w.cell? ⟨b, off, none⟩ = some (.int .i64 n.op) ∧ w.cell? ⟨b, off + 1, none⟩ = some (.int .i64 n.a) ∧ w.cell? ⟨b, off + 2, none⟩ = some (.int .i64 n.b)
def TmsAt (w : World) (A : Option Addr) (l : List Tm) : Prop :=
 l ≠ [] → ∃ b off, A = some ⟨b, off, none⟩ ∧ b < w.heap.size ∧ ∀ (i : Nat) (n : Tm), l[i]? = some n → n.lies w b (off + i * 3)
theorem Tm.lies.below {n : Tm} {B : Nat} {w w' : World} {b off : Nat} (h : n.lies w b off) (hb : Below B w w') (hl : b < B) : n.lies w' b off := by (
 obtain ⟨hc, _⟩ := bcell hb
 obtain ⟨h0, h1, h2⟩ := h
 exact ⟨(hc _ _ hl).trans h0, (hc _ _ hl).trans h1, (hc _ _ hl).trans h2⟩)
theorem TmsAt.below {w w' : World} {A : Option Addr} {l : List Tm} (h : TmsAt w A l) (hb : Below w.heap.size w w') : TmsAt w' A l := fun hn => by (
 obtain ⟨b, off, e, hl, hc⟩ := h hn
 exact ⟨b, off, e, Nat.lt_of_lt_of_le hl hb.size, fun i n hi => (hc i n hi).below hb hl⟩)
theorem TmsAt.mk {w : World} {b off : Nat} {l : List Tm} (hb : b < w.heap.size) (h : ∀ (i : Nat) (n : Tm), l[i]? = some n → n.lies w b (off + i * 3)) : TmsAt w (some ⟨b, off, none⟩) l :=
 fun _ => ⟨b, off, rfl, hb, h⟩
theorem TmsAt.get {w : World} {A : Option Addr} {l : List Tm} (h : TmsAt w A l) {k : Nat} (hk : k < l.length) :
 ∃ b off n, A = some ⟨b, off, none⟩ ∧ b < w.heap.size ∧ l[k]? = some n ∧ n.lies w b (off + k * 3) := by (
 obtain ⟨b, off, e, hb, hc⟩ := h (by intro h0; subst h0; simp at hk)
 exact ⟨b, off, l[k], e, hb, List.getElem?_eq_getElem hk, hc k _ (List.getElem?_eq_getElem hk)⟩)
theorem TmsAt.nil {w : World} {A : Option Addr} : TmsAt w A [] := fun h => absurd rfl h
def tcells : List Tm → List Value
 | [] => []
 | n :: l => n.cells ++ tcells l
theorem Tm.cells_len (n : Tm) : n.cells.length = 3 := rfl
theorem tcells_len (l : List Tm) : (tcells l).length = l.length * 3 := by (
 induction l with
 | nil => rfl
 | cons n l ih => simp only [tcells, List.length_append, Tm.cells_len, ih, List.length_cons]; omega)
theorem tcells_append (a b : List Tm) : tcells (a ++ b) = tcells a ++ tcells b := by (
 induction a with
 | nil => rfl
 | cons n a ih => simp only [List.cons_append, tcells, ih, List.append_assoc])
theorem tcells_get : ∀ (l : List Tm) (i j : Nat), j < 3 → (tcells l)[i * 3 + j]? = (l[i]?).bind fun n => n.cells[j]?
 | [], i, j, hj => by simp [tcells]
 | n :: l, 0, j, hj => by (
 simp only [tcells, Nat.zero_mul, Nat.zero_add, List.getElem?_cons_zero, Option.bind_some]
 rw [List.getElem?_append_left (by rw [Tm.cells_len]; exact hj)])
 | n :: l, i + 1, j, hj => by (
 simp only [tcells, List.getElem?_cons_succ]
 rw [List.getElem?_append_right (by rw [Tm.cells_len]; omega), Tm.cells_len, show (i + 1) * 3 + j - 3 = i * 3 + j by omega]
 exact tcells_get l i j hj)
theorem tcells_one (l : List Tm) : ∀ u ∈ tcells l, u.oneCell' = true := by (
 induction l with
 | nil => intro u hu; cases hu
 | cons n l ih =>
  intro u hu
  simp only [tcells, List.mem_append] at hu
  rcases hu with hu | hu
  · (
 simp only [Tm.cells, List.mem_cons, List.not_mem_nil, or_false] at hu
 rcases hu with rfl | rfl | rfl <;> rfl)
  · exact ih u hu)
theorem tlies_iff {n : Tm} {w : World} {b off : Nat} : n.lies w b off ↔ ∀ j, j < 3 → w.cell? ⟨b, off + j, none⟩ = n.cells[j]? := by (
 constructor
 · (
 rintro ⟨h0, h1, h2⟩ j hj
 match j, hj with
 | 0, _ => exact h0
 | 1, _ => exact h1
 | 2, _ => exact h2)
 · (
 intro h
 exact ⟨h 0 (by omega), h 1 (by omega), h 2 (by omega)⟩))
theorem TmsAt.cell {w : World} {b off : Nat} {l : List Tm} (h : TmsAt w (some ⟨b, off, none⟩) l) (k : Nat) (hk : k < l.length * 3) : w.cell? ⟨b, off + k, none⟩ = (tcells l)[k]? := by (
 have hd : k / 3 < l.length := by omega
 obtain ⟨b', off', n, e, _, hn, hl⟩ := h.get hd
 injection e with e
 injection e with e1 e2
 subst e1 e2
 have h3' : k % 3 < 3 := Nat.mod_lt _ (by omega)
 have := tlies_iff.1 hl (k % 3) h3'
 rw [show off + k / 3 * 3 + k % 3 = off + k by omega] at this
 have hg := tcells_get l (k / 3) (k % 3) h3'
 rw [show k / 3 * 3 + k % 3 = k by omega, hn] at hg
 rw [this, hg]
 rfl)
def TRow (w : World) (base : Nat) (e : TypeId) (v : Value) (l : List Tm) : Prop := w.ownsRow base e 3 v l.length (tcells l)
section
variable {w w' : World} {base : Nat} {e : TypeId} {v : Value} {l : List Tm}
theorem TRow.nil_ (w : World) (base : Nat) (e : TypeId) : TRow w base e (.slice none 0 0) [] := ⟨rfl, .inl ⟨rfl, rfl⟩⟩
theorem TRow.open (h : TRow w base e v l) : (v = .slice none 0 0 ∧ l = []) ∨ ∃ g cap cur, v = .slice (some ⟨g, 0, none⟩) l.length cap ∧ base ≤ g ∧ w.heap[g]? = some (.cells cur e (0, 0)) ∧ l.length ≤ cap ∧ cap ≤ maxLen ∧ cur.size = cap * 3 ∧
 ∀ k, k < l.length * 3 → cur[k]? = (tcells l)[k]? := by (
 obtain ⟨hl, ⟨hv, hn⟩ | ⟨g, cap, cur, hv, hb, hh, h1, h2, h3, h4⟩⟩ := h
 · exact .inl ⟨hv, List.eq_nil_of_length_eq_zero hn⟩
 · (
 refine .inr ⟨g, cap, cur, hv, hb, hh, h1, h2, h3, fun k hk => ?_⟩
 rw [← h4, List.getElem?_take, if_pos hk, Array.getElem?_toList]))
theorem TRow.close {g cap : Nat} {cur : Array Value} (hb : base ≤ g) (hh : w.heap[g]? = some (.cells cur e (0, 0))) (h1 : l.length ≤ cap) (h2 : cap ≤ maxLen) (h3 : cur.size = cap * 3)
 (h4 : ∀ k, k < l.length * 3 → cur[k]? = (tcells l)[k]?) : TRow w base e (.slice (some ⟨g, 0, none⟩) l.length cap) l := by (
 refine ⟨tcells_len l, .inr ⟨g, cap, cur, rfl, hb, hh, h1, h2, h3, ?_⟩⟩
 refine List.ext_getElem? fun k => ?_
 rw [List.getElem?_take]
 split
 · (
 rename_i hk
 rw [Array.getElem?_toList]
 exact h4 k hk)
 · (
 rename_i hk
 rw [List.getElem?_eq_none (by rw [tcells_len]; omega)]))
theorem TRow.lt (h : TRow w base e v l) : ∀ k, v.ownBlock = some k → base ≤ k ∧ k < w.heap.size := by (
 rintro k hk
 rcases h.open with ⟨rfl, _⟩ | ⟨g, cap, cur, rfl, hb, hh, _⟩
 · simp [Value.ownBlock] at hk
 · (
 simp [Value.ownBlock] at hk
 subst hk
 exact ⟨hb, lt_of_heap hh⟩))
theorem TRow.of_block (h : TRow w base e v l) (hk : ∀ k, v.ownBlock = some k → w'.heap[k]? = w.heap[k]?) : TRow w' base e v l := by (
 obtain ⟨hl, ⟨hv, hn⟩ | ⟨g, cap, cur, hv, hb, hh, r⟩⟩ := h
 · exact ⟨hl, .inl ⟨hv, hn⟩⟩
 · exact ⟨hl, .inr ⟨g, cap, cur, hv, hb, (hk g (by rw [hv]; rfl)).trans hh, r⟩⟩)
theorem TRow.kept {row : Option Nat} (h : TRow w base e v l) (hg : w.grownBy w' row) (hne : v.ownBlock = none ∨ v.ownBlock ≠ row) : TRow w' base e v l :=
 h.of_block fun k hk => hg.block k (h.lt k hk).2 (by
  rcases hne with hn | hn
  · rw [hn] at hk; cases hk
  · rw [← hk]; exact hn)
theorem TRow.below {B : Nat} (h : TRow w base e v l) (hb : Below B w w') (hB : ∀ k, v.ownBlock = some k → k < B) : TRow w' base e v l := h.of_block fun k hk => hb.block k (hB k hk)
theorem TRow.below' (h : TRow w base e v l) (hb : Below w.heap.size w w') : TRow w' base e v l := h.of_block fun k hk => hb.block k (h.lt k hk).2
theorem TRow.alloc (h : TRow w base e v l) (o : Obj) : TRow (w.alloc o) base e v l := h.of_block fun k hk => Below.heap_alloc w o k (h.lt k hk).2
theorem TRow.drew (h : TRow w base e v l) : TRow w.drew base e v l := h
theorem TRow.drewN (h : TRow w base e v l) (n : Nat) : TRow (w.drewN n) base e v l := h
theorem TRow.far (h : TRow w base e v l) {p : Addr} (hp : v.ownBlock ≠ some p.block) (u : Value) : TRow (w.setCell p u) base e v l :=
 h.of_block fun k hk => Below.heap_setCell w p u k (by rintro rfl; exact hp hk)
theorem TRow.mono {base' : Nat} (h : TRow w base e v l) (hb : base' ≤ base) : TRow w base' e v l := by (
 obtain ⟨hl, h | ⟨g, cap, cur, hv, hg, r⟩⟩ := h
 · exact ⟨hl, .inl h⟩
 · exact ⟨hl, .inr ⟨g, cap, cur, hv, Nat.le_trans hb hg, r⟩⟩)
theorem TRow.shape (h : TRow w base e v l) : ∃ A cap, v = .slice A l.length cap ∧ l.length ≤ cap ∧ cap ≤ maxLen := by (
 rcases h.open with ⟨rfl, rfl⟩ | ⟨g, cap, cur, rfl, _, _, hc, hm, _⟩
 · exact ⟨none, 0, rfl, Nat.le_refl _, Nat.zero_le _⟩
 · exact ⟨_, cap, rfl, hc, hm⟩)
theorem TRow.nodes {A : Option Addr} {n cap : Nat} (h : TRow w base e (.slice A n cap) l) : TmsAt w A l := fun hn => by (
 rcases h.open with ⟨_, rfl⟩ | ⟨g, cap, cur, hv, hb, hh, _, _, _, hc⟩
 · exact absurd rfl hn
 · (
 injection hv with hA
 subst hA
 refine ⟨g, 0, rfl, lt_of_heap hh, fun i n hi => tlies_iff.2 fun j hj => ?_⟩
 have hlt : i < l.length := (List.getElem?_eq_some_iff.1 hi).1
 have := hc (i * 3 + j) (by omega)
 rw [tcells_get l i j hj, hi] at this
 rw [Nat.zero_add]
 simp only [World.cell?, hh, this]
 simp))
theorem TRow.get (h : TRow w base e v l) {k : Nat} (hk : k < l.length) :
 ∃ g cap n, v = .slice (some ⟨g, 0, none⟩) l.length cap ∧ base ≤ g ∧ g < w.heap.size ∧ l[k]? = some n ∧ n.lies w g (k * 3) ∧ ∀ j, j < l.length * 3 → w.frozen? ⟨g, j, none⟩ = false := by (
 have hN := h.shape
 rcases h.open with ⟨_, rfl⟩ | ⟨g, cap, cur, rfl, hb, hh, hcl, hcm, hcs, hc⟩
 · simp at hk
 · (
 have hn := (h.nodes).get hk
 obtain ⟨b, off, n, e1, _, hn, hl⟩ := hn
 injection e1 with e1
 injection e1 with e1 e2
 subst e1 e2
 rw [Nat.zero_add] at hl
 exact ⟨g, cap, n, rfl, hb, lt_of_heap hh, hn, hl, fun j hj => by simp [World.frozen?, hh]⟩))
theorem TRow.ne_blk {g : Nat} {t : TypeId} {cs : Array Value} (h : TRow w base e v l) (hg : Blk w g t cs) (hne : e ≠ t) : v.ownBlock ≠ some g := by (
 rcases h.open with ⟨rfl, _⟩ | ⟨g', cap, cur, rfl, _, hh, _⟩
 · simp [Value.ownBlock]
 · (
 intro he
 simp [Value.ownBlock] at he
 subst he
 have hB : Blk w g' e cur := by unfold Blk; exact hh
 exact hB.ne_ hg hne rfl))
theorem TRow.blk {g n cap : Nat} (h : TRow w base e (.slice (some ⟨g, 0, none⟩) n cap) l) : ∃ cs, Blk w g e cs := by (
 rcases h.open with ⟨hv, _⟩ | ⟨g', cap', cur, hv, hb, hh, _⟩
 · cases hv
 · (
 injection hv with hA
 injection hA with hA
 injection hA with hg
 subst hg
 exact ⟨cur, by unfold Blk; exact hh⟩))
theorem TRow.ne_row {base' : Nat} {e' : TypeId} {u : Value} {ys : List Value} (h : TRow w base e v l) (h' : Row w base' e' u ys) (hne : e ≠ e') : v.ownBlock = none ∨ v.ownBlock ≠ u.ownBlock := by (
 rcases h' with ⟨rfl, _⟩ | ⟨g', o, cap, cur, rfl, _, hh, _⟩
 · (
 rcases hv : v.ownBlock with _ | k
 · exact .inl rfl
 · exact .inr (by simp [Value.ownBlock]))
 · exact .inr (h.ne_blk (cs := cur) (t := e') (by unfold Blk; exact hh) hne))
theorem run_append_terms {P : Program} (t ty : TypeId) (i : TypeInfo) (z : Value) (bytes : Nat) (ht : P.underlying t = some (.slice e)) (hi : P.info? e = some i) (hz : i.zero = some z)
 (hsize : i.size = 3) (hby : i.bytes = bytes) (hzs : z.cells.size = 3) (hr : TRow w base e v l) (A : Option Addr) (c : Nat) (news : List Tm) (hn : TmsAt w A news)
 (h3'3 : l.length + news.length ≤ maxLen) (hbytes : (l.length + news.length) * bytes ≤ 140737488355328) (hbase : base ≤ w.heap.size) :
 ∃ v' w', (Builtin.append_ #[t, t] ty #[v, .slice A news.length c]).run P w = .ok v' w' ∧ TRow w' base e v' (l ++ news) ∧ w.grownBy w' v.ownBlock ∧ (v'.ownBlock = v.ownBlock ∨ ∀ k, v'.ownBlock = some k → w.heap.size ≤ k) := by (
 by_cases hne : news = []
 · (
 subst hne
 refine ⟨v, w, ?_, by simpa using hr, World.grownBy.refl w _, .inl rfl⟩
 rcases hr.open with ⟨rfl, rfl⟩ | ⟨g, cap, cur, rfl, _, _, hnc, _⟩
 · rcases A with _ | A <;> simp [Builtin.append_, run_underlying ht, sizeOf, typeInfo, hi, hsize, Builtin.lenOf, Builtin.firstCells, loadCells, loadCellsFrom]
 · rcases A with _ | A <;> simp [Builtin.append_, run_underlying ht, sizeOf, typeInfo, hi, hsize, Builtin.lenOf, Builtin.firstCells, loadCells, loadCellsFrom, hnc, storeCells])
 · (
 obtain ⟨b, off, rfl, hb, hcell⟩ := hn hne
 have hnews : ∀ j u, (tcells news)[j]? = some u → w.cell? ((⟨b, off, none⟩ : Addr).add j) = some u := fun j u hj => by (
 rw [Addr.add_lit, ← hj]
 exact TmsAt.cell hn j (by rw [← tcells_len]; exact (List.getElem?_eq_some_iff.1 hj).1))
 obtain ⟨v', w', hrun, h2, h3, h4, h5⟩ := run_append_own_at (P := P) w base t ty e i z 3 bytes ht hi hz hsize hby hzs (by omega) v l.length (tcells l) hr ⟨b, off, none⟩ news.length c (tcells news) (tcells_len _) hnews (tcells_one _) h3'3 hbytes hbase
 refine ⟨v', w', hrun, ?_, h3, h5.imp id fun h k hk => by rw [h] at hk; injection hk with hk; omega⟩
 show w'.ownsRow base e 3 v' (l ++ news).length (tcells (l ++ news))
 rw [List.length_append, tcells_append]
 exact h2))
theorem wp_append_terms {P : Program} {o : Oper} {a : Act} {K : Act → World → Prop} {Q : Exit → Act → World → Prop} (s x : Operand) (t : TypeId)
 (ho : o.op = .call { callee := .builtin .append, args := #[s, x], argTypes := #[t, t] })
 (i : TypeInfo) (z : Value) (bytes : Nat) (ht : P.underlying t = some (.slice e)) (hi : P.info? e = some i) (hz : i.zero = some z)
 (hsize : i.size = 3) (hby : i.bytes = bytes) (hzs : z.cells.size = 3) (hs : a.eval s = v) (hr : TRow w base e v l) (A : Option Addr) (n c : Nat) (news : List Tm) (hx : a.eval x = .slice A n c)
 (hnl : n = news.length) (hn : TmsAt w A news)
 (h3'3 : l.length + news.length ≤ maxLen) (hbytes : (l.length + news.length) * bytes ≤ 140737488355328) (hbase : base ≤ w.heap.size)
 (h : ∀ v' w', TRow w' base e v' (l ++ news) → w.grownBy w' v.ownBlock → (v'.ownBlock = v.ownBlock ∨ ∀ k, v'.ownBlock = some k → w.heap.size ≤ k) → K (a.put o.dst v') w') : o.wp P a w K Q := by (
 subst hnl
 obtain ⟨v', w', hrun, h2, h3, h4⟩ := run_append_terms (P := P) t o.type i z bytes ht hi hz hsize hby hzs hr A c news hn h3'3 hbytes hbase
 unfold Oper.wp execOp
 simp only [ho, resolve, invoke, builtin, Sem.run_bind, Sem.run_pure, Result.andThen_ok, List.map_toArray, List.map_cons, List.map_nil, hs, hx, hrun]
 exact h v' w' h2 h3 h4)
theorem wpList_append_terms {P : Program} {ops : Array Oper} {rest : List Oper} {o : Oper} {a : Act} {Q : Exit → Act → World → Prop} (hgd : o.guard = none) (s x : Operand) (t : TypeId)
 (ho : o.op = .call { callee := .builtin .append, args := #[s, x], argTypes := #[t, t] })
 (i : TypeInfo) (z : Value) (bytes : Nat) (ht : P.underlying t = some (.slice e)) (hi : P.info? e = some i) (hz : i.zero = some z)
 (hsize : i.size = 3) (hby : i.bytes = bytes) (hzs : z.cells.size = 3) (hs : a.eval s = v) (hr : TRow w base e v l) (A : Option Addr) (n c : Nat) (news : List Tm) (hx : a.eval x = .slice A n c)
 (hnl : n = news.length) (hn : TmsAt w A news)
 (h3'3 : l.length + news.length ≤ maxLen) (hbytes : (l.length + news.length) * bytes ≤ 140737488355328) (hbase : base ≤ w.heap.size)
 (h : ∀ v' w', TRow w' base e v' (l ++ news) → w.grownBy w' v.ownBlock → (v'.ownBlock = v.ownBlock ∨ ∀ k, v'.ownBlock = some k → w.heap.size ≤ k) → wpList P ops Q rest (a.put o.dst v') w') :
 wpList P ops Q (o :: rest) a w :=
 wpList_plain hgd fun _ hK => wp_append_terms s x t ho i z bytes ht hi hz hsize hby hzs hs hr A n c news hx hnl hn h3'3 hbytes hbase fun v' w' h2 h3 h4=> hK _ _ (h v' w' h2 h3 h4)
theorem step_append_terms {P : Program} {ops : Array Oper} {o : Oper} {a : Act} {K : Act → World → Prop} {Q : Exit → Act → World → Prop} {E : Prop} (hgd : o.guard = none) (s x : Operand) (t : TypeId)
 (ho : o.op = .call { callee := .builtin .append, args := #[s, x], argTypes := #[t, t] })
 (i : TypeInfo) (z : Value) (bytes : Nat) (ht : P.underlying t = some (.slice e)) (hi : P.info? e = some i) (hz : i.zero = some z)
 (hsize : i.size = 3) (hby : i.bytes = bytes) (hzs : z.cells.size = 3) (hs : a.eval s = v) (hr : TRow w base e v l) (A : Option Addr) (n c : Nat) (news : List Tm) (hx : a.eval x = .slice A n c)
 (hnl : n = news.length) (hn : TmsAt w A news)
 (h3'3 : l.length + news.length ≤ maxLen) (hbytes : (l.length + news.length) * bytes ≤ 140737488355328) (hbase : base ≤ w.heap.size)
 (h : ∀ v' w', TRow w' base e v' (l ++ news) → w.grownBy w' v.ownBlock → (v'.ownBlock = v.ownBlock ∨ ∀ k, v'.ownBlock = some k → w.heap.size ≤ k) → K (a.put o.dst v') w') :
 if Region.wanted o (yielded ops a.tmps) = true then Oper.wp P o a w K Q else E := by (
 have hw : Region.wanted o (yielded ops a.tmps) = true := by simp [Region.wanted, hgd]
 rw [if_pos hw]
 exact wp_append_terms s x t ho i z bytes ht hi hz hsize hby hzs hs hr A n c news hx hnl hn h3'3 hbytes hbase h)
theorem terms_one' {w : World} {n : Tm} {t : TypeId} {g : Nat} (h : g = w.heap.size) : TmsAt (w.alloc (.cells #[.int .i64 n.op, .int .i64 n.a, .int .i64 n.b] t)) (some ⟨g, 0, none⟩) [n] := by (
 subst h
 refine TmsAt.mk (by simp) fun i m hi => ?_
 rcases i with _ | i
 · (
 simp at hi
 subst hi
 simp [Tm.lies])
 · simp at hi)
end
end
section
open Go.RowKit
def ltT (a b : Tm) : Bool := decide (a.op < b.op ∨ a.op = b.op ∧ (a.a < b.a ∨ a.a = b.a ∧ a.b < b.b))
theorem ltT_irrefl (a : Tm) : ltT a a = false := by simp [ltT]
theorem ltT_trans {a b c : Tm} (h1 : ltT a b = true) (h2 : ltT b c = true) : ltT a c = true := by (
 simp only [ltT, decide_eq_true_eq] at *
 omega)
theorem ltT_total {a b : Tm} (h : a ≠ b) : ltT a b = true ∨ ltT b a = true := by (
 obtain ⟨a0, a1, a2⟩ := a
 obtain ⟨b0, b1, b2⟩ := b
 simp only [ltT, decide_eq_true_eq]
 by_cases h0 : a0 = b0
 · (
 by_cases h1 : a1 = b1
 · (
 have h2 : a2 ≠ b2 := fun h2 => h (by rw [h0, h1, h2])
 omega)
 · omega)
 · omega)
theorem ltT_ne {a b : Tm} (h : ltT a b = true) : a ≠ b := fun e => by rw [e, ltT_irrefl] at h; cases h
def onceL : List (Tm × Int) → Tm → List (Tm × Int)
 | [], t => [(t, 1)]
 | (u, n) :: l, t => if ltT u t then (u, n) :: onceL l t else if u = t then (u, n + 1) :: l else (t, 1) :: (u, n) :: l
def countsL (ts : List Tm) : List (Tm × Int) := ts.foldl onceL []
theorem countsL_snoc (ts : List Tm) (t : Tm) : countsL (ts ++ [t]) = onceL (countsL ts) t := by simp [countsL]
def Asc (l : List (Tm × Int)) : Prop := l.Pairwise fun x y => ltT x.1 y.1 = true
theorem onceL_mem : ∀ (l : List (Tm × Int)) (t : Tm) (x : Tm × Int), x ∈ onceL l t → x.1 = t ∨ x ∈ l
 | [], t, x, h => by simp [onceL] at h; exact .inl (by rw [h])
 | (u, n) :: l, t, x, h => by (
 unfold onceL at h
 split at h
 · (
 rcases List.mem_cons.1 h with h | h
 · exact .inr (by simp [h])
 · exact (onceL_mem l t x h).imp id fun h => by simp [h])
 · (
 split at h
 · (
 rename_i hu
 rcases List.mem_cons.1 h with h | h
 · exact .inl (by rw [h]; exact hu)
 · exact .inr (by simp [h]))
 · (
 rcases List.mem_cons.1 h with h | h
 · exact .inl (by rw [h])
 · exact .inr h)))
theorem onceL_asc : ∀ (l : List (Tm × Int)) (t : Tm), Asc l → Asc (onceL l t)
 | [], t, _ => by simp [onceL, Asc]
 | (u, n) :: l, t, h => by (
 obtain ⟨h1, h2⟩ := List.pairwise_cons.1 h
 unfold onceL
 split
 · (
 rename_i hu
 refine List.pairwise_cons.2 ⟨fun y hy => ?_, onceL_asc l t h2⟩
 rcases onceL_mem l t y hy with e | e
 · rw [e]; exact hu
 · exact h1 y e)
 · (
 rename_i hu
 split
 · exact List.pairwise_cons.2 ⟨h1, h2⟩
 · (
 rename_i hne
 have htu : ltT t u = true := (ltT_total hne).resolve_left (by simpa using hu)
 exact List.pairwise_cons.2 ⟨fun y hy => by
  rcases List.mem_cons.1 hy with e | e
  · rw [e]; exact htu
  · exact ltT_trans htu (h1 y e), h⟩)))
theorem countsL_asc (ts : List Tm) : Asc (countsL ts) := by (
 have : ∀ (ts : List Tm) (l : List (Tm × Int)), Asc l → Asc (ts.foldl onceL l) := fun ts => by (
 induction ts with
 | nil => exact fun l h => h
 | cons t ts ih => exact fun l h => ih _ (onceL_asc l t h))
 exact this ts [] (by simp [Asc]))
def cntOf (l : List (Tm × Int)) (t : Tm) : Int := match l.find? (fun x => x.1 == t) with | some x => x.2 | none => 0
theorem cntOf_cons (u : Tm) (n : Int) (l : List (Tm × Int)) (t : Tm) : cntOf ((u, n) :: l) t = if u = t then n else cntOf l t := by (
 unfold cntOf
 rw [List.find?_cons]
 by_cases h : u = t
 · simp [h]
 · (
 have : (u == t) = false := by simpa using h
 simp [this, h]))
theorem onceL_cnt : ∀ (l : List (Tm × Int)) (t v : Tm), Asc l → cntOf (onceL l t) v = if v = t then cntOf l v + 1 else cntOf l v
 | [], t, v, _ => by (
 rw [onceL, cntOf_cons]
 by_cases h : t = v
 · subst h; simp [cntOf]
 · rw [if_neg h, if_neg (Ne.symm h)])
 | (u, n) :: l, t, v, h => by (
 obtain ⟨h1, h2⟩ := List.pairwise_cons.1 h
 have ih := onceL_cnt l t v h2
 unfold onceL
 split
 · (
 rename_i hu
 rw [cntOf_cons, cntOf_cons, ih]
 by_cases huv : u = v
 · (
 subst huv
 rw [if_pos rfl, if_pos rfl, if_neg (ltT_ne hu)])
 · rw [if_neg huv, if_neg huv])
 · (
 rename_i hu
 split
 · (
 rename_i hut
 subst hut
 rw [cntOf_cons, cntOf_cons]
 by_cases huv : u = v
 · subst huv; simp
 · rw [if_neg huv, if_neg huv, if_neg (Ne.symm huv)])
 · (
 rename_i hne
 have htu : ltT t u = true := (ltT_total hne).resolve_left (by simpa using hu)
 rw [cntOf_cons]
 by_cases htv : t = v
 · (
 subst htv
 rw [if_pos rfl, if_pos rfl]
 have h0 : cntOf ((u, n) :: l) t = 0 := by (
 unfold cntOf
 rw [List.find?_eq_none.2]
 intro y hy
 have hy2 : ltT t y.1 = true := by (
 rcases List.mem_cons.1 hy with e | e
 · rw [e]; exact htu
 · exact ltT_trans htu (h1 y e))
 have := ltT_ne hy2
 simpa using Ne.symm this)
 rw [h0]; rfl)
 · rw [if_neg htv, if_neg (Ne.symm htv)])))
theorem countsL_cnt (ts : List Tm) (v : Tm) : cntOf (countsL ts) v = (ts.count v : Int) := by (
 have h : ∀ (ts : List Tm) (l : List (Tm × Int)), Asc l → cntOf (ts.foldl onceL l) v = cntOf l v + (ts.count v : Int) := fun ts => by (
 induction ts with
 | nil => intro l _; simp
 | cons t ts ih =>
  intro l hl
  rw [List.foldl_cons, ih _ (onceL_asc l t hl), onceL_cnt l t v hl, List.count_cons]
  by_cases h : v = t
  · subst h; simp; omega
  · (
 have : (t == v) = false := by simpa using Ne.symm h
 rw [if_neg h, this]; simp))
 rw [countsL, h ts [] (by simp [Asc])]
 simp [cntOf])
theorem onceL_pos : ∀ (l : List (Tm × Int)) (t : Tm), (∀ x ∈ l, 0 < x.2) → ∀ x ∈ onceL l t, 0 < x.2
 | [], t, _, x, hx => by simp [onceL] at hx; rw [hx]; show (0 : Int) < 1; decide
 | (u, n) :: l, t, h, x, hx => by (
 have hn : 0 < n := h (u, n) (by simp)
 have hl : ∀ y ∈ l, 0 < y.2 := fun y hy => h y (by simp [hy])
 unfold onceL at hx
 split at hx
 · (
 rcases List.mem_cons.1 hx with e | e
 · rw [e]; exact hn
 · exact onceL_pos l t hl x e)
 · (
 split at hx
 · (
 rcases List.mem_cons.1 hx with e | e
 · rw [e]; show 0 < n + 1; omega
 · exact hl x e)
 · (
 rcases List.mem_cons.1 hx with e | e
 · rw [e]; show (0 : Int) < 1; omega
 · exact h x e)))
theorem countsL_pos (ts : List Tm) : ∀ x ∈ countsL ts, 0 < x.2 := by (
 have : ∀ (ts : List Tm) (l : List (Tm × Int)), (∀ x ∈ l, 0 < x.2) → ∀ x ∈ ts.foldl onceL l, 0 < x.2 := fun ts => by (
 induction ts with
 | nil => exact fun l h => h
 | cons t ts ih => exact fun l h => ih _ (onceL_pos l t h))
 exact this ts [] (by simp))
theorem cntOf_mem {l : List (Tm × Int)} (h : Asc l) {x : Tm × Int} (hx : x ∈ l) : cntOf l x.1 = x.2 := by (
 induction l with
 | nil => cases hx
 | cons y l ih =>
  obtain ⟨h1, h2⟩ := List.pairwise_cons.1 h
  obtain ⟨u, n⟩ := y
  rw [cntOf_cons]
  rcases List.mem_cons.1 hx with e | e
  · subst e; simp
  · rw [if_neg (ltT_ne (h1 x e)), ih h2 e])
theorem cntOf_none {l : List (Tm × Int)} {t : Tm} (h : ∀ x ∈ l, x.1 ≠ t) : cntOf l t = 0 := by (
 unfold cntOf
 rw [List.find?_eq_none.2 fun x hx => by simpa using h x hx])
theorem asc_unique : ∀ (l m : List (Tm × Int)), Asc l → Asc m → (∀ x ∈ l, 0 < x.2) → (∀ x ∈ m, 0 < x.2) → (∀ t, cntOf l t = cntOf m t) → l = m
 | [], [], _, _, _, _, _ => rfl
 | [], (u, n) :: m, _, _, _, hp, h => by (
 have := h u
 rw [cntOf_cons, if_pos rfl] at this
 have hn := hp (u, n) (by simp)
 simp [cntOf] at this
 simp only at hn
 omega)
 | (u, n) :: l, [], _, _, hp, _, h => by (
 have := h u
 rw [cntOf_cons, if_pos rfl] at this
 have hn := hp (u, n) (by simp)
 simp [cntOf] at this
 simp only at hn
 omega)
 | (u, n) :: l, (v, k) :: m, hl, hm, hpl, hpm, h => by (
 obtain ⟨hl1, hl2⟩ := List.pairwise_cons.1 hl
 obtain ⟨hm1, hm2⟩ := List.pairwise_cons.1 hm
 have hn : 0 < n := hpl (u, n) (by simp)
 have hk : 0 < k := hpm (v, k) (by simp)
 have huv : u = v := by (
 by_cases e : u = v
 · exact e
 · (
 rcases ltT_total e with e1 | e1
 · (
 have := h u
 rw [cntOf_cons, if_pos rfl, cntOf_none (fun x hx => ?_)] at this
 · omega
 · (
 rcases List.mem_cons.1 hx with e2 | e2
 · rw [e2]; exact Ne.symm e
 · exact Ne.symm (ltT_ne (ltT_trans e1 (hm1 x e2)))))
 · (
 have := h v
 rw [cntOf_none (l := (u, n) :: l) (fun x hx => ?_), cntOf_cons, if_pos rfl] at this
 · omega
 · (
 rcases List.mem_cons.1 hx with e2 | e2
 · rw [e2]; exact e
 · exact Ne.symm (ltT_ne (ltT_trans e1 (hl1 x e2)))))))
 subst huv
 have hnk : n = k := by (
 have := h u
 rwa [cntOf_cons, cntOf_cons, if_pos rfl, if_pos rfl] at this)
 subst hnk
 rw [asc_unique l m hl2 hm2 (fun x hx => hpl x (by simp [hx])) (fun x hx => hpm x (by simp [hx])) fun t => ?_]
 have := h t
 rw [cntOf_cons, cntOf_cons] at this
 by_cases e : u = t
 · (
 subst e
 rw [cntOf_none fun x hx => Ne.symm (ltT_ne (hl1 x hx)), cntOf_none fun x hx => Ne.symm (ltT_ne (hm1 x hx))])
 · rwa [if_neg e, if_neg e] at this)
theorem onceL_len (l : List (Tm × Int)) (t : Tm) : (onceL l t).length ≤ l.length + 1 := by (
 induction l with
 | nil => simp [onceL]
 | cons x l ih =>
  obtain ⟨u, n⟩ := x
  unfold onceL
  split
  · simp; omega
  · split <;> simp)
theorem countsL_len (ts : List Tm) : (countsL ts).length ≤ ts.length := by (
 have : ∀ (ts : List Tm) (l : List (Tm × Int)), (ts.foldl onceL l).length ≤ l.length + ts.length := fun ts => by (
 induction ts with
 | nil => simp
 | cons t ts ih =>
  intro l
  rw [List.foldl_cons]
  have := ih (onceL l t)
  have := onceL_len l t
  simp; omega)
 have := this ts []
 simpa [countsL] using this)
end
section
open Go.RowKit
abbrev Ct := Tm × Int
def Ct.cells (n : Ct) : List Value := [.int .i64 n.1.op, .int .i64 n.1.a, .int .i64 n.1.b, .int .i64 n.2]
def Ct.lies (n : Ct) (w : World) (b off : Nat) : Prop :=
 w.cell? ⟨b, off, none⟩ = some (.int .i64 n.1.op) ∧ w.cell? ⟨b, off + 1, none⟩ = some (.int .i64 n.1.a) ∧ w.cell? ⟨b, off + 2, none⟩ = some (.int .i64 n.1.b) ∧ w.cell? ⟨b, off + 3, none⟩ = some (.int .i64 n.2)
def CtsAt (w : World) (A : Option Addr) (l : List Ct) : Prop :=
 l ≠ [] → ∃ b off, A = some ⟨b, off, none⟩ ∧ b < w.heap.size ∧ ∀ (i : Nat) (n : Ct), l[i]? = some n → n.lies w b (off + i * 4)
theorem Ct.lies.below {n : Ct} {B : Nat} {w w' : World} {b off : Nat} (h : n.lies w b off) (hb : Below B w w') (hl : b < B) : n.lies w' b off := by (
 obtain ⟨hc, _⟩ := bcell hb
 obtain ⟨h0, h1, h2, h3⟩ := h
 exact ⟨(hc _ _ hl).trans h0, (hc _ _ hl).trans h1, (hc _ _ hl).trans h2, (hc _ _ hl).trans h3⟩)
theorem CtsAt.below {w w' : World} {A : Option Addr} {l : List Ct} (h : CtsAt w A l) (hb : Below w.heap.size w w') : CtsAt w' A l := fun hn => by (
 obtain ⟨b, off, e, hl, hc⟩ := h hn
 exact ⟨b, off, e, Nat.lt_of_lt_of_le hl hb.size, fun i n hi => (hc i n hi).below hb hl⟩)
theorem CtsAt.mk {w : World} {b off : Nat} {l : List Ct} (hb : b < w.heap.size) (h : ∀ (i : Nat) (n : Ct), l[i]? = some n → n.lies w b (off + i * 4)) : CtsAt w (some ⟨b, off, none⟩) l :=
 fun _ => ⟨b, off, rfl, hb, h⟩
theorem CtsAt.get {w : World} {A : Option Addr} {l : List Ct} (h : CtsAt w A l) {k : Nat} (hk : k < l.length) :
 ∃ b off n, A = some ⟨b, off, none⟩ ∧ b < w.heap.size ∧ l[k]? = some n ∧ n.lies w b (off + k * 4) := by (
 obtain ⟨b, off, e, hb, hc⟩ := h (by intro h0; subst h0; simp at hk)
 exact ⟨b, off, l[k], e, hb, List.getElem?_eq_getElem hk, hc k _ (List.getElem?_eq_getElem hk)⟩)
theorem CtsAt.nil {w : World} {A : Option Addr} : CtsAt w A [] := fun h => absurd rfl h
def ccells : List Ct → List Value
 | [] => []
 | n :: l => n.cells ++ ccells l
theorem Ct.cells_len (n : Ct) : n.cells.length = 4 := rfl
theorem ccells_len (l : List Ct) : (ccells l).length = l.length * 4 := by (
 induction l with
 | nil => rfl
 | cons n l ih => simp only [ccells, List.length_append, Ct.cells_len, ih, List.length_cons]; omega)
theorem ccells_append (a b : List Ct) : ccells (a ++ b) = ccells a ++ ccells b := by (
 induction a with
 | nil => rfl
 | cons n a ih => simp only [List.cons_append, ccells, ih, List.append_assoc])
theorem ccells_get : ∀ (l : List Ct) (i j : Nat), j < 4 → (ccells l)[i * 4 + j]? = (l[i]?).bind fun n => n.cells[j]?
 | [], i, j, hj => by simp [ccells]
 | n :: l, 0, j, hj => by (
 simp only [ccells, Nat.zero_mul, Nat.zero_add, List.getElem?_cons_zero, Option.bind_some]
 rw [List.getElem?_append_left (by rw [Ct.cells_len]; exact hj)])
 | n :: l, i + 1, j, hj => by (
 simp only [ccells, List.getElem?_cons_succ]
 rw [List.getElem?_append_right (by rw [Ct.cells_len]; omega), Ct.cells_len, show (i + 1) * 4 + j - 4 = i * 4 + j by omega]
 exact ccells_get l i j hj)
theorem ccells_one (l : List Ct) : ∀ u ∈ ccells l, u.oneCell' = true := by (
 induction l with
 | nil => intro u hu; cases hu
 | cons n l ih =>
  intro u hu
  simp only [ccells, List.mem_append] at hu
  rcases hu with hu | hu
  · (
 simp only [Ct.cells, List.mem_cons, List.not_mem_nil, or_false] at hu
 rcases hu with rfl | rfl | rfl | rfl <;> rfl)
  · exact ih u hu)
theorem clies_iff {n : Ct} {w : World} {b off : Nat} : n.lies w b off ↔ ∀ j, j < 4 → w.cell? ⟨b, off + j, none⟩ = n.cells[j]? := by (
 constructor
 · (
 rintro ⟨h0, h1, h2, h3⟩ j hj
 match j, hj with
 | 0, _ => exact h0
 | 1, _ => exact h1
 | 2, _ => exact h2
 | 3, _ => exact h3)
 · (
 intro h
 exact ⟨h 0 (by omega), h 1 (by omega), h 2 (by omega), h 3 (by omega)⟩))
theorem CtsAt.cell {w : World} {b off : Nat} {l : List Ct} (h : CtsAt w (some ⟨b, off, none⟩) l) (k : Nat) (hk : k < l.length * 4) : w.cell? ⟨b, off + k, none⟩ = (ccells l)[k]? := by (
 have hd : k / 4 < l.length := by omega
 obtain ⟨b', off', n, e, _, hn, hl⟩ := h.get hd
 injection e with e
 injection e with e1 e2
 subst e1 e2
 have h3' : k % 4 < 4 := Nat.mod_lt _ (by omega)
 have := clies_iff.1 hl (k % 4) h3'
 rw [show off + k / 4 * 4 + k % 4 = off + k by omega] at this
 have hg := ccells_get l (k / 4) (k % 4) h3'
 rw [show k / 4 * 4 + k % 4 = k by omega, hn] at hg
 rw [this, hg]
 rfl)
def CRow (w : World) (base : Nat) (e : TypeId) (v : Value) (l : List Ct) : Prop := w.ownsRow base e 4 v l.length (ccells l)
section
variable {w w' : World} {base : Nat} {e : TypeId} {v : Value} {l : List Ct}
theorem CRow.nil_ (w : World) (base : Nat) (e : TypeId) : CRow w base e (.slice none 0 0) [] := ⟨rfl, .inl ⟨rfl, rfl⟩⟩
theorem CRow.open (h : CRow w base e v l) : (v = .slice none 0 0 ∧ l = []) ∨ ∃ g cap cur, v = .slice (some ⟨g, 0, none⟩) l.length cap ∧ base ≤ g ∧ w.heap[g]? = some (.cells cur e (0, 0)) ∧ l.length ≤ cap ∧ cap ≤ maxLen ∧ cur.size = cap * 4 ∧
 ∀ k, k < l.length * 4 → cur[k]? = (ccells l)[k]? := by (
 obtain ⟨hl, ⟨hv, hn⟩ | ⟨g, cap, cur, hv, hb, hh, h1, h2, h3, h4⟩⟩ := h
 · exact .inl ⟨hv, List.eq_nil_of_length_eq_zero hn⟩
 · (
 refine .inr ⟨g, cap, cur, hv, hb, hh, h1, h2, h3, fun k hk => ?_⟩
 rw [← h4, List.getElem?_take, if_pos hk, Array.getElem?_toList]))
theorem CRow.close {g cap : Nat} {cur : Array Value} (hb : base ≤ g) (hh : w.heap[g]? = some (.cells cur e (0, 0))) (h1 : l.length ≤ cap) (h2 : cap ≤ maxLen) (h3 : cur.size = cap * 4)
 (h4 : ∀ k, k < l.length * 4 → cur[k]? = (ccells l)[k]?) : CRow w base e (.slice (some ⟨g, 0, none⟩) l.length cap) l := by (
 refine ⟨ccells_len l, .inr ⟨g, cap, cur, rfl, hb, hh, h1, h2, h3, ?_⟩⟩
 refine List.ext_getElem? fun k => ?_
 rw [List.getElem?_take]
 split
 · (
 rename_i hk
 rw [Array.getElem?_toList]
 exact h4 k hk)
 · (
 rename_i hk
 rw [List.getElem?_eq_none (by rw [ccells_len]; omega)]))
theorem CRow.lt (h : CRow w base e v l) : ∀ k, v.ownBlock = some k → base ≤ k ∧ k < w.heap.size := by (
 rintro k hk
 rcases h.open with ⟨rfl, _⟩ | ⟨g, cap, cur, rfl, hb, hh, _⟩
 · simp [Value.ownBlock] at hk
 · (
 simp [Value.ownBlock] at hk
 subst hk
 exact ⟨hb, lt_of_heap hh⟩))
theorem CRow.of_block (h : CRow w base e v l) (hk : ∀ k, v.ownBlock = some k → w'.heap[k]? = w.heap[k]?) : CRow w' base e v l := by (
 obtain ⟨hl, ⟨hv, hn⟩ | ⟨g, cap, cur, hv, hb, hh, r⟩⟩ := h
 · exact ⟨hl, .inl ⟨hv, hn⟩⟩
 · exact ⟨hl, .inr ⟨g, cap, cur, hv, hb, (hk g (by rw [hv]; rfl)).trans hh, r⟩⟩)
theorem CRow.kept {row : Option Nat} (h : CRow w base e v l) (hg : w.grownBy w' row) (hne : v.ownBlock = none ∨ v.ownBlock ≠ row) : CRow w' base e v l :=
 h.of_block fun k hk => hg.block k (h.lt k hk).2 (by
  rcases hne with hn | hn
  · rw [hn] at hk; cases hk
  · rw [← hk]; exact hn)
theorem CRow.below {B : Nat} (h : CRow w base e v l) (hb : Below B w w') (hB : ∀ k, v.ownBlock = some k → k < B) : CRow w' base e v l := h.of_block fun k hk => hb.block k (hB k hk)
theorem CRow.below' (h : CRow w base e v l) (hb : Below w.heap.size w w') : CRow w' base e v l := h.of_block fun k hk => hb.block k (h.lt k hk).2
theorem CRow.alloc (h : CRow w base e v l) (o : Obj) : CRow (w.alloc o) base e v l := h.of_block fun k hk => Below.heap_alloc w o k (h.lt k hk).2
theorem CRow.drew (h : CRow w base e v l) : CRow w.drew base e v l := h
theorem CRow.drewN (h : CRow w base e v l) (n : Nat) : CRow (w.drewN n) base e v l := h
theorem CRow.far (h : CRow w base e v l) {p : Addr} (hp : v.ownBlock ≠ some p.block) (u : Value) : CRow (w.setCell p u) base e v l :=
 h.of_block fun k hk => Below.heap_setCell w p u k (by rintro rfl; exact hp hk)
theorem CRow.mono {base' : Nat} (h : CRow w base e v l) (hb : base' ≤ base) : CRow w base' e v l := by (
 obtain ⟨hl, h | ⟨g, cap, cur, hv, hg, r⟩⟩ := h
 · exact ⟨hl, .inl h⟩
 · exact ⟨hl, .inr ⟨g, cap, cur, hv, Nat.le_trans hb hg, r⟩⟩)
theorem CRow.shape (h : CRow w base e v l) : ∃ A cap, v = .slice A l.length cap ∧ l.length ≤ cap ∧ cap ≤ maxLen := by (
 rcases h.open with ⟨rfl, rfl⟩ | ⟨g, cap, cur, rfl, _, _, hc, hm, _⟩
 · exact ⟨none, 0, rfl, Nat.le_refl _, Nat.zero_le _⟩
 · exact ⟨_, cap, rfl, hc, hm⟩)
theorem CRow.nodes {A : Option Addr} {n cap : Nat} (h : CRow w base e (.slice A n cap) l) : CtsAt w A l := fun hn => by (
 rcases h.open with ⟨_, rfl⟩ | ⟨g, cap, cur, hv, hb, hh, _, _, _, hc⟩
 · exact absurd rfl hn
 · (
 injection hv with hA
 subst hA
 refine ⟨g, 0, rfl, lt_of_heap hh, fun i n hi => clies_iff.2 fun j hj => ?_⟩
 have hlt : i < l.length := (List.getElem?_eq_some_iff.1 hi).1
 have := hc (i * 4 + j) (by omega)
 rw [ccells_get l i j hj, hi] at this
 rw [Nat.zero_add]
 simp only [World.cell?, hh, this]
 simp))
theorem CRow.get (h : CRow w base e v l) {k : Nat} (hk : k < l.length) :
 ∃ g cap n, v = .slice (some ⟨g, 0, none⟩) l.length cap ∧ base ≤ g ∧ g < w.heap.size ∧ l[k]? = some n ∧ n.lies w g (k * 4) ∧ ∀ j, j < l.length * 4 → w.frozen? ⟨g, j, none⟩ = false := by (
 have hN := h.shape
 rcases h.open with ⟨_, rfl⟩ | ⟨g, cap, cur, rfl, hb, hh, hcl, hcm, hcs, hc⟩
 · simp at hk
 · (
 have hn := (h.nodes).get hk
 obtain ⟨b, off, n, e1, _, hn, hl⟩ := hn
 injection e1 with e1
 injection e1 with e1 e2
 subst e1 e2
 rw [Nat.zero_add] at hl
 exact ⟨g, cap, n, rfl, hb, lt_of_heap hh, hn, hl, fun j hj => by simp [World.frozen?, hh]⟩))
theorem CRow.ne_blk {g : Nat} {t : TypeId} {cs : Array Value} (h : CRow w base e v l) (hg : Blk w g t cs) (hne : e ≠ t) : v.ownBlock ≠ some g := by (
 rcases h.open with ⟨rfl, _⟩ | ⟨g', cap, cur, rfl, _, hh, _⟩
 · simp [Value.ownBlock]
 · (
 intro he
 simp [Value.ownBlock] at he
 subst he
 have hB : Blk w g' e cur := by unfold Blk; exact hh
 exact hB.ne_ hg hne rfl))
theorem CRow.blk {g n cap : Nat} (h : CRow w base e (.slice (some ⟨g, 0, none⟩) n cap) l) : ∃ cs, Blk w g e cs := by (
 rcases h.open with ⟨hv, _⟩ | ⟨g', cap', cur, hv, hb, hh, _⟩
 · cases hv
 · (
 injection hv with hA
 injection hA with hA
 injection hA with hg
 subst hg
 exact ⟨cur, by unfold Blk; exact hh⟩))
theorem CRow.ne_row {base' : Nat} {e' : TypeId} {u : Value} {ys : List Value} (h : CRow w base e v l) (h' : Row w base' e' u ys) (hne : e ≠ e') : v.ownBlock = none ∨ v.ownBlock ≠ u.ownBlock := by (
 rcases h' with ⟨rfl, _⟩ | ⟨g', o, cap, cur, rfl, _, hh, _⟩
 · (
 rcases hv : v.ownBlock with _ | k
 · exact .inl rfl
 · exact .inr (by simp [Value.ownBlock]))
 · exact .inr (h.ne_blk (cs := cur) (t := e') (by unfold Blk; exact hh) hne))
theorem run_append_counts {P : Program} (t ty : TypeId) (i : TypeInfo) (z : Value) (bytes : Nat) (ht : P.underlying t = some (.slice e)) (hi : P.info? e = some i) (hz : i.zero = some z)
 (hsize : i.size = 4) (hby : i.bytes = bytes) (hzs : z.cells.size = 4) (hr : CRow w base e v l) (A : Option Addr) (c : Nat) (news : List Ct) (hn : CtsAt w A news)
 (h3'3 : l.length + news.length ≤ maxLen) (hbytes : (l.length + news.length) * bytes ≤ 140737488355328) (hbase : base ≤ w.heap.size) :
 ∃ v' w', (Builtin.append_ #[t, t] ty #[v, .slice A news.length c]).run P w = .ok v' w' ∧ CRow w' base e v' (l ++ news) ∧ w.grownBy w' v.ownBlock ∧ (v'.ownBlock = v.ownBlock ∨ ∀ k, v'.ownBlock = some k → w.heap.size ≤ k) := by (
 by_cases hne : news = []
 · (
 subst hne
 refine ⟨v, w, ?_, by simpa using hr, World.grownBy.refl w _, .inl rfl⟩
 rcases hr.open with ⟨rfl, rfl⟩ | ⟨g, cap, cur, rfl, _, _, hnc, _⟩
 · rcases A with _ | A <;> simp [Builtin.append_, run_underlying ht, sizeOf, typeInfo, hi, hsize, Builtin.lenOf, Builtin.firstCells, loadCells, loadCellsFrom]
 · rcases A with _ | A <;> simp [Builtin.append_, run_underlying ht, sizeOf, typeInfo, hi, hsize, Builtin.lenOf, Builtin.firstCells, loadCells, loadCellsFrom, hnc, storeCells])
 · (
 obtain ⟨b, off, rfl, hb, hcell⟩ := hn hne
 have hnews : ∀ j u, (ccells news)[j]? = some u → w.cell? ((⟨b, off, none⟩ : Addr).add j) = some u := fun j u hj => by (
 rw [Addr.add_lit, ← hj]
 exact CtsAt.cell hn j (by rw [← ccells_len]; exact (List.getElem?_eq_some_iff.1 hj).1))
 obtain ⟨v', w', hrun, h2, h3, h4, h5⟩ := run_append_own_at (P := P) w base t ty e i z 4 bytes ht hi hz hsize hby hzs (by omega) v l.length (ccells l) hr ⟨b, off, none⟩ news.length c (ccells news) (ccells_len _) hnews (ccells_one _) h3'3 hbytes hbase
 refine ⟨v', w', hrun, ?_, h3, h5.imp id fun h k hk => by rw [h] at hk; injection hk with hk; omega⟩
 show w'.ownsRow base e 4 v' (l ++ news).length (ccells (l ++ news))
 rw [List.length_append, ccells_append]
 exact h2))
theorem wp_append_counts {P : Program} {o : Oper} {a : Act} {K : Act → World → Prop} {Q : Exit → Act → World → Prop} (s x : Operand) (t : TypeId)
 (ho : o.op = .call { callee := .builtin .append, args := #[s, x], argTypes := #[t, t] })
 (i : TypeInfo) (z : Value) (bytes : Nat) (ht : P.underlying t = some (.slice e)) (hi : P.info? e = some i) (hz : i.zero = some z)
 (hsize : i.size = 4) (hby : i.bytes = bytes) (hzs : z.cells.size = 4) (hs : a.eval s = v) (hr : CRow w base e v l) (A : Option Addr) (n c : Nat) (news : List Ct) (hx : a.eval x = .slice A n c)
 (hnl : n = news.length) (hn : CtsAt w A news)
 (h3'3 : l.length + news.length ≤ maxLen) (hbytes : (l.length + news.length) * bytes ≤ 140737488355328) (hbase : base ≤ w.heap.size)
 (h : ∀ v' w', CRow w' base e v' (l ++ news) → w.grownBy w' v.ownBlock → (v'.ownBlock = v.ownBlock ∨ ∀ k, v'.ownBlock = some k → w.heap.size ≤ k) → K (a.put o.dst v') w') : o.wp P a w K Q := by (
 subst hnl
 obtain ⟨v', w', hrun, h2, h3, h4⟩ := run_append_counts (P := P) t o.type i z bytes ht hi hz hsize hby hzs hr A c news hn h3'3 hbytes hbase
 unfold Oper.wp execOp
 simp only [ho, resolve, invoke, builtin, Sem.run_bind, Sem.run_pure, Result.andThen_ok, List.map_toArray, List.map_cons, List.map_nil, hs, hx, hrun]
 exact h v' w' h2 h3 h4)
theorem wpList_append_counts {P : Program} {ops : Array Oper} {rest : List Oper} {o : Oper} {a : Act} {Q : Exit → Act → World → Prop} (hgd : o.guard = none) (s x : Operand) (t : TypeId)
 (ho : o.op = .call { callee := .builtin .append, args := #[s, x], argTypes := #[t, t] })
 (i : TypeInfo) (z : Value) (bytes : Nat) (ht : P.underlying t = some (.slice e)) (hi : P.info? e = some i) (hz : i.zero = some z)
 (hsize : i.size = 4) (hby : i.bytes = bytes) (hzs : z.cells.size = 4) (hs : a.eval s = v) (hr : CRow w base e v l) (A : Option Addr) (n c : Nat) (news : List Ct) (hx : a.eval x = .slice A n c)
 (hnl : n = news.length) (hn : CtsAt w A news)
 (h3'3 : l.length + news.length ≤ maxLen) (hbytes : (l.length + news.length) * bytes ≤ 140737488355328) (hbase : base ≤ w.heap.size)
 (h : ∀ v' w', CRow w' base e v' (l ++ news) → w.grownBy w' v.ownBlock → (v'.ownBlock = v.ownBlock ∨ ∀ k, v'.ownBlock = some k → w.heap.size ≤ k) → wpList P ops Q rest (a.put o.dst v') w') :
 wpList P ops Q (o :: rest) a w :=
 wpList_plain hgd fun _ hK => wp_append_counts s x t ho i z bytes ht hi hz hsize hby hzs hs hr A n c news hx hnl hn h3'3 hbytes hbase fun v' w' h2 h3 h4=> hK _ _ (h v' w' h2 h3 h4)
theorem step_append_counts {P : Program} {ops : Array Oper} {o : Oper} {a : Act} {K : Act → World → Prop} {Q : Exit → Act → World → Prop} {E : Prop} (hgd : o.guard = none) (s x : Operand) (t : TypeId)
 (ho : o.op = .call { callee := .builtin .append, args := #[s, x], argTypes := #[t, t] })
 (i : TypeInfo) (z : Value) (bytes : Nat) (ht : P.underlying t = some (.slice e)) (hi : P.info? e = some i) (hz : i.zero = some z)
 (hsize : i.size = 4) (hby : i.bytes = bytes) (hzs : z.cells.size = 4) (hs : a.eval s = v) (hr : CRow w base e v l) (A : Option Addr) (n c : Nat) (news : List Ct) (hx : a.eval x = .slice A n c)
 (hnl : n = news.length) (hn : CtsAt w A news)
 (h3'3 : l.length + news.length ≤ maxLen) (hbytes : (l.length + news.length) * bytes ≤ 140737488355328) (hbase : base ≤ w.heap.size)
 (h : ∀ v' w', CRow w' base e v' (l ++ news) → w.grownBy w' v.ownBlock → (v'.ownBlock = v.ownBlock ∨ ∀ k, v'.ownBlock = some k → w.heap.size ≤ k) → K (a.put o.dst v') w') :
 if Region.wanted o (yielded ops a.tmps) = true then Oper.wp P o a w K Q else E := by (
 have hw : Region.wanted o (yielded ops a.tmps) = true := by simp [Region.wanted, hgd]
 rw [if_pos hw]
 exact wp_append_counts s x t ho i z bytes ht hi hz hsize hby hzs hs hr A n c news hx hnl hn h3'3 hbytes hbase h)
theorem counts_one' {w : World} {n : Ct} {t : TypeId} {g : Nat} (h : g = w.heap.size) : CtsAt (w.alloc (.cells #[.int .i64 n.1.op, .int .i64 n.1.a, .int .i64 n.1.b, .int .i64 n.2] t)) (some ⟨g, 0, none⟩) [n] := by (
 subst h
 refine CtsAt.mk (by simp) fun i m hi => ?_
 rcases i with _ | i
 · (
 simp at hi
 subst hi
 simp [Ct.lies])
 · simp at hi)
end
end
section
open Go.RowKit Go.ChangeShapes Go.WideShapes Go.Deep
section
variable {H : Type} {enc : TypeId × Value → H} {P : Program} {w : World} {base : Nat} {spare : Nat → Bool} {held : Bool}
theorem open_ints {t e : TypeId} {fuel : Nat} {cs : List Value} {x : DataW H × List MemPlace} (ht : P.underlying t = some (.slice e)) (he : P.underlying e = some (.int .i64)) (hc : P.cellsOf e = 1)
 (h : DataW.trod enc P w base spare held fuel t cs = some x) :
 ∃ (S : Option Addr) (c : Nat) (l : List Int), cs = [.slice S l.length c] ∧ l.length ≤ c ∧ c ≤ maxLen ∧ ValsAt w S (ints l) := by (
 rcases open_slice1 ht hc h with ⟨rfl, _⟩ | ⟨a, len, cap, m, n, V, D, Pl, rfl, _, hl, hm, hmm, _, hx⟩
 · exact ⟨none, 0, [], rfl, Nat.le_refl _, by simp, ValsAt.nil⟩
 have hlm : len ≤ m := by rw [hmm]; split <;> omega
 obtain ⟨Z, hZ⟩ := choose_lt (α := Int) (n := len) (p := fun i z => w.cell? (a.add i) = some (.int .i64 z)) (fun i hi => by
  obtain ⟨h1, h2⟩ := hx i (by omega)
  obtain ⟨z, hz, _⟩ := DataW.trod_int he h2
  simp at hz
  exact ⟨z, hz ▸ h1⟩)
 refine ⟨some a, cap, (List.range len).map Z, by simp, by simpa using hl, hm, ?_⟩
 intro hn
 have hpos : 0 < len := by (
 rcases Nat.eq_zero_or_pos len with h0 | h0
 · subst h0; exact absurd rfl hn
 · exact h0)
 have h0 := hZ 0 hpos
 have hsp : a.spot = none := World.cell?_spot (a := a) (by simpa [Addr.add] using h0)
 obtain ⟨b, off, sp⟩ := a
 simp only at hsp
 subst hsp
 refine ⟨b, off, rfl, World.block_lt_of_cell? w ⟨b, off + 0, none⟩ (by rw [add_flat] at h0; exact h0), fun i v hi => ?_⟩
 rw [ints_get] at hi
 by_cases hil : i < len
 · (
 simp [hil] at hi
 subst hi
 have := hZ i hil
 rwa [add_flat] at this)
 · simp [hil] at hi)
theorem open_counts {t e e3 : TypeId} {f0 f1 g0 g1 g2 : Field} {fuel : Nat} {cs : List Value} {x : DataW H × List MemPlace} (ht : P.underlying t = some (.slice e)) (he : P.underlying e = some (.struct #[f0, f1])) (hf0 : f0.type = e3 ∧ f0.offset = 0) (hf1 : f1.offset = 3)
 (h3 : P.underlying e3 = some (.struct #[g0, g1, g2])) (hone : oneCellFields P #[g0, g1, g2] = true) (hC : P.cellsOf e = 4) (hC3 : P.cellsOf e3 = 3) (hC1 : P.cellsOf f1.type = 1) (hint : ∀ f ∈ [g0, g1, g2, f1], P.underlying f.type = some (.int .i64))
 (h : DataW.trod enc P w base spare held fuel t cs = some x) :
 ∃ (A : Option Addr) (c : Nat) (l : List Ct), cs = [.slice A l.length c] ∧ l.length ≤ maxLen ∧ CtsAt w A l := by (
 rcases open_slice ht h with ⟨rfl, _⟩ | ⟨a, len, cap, m, n, D, Pl, rfl, _, hl, hm, hmm, _, hx⟩
 · exact ⟨none, 0, [], rfl, by simp, fun h => absurd rfl h⟩
 have hlm : len ≤ m := by rw [hmm]; split <;> omega
 rw [hC] at hx
 haveI : Inhabited Ct := ⟨(⟨0, 0, 0⟩, 0)⟩
 obtain ⟨Z, hZ⟩ := choose_lt (α := Ct) (n := len) (p := fun i z => ∀ j, j < 4 → w.cell? ((a.add (i * 4)).add j) = (Ct.cells z)[j]?) (fun i hi => by
  obtain ⟨cs', h1, h2⟩ := hx i (by omega)
  obtain ⟨_, hlen, hcell⟩ := World.cells?_some h1
  obtain ⟨xs, k, _, _, _, hxl, hf⟩ := DataW.trod_struct he h2
  have hxl : xs.length = 2 := hxl
  have hA := hf 0 f0 rfl
  have hB := hf 1 f1 rfl
  rw [hf0.1, hf0.2, hC3, List.drop_zero] at hA
  rw [hf1, hC1] at hB
  obtain ⟨z3, e4⟩ := node_cell (hint f1 (by simp)) (by rw [List.getElem?_eq_getElem (by omega)]; rfl) hB
  rw [List.getElem?_eq_getElem (by omega)] at hA
  obtain ⟨ys, k2, _, _, _, hyl, hg⟩ := DataW.trod_struct h3 hA
  have hyl : ys.length = 3 := hyl
  have one : ∀ (o : Nat) (f : Field), #[g0, g1, g2][o]? = some f → f ∈ [g0, g1, g2, f1] → ∃ z, cs'[o]? = some (.int .i64 z) := by (
 intro o f ho hm
 have hlt : o < 3 := (Array.getElem?_eq_some_iff.1 ho).1
 obtain ⟨h5, h6⟩ := hone_of hone o f ho
 have := hg o f ho
 rw [h5, h6] at this
 obtain ⟨z, hz⟩ := node_cell (hint f hm) (by rw [List.getElem?_eq_getElem (by omega)]; rfl) this
 rw [List.getElem?_take, if_pos hlt] at hz
 exact ⟨z, hz⟩)
  obtain ⟨z0, e0⟩ := one 0 g0 rfl (by simp)
  obtain ⟨z1, e1⟩ := one 1 g1 rfl (by simp)
  obtain ⟨z2, e2⟩ := one 2 g2 rfl (by simp)
  refine ⟨(⟨z0, z1, z2⟩, z3), fun j hj => ?_⟩
  rw [hcell j hj]
  match j, hj with
  | 0, _ => exact e0
  | 1, _ => exact e1
  | 2, _ => exact e2
  | 3, _ => exact e4)
 have hll : ((List.range len).map Z).length = len := by simp
 refine ⟨some a, cap, (List.range len).map Z, by rw [hll], by omega, ?_⟩
 intro hn
 have hpos : 0 < len := by (
 rcases Nat.eq_zero_or_pos len with h0 | h0
 · subst h0; exact absurd rfl hn
 · exact h0)
 have h0 := hZ 0 hpos 0 (by omega)
 have hsp : a.spot = none := World.cell?_spot (a := a) (v := .int .i64 (Z 0).1.op) (by simpa [Addr.add, Ct.cells] using h0)
 obtain ⟨b, off, sp⟩ := a
 simp only at hsp
 subst hsp
 refine ⟨b, off, rfl, World.block_lt_of_cell? w ⟨b, off, none⟩ (u := .int .i64 (Z 0).1.op) (by simpa [Addr.add, Ct.cells] using h0), fun i v hi => ?_⟩
 by_cases hil : i < len
 · (
 simp [hil] at hi
 subst hi
 have hz := hZ i hil
 refine ⟨?_, ?_, ?_, ?_⟩
 · have := hz 0 (by omega); rw [add_flat, add_flat] at this; exact this
 · have := hz 1 (by omega); rw [add_flat, add_flat] at this; exact this
 · have := hz 2 (by omega); rw [add_flat, add_flat] at this; exact this
 · have := hz 3 (by omega); rw [add_flat, add_flat] at this; exact this)
 · simp [hil] at hi)
end
theorem arr5 {α : Type} {cs : Array α} (h : cs.size = 5) : ∃ a b c d e, cs = #[a, b, c, d, e] := by (
 obtain ⟨l⟩ := cs
 simp at h
 match l, h with
 | [a, b, c, d, e], _ => exact ⟨a, b, c, d, e, rfl⟩)
section
variable {H : Type} {enc : TypeId × Value → H} {w : World} {base : Nat} {spare : Nat → Bool} {held : Bool} {r : Reach} {b0 : Nat} {v : Value} {d : DataW H} {p : List MemPlace}
set_option maxRecDepth 100000 in
theorem ints_in (hv : Value.okWide Try.prog w r b0 25 v) (h : DataW.Trod enc Try.prog w base spare held 25 v d p) :
 ∃ (S : Option Addr) (c : Nat) (l : List Int), v = .slice S l.length c ∧ l.length ≤ c ∧ c ≤ maxLen ∧ ValsAt w S (ints l) := by (
 obtain ⟨a, len, cap, rfl⟩ := okWide_slice Try.underlying25 hv
 obtain ⟨fuel, hf⟩ := h
 obtain ⟨S, c, l, e, hx⟩ := open_ints Try.underlying25 Try.underlying3 (by kernel_rfl) hf
 simp [Value.cells] at e
 obtain ⟨rfl, rfl, rfl⟩ := e
 exact ⟨_, _, l, rfl, hx⟩)
set_option maxRecDepth 100000 in
theorem result_in (hv : Value.okWide Try.prog w r b0 33 v) (h : DataW.Trod enc Try.prog w base spare held 33 v d p) :
 ∃ (O : Option Addr) (on oc : Nat) (rt : Int) (en : Bool) (st : Int) (C : Option Addr) (cc : Nat) (cs : List Ct), v = .agg #[.slice O on oc, .int .i64 rt, .bool en, .int .i64 st, .slice C cs.length cc] ∧ cs.length ≤ maxLen ∧ CtsAt w C cs := by (
 obtain ⟨cs, rfl, hsz, n, hf⟩ := agg_reads Try.underlying33 (by kernel_rfl) (by kernel_rfl) hv h
 obtain ⟨c0, c1, c2, c3, c4, rfl⟩ := arr5 hsz
 obtain ⟨_, y0, e0, h0⟩ := hf 0 _ rfl
 obtain ⟨_, y1, e1, h1⟩ := hf 1 _ rfl
 obtain ⟨_, y2, e2, h2⟩ := hf 2 _ rfl
 obtain ⟨_, y3, e3, h3⟩ := hf 3 _ rfl
 obtain ⟨_, y4, e4, h4⟩ := hf 4 _ rfl
 simp at e0 e1 e2 e3 e4
 subst e0; subst e1; subst e2; subst e3; subst e4
 obtain ⟨O, oc, l, hl, _⟩ := open_ints Try.underlying25 Try.underlying3 (by kernel_rfl) h0
 obtain ⟨z1, hz1, _⟩ := DataW.trod_int Try.underlying3 h1
 obtain ⟨z2, hz2, _⟩ := DataW.trod_bool Try.underlying4 h2
 obtain ⟨z3, hz3, _⟩ := DataW.trod_int Try.underlying3 h3
 obtain ⟨C, cc, cs, hc, hcm, hC⟩ := open_counts Try.underlying31 Try.underlying75 ⟨rfl, rfl⟩ rfl Try.underlying42 (by kernel_rfl) (by kernel_rfl) (by kernel_rfl) (by kernel_rfl) (by simp [Try.underlying3]) h4
 simp at hl hz1 hz2 hz3 hc
 subst hl; subst hz1; subst hz2; subst hz3; subst hc
 exact ⟨O, _, oc, z1, z2, z3, C, cc, cs, rfl, hcm, hC⟩)
end
end
section
open Go.RowKit Go.ChangeShapes Go.WideShapes Go.Deep
section
variable {H : Type} {enc : TypeId × Value → H} {w : World} {base : Nat} {spare : Nat → Bool} {held : Bool} {r : Reach} {b0 : Nat} {v : Value} {d : DataW H} {p : List MemPlace}
set_option maxRecDepth 100000 in
theorem bools_in (hv : Value.okWide Try.prog w r b0 48 v) (h : DataW.Trod enc Try.prog w base spare held 48 v d p) :
 ∃ (S : Option Addr) (c : Nat) (x : List Bool), v = .slice S x.length c ∧ x.length ≤ maxLen ∧ ValsAt w S (bools x) := by (
 obtain ⟨a, len, cap, rfl⟩ := okWide_slice Try.underlying48 hv
 obtain ⟨fuel, hf⟩ := h
 obtain ⟨S, n, c, bs, e, hl, hn, hx⟩ := open_bools Try.underlying48 Try.underlying4 (by kernel_rfl) hf
 simp [Value.cells] at e
 obtain ⟨rfl, rfl, rfl⟩ := e
 exact ⟨_, _, bs, by rw [hl], by omega, hx⟩)
set_option maxRecDepth 100000 in
theorem places_in (hv : Value.okWide Try.prog w r b0 50 v) (h : DataW.Trod enc Try.prog w base spare held 50 v d p) :
 ∃ (X Y : Option Addr) (xc yc : Nat) (x y : List Bool), v = .agg #[.slice X x.length xc, .slice Y y.length yc] ∧ ValsAt w X (bools x) ∧ ValsAt w Y (bools y) := by (
 obtain ⟨cs, rfl, hsz, n, hf⟩ := agg_reads Try.underlying50 (by kernel_rfl) (by kernel_rfl) hv h
 obtain ⟨c0, c1, rfl⟩ := arr2 hsz
 obtain ⟨_, y0, e0, h0⟩ := hf 0 _ rfl
 obtain ⟨_, y1, e1, h1⟩ := hf 1 _ rfl
 simp at e0 e1
 subst e0; subst e1
 obtain ⟨X, n0, xc, x, k0, l0, _, hx⟩ := open_bools Try.underlying48 Try.underlying4 (by kernel_rfl) h0
 obtain ⟨Y, n1, yc, y, k1, l1, _, hy⟩ := open_bools Try.underlying48 Try.underlying4 (by kernel_rfl) h1
 simp at k0 k1
 subst k0; subst k1
 exact ⟨X, Y, xc, yc, x, y, by rw [l0, l1], hx, hy⟩)
end
end
section
theorem infoInt : (Try.prog.info? 3).map (fun i => (i.zero, i.size, i.bytes)) = some (some (.int .i64 0), 1, 8) := by kernel_rfl
end
section
open Go.RowKit
set_option maxHeartbeats 800000
theorem of_any (op : Int) (w : World) :
    Calls Try.prog 53 #[.int .i64 op] w fun e w' => e = .returned (.tuple #[.agg #[.bool (hasD op), .bool (hasA op), .bool (hasB op), .bool (isSet op), .bool (shT op), .bool (hasE op)], .bool (opOk op)]) ∧ Below w.heap.size w w' := by
  go_enter Try.func53, Try.ntmps53
  go_wp2
  all_goals go_tidy
  all_goals refine bodyPost_ret (v := .tuple #[.agg #[.bool (hasD op), .bool (hasA op), .bool (hasB op), .bool (isSet op), .bool (shT op), .bool (hasE op)], .bool (opOk op)]) ?_ rfl ⟨rfl, (by (with_reducible repeat first | apply Qa | assumption | apply Qb | apply Qc | apply Qd | apply Qe | refine Qf ?_ (by assumption) ?_); all_goals (try simp only [Sz]); first | done | omega | (try simp only [Sz] at *); omega)⟩
  all_goals simp only [beq_iff_eq, beq_eq_false_iff_ne, ne_eq, Bool.or_eq_true, not_or] at *
  all_goals first
    | (rename_i h; subst h; simp [results, Try.results53, go_sem]; exact ⟨⟨rfl, rfl, rfl, rfl, rfl, rfl⟩, rfl⟩)
    | (have h13 : opOk op = false := by
         simp [opOk, inB]
         omega
       have h14 : hasD op = false ∧ hasA op = false ∧ hasB op = false ∧ isSet op = false ∧ hasE op = false := by
         simp [hasD, hasA, hasB, isSet, hasE, inB]
         omega
       simp [results, Try.results53, go_sem, shT, h13, h14])
end
section
open Go.RowKit
set_option maxHeartbeats 2000000
def RowPost (B : Nat) (t : TypeId) (xs : List Value) (w : World) (e : Ending) (w' : World) : Prop := ∃ v, e = .returned v ∧ Row w' B t v xs ∧ Below w.heap.size w w'
end
section
open Go.RowKit
set_option maxHeartbeats 1000000
theorem check1_any (n : Nd) (w : World) :
 Calls Try.prog 52 #[.agg n.cells.toArray] w fun e w' => e = .returned (.bool (!opOk n.op)) ∧ Below w.heap.size w w' := by (
 unfold Nd.cells
 go_enter Try.func52, Try.ntmps52
 go_wp2_with (go_at_call 53; refine (of_any _ _).mono ?_; rintro e w1 ⟨rfl, hbw1⟩; obtain ⟨hcw1, hfw1⟩ := bcell hbw1; have hzw1 := hbw1.size; simp only [Sz] at hzw1 hcw1 hfw1; (try have hyw1 := Nat.lt_of_succ_le hzw1); (try have hxw1 := Nat.lt_of_succ_lt hyw1))
 go_ret
 exact ⟨rfl, (by (with_reducible repeat first | apply Qa | assumption | apply Qb | apply Qc | apply Qd | apply Qe | refine Qf ?_ (by assumption) ?_); all_goals (try simp only [Sz]); first | done | omega | (try simp only [Sz] at *); omega)⟩)
theorem check2_any (n regs : Int) (has : Bool) (g : Nat) (w : World) (h0 : w.cell? ⟨g, 0, none⟩ = some (.int .i64 regs)) :
 Calls Try.prog 54 #[.int .i64 n, .bool has, .pointer (some ⟨g, 0, none⟩)] w fun e w' => e = .returned (.bool (okR regs n has)) ∧ w = w' := by (
 cases has <;> go_enter Try.func54, Try.ntmps54 <;> go_wp2
 all_goals go_tidy
 all_goals go_ret
 all_goals exact ⟨by simp_all [okR]; try omega, rfl⟩)
theorem check3_any (n : Int) (A : Option Addr) (len cap : Nat) (has : Bool) (g : Nat) (w : World) (h0 : w.cell? ⟨g, 1, none⟩ = some (.slice A len cap)) :
 Calls Try.prog 55 #[.int .i64 n, .bool has, .pointer (some ⟨g, 0, none⟩)] w fun e w' => e = .returned (.bool (okN len n has)) ∧ w = w' := by (
 cases has <;> go_enter Try.func55, Try.ntmps55 <;> go_wp2
 all_goals go_tidy
 all_goals go_ret
 all_goals exact ⟨by simp_all [okN]; try omega, rfl⟩)
theorem check4_any (n : Int) (has : Bool) (w : World) :
 Calls Try.prog 56 #[.int .i64 n, .bool has] w fun e w' => e = .returned (.bool (okF n has)) ∧ w = w' := by (
 cases has <;> go_enter Try.func56, Try.ntmps56 <;> go_wp2
 all_goals go_tidy
 all_goals go_ret
 all_goals exact ⟨by simp_all [okF], rfl⟩)
def IdxPost (q : Bool) (w : World) (e : Ending) (w' : World) : Prop := ∃ r : Int, e = .returned (.int .i64 r) ∧ decide (0 ≤ r) = q ∧ Below w.heap.size w w'
theorem idxNodes_any (A : Option Addr) (l : List Nd) (cap : Nat) (w : World) (hl : l.length ≤ maxLen) (hA : NodesAt w A l) :
 Calls Try.prog 82 #[.slice A l.length cap, .func (.func 52) #[] #[]] w
  (IdxPost (l.any fun n => !opOk n.op) w) := by (
 unfold maxLen at hl
 go_enter Try.func82, Try.ntmps82
 go_wp2
 go_loopw [8] (fun i wr => ∃ k : Nat, k ≤ l.length ∧ i = .int .i64 k ∧ (l.take k).any (fun n => !opOk n.op) = false ∧ Below w.heap.size w wr) (fun i _ => l.length - (intOf i).toNat)
 case atStart => exact ⟨0, Nat.zero_le _, rfl, by simp, Below.refl _ _⟩
 case round => (
 obtain ⟨k, hk, rfl, hno, hbr⟩ := hrel
 have hzr := hbr.size
 have Hno := hide hno
 clear hno
 by_cases hlt : k < l.length
 · (
 obtain ⟨b, off, n, rfl, hbl, hkn, hn⟩ := hA.get hlt
 have Hkn := hide hkn
 clear hkn
 obtain ⟨c0, c1, c2, c3, c4, c5⟩ := hn.below hbr hbl
 have hp := check1_any n wr
 simp only [Nd.cells] at hp
 have Hp := hide hp
 clear hp
 have hbw : b < wr.heap.size := by omega
 cases ho : opOk n.op
 · (
 rw [ho] at Hp
 go_wp2_with (go_at_call 52; refine (Hp.out).mono ?_; rintro e w1 ⟨rfl, hb1⟩)
 go_ret
 exact ⟨k, rfl, by rw [any_of_take _ l k n Hkn.out (by simp [ho])]; simp, (by (with_reducible repeat first | apply Qa | assumption | apply Qb | apply Qc | apply Qd | apply Qe | refine Qf ?_ (by assumption) ?_); all_goals (try simp only [Sz]); first | done | omega | (try simp only [Sz] at *); omega)⟩)
 · (
 rw [ho] at Hp
 go_wp2_with (go_at_call 52; refine (Hp.out).mono ?_; rintro e w1 ⟨rfl, hb1⟩)
 go_roundw
 case rel => exact ⟨k + 1, by omega, by go_num, by rw [any_take_succ _ l k n Hkn.out, Hno.out]; simp [ho], (by (with_reducible repeat first | apply Qa | assumption | apply Qb | apply Qc | apply Qd | apply Qe | refine Qf ?_ (by assumption) ?_); all_goals (try simp only [Sz]); first | done | omega | (try simp only [Sz] at *); omega)⟩
 case measure => simp [intOf]; omega))
 · (
 go_wp2
 go_ret
 exact ⟨-1, rfl, by rw [← any_take_all _ l k hlt, Hno.out]; rfl, hbr⟩)))
theorem anyNodes_any (A : Option Addr) (l : List Nd) (cap : Nat) (w : World) (hl : l.length ≤ maxLen) (hA : NodesAt w A l) :
 Calls Try.prog 51 #[.slice A l.length cap, .func (.func 52) #[] #[]] w
  fun e w' => e = .returned (.bool (l.any fun n => !opOk n.op)) ∧ Below w.heap.size w w' := by (
 have h := idxNodes_any A l cap w hl hA
 have H := hide h
 clear h
 generalize (l.any fun n => !opOk n.op) = q at *
 go_enter Try.func51, Try.ntmps51
 go_wp2_with (go_at_call 82; refine (H.out).mono ?_; rintro e w1 ⟨r, rfl, hr, hb1⟩)
 go_ret
 exact ⟨by rw [← hr]; rfl, hb1⟩)
end
section
open Go.RowKit
set_option maxHeartbeats 1000000
set_option maxRecDepth 100000 in
theorem Check_any (regs : Int) (A : Option Addr) (l : List Nd) (cap : Nat) (w : World) (hl : l.length ≤ maxLen) (hA : NodesAt w A l) :
    Calls Try.prog 25 #[.agg #[.int .i64 regs, .slice A l.length cap]] w
      fun e w' => e = .returned (.int .i64 (chk regs l)) ∧ Below w.heap.size w w' := by
  unfold maxLen at hl
  by_cases h2 : (l.length : Int) < 1 ∨ 256 < (l.length : Int) ∨ regs < 1 ∨ 64 < regs
  · have hf : chk regs l = 2 := by rw [chk, if_pos h2]
    rw [hf]
    clear hf
    go_enter Try.func25, Try.ntmps25
    go_wp2_with fail
    all_goals go_tidy
    all_goals go_ret
    all_goals exact ⟨rfl, (by (with_reducible repeat first | apply Qa | assumption | apply Qb | apply Qc | apply Qd | apply Qe | refine Qf ?_ (by assumption) ?_); all_goals (try simp only [Sz]); first | done | omega | (try simp only [Sz] at *); omega)⟩
  · have k1 : 1 ≤ (l.length : Int) := by omega
    have k2 : (l.length : Int) ≤ 256 := by omega
    have k3 : 1 ≤ regs := by omega
    have k4 : regs ≤ 64 := by omega
    have hany := anyNodes_any A l cap
    cases h4 : (l.any fun n => !opOk n.op)
    case true =>
      have hf : chk regs l = 4 := by rw [chk, if_neg h2, if_pos h4]
      rw [hf]
      have H4 := hide h4
      clear hf h4 h2 hany
      go_enter Try.func25, Try.ntmps25
      go_wp2_with (go_at_call 51; refine (anyNodes_any _ _ _ _ hl (hA.below (by (with_reducible repeat first | apply Qa | assumption | apply Qb | apply Qc | apply Qd | apply Qe | refine Qf ?_ (by assumption) ?_); all_goals (try simp only [Sz]); first | done | omega | (try simp only [Sz] at *); omega))).mono ?_; rw [H4.out]; rintro e w1 ⟨rfl, hb1⟩)
      all_goals go_tidy
      all_goals go_ret
      all_goals exact ⟨rfl, (by (with_reducible repeat first | apply Qa | assumption | apply Qb | apply Qc | apply Qd | apply Qe | refine Qf ?_ (by assumption) ?_); all_goals (try simp only [Sz]); first | done | omega | (try simp only [Sz] at *); omega)⟩
    case false =>
      have H4 := hide h4
      have hf : chk regs l = if (l.any (badR regs l.length)) = true then 3 else if (l.any badF) = true then 1 else 0 := by rw [chk, if_neg h2, if_neg (by simp [h4])]
      have Hf := hide hf
      clear hf h4 h2 hany
      have d1 : decide ((l.length : Int) < 1) = false := by simp; omega
      have d2 : decide (256 < (l.length : Int)) = false := by simp; omega
      have d3 : decide (regs < 1) = false := by simp; omega
      have d4 : decide (64 < regs) = false := by simp; omega
      go_enter Try.func25, Try.ntmps25
      go_wp2_with (go_at_call 51; refine (anyNodes_any _ _ _ _ hl (hA.below (by (with_reducible repeat first | apply Qa | assumption | apply Qb | apply Qc | apply Qd | apply Qe | refine Qf ?_ (by assumption) ?_); all_goals (try simp only [Sz]); first | done | omega | (try simp only [Sz] at *); omega))).mono ?_; rw [H4.out]; rintro e w1 ⟨rfl, hb1⟩; obtain ⟨hc1, hf1⟩ := bcell hb1; have hz1 := hb1.size; simp only [World.size_alloc] at hz1 hc1 hf1)
      go_loopw [42] (fun i wr => ∃ k : Nat, k ≤ l.length ∧ i = .int .i64 k ∧ (l.take k).any (badR regs l.length) = false ∧ Below w1.heap.size w1 wr) (fun i _ => l.length - (intOf i).toNat)
      case atStart => exact ⟨0, Nat.zero_le _, rfl, by simp, Below.refl _ _⟩
      case round =>
        obtain ⟨k, hk, rfl, hno, hbr⟩ := hrel
        have hzr := hbr.size
        have Hno := hide hno
        clear hno
        obtain ⟨hcr, hfr⟩ := bcell hbr
        have hbA : Below w.heap.size w wr := (by (with_reducible repeat first | apply Qa | assumption | apply Qb | apply Qc | apply Qd | apply Qe | refine Qf ?_ (by assumption) ?_); all_goals (try simp only [Sz]); first | done | omega | (try simp only [Sz] at *); omega)
        have g0 : wr.cell? ⟨w.heap.size, 0, none⟩ = some (.int .i64 regs) := by rw [hcr _ _ (by omega), hc1 _ _ (by omega)]; simp
        have g1 : wr.cell? ⟨w.heap.size, 1, none⟩ = some (.slice A l.length cap) := by rw [hcr _ _ (by omega), hc1 _ _ (by omega)]; simp
        have gl : w.heap.size < wr.heap.size := by omega
        clear hc1 hf1 hcr hfr
        by_cases hlt : k < l.length
        · obtain ⟨b, off, n, rfl, hbl, hkn, hn⟩ := hA.get hlt
          have Hkn := hide hkn
          clear hkn
          obtain ⟨c0, c1, c2, c3, c4, c5⟩ := hn.below hbA hbl
          have hbw : b < wr.heap.size := by omega
          go_wp2_with (first
            | (go_at_call 53; refine (of_any _ _).mono ?_; rintro e w2 ⟨rfl, hbw2⟩; obtain ⟨hcw2, hfw2⟩ := bcell hbw2; have hzw2 := hbw2.size; simp only [Sz] at hzw2 hcw2 hfw2; (try have hyw2 := Nat.lt_of_succ_le hzw2); (try have hxw2 := Nat.lt_of_succ_lt hyw2); have gl2 : w.heap.size < w2.heap.size := (by omega))
            | (go_at_call 54; refine (check2_any _ regs _ _ _ (by go_simp)).mono ?_; rintro e w' ⟨rfl, rfl⟩)
            | (go_at_call 55; refine (check3_any _ (some ⟨b, off, none⟩) l.length cap _ _ _ (by go_simp)).mono ?_; rintro e w' ⟨rfl, rfl⟩))
          all_goals go_tidy
          all_goals try simp only [Bool.not_eq_true] at *
          all_goals first
            | (go_ret
               exact ⟨by rw [Hf.out, if_pos (any_of_take _ l k n Hkn.out (by simp [badR, *]))]; rfl, (by (with_reducible repeat first | apply Qa | assumption | apply Qb | apply Qc | apply Qd | apply Qe | refine Qf ?_ (by assumption) ?_); all_goals (try simp only [Sz]); first | done | omega | (try simp only [Sz] at *); omega)⟩)
            | (go_roundw
               case rel => exact ⟨k + 1, by omega, by go_num, by rw [any_take_succ _ l k n Hkn.out, Hno.out]; simp [badR, *], (by (with_reducible repeat first | apply Qa | assumption | apply Qb | apply Qc | apply Qd | apply Qe | refine Qf ?_ (by assumption) ?_); all_goals (try simp only [Sz]); first | done | omega | (try simp only [Sz] at *); omega)⟩
               case measure => simp [intOf]; omega)
        · have hR : l.any (badR regs l.length) = false := by rw [← any_take_all _ l k hlt, Hno.out]
          have Hf2 := hide (Hf.out.trans (if_neg (by simp [hR])))
          clear hR Hno Hf hbr hzr hb1 hz1
          go_wp2_with fail
          go_loopw [99] (fun i w2 => ∃ k : Nat, k ≤ l.length ∧ i = .int .i64 k ∧ (l.take k).any badF = false ∧ Below w.heap.size w w2) (fun i _ => l.length - (intOf i).toNat)
          case atStart => exact ⟨0, Nat.zero_le _, rfl, by simp, hbA⟩
          case round =>
            clear g0 g1 hbA hlt hk gl
            obtain ⟨k, hk, rfl, hno, hbr⟩ := hrel
            have hzr := hbr.size
            have Hno := hide hno
            clear hno
            by_cases hlt : k < l.length
            · obtain ⟨b, off, n, rfl, hbl, hkn, hn⟩ := hA.get hlt
              have Hkn := hide hkn
              clear hkn
              obtain ⟨c0, c1, c2, c3, c4, c5⟩ := hn.below hbr hbl
              have hbw := Nat.lt_of_lt_of_le hbl hzr
              go_wp2_with (first
                | (go_at_call 53; refine (of_any _ _).mono ?_; rintro e w2 ⟨rfl, hbw2⟩; obtain ⟨hcw2, hfw2⟩ := bcell hbw2; have hzw2 := hbw2.size; simp only [Sz] at hzw2 hcw2 hfw2; (try have hyw2 := Nat.lt_of_succ_le hzw2); (try have hxw2 := Nat.lt_of_succ_lt hyw2))
                | (go_at_call 56; refine (check4_any _ _ _).mono ?_; rintro e w' ⟨rfl, rfl⟩))
              all_goals go_tidy
              all_goals try simp only [Bool.not_eq_true] at *
              all_goals first
                | (go_ret
                   exact ⟨by rw [Hf2.out, if_pos (any_of_take _ l k n Hkn.out (by simp [badF, *]))]; rfl, (by (with_reducible repeat first | apply Qa | assumption | apply Qb | apply Qc | apply Qd | apply Qe | refine Qf ?_ (by assumption) ?_); all_goals (try simp only [Sz]); first | done | omega | (try simp only [Sz] at *); omega)⟩)
                | (go_roundw
                   case rel => exact ⟨k + 1, by omega, by go_num, by rw [any_take_succ _ l k n Hkn.out, Hno.out]; simp [badF, *], (by (with_reducible repeat first | apply Qa | assumption | apply Qb | apply Qc | apply Qd | apply Qe | refine Qf ?_ (by assumption) ?_); all_goals (try simp only [Sz]); first | done | omega | (try simp only [Sz] at *); omega)⟩
                   case measure => simp [intOf]; omega)
            · have hR : l.any badF = false := by rw [← any_take_all _ l k hlt, Hno.out]
              have Hf3 := hide (Hf2.out.trans (if_neg (by simp [hR])))
              clear hR Hno Hf2
              go_wp2_with fail
              go_ret
              exact ⟨by rw [Hf3.out]; rfl, hbr⟩
end
section
open Go.RowKit
set_option maxHeartbeats 2000000
def askOne (plus lt x : List Bool) (m : Nat) : Bool := yn plus m || yn lt m && yn x m
theorem says1_any (bk em : Bool) (G P Q T X : Option Addr) (g p q t xn gc pc qc tc xc : Nat) (plus lt x : List Bool) (f h : Nat) (m : Nat) (w : World)
 (hQ : ValsAt w Q (bools plus)) (hT : ValsAt w T (bools lt)) (hX : ValsAt w X (bools x)) (hq : plus.length = q) (ht : lt.length = t) (hx : x.length = xn)
 (hF : Blk w f 92 #[.bool bk, .bool em, .slice G g gc, .slice P p pc, .slice Q q qc, .slice T t tc]) (hH : Blk w h 48 #[.slice X xn xc])
 (m1 : m < q) (m2 : m < t) (m3 : m < xn) (hbig : q ≤ 65536 ∧ t ≤ 65536 ∧ xn ≤ 65536) :
 Calls Try.prog 98 #[.int .i64 m, .pointer (some ⟨f, 0, none⟩), .pointer (some ⟨h, 0, none⟩)] w fun e w' => e = .returned (.bool (askOne plus lt x m)) ∧ w = w' := by (
 obtain ⟨b1, b2, b3⟩ := hbig
 obtain ⟨qb, qo, rfl, _, cq⟩ := hQ.bool (k := m) (by omega)
 obtain ⟨tb, to_, rfl, _, ct⟩ := hT.bool (k := m) (by omega)
 obtain ⟨xb, xo, rfl, _, cx⟩ := hX.bool (k := m) (by omega)
 have f4 := hF.cell 4
 have f5 := hF.cell 5
 have h0 := hH.cell 0
 simp only [Yl] at f4 f5 h0
 clear hF hH hQ hT hX hq ht hx
 unfold askOne
 cases h1 : yn plus m <;> cases h2 : yn lt m <;> cases h3 : yn x m <;> rw [h1] at cq <;> rw [h2] at ct <;> rw [h3] at cx <;> go_enter Try.func98, Try.ntmps98 <;> go_wp2
 all_goals go_tidy
 all_goals go_ret
 all_goals exact ⟨rfl, rfl⟩)
theorem all_take_succ {α : Type} (p : α → Bool) (l : List α) (k : Nat) (x : α) (h : l[k]? = some x) : (l.take (k + 1)).all p = ((l.take k).all p && p x) := by (
 rw [List.take_add_one, h]; simp)
theorem all_of_take {α : Type} (p : α → Bool) (l : List α) (k : Nat) (x : α) (h : l[k]? = some x) (hp : p x = false) : l.all p = false :=
 List.all_eq_false.2 ⟨x, List.mem_of_getElem? h, by simp [hp]⟩
theorem all_take_all {α : Type} (p : α → Bool) (l : List α) (k : Nat) (h : ¬ k < l.length) : (l.take k).all p = l.all p := by (
 rw [List.take_of_length_le (by omega)])
theorem all_any (bk em : Bool) (G P Q T X R : Option Addr) (g p q t xn gc pc qc tc xc rc : Nat) (plus lt x : List Bool) (f h : Nat) (rs : List Int) (w : World)
 (hQ : ValsAt w Q (bools plus)) (hT : ValsAt w T (bools lt)) (hX : ValsAt w X (bools x)) (hq : plus.length = q) (ht : lt.length = t) (hx : x.length = xn)
 (hF : Blk w f 92 #[.bool bk, .bool em, .slice G g gc, .slice P p pc, .slice Q q qc, .slice T t tc]) (hH : Blk w h 48 #[.slice X xn xc])
 (hR : ValsAt w R (ints rs)) (hrs : ∀ r ∈ rs, 0 ≤ r ∧ r < q ∧ r < t ∧ r < xn) (hbig : q ≤ 65536 ∧ t ≤ 65536 ∧ xn ≤ 65536) (hrl : rs.length ≤ 65536) :
 Calls Try.prog 97 #[.slice R rs.length rc, .func (.func 98) #[] #[.pointer (some ⟨f, 0, none⟩), .pointer (some ⟨h, 0, none⟩)]] w
  fun e w' => e = .returned (.bool (rs.all fun r => askOne plus lt x r.toNat)) ∧ w = w' := by (
 have hone := fun (m : Nat) (m1 : m < q) (m2 : m < t) (m3 : m < xn) => says1_any bk em G P Q T X g p q t xn gc pc qc tc xc plus lt x f h m w hQ hT hX hq ht hx hF hH m1 m2 m3 hbig
 have Hone := hide hone
 clear hone hQ hT hX hq ht hx hF hH hbig
 go_enter Try.func97, Try.ntmps97
 go_wp2
 go_loop [9] (fun i => ∃ k : Nat, k ≤ rs.length ∧ i = .int .i64 k ∧ (rs.take k).all (fun r => askOne plus lt x r.toNat) = true) (fun i => rs.length - (intOf i).toNat)
 case atStart => exact ⟨0, Nat.zero_le _, rfl, by simp⟩
 case round => (
 obtain ⟨k, hk, rfl, hno⟩ := hrel
 have Hno := hide hno
 clear hno
 by_cases hlt : k < rs.length
 · (
 obtain ⟨b, off, v, rfl, hbl, hkn, hn⟩ := hR.get (k := k) (by rw [ints_length]; exact hlt)
 rw [ints_get] at hkn
 obtain ⟨r, hr, rfl⟩ : ∃ r, rs[k]? = some r ∧ .int .i64 r = v := by simpa using hkn
 have hrr := hrs r (List.mem_of_getElem? hr)
 obtain ⟨m, rfl⟩ := Int.eq_ofNat_of_zero_le hrr.1
 have Hr := hide hr
 clear hkn hr
 have hp := Hone.out m (by omega) (by omega) (by omega)
 have Hp := hide hp
 clear hp
 cases ho : askOne plus lt x m
 · (
 rw [ho] at Hp
 go_wp2_with (go_at_call 98; refine (Hp.out).mono ?_; rintro e w1 ⟨rfl, rfl⟩)
 go_ret
 exact ⟨by rw [all_of_take _ rs k m Hr.out (by simpa using ho)]; rfl, rfl⟩)
 · (
 rw [ho] at Hp
 go_wp2_with (go_at_call 98; refine (Hp.out).mono ?_; rintro e w1 ⟨rfl, rfl⟩)
 go_round
 case rel => exact ⟨k + 1, by omega, by go_num, by rw [all_take_succ _ rs k m Hr.out, Hno.out]; simpa using ho⟩
 case measure => simp [intOf]; omega))
 · (
 go_wp2
 go_ret
 exact ⟨by rw [← all_take_all _ rs k hlt, Hno.out]; rfl, rfl⟩)))
def saysB (em : Bool) (gen pass plus lt x : List Bool) (rs : List Int) (n : Nat) : Bool :=
 if yn gen n then true else if yn pass n then (if rs.length = 0 then em else rs.all fun r => askOne plus lt x r.toNat) else false
theorem says_any (bk em : Bool) (G P Q T X R GB : Option Addr) (g p q t xn gc pc qc tc xc rc gb gbc : Nat) (gen pass plus lt x : List Bool) (rs : List Int) (GA nn n : Nat) (w : World)
 (hG : ValsAt w G (bools gen)) (hP : ValsAt w P (bools pass)) (hQ : ValsAt w Q (bools plus)) (hT : ValsAt w T (bools lt)) (hX : ValsAt w X (bools x))
 (hg : gen.length = g) (hp : pass.length = p) (hq : plus.length = q) (ht : lt.length = t) (hx : x.length = xn)
 (hA : w.cell? ⟨GA, n, none⟩ = some (.slice R rs.length rc)) (hAl : GA < w.heap.size) (hn1 : n < nn) (hn2 : n < g) (hn3 : n < p)
 (hR : ValsAt w R (ints rs)) (hrs : ∀ r ∈ rs, 0 ≤ r ∧ r < q ∧ r < t ∧ r < xn) (hbig : q ≤ 65536 ∧ t ≤ 65536 ∧ xn ≤ 65536) (hbig2 : g ≤ 65536 ∧ p ≤ 65536 ∧ nn ≤ 65536) (hrl : rs.length ≤ 65536) :
 Calls Try.prog 81 #[.agg #[.slice (some ⟨GA, 0, none⟩) nn nn, .slice GB gb gbc], .agg #[.bool bk, .bool em, .slice G g gc, .slice P p pc, .slice Q q qc, .slice T t tc], .slice X xn xc, .int .i64 n] w
  fun e w' => e = .returned (.bool (saysB em gen pass plus lt x rs n)) ∧ Below w.heap.size w w' := by (
 obtain ⟨b1, b2, b3⟩ := hbig
 obtain ⟨b4, b5, b6⟩ := hbig2
 obtain ⟨gb_, go_, rfl, hgl, cg⟩ := hG.bool (k := n) (by omega)
 obtain ⟨pb_, po_, rfl, hpl, cp⟩ := hP.bool (k := n) (by omega)
 have Hg := hide hg
 have Hp := hide hp
 have Hq := hide hq
 have Ht := hide ht
 have Hx := hide hx
 clear hg hp hq ht hx
 have g1 := Nat.lt_succ_of_lt hgl
 have g2 := Nat.lt_succ_of_lt g1
 have p1 := Nat.lt_succ_of_lt hpl
 have p2 := Nat.lt_succ_of_lt p1
 have a1 := Nat.lt_succ_of_lt hAl
 have a2 := Nat.lt_succ_of_lt a1
 simp only [Nat.succ_eq_add_one] at g1 g2 p1 p2 a1 a2
 unfold saysB
 cases h1 : yn gen n
 case true => (
 rw [h1] at cg
 go_enter Try.func81, Try.ntmps81
 go_wp2
 go_ret
 exact ⟨rfl, (by (with_reducible repeat first | apply Qa | assumption | apply Qb | apply Qc | apply Qd | apply Qe | refine Qf ?_ (by assumption) ?_); all_goals (try simp only [Sz]); first | done | omega | (try simp only [Sz] at *); omega)⟩)
 case false => (
 rw [h1] at cg
 cases h2 : yn pass n
 case false => (
 rw [h2] at cp
 go_enter Try.func81, Try.ntmps81
 go_wp2
 go_ret
 exact ⟨rfl, (by (with_reducible repeat first | apply Qa | assumption | apply Qb | apply Qc | apply Qd | apply Qe | refine Qf ?_ (by assumption) ?_); all_goals (try simp only [Sz]); first | done | omega | (try simp only [Sz] at *); omega)⟩)
 case true => (
 rw [h2] at cp
 by_cases h3 : rs.length = 0
 · (
 have h3' : rs = [] := List.eq_nil_of_length_eq_zero h3
 subst h3'
 clear h3
 simp only [List.length_nil] at hA
 go_enter Try.func81, Try.ntmps81
 go_wp2
 go_ret
 exact ⟨rfl, (by (with_reducible repeat first | apply Qa | assumption | apply Qb | apply Qc | apply Qd | apply Qe | refine Qf ?_ (by assumption) ?_); all_goals (try simp only [Sz]); first | done | omega | (try simp only [Sz] at *); omega)⟩)
 · (
 have h3' : ((rs.length : Int) == 0) = false := beq_eq_false_iff_ne.2 (by omega)
 rw [if_neg h3]
 clear h3
 go_enter Try.func81, Try.ntmps81
 go_wp2_with (go_at_call 97; refine (all_any bk em _ _ Q T X R g p q t xn gc pc qc tc xc rc plus lt x (w.heap.size + 1) (w.heap.size + 2) rs _ (hQ.below (by (with_reducible repeat first | apply Qa | assumption | apply Qb | apply Qc | apply Qd | apply Qe | refine Qf ?_ (by assumption) ?_); all_goals (try simp only [Sz]); first | done | omega | (try simp only [Sz] at *); omega)) (hT.below (by (with_reducible repeat first | apply Qa | assumption | apply Qb | apply Qc | apply Qd | apply Qe | refine Qf ?_ (by assumption) ?_); all_goals (try simp only [Sz]); first | done | omega | (try simp only [Sz] at *); omega)) (hX.below (by (with_reducible repeat first | apply Qa | assumption | apply Qb | apply Qc | apply Qd | apply Qe | refine Qf ?_ (by assumption) ?_); all_goals (try simp only [Sz]); first | done | omega | (try simp only [Sz] at *); omega)) Hq.out Ht.out Hx.out (by repeat (first | ((with_reducible refine Blk.new' ?_); exact (by (try simp only [Sz]); first | done | omega | (try simp only [Sz] at *); omega)) | (with_reducible refine Blk.drew ?_) | (with_reducible refine Blk.drewN ?_ _) | (with_reducible refine Blk.alloc ?_ _) | with_reducible assumption)) (by repeat (first | ((with_reducible refine Blk.new' ?_); exact (by (try simp only [Sz]); first | done | omega | (try simp only [Sz] at *); omega)) | (with_reducible refine Blk.drew ?_) | (with_reducible refine Blk.drewN ?_ _) | (with_reducible refine Blk.alloc ?_ _) | with_reducible assumption)) (hR.below (by (with_reducible repeat first | apply Qa | assumption | apply Qb | apply Qc | apply Qd | apply Qe | refine Qf ?_ (by assumption) ?_); all_goals (try simp only [Sz]); first | done | omega | (try simp only [Sz] at *); omega)) hrs ⟨b1, b2, b3⟩ hrl).mono ?_; rintro e w' ⟨rfl, rfl⟩)
 go_ret
 exact ⟨rfl, (by (with_reducible repeat first | apply Qa | assumption | apply Qb | apply Qc | apply Qd | apply Qe | refine Qf ?_ (by assumption) ?_); all_goals (try simp only [Sz]); first | done | omega | (try simp only [Sz] at *); omega)⟩))))
end
section
open Go.RowKit
set_option maxHeartbeats 2000000
def edgesOf (bk : Bool) (l : List Nd) (n : Nat) : List Int := sel (if bk then nextP l n else aheadP l n) l.length
def allB (em : Bool) (plus lt x : List Bool) (rs : List Int) (k : Nat) : Bool := (decide (0 < rs.length) || em) && (rs.take k).all fun r => askOne plus lt x r.toNat
theorem allB_succ_false {em : Bool} {plus lt x : List Bool} {rs : List Int} {k : Nat} (h : allB em plus lt x rs k = false) : allB em plus lt x rs (k + 1) = false := by (
 unfold allB at *
 rw [List.take_add_one, List.all_append, ← Bool.and_assoc, h, Bool.false_and])
theorem allB_succ_true {em : Bool} {plus lt x : List Bool} {rs : List Int} {k : Nat} {r : Int} {b : Bool} (h : allB em plus lt x rs k = true) (hr : rs[k]? = some r) (hb : askOne plus lt x r.toNat = b) : allB em plus lt x rs (k + 1) = b := by (
 unfold allB at *
 rw [List.take_add_one, List.all_append, ← Bool.and_assoc, h, hr]
 simpa using hb)
theorem saysB_allB (em : Bool) (gen pass plus lt x : List Bool) (rs : List Int) (n : Nat) : (yn gen n || yn pass n && allB em plus lt x rs rs.length) = saysB em gen pass plus lt x rs n := by (
 unfold saysB allB
 rw [List.take_length]
 cases yn gen n <;> cases yn pass n <;> simp
 by_cases h : rs.length = 0
 · (
 have : rs = [] := List.eq_nil_of_length_eq_zero h
 subst this
 simp)
 · (
 have h0 : 0 < rs.length := by omega
 have : rs ≠ [] := fun e => h (by simp [e])
 simp [this, h0]))
end
section
open Go.RowKit
theorem askOne_mono {plus lt x y : List Bool} (h : leB x y) {m : Nat} (ha : askOne plus lt x m = true) : askOne plus lt y m = true := by (
 simp only [askOne, Bool.or_eq_true, Bool.and_eq_true] at *
 rcases ha with ha | ⟨h1, h2⟩
 · exact .inl ha
 · exact .inr ⟨h1, h m h2⟩)
theorem saysB_mono {em : Bool} {gen pass plus lt x y : List Bool} {rs : List Int} {n : Nat} (h : leB x y) (hs : saysB em gen pass plus lt x rs n = true) : saysB em gen pass plus lt y rs n = true := by (
 unfold saysB at *
 split at hs
 · rename_i h1; rw [if_pos h1]
 · (
 rename_i h1
 rw [if_neg h1]
 split at hs
 · (
 rename_i h2
 rw [if_pos h2]
 split at hs
 · rename_i h3; rw [if_pos h3]; exact hs
 · (
 rename_i h3
 rw [if_neg h3]
 rw [List.all_eq_true] at *
 exact fun r hr => askOne_mono h (hs r hr)))
 · cases hs))
theorem saysB_congr {em : Bool} {gen pass plus lt x : List Bool} {rs rs' : List Int} {n : Nat} (h : ∀ m, m ∈ rs ↔ m ∈ rs') : saysB em gen pass plus lt x rs n = saysB em gen pass plus lt x rs' n := by (
 unfold saysB
 have h0 : (rs.length = 0) = (rs'.length = 0) := by (
 simp only [List.length_eq_zero_iff, List.eq_nil_iff_forall_not_mem, h])
 have h1 : (rs.all fun r => askOne plus lt x r.toNat) = (rs'.all fun r => askOne plus lt x r.toNat) := by (
 rw [Bool.eq_iff_iff, List.all_eq_true, List.all_eq_true]
 simp only [h])
 simp only [h0, h1])
theorem saysB_local {em : Bool} {gen pass plus lt x y : List Bool} {rs : List Int} {n : Nat} (h : ∀ m ∈ rs, yn x m.toNat = yn y m.toNat) : saysB em gen pass plus lt x rs n = saysB em gen pass plus lt y rs n := by (
 unfold saysB
 have h1 : (rs.all fun r => askOne plus lt x r.toNat) = (rs.all fun r => askOne plus lt y r.toNat) := by (
 rw [Bool.eq_iff_iff, List.all_eq_true, List.all_eq_true]
 refine forall_congr' fun m => forall_congr' fun hm => ?_
 unfold askOne
 rw [h m hm])
 rw [h1])
def flowS (bk em : Bool) (gen pass plus lt : List Bool) (l : List Nd) (x : List Bool) (n : Nat) : Bool := saysB em gen pass plus lt x (edgesOf bk l n) n
theorem flowS_mono (bk em : Bool) (gen pass plus lt : List Bool) (l : List Nd) : Mono (flowS bk em gen pass plus lt l) := fun _ _ _ h hs => saysB_mono h hs
end
end Go.Proofs.Ytmghkonmfbpjcab
