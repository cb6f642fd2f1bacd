/- FlowG HoldsR Holds SolveR TRow RunP RunQ. -/
import Derived.Test.YtmghkonmfbpjcabGreatGB
import Derived.Test.YtmghkonmfbpjcabGreatFlowOf
import Derived.Test.YtmghkonmfbpjcabGreatGC
import Derived.Test.YtmghkonmfbpjcabGreatGA
import Derived.Deep.LoopGhost
import Derived.Deep.RegionHeld3
import Derived.Deep.QuietTactic
import Derived.BigQuiet
set_option linter.unusedVariables false
set_option linter.unusedSimpArgs false
namespace Go.Proofs.YtmghkonmfbpjcabGreat
section
open Go.RowKit
set_option maxHeartbeats 2000000
theorem mem_asks {tS tI : TypeId} {B GA GB : Nat} {bk : Bool} {l : List Nd} {wr : World} {vs : Nat → Value} {xs : Nat → List Int} (h : Graph tS tI B GA GB bk l.length (PEk l l.length) wr vs xs)
 (hT : ∀ (k : Nat) (n : Nd), l[k]? = some n → ∀ m ∈ exitsL n, 0 ≤ m ∧ m < l.length) {a : Nat} (ha : a < l.length) (b : Int) : b ∈ xs a ↔ b ∈ edgesOf bk l a := by (
 rw [h.edges.asks a ha b]
 unfold edgesOf PEk
 rw [mem_sel]
 cases bk
 · (
 simp only [fst, snd, Bool.false_eq_true, ↓reduceIte]
 constructor
 · (
 rintro ⟨i, m, ⟨hi, n, hn, hm⟩, rfl, rfl⟩
 exact ⟨i, hi, by rw [aheadP_eq hn]; exact mem_exitsL.1 hm, rfl⟩)
 · (
 rintro ⟨i, hi, hp, rfl⟩
 have hn : l[i]? = some l[i] := List.getElem?_eq_getElem hi
 rw [aheadP_eq hn] at hp
 exact ⟨i, a, ⟨hi, _, hn, mem_exitsL.2 hp⟩, rfl, rfl⟩))
 · (
 simp only [fst, snd, ↓reduceIte]
 have hn : l[a]? = some l[a] := List.getElem?_eq_getElem ha
 constructor
 · (
 rintro ⟨i, m, ⟨hi, n, hn', hm⟩, hai, rfl⟩
 have hai' : i = a := by omega
 subst hai'
 have hr := hT _ _ hn' b hm
 obtain ⟨mm, rfl⟩ := Int.eq_ofNat_of_zero_le hr.1
 exact ⟨mm, by omega, by rw [nextP_eq hn']; exact mem_exitsL.1 hm, rfl⟩)
 · (
 rintro ⟨i, hi, hp, rfl⟩
 rw [nextP_eq hn] at hp
 exact ⟨a, i, ⟨ha, _, hn, mem_exitsL.2 hp⟩, rfl, rfl⟩)))
theorem graph_says (bk em : Bool) (G P Q T X : Option Addr) (g p q t xn gc pc qc tc xc : Nat) (gen pass plus lt x : List Bool) (l : List Nd) (B GA GB n : Nat) (vs : Nat → Value) (xs : Nat → List Int) (w W : World)
 (hG : ValsAt W G (bools gen)) (hP : ValsAt W P (bools pass)) (hQ : ValsAt W Q (bools plus)) (hT : ValsAt W T (bools lt)) (hX : ValsAt W X (bools x))
 (hg : gen.length = g) (hp : pass.length = p) (hq : plus.length = q) (ht : lt.length = t) (hx : x.length = xn)
 (eg : g = l.length) (ep : p = l.length) (eq_ : q = l.length) (et : t = l.length) (ex : xn = l.length) (hl : l.length ≤ 256)
 (hgr : Graph 65 3 B GA GB bk l.length (PEk l l.length) w vs xs) (hb : Below w.heap.size w W) (hn : n < l.length)
 (hE : ∀ (k : Nat) (n : Nd), l[k]? = some n → ∀ m ∈ exitsL n, 0 ≤ m ∧ m < l.length) :
 Calls Tryz.prog 69 #[.agg #[.slice (some ⟨GA, 0, none⟩) l.length l.length, .slice (some ⟨GB, 0, none⟩) l.length l.length], .agg #[.bool bk, .bool em, .slice G g gc, .slice P p pc, .slice Q q qc, .slice T t tc], .slice X xn xc, .int .i64 n] W
  fun e w' => e = .returned (.bool (flowS bk em gen pass plus lt l x n)) ∧ Below W.heap.size W w' := by (
 have hrow := (hgr.tab.row (i := n) (by omega)).below' hb
 obtain ⟨R, rc, hv, _, _⟩ := hrow.shape
 rw [ints_length] at hv
 have hcell := tabcell hgr.ra hn
 have hlt := rowlt hgr.ra
 have hc := ((bcell hb).1 _ 0 hlt)
 have hcell' : W.cell? ⟨GA, n, none⟩ = some (vs n) := ((bcell hb).1 _ _ hlt).trans hcell
 rw [hv] at hcell'
 rw [hv] at hrow
 have hlen := hgr.len n (by omega)
 have hmem := mem_asks hgr hE hn
 have h := says_any bk em G P Q T X R (some ⟨GB, 0, none⟩) g p q t xn gc pc qc tc xc rc l.length l.length gen pass plus lt x (xs n) GA l.length n W hG hP hQ hT hX hg hp hq ht hx hcell'
  (Nat.lt_of_lt_of_le hlt hb.size) hn (by omega) (by omega) hrow.vals (fun r hr => by
   obtain ⟨i, h1, _, rfl⟩ := mem_sel.1 ((hmem r).1 hr)
   omega) (by omega) (by omega) (by omega)
 rw [saysB_congr (rs' := edgesOf bk l n) hmem] at h
 exact h)
end
section
open Go.RowKit
set_option maxHeartbeats 2000000
def holdsB (S : List Bool → Nat → Bool) (n : Nat) (x : List Bool) : Bool := (List.range n).all fun i => yn x i == S x i
end
section
open Go.RowKit
set_option maxHeartbeats 2000000
theorem fchk_zero {regs : Int} {l : List Nd} {g p q t : Nat} (h : fchk regs l g p q t = 0) : Right regs l ∧ g = l.length ∧ p = l.length ∧ q = l.length ∧ t = l.length := by (
 unfold fchk at h
 split at h
 · rename_i h1; exact absurd h h1
 · (
 rename_i h1
 split at h
 · (
 rename_i h2
 refine ⟨right_of_chk (by simpa using h1), ?_⟩
 simp only [okLens, Bool.and_eq_true, beq_iff_eq] at h2
 omega)
 · cases h))
end
section
open Go.RowKit
set_option maxHeartbeats 2000000
attribute [local irreducible] Row madeCells
theorem infoBool : (Tryz.prog.info? 4).map (fun i => (i.zero, i.size, i.bytes)) = some (some (.bool false), 1, 1) := by kernel_rfl
end
section
open Go.RowKit
deriving instance DecidableEq for Tm
def Tm.cells (n : Tm) : List Value := [.int .i64 n.op, .int .i64 n.a, .int .i64 n.b]
def Tm.lies (n : Tm) (w : World) (b off : Nat) : Prop :=
 w.cell? ⟨b, off, none⟩ = some (.int .i64 n.op) ∧ w.cell? ⟨b, off + 1, none⟩ = some (.int .i64 n.a) ∧ w.cell? ⟨b, off + 2, none⟩ = some (.int .i64 n.b)
def TmsAt (w : World) (A : Option Addr) (l : List Tm) : Prop :=
 l ≠ [] → ∃ b off, A = some ⟨b, off, none⟩ ∧ b < w.heap.size ∧ ∀ (i : Nat) (n : Tm), l[i]? = some n → n.lies w b (off + i * 3)
theorem Tm.lies.below {n : Tm} {B : Nat} {w w' : World} {b off : Nat} (h : n.lies w b off) (hb : Below B w w') (hl : b < B) : n.lies w' b off := by (
 obtain ⟨hc, _⟩ := bcell hb
 obtain ⟨h0, h1, h2⟩ := h
 exact ⟨(hc _ _ hl).trans h0, (hc _ _ hl).trans h1, (hc _ _ hl).trans h2⟩)
theorem TmsAt.below {w w' : World} {A : Option Addr} {l : List Tm} (h : TmsAt w A l) (hb : Below w.heap.size w w') : TmsAt w' A l := fun hn => by (
 obtain ⟨b, off, e, hl, hc⟩ := h hn
 exact ⟨b, off, e, Nat.lt_of_lt_of_le hl hb.size, fun i n hi => (hc i n hi).below hb hl⟩)
theorem TmsAt.mk {w : World} {b off : Nat} {l : List Tm} (hb : b < w.heap.size) (h : ∀ (i : Nat) (n : Tm), l[i]? = some n → n.lies w b (off + i * 3)) : TmsAt w (some ⟨b, off, none⟩) l :=
 fun _ => ⟨b, off, rfl, hb, h⟩
theorem TmsAt.get {w : World} {A : Option Addr} {l : List Tm} (h : TmsAt w A l) {k : Nat} (hk : k < l.length) :
 ∃ b off n, A = some ⟨b, off, none⟩ ∧ b < w.heap.size ∧ l[k]? = some n ∧ n.lies w b (off + k * 3) := by (
 obtain ⟨b, off, e, hb, hc⟩ := h (by intro h0; subst h0; simp at hk)
 exact ⟨b, off, l[k], e, hb, List.getElem?_eq_getElem hk, hc k _ (List.getElem?_eq_getElem hk)⟩)
theorem TmsAt.nil {w : World} {A : Option Addr} : TmsAt w A [] := fun h => absurd rfl h
def tcells : List Tm → List Value
 | [] => []
 | n :: l => n.cells ++ tcells l
theorem Tm.cells_len (n : Tm) : n.cells.length = 3 := rfl
theorem tcells_len (l : List Tm) : (tcells l).length = l.length * 3 := by (
 induction l with
 | nil => rfl
 | cons n l ih => simp only [tcells, List.length_append, Tm.cells_len, ih, List.length_cons]; omega)
theorem tcells_append (a b : List Tm) : tcells (a ++ b) = tcells a ++ tcells b := by (
 induction a with
 | nil => rfl
 | cons n a ih => simp only [List.cons_append, tcells, ih, List.append_assoc])
theorem tcells_get : ∀ (l : List Tm) (i j : Nat), j < 3 → (tcells l)[i * 3 + j]? = (l[i]?).bind fun n => n.cells[j]?
 | [], i, j, hj => by simp [tcells]
 | n :: l, 0, j, hj => by (
 simp only [tcells, Nat.zero_mul, Nat.zero_add, List.getElem?_cons_zero, Option.bind_some]
 rw [List.getElem?_append_left (by rw [Tm.cells_len]; exact hj)])
 | n :: l, i + 1, j, hj => by (
 simp only [tcells, List.getElem?_cons_succ]
 rw [List.getElem?_append_right (by rw [Tm.cells_len]; omega), Tm.cells_len, show (i + 1) * 3 + j - 3 = i * 3 + j by omega]
 exact tcells_get l i j hj)
theorem tcells_one (l : List Tm) : ∀ u ∈ tcells l, u.oneCell' = true := by (
 induction l with
 | nil => intro u hu; cases hu
 | cons n l ih =>
  intro u hu
  simp only [tcells, List.mem_append] at hu
  rcases hu with hu | hu
  · (
 simp only [Tm.cells, List.mem_cons, List.not_mem_nil, or_false] at hu
 rcases hu with rfl | rfl | rfl <;> rfl)
  · exact ih u hu)
theorem tlies_iff {n : Tm} {w : World} {b off : Nat} : n.lies w b off ↔ ∀ j, j < 3 → w.cell? ⟨b, off + j, none⟩ = n.cells[j]? := by (
 constructor
 · (
 rintro ⟨h0, h1, h2⟩ j hj
 match j, hj with
 | 0, _ => exact h0
 | 1, _ => exact h1
 | 2, _ => exact h2)
 · (
 intro h
 exact ⟨h 0 (by omega), h 1 (by omega), h 2 (by omega)⟩))
theorem TmsAt.cell {w : World} {b off : Nat} {l : List Tm} (h : TmsAt w (some ⟨b, off, none⟩) l) (k : Nat) (hk : k < l.length * 3) : w.cell? ⟨b, off + k, none⟩ = (tcells l)[k]? := by (
 have hd : k / 3 < l.length := by omega
 obtain ⟨b', off', n, e, _, hn, hl⟩ := h.get hd
 injection e with e
 injection e with e1 e2
 subst e1 e2
 have h3' : k % 3 < 3 := Nat.mod_lt _ (by omega)
 have := tlies_iff.1 hl (k % 3) h3'
 rw [show off + k / 3 * 3 + k % 3 = off + k by omega] at this
 have hg := tcells_get l (k / 3) (k % 3) h3'
 rw [show k / 3 * 3 + k % 3 = k by omega, hn] at hg
 rw [this, hg]
 rfl)
def TRow (w : World) (base : Nat) (e : TypeId) (v : Value) (l : List Tm) : Prop := w.ownsRow base e 3 v l.length (tcells l)
section
variable {w w' : World} {base : Nat} {e : TypeId} {v : Value} {l : List Tm}
theorem TRow.nil_ (w : World) (base : Nat) (e : TypeId) : TRow w base e (.slice none 0 0) [] := ⟨rfl, .inl ⟨rfl, rfl⟩⟩
theorem TRow.open (h : TRow w base e v l) : (v = .slice none 0 0 ∧ l = []) ∨ ∃ g cap cur, v = .slice (some ⟨g, 0, none⟩) l.length cap ∧ base ≤ g ∧ w.heap[g]? = some (.cells cur e (0, 0)) ∧ l.length ≤ cap ∧ cap ≤ maxLen ∧ cur.size = cap * 3 ∧
 ∀ k, k < l.length * 3 → cur[k]? = (tcells l)[k]? := by (
 obtain ⟨hl, ⟨hv, hn⟩ | ⟨g, cap, cur, hv, hb, hh, h1, h2, h3, h4⟩⟩ := h
 · exact .inl ⟨hv, List.eq_nil_of_length_eq_zero hn⟩
 · (
 refine .inr ⟨g, cap, cur, hv, hb, hh, h1, h2, h3, fun k hk => ?_⟩
 rw [← h4, List.getElem?_take, if_pos hk, Array.getElem?_toList]))
theorem TRow.close {g cap : Nat} {cur : Array Value} (hb : base ≤ g) (hh : w.heap[g]? = some (.cells cur e (0, 0))) (h1 : l.length ≤ cap) (h2 : cap ≤ maxLen) (h3 : cur.size = cap * 3)
 (h4 : ∀ k, k < l.length * 3 → cur[k]? = (tcells l)[k]?) : TRow w base e (.slice (some ⟨g, 0, none⟩) l.length cap) l := by (
 refine ⟨tcells_len l, .inr ⟨g, cap, cur, rfl, hb, hh, h1, h2, h3, ?_⟩⟩
 refine List.ext_getElem? fun k => ?_
 rw [List.getElem?_take]
 split
 · (
 rename_i hk
 rw [Array.getElem?_toList]
 exact h4 k hk)
 · (
 rename_i hk
 rw [List.getElem?_eq_none (by rw [tcells_len]; omega)]))
theorem TRow.lt (h : TRow w base e v l) : ∀ k, v.ownBlock = some k → base ≤ k ∧ k < w.heap.size := by (
 rintro k hk
 rcases h.open with ⟨rfl, _⟩ | ⟨g, cap, cur, rfl, hb, hh, _⟩
 · simp [Value.ownBlock] at hk
 · (
 simp [Value.ownBlock] at hk
 subst hk
 exact ⟨hb, lt_of_heap hh⟩))
theorem TRow.of_block (h : TRow w base e v l) (hk : ∀ k, v.ownBlock = some k → w'.heap[k]? = w.heap[k]?) : TRow w' base e v l := by (
 obtain ⟨hl, ⟨hv, hn⟩ | ⟨g, cap, cur, hv, hb, hh, r⟩⟩ := h
 · exact ⟨hl, .inl ⟨hv, hn⟩⟩
 · exact ⟨hl, .inr ⟨g, cap, cur, hv, hb, (hk g (by rw [hv]; rfl)).trans hh, r⟩⟩)
theorem TRow.kept {row : Option Nat} (h : TRow w base e v l) (hg : w.grownBy w' row) (hne : v.ownBlock = none ∨ v.ownBlock ≠ row) : TRow w' base e v l :=
 h.of_block fun k hk => hg.block k (h.lt k hk).2 (by
  rcases hne with hn | hn
  · rw [hn] at hk; cases hk
  · rw [← hk]; exact hn)
theorem TRow.below {B : Nat} (h : TRow w base e v l) (hb : Below B w w') (hB : ∀ k, v.ownBlock = some k → k < B) : TRow w' base e v l := h.of_block fun k hk => hb.block k (hB k hk)
theorem TRow.below' (h : TRow w base e v l) (hb : Below w.heap.size w w') : TRow w' base e v l := h.of_block fun k hk => hb.block k (h.lt k hk).2
theorem TRow.alloc (h : TRow w base e v l) (o : Obj) : TRow (w.alloc o) base e v l := h.of_block fun k hk => Below.heap_alloc w o k (h.lt k hk).2
theorem TRow.drew (h : TRow w base e v l) : TRow w.drew base e v l := h
theorem TRow.drewN (h : TRow w base e v l) (n : Nat) : TRow (w.drewN n) base e v l := h
theorem TRow.far (h : TRow w base e v l) {p : Addr} (hp : v.ownBlock ≠ some p.block) (u : Value) : TRow (w.setCell p u) base e v l :=
 h.of_block fun k hk => Below.heap_setCell w p u k (by rintro rfl; exact hp hk)
theorem TRow.mono {base' : Nat} (h : TRow w base e v l) (hb : base' ≤ base) : TRow w base' e v l := by (
 obtain ⟨hl, h | ⟨g, cap, cur, hv, hg, r⟩⟩ := h
 · exact ⟨hl, .inl h⟩
 · exact ⟨hl, .inr ⟨g, cap, cur, hv, Nat.le_trans hb hg, r⟩⟩)
theorem TRow.shape (h : TRow w base e v l) : ∃ A cap, v = .slice A l.length cap ∧ l.length ≤ cap ∧ cap ≤ maxLen := by (
 rcases h.open with ⟨rfl, rfl⟩ | ⟨g, cap, cur, rfl, _, _, hc, hm, _⟩
 · exact ⟨none, 0, rfl, Nat.le_refl _, Nat.zero_le _⟩
 · exact ⟨_, cap, rfl, hc, hm⟩)
theorem TRow.nodes {A : Option Addr} {n cap : Nat} (h : TRow w base e (.slice A n cap) l) : TmsAt w A l := fun hn => by (
 rcases h.open with ⟨_, rfl⟩ | ⟨g, cap, cur, hv, hb, hh, _, _, _, hc⟩
 · exact absurd rfl hn
 · (
 injection hv with hA
 subst hA
 refine ⟨g, 0, rfl, lt_of_heap hh, fun i n hi => tlies_iff.2 fun j hj => ?_⟩
 have hlt : i < l.length := (List.getElem?_eq_some_iff.1 hi).1
 have := hc (i * 3 + j) (by omega)
 rw [tcells_get l i j hj, hi] at this
 rw [Nat.zero_add]
 simp only [World.cell?, hh, this]
 simp))
theorem TRow.get (h : TRow w base e v l) {k : Nat} (hk : k < l.length) :
 ∃ g cap n, v = .slice (some ⟨g, 0, none⟩) l.length cap ∧ base ≤ g ∧ g < w.heap.size ∧ l[k]? = some n ∧ n.lies w g (k * 3) ∧ ∀ j, j < l.length * 3 → w.frozen? ⟨g, j, none⟩ = false := by (
 have hN := h.shape
 rcases h.open with ⟨_, rfl⟩ | ⟨g, cap, cur, rfl, hb, hh, hcl, hcm, hcs, hc⟩
 · simp at hk
 · (
 have hn := (h.nodes).get hk
 obtain ⟨b, off, n, e1, _, hn, hl⟩ := hn
 injection e1 with e1
 injection e1 with e1 e2
 subst e1 e2
 rw [Nat.zero_add] at hl
 exact ⟨g, cap, n, rfl, hb, lt_of_heap hh, hn, hl, fun j hj => by simp [World.frozen?, hh]⟩))
theorem TRow.ne_blk {g : Nat} {t : TypeId} {cs : Array Value} (h : TRow w base e v l) (hg : Blk w g t cs) (hne : e ≠ t) : v.ownBlock ≠ some g := by (
 rcases h.open with ⟨rfl, _⟩ | ⟨g', cap, cur, rfl, _, hh, _⟩
 · simp [Value.ownBlock]
 · (
 intro he
 simp [Value.ownBlock] at he
 subst he
 have hB : Blk w g' e cur := by unfold Blk; exact hh
 exact hB.ne_ hg hne rfl))
theorem TRow.ne_row {base' : Nat} {e' : TypeId} {u : Value} {ys : List Value} (h : TRow w base e v l) (h' : Row w base' e' u ys) (hne : e ≠ e') : v.ownBlock = none ∨ v.ownBlock ≠ u.ownBlock := by (
 rcases h' with ⟨rfl, _⟩ | ⟨g', o, cap, cur, rfl, _, hh, _⟩
 · (
 rcases hv : v.ownBlock with _ | k
 · exact .inl rfl
 · exact .inr (by simp [Value.ownBlock]))
 · exact .inr (h.ne_blk (cs := cur) (t := e') (by unfold Blk; exact hh) hne))
theorem run_append_terms {P : Program} (t ty : TypeId) (i : TypeInfo) (z : Value) (bytes : Nat) (ht : P.underlying t = some (.slice e)) (hi : P.info? e = some i) (hz : i.zero = some z)
 (hsize : i.size = 3) (hby : i.bytes = bytes) (hzs : z.cells.size = 3) (hr : TRow w base e v l) (A : Option Addr) (c : Nat) (news : List Tm) (hn : TmsAt w A news)
 (h3'3 : l.length + news.length ≤ maxLen) (hbytes : (l.length + news.length) * bytes ≤ 140737488355328) (hbase : base ≤ w.heap.size) :
 ∃ v' w', (Builtin.append_ #[t, t] ty #[v, .slice A news.length c]).run P w = .ok v' w' ∧ TRow w' base e v' (l ++ news) ∧ w.grownBy w' v.ownBlock ∧ (v'.ownBlock = v.ownBlock ∨ ∀ k, v'.ownBlock = some k → w.heap.size ≤ k) := by (
 by_cases hne : news = []
 · (
 subst hne
 refine ⟨v, w, ?_, by simpa using hr, World.grownBy.refl w _, .inl rfl⟩
 rcases hr.open with ⟨rfl, rfl⟩ | ⟨g, cap, cur, rfl, _, _, hnc, _⟩
 · rcases A with _ | A <;> simp [Builtin.append_, run_underlying ht, sizeOf, typeInfo, hi, hsize, Builtin.lenOf, Builtin.firstCells, loadCells, loadCellsFrom]
 · rcases A with _ | A <;> simp [Builtin.append_, run_underlying ht, sizeOf, typeInfo, hi, hsize, Builtin.lenOf, Builtin.firstCells, loadCells, loadCellsFrom, hnc, storeCells])
 · (
 obtain ⟨b, off, rfl, hb, hcell⟩ := hn hne
 have hnews : ∀ j u, (tcells news)[j]? = some u → w.cell? ((⟨b, off, none⟩ : Addr).add j) = some u := fun j u hj => by (
 rw [Addr.add_lit, ← hj]
 exact TmsAt.cell hn j (by rw [← tcells_len]; exact (List.getElem?_eq_some_iff.1 hj).1))
 obtain ⟨v', w', hrun, h2, h3, h4, h5⟩ := run_append_own_at (P := P) w base t ty e i z 3 bytes ht hi hz hsize hby hzs (by omega) v l.length (tcells l) hr ⟨b, off, none⟩ news.length c (tcells news) (tcells_len _) hnews (tcells_one _) h3'3 hbytes hbase
 refine ⟨v', w', hrun, ?_, h3, h5.imp id fun h k hk => by rw [h] at hk; injection hk with hk; omega⟩
 show w'.ownsRow base e 3 v' (l ++ news).length (tcells (l ++ news))
 rw [List.length_append, tcells_append]
 exact h2))
theorem wp_append_terms {P : Program} {o : Oper} {a : Act} {K : Act → World → Prop} {Q : Exit → Act → World → Prop} (s x : Operand) (t : TypeId)
 (ho : o.op = .call { callee := .builtin .append, args := #[s, x], argTypes := #[t, t] })
 (i : TypeInfo) (z : Value) (bytes : Nat) (ht : P.underlying t = some (.slice e)) (hi : P.info? e = some i) (hz : i.zero = some z)
 (hsize : i.size = 3) (hby : i.bytes = bytes) (hzs : z.cells.size = 3) (hs : a.eval s = v) (hr : TRow w base e v l) (A : Option Addr) (n c : Nat) (news : List Tm) (hx : a.eval x = .slice A n c)
 (hnl : n = news.length) (hn : TmsAt w A news)
 (h3'3 : l.length + news.length ≤ maxLen) (hbytes : (l.length + news.length) * bytes ≤ 140737488355328) (hbase : base ≤ w.heap.size)
 (h : ∀ v' w', TRow w' base e v' (l ++ news) → w.grownBy w' v.ownBlock → (v'.ownBlock = v.ownBlock ∨ ∀ k, v'.ownBlock = some k → w.heap.size ≤ k) → K (a.put o.dst v') w') : o.wp P a w K Q := by (
 subst hnl
 obtain ⟨v', w', hrun, h2, h3, h4⟩ := run_append_terms (P := P) t o.type i z bytes ht hi hz hsize hby hzs hr A c news hn h3'3 hbytes hbase
 unfold Oper.wp execOp
 simp only [ho, resolve, invoke, builtin, Sem.run_bind, Sem.run_pure, Result.andThen_ok, List.map_toArray, List.map_cons, List.map_nil, hs, hx, hrun]
 exact h v' w' h2 h3 h4)
theorem wpList_append_terms {P : Program} {ops : Array Oper} {rest : List Oper} {o : Oper} {a : Act} {Q : Exit → Act → World → Prop} (hgd : o.guard = none) (s x : Operand) (t : TypeId)
 (ho : o.op = .call { callee := .builtin .append, args := #[s, x], argTypes := #[t, t] })
 (i : TypeInfo) (z : Value) (bytes : Nat) (ht : P.underlying t = some (.slice e)) (hi : P.info? e = some i) (hz : i.zero = some z)
 (hsize : i.size = 3) (hby : i.bytes = bytes) (hzs : z.cells.size = 3) (hs : a.eval s = v) (hr : TRow w base e v l) (A : Option Addr) (n c : Nat) (news : List Tm) (hx : a.eval x = .slice A n c)
 (hnl : n = news.length) (hn : TmsAt w A news)
 (h3'3 : l.length + news.length ≤ maxLen) (hbytes : (l.length + news.length) * bytes ≤ 140737488355328) (hbase : base ≤ w.heap.size)
 (h : ∀ v' w', TRow w' base e v' (l ++ news) → w.grownBy w' v.ownBlock → (v'.ownBlock = v.ownBlock ∨ ∀ k, v'.ownBlock = some k → w.heap.size ≤ k) → wpList P ops Q rest (a.put o.dst v') w') :
 wpList P ops Q (o :: rest) a w :=
 wpList_plain hgd fun _ hK => wp_append_terms s x t ho i z bytes ht hi hz hsize hby hzs hs hr A n c news hx hnl hn h3'3 hbytes hbase fun v' w' h2 h3 h4=> hK _ _ (h v' w' h2 h3 h4)
theorem terms_one' {w : World} {n : Tm} {t : TypeId} {g : Nat} (h : g = w.heap.size) : TmsAt (w.alloc (.cells #[.int .i64 n.op, .int .i64 n.a, .int .i64 n.b] t)) (some ⟨g, 0, none⟩) [n] := by (
 subst h
 refine TmsAt.mk (by simp) fun i m hi => ?_
 rcases i with _ | i
 · (
 simp at hi
 subst hi
 simp [Tm.lies])
 · simp at hi)
end
end
section
open Go.RowKit
def ltT (a b : Tm) : Bool := decide (a.op < b.op ∨ a.op = b.op ∧ (a.a < b.a ∨ a.a = b.a ∧ a.b < b.b))
theorem ltT_irrefl (a : Tm) : ltT a a = false := by simp [ltT]
theorem ltT_trans {a b c : Tm} (h1 : ltT a b = true) (h2 : ltT b c = true) : ltT a c = true := by (
 simp only [ltT, decide_eq_true_eq] at *
 omega)
theorem ltT_total {a b : Tm} (h : a ≠ b) : ltT a b = true ∨ ltT b a = true := by (
 obtain ⟨a0, a1, a2⟩ := a
 obtain ⟨b0, b1, b2⟩ := b
 simp only [ltT, decide_eq_true_eq]
 by_cases h0 : a0 = b0
 · (
 by_cases h1 : a1 = b1
 · (
 have h2 : a2 ≠ b2 := fun h2 => h (by rw [h0, h1, h2])
 omega)
 · omega)
 · omega)
theorem ltT_ne {a b : Tm} (h : ltT a b = true) : a ≠ b := fun e => by rw [e, ltT_irrefl] at h; cases h
def onceL : List (Tm × Int) → Tm → List (Tm × Int)
 | [], t => [(t, 1)]
 | (u, n) :: l, t => if ltT u t then (u, n) :: onceL l t else if u = t then (u, n + 1) :: l else (t, 1) :: (u, n) :: l
def countsL (ts : List Tm) : List (Tm × Int) := ts.foldl onceL []
def Asc (l : List (Tm × Int)) : Prop := l.Pairwise fun x y => ltT x.1 y.1 = true
theorem onceL_mem : ∀ (l : List (Tm × Int)) (t : Tm) (x : Tm × Int), x ∈ onceL l t → x.1 = t ∨ x ∈ l
 | [], t, x, h => by simp [onceL] at h; exact .inl (by rw [h])
 | (u, n) :: l, t, x, h => by (
 unfold onceL at h
 split at h
 · (
 rcases List.mem_cons.1 h with h | h
 · exact .inr (by simp [h])
 · exact (onceL_mem l t x h).imp id fun h => by simp [h])
 · (
 split at h
 · (
 rename_i hu
 rcases List.mem_cons.1 h with h | h
 · exact .inl (by rw [h]; exact hu)
 · exact .inr (by simp [h]))
 · (
 rcases List.mem_cons.1 h with h | h
 · exact .inl (by rw [h])
 · exact .inr h)))
theorem onceL_asc : ∀ (l : List (Tm × Int)) (t : Tm), Asc l → Asc (onceL l t)
 | [], t, _ => by simp [onceL, Asc]
 | (u, n) :: l, t, h => by (
 obtain ⟨h1, h2⟩ := List.pairwise_cons.1 h
 unfold onceL
 split
 · (
 rename_i hu
 refine List.pairwise_cons.2 ⟨fun y hy => ?_, onceL_asc l t h2⟩
 rcases onceL_mem l t y hy with e | e
 · rw [e]; exact hu
 · exact h1 y e)
 · (
 rename_i hu
 split
 · exact List.pairwise_cons.2 ⟨h1, h2⟩
 · (
 rename_i hne
 have htu : ltT t u = true := (ltT_total hne).resolve_left (by simpa using hu)
 exact List.pairwise_cons.2 ⟨fun y hy => by
  rcases List.mem_cons.1 hy with e | e
  · rw [e]; exact htu
  · exact ltT_trans htu (h1 y e), h⟩)))
theorem countsL_asc (ts : List Tm) : Asc (countsL ts) := by (
 have : ∀ (ts : List Tm) (l : List (Tm × Int)), Asc l → Asc (ts.foldl onceL l) := fun ts => by (
 induction ts with
 | nil => exact fun l h => h
 | cons t ts ih => exact fun l h => ih _ (onceL_asc l t h))
 exact this ts [] (by simp [Asc]))
def cntOf (l : List (Tm × Int)) (t : Tm) : Int := match l.find? (fun x => x.1 == t) with | some x => x.2 | none => 0
theorem cntOf_cons (u : Tm) (n : Int) (l : List (Tm × Int)) (t : Tm) : cntOf ((u, n) :: l) t = if u = t then n else cntOf l t := by (
 unfold cntOf
 rw [List.find?_cons]
 by_cases h : u = t
 · simp [h]
 · (
 have : (u == t) = false := by simpa using h
 simp [this, h]))
theorem onceL_cnt : ∀ (l : List (Tm × Int)) (t v : Tm), Asc l → cntOf (onceL l t) v = if v = t then cntOf l v + 1 else cntOf l v
 | [], t, v, _ => by (
 rw [onceL, cntOf_cons]
 by_cases h : t = v
 · subst h; simp [cntOf]
 · rw [if_neg h, if_neg (Ne.symm h)])
 | (u, n) :: l, t, v, h => by (
 obtain ⟨h1, h2⟩ := List.pairwise_cons.1 h
 have ih := onceL_cnt l t v h2
 unfold onceL
 split
 · (
 rename_i hu
 rw [cntOf_cons, cntOf_cons, ih]
 by_cases huv : u = v
 · (
 subst huv
 rw [if_pos rfl, if_pos rfl, if_neg (ltT_ne hu)])
 · rw [if_neg huv, if_neg huv])
 · (
 rename_i hu
 split
 · (
 rename_i hut
 subst hut
 rw [cntOf_cons, cntOf_cons]
 by_cases huv : u = v
 · subst huv; simp
 · rw [if_neg huv, if_neg huv, if_neg (Ne.symm huv)])
 · (
 rename_i hne
 have htu : ltT t u = true := (ltT_total hne).resolve_left (by simpa using hu)
 rw [cntOf_cons]
 by_cases htv : t = v
 · (
 subst htv
 rw [if_pos rfl, if_pos rfl]
 have h0 : cntOf ((u, n) :: l) t = 0 := by (
 unfold cntOf
 rw [List.find?_eq_none.2]
 intro y hy
 have hy2 : ltT t y.1 = true := by (
 rcases List.mem_cons.1 hy with e | e
 · rw [e]; exact htu
 · exact ltT_trans htu (h1 y e))
 have := ltT_ne hy2
 simpa using Ne.symm this)
 rw [h0]; rfl)
 · rw [if_neg htv, if_neg (Ne.symm htv)])))
theorem countsL_cnt (ts : List Tm) (v : Tm) : cntOf (countsL ts) v = (ts.count v : Int) := by (
 have h : ∀ (ts : List Tm) (l : List (Tm × Int)), Asc l → cntOf (ts.foldl onceL l) v = cntOf l v + (ts.count v : Int) := fun ts => by (
 induction ts with
 | nil => intro l _; simp
 | cons t ts ih =>
  intro l hl
  rw [List.foldl_cons, ih _ (onceL_asc l t hl), onceL_cnt l t v hl, List.count_cons]
  by_cases h : v = t
  · subst h; simp; omega
  · (
 have : (t == v) = false := by simpa using Ne.symm h
 rw [if_neg h, this]; simp))
 rw [countsL, h ts [] (by simp [Asc])]
 simp [cntOf])
theorem onceL_pos : ∀ (l : List (Tm × Int)) (t : Tm), (∀ x ∈ l, 0 < x.2) → ∀ x ∈ onceL l t, 0 < x.2
 | [], t, _, x, hx => by simp [onceL] at hx; rw [hx]; show (0 : Int) < 1; decide
 | (u, n) :: l, t, h, x, hx => by (
 have hn : 0 < n := h (u, n) (by simp)
 have hl : ∀ y ∈ l, 0 < y.2 := fun y hy => h y (by simp [hy])
 unfold onceL at hx
 split at hx
 · (
 rcases List.mem_cons.1 hx with e | e
 · rw [e]; exact hn
 · exact onceL_pos l t hl x e)
 · (
 split at hx
 · (
 rcases List.mem_cons.1 hx with e | e
 · rw [e]; show 0 < n + 1; omega
 · exact hl x e)
 · (
 rcases List.mem_cons.1 hx with e | e
 · rw [e]; show (0 : Int) < 1; omega
 · exact h x e)))
theorem countsL_pos (ts : List Tm) : ∀ x ∈ countsL ts, 0 < x.2 := by (
 have : ∀ (ts : List Tm) (l : List (Tm × Int)), (∀ x ∈ l, 0 < x.2) → ∀ x ∈ ts.foldl onceL l, 0 < x.2 := fun ts => by (
 induction ts with
 | nil => exact fun l h => h
 | cons t ts ih => exact fun l h => ih _ (onceL_pos l t h))
 exact this ts [] (by simp))
theorem cntOf_mem {l : List (Tm × Int)} (h : Asc l) {x : Tm × Int} (hx : x ∈ l) : cntOf l x.1 = x.2 := by (
 induction l with
 | nil => cases hx
 | cons y l ih =>
  obtain ⟨h1, h2⟩ := List.pairwise_cons.1 h
  obtain ⟨u, n⟩ := y
  rw [cntOf_cons]
  rcases List.mem_cons.1 hx with e | e
  · subst e; simp
  · rw [if_neg (ltT_ne (h1 x e)), ih h2 e])
theorem cntOf_none {l : List (Tm × Int)} {t : Tm} (h : ∀ x ∈ l, x.1 ≠ t) : cntOf l t = 0 := by (
 unfold cntOf
 rw [List.find?_eq_none.2 fun x hx => by simpa using h x hx])
theorem asc_unique : ∀ (l m : List (Tm × Int)), Asc l → Asc m → (∀ x ∈ l, 0 < x.2) → (∀ x ∈ m, 0 < x.2) → (∀ t, cntOf l t = cntOf m t) → l = m
 | [], [], _, _, _, _, _ => rfl
 | [], (u, n) :: m, _, _, _, hp, h => by (
 have := h u
 rw [cntOf_cons, if_pos rfl] at this
 have hn := hp (u, n) (by simp)
 simp [cntOf] at this
 simp only at hn
 omega)
 | (u, n) :: l, [], _, _, hp, _, h => by (
 have := h u
 rw [cntOf_cons, if_pos rfl] at this
 have hn := hp (u, n) (by simp)
 simp [cntOf] at this
 simp only at hn
 omega)
 | (u, n) :: l, (v, k) :: m, hl, hm, hpl, hpm, h => by (
 obtain ⟨hl1, hl2⟩ := List.pairwise_cons.1 hl
 obtain ⟨hm1, hm2⟩ := List.pairwise_cons.1 hm
 have hn : 0 < n := hpl (u, n) (by simp)
 have hk : 0 < k := hpm (v, k) (by simp)
 have huv : u = v := by (
 by_cases e : u = v
 · exact e
 · (
 rcases ltT_total e with e1 | e1
 · (
 have := h u
 rw [cntOf_cons, if_pos rfl, cntOf_none (fun x hx => ?_)] at this
 · omega
 · (
 rcases List.mem_cons.1 hx with e2 | e2
 · rw [e2]; exact Ne.symm e
 · exact Ne.symm (ltT_ne (ltT_trans e1 (hm1 x e2)))))
 · (
 have := h v
 rw [cntOf_none (l := (u, n) :: l) (fun x hx => ?_), cntOf_cons, if_pos rfl] at this
 · omega
 · (
 rcases List.mem_cons.1 hx with e2 | e2
 · rw [e2]; exact e
 · exact Ne.symm (ltT_ne (ltT_trans e1 (hl1 x e2)))))))
 subst huv
 have hnk : n = k := by (
 have := h u
 rwa [cntOf_cons, cntOf_cons, if_pos rfl, if_pos rfl] at this)
 subst hnk
 rw [asc_unique l m hl2 hm2 (fun x hx => hpl x (by simp [hx])) (fun x hx => hpm x (by simp [hx])) fun t => ?_]
 have := h t
 rw [cntOf_cons, cntOf_cons] at this
 by_cases e : u = t
 · (
 subst e
 rw [cntOf_none fun x hx => Ne.symm (ltT_ne (hl1 x hx)), cntOf_none fun x hx => Ne.symm (ltT_ne (hm1 x hx))])
 · rwa [if_neg e, if_neg e] at this)
end
section
open Go.RowKit
def reckV (op x y : Int) : Int := if op = 3 then wrap64 (x + y) else if op = 4 then wrap64 (x - y) else if op = 5 then wrap64 (x * y) else if op = 6 then bits .and .i64 x y else if op = 7 then bits .xor .i64 x y else if x < y then 1 else 0
def rg (r : List Int) (k : Int) : Int := r.getD k.toNat 0
theorem rg_get {r : List Int} {k : Nat} {z : Int} (h : r[k]? = some z) : rg r (k : Int) = z := by simp [rg, List.getD_eq_getElem?_getD, h]
structure Rn where
 regs : List Int
 read : Nat
 out : List Int
 ret : Int
 ended : Bool
 steps : Nat
 pos : Nat
 ts : List Tm
def stepR (l : List Nd) (inp : List Int) (s : Rn) : Rn :=
 let n := nd l s.pos
 if n.op = 1 then { s with steps := s.steps + 1, pos := n.t.toNat, regs := s.regs.set n.d.toNat n.a }
 else if n.op = 2 then { s with steps := s.steps + 1, pos := n.t.toNat, regs := s.regs.set n.d.toNat (rg s.regs n.a) }
 else if hasB n.op = true then { s with steps := s.steps + 1, pos := n.t.toNat, regs := s.regs.set n.d.toNat (reckV n.op (rg s.regs n.a) (rg s.regs n.b)), ts := s.ts ++ [n.tm] }
 else if n.op = 9 then (if s.read < inp.length then { s with steps := s.steps + 1, pos := n.t.toNat, regs := s.regs.set n.d.toNat (inp.getD s.read 0), read := s.read + 1 } else { s with steps := s.steps + 1, pos := n.t.toNat, regs := s.regs.set n.d.toNat 0 })
 else if n.op = 10 then { s with steps := s.steps + 1, pos := n.t.toNat, out := s.out ++ [rg s.regs n.a] }
 else if n.op = 11 then (if rg s.regs n.a = 0 then { s with steps := s.steps + 1, pos := n.e.toNat } else { s with steps := s.steps + 1, pos := n.t.toNat })
 else if n.op = 12 then { s with steps := s.steps + 1, pos := n.t.toNat, ret := rg s.regs n.a, ended := true }
 else { s with steps := s.steps + 1, pos := n.t.toNat }
theorem stepR_steps (l : List Nd) (inp : List Int) (s : Rn) : (stepR l inp s).steps = s.steps + 1 := by (
 unfold stepR
 simp only
 repeat' split
 all_goals rfl)
def goR (l : List Nd) (inp : List Int) : Nat → Rn → Rn
 | 0, s => s
 | k + 1, s => if s.ended = true then s else goR l inp k (stepR l inp s)
theorem goR_ended {l : List Nd} {inp : List Int} {s : Rn} (h : s.ended = true) : ∀ k, goR l inp k s = s
 | 0 => rfl
 | k + 1 => by rw [goR, if_pos h]
theorem goR_step {l : List Nd} {inp : List Int} {s : Rn} (h : s.ended = false) (k : Nat) : goR l inp (k + 1) s = goR l inp k (stepR l inp s) := by rw [goR, if_neg (by rw [h]; simp)]
def startR (regs : Int) : Rn := ⟨List.replicate regs.toNat 0, 0, [], 0, false, 0, 0, []⟩
def runR (regs : Int) (l : List Nd) (inp : List Int) (fuel : Nat) : Rn := goR l inp fuel (startR regs)
structure RnOk (regs : Int) (l : List Nd) (inp : List Int) (s : Rn) : Prop where
 regs : s.regs.length = regs.toNat
 pos : s.pos < l.length
 read : s.read ≤ inp.length
 out : s.out.length ≤ s.steps
 ts : s.ts.length ≤ s.steps
 key : ∀ t ∈ s.ts, ∃ n ∈ l, hasB n.op = true ∧ t = n.tm
theorem RnOk.start {regs : Int} {l : List Nd} {inp : List Int} (hR : Right regs l) : RnOk regs l inp (startR regs) :=
 ⟨by simp [startR], hR.lo, Nat.zero_le _, Nat.le_refl _, Nat.le_refl _, fun t ht => by cases ht⟩
theorem Right.pos_ {regs : Int} {l : List Nd} (hR : Right regs l) {n : Nd} (hn : n ∈ l) : n.t.toNat < l.length := by (
 by_cases h12 : n.op = 12
 · (
 have h := hR.frm n hn
 have h0 : n.t = 0 := by (
 simp only [badF, okF, shT, h12, Bool.or_eq_false_iff, Bool.not_eq_false', Bool.or_eq_true, beq_iff_eq] at h
 rcases h.1.2 with e | e
 · simp at e
 · exact e)
 have := hR.lo
 rw [h0]
 show 0 < l.length
 omega)
 · (
 have := hR.then_ hn h12
 omega))
theorem RnOk.step {regs : Int} {l : List Nd} {inp : List Int} {s : Rn} (hR : Right regs l) (h : RnOk regs l inp s) : RnOk regs l inp (stepR l inp s) := by (
 obtain ⟨h1, h2, h3, h4, h5, h6⟩ := h
 have hg : l[s.pos]? = some (nd l s.pos) := by rw [nd, List.getD_eq_getElem?_getD, List.getElem?_eq_getElem h2]; rfl
 have hn := List.mem_of_getElem? hg
 have hp := hR.pos_ hn
 generalize nd l s.pos = n at hg hn hp
 have hnd : nd l s.pos = n := nd_get hg
 unfold stepR
 simp only [hnd]
 split
 · exact ⟨by simpa using h1, hp, h3, Nat.le_succ_of_le h4, Nat.le_succ_of_le h5, h6⟩
 split
 · exact ⟨by simpa using h1, hp, h3, Nat.le_succ_of_le h4, Nat.le_succ_of_le h5, h6⟩
 split
 · (
 rename_i hB
 refine ⟨by simpa using h1, hp, h3, Nat.le_succ_of_le h4, by simp; omega, fun t ht => ?_⟩
 rcases List.mem_append.1 ht with e | e
 · exact h6 t e
 · exact ⟨n, hn, hB, by simpa using e⟩)
 split
 · (
 split
 · exact ⟨by simpa using h1, hp, by show s.read + 1 ≤ _; omega, Nat.le_succ_of_le h4, Nat.le_succ_of_le h5, h6⟩
 · exact ⟨by simpa using h1, hp, h3, Nat.le_succ_of_le h4, Nat.le_succ_of_le h5, h6⟩)
 split
 · exact ⟨h1, hp, h3, by simp; omega, Nat.le_succ_of_le h5, h6⟩
 split
 · (
 rename_i h11
 split
 · (
 have := hR.else_ hn h11
 exact ⟨h1, by show n.e.toNat < _; omega, h3, Nat.le_succ_of_le h4, Nat.le_succ_of_le h5, h6⟩)
 · exact ⟨h1, hp, h3, Nat.le_succ_of_le h4, Nat.le_succ_of_le h5, h6⟩)
 split
 · exact ⟨h1, hp, h3, Nat.le_succ_of_le h4, Nat.le_succ_of_le h5, h6⟩
 · exact ⟨h1, hp, h3, Nat.le_succ_of_le h4, Nat.le_succ_of_le h5, h6⟩)
end
end Go.Proofs.YtmghkonmfbpjcabGreat
