/- Two tables of rows that grow, and the blocks beside them. No program in sight. -/
import Derived.Test.YtmghkonmfbpjcaaFactQ
namespace Go.Proofs.Ytmghkonmfbpjcaa
set_option linter.unusedVariables false
set_option linter.unusedSimpArgs false
open Go.RowKit

abbrev nil6 : Array Value := #[.slice none 0 0, .slice none 0 0, .slice none 0 0, .slice none 0 0, .slice none 0 0, .slice none 0 0]
abbrev Box := Nat × TypeId × Array Value
structure FTab (tS tI : TypeId) (B : Nat) (w : World) (GA GB n : Nat) (ks : List Box) (wr : World) (vs : Nat → Value) (ys : Nat → List Value) : Prop where
  ra : Row wr B tS (.slice (some ⟨GA, 0, none⟩) n n) ((List.range n).map vs)
  rb : Row wr B tS (.slice (some ⟨GB, 0, none⟩) n n) ((List.range n).map fun i => vs (n + i))
  tab : Tab wr B tI (2 * n) vs ys
  kept : ∀ q ∈ ks, Blk wr q.1 q.2.1 q.2.2 ∧ q.2.1 ≠ tI ∧ q.2.1 ≠ tS
  ne : GA ≠ GB
  below : Below B w wr
  sz : B ≤ wr.heap.size
section
variable {tS tI : TypeId} {B : Nat} {w : World} {GA GB n : Nat} {ks : List Box} {wr wr1 w2 : World} {vs : Nat → Value} {ys : Nat → List Value} {v1 : Value} {zs : List Value}
theorem FTab.blk (h : FTab tS tI B w GA GB n ks wr vs ys) {g : Nat} {t : TypeId} {cs : Array Value} (hq : (g, t, cs) ∈ ks) : Blk wr g t cs := (h.kept _ hq).1
theorem FTab.later (h : FTab tS tI B w GA GB n ks wr vs ys) (hb : Below wr.heap.size wr wr1) : FTab tS tI B w GA GB n ks wr1 vs ys :=
  ⟨h.ra.below' hb, h.rb.below' hb, h.tab.below hb, fun q hq => ⟨(h.kept q hq).1.below hb (h.kept q hq).1.lt, (h.kept q hq).2⟩, h.ne, h.below.trans (hb.mono h.sz), Nat.le_trans h.sz hb.size⟩
theorem FTab.cons (h : FTab tS tI B w GA GB n ks wr vs ys) {g : Nat} {t : TypeId} {cs : Array Value} (hb : Blk wr g t cs) (n1 : t ≠ tI) (n2 : t ≠ tS) : FTab tS tI B w GA GB n ((g, t, cs) :: ks) wr vs ys :=
  ⟨h.ra, h.rb, h.tab, fun q hq => by
    rcases List.mem_cons.1 hq with rfl | hq
    · exact ⟨hb, n1, n2⟩
    · exact h.kept q hq, h.ne, h.below, h.sz⟩
theorem FTab.tail {q : Box} (h : FTab tS tI B w GA GB n (q :: ks) wr vs ys) : FTab tS tI B w GA GB n ks wr vs ys :=
  ⟨h.ra, h.rb, h.tab, fun q hq => h.kept q (List.mem_cons_of_mem _ hq), h.ne, h.below, h.sz⟩
theorem FTab.grow (h : FTab tS tI B w GA GB n ks wr vs ys) (n2 : tI ≠ tS) {i : Nat} (hi : i < 2 * n) (hr : Row w2 B tI v1 zs) (hg : wr.grownBy w2 (vs i).ownBlock)
    (hat : v1.ownBlock = (vs i).ownBlock ∨ ∀ k, v1.ownBlock = some k → wr.heap.size ≤ k) :
    Row w2 B tS (.slice (some ⟨GA, 0, none⟩) n n) ((List.range n).map vs) ∧ Row w2 B tS (.slice (some ⟨GB, 0, none⟩) n n) ((List.range n).map fun i => vs (n + i)) ∧ Tab w2 B tI (2 * n) (upd vs i v1) (upd ys i zs) ∧
      (∀ q ∈ ks, Blk w2 q.1 q.2.1 q.2.2) ∧ Below B w w2 ∧ B ≤ w2.heap.size := by
  have hri := h.tab.row hi
  obtain ⟨ca, hca⟩ := h.ra.blk
  obtain ⟨cb, hcb⟩ := h.rb.blk
  have a3 : (vs i).ownBlock ≠ some GA := hri.ne_blk hca n2
  have a4 : (vs i).ownBlock ≠ some GB := hri.ne_blk hcb n2
  exact ⟨h.ra.kept hg (.inr (by simp [Value.ownBlock]; exact fun e => a3 e.symm)), h.rb.kept hg (.inr (by simp [Value.ownBlock]; exact fun e => a4 e.symm)), h.tab.put hi hr hg hat,
    fun q hq => (h.kept q hq).1.grown hg (hri.ne_blk (h.kept q hq).1 (Ne.symm (h.kept q hq).2.1)), h.below.grown hg h.sz fun k hk => (hri.lt k hk).1, Nat.le_trans h.sz hg.size⟩
theorem FTab.putA (h : FTab tS tI B w GA GB n ks wr vs ys) (n2 : tI ≠ tS) {i : Nat} (hi : i < n) (hr : Row w2 B tI v1 zs) (hg : wr.grownBy w2 (vs i).ownBlock)
    (hat : v1.ownBlock = (vs i).ownBlock ∨ ∀ k, v1.ownBlock = some k → wr.heap.size ≤ k) :
    FTab tS tI B w GA GB n ks (w2.setCell ⟨GA, i, none⟩ v1) (upd vs i v1) (upd ys i zs) := by
  obtain ⟨ra', rb', tab', kept', below', sz'⟩ := h.grow n2 (by omega) hr hg hat
  obtain ⟨ca, hca⟩ := ra'.blk
  have hB := rowge h.ra
  refine ⟨?_, ?_, tab'.far (p := ⟨GA, i, none⟩) hca n2 _, fun q hq => ⟨(kept' q hq).far (Blk.ne_ (kept' q hq) hca (h.kept q hq).2.2) _, (h.kept q hq).2⟩, h.ne, below'.setCell hB _, by simpa using sz'⟩
  · have := ra'.store i v1
    rw [Nat.zero_add] at this
    rwa [map_range_set _ _ hi] at this
  · have := rb'.far (p := ⟨GA, i, none⟩) (by simp [Value.ownBlock]; exact fun e => h.ne e.symm) v1
    rwa [show ((List.range n).map fun j => upd vs i v1 (n + j)) = (List.range n).map fun j => vs (n + j) from List.map_congr_left fun j hj => upd_other _ _ (by omega)]
theorem FTab.putB (h : FTab tS tI B w GA GB n ks wr vs ys) (n2 : tI ≠ tS) {i : Nat} (hi : i < n) (hr : Row w2 B tI v1 zs) (hg : wr.grownBy w2 (vs (n + i)).ownBlock)
    (hat : v1.ownBlock = (vs (n + i)).ownBlock ∨ ∀ k, v1.ownBlock = some k → wr.heap.size ≤ k) :
    FTab tS tI B w GA GB n ks (w2.setCell ⟨GB, i, none⟩ v1) (upd vs (n + i) v1) (upd ys (n + i) zs) := by
  obtain ⟨ra', rb', tab', kept', below', sz'⟩ := h.grow n2 (i := n + i) (by omega) hr hg hat
  obtain ⟨cb, hcb⟩ := rb'.blk
  have hB := rowge h.rb
  refine ⟨?_, ?_, tab'.far (p := ⟨GB, i, none⟩) hcb n2 _, fun q hq => ⟨(kept' q hq).far (Blk.ne_ (kept' q hq) hcb (h.kept q hq).2.2) _, (h.kept q hq).2⟩, h.ne, below'.setCell hB _, by simpa using sz'⟩
  · have := ra'.far (p := ⟨GB, i, none⟩) (by simp [Value.ownBlock]; exact h.ne) v1
    rwa [show (List.range n).map (upd vs (n + i) v1) = (List.range n).map vs from List.map_congr_left fun j hj => upd_other _ _ (by have := List.mem_range.1 hj; omega)]
  · have := rb'.store i v1
    rw [Nat.zero_add] at this
    rwa [map_range_set' _ _ hi] at this
end

/-- the lists of next nodes and of nodes ahead when k nodes have been looked at -/
def nxL (l : List Nd) (k i : Nat) : List Int := if i < k then exitsL (nd l i) else []
def ahL (l : List Nd) (k m : Nat) : List Int := sel (aheadP l m) k
/-- and j exits of the next one -/
def ahJ (l : List Nd) (n : Nd) (k j m : Nat) : List Int := ahL l k m ++ (if (m : Int) ∈ (exitsL n).take j then [(k : Int)] else [])
def tabL (l : List Nd) (N : Nat) (A B : Nat → List Int) (i : Nat) : List Value := ints (if i < N then A i else B (i - N))
theorem nxL_succ {l : List Nd} {k : Nat} {n : Nd} (hn : l[k]? = some n) (i : Nat) : nxL l (k + 1) i = if i = k then exitsL n else nxL l k i := by
  unfold nxL
  by_cases h : i = k
  · subst h; rw [if_pos (by omega), if_pos rfl, nd_get hn]
  · rw [if_neg h]
    by_cases h2 : i < k
    · rw [if_pos (by omega), if_pos h2]
    · rw [if_neg (by omega), if_neg h2]
theorem exitsL_leads (n : Nd) (m : Int) : m ∈ exitsL n ↔ leadsB n m = true := by
  unfold exitsL leadsB
  by_cases h12 : n.op = 12
  · simp [h12]
  · by_cases h11 : n.op = 11
    · by_cases he : n.e = n.t
      · simp [h11, he]
        exact eq_comm
      · simp [h11, he]
        exact or_congr eq_comm eq_comm
    · simp [h12, h11]
      exact eq_comm
theorem ahJ_zero (l : List Nd) (n : Nd) (k m : Nat) : ahJ l n k 0 m = ahL l k m := by simp [ahJ]
theorem ahJ_all {l : List Nd} {k : Nat} {n : Nd} (hn : l[k]? = some n) (m : Nat) {j : Nat} (hj : (exitsL n).length ≤ j) : ahJ l n k j m = ahL l (k + 1) m := by
  unfold ahJ ahL
  rw [List.take_of_length_le hj]
  have hp : aheadP l m k = leadsB n m := aheadP_eq hn
  by_cases h : (m : Int) ∈ exitsL n
  · rw [if_pos h, sel_succ_true (by rw [hp]; exact (exitsL_leads n m).1 h)]
  · rw [if_neg h, List.append_nil, sel_succ_false (by rw [hp]; cases hq : leadsB n m with | false => rfl | true => exact absurd ((exitsL_leads n m).2 hq) h)]
theorem exitsL_nodup (n : Nd) : (exitsL n).Nodup := by
  unfold exitsL
  split
  · simp
  · split
    · rename_i h; simp; exact fun e => h.2 e.symm
    · simp
theorem ahJ_step {l : List Nd} {n : Nd} {k j mm : Nat} (hj : (exitsL n)[j]? = some (mm : Int)) (m : Nat) : ahJ l n k (j + 1) m = if m = mm then ahJ l n k j m ++ [(k : Int)] else ahJ l n k j m := by
  unfold ahJ
  have hnd := exitsL_nodup n
  obtain ⟨hjl, hje⟩ := List.getElem?_eq_some_iff.1 hj
  rw [List.take_add_one, hj]
  by_cases h : m = mm
  · subst h
    have hno : ¬ (m : Int) ∈ (exitsL n).take j := by
      intro hm
      obtain ⟨i, hi, he⟩ := List.mem_iff_getElem.1 hm
      rw [List.length_take] at hi
      rw [List.getElem_take] at he
      exact List.pairwise_iff_getElem.1 hnd i j (by omega) hjl (by omega) (he.trans hje.symm)
    simp [hno]
  · have h2 : ¬ (m : Int) = (mm : Int) := by omega
    simp [h, h2]
theorem ahJ_len (l : List Nd) (n : Nd) (k j m : Nat) : (ahJ l n k j m).length ≤ k + 1 := by
  unfold ahJ ahL
  rw [List.length_append]
  have := sel_len (aheadP l m) k
  split <;> simp <;> omega
theorem exits_edges {l : List Nd} {k : Nat} {n : Nd} (hn : l[k]? = some n) (hT : ∀ m ∈ exitsL n, 0 ≤ m ∧ m < (l.length : Int)) (m : Int) : m ∈ exitsL n ↔ m ∈ edgesOf true l k := by
  unfold edgesOf
  simp only [if_true]
  rw [mem_sel]
  constructor
  · intro h
    obtain ⟨h0, h1⟩ := hT m h
    obtain ⟨q, rfl⟩ := Int.eq_ofNat_of_zero_le h0
    exact ⟨q, by omega, by rw [nextP_eq hn]; exact (exitsL_leads n q).1 h, rfl⟩
  · rintro ⟨q, hq, hp, rfl⟩
    rw [nextP_eq hn] at hp
    exact (exitsL_leads n q).2 hp
end Go.Proofs.Ytmghkonmfbpjcaa
