/- Counts in a slice of the call's own: stores into it, and copying its end one place on. No program in sight. -/
import Derived.Test.YtmghkonmfbpjcabCRow
import Derived.Laws.CopyRow
import Derived.Laws.IdiomCopy
import Derived.Deep.RegionLaw
namespace Go.Proofs.Ytmghkonmfbpjcab
set_option linter.unusedVariables false
set_option linter.unusedSimpArgs false
open Go.RowKit

def Ct.put (n : Ct) (j : Nat) (z : Int) : Ct :=
  match j with
  | 0 => (⟨z, n.1.a, n.1.b⟩, n.2)
  | 1 => (⟨n.1.op, z, n.1.b⟩, n.2)
  | 2 => (⟨n.1.op, n.1.a, z⟩, n.2)
  | 3 => (n.1, z)
  | _ => n
theorem Ct.put_cells (n : Ct) (j : Nat) (z : Int) (hj : j < 4) : Ct.cells (Ct.put n j z) = (Ct.cells n).set j (.int .i64 z) := by
  match j, hj with
  | 0, _ => rfl
  | 1, _ => rfl
  | 2, _ => rfl
  | 3, _ => rfl
section
variable {w w' : World} {base : Nat} {e : TypeId} {v : Value} {l : List Ct}
theorem CRow.store {g n cap : Nat} (h : CRow w base e (.slice (some ⟨g, 0, none⟩) n cap) l) {k j : Nat} {x : Ct} (hk : l[k]? = some x) (hj : j < 4) (z : Int) :
    CRow (w.setCell ⟨g, k * 4 + j, none⟩ (.int .i64 z)) base e (.slice (some ⟨g, 0, none⟩) n cap) (l.set k (Ct.put x j z)) := by
  have hlt : k < l.length := (List.getElem?_eq_some_iff.1 hk).1
  rcases h.open with ⟨hv, _⟩ | ⟨g', cap', cur, hv, hb, hh, h1, h2, h3, hc⟩
  · cases hv
  · injection hv with hA hn hcp
    injection hA with hA
    injection hA with hg _
    subst hg hn hcp
    have := CRow.close (w := w.setCell ⟨g, k * 4 + j, none⟩ (.int .i64 z)) (base := base) (e := e) (g := g) (cap := cap) (l := l.set k (Ct.put x j z)) hb (heap_setCell_own hh _) (by simpa using h1) h2 (by simpa using h3) (fun i hi => ?_)
    · rwa [List.length_set] at this
    · rw [List.length_set] at hi
      rw [Array.getElem?_setIfInBounds]
      have e6 : i % 4 < 4 := Nat.mod_lt _ (by omega)
      have ei : i = i / 4 * 4 + i % 4 := by omega
      have hget : (ccells (l.set k (Ct.put x j z)))[i]? = ((l.set k (Ct.put x j z))[i / 4]?).bind fun n => (Ct.cells n)[i % 4]? := by
        have := ccells_get (l.set k (Ct.put x j z)) (i / 4) (i % 4) e6
        rwa [← ei] at this
      have hold : cur[i]? = (l[i / 4]?).bind fun n => (Ct.cells n)[i % 4]? := by
        rw [hc i hi]
        have := ccells_get l (i / 4) (i % 4) e6
        rwa [← ei] at this
      rw [hget, List.getElem?_set]
      by_cases hik : k = i / 4
      · rw [if_pos hik, if_pos hlt, Option.bind_some, Ct.put_cells _ _ _ hj, List.getElem?_set]
        by_cases hij : j = i % 4
        · rw [if_pos (show k * 4 + j = i by omega), if_pos (show k * 4 + j < cur.size by omega), if_pos hij, if_pos (by rw [Ct.cells_len]; exact hj)]
        · rw [if_neg hij, if_neg (by omega), hold, ← hik, hk]
          rfl
      · rw [if_neg hik, if_neg (by omega), hold]
theorem CRow.put4 {g n cap : Nat} (h : CRow w base e (.slice (some ⟨g, 0, none⟩) n cap) l) {k : Nat} {x : Ct} (hk : l[k]? = some x) (y : Ct) :
    CRow ((((w.setCell ⟨g, k * 4, none⟩ (.int .i64 y.1.op)).setCell ⟨g, k * 4 + 1, none⟩ (.int .i64 y.1.a)).setCell ⟨g, k * 4 + 2, none⟩ (.int .i64 y.1.b)).setCell ⟨g, k * 4 + 3, none⟩ (.int .i64 y.2))
      base e (.slice (some ⟨g, 0, none⟩) n cap) (l.set k y) := by
  have hlt : k < l.length := (List.getElem?_eq_some_iff.1 hk).1
  have hs : ∀ (z : Ct), (l.set k z)[k]? = some z := fun z => by rw [List.getElem?_set]; simp [hlt]
  have h0 := h.store hk (show 0 < 4 by omega) y.1.op
  rw [Nat.add_zero] at h0
  have h1 := h0.store (hs _) (show 1 < 4 by omega) y.1.a
  rw [List.set_set] at h1
  have h2 := h1.store (hs _) (show 2 < 4 by omega) y.1.b
  rw [List.set_set] at h2
  have h3 := h2.store (hs _) (show 3 < 4 by omega) y.2
  rw [List.set_set] at h3
  exact h3
theorem put4_grown (W : World) (g k : Nat) (y : Ct) : W.grownBy ((((W.setCell ⟨g, k * 4, none⟩ (.int .i64 y.1.op)).setCell ⟨g, k * 4 + 1, none⟩ (.int .i64 y.1.a)).setCell ⟨g, k * 4 + 2, none⟩ (.int .i64 y.1.b)).setCell ⟨g, k * 4 + 3, none⟩ (.int .i64 y.2)) (some g) := by
  have h1 : ∀ (V : World) (o : Nat) (u : Value), V.grownBy (V.setCell ⟨g, o, none⟩ u) (some g) := fun V o u => ⟨rfl, rfl, rfl, by simp, fun k _ hk => Below.heap_setCell V ⟨g, o, none⟩ u k (by rintro rfl; exact hk rfl)⟩
  exact (((h1 W _ _).trans (h1 _ _ _)).trans (h1 _ _ _)).trans (h1 _ _ _)
theorem ccells_take (l : List Ct) (j : Nat) : ccells (l.take j) = (ccells l).take (j * 4) := by
  induction l generalizing j with
  | nil => simp [ccells]
  | cons n l ih =>
    cases j with
    | zero => simp [ccells]
    | succ j =>
      rw [List.take_succ_cons, ccells, ccells, ih, List.take_append, Ct.cells_len, List.take_of_length_le (l := n.cells) (by rw [Ct.cells_len]; omega), show (j + 1) * 4 - 4 = j * 4 by omega]
theorem ccells_drop (l : List Ct) (j : Nat) : ccells (l.drop j) = (ccells l).drop (j * 4) := by
  induction l generalizing j with
  | nil => simp [ccells]
  | cons n l ih =>
    cases j with
    | zero => simp [ccells]
    | succ j =>
      rw [List.drop_succ_cons, ih, ccells, List.drop_append, Ct.cells_len, List.drop_eq_nil_of_le (show n.cells.length ≤ (j + 1) * 4 by rw [Ct.cells_len]; omega), List.nil_append, show (j + 1) * 4 - 4 = j * 4 by omega]
/-- the end of the row goes one place on -/
theorem run_copy_counts {P : Program} (t ty : TypeId) (ht : P.underlying t = some (.slice e)) (hs : (P.info? e).map (·.size) = some 4) {g n cap : Nat} (hr : CRow w base e (.slice (some ⟨g, 0, none⟩) n cap) l)
    (i : Nat) (hi : i < l.length) (dp : Option Addr) (hdp : i + 1 < l.length → dp = some ⟨g, (i + 1) * 4, none⟩) (dc sc : Nat) :
    ∃ w', (Builtin.copy_ #[t, t] ty #[.slice dp (l.length - (i + 1)) dc, .slice (some ⟨g, i * 4, none⟩) (l.length - i) sc]).run P w = .ok (goInt (l.length - (i + 1) : Nat)) w' ∧
      CRow w' base e (.slice (some ⟨g, 0, none⟩) n cap) (l.take (i + 1) ++ (l.drop i).take (l.length - (i + 1))) ∧ w.grownBy w' (some g) := by
  cases hq : P.info? e with
  | none => simp [hq] at hs
  | some q =>
    have hq4 : q.size = 4 := by simpa [hq] using hs
    by_cases h0 : l.length - (i + 1) = 0
    · refine ⟨w, ?_, ?_, World.grownBy.refl w _⟩
      · rw [h0]
        cases dp <;> simp [Builtin.copy_, run_underlying ht, Builtin.lenOf, Builtin.firstCells, sizeOf, typeInfo, hq, hq4, loadCells, loadCellsFrom, storeCells]
      · rw [h0, List.take_zero, List.append_nil, List.take_of_length_le (by omega)]
        exact hr
    · obtain rfl := hdp (by omega)
      rcases hr.open with ⟨hv, _⟩ | ⟨g', cap', cur, hv, hb, hh, h1, h2, h3, hc⟩
      · cases hv
      injection hv with hA hn hcp
      injection hA with hA
      injection hA with hg _
      subst hg hn hcp
      obtain ⟨m, hm⟩ : ∃ m, m = l.length - (i + 1) := ⟨_, rfl⟩
      rw [← hm] at h0 ⊢
      obtain ⟨cs, hcs⟩ : ∃ cs, cs = ccells ((l.drop i).take m) := ⟨_, rfl⟩
      have hcl : cs.length = m * 4 := by rw [hcs, ccells_len]; simp; omega
      have hcs2 : cs = ((ccells l).drop (i * 4)).take (m * 4) := by rw [hcs, ccells_take, ccells_drop]
      have hsrc : ∀ j u, cs[j]? = some u → w.cell? ((⟨g, i * 4, none⟩ : Addr).add j) = some u := fun j u hj => by
        rw [Addr.add_lit]
        have hjl : j < m * 4 := by rw [← hcl]; exact (List.getElem?_eq_some_iff.1 hj).1
        have := hc (i * 4 + j) (by omega)
        simp only [World.cell?, hh, this]
        rw [hcs2, List.getElem?_take, if_pos hjl, List.getElem?_drop] at hj
        rw [hj]
        simp
      have h1c : ∀ u ∈ cs, u.oneCell' = true := by rw [hcs]; exact ccells_one _
      have hl := run_loadCells_list (P := P) w ⟨g, i * 4, none⟩ cs hsrc
      have hst := run_storeCells_at P g ((i + 1) * 4) e cs 0 cur w hh (by rw [hcl]; omega) h1c
      rw [Nat.add_zero] at hst
      have hmin : min (l.length - i) m = m := by omega
      refine ⟨w.setRow g (cur.toList.take ((i + 1) * 4) ++ cs ++ cur.toList.drop ((i + 1) * 4 + cs.length)).toArray, ?_, ?_, ?_⟩
      · rw [hcl] at hl
        simp [Builtin.copy_, run_underlying ht, Builtin.lenOf, Builtin.firstCells, sizeOf, typeInfo, hq, hq4, hmin, hl, hst]
      · have hlen : (l.take (i + 1) ++ (l.drop i).take m).length = l.length := by simp; omega
        have := CRow.close (w := w.setRow g (cur.toList.take ((i + 1) * 4) ++ cs ++ cur.toList.drop ((i + 1) * 4 + cs.length)).toArray) (base := base) (e := e) (g := g) (cap := cap) (l := l.take (i + 1) ++ (l.drop i).take m) hb
          (setRow_heap w g _ _ e _ hh) (by rw [hlen]; exact h1) h2 (by simp; omega) (fun k hk => ?_)
        · rwa [hlen] at this
        · rw [hlen] at hk
          rw [List.getElem?_toArray, ccells_append, ccells_take, ← hcs]
          have hk1 : ((ccells l).take ((i + 1) * 4)).length = (i + 1) * 4 := by simp [ccells_len]; omega
          have hk2 : (cur.toList.take ((i + 1) * 4)).length = (i + 1) * 4 := by simp; omega
          by_cases hki : k < (i + 1) * 4
          · rw [List.append_assoc, List.getElem?_append_left (by rw [hk2]; exact hki), List.getElem?_append_left (by rw [hk1]; exact hki), List.getElem?_take, List.getElem?_take, if_pos hki, if_pos hki, Array.getElem?_toList]
            exact hc k hk
          · rw [List.append_assoc, List.getElem?_append_right (show (cur.toList.take ((i + 1) * 4)).length ≤ k by rw [hk2]; omega), List.getElem?_append_right (show ((ccells l).take ((i + 1) * 4)).length ≤ k by rw [hk1]; omega), hk1, hk2, List.getElem?_append_left (by rw [hcl]; omega)]
      · refine ⟨rfl, rfl, rfl, by simp [World.setRow], fun k _ hk => setRow_other w g k _ (fun e => hk (by rw [e]))⟩
theorem step_copy_counts {P : Program} {ops : Array Oper} {o : Oper} {a : Act} {K : Act → World → Prop} {Q : Exit → Act → World → Prop} {E : Prop} (hgd : o.guard = none) (d s : Operand) (t : TypeId)
    (ho : o.op = .call { callee := .builtin .copy, args := #[d, s], argTypes := #[t, t] }) (ht : P.underlying t = some (.slice e)) (hs : (P.info? e).map (·.size) = some 4) {g n cap : Nat} (hr : CRow w base e (.slice (some ⟨g, 0, none⟩) n cap) l)
    (i : Nat) (hi : i < l.length) (dp : Option Addr) (hdp : i + 1 < l.length → dp = some ⟨g, (i + 1) * 4, none⟩) (dn sn dc sc : Nat) (hd : a.eval d = .slice dp dn dc) (hss : a.eval s = .slice (some ⟨g, i * 4, none⟩) sn sc)
    (hdn : dn = l.length - (i + 1)) (hsn : sn = l.length - i)
    (h : ∀ w', CRow w' base e (.slice (some ⟨g, 0, none⟩) n cap) (l.take (i + 1) ++ (l.drop i).take (l.length - (i + 1))) → w.grownBy w' (some g) → K (a.put o.dst (goInt (l.length - (i + 1) : Nat))) w') :
    if Region.wanted o (yielded ops a.tmps) = true then Oper.wp P o a w K Q else E := by
  subst hdn hsn
  have hw : Region.wanted o (yielded ops a.tmps) = true := by simp [Region.wanted, hgd]
  rw [if_pos hw]
  obtain ⟨w', hrun, h1, h2⟩ := run_copy_counts (P := P) t o.type ht hs hr i hi dp hdp dc sc
  unfold Oper.wp execOp
  simp only [ho, resolve, invoke, builtin, Sem.run_bind, Sem.run_pure, Result.andThen_ok, List.map_toArray, List.map_cons, List.map_nil, hd, hss, hrun]
  exact h w' h1 h2
end
end Go.Proofs.Ytmghkonmfbpjcab
