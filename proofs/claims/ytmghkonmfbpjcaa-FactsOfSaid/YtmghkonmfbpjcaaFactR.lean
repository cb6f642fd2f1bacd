/- The reference's FactsOf. -/
import Derived.Test.YtmghkonmfbpjcaaFactE
import Derived.Test.YtmghkonmfbpjcaaFactT
import Derived.Test.YtmghkonmfbpjcaaRefG
import Derived.Deep.RegionHeld3
import Derived.Deep.RegionLaw
import Derived.Deep.DeepCutAuto
namespace Go.Proofs.Ytmghkonmfbpjcaa
set_option linter.unusedVariables false
set_option linter.unusedSimpArgs false
open Go.RowKit
set_option maxHeartbeats 8000000
attribute [local irreducible] Row madeCells

theorem info_intsR : (Try.prog.info? 56).map (fun i => (i.zero, i.size, i.bytes)) = some (some (.slice none 0 0), 1, 24) := by kernel_rfl

theorem yesF_any (n S : Nat) (w : World) (hn : n ≤ 256) (hS : Blk w S 3 #[.int .i64 (n : Int)]) :
    Calls Try.prog 76 #[.pointer (some ⟨S, 0, none⟩)] w (fun e w' => e = .returned (.slice (some ⟨w.heap.size, 0, none⟩) n n) ∧ Row w' w.heap.size 4 (.slice (some ⟨w.heap.size, 0, none⟩) n n) (bools (List.replicate n true)) ∧ Below w.heap.size w w') := by
  obtain ⟨ib, hbi, hbz, hbs, hbb⟩ := info_parts infoBoolG
  have hmk := run_make1 (P := Try.prog) 25 4 ib _ 1 Try.underlying25 hbi hbz hbs hbb (by omega) rfl n (by omega)
  have s0 := hS.cell 0
  have ls := hS.lt
  simp only [List.getElem?_toArray, List.getElem?_cons_zero] at s0
  go_enter Try.func76, Try.ntmps76
  go_wp2_with fail
  go_loopg [3] (n) (fun gk i wr => ∃ k : Nat, k ≤ n ∧ i = .int .i64 k ∧ gk = n - k ∧ ∃ x : List Bool, x.length = n ∧ (∀ j, j < k → yn x j = true) ∧ Row wr w.heap.size 4 (.slice (some ⟨w.heap.size, 0, none⟩) n n) (bools x) ∧ Below w.heap.size w wr)
  case atStart => exact ⟨0, Nat.zero_le _, rfl, rfl, List.replicate n false, by simp, fun j hj => by omega, by rw [bools, List.map_replicate]; exact (by repeat (first | ((with_reducible refine Row.made1' ?_ ?_ ?_); exact (by (try simp only [World.size_alloc, World.size_setCell, World.size_drew, World.heap_drewN]); (first | done | omega | ((try simp only [World.size_alloc, World.size_setCell, World.size_drew, World.heap_drewN] at *); omega))); exact (by (try simp only [World.size_alloc, World.size_setCell, World.size_drew, World.heap_drewN]); (first | done | omega | ((try simp only [World.size_alloc, World.size_setCell, World.size_drew, World.heap_drewN] at *); omega))); exact (by (try simp only [World.size_alloc, World.size_setCell, World.size_drew, World.heap_drewN]); (first | done | omega | ((try simp only [World.size_alloc, World.size_setCell, World.size_drew, World.heap_drewN] at *); omega)))) | (with_reducible refine Row.drew ?_) | (with_reducible refine Row.drewN ?_ _) | (with_reducible refine Row.alloc ?_ _) | with_reducible assumption)), (by repeat (first | (with_reducible exact Below.refl _ _) | (with_reducible assumption) | (with_reducible refine Below.drew ?_) | (with_reducible refine below_drewN ?_ _) | (with_reducible refine Below.alloc ?_ (by (try simp only [World.size_alloc, World.size_setCell, World.size_drew, World.heap_drewN]); (first | done | omega | ((try simp only [World.size_alloc, World.size_setCell, World.size_drew, World.heap_drewN] at *); omega))) _) | (with_reducible refine Below.setCell ?_ (by (try simp only [World.size_alloc, World.size_setCell, World.size_drew, World.heap_drewN]); (first | done | omega | ((try simp only [World.size_alloc, World.size_setCell, World.size_drew, World.heap_drewN] at *); omega))) _) | (with_reducible refine Below.trans ?_ (Below.mono (by assumption) (by (try simp only [World.size_alloc, World.size_setCell, World.size_drew, World.heap_drewN]); (first | done | omega | ((try simp only [World.size_alloc, World.size_setCell, World.size_drew, World.heap_drewN] at *); omega)))))))⟩
  case round =>
    obtain ⟨k, hk, rfl, hgk, x, hxl, hxf, hR, hB⟩ := hrel
    have Hgk := hide hgk
    have Hxf := hide hxf
    have hxlt := (hR.lt _ rfl).2
    have s0 := ((bcell hB).1 _ _ ls).trans s0
    have ls := Nat.lt_of_lt_of_le ls hB.size
    clear hgk hxf hmk
    by_cases hlt : k < n
    · obtain ⟨g0, o0, cp0, e0, _, _, cx, fx⟩ := hR.bool (k := k) (by rw [hxl]; exact hlt)
      injection e0 with e0 e1 e2
      injection e0 with e0
      injection e0 with e0 e3
      subst e0 e3
      simp only [Nat.zero_add] at cx fx
      clear e1 e2
      have HR := hide hR
      clear hR
      have u0 : (0 : Int) ≤ (k : Int) := by omega
      have u1 : (k : Int) < (n : Int) := by omega
      go_wp2_with fail
      go_roundg (n - (k + 1))
      case measure => have := Hgk.out; omega
      case rel =>
        have hs := HR.out.setb k true
        rw [Nat.zero_add] at hs
        refine ⟨k + 1, by omega, by go_num, rfl, x.set k true, by simpa using hxl, fun j hj => ?_, hs, hB.setCell (by simp <;> omega) _⟩
        rw [yn_set _ _ _ _ (by rw [hxl]; exact hlt)]
        split
        · rfl
        · exact Hxf.out j (by omega)
    · have hkk : k = n := by omega
      subst hkk
      have hxe : x = List.replicate k true := ext_yn (by simp [hxl]) fun j hj => (by
        have hj' : j < k := by omega
        rw [Hxf.out j hj']
        simp [yn, List.getD_eq_getElem?_getD, List.getElem?_replicate, hj'])
      subst hxe
      have HR := hide hR
      clear hR
      go_wp2_with fail
      go_ret
      exact ⟨rfl, HR.out, hB⟩

/-- a table of edges that is being made: m rows -/
def RTab (tS tI : TypeId) (B : Nat) (b : Bool) (l : List Nd) (m : Nat) (v : Value) (W : World) : Prop :=
  ∃ vals : List Value, vals.length = m ∧ Row W B tS v vals ∧ ∀ k, k < m → ∃ (R : Option Addr) (c : Nat), vals[k]? = some (.slice R (edgesOf b l k).length c) ∧ Row W B tI (.slice R (edgesOf b l k).length c) (ints (edgesOf b l k))
theorem RTab.later {tS tI : TypeId} {B : Nat} {b : Bool} {l : List Nd} {m : Nat} {v : Value} {W W' : World} (h : RTab tS tI B b l m v W) (hb : Below W.heap.size W W') : RTab tS tI B b l m v W' := by
  obtain ⟨vals, h1, h2, h3⟩ := h
  refine ⟨vals, h1, h2.below' hb, fun k hk => ?_⟩
  obtain ⟨R, c, e, hr⟩ := h3 k hk
  exact ⟨R, c, e, hr.below' hb⟩
theorem RTab.far {tS tI t : TypeId} {B : Nat} {b : Bool} {l : List Nd} {m : Nat} {v : Value} {W : World} {p : Addr} {cs : Array Value} (h : RTab tS tI B b l m v W) (hp : Blk W p.block t cs) (n1 : tS ≠ t) (n2 : tI ≠ t) (u : Value) : RTab tS tI B b l m v (W.setCell p u) := by
  obtain ⟨vals, h1, h2, h3⟩ := h
  refine ⟨vals, h1, h2.far (h2.ne_blk hp n1) u, fun k hk => ?_⟩
  obtain ⟨R, c, e, hr⟩ := h3 k hk
  exact ⟨R, c, e, hr.far (hr.ne_blk hp n2) u⟩
theorem RTab.nil (tS tI : TypeId) (B : Nat) (b : Bool) (l : List Nd) (W : World) : RTab tS tI B b l 0 (.slice none 0 0) W := ⟨[], rfl, Row.nil_ _ _ _, fun k hk => by omega⟩
theorem RTab.add {tS tI : TypeId} {B : Nat} {b : Bool} {l : List Nd} {m : Nat} {v v' : Value} {W W' : World} {vals : List Value} (h1 : vals.length = m) (h2 : Row W B tS v vals)
    (h3 : ∀ k, k < m → ∃ (R : Option Addr) (c : Nat), vals[k]? = some (.slice R (edgesOf b l k).length c) ∧ Row W B tI (.slice R (edgesOf b l k).length c) (ints (edgesOf b l k)))
    (n1 : tI ≠ tS) {R : Option Addr} {c : Nat} (hr : Row W B tI (.slice R (edgesOf b l m).length c) (ints (edgesOf b l m)))
    (hg : W.grownBy W' v.ownBlock) (ha : Row W' B tS v' (vals ++ [.slice R (edgesOf b l m).length c])) : RTab tS tI B b l (m + 1) v' W' := by
  refine ⟨_, by simp [h1], ha, fun k hk => ?_⟩
  by_cases hkm : k = m
  · subst hkm
    exact ⟨R, c, by rw [List.getElem?_append_right (by omega), h1, Nat.sub_self]; rfl, hr.kept hg (hr.ne_row h2 n1)⟩
  · obtain ⟨R', c', e, hr'⟩ := h3 k (by omega)
    exact ⟨R', c', by rw [List.getElem?_append_left (by omega)]; exact e, hr'.kept hg (hr'.ne_row h2 n1)⟩
theorem RTab.grown {tS tI : TypeId} {B : Nat} {b : Bool} {l : List Nd} {m : Nat} {v u : Value} {ys : List Value} {W W' : World} (h : RTab tS tI B b l m v W) (n1 : tI ≠ tS) (hu : Row W B tS u ys) (hg : W.grownBy W' u.ownBlock) (hne : v.ownBlock = none ∨ v.ownBlock ≠ u.ownBlock) : RTab tS tI B b l m v W' := by
  obtain ⟨vals, h1, h2, h3⟩ := h
  refine ⟨vals, h1, h2.kept hg hne, fun k hk => ?_⟩
  obtain ⟨R, c, e, hr⟩ := h3 k hk
  exact ⟨R, c, e, hr.kept hg (hr.ne_row hu n1)⟩
def six {α : Type} (a b c d e f : α) : Nat → α
  | 0 => a
  | 1 => b
  | 2 => c
  | 3 => d
  | 4 => e
  | _ => f
/-- what lies where -/
structure RSt (tP tT tF tZ tB tS tI : TypeId) (B : Nat) (w : World) (pc tc : Array Value) (n : Nat) (l : List Nd) (nx ax : Value) (m1 m2 : Nat) (g : Nat → Nat) (x : Nat → List Bool) (W : World) : Prop where
  p : Blk W B tP pc
  t : Blk W (B + 1) tT tc
  o : Blk W (B + 1 + 1) tF nil6
  s : Blk W (B + 1 + 1 + 1) tZ #[.int .i64 (n : Int)]
  rows : ∀ i, i < 6 → Row W B tB (.slice (some ⟨g i, 0, none⟩) n n) (bools (x i)) ∧ (x i).length = n
  inj : ∀ i j, i < 6 → j < 6 → g i = g j → i = j
  nxt : RTab tS tI B true l m1 nx W
  ahd : RTab tS tI B false l m2 ax W
  apart : nx.ownBlock = none ∨ nx.ownBlock ≠ ax.ownBlock
  below : Below B w W
  sz : B ≤ W.heap.size
  ty : tP ≠ tB ∧ tT ≠ tB ∧ tF ≠ tB ∧ tZ ≠ tB ∧ tS ≠ tB ∧ tI ≠ tB ∧ tP ≠ tS ∧ tT ≠ tS ∧ tF ≠ tS ∧ tZ ≠ tS ∧ tI ≠ tS
section
variable {tP tT tF tZ tB tS tI : TypeId} {B : Nat} {w : World} {pc tc : Array Value} {n : Nat} {l : List Nd} {nx ax : Value} {m1 m2 : Nat} {g : Nat → Nat} {x : Nat → List Bool} {W W' : World}
theorem RSt.later (h : RSt tP tT tF tZ tB tS tI B w pc tc n l nx ax m1 m2 g x W) (hb : Below W.heap.size W W') : RSt tP tT tF tZ tB tS tI B w pc tc n l nx ax m1 m2 g x W' :=
  ⟨h.p.below hb h.p.lt, h.t.below hb h.t.lt, h.o.below hb h.o.lt, h.s.below hb h.s.lt, fun i hi => ⟨(h.rows i hi).1.below' hb, (h.rows i hi).2⟩, h.inj, h.nxt.later hb, h.ahd.later hb, h.apart, h.below.trans (hb.mono h.sz), Nat.le_trans h.sz hb.size, h.ty⟩
theorem RSt.set (h : RSt tP tT tF tZ tB tS tI B w pc tc n l nx ax m1 m2 g x W) {i : Nat} (hi : i < 6) (k : Nat) (b : Bool) :
    RSt tP tT tF tZ tB tS tI B w pc tc n l nx ax m1 m2 g (upd x i ((x i).set k b)) (W.setCell ⟨g i, k, none⟩ (.bool b)) := by
  obtain ⟨hr, hl⟩ := h.rows i hi
  obtain ⟨cs, hc⟩ := hr.blk
  have hge := rowge hr
  obtain ⟨n1, n2, n3, n4, n5, n6, _⟩ := h.ty
  refine ⟨h.p.far (Blk.ne_ h.p hc n1) _, h.t.far (Blk.ne_ h.t hc n2) _, h.o.far (Blk.ne_ h.o hc n3) _, h.s.far (Blk.ne_ h.s hc n4) _, fun j hj => ?_, h.inj, h.nxt.far (p := ⟨g i, k, none⟩) hc n5 n6 _, h.ahd.far (p := ⟨g i, k, none⟩) hc n5 n6 _, h.apart, h.below.setCell hge _, by simpa using h.sz, h.ty⟩
  by_cases hji : j = i
  · subst hji
    rw [upd_same]
    have := hr.setb k b
    rw [Nat.zero_add] at this
    exact ⟨this, by simpa using hl⟩
  · rw [upd_other _ _ hji]
    exact ⟨(h.rows j hj).1.far (by simp [Value.ownBlock]; exact fun e => hji (h.inj j i hj hi e)) _, (h.rows j hj).2⟩
theorem RSt.addN (h : RSt tP tT tF tZ tB tS tI B w pc tc n l nx ax m1 m2 g x W) {v' R : Value} {vals : List Value} {Rr : Option Addr} {c : Nat} (h1 : vals.length = m1) (h2 : Row W B tS nx vals)
    (h3 : ∀ k, k < m1 → ∃ (R : Option Addr) (c : Nat), vals[k]? = some (.slice R (edgesOf true l k).length c) ∧ Row W B tI (.slice R (edgesOf true l k).length c) (ints (edgesOf true l k)))
    (hr : Row W B tI (.slice Rr (edgesOf true l m1).length c) (ints (edgesOf true l m1))) (hg : W.grownBy W' nx.ownBlock) (ha : Row W' B tS v' (vals ++ [.slice Rr (edgesOf true l m1).length c]))
    (hat : v'.ownBlock = nx.ownBlock ∨ ∀ k, v'.ownBlock = some k → W.heap.size ≤ k) : RSt tP tT tF tZ tB tS tI B w pc tc n l v' ax (m1 + 1) m2 g x W' := by
  obtain ⟨n1, n2, n3, n4, n5, n6, n7, n8, n9, n10, n11⟩ := h.ty
  obtain ⟨va, a1, a2, a3⟩ := h.ahd
  have hap : ax.ownBlock = none ∨ ax.ownBlock ≠ nx.ownBlock := by
    rcases hq : ax.ownBlock with _ | q
    · exact .inl rfl
    · rcases h.apart with e | e
      · exact .inr (by rw [e]; simp)
      · exact .inr (fun e' => e (by rw [hq]; exact e'.symm))
  refine ⟨h.p.grown hg (h2.ne_blk h.p (Ne.symm n7)), h.t.grown hg (h2.ne_blk h.t (Ne.symm n8)), h.o.grown hg (h2.ne_blk h.o (Ne.symm n9)), h.s.grown hg (h2.ne_blk h.s (Ne.symm n10)), fun i hi => ⟨(h.rows i hi).1.kept hg ((h.rows i hi).1.ne_row h2 (Ne.symm n5)), (h.rows i hi).2⟩, h.inj,
    RTab.add h1 h2 h3 n11 hr hg ha, h.ahd.grown n11 h2 hg hap, ?_, h.below.grown hg h.sz fun k hk => (h2.lt k hk).1, Nat.le_trans h.sz hg.size, h.ty⟩
  rcases hat with e | e
  · rw [e]; exact h.apart
  · rcases hq : v'.ownBlock with _ | q
    · exact .inl rfl
    · refine .inr fun e' => ?_
      have h1 := e q hq
      have h2 := (a2.lt q e'.symm).2
      omega
theorem RSt.addA (h : RSt tP tT tF tZ tB tS tI B w pc tc n l nx ax m1 m2 g x W) {v' R : Value} {vals : List Value} {Rr : Option Addr} {c : Nat} (h1 : vals.length = m2) (h2 : Row W B tS ax vals)
    (h3 : ∀ k, k < m2 → ∃ (R : Option Addr) (c : Nat), vals[k]? = some (.slice R (edgesOf false l k).length c) ∧ Row W B tI (.slice R (edgesOf false l k).length c) (ints (edgesOf false l k)))
    (hr : Row W B tI (.slice Rr (edgesOf false l m2).length c) (ints (edgesOf false l m2))) (hg : W.grownBy W' ax.ownBlock) (ha : Row W' B tS v' (vals ++ [.slice Rr (edgesOf false l m2).length c]))
    (hat : v'.ownBlock = ax.ownBlock ∨ ∀ k, v'.ownBlock = some k → W.heap.size ≤ k) : RSt tP tT tF tZ tB tS tI B w pc tc n l nx v' m1 (m2 + 1) g x W' := by
  obtain ⟨n1, n2, n3, n4, n5, n6, n7, n8, n9, n10, n11⟩ := h.ty
  obtain ⟨va, a1, a2, a3⟩ := h.nxt
  refine ⟨h.p.grown hg (h2.ne_blk h.p (Ne.symm n7)), h.t.grown hg (h2.ne_blk h.t (Ne.symm n8)), h.o.grown hg (h2.ne_blk h.o (Ne.symm n9)), h.s.grown hg (h2.ne_blk h.s (Ne.symm n10)), fun i hi => ⟨(h.rows i hi).1.kept hg ((h.rows i hi).1.ne_row h2 (Ne.symm n5)), (h.rows i hi).2⟩, h.inj,
    h.nxt.grown n11 h2 hg h.apart, RTab.add h1 h2 h3 n11 hr hg ha, ?_, h.below.grown hg h.sz fun k hk => (h2.lt k hk).1, Nat.le_trans h.sz hg.size, h.ty⟩
  rcases hat with e | e
  · rw [e]; exact h.apart
  · rcases hq : nx.ownBlock with _ | q
    · exact .inl rfl
    · refine .inr fun e' => ?_
      have h1 := e q e'.symm
      have h2 := (a2.lt q hq).2
      omega
end

def FxVPost (tB : TypeId) (l : List Nd) (t : Tm) (w : World) (e : Ending) (w' : World) : Prop :=
  Below w.heap.size w w' ∧ ∃ (F : Fx) (v0 v1 v2 v3 v4 v5 : Value), e = .returned (.agg #[v0, v1, v2, v3, v4, v5]) ∧ IsFx t l F ∧ Row w' w.heap.size tB v0 (bools F.down) ∧ Row w' w.heap.size tB v1 (bools F.up) ∧ Row w' w.heap.size tB v2 (bools F.early) ∧ Row w' w.heap.size tB v3 (bools F.delay) ∧ Row w' w.heap.size tB v4 (bools F.late) ∧ Row w' w.heap.size tB v5 (bools F.alone)

end Go.Proofs.Ytmghkonmfbpjcaa
