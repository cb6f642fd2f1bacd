/- The reference's guess of a line. -/
import Derived.Test.YtmghkonmfbpjcabDoorTxN
import Derived.Test.YtmghkonmfbpjcabDoorTab
import Derived.Deep.DeepCutAuto
import Derived.Deep.RegionWith
import Derived.RegionTactic
namespace Go.Proofs.YtmghkonmfbpjcabDoor
set_option linter.unusedVariables false
set_option linter.unusedSimpArgs false
open Go.RowKit
set_option maxHeartbeats 4000000
open Go.Lib

/-- what the closure 'next' answers: the number that the piece says, where it says one; the counter goes on -/
def NextPost (ga i : Nat) (ps : List (List UInt8)) (w : World) (e : Ending) (w' : World) : Prop :=
  ∃ z w1, e = .returned (.int .i64 z) ∧ i64ok z ∧ (∀ n, i64ok n → ps[i]? = some (itoa n) → z = n) ∧ Below w.heap.size w w1 ∧ w' = w1.setCell ⟨ga, 0, none⟩ (.int .i64 ((i + 1 : Nat) : Int))
set_option maxRecDepth 100000 in
theorem next_any (ga gp i base : Nat) (A : Option Addr) (cp : Nat) (ps : List (List UInt8)) (hps : ∀ p ∈ ps, p.length ≤ 4294967280) (hi : i ≤ 100) (w : World) (h1 : Blk w ga 3 #[.int .i64 (i : Int)]) (h2 : Blk w gp 105 #[.slice A ps.length cp])
    (hR : Row w base 9 (.slice A ps.length cp) (ps.map strB)) (hpl : ps.length ≤ 1000) :
    Calls Tryd.prog 73 #[.pointer (some ⟨ga, 0, none⟩), .pointer (some ⟨gp, 0, none⟩)] w (NextPost ga i ps w) := by
  have a0 := h1.cell 0
  have p0 := h2.cell 0
  have la := h1.lt
  have lp := h2.lt
  have fa := h1.frozen 0
  simp only [List.getElem?_toArray, List.getElem?_cons_zero] at a0 p0
  by_cases hlt : i < ps.length
  · obtain ⟨p, hp⟩ : ∃ p, ps[i]? = some p := ⟨_, List.getElem?_eq_getElem hlt⟩
    obtain ⟨b, off, hA, hbs, hcell⟩ := hR.vals (by intro h; rw [List.map_eq_nil_iff] at h; rw [h] at hlt; exact absurd hlt (Nat.not_lt_zero _))
    subst hA
    have hc : w.cell? ⟨b, off + i, none⟩ = some (strB p) := hcell i (strB p) (by rw [List.getElem?_map, hp]; rfl)
    have d1 : decide ((i : Int) < (ps.length : Int)) = true := decide_eq_true (by omega)
    have i0 : (0 : Int) ≤ (i : Int) := by omega
    have i1 : (i : Int) < (ps.length : Int) := by omega
    have HS := fun W => hide (Said_any p (hps p (List.mem_of_getElem? hp)) W)
    have Hp := hide hp
    clear hcell
    clear hp
    go_enter Tryd.func73, Tryd.ntmps73
    go_wp2_with (refine ((HS _).out).mono ?_; rintro e w3 ⟨z, ok, rfl, hz, hzn, hb3⟩; have a3 := (h1.below hb3 la).cell 0; have f3 := (h1.below hb3 la).frozen 0; simp only [List.getElem?_toArray, List.getElem?_cons_zero] at a3)
    go_ret
    refine ⟨z, w3, rfl, hz, fun n hn e => hzn n hn ?_, hb3, by first | rfl | (congr 2)⟩
    rw [Hp.out] at e
    exact Option.some.inj e
  · have d1 : decide ((i : Int) < (ps.length : Int)) = false := decide_eq_false (by omega)
    go_enter Tryd.func73, Tryd.ntmps73
    go_wp2_with fail
    go_ret
    refine ⟨0, w, rfl, ⟨by omega, by omega⟩, fun n hn e => ?_, Below.refl _ _, by first | rfl | (congr 2)⟩
    rw [List.getElem?_eq_none (by omega)] at e
    cases e
/-- what is known of a number that was taken: the one that the piece says -/
def TkP (ps : List (List UInt8)) (k : Nat) (z : Int) : Prop := ∀ n, i64ok n → ps[k]? = some (itoa n) → z = n
theorem guess_words {s : List UInt8} {ps : List (List UInt8)} {p0 : List UInt8} {pr : List (List UInt8)} {o : Int} (hps : (splB 32 s).take 9 = ps) (hpc : ps = p0 :: pr) (hoP : ∀ j : Nat, j < 13 → opW (j : Int) = p0 → o = j) {m : Nd} (hm : Shaped m) (hs : s = nodeL m) :
    o = m.op ∧ ps = wordsL m := by
  have h1 : splB 32 s = wordsL m := by rw [hs]; exact splB_joinB (by simp [wordsL]) fun x hx => (words_clean hm.op x hx).1
  have hl : (wordsL m).length ≤ 9 := by
    unfold wordsL partsL
    repeat' split
    all_goals simp [partW, toW, elseW]
  have h2 : ps = wordsL m := by rw [← hps, h1, List.take_of_length_le hl]
  refine ⟨?_, h2⟩
  rw [h2] at hpc
  unfold wordsL at hpc
  injection hpc with h3 h4
  have ho := hm.op
  have := hoP m.op.toNat (by omega) (by rw [← h3]; congr 1; omega)
  omega
theorem guess_eq {n m : Nd} {ps : List (List UInt8)} (hm : Shaped m) (hop : n.op = m.op) (hw : ps = wordsL m)
    (H : ∀ i, 1 ≤ i → i < 6 → (n.fld i = 0 ∧ i ∉ (partsL n.op).map Prod.snd) ∨ ∃ k, TkP ps k (n.fld i) ∧ ∀ m : Nd, m.op = n.op → (wordsL m)[k]? = some (itoa (m.fld i))) : n = m := by
  refine Nd.ext_fld fun i hi => ?_
  by_cases h0 : i = 0
  · subst h0; exact hop
  · rcases H i (by omega) hi with ⟨h1, h2⟩ | ⟨k, h1, h2⟩
    · rw [h1, hm.rest i (by omega) hi (by rw [← hop]; exact h2)]
    · exact h1 _ (hm.fit i hi) (by rw [hw]; exact h2 m hop.symm)
theorem joinB_mem_len (c : UInt8) : ∀ (l : List (List UInt8)), ∀ p ∈ l, p.length ≤ (joinB c l).length
  | [], p, h => by cases h
  | [x], p, h => by
    rw [List.mem_singleton.1 h]; exact Nat.le_refl _
  | x :: y :: r, p, h => by
    show p.length ≤ (x ++ c :: joinB c (y :: r)).length
    rw [List.length_append, List.length_cons]
    rcases List.mem_cons.1 h with e | e
    · rw [e]; omega
    · have := joinB_mem_len c (y :: r) p e
      omega
theorem splB_len (c : UInt8) (s : List UInt8) (p : List UInt8) (h : p ∈ splB c s) : p.length ≤ s.length := by
  have := joinB_mem_len c _ p h
  unfold splB at this
  rw [joinB_cutL] at this
  simpa using this
theorem splB_ne (c : UInt8) (s : List UInt8) : splB c s ≠ [] := cutL_ne c s []
/-- the memory while a line is guessed: the pieces, the node, the counter, the result's own place -/
def GSt (g0 g7 gc : Nat) (A : Option Addr) (c base : Nat) (ps : List (List UInt8)) (w0 W : World) (k : Nat) (n : Nd) : Prop :=
  Blk W g7 105 #[.slice A ps.length c] ∧ Blk W (g7 + 1) 55 #[.int .i64 n.op, .int .i64 n.d, .int .i64 n.a, .int .i64 n.b, .int .i64 n.t, .int .i64 n.e] ∧ Blk W gc 3 #[.int .i64 (k : Int)] ∧
  Row W base 9 (.slice A ps.length c) (ps.map strB) ∧ Blk W g0 55 #[.int .i64 0, .int .i64 0, .int .i64 0, .int .i64 0, .int .i64 0, .int .i64 0] ∧ Below w0.heap.size w0 W ∧
  g0 < g7 ∧ g7 + 1 < gc ∧ w0.heap.size ≤ g7 ∧ (∀ k, (Value.slice A ps.length c).ownBlock = some k → k < g7)
section
variable {g0 g7 gc : Nat} {A : Option Addr} {c base : Nat} {ps : List (List UInt8)} {w0 W w3 : World} {k : Nat} {n : Nd}
theorem GSt.take (h : GSt g0 g7 gc A c base ps w0 W k n) (hb : Below W.heap.size W w3) (k' : Nat) (hk : k' = k + 1) : GSt g0 g7 gc A c base ps w0 (w3.setCell ⟨gc, 0, none⟩ (.int .i64 ((k + 1 : Nat) : Int))) k' n := by
  obtain ⟨hP, hN, hC, hR, h0, hB, l1, l2, l3, ho⟩ := h
  subst hk
  refine ⟨(hP.below hb hP.lt).far (by simp only; omega) _, (hN.below hb hN.lt).far (by simp only; omega) _, (hC.below hb hC.lt).set_ 0 _, (hR.below' hb).far (fun e => by have := ho _ e; simp only at this; omega) _, (h0.below hb h0.lt).far (by simp only; omega) _, (hB.trans (hb.mono hB.size)).setCell (by simp only; omega) _, l1, l2, l3, ho⟩
theorem GSt.put (h : GSt g0 g7 gc A c base ps w0 W k n) (f : Nat) (z : Int) (n' : Nd) (hn : #[Value.int .i64 n'.op, .int .i64 n'.d, .int .i64 n'.a, .int .i64 n'.b, .int .i64 n'.t, .int .i64 n'.e] = (#[Value.int .i64 n.op, .int .i64 n.d, .int .i64 n.a, .int .i64 n.b, .int .i64 n.t, .int .i64 n.e]).setIfInBounds f (.int .i64 z)) :
    GSt g0 g7 gc A c base ps w0 (W.setCell ⟨g7 + 1, f, none⟩ (.int .i64 z)) k n' := by
  obtain ⟨hP, hN, hC, hR, h0, hB, l1, l2, l3, ho⟩ := h
  refine ⟨hP.far (by simp only; omega) _, ?_, hC.far (by simp only; omega) _, hR.far (fun e => by have := ho _ e; simp only at this; omega) _, h0.far (by simp only; omega) _, hB.setCell (by simp only; omega) _, l1, l2, l3, ho⟩
  rw [hn]
  exact hN.set_ f _
theorem GSt.up (h : GSt g0 g7 gc A c base ps w0 W k n) (k' : Nat) : GSt g0 g7 gc A c base ps w0 (W.setCell ⟨gc, 0, none⟩ (.int .i64 (k' : Int))) k' n := by
  obtain ⟨hP, hN, hC, hR, h0, hB, l1, l2, l3, ho⟩ := h
  exact ⟨hP.far (by simp only; omega) _, hN.far (by simp only; omega) _, hC.set_ 0 _, hR.far (fun e => by have := ho _ e; simp only at this; omega) _, h0.far (by simp only; omega) _, hB.setCell (by simp only; omega) _, l1, l2, l3, ho⟩
theorem GSt.node (h : GSt g0 g7 gc A c base ps w0 W k n) (f : Nat) : W.cell? ⟨g7 + 1, f, none⟩ = (#[Value.int .i64 n.op, .int .i64 n.d, .int .i64 n.a, .int .i64 n.b, .int .i64 n.t, .int .i64 n.e])[f]? ∧ W.frozen? ⟨g7 + 1, f, none⟩ = false := ⟨h.2.1.cell f, h.2.1.frozen f⟩
theorem GSt.cnt (h : GSt g0 g7 gc A c base ps w0 W k n) : W.cell? ⟨gc, 0, none⟩ = some (.int .i64 (k : Int)) ∧ W.frozen? ⟨gc, 0, none⟩ = false := ⟨h.2.2.1.cell 0, h.2.2.1.frozen 0⟩
end
theorem grp_o {o : Int} (h : 3 ≤ o ∧ o ≤ 8) : hasD o = true ∧ hasA o = true ∧ hasB o = true ∧ partsL o = [([], 1), ([], 2), ([], 3), (toW, 4)] ∧ (o == 12) = false ∧ (o == 11) = false ∧ (o == 1) = false := by
  have hc : o = 3 ∨ o = 4 ∨ o = 5 ∨ o = 6 ∨ o = 7 ∨ o = 8 := by omega
  rcases hc with rfl | rfl | rfl | rfl | rfl | rfl <;> exact ⟨rfl, rfl, rfl, rfl, rfl, rfl, rfl⟩
set_option maxHeartbeats 40000000 in
set_option maxRecDepth 100000 in
theorem guess_any (s : List UInt8) (hs : s.length ≤ 4294967280) (w : World) : Calls Tryd.prog 48 #[strB s] w fun e w' =>
    ∃ n : Nd, e = .returned (.agg #[.int .i64 n.op, .int .i64 n.d, .int .i64 n.a, .int .i64 n.b, .int .i64 n.t, .int .i64 n.e]) ∧ (∀ i, i < 6 → i64ok (n.fld i)) ∧ (∀ m, Shaped m → s = nodeL m → n = m) ∧ Below w.heap.size w w' := by
  have HC := fun W => hide (cut_any 32 9 (by omega) s hs W)
  go_enter Tryd.func48, Tryd.ntmps48
  go_wp2_with (refine ((HC _).out).mono ?_; rintro e w1 ⟨v1, rfl, hR1, hb1⟩; generalize hps : (splB 32 s).take 9 = ps at *; obtain ⟨A1, c1, rfl, _, _⟩ := hR1.shape; rw [List.length_map] at *; have hR0 := (Blk.new w 55 #[.int .i64 0, .int .i64 0, .int .i64 0, .int .i64 0, .int .i64 0, .int .i64 0]).below hb1 (by simp); have hBw : Below w.heap.size w w1 := ((Below.refl _ _).alloc (Nat.le_refl _) _).trans (hb1.mono (by simp)))
  have hp9 : ps.length ≤ 9 := by rw [← hps, List.length_take]; omega
  obtain ⟨p0, pr, hpc⟩ : ∃ p0 pr, ps = p0 :: pr := by
    cases h : ps with
    | nil =>
      rw [h] at hps
      exact absurd ((List.take_eq_nil_iff.1 hps).resolve_left (by omega)) (splB_ne 32 s)
    | cons x r => exact ⟨x, r, rfl⟩
  have Hps := hide hps
  have Hpc := hide hpc
  have hpl : 0 < ps.length := by rw [hpc]; simp
  have hpsl : ∀ p ∈ ps, p.length ≤ 4294967280 := by
    intro p hp
    rw [← hps] at hp
    have := splB_len 32 s p (List.mem_of_mem_take hp)
    omega
  have hpsl := hide hpsl
  have hpl9 : ps.length ≤ 1000 := by omega
  clear hps hpc HC
  go_loopg [5] (13) (fun gk i wr => ∃ (k : Nat) (o : Int), k ≤ 13 ∧ i = .int .i64 k ∧ gk = 13 - k ∧ (-1 ≤ o ∧ o ≤ 12) ∧ (∀ j : Nat, j < k → opW (j : Int) = p0 → o = j) ∧ Blk wr w1.heap.size 105 #[.slice A1 ps.length c1] ∧ Blk wr (w1.heap.size + 1) 55 #[.int .i64 o, .int .i64 0, .int .i64 0, .int .i64 0, .int .i64 0, .int .i64 0] ∧ Below w1.heap.size w1 wr)
  case atStart => exact ⟨0, -1, by omega, rfl, rfl, ⟨by omega, by omega⟩, fun j hj => absurd hj (Nat.not_lt_zero _), (by repeat (first | ((with_reducible refine Blk.new' ?_); exact (by (try simp only [World.size_alloc, World.size_setCell, World.size_drew, World.heap_drewN]); (first | done | omega | ((try simp only [World.size_alloc, World.size_setCell, World.size_drew, World.heap_drewN] at *); omega)))) | (with_reducible refine Blk.drew ?_) | (with_reducible refine Blk.drewN ?_ _) | (with_reducible refine Blk.alloc ?_ _) | with_reducible assumption)), (by repeat (first | ((with_reducible refine Blk.new' ?_); exact (by (try simp only [World.size_alloc, World.size_setCell, World.size_drew, World.heap_drewN]); (first | done | omega | ((try simp only [World.size_alloc, World.size_setCell, World.size_drew, World.heap_drewN] at *); omega)))) | (with_reducible refine Blk.drew ?_) | (with_reducible refine Blk.drewN ?_ _) | (with_reducible refine Blk.alloc ?_ _) | with_reducible assumption)), (by repeat (first | (with_reducible exact Below.refl _ _) | (with_reducible assumption) | (with_reducible refine Below.drew ?_) | (with_reducible refine below_drewN ?_ _) | (with_reducible refine Below.alloc ?_ (by (try simp only [World.size_alloc, World.size_setCell, World.size_drew, World.heap_drewN]); (first | done | omega | ((try simp only [World.size_alloc, World.size_setCell, World.size_drew, World.heap_drewN] at *); omega))) _) | (with_reducible refine Below.setCell ?_ (by (try simp only [World.size_alloc, World.size_setCell, World.size_drew, World.heap_drewN]); (first | done | omega | ((try simp only [World.size_alloc, World.size_setCell, World.size_drew, World.heap_drewN] at *); omega))) _) | (with_reducible refine Below.trans ?_ (Below.mono (by assumption) (by (try simp only [World.size_alloc, World.size_setCell, World.size_drew, World.heap_drewN]); (first | done | omega | ((try simp only [World.size_alloc, World.size_setCell, World.size_drew, World.heap_drewN] at *); omega)))))))⟩
  case round =>
    obtain ⟨k, o, hk, rfl, hgk, ho, hoP, hP, hN, hB⟩ := hrel
    have Hgk := hide hgk
    have HoP := hide hoP
    clear hgk hoP
    by_cases hlt : k < 13
    · obtain ⟨b0, o0, rfl, hb0, hv0⟩ := hR1.vals (by rw [Hpc.out]; simp)
      have hv0 : w1.cell? ⟨b0, o0, none⟩ = some (strB p0) := by have := hv0 0 (strB p0) (by rw [Hpc.out]; rfl); simpa using this
      have hl0 : (0 : Int) < (ps.length : Int) := by omega
      go_upto_region 6 with (refine (Rnames_any _).mono ?_; rintro e w4 ⟨rfl, hw4⟩)
      have hPa := hP.alloc (.cells namesV 9)
      have hNa := hN.alloc (.cells namesV 9)
      have hBa : Below w1.heap.size w1 (wr.alloc (.cells namesV 9)) := hB.alloc hB.size _
      generalize wr.alloc (.cells namesV 9) = wa at *
      have hva := (hBa.cell (p := ⟨b0, o0, none⟩) hb0).trans hv0
      have cPa := hPa.cell 0
      simp only [List.getElem?_toArray, List.getElem?_cons_zero] at cPa
      go_cut [29] (fun s29 wx => s29 = .bool (decide (opW (k : Int) = p0)) ∧ Blk wx w1.heap.size 105 #[.slice (some ⟨b0, o0, none⟩) ps.length c1] ∧ Blk wx (w1.heap.size + 1) 55 #[.int .i64 o, .int .i64 0, .int .i64 0, .int .i64 0, .int .i64 0, .int .i64 0] ∧ Below w1.heap.size w1 wx)
      case first =>
        clear hv0 hP hN hB HoP hR1
        go_region_with (go_at_call 66; refine (Rnames_any _).mono ?_; rintro e w5 ⟨rfl, hw5⟩; have hb5 : Below wa.heap.size wa w5 := (by rw [hw5]; exact ((Below.refl _ _).drew).alloc (Nat.le_refl _) _); have hv5 := (hb5.cell (p := ⟨b0, o0, none⟩) (Nat.lt_of_lt_of_le hb0 hBa.size)).trans hva; have hP5 := hPa.below hb5 hPa.lt; have hN5 := hNa.below hb5 hNa.lt; have hB5 : Below w1.heap.size w1 w5 := hBa.trans (hb5.mono hBa.size); have cP5 := hP5.cell 0; have cn := name_cell hw5 k hlt; simp only [List.getElem?_toArray, List.getElem?_cons_zero, World.size_drew] at cP5 cn; clear hw5)
        all_goals (go_wp2_with fail)
        all_goals go_meet
        all_goals exact ⟨(by first | rfl | (congr 1; by_cases h : opW (k : Int) = p0 <;> simp [h])), hP5, hN5, hB5⟩
      case rest =>
        obtain ⟨rfl, hP, hN, hB⟩ := hcut
        have c0 := hN.cell 0
        have f0 := hN.frozen 0
        have lN := hN.lt
        simp only [List.getElem?_toArray, List.getElem?_cons_zero] at c0
        by_cases heq : opW (k : Int) = p0
        · have hd : decide (opW (k : Int) = p0) = true := decide_eq_true heq
          go_wp2_with fail
          go_roundg (13 - (k + 1))
          case measure => have := Hgk.out; omega
          case rel => exact ⟨k + 1, k, by omega, by go_num, rfl, ⟨by omega, by omega⟩, fun j hj he => (opW_inj ⟨by omega, by omega⟩ ⟨by omega, by omega⟩ (heq.trans he.symm)), hP.far (by simp) _, hN.set_ 0 _, hB.setCell (by simp) _⟩
        · have hd : decide (opW (k : Int) = p0) = false := decide_eq_false heq
          go_wp2_with fail
          go_roundg (13 - (k + 1))
          case measure => have := Hgk.out; omega
          case rel => exact ⟨k + 1, o, by omega, by go_num, rfl, ho, fun j hj he => (Nat.lt_or_eq_of_le (Nat.lt_succ_iff.1 hj)).elim (fun h => HoP.out j h he) (fun h => absurd (h ▸ he) heq), hP, hN, hB⟩
    · obtain rfl : k = 13 := by omega
      have hF := fields_any o
      have gi : i64ok o := ⟨by omega, by omega⟩
      go_upto_region 8 with (refine (Rnames_any _).mono ?_; rintro e w4 ⟨rfl, hw4⟩)
      have hPa := hP.alloc (.cells namesV 9)
      have hNa := hN.alloc (.cells namesV 9)
      have hBa : Below w1.heap.size w1 (wr.alloc (.cells namesV 9)) := hB.alloc hB.size _
      generalize wr.alloc (.cells namesV 9) = wa at *
      clear hP hN hB hw4
      have hRa := hR1.below' hBa
      have hZa := hR0.below hBa hR0.lt
      have hro := hide (fun k (e : (Value.slice A1 ps.length c1).ownBlock = some k) => (hR1.lt k e).2)
      have lNa := hNa.lt
      have f0 := hNa.frozen 0
      have c0 := hNa.cell 0
      simp only [List.getElem?_toArray, List.getElem?_cons_zero] at c0
      have hbw : w.heap.size < w1.heap.size := hR0.lt
      have hBw2 : Below w.heap.size w wa := hBw.trans (hBa.mono (Nat.le_of_lt hbw))
      clear hBa hBw hb1 hR1 hR0
      generalize w1.heap.size = g7 at *
      have hmap : (ps.map strB).length ≤ 9 := by rw [List.length_map]; exact hp9
      rcases (show o = -1 ∨ o = 0 ∨ o = 1 ∨ o = 2 ∨ (3 ≤ o ∧ o ≤ 8) ∨ o = 9 ∨ o = 10 ∨ o = 11 ∨ o = 12 by omega) with h | h | h | h | h | h | h | h | h
      · subst h
        have b1 : hasD (-1) = false := rfl
        have b2 : hasA (-1) = false := rfl
        have b3 : hasB (-1) = false := rfl
        have hp : partsL (-1) = [([], 1), ([], 2), ([], 3), (toW, 4)] := rfl
        rw [b1, b2, b3] at hF
        have HF := fun W => hide (hF W)
        clear hF
        go_upto_region 11 with fail
        refine Calls.mono (HF _).out ?_
        rintro e w4 ⟨rfl, rfl⟩
        go_upto_region 11 with fail
        have hG : GSt w.heap.size g7 wa.heap.size A1 c1 _ ps w (wa.alloc (.cells #[.int .i64 1] 3)) 1 ⟨(-1), 0, 0, 0, 0, 0⟩ := ⟨hPa.alloc _, hNa.alloc _, Blk.new _ _ _, hRa.alloc _, hZa.alloc _, hBw2.alloc hBw2.size _, hbw, lNa, Nat.le_of_lt hbw, hro.out⟩
        clear hPa hNa hRa hZa hBw2 f0 c0 HF
        generalize wa.alloc (.cells #[.int .i64 1] 3) = wk at hG ⊢
        generalize wa.heap.size = gc at hG ⊢

        have cA := (hG.node 0).1
        have kA := hG.cnt.1
        have kF := hG.cnt.2
        simp only [List.getElem?_toArray, List.getElem?_cons_zero, List.getElem?_cons_succ] at cA
        go_upto_region 18 with fail
        clear cA kA kF
        replace hG := hG.up 2
        generalize wk.setCell ⟨gc, 0, none⟩ (.int .i64 (2 : Nat)) = wk at hG ⊢
        have cA := (hG.node 0).1
        have kA := hG.cnt.1
        have kF := hG.cnt.2
        simp only [List.getElem?_toArray, List.getElem?_cons_zero, List.getElem?_cons_succ] at cA
        have HN := hide (next_any gc g7 2 _ _ _ ps hpsl.out (by omega) wk hG.2.2.1 hG.1 hG.2.2.2.1 hpl9)
        have k1 := hG.cnt.1
        go_upto_region 20 with fail
        refine Calls.mono HN.out ?_
        rintro e w5 ⟨z4, w4, rfl, gz4, nz4, hb4, rfl⟩
        replace hG := hG.take hb4 (2 + 1) rfl
        clear HN hb4 k1
        generalize w4.setCell ⟨gc, 0, none⟩ (.int .i64 ((2 + 1 : Nat) : Int)) = wk at hG ⊢
        have cN := (hG.node 4).1
        have fN := (hG.node 4).2
        have cA := (hG.node 0).1
        simp only [List.getElem?_toArray, List.getElem?_cons_zero, List.getElem?_cons_succ] at cN cA
        go_upto_region 20 with fail
        clear cN fN cA
        replace hG := hG.put 4 z4 ⟨(-1), 0, 0, 0, z4, 0⟩ rfl
        generalize wk.setCell ⟨g7 + 1, 4, none⟩ (.int .i64 z4) = wk at hG ⊢
        have cA := (hG.node 0).1
        have kA := hG.cnt.1
        have kF := hG.cnt.2
        simp only [List.getElem?_toArray, List.getElem?_cons_zero, List.getElem?_cons_succ] at cA
        go_upto_region 21 with fail
        clear cA kA kF
        replace hG := hG.up 4
        generalize wk.setCell ⟨gc, 0, none⟩ (.int .i64 (4 : Nat)) = wk at hG ⊢
        have cA := (hG.node 0).1
        have kA := hG.cnt.1
        have kF := hG.cnt.2
        simp only [List.getElem?_toArray, List.getElem?_cons_zero, List.getElem?_cons_succ] at cA
        clear cA kA kF
        have hZ := hG.2.2.2.2.1
        have n0 := (hG.node 0).1
        have n1 := (hG.node 1).1
        have n2 := (hG.node 2).1
        have n3 := (hG.node 3).1
        have n4 := (hG.node 4).1
        have n5 := (hG.node 5).1
        have q0 := hZ.cell 0
        have q1 := hZ.cell 1
        have q2 := hZ.cell 2
        have q3 := hZ.cell 3
        have q4 := hZ.cell 4
        have q5 := hZ.cell 5
        have qf := hZ.frozen 0
        have qf1 := hZ.frozen 1
        have qf2 := hZ.frozen 2
        have qf3 := hZ.frozen 3
        have qf4 := hZ.frozen 4
        have qf5 := hZ.frozen 5
        have lZ := hZ.lt
        have hBk := hG.2.2.2.2.2.1
        simp only [List.getElem?_toArray, List.getElem?_cons_zero, List.getElem?_cons_succ] at n0 n1 n2 n3 n4 n5 q0 q1 q2 q3 q4 q5
        go_wp2_with fail
        refine bodyPost_ret (v := .agg #[.int .i64 (-1), .int .i64 0, .int .i64 0, .int .i64 0, .int .i64 z4, .int .i64 0]) (by simp [results, Tryd.results48, go_sem, q0, q1, q2, q3, q4, q5, World.cell?_setCell_same, World.cell?_setCell_other]; try rfl) rfl ⟨⟨(-1), 0, 0, 0, z4, 0⟩, rfl, ?_, ?_, (by repeat (first | (with_reducible exact Below.refl _ _) | (with_reducible assumption) | (with_reducible refine Below.drew ?_) | (with_reducible refine below_drewN ?_ _) | (with_reducible refine Below.alloc ?_ (by (try simp only [World.size_alloc, World.size_setCell, World.size_drew, World.heap_drewN]); (first | done | omega | ((try simp only [World.size_alloc, World.size_setCell, World.size_drew, World.heap_drewN] at *); omega))) _) | (with_reducible refine Below.setCell ?_ (by (try simp only [World.size_alloc, World.size_setCell, World.size_drew, World.heap_drewN]); (first | done | omega | ((try simp only [World.size_alloc, World.size_setCell, World.size_drew, World.heap_drewN] at *); omega))) _) | (with_reducible refine Below.trans ?_ (Below.mono (by assumption) (by (try simp only [World.size_alloc, World.size_setCell, World.size_drew, World.heap_drewN]); (first | done | omega | ((try simp only [World.size_alloc, World.size_setCell, World.size_drew, World.heap_drewN] at *); omega)))))))⟩
        · rintro i hi
          rcases i with _ | _ | _ | _ | _ | _ | i
          all_goals first | assumption | exact (by omega : i64ok _) | exact ⟨by simp [Nd.fld], by simp [Nd.fld]⟩ | omega
        · intro m hm hs'
          obtain ⟨ho1, hw1⟩ := guess_words Hps.out Hpc.out HoP.out hm hs'
          have hmo := hm.op
          refine guess_eq hm ho1 hw1 fun i h1 h6 => ?_
          rcases i with _ | _ | _ | _ | _ | _ | i
          all_goals first | omega | (exfalso; omega) | exact .inl ⟨rfl, by simp [hp]⟩ | exact .inr ⟨1, by assumption, fun m hm => by have e : m.op = (-1) := hm; simp [wordsL, e, hp, partW, toW, elseW, Nd.fld]⟩ | exact .inr ⟨2, by assumption, fun m hm => by have e : m.op = (-1) := hm; simp [wordsL, e, hp, partW, toW, elseW, Nd.fld]⟩ | exact .inr ⟨3, by assumption, fun m hm => by have e : m.op = (-1) := hm; simp [wordsL, e, hp, partW, toW, elseW, Nd.fld]⟩ | exact .inr ⟨4, by assumption, fun m hm => by have e : m.op = (-1) := hm; simp [wordsL, e, hp, partW, toW, elseW, Nd.fld]⟩ | exact .inr ⟨5, by assumption, fun m hm => by have e : m.op = (-1) := hm; simp [wordsL, e, hp, partW, toW, elseW, Nd.fld]⟩
      · subst h
        have b1 : hasD 0 = false := rfl
        have b2 : hasA 0 = false := rfl
        have b3 : hasB 0 = false := rfl
        have hp : partsL 0 = [(toW, 4)] := rfl
        rw [b1, b2, b3] at hF
        have HF := fun W => hide (hF W)
        clear hF
        go_upto_region 11 with fail
        refine Calls.mono (HF _).out ?_
        rintro e w4 ⟨rfl, rfl⟩
        go_upto_region 11 with fail
        have hG : GSt w.heap.size g7 wa.heap.size A1 c1 _ ps w (wa.alloc (.cells #[.int .i64 1] 3)) 1 ⟨0, 0, 0, 0, 0, 0⟩ := ⟨hPa.alloc _, hNa.alloc _, Blk.new _ _ _, hRa.alloc _, hZa.alloc _, hBw2.alloc hBw2.size _, hbw, lNa, Nat.le_of_lt hbw, hro.out⟩
        clear hPa hNa hRa hZa hBw2 f0 c0 HF
        generalize wa.alloc (.cells #[.int .i64 1] 3) = wk at hG ⊢
        generalize wa.heap.size = gc at hG ⊢

        have cA := (hG.node 0).1
        have kA := hG.cnt.1
        have kF := hG.cnt.2
        simp only [List.getElem?_toArray, List.getElem?_cons_zero, List.getElem?_cons_succ] at cA
        go_upto_region 18 with fail
        clear cA kA kF
        replace hG := hG.up 2
        generalize wk.setCell ⟨gc, 0, none⟩ (.int .i64 (2 : Nat)) = wk at hG ⊢
        have cA := (hG.node 0).1
        have kA := hG.cnt.1
        have kF := hG.cnt.2
        simp only [List.getElem?_toArray, List.getElem?_cons_zero, List.getElem?_cons_succ] at cA
        have HN := hide (next_any gc g7 2 _ _ _ ps hpsl.out (by omega) wk hG.2.2.1 hG.1 hG.2.2.2.1 hpl9)
        have k1 := hG.cnt.1
        go_upto_region 20 with fail
        refine Calls.mono HN.out ?_
        rintro e w5 ⟨z4, w4, rfl, gz4, nz4, hb4, rfl⟩
        replace hG := hG.take hb4 (2 + 1) rfl
        clear HN hb4 k1
        generalize w4.setCell ⟨gc, 0, none⟩ (.int .i64 ((2 + 1 : Nat) : Int)) = wk at hG ⊢
        have cN := (hG.node 4).1
        have fN := (hG.node 4).2
        have cA := (hG.node 0).1
        simp only [List.getElem?_toArray, List.getElem?_cons_zero, List.getElem?_cons_succ] at cN cA
        go_upto_region 20 with fail
        clear cN fN cA
        replace hG := hG.put 4 z4 ⟨0, 0, 0, 0, z4, 0⟩ rfl
        generalize wk.setCell ⟨g7 + 1, 4, none⟩ (.int .i64 z4) = wk at hG ⊢
        have cA := (hG.node 0).1
        have kA := hG.cnt.1
        have kF := hG.cnt.2
        simp only [List.getElem?_toArray, List.getElem?_cons_zero, List.getElem?_cons_succ] at cA
        go_upto_region 21 with fail
        clear cA kA kF
        replace hG := hG.up 4
        generalize wk.setCell ⟨gc, 0, none⟩ (.int .i64 (4 : Nat)) = wk at hG ⊢
        have cA := (hG.node 0).1
        have kA := hG.cnt.1
        have kF := hG.cnt.2
        simp only [List.getElem?_toArray, List.getElem?_cons_zero, List.getElem?_cons_succ] at cA
        clear cA kA kF
        have hZ := hG.2.2.2.2.1
        have n0 := (hG.node 0).1
        have n1 := (hG.node 1).1
        have n2 := (hG.node 2).1
        have n3 := (hG.node 3).1
        have n4 := (hG.node 4).1
        have n5 := (hG.node 5).1
        have q0 := hZ.cell 0
        have q1 := hZ.cell 1
        have q2 := hZ.cell 2
        have q3 := hZ.cell 3
        have q4 := hZ.cell 4
        have q5 := hZ.cell 5
        have qf := hZ.frozen 0
        have qf1 := hZ.frozen 1
        have qf2 := hZ.frozen 2
        have qf3 := hZ.frozen 3
        have qf4 := hZ.frozen 4
        have qf5 := hZ.frozen 5
        have lZ := hZ.lt
        have hBk := hG.2.2.2.2.2.1
        simp only [List.getElem?_toArray, List.getElem?_cons_zero, List.getElem?_cons_succ] at n0 n1 n2 n3 n4 n5 q0 q1 q2 q3 q4 q5
        go_wp2_with fail
        refine bodyPost_ret (v := .agg #[.int .i64 0, .int .i64 0, .int .i64 0, .int .i64 0, .int .i64 z4, .int .i64 0]) (by simp [results, Tryd.results48, go_sem, q0, q1, q2, q3, q4, q5, World.cell?_setCell_same, World.cell?_setCell_other]; try rfl) rfl ⟨⟨0, 0, 0, 0, z4, 0⟩, rfl, ?_, ?_, (by repeat (first | (with_reducible exact Below.refl _ _) | (with_reducible assumption) | (with_reducible refine Below.drew ?_) | (with_reducible refine below_drewN ?_ _) | (with_reducible refine Below.alloc ?_ (by (try simp only [World.size_alloc, World.size_setCell, World.size_drew, World.heap_drewN]); (first | done | omega | ((try simp only [World.size_alloc, World.size_setCell, World.size_drew, World.heap_drewN] at *); omega))) _) | (with_reducible refine Below.setCell ?_ (by (try simp only [World.size_alloc, World.size_setCell, World.size_drew, World.heap_drewN]); (first | done | omega | ((try simp only [World.size_alloc, World.size_setCell, World.size_drew, World.heap_drewN] at *); omega))) _) | (with_reducible refine Below.trans ?_ (Below.mono (by assumption) (by (try simp only [World.size_alloc, World.size_setCell, World.size_drew, World.heap_drewN]); (first | done | omega | ((try simp only [World.size_alloc, World.size_setCell, World.size_drew, World.heap_drewN] at *); omega)))))))⟩
        · rintro i hi
          rcases i with _ | _ | _ | _ | _ | _ | i
          all_goals first | assumption | exact (by omega : i64ok _) | exact ⟨by simp [Nd.fld], by simp [Nd.fld]⟩ | omega
        · intro m hm hs'
          obtain ⟨ho1, hw1⟩ := guess_words Hps.out Hpc.out HoP.out hm hs'
          have hmo := hm.op
          refine guess_eq hm ho1 hw1 fun i h1 h6 => ?_
          rcases i with _ | _ | _ | _ | _ | _ | i
          all_goals first | omega | (exfalso; omega) | exact .inl ⟨rfl, by simp [hp]⟩ | exact .inr ⟨1, by assumption, fun m hm => by have e : m.op = 0 := hm; simp [wordsL, e, hp, partW, toW, elseW, Nd.fld]⟩ | exact .inr ⟨2, by assumption, fun m hm => by have e : m.op = 0 := hm; simp [wordsL, e, hp, partW, toW, elseW, Nd.fld]⟩ | exact .inr ⟨3, by assumption, fun m hm => by have e : m.op = 0 := hm; simp [wordsL, e, hp, partW, toW, elseW, Nd.fld]⟩ | exact .inr ⟨4, by assumption, fun m hm => by have e : m.op = 0 := hm; simp [wordsL, e, hp, partW, toW, elseW, Nd.fld]⟩ | exact .inr ⟨5, by assumption, fun m hm => by have e : m.op = 0 := hm; simp [wordsL, e, hp, partW, toW, elseW, Nd.fld]⟩
      · subst h
        have b1 : hasD 1 = true := rfl
        have b2 : hasA 1 = false := rfl
        have b3 : hasB 1 = false := rfl
        have hp : partsL 1 = [([], 1), ([], 2), (toW, 4)] := rfl
        rw [b1, b2, b3] at hF
        have HF := fun W => hide (hF W)
        clear hF
        go_upto_region 11 with fail
        refine Calls.mono (HF _).out ?_
        rintro e w4 ⟨rfl, rfl⟩
        go_upto_region 11 with fail
        have hG : GSt w.heap.size g7 wa.heap.size A1 c1 _ ps w (wa.alloc (.cells #[.int .i64 1] 3)) 1 ⟨1, 0, 0, 0, 0, 0⟩ := ⟨hPa.alloc _, hNa.alloc _, Blk.new _ _ _, hRa.alloc _, hZa.alloc _, hBw2.alloc hBw2.size _, hbw, lNa, Nat.le_of_lt hbw, hro.out⟩
        clear hPa hNa hRa hZa hBw2 f0 c0 HF
        generalize wa.alloc (.cells #[.int .i64 1] 3) = wk at hG ⊢
        generalize wa.heap.size = gc at hG ⊢

        have HN := hide (next_any gc g7 1 _ _ _ ps hpsl.out (by omega) wk hG.2.2.1 hG.1 hG.2.2.2.1 hpl9)
        have k1 := hG.cnt.1
        go_upto_region 13 with fail
        refine Calls.mono HN.out ?_
        rintro e w5 ⟨z1, w4, rfl, gz1, nz1, hb4, rfl⟩
        replace hG := hG.take hb4 (1 + 1) rfl
        clear HN hb4 k1
        generalize w4.setCell ⟨gc, 0, none⟩ (.int .i64 ((1 + 1 : Nat) : Int)) = wk at hG ⊢
        have cN := (hG.node 1).1
        have fN := (hG.node 1).2
        have cA := (hG.node 0).1
        simp only [List.getElem?_toArray, List.getElem?_cons_zero, List.getElem?_cons_succ] at cN cA
        go_upto_region 13 with fail
        clear cN fN cA
        replace hG := hG.put 1 z1 ⟨1, z1, 0, 0, 0, 0⟩ rfl
        generalize wk.setCell ⟨g7 + 1, 1, none⟩ (.int .i64 z1) = wk at hG ⊢
        have cA := (hG.node 0).1
        have kA := hG.cnt.1
        have kF := hG.cnt.2
        simp only [List.getElem?_toArray, List.getElem?_cons_zero, List.getElem?_cons_succ] at cA
        have HN := hide (next_any gc g7 2 _ _ _ ps hpsl.out (by omega) wk hG.2.2.1 hG.1 hG.2.2.2.1 hpl9)
        have k1 := hG.cnt.1
        go_upto_region 15 with fail
        refine Calls.mono HN.out ?_
        rintro e w5 ⟨z2, w4, rfl, gz2, nz2, hb4, rfl⟩
        replace hG := hG.take hb4 (2 + 1) rfl
        clear HN hb4 k1
        generalize w4.setCell ⟨gc, 0, none⟩ (.int .i64 ((2 + 1 : Nat) : Int)) = wk at hG ⊢
        have cN := (hG.node 2).1
        have fN := (hG.node 2).2
        have cA := (hG.node 0).1
        simp only [List.getElem?_toArray, List.getElem?_cons_zero, List.getElem?_cons_succ] at cN cA
        go_upto_region 15 with fail
        clear cN fN cA
        replace hG := hG.put 2 z2 ⟨1, z1, z2, 0, 0, 0⟩ rfl
        generalize wk.setCell ⟨g7 + 1, 2, none⟩ (.int .i64 z2) = wk at hG ⊢
        have cA := (hG.node 0).1
        have kA := hG.cnt.1
        have kF := hG.cnt.2
        simp only [List.getElem?_toArray, List.getElem?_cons_zero, List.getElem?_cons_succ] at cA
        go_upto_region 18 with fail
        clear cA kA kF
        replace hG := hG.up 4
        generalize wk.setCell ⟨gc, 0, none⟩ (.int .i64 (4 : Nat)) = wk at hG ⊢
        have cA := (hG.node 0).1
        have kA := hG.cnt.1
        have kF := hG.cnt.2
        simp only [List.getElem?_toArray, List.getElem?_cons_zero, List.getElem?_cons_succ] at cA
        have HN := hide (next_any gc g7 4 _ _ _ ps hpsl.out (by omega) wk hG.2.2.1 hG.1 hG.2.2.2.1 hpl9)
        have k1 := hG.cnt.1
        go_upto_region 20 with fail
        refine Calls.mono HN.out ?_
        rintro e w5 ⟨z4, w4, rfl, gz4, nz4, hb4, rfl⟩
        replace hG := hG.take hb4 (4 + 1) rfl
        clear HN hb4 k1
        generalize w4.setCell ⟨gc, 0, none⟩ (.int .i64 ((4 + 1 : Nat) : Int)) = wk at hG ⊢
        have cN := (hG.node 4).1
        have fN := (hG.node 4).2
        have cA := (hG.node 0).1
        simp only [List.getElem?_toArray, List.getElem?_cons_zero, List.getElem?_cons_succ] at cN cA
        go_upto_region 20 with fail
        clear cN fN cA
        replace hG := hG.put 4 z4 ⟨1, z1, z2, 0, z4, 0⟩ rfl
        generalize wk.setCell ⟨g7 + 1, 4, none⟩ (.int .i64 z4) = wk at hG ⊢
        have cA := (hG.node 0).1
        have kA := hG.cnt.1
        have kF := hG.cnt.2
        simp only [List.getElem?_toArray, List.getElem?_cons_zero, List.getElem?_cons_succ] at cA
        go_upto_region 21 with fail
        clear cA kA kF
        replace hG := hG.up 6
        generalize wk.setCell ⟨gc, 0, none⟩ (.int .i64 (6 : Nat)) = wk at hG ⊢
        have cA := (hG.node 0).1
        have kA := hG.cnt.1
        have kF := hG.cnt.2
        simp only [List.getElem?_toArray, List.getElem?_cons_zero, List.getElem?_cons_succ] at cA
        clear cA kA kF
        have hZ := hG.2.2.2.2.1
        have n0 := (hG.node 0).1
        have n1 := (hG.node 1).1
        have n2 := (hG.node 2).1
        have n3 := (hG.node 3).1
        have n4 := (hG.node 4).1
        have n5 := (hG.node 5).1
        have q0 := hZ.cell 0
        have q1 := hZ.cell 1
        have q2 := hZ.cell 2
        have q3 := hZ.cell 3
        have q4 := hZ.cell 4
        have q5 := hZ.cell 5
        have qf := hZ.frozen 0
        have qf1 := hZ.frozen 1
        have qf2 := hZ.frozen 2
        have qf3 := hZ.frozen 3
        have qf4 := hZ.frozen 4
        have qf5 := hZ.frozen 5
        have lZ := hZ.lt
        have hBk := hG.2.2.2.2.2.1
        simp only [List.getElem?_toArray, List.getElem?_cons_zero, List.getElem?_cons_succ] at n0 n1 n2 n3 n4 n5 q0 q1 q2 q3 q4 q5
        go_wp2_with fail
        refine bodyPost_ret (v := .agg #[.int .i64 1, .int .i64 z1, .int .i64 z2, .int .i64 0, .int .i64 z4, .int .i64 0]) (by simp [results, Tryd.results48, go_sem, q0, q1, q2, q3, q4, q5, World.cell?_setCell_same, World.cell?_setCell_other]; try rfl) rfl ⟨⟨1, z1, z2, 0, z4, 0⟩, rfl, ?_, ?_, (by repeat (first | (with_reducible exact Below.refl _ _) | (with_reducible assumption) | (with_reducible refine Below.drew ?_) | (with_reducible refine below_drewN ?_ _) | (with_reducible refine Below.alloc ?_ (by (try simp only [World.size_alloc, World.size_setCell, World.size_drew, World.heap_drewN]); (first | done | omega | ((try simp only [World.size_alloc, World.size_setCell, World.size_drew, World.heap_drewN] at *); omega))) _) | (with_reducible refine Below.setCell ?_ (by (try simp only [World.size_alloc, World.size_setCell, World.size_drew, World.heap_drewN]); (first | done | omega | ((try simp only [World.size_alloc, World.size_setCell, World.size_drew, World.heap_drewN] at *); omega))) _) | (with_reducible refine Below.trans ?_ (Below.mono (by assumption) (by (try simp only [World.size_alloc, World.size_setCell, World.size_drew, World.heap_drewN]); (first | done | omega | ((try simp only [World.size_alloc, World.size_setCell, World.size_drew, World.heap_drewN] at *); omega)))))))⟩
        · rintro i hi
          rcases i with _ | _ | _ | _ | _ | _ | i
          all_goals first | assumption | exact (by omega : i64ok _) | exact ⟨by simp [Nd.fld], by simp [Nd.fld]⟩ | omega
        · intro m hm hs'
          obtain ⟨ho1, hw1⟩ := guess_words Hps.out Hpc.out HoP.out hm hs'
          have hmo := hm.op
          refine guess_eq hm ho1 hw1 fun i h1 h6 => ?_
          rcases i with _ | _ | _ | _ | _ | _ | i
          all_goals first | omega | (exfalso; omega) | exact .inl ⟨rfl, by simp [hp]⟩ | exact .inr ⟨1, by assumption, fun m hm => by have e : m.op = 1 := hm; simp [wordsL, e, hp, partW, toW, elseW, Nd.fld]⟩ | exact .inr ⟨2, by assumption, fun m hm => by have e : m.op = 1 := hm; simp [wordsL, e, hp, partW, toW, elseW, Nd.fld]⟩ | exact .inr ⟨3, by assumption, fun m hm => by have e : m.op = 1 := hm; simp [wordsL, e, hp, partW, toW, elseW, Nd.fld]⟩ | exact .inr ⟨4, by assumption, fun m hm => by have e : m.op = 1 := hm; simp [wordsL, e, hp, partW, toW, elseW, Nd.fld]⟩ | exact .inr ⟨5, by assumption, fun m hm => by have e : m.op = 1 := hm; simp [wordsL, e, hp, partW, toW, elseW, Nd.fld]⟩
      · subst h
        have b1 : hasD 2 = true := rfl
        have b2 : hasA 2 = true := rfl
        have b3 : hasB 2 = false := rfl
        have hp : partsL 2 = [([], 1), ([], 2), (toW, 4)] := rfl
        rw [b1, b2, b3] at hF
        have HF := fun W => hide (hF W)
        clear hF
        go_upto_region 11 with fail
        refine Calls.mono (HF _).out ?_
        rintro e w4 ⟨rfl, rfl⟩
        go_upto_region 11 with fail
        have hG : GSt w.heap.size g7 wa.heap.size A1 c1 _ ps w (wa.alloc (.cells #[.int .i64 1] 3)) 1 ⟨2, 0, 0, 0, 0, 0⟩ := ⟨hPa.alloc _, hNa.alloc _, Blk.new _ _ _, hRa.alloc _, hZa.alloc _, hBw2.alloc hBw2.size _, hbw, lNa, Nat.le_of_lt hbw, hro.out⟩
        clear hPa hNa hRa hZa hBw2 f0 c0 HF
        generalize wa.alloc (.cells #[.int .i64 1] 3) = wk at hG ⊢
        generalize wa.heap.size = gc at hG ⊢

        have HN := hide (next_any gc g7 1 _ _ _ ps hpsl.out (by omega) wk hG.2.2.1 hG.1 hG.2.2.2.1 hpl9)
        have k1 := hG.cnt.1
        go_upto_region 13 with fail
        refine Calls.mono HN.out ?_
        rintro e w5 ⟨z1, w4, rfl, gz1, nz1, hb4, rfl⟩
        replace hG := hG.take hb4 (1 + 1) rfl
        clear HN hb4 k1
        generalize w4.setCell ⟨gc, 0, none⟩ (.int .i64 ((1 + 1 : Nat) : Int)) = wk at hG ⊢
        have cN := (hG.node 1).1
        have fN := (hG.node 1).2
        have cA := (hG.node 0).1
        simp only [List.getElem?_toArray, List.getElem?_cons_zero, List.getElem?_cons_succ] at cN cA
        go_upto_region 13 with fail
        clear cN fN cA
        replace hG := hG.put 1 z1 ⟨2, z1, 0, 0, 0, 0⟩ rfl
        generalize wk.setCell ⟨g7 + 1, 1, none⟩ (.int .i64 z1) = wk at hG ⊢
        have cA := (hG.node 0).1
        have kA := hG.cnt.1
        have kF := hG.cnt.2
        simp only [List.getElem?_toArray, List.getElem?_cons_zero, List.getElem?_cons_succ] at cA
        have HN := hide (next_any gc g7 2 _ _ _ ps hpsl.out (by omega) wk hG.2.2.1 hG.1 hG.2.2.2.1 hpl9)
        have k1 := hG.cnt.1
        go_upto_region 15 with fail
        refine Calls.mono HN.out ?_
        rintro e w5 ⟨z2, w4, rfl, gz2, nz2, hb4, rfl⟩
        replace hG := hG.take hb4 (2 + 1) rfl
        clear HN hb4 k1
        generalize w4.setCell ⟨gc, 0, none⟩ (.int .i64 ((2 + 1 : Nat) : Int)) = wk at hG ⊢
        have cN := (hG.node 2).1
        have fN := (hG.node 2).2
        have cA := (hG.node 0).1
        simp only [List.getElem?_toArray, List.getElem?_cons_zero, List.getElem?_cons_succ] at cN cA
        go_upto_region 15 with fail
        clear cN fN cA
        replace hG := hG.put 2 z2 ⟨2, z1, z2, 0, 0, 0⟩ rfl
        generalize wk.setCell ⟨g7 + 1, 2, none⟩ (.int .i64 z2) = wk at hG ⊢
        have cA := (hG.node 0).1
        have kA := hG.cnt.1
        have kF := hG.cnt.2
        simp only [List.getElem?_toArray, List.getElem?_cons_zero, List.getElem?_cons_succ] at cA
        go_upto_region 18 with fail
        clear cA kA kF
        replace hG := hG.up 4
        generalize wk.setCell ⟨gc, 0, none⟩ (.int .i64 (4 : Nat)) = wk at hG ⊢
        have cA := (hG.node 0).1
        have kA := hG.cnt.1
        have kF := hG.cnt.2
        simp only [List.getElem?_toArray, List.getElem?_cons_zero, List.getElem?_cons_succ] at cA
        have HN := hide (next_any gc g7 4 _ _ _ ps hpsl.out (by omega) wk hG.2.2.1 hG.1 hG.2.2.2.1 hpl9)
        have k1 := hG.cnt.1
        go_upto_region 20 with fail
        refine Calls.mono HN.out ?_
        rintro e w5 ⟨z4, w4, rfl, gz4, nz4, hb4, rfl⟩
        replace hG := hG.take hb4 (4 + 1) rfl
        clear HN hb4 k1
        generalize w4.setCell ⟨gc, 0, none⟩ (.int .i64 ((4 + 1 : Nat) : Int)) = wk at hG ⊢
        have cN := (hG.node 4).1
        have fN := (hG.node 4).2
        have cA := (hG.node 0).1
        simp only [List.getElem?_toArray, List.getElem?_cons_zero, List.getElem?_cons_succ] at cN cA
        go_upto_region 20 with fail
        clear cN fN cA
        replace hG := hG.put 4 z4 ⟨2, z1, z2, 0, z4, 0⟩ rfl
        generalize wk.setCell ⟨g7 + 1, 4, none⟩ (.int .i64 z4) = wk at hG ⊢
        have cA := (hG.node 0).1
        have kA := hG.cnt.1
        have kF := hG.cnt.2
        simp only [List.getElem?_toArray, List.getElem?_cons_zero, List.getElem?_cons_succ] at cA
        go_upto_region 21 with fail
        clear cA kA kF
        replace hG := hG.up 6
        generalize wk.setCell ⟨gc, 0, none⟩ (.int .i64 (6 : Nat)) = wk at hG ⊢
        have cA := (hG.node 0).1
        have kA := hG.cnt.1
        have kF := hG.cnt.2
        simp only [List.getElem?_toArray, List.getElem?_cons_zero, List.getElem?_cons_succ] at cA
        clear cA kA kF
        have hZ := hG.2.2.2.2.1
        have n0 := (hG.node 0).1
        have n1 := (hG.node 1).1
        have n2 := (hG.node 2).1
        have n3 := (hG.node 3).1
        have n4 := (hG.node 4).1
        have n5 := (hG.node 5).1
        have q0 := hZ.cell 0
        have q1 := hZ.cell 1
        have q2 := hZ.cell 2
        have q3 := hZ.cell 3
        have q4 := hZ.cell 4
        have q5 := hZ.cell 5
        have qf := hZ.frozen 0
        have qf1 := hZ.frozen 1
        have qf2 := hZ.frozen 2
        have qf3 := hZ.frozen 3
        have qf4 := hZ.frozen 4
        have qf5 := hZ.frozen 5
        have lZ := hZ.lt
        have hBk := hG.2.2.2.2.2.1
        simp only [List.getElem?_toArray, List.getElem?_cons_zero, List.getElem?_cons_succ] at n0 n1 n2 n3 n4 n5 q0 q1 q2 q3 q4 q5
        go_wp2_with fail
        refine bodyPost_ret (v := .agg #[.int .i64 2, .int .i64 z1, .int .i64 z2, .int .i64 0, .int .i64 z4, .int .i64 0]) (by simp [results, Tryd.results48, go_sem, q0, q1, q2, q3, q4, q5, World.cell?_setCell_same, World.cell?_setCell_other]; try rfl) rfl ⟨⟨2, z1, z2, 0, z4, 0⟩, rfl, ?_, ?_, (by repeat (first | (with_reducible exact Below.refl _ _) | (with_reducible assumption) | (with_reducible refine Below.drew ?_) | (with_reducible refine below_drewN ?_ _) | (with_reducible refine Below.alloc ?_ (by (try simp only [World.size_alloc, World.size_setCell, World.size_drew, World.heap_drewN]); (first | done | omega | ((try simp only [World.size_alloc, World.size_setCell, World.size_drew, World.heap_drewN] at *); omega))) _) | (with_reducible refine Below.setCell ?_ (by (try simp only [World.size_alloc, World.size_setCell, World.size_drew, World.heap_drewN]); (first | done | omega | ((try simp only [World.size_alloc, World.size_setCell, World.size_drew, World.heap_drewN] at *); omega))) _) | (with_reducible refine Below.trans ?_ (Below.mono (by assumption) (by (try simp only [World.size_alloc, World.size_setCell, World.size_drew, World.heap_drewN]); (first | done | omega | ((try simp only [World.size_alloc, World.size_setCell, World.size_drew, World.heap_drewN] at *); omega)))))))⟩
        · rintro i hi
          rcases i with _ | _ | _ | _ | _ | _ | i
          all_goals first | assumption | exact (by omega : i64ok _) | exact ⟨by simp [Nd.fld], by simp [Nd.fld]⟩ | omega
        · intro m hm hs'
          obtain ⟨ho1, hw1⟩ := guess_words Hps.out Hpc.out HoP.out hm hs'
          have hmo := hm.op
          refine guess_eq hm ho1 hw1 fun i h1 h6 => ?_
          rcases i with _ | _ | _ | _ | _ | _ | i
          all_goals first | omega | (exfalso; omega) | exact .inl ⟨rfl, by simp [hp]⟩ | exact .inr ⟨1, by assumption, fun m hm => by have e : m.op = 2 := hm; simp [wordsL, e, hp, partW, toW, elseW, Nd.fld]⟩ | exact .inr ⟨2, by assumption, fun m hm => by have e : m.op = 2 := hm; simp [wordsL, e, hp, partW, toW, elseW, Nd.fld]⟩ | exact .inr ⟨3, by assumption, fun m hm => by have e : m.op = 2 := hm; simp [wordsL, e, hp, partW, toW, elseW, Nd.fld]⟩ | exact .inr ⟨4, by assumption, fun m hm => by have e : m.op = 2 := hm; simp [wordsL, e, hp, partW, toW, elseW, Nd.fld]⟩ | exact .inr ⟨5, by assumption, fun m hm => by have e : m.op = 2 := hm; simp [wordsL, e, hp, partW, toW, elseW, Nd.fld]⟩
      · obtain ⟨b1, b2, b3, hp, e1, e2, e3⟩ := grp_o h
        clear h
        rw [b1, b2, b3] at hF
        have HF := fun W => hide (hF W)
        clear hF
        go_upto_region 11 with fail
        refine Calls.mono (HF _).out ?_
        rintro e w4 ⟨rfl, rfl⟩
        go_upto_region 11 with fail
        have hG : GSt w.heap.size g7 wa.heap.size A1 c1 _ ps w (wa.alloc (.cells #[.int .i64 1] 3)) 1 ⟨o, 0, 0, 0, 0, 0⟩ := ⟨hPa.alloc _, hNa.alloc _, Blk.new _ _ _, hRa.alloc _, hZa.alloc _, hBw2.alloc hBw2.size _, hbw, lNa, Nat.le_of_lt hbw, hro.out⟩
        clear hPa hNa hRa hZa hBw2 f0 c0 HF
        generalize wa.alloc (.cells #[.int .i64 1] 3) = wk at hG ⊢
        generalize wa.heap.size = gc at hG ⊢

        have HN := hide (next_any gc g7 1 _ _ _ ps hpsl.out (by omega) wk hG.2.2.1 hG.1 hG.2.2.2.1 hpl9)
        have k1 := hG.cnt.1
        go_upto_region 13 with fail
        refine Calls.mono HN.out ?_
        rintro e w5 ⟨z1, w4, rfl, gz1, nz1, hb4, rfl⟩
        replace hG := hG.take hb4 (1 + 1) rfl
        clear HN hb4 k1
        generalize w4.setCell ⟨gc, 0, none⟩ (.int .i64 ((1 + 1 : Nat) : Int)) = wk at hG ⊢
        have cN := (hG.node 1).1
        have fN := (hG.node 1).2
        have cA := (hG.node 0).1
        simp only [List.getElem?_toArray, List.getElem?_cons_zero, List.getElem?_cons_succ] at cN cA
        go_upto_region 13 with fail
        clear cN fN cA
        replace hG := hG.put 1 z1 ⟨o, z1, 0, 0, 0, 0⟩ rfl
        generalize wk.setCell ⟨g7 + 1, 1, none⟩ (.int .i64 z1) = wk at hG ⊢
        have cA := (hG.node 0).1
        have kA := hG.cnt.1
        have kF := hG.cnt.2
        simp only [List.getElem?_toArray, List.getElem?_cons_zero, List.getElem?_cons_succ] at cA
        have HN := hide (next_any gc g7 2 _ _ _ ps hpsl.out (by omega) wk hG.2.2.1 hG.1 hG.2.2.2.1 hpl9)
        have k1 := hG.cnt.1
        go_upto_region 15 with fail
        refine Calls.mono HN.out ?_
        rintro e w5 ⟨z2, w4, rfl, gz2, nz2, hb4, rfl⟩
        replace hG := hG.take hb4 (2 + 1) rfl
        clear HN hb4 k1
        generalize w4.setCell ⟨gc, 0, none⟩ (.int .i64 ((2 + 1 : Nat) : Int)) = wk at hG ⊢
        have cN := (hG.node 2).1
        have fN := (hG.node 2).2
        have cA := (hG.node 0).1
        simp only [List.getElem?_toArray, List.getElem?_cons_zero, List.getElem?_cons_succ] at cN cA
        go_upto_region 15 with fail
        clear cN fN cA
        replace hG := hG.put 2 z2 ⟨o, z1, z2, 0, 0, 0⟩ rfl
        generalize wk.setCell ⟨g7 + 1, 2, none⟩ (.int .i64 z2) = wk at hG ⊢
        have cA := (hG.node 0).1
        have kA := hG.cnt.1
        have kF := hG.cnt.2
        simp only [List.getElem?_toArray, List.getElem?_cons_zero, List.getElem?_cons_succ] at cA
        have HN := hide (next_any gc g7 3 _ _ _ ps hpsl.out (by omega) wk hG.2.2.1 hG.1 hG.2.2.2.1 hpl9)
        have k1 := hG.cnt.1
        go_upto_region 17 with fail
        refine Calls.mono HN.out ?_
        rintro e w5 ⟨z3, w4, rfl, gz3, nz3, hb4, rfl⟩
        replace hG := hG.take hb4 (3 + 1) rfl
        clear HN hb4 k1
        generalize w4.setCell ⟨gc, 0, none⟩ (.int .i64 ((3 + 1 : Nat) : Int)) = wk at hG ⊢
        have cN := (hG.node 3).1
        have fN := (hG.node 3).2
        have cA := (hG.node 0).1
        simp only [List.getElem?_toArray, List.getElem?_cons_zero, List.getElem?_cons_succ] at cN cA
        go_upto_region 17 with fail
        clear cN fN cA
        replace hG := hG.put 3 z3 ⟨o, z1, z2, z3, 0, 0⟩ rfl
        generalize wk.setCell ⟨g7 + 1, 3, none⟩ (.int .i64 z3) = wk at hG ⊢
        have cA := (hG.node 0).1
        have kA := hG.cnt.1
        have kF := hG.cnt.2
        simp only [List.getElem?_toArray, List.getElem?_cons_zero, List.getElem?_cons_succ] at cA
        go_upto_region 18 with fail
        clear cA kA kF
        replace hG := hG.up 5
        generalize wk.setCell ⟨gc, 0, none⟩ (.int .i64 (5 : Nat)) = wk at hG ⊢
        have cA := (hG.node 0).1
        have kA := hG.cnt.1
        have kF := hG.cnt.2
        simp only [List.getElem?_toArray, List.getElem?_cons_zero, List.getElem?_cons_succ] at cA
        have HN := hide (next_any gc g7 5 _ _ _ ps hpsl.out (by omega) wk hG.2.2.1 hG.1 hG.2.2.2.1 hpl9)
        have k1 := hG.cnt.1
        go_upto_region 20 with fail
        refine Calls.mono HN.out ?_
        rintro e w5 ⟨z4, w4, rfl, gz4, nz4, hb4, rfl⟩
        replace hG := hG.take hb4 (5 + 1) rfl
        clear HN hb4 k1
        generalize w4.setCell ⟨gc, 0, none⟩ (.int .i64 ((5 + 1 : Nat) : Int)) = wk at hG ⊢
        have cN := (hG.node 4).1
        have fN := (hG.node 4).2
        have cA := (hG.node 0).1
        simp only [List.getElem?_toArray, List.getElem?_cons_zero, List.getElem?_cons_succ] at cN cA
        go_upto_region 20 with fail
        clear cN fN cA
        replace hG := hG.put 4 z4 ⟨o, z1, z2, z3, z4, 0⟩ rfl
        generalize wk.setCell ⟨g7 + 1, 4, none⟩ (.int .i64 z4) = wk at hG ⊢
        have cA := (hG.node 0).1
        have kA := hG.cnt.1
        have kF := hG.cnt.2
        simp only [List.getElem?_toArray, List.getElem?_cons_zero, List.getElem?_cons_succ] at cA
        go_upto_region 21 with fail
        clear cA kA kF
        replace hG := hG.up 7
        generalize wk.setCell ⟨gc, 0, none⟩ (.int .i64 (7 : Nat)) = wk at hG ⊢
        have cA := (hG.node 0).1
        have kA := hG.cnt.1
        have kF := hG.cnt.2
        simp only [List.getElem?_toArray, List.getElem?_cons_zero, List.getElem?_cons_succ] at cA
        clear cA kA kF
        have hZ := hG.2.2.2.2.1
        have n0 := (hG.node 0).1
        have n1 := (hG.node 1).1
        have n2 := (hG.node 2).1
        have n3 := (hG.node 3).1
        have n4 := (hG.node 4).1
        have n5 := (hG.node 5).1
        have q0 := hZ.cell 0
        have q1 := hZ.cell 1
        have q2 := hZ.cell 2
        have q3 := hZ.cell 3
        have q4 := hZ.cell 4
        have q5 := hZ.cell 5
        have qf := hZ.frozen 0
        have qf1 := hZ.frozen 1
        have qf2 := hZ.frozen 2
        have qf3 := hZ.frozen 3
        have qf4 := hZ.frozen 4
        have qf5 := hZ.frozen 5
        have lZ := hZ.lt
        have hBk := hG.2.2.2.2.2.1
        simp only [List.getElem?_toArray, List.getElem?_cons_zero, List.getElem?_cons_succ] at n0 n1 n2 n3 n4 n5 q0 q1 q2 q3 q4 q5
        go_wp2_with fail
        refine bodyPost_ret (v := .agg #[.int .i64 o, .int .i64 z1, .int .i64 z2, .int .i64 z3, .int .i64 z4, .int .i64 0]) (by simp [results, Tryd.results48, go_sem, q0, q1, q2, q3, q4, q5, World.cell?_setCell_same, World.cell?_setCell_other]; try rfl) rfl ⟨⟨o, z1, z2, z3, z4, 0⟩, rfl, ?_, ?_, (by repeat (first | (with_reducible exact Below.refl _ _) | (with_reducible assumption) | (with_reducible refine Below.drew ?_) | (with_reducible refine below_drewN ?_ _) | (with_reducible refine Below.alloc ?_ (by (try simp only [World.size_alloc, World.size_setCell, World.size_drew, World.heap_drewN]); (first | done | omega | ((try simp only [World.size_alloc, World.size_setCell, World.size_drew, World.heap_drewN] at *); omega))) _) | (with_reducible refine Below.setCell ?_ (by (try simp only [World.size_alloc, World.size_setCell, World.size_drew, World.heap_drewN]); (first | done | omega | ((try simp only [World.size_alloc, World.size_setCell, World.size_drew, World.heap_drewN] at *); omega))) _) | (with_reducible refine Below.trans ?_ (Below.mono (by assumption) (by (try simp only [World.size_alloc, World.size_setCell, World.size_drew, World.heap_drewN]); (first | done | omega | ((try simp only [World.size_alloc, World.size_setCell, World.size_drew, World.heap_drewN] at *); omega)))))))⟩
        · rintro i hi
          rcases i with _ | _ | _ | _ | _ | _ | i
          all_goals first | assumption | exact (by omega : i64ok _) | exact ⟨by simp [Nd.fld], by simp [Nd.fld]⟩ | omega
        · intro m hm hs'
          obtain ⟨ho1, hw1⟩ := guess_words Hps.out Hpc.out HoP.out hm hs'
          have hmo := hm.op
          refine guess_eq hm ho1 hw1 fun i h1 h6 => ?_
          rcases i with _ | _ | _ | _ | _ | _ | i
          all_goals first | omega | (exfalso; omega) | exact .inl ⟨rfl, by simp [hp]⟩ | exact .inr ⟨1, by assumption, fun m hm => by have e : m.op = o := hm; simp [wordsL, e, hp, partW, toW, elseW, Nd.fld]⟩ | exact .inr ⟨2, by assumption, fun m hm => by have e : m.op = o := hm; simp [wordsL, e, hp, partW, toW, elseW, Nd.fld]⟩ | exact .inr ⟨3, by assumption, fun m hm => by have e : m.op = o := hm; simp [wordsL, e, hp, partW, toW, elseW, Nd.fld]⟩ | exact .inr ⟨4, by assumption, fun m hm => by have e : m.op = o := hm; simp [wordsL, e, hp, partW, toW, elseW, Nd.fld]⟩ | exact .inr ⟨5, by assumption, fun m hm => by have e : m.op = o := hm; simp [wordsL, e, hp, partW, toW, elseW, Nd.fld]⟩
      · subst h
        have b1 : hasD 9 = true := rfl
        have b2 : hasA 9 = false := rfl
        have b3 : hasB 9 = false := rfl
        have hp : partsL 9 = [([], 1), (toW, 4)] := rfl
        rw [b1, b2, b3] at hF
        have HF := fun W => hide (hF W)
        clear hF
        go_upto_region 11 with fail
        refine Calls.mono (HF _).out ?_
        rintro e w4 ⟨rfl, rfl⟩
        go_upto_region 11 with fail
        have hG : GSt w.heap.size g7 wa.heap.size A1 c1 _ ps w (wa.alloc (.cells #[.int .i64 1] 3)) 1 ⟨9, 0, 0, 0, 0, 0⟩ := ⟨hPa.alloc _, hNa.alloc _, Blk.new _ _ _, hRa.alloc _, hZa.alloc _, hBw2.alloc hBw2.size _, hbw, lNa, Nat.le_of_lt hbw, hro.out⟩
        clear hPa hNa hRa hZa hBw2 f0 c0 HF
        generalize wa.alloc (.cells #[.int .i64 1] 3) = wk at hG ⊢
        generalize wa.heap.size = gc at hG ⊢

        have HN := hide (next_any gc g7 1 _ _ _ ps hpsl.out (by omega) wk hG.2.2.1 hG.1 hG.2.2.2.1 hpl9)
        have k1 := hG.cnt.1
        go_upto_region 13 with fail
        refine Calls.mono HN.out ?_
        rintro e w5 ⟨z1, w4, rfl, gz1, nz1, hb4, rfl⟩
        replace hG := hG.take hb4 (1 + 1) rfl
        clear HN hb4 k1
        generalize w4.setCell ⟨gc, 0, none⟩ (.int .i64 ((1 + 1 : Nat) : Int)) = wk at hG ⊢
        have cN := (hG.node 1).1
        have fN := (hG.node 1).2
        have cA := (hG.node 0).1
        simp only [List.getElem?_toArray, List.getElem?_cons_zero, List.getElem?_cons_succ] at cN cA
        go_upto_region 13 with fail
        clear cN fN cA
        replace hG := hG.put 1 z1 ⟨9, z1, 0, 0, 0, 0⟩ rfl
        generalize wk.setCell ⟨g7 + 1, 1, none⟩ (.int .i64 z1) = wk at hG ⊢
        have cA := (hG.node 0).1
        have kA := hG.cnt.1
        have kF := hG.cnt.2
        simp only [List.getElem?_toArray, List.getElem?_cons_zero, List.getElem?_cons_succ] at cA
        go_upto_region 18 with fail
        clear cA kA kF
        replace hG := hG.up 3
        generalize wk.setCell ⟨gc, 0, none⟩ (.int .i64 (3 : Nat)) = wk at hG ⊢
        have cA := (hG.node 0).1
        have kA := hG.cnt.1
        have kF := hG.cnt.2
        simp only [List.getElem?_toArray, List.getElem?_cons_zero, List.getElem?_cons_succ] at cA
        have HN := hide (next_any gc g7 3 _ _ _ ps hpsl.out (by omega) wk hG.2.2.1 hG.1 hG.2.2.2.1 hpl9)
        have k1 := hG.cnt.1
        go_upto_region 20 with fail
        refine Calls.mono HN.out ?_
        rintro e w5 ⟨z4, w4, rfl, gz4, nz4, hb4, rfl⟩
        replace hG := hG.take hb4 (3 + 1) rfl
        clear HN hb4 k1
        generalize w4.setCell ⟨gc, 0, none⟩ (.int .i64 ((3 + 1 : Nat) : Int)) = wk at hG ⊢
        have cN := (hG.node 4).1
        have fN := (hG.node 4).2
        have cA := (hG.node 0).1
        simp only [List.getElem?_toArray, List.getElem?_cons_zero, List.getElem?_cons_succ] at cN cA
        go_upto_region 20 with fail
        clear cN fN cA
        replace hG := hG.put 4 z4 ⟨9, z1, 0, 0, z4, 0⟩ rfl
        generalize wk.setCell ⟨g7 + 1, 4, none⟩ (.int .i64 z4) = wk at hG ⊢
        have cA := (hG.node 0).1
        have kA := hG.cnt.1
        have kF := hG.cnt.2
        simp only [List.getElem?_toArray, List.getElem?_cons_zero, List.getElem?_cons_succ] at cA
        go_upto_region 21 with fail
        clear cA kA kF
        replace hG := hG.up 5
        generalize wk.setCell ⟨gc, 0, none⟩ (.int .i64 (5 : Nat)) = wk at hG ⊢
        have cA := (hG.node 0).1
        have kA := hG.cnt.1
        have kF := hG.cnt.2
        simp only [List.getElem?_toArray, List.getElem?_cons_zero, List.getElem?_cons_succ] at cA
        clear cA kA kF
        have hZ := hG.2.2.2.2.1
        have n0 := (hG.node 0).1
        have n1 := (hG.node 1).1
        have n2 := (hG.node 2).1
        have n3 := (hG.node 3).1
        have n4 := (hG.node 4).1
        have n5 := (hG.node 5).1
        have q0 := hZ.cell 0
        have q1 := hZ.cell 1
        have q2 := hZ.cell 2
        have q3 := hZ.cell 3
        have q4 := hZ.cell 4
        have q5 := hZ.cell 5
        have qf := hZ.frozen 0
        have qf1 := hZ.frozen 1
        have qf2 := hZ.frozen 2
        have qf3 := hZ.frozen 3
        have qf4 := hZ.frozen 4
        have qf5 := hZ.frozen 5
        have lZ := hZ.lt
        have hBk := hG.2.2.2.2.2.1
        simp only [List.getElem?_toArray, List.getElem?_cons_zero, List.getElem?_cons_succ] at n0 n1 n2 n3 n4 n5 q0 q1 q2 q3 q4 q5
        go_wp2_with fail
        refine bodyPost_ret (v := .agg #[.int .i64 9, .int .i64 z1, .int .i64 0, .int .i64 0, .int .i64 z4, .int .i64 0]) (by simp [results, Tryd.results48, go_sem, q0, q1, q2, q3, q4, q5, World.cell?_setCell_same, World.cell?_setCell_other]; try rfl) rfl ⟨⟨9, z1, 0, 0, z4, 0⟩, rfl, ?_, ?_, (by repeat (first | (with_reducible exact Below.refl _ _) | (with_reducible assumption) | (with_reducible refine Below.drew ?_) | (with_reducible refine below_drewN ?_ _) | (with_reducible refine Below.alloc ?_ (by (try simp only [World.size_alloc, World.size_setCell, World.size_drew, World.heap_drewN]); (first | done | omega | ((try simp only [World.size_alloc, World.size_setCell, World.size_drew, World.heap_drewN] at *); omega))) _) | (with_reducible refine Below.setCell ?_ (by (try simp only [World.size_alloc, World.size_setCell, World.size_drew, World.heap_drewN]); (first | done | omega | ((try simp only [World.size_alloc, World.size_setCell, World.size_drew, World.heap_drewN] at *); omega))) _) | (with_reducible refine Below.trans ?_ (Below.mono (by assumption) (by (try simp only [World.size_alloc, World.size_setCell, World.size_drew, World.heap_drewN]); (first | done | omega | ((try simp only [World.size_alloc, World.size_setCell, World.size_drew, World.heap_drewN] at *); omega)))))))⟩
        · rintro i hi
          rcases i with _ | _ | _ | _ | _ | _ | i
          all_goals first | assumption | exact (by omega : i64ok _) | exact ⟨by simp [Nd.fld], by simp [Nd.fld]⟩ | omega
        · intro m hm hs'
          obtain ⟨ho1, hw1⟩ := guess_words Hps.out Hpc.out HoP.out hm hs'
          have hmo := hm.op
          refine guess_eq hm ho1 hw1 fun i h1 h6 => ?_
          rcases i with _ | _ | _ | _ | _ | _ | i
          all_goals first | omega | (exfalso; omega) | exact .inl ⟨rfl, by simp [hp]⟩ | exact .inr ⟨1, by assumption, fun m hm => by have e : m.op = 9 := hm; simp [wordsL, e, hp, partW, toW, elseW, Nd.fld]⟩ | exact .inr ⟨2, by assumption, fun m hm => by have e : m.op = 9 := hm; simp [wordsL, e, hp, partW, toW, elseW, Nd.fld]⟩ | exact .inr ⟨3, by assumption, fun m hm => by have e : m.op = 9 := hm; simp [wordsL, e, hp, partW, toW, elseW, Nd.fld]⟩ | exact .inr ⟨4, by assumption, fun m hm => by have e : m.op = 9 := hm; simp [wordsL, e, hp, partW, toW, elseW, Nd.fld]⟩ | exact .inr ⟨5, by assumption, fun m hm => by have e : m.op = 9 := hm; simp [wordsL, e, hp, partW, toW, elseW, Nd.fld]⟩
      · subst h
        have b1 : hasD 10 = false := rfl
        have b2 : hasA 10 = true := rfl
        have b3 : hasB 10 = false := rfl
        have hp : partsL 10 = [([], 2), (toW, 4)] := rfl
        rw [b1, b2, b3] at hF
        have HF := fun W => hide (hF W)
        clear hF
        go_upto_region 11 with fail
        refine Calls.mono (HF _).out ?_
        rintro e w4 ⟨rfl, rfl⟩
        go_upto_region 11 with fail
        have hG : GSt w.heap.size g7 wa.heap.size A1 c1 _ ps w (wa.alloc (.cells #[.int .i64 1] 3)) 1 ⟨10, 0, 0, 0, 0, 0⟩ := ⟨hPa.alloc _, hNa.alloc _, Blk.new _ _ _, hRa.alloc _, hZa.alloc _, hBw2.alloc hBw2.size _, hbw, lNa, Nat.le_of_lt hbw, hro.out⟩
        clear hPa hNa hRa hZa hBw2 f0 c0 HF
        generalize wa.alloc (.cells #[.int .i64 1] 3) = wk at hG ⊢
        generalize wa.heap.size = gc at hG ⊢

        have HN := hide (next_any gc g7 1 _ _ _ ps hpsl.out (by omega) wk hG.2.2.1 hG.1 hG.2.2.2.1 hpl9)
        have k1 := hG.cnt.1
        go_upto_region 15 with fail
        refine Calls.mono HN.out ?_
        rintro e w5 ⟨z2, w4, rfl, gz2, nz2, hb4, rfl⟩
        replace hG := hG.take hb4 (1 + 1) rfl
        clear HN hb4 k1
        generalize w4.setCell ⟨gc, 0, none⟩ (.int .i64 ((1 + 1 : Nat) : Int)) = wk at hG ⊢
        have cN := (hG.node 2).1
        have fN := (hG.node 2).2
        have cA := (hG.node 0).1
        simp only [List.getElem?_toArray, List.getElem?_cons_zero, List.getElem?_cons_succ] at cN cA
        go_upto_region 15 with fail
        clear cN fN cA
        replace hG := hG.put 2 z2 ⟨10, 0, z2, 0, 0, 0⟩ rfl
        generalize wk.setCell ⟨g7 + 1, 2, none⟩ (.int .i64 z2) = wk at hG ⊢
        have cA := (hG.node 0).1
        have kA := hG.cnt.1
        have kF := hG.cnt.2
        simp only [List.getElem?_toArray, List.getElem?_cons_zero, List.getElem?_cons_succ] at cA
        go_upto_region 18 with fail
        clear cA kA kF
        replace hG := hG.up 3
        generalize wk.setCell ⟨gc, 0, none⟩ (.int .i64 (3 : Nat)) = wk at hG ⊢
        have cA := (hG.node 0).1
        have kA := hG.cnt.1
        have kF := hG.cnt.2
        simp only [List.getElem?_toArray, List.getElem?_cons_zero, List.getElem?_cons_succ] at cA
        have HN := hide (next_any gc g7 3 _ _ _ ps hpsl.out (by omega) wk hG.2.2.1 hG.1 hG.2.2.2.1 hpl9)
        have k1 := hG.cnt.1
        go_upto_region 20 with fail
        refine Calls.mono HN.out ?_
        rintro e w5 ⟨z4, w4, rfl, gz4, nz4, hb4, rfl⟩
        replace hG := hG.take hb4 (3 + 1) rfl
        clear HN hb4 k1
        generalize w4.setCell ⟨gc, 0, none⟩ (.int .i64 ((3 + 1 : Nat) : Int)) = wk at hG ⊢
        have cN := (hG.node 4).1
        have fN := (hG.node 4).2
        have cA := (hG.node 0).1
        simp only [List.getElem?_toArray, List.getElem?_cons_zero, List.getElem?_cons_succ] at cN cA
        go_upto_region 20 with fail
        clear cN fN cA
        replace hG := hG.put 4 z4 ⟨10, 0, z2, 0, z4, 0⟩ rfl
        generalize wk.setCell ⟨g7 + 1, 4, none⟩ (.int .i64 z4) = wk at hG ⊢
        have cA := (hG.node 0).1
        have kA := hG.cnt.1
        have kF := hG.cnt.2
        simp only [List.getElem?_toArray, List.getElem?_cons_zero, List.getElem?_cons_succ] at cA
        go_upto_region 21 with fail
        clear cA kA kF
        replace hG := hG.up 5
        generalize wk.setCell ⟨gc, 0, none⟩ (.int .i64 (5 : Nat)) = wk at hG ⊢
        have cA := (hG.node 0).1
        have kA := hG.cnt.1
        have kF := hG.cnt.2
        simp only [List.getElem?_toArray, List.getElem?_cons_zero, List.getElem?_cons_succ] at cA
        clear cA kA kF
        have hZ := hG.2.2.2.2.1
        have n0 := (hG.node 0).1
        have n1 := (hG.node 1).1
        have n2 := (hG.node 2).1
        have n3 := (hG.node 3).1
        have n4 := (hG.node 4).1
        have n5 := (hG.node 5).1
        have q0 := hZ.cell 0
        have q1 := hZ.cell 1
        have q2 := hZ.cell 2
        have q3 := hZ.cell 3
        have q4 := hZ.cell 4
        have q5 := hZ.cell 5
        have qf := hZ.frozen 0
        have qf1 := hZ.frozen 1
        have qf2 := hZ.frozen 2
        have qf3 := hZ.frozen 3
        have qf4 := hZ.frozen 4
        have qf5 := hZ.frozen 5
        have lZ := hZ.lt
        have hBk := hG.2.2.2.2.2.1
        simp only [List.getElem?_toArray, List.getElem?_cons_zero, List.getElem?_cons_succ] at n0 n1 n2 n3 n4 n5 q0 q1 q2 q3 q4 q5
        go_wp2_with fail
        refine bodyPost_ret (v := .agg #[.int .i64 10, .int .i64 0, .int .i64 z2, .int .i64 0, .int .i64 z4, .int .i64 0]) (by simp [results, Tryd.results48, go_sem, q0, q1, q2, q3, q4, q5, World.cell?_setCell_same, World.cell?_setCell_other]; try rfl) rfl ⟨⟨10, 0, z2, 0, z4, 0⟩, rfl, ?_, ?_, (by repeat (first | (with_reducible exact Below.refl _ _) | (with_reducible assumption) | (with_reducible refine Below.drew ?_) | (with_reducible refine below_drewN ?_ _) | (with_reducible refine Below.alloc ?_ (by (try simp only [World.size_alloc, World.size_setCell, World.size_drew, World.heap_drewN]); (first | done | omega | ((try simp only [World.size_alloc, World.size_setCell, World.size_drew, World.heap_drewN] at *); omega))) _) | (with_reducible refine Below.setCell ?_ (by (try simp only [World.size_alloc, World.size_setCell, World.size_drew, World.heap_drewN]); (first | done | omega | ((try simp only [World.size_alloc, World.size_setCell, World.size_drew, World.heap_drewN] at *); omega))) _) | (with_reducible refine Below.trans ?_ (Below.mono (by assumption) (by (try simp only [World.size_alloc, World.size_setCell, World.size_drew, World.heap_drewN]); (first | done | omega | ((try simp only [World.size_alloc, World.size_setCell, World.size_drew, World.heap_drewN] at *); omega)))))))⟩
        · rintro i hi
          rcases i with _ | _ | _ | _ | _ | _ | i
          all_goals first | assumption | exact (by omega : i64ok _) | exact ⟨by simp [Nd.fld], by simp [Nd.fld]⟩ | omega
        · intro m hm hs'
          obtain ⟨ho1, hw1⟩ := guess_words Hps.out Hpc.out HoP.out hm hs'
          have hmo := hm.op
          refine guess_eq hm ho1 hw1 fun i h1 h6 => ?_
          rcases i with _ | _ | _ | _ | _ | _ | i
          all_goals first | omega | (exfalso; omega) | exact .inl ⟨rfl, by simp [hp]⟩ | exact .inr ⟨1, by assumption, fun m hm => by have e : m.op = 10 := hm; simp [wordsL, e, hp, partW, toW, elseW, Nd.fld]⟩ | exact .inr ⟨2, by assumption, fun m hm => by have e : m.op = 10 := hm; simp [wordsL, e, hp, partW, toW, elseW, Nd.fld]⟩ | exact .inr ⟨3, by assumption, fun m hm => by have e : m.op = 10 := hm; simp [wordsL, e, hp, partW, toW, elseW, Nd.fld]⟩ | exact .inr ⟨4, by assumption, fun m hm => by have e : m.op = 10 := hm; simp [wordsL, e, hp, partW, toW, elseW, Nd.fld]⟩ | exact .inr ⟨5, by assumption, fun m hm => by have e : m.op = 10 := hm; simp [wordsL, e, hp, partW, toW, elseW, Nd.fld]⟩
      · subst h
        have b1 : hasD 11 = false := rfl
        have b2 : hasA 11 = true := rfl
        have b3 : hasB 11 = false := rfl
        have hp : partsL 11 = [([], 2), (toW, 4), (elseW, 5)] := rfl
        rw [b1, b2, b3] at hF
        have HF := fun W => hide (hF W)
        clear hF
        go_upto_region 11 with fail
        refine Calls.mono (HF _).out ?_
        rintro e w4 ⟨rfl, rfl⟩
        go_upto_region 11 with fail
        have hG : GSt w.heap.size g7 wa.heap.size A1 c1 _ ps w (wa.alloc (.cells #[.int .i64 1] 3)) 1 ⟨11, 0, 0, 0, 0, 0⟩ := ⟨hPa.alloc _, hNa.alloc _, Blk.new _ _ _, hRa.alloc _, hZa.alloc _, hBw2.alloc hBw2.size _, hbw, lNa, Nat.le_of_lt hbw, hro.out⟩
        clear hPa hNa hRa hZa hBw2 f0 c0 HF
        generalize wa.alloc (.cells #[.int .i64 1] 3) = wk at hG ⊢
        generalize wa.heap.size = gc at hG ⊢

        have HN := hide (next_any gc g7 1 _ _ _ ps hpsl.out (by omega) wk hG.2.2.1 hG.1 hG.2.2.2.1 hpl9)
        have k1 := hG.cnt.1
        go_upto_region 15 with fail
        refine Calls.mono HN.out ?_
        rintro e w5 ⟨z2, w4, rfl, gz2, nz2, hb4, rfl⟩
        replace hG := hG.take hb4 (1 + 1) rfl
        clear HN hb4 k1
        generalize w4.setCell ⟨gc, 0, none⟩ (.int .i64 ((1 + 1 : Nat) : Int)) = wk at hG ⊢
        have cN := (hG.node 2).1
        have fN := (hG.node 2).2
        have cA := (hG.node 0).1
        simp only [List.getElem?_toArray, List.getElem?_cons_zero, List.getElem?_cons_succ] at cN cA
        go_upto_region 15 with fail
        clear cN fN cA
        replace hG := hG.put 2 z2 ⟨11, 0, z2, 0, 0, 0⟩ rfl
        generalize wk.setCell ⟨g7 + 1, 2, none⟩ (.int .i64 z2) = wk at hG ⊢
        have cA := (hG.node 0).1
        have kA := hG.cnt.1
        have kF := hG.cnt.2
        simp only [List.getElem?_toArray, List.getElem?_cons_zero, List.getElem?_cons_succ] at cA
        go_upto_region 18 with fail
        clear cA kA kF
        replace hG := hG.up 3
        generalize wk.setCell ⟨gc, 0, none⟩ (.int .i64 (3 : Nat)) = wk at hG ⊢
        have cA := (hG.node 0).1
        have kA := hG.cnt.1
        have kF := hG.cnt.2
        simp only [List.getElem?_toArray, List.getElem?_cons_zero, List.getElem?_cons_succ] at cA
        have HN := hide (next_any gc g7 3 _ _ _ ps hpsl.out (by omega) wk hG.2.2.1 hG.1 hG.2.2.2.1 hpl9)
        have k1 := hG.cnt.1
        go_upto_region 20 with fail
        refine Calls.mono HN.out ?_
        rintro e w5 ⟨z4, w4, rfl, gz4, nz4, hb4, rfl⟩
        replace hG := hG.take hb4 (3 + 1) rfl
        clear HN hb4 k1
        generalize w4.setCell ⟨gc, 0, none⟩ (.int .i64 ((3 + 1 : Nat) : Int)) = wk at hG ⊢
        have cN := (hG.node 4).1
        have fN := (hG.node 4).2
        have cA := (hG.node 0).1
        simp only [List.getElem?_toArray, List.getElem?_cons_zero, List.getElem?_cons_succ] at cN cA
        go_upto_region 20 with fail
        clear cN fN cA
        replace hG := hG.put 4 z4 ⟨11, 0, z2, 0, z4, 0⟩ rfl
        generalize wk.setCell ⟨g7 + 1, 4, none⟩ (.int .i64 z4) = wk at hG ⊢
        have cA := (hG.node 0).1
        have kA := hG.cnt.1
        have kF := hG.cnt.2
        simp only [List.getElem?_toArray, List.getElem?_cons_zero, List.getElem?_cons_succ] at cA
        go_upto_region 21 with fail
        clear cA kA kF
        replace hG := hG.up 5
        generalize wk.setCell ⟨gc, 0, none⟩ (.int .i64 (5 : Nat)) = wk at hG ⊢
        have cA := (hG.node 0).1
        have kA := hG.cnt.1
        have kF := hG.cnt.2
        simp only [List.getElem?_toArray, List.getElem?_cons_zero, List.getElem?_cons_succ] at cA
        have HN := hide (next_any gc g7 5 _ _ _ ps hpsl.out (by omega) wk hG.2.2.1 hG.1 hG.2.2.2.1 hpl9)
        have k1 := hG.cnt.1
        go_upto_region 23 with fail
        refine Calls.mono HN.out ?_
        rintro e w5 ⟨z5, w4, rfl, gz5, nz5, hb4, rfl⟩
        replace hG := hG.take hb4 (5 + 1) rfl
        clear HN hb4 k1
        generalize w4.setCell ⟨gc, 0, none⟩ (.int .i64 ((5 + 1 : Nat) : Int)) = wk at hG ⊢
        have cN := (hG.node 5).1
        have fN := (hG.node 5).2
        have cA := (hG.node 0).1
        simp only [List.getElem?_toArray, List.getElem?_cons_zero, List.getElem?_cons_succ] at cN cA
        go_upto_region 23 with fail
        clear cN fN cA
        replace hG := hG.put 5 z5 ⟨11, 0, z2, 0, z4, z5⟩ rfl
        generalize wk.setCell ⟨g7 + 1, 5, none⟩ (.int .i64 z5) = wk at hG ⊢
        have cA := (hG.node 0).1
        have kA := hG.cnt.1
        have kF := hG.cnt.2
        simp only [List.getElem?_toArray, List.getElem?_cons_zero, List.getElem?_cons_succ] at cA
        clear cA kA kF
        have hZ := hG.2.2.2.2.1
        have n0 := (hG.node 0).1
        have n1 := (hG.node 1).1
        have n2 := (hG.node 2).1
        have n3 := (hG.node 3).1
        have n4 := (hG.node 4).1
        have n5 := (hG.node 5).1
        have q0 := hZ.cell 0
        have q1 := hZ.cell 1
        have q2 := hZ.cell 2
        have q3 := hZ.cell 3
        have q4 := hZ.cell 4
        have q5 := hZ.cell 5
        have qf := hZ.frozen 0
        have qf1 := hZ.frozen 1
        have qf2 := hZ.frozen 2
        have qf3 := hZ.frozen 3
        have qf4 := hZ.frozen 4
        have qf5 := hZ.frozen 5
        have lZ := hZ.lt
        have hBk := hG.2.2.2.2.2.1
        simp only [List.getElem?_toArray, List.getElem?_cons_zero, List.getElem?_cons_succ] at n0 n1 n2 n3 n4 n5 q0 q1 q2 q3 q4 q5
        go_wp2_with fail
        refine bodyPost_ret (v := .agg #[.int .i64 11, .int .i64 0, .int .i64 z2, .int .i64 0, .int .i64 z4, .int .i64 z5]) (by simp [results, Tryd.results48, go_sem, q0, q1, q2, q3, q4, q5, World.cell?_setCell_same, World.cell?_setCell_other]; try rfl) rfl ⟨⟨11, 0, z2, 0, z4, z5⟩, rfl, ?_, ?_, (by repeat (first | (with_reducible exact Below.refl _ _) | (with_reducible assumption) | (with_reducible refine Below.drew ?_) | (with_reducible refine below_drewN ?_ _) | (with_reducible refine Below.alloc ?_ (by (try simp only [World.size_alloc, World.size_setCell, World.size_drew, World.heap_drewN]); (first | done | omega | ((try simp only [World.size_alloc, World.size_setCell, World.size_drew, World.heap_drewN] at *); omega))) _) | (with_reducible refine Below.setCell ?_ (by (try simp only [World.size_alloc, World.size_setCell, World.size_drew, World.heap_drewN]); (first | done | omega | ((try simp only [World.size_alloc, World.size_setCell, World.size_drew, World.heap_drewN] at *); omega))) _) | (with_reducible refine Below.trans ?_ (Below.mono (by assumption) (by (try simp only [World.size_alloc, World.size_setCell, World.size_drew, World.heap_drewN]); (first | done | omega | ((try simp only [World.size_alloc, World.size_setCell, World.size_drew, World.heap_drewN] at *); omega)))))))⟩
        · rintro i hi
          rcases i with _ | _ | _ | _ | _ | _ | i
          all_goals first | assumption | exact (by omega : i64ok _) | exact ⟨by simp [Nd.fld], by simp [Nd.fld]⟩ | omega
        · intro m hm hs'
          obtain ⟨ho1, hw1⟩ := guess_words Hps.out Hpc.out HoP.out hm hs'
          have hmo := hm.op
          refine guess_eq hm ho1 hw1 fun i h1 h6 => ?_
          rcases i with _ | _ | _ | _ | _ | _ | i
          all_goals first | omega | (exfalso; omega) | exact .inl ⟨rfl, by simp [hp]⟩ | exact .inr ⟨1, by assumption, fun m hm => by have e : m.op = 11 := hm; simp [wordsL, e, hp, partW, toW, elseW, Nd.fld]⟩ | exact .inr ⟨2, by assumption, fun m hm => by have e : m.op = 11 := hm; simp [wordsL, e, hp, partW, toW, elseW, Nd.fld]⟩ | exact .inr ⟨3, by assumption, fun m hm => by have e : m.op = 11 := hm; simp [wordsL, e, hp, partW, toW, elseW, Nd.fld]⟩ | exact .inr ⟨4, by assumption, fun m hm => by have e : m.op = 11 := hm; simp [wordsL, e, hp, partW, toW, elseW, Nd.fld]⟩ | exact .inr ⟨5, by assumption, fun m hm => by have e : m.op = 11 := hm; simp [wordsL, e, hp, partW, toW, elseW, Nd.fld]⟩
      · subst h
        have b1 : hasD 12 = false := rfl
        have b2 : hasA 12 = true := rfl
        have b3 : hasB 12 = false := rfl
        have hp : partsL 12 = [([], 2)] := rfl
        rw [b1, b2, b3] at hF
        have HF := fun W => hide (hF W)
        clear hF
        go_upto_region 11 with fail
        refine Calls.mono (HF _).out ?_
        rintro e w4 ⟨rfl, rfl⟩
        go_upto_region 11 with fail
        have hG : GSt w.heap.size g7 wa.heap.size A1 c1 _ ps w (wa.alloc (.cells #[.int .i64 1] 3)) 1 ⟨12, 0, 0, 0, 0, 0⟩ := ⟨hPa.alloc _, hNa.alloc _, Blk.new _ _ _, hRa.alloc _, hZa.alloc _, hBw2.alloc hBw2.size _, hbw, lNa, Nat.le_of_lt hbw, hro.out⟩
        clear hPa hNa hRa hZa hBw2 f0 c0 HF
        generalize wa.alloc (.cells #[.int .i64 1] 3) = wk at hG ⊢
        generalize wa.heap.size = gc at hG ⊢

        have HN := hide (next_any gc g7 1 _ _ _ ps hpsl.out (by omega) wk hG.2.2.1 hG.1 hG.2.2.2.1 hpl9)
        have k1 := hG.cnt.1
        go_upto_region 15 with fail
        refine Calls.mono HN.out ?_
        rintro e w5 ⟨z2, w4, rfl, gz2, nz2, hb4, rfl⟩
        replace hG := hG.take hb4 (1 + 1) rfl
        clear HN hb4 k1
        generalize w4.setCell ⟨gc, 0, none⟩ (.int .i64 ((1 + 1 : Nat) : Int)) = wk at hG ⊢
        have cN := (hG.node 2).1
        have fN := (hG.node 2).2
        have cA := (hG.node 0).1
        simp only [List.getElem?_toArray, List.getElem?_cons_zero, List.getElem?_cons_succ] at cN cA
        go_upto_region 15 with fail
        clear cN fN cA
        replace hG := hG.put 2 z2 ⟨12, 0, z2, 0, 0, 0⟩ rfl
        generalize wk.setCell ⟨g7 + 1, 2, none⟩ (.int .i64 z2) = wk at hG ⊢
        have cA := (hG.node 0).1
        have kA := hG.cnt.1
        have kF := hG.cnt.2
        simp only [List.getElem?_toArray, List.getElem?_cons_zero, List.getElem?_cons_succ] at cA
        go_upto_region 18 with fail
        clear cA kA kF
        replace hG := hG.up 3
        generalize wk.setCell ⟨gc, 0, none⟩ (.int .i64 (3 : Nat)) = wk at hG ⊢
        have cA := (hG.node 0).1
        have kA := hG.cnt.1
        have kF := hG.cnt.2
        simp only [List.getElem?_toArray, List.getElem?_cons_zero, List.getElem?_cons_succ] at cA
        go_upto_region 21 with fail
        clear cA kA kF
        replace hG := hG.up 4
        generalize wk.setCell ⟨gc, 0, none⟩ (.int .i64 (4 : Nat)) = wk at hG ⊢
        have cA := (hG.node 0).1
        have kA := hG.cnt.1
        have kF := hG.cnt.2
        simp only [List.getElem?_toArray, List.getElem?_cons_zero, List.getElem?_cons_succ] at cA
        clear cA kA kF
        have hZ := hG.2.2.2.2.1
        have n0 := (hG.node 0).1
        have n1 := (hG.node 1).1
        have n2 := (hG.node 2).1
        have n3 := (hG.node 3).1
        have n4 := (hG.node 4).1
        have n5 := (hG.node 5).1
        have q0 := hZ.cell 0
        have q1 := hZ.cell 1
        have q2 := hZ.cell 2
        have q3 := hZ.cell 3
        have q4 := hZ.cell 4
        have q5 := hZ.cell 5
        have qf := hZ.frozen 0
        have qf1 := hZ.frozen 1
        have qf2 := hZ.frozen 2
        have qf3 := hZ.frozen 3
        have qf4 := hZ.frozen 4
        have qf5 := hZ.frozen 5
        have lZ := hZ.lt
        have hBk := hG.2.2.2.2.2.1
        simp only [List.getElem?_toArray, List.getElem?_cons_zero, List.getElem?_cons_succ] at n0 n1 n2 n3 n4 n5 q0 q1 q2 q3 q4 q5
        go_wp2_with fail
        refine bodyPost_ret (v := .agg #[.int .i64 12, .int .i64 0, .int .i64 z2, .int .i64 0, .int .i64 0, .int .i64 0]) (by simp [results, Tryd.results48, go_sem, q0, q1, q2, q3, q4, q5, World.cell?_setCell_same, World.cell?_setCell_other]; try rfl) rfl ⟨⟨12, 0, z2, 0, 0, 0⟩, rfl, ?_, ?_, (by repeat (first | (with_reducible exact Below.refl _ _) | (with_reducible assumption) | (with_reducible refine Below.drew ?_) | (with_reducible refine below_drewN ?_ _) | (with_reducible refine Below.alloc ?_ (by (try simp only [World.size_alloc, World.size_setCell, World.size_drew, World.heap_drewN]); (first | done | omega | ((try simp only [World.size_alloc, World.size_setCell, World.size_drew, World.heap_drewN] at *); omega))) _) | (with_reducible refine Below.setCell ?_ (by (try simp only [World.size_alloc, World.size_setCell, World.size_drew, World.heap_drewN]); (first | done | omega | ((try simp only [World.size_alloc, World.size_setCell, World.size_drew, World.heap_drewN] at *); omega))) _) | (with_reducible refine Below.trans ?_ (Below.mono (by assumption) (by (try simp only [World.size_alloc, World.size_setCell, World.size_drew, World.heap_drewN]); (first | done | omega | ((try simp only [World.size_alloc, World.size_setCell, World.size_drew, World.heap_drewN] at *); omega)))))))⟩
        · rintro i hi
          rcases i with _ | _ | _ | _ | _ | _ | i
          all_goals first | assumption | exact (by omega : i64ok _) | exact ⟨by simp [Nd.fld], by simp [Nd.fld]⟩ | omega
        · intro m hm hs'
          obtain ⟨ho1, hw1⟩ := guess_words Hps.out Hpc.out HoP.out hm hs'
          have hmo := hm.op
          refine guess_eq hm ho1 hw1 fun i h1 h6 => ?_
          rcases i with _ | _ | _ | _ | _ | _ | i
          all_goals first | omega | (exfalso; omega) | exact .inl ⟨rfl, by simp [hp]⟩ | exact .inr ⟨1, by assumption, fun m hm => by have e : m.op = 12 := hm; simp [wordsL, e, hp, partW, toW, elseW, Nd.fld]⟩ | exact .inr ⟨2, by assumption, fun m hm => by have e : m.op = 12 := hm; simp [wordsL, e, hp, partW, toW, elseW, Nd.fld]⟩ | exact .inr ⟨3, by assumption, fun m hm => by have e : m.op = 12 := hm; simp [wordsL, e, hp, partW, toW, elseW, Nd.fld]⟩ | exact .inr ⟨4, by assumption, fun m hm => by have e : m.op = 12 := hm; simp [wordsL, e, hp, partW, toW, elseW, Nd.fld]⟩ | exact .inr ⟨5, by assumption, fun m hm => by have e : m.op = 12 := hm; simp [wordsL, e, hp, partW, toW, elseW, Nd.fld]⟩
end Go.Proofs.YtmghkonmfbpjcabDoor
