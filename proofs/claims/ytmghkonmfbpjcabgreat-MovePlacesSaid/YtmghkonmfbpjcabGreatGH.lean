/- RunJ MvF MvD MvT. -/
import Derived.Test.YtmghkonmfbpjcabGreatRunI
import Derived.Test.YtmghkonmfbpjcabGreatGA
import Derived.Test.YtmghkonmfbpjcabGreatGC
import Derived.Deep.LoopGhost
import Derived.Test.YtmghkonmfbpjcabGreatGD
set_option linter.unusedVariables false
set_option linter.unusedSimpArgs false
namespace Go.Proofs.YtmghkonmfbpjcabGreat
section
open Go.RowKit
theorem Run_any (regs : Int) (A : Option Addr) (l : List Nd) (cap : Nat) (Ai : Option Addr) (inp : List Int) (ci : Nat) (fuel : Int) (w : World) (hl : l.length ≤ maxLen) (hA : NodesAt w A l) (hI : ValsAt w Ai (ints inp)) (hic : inp.length ≤ ci ∧ ci ≤ maxLen) :
 Calls Tryz.prog 40 #[.agg #[.int .i64 regs, .slice A l.length cap], .slice Ai inp.length ci, .int .i64 fuel] w (RunPost 3 103 regs l inp fuel w) := by (
 by_cases h0 : chk regs l = 0
 · (
 by_cases h1 : 256 < inp.length
 · exact Run_err2 regs A l cap Ai inp ci fuel w hl hA h0 h1
 · (
 by_cases h2 : fuel < 0
 · exact Run_err3a regs A l cap Ai inp ci fuel w hl hA h0 (by omega) h2
 · (
 by_cases h3 : 131072 < fuel
 · exact Run_err3b regs A l cap Ai inp ci fuel w hl hA h0 (by omega) h3
 · exact Run_ok regs A l cap Ai inp ci fuel w hl hA hI hic h0 (by omega) (by omega) (by omega))))
 · exact Run_err1 regs A l cap Ai inp ci fuel w hl hA h0)
end
section
open Go.RowKit
set_option maxHeartbeats 4000000
set_option maxRecDepth 100000 in
theorem samePlaces_any (A1 A2 B1 B2 : Option Addr) (a1 a2 b1 b2 : Nat) (x1 x2 y1 y2 : List Bool) (w : World) (h1 : ValsAt w A1 (bools x1)) (h2 : ValsAt w A2 (bools x2)) (h3 : ValsAt w B1 (bools y1)) (h4 : ValsAt w B2 (bools y2)) (l1 : x1.length ≤ maxLen) (l2 : x2.length ≤ maxLen) (l3 : y1.length ≤ maxLen) (l4 : y2.length ≤ maxLen) :
 Calls Tryz.prog 13 #[.agg #[.slice A1 x1.length a1, .slice A2 x2.length a2], .agg #[.slice B1 y1.length b1, .slice B2 y2.length b2]] w fun e w' => e = .returned (.bool (x1 == y1 && x2 == y2)) ∧ Below w.heap.size w w' := by (
 have HS1 := fun (V : World) (hV : Below w.heap.size w V) => hide (SameBools_any A1 B1 a1 b1 x1 y1 V (h1.below hV) (h3.below hV) l1 l3)
 have HS2 := fun (V : World) (hV : Below w.heap.size w V) => hide (SameBools_any A2 B2 a2 b2 x2 y2 V (h2.below hV) (h4.below hV) l2 l4)
 clear h1 h2 h3 h4
 generalize (x1 == y1) = p at *
 generalize (x2 == y2) = q at *
 go_enter Tryz.func13, Tryz.ntmps13
 go_wp2_with fail
 refine ((HS1 _ (by (with_reducible repeat first | apply Qa | assumption | apply Qb | apply Qc | apply Qd | apply Qe | refine Qf ?_ (by assumption) ?_); all_goals (try simp only [Sz]); first | done | omega | (try simp only [Sz] at *); omega)).out).mono ?_
 rintro e w1 ⟨rfl, d, rfl⟩
 cases p
 · (
 go_wp2_with fail
 go_ret
 exact ⟨rfl, (by (with_reducible repeat first | apply Qa | assumption | apply Qb | apply Qc | apply Qd | apply Qe | refine Qf ?_ (by assumption) ?_); all_goals (try simp only [Sz]); first | done | omega | (try simp only [Sz] at *); omega)⟩)
 · (
 go_wp2_with fail
 refine ((HS2 _ (by (with_reducible repeat first | apply Qa | assumption | apply Qb | apply Qc | apply Qd | apply Qe | refine Qf ?_ (by assumption) ?_); all_goals (try simp only [Sz]); first | done | omega | (try simp only [Sz] at *); omega)).out).mono ?_
 rintro e w2 ⟨rfl, d', rfl⟩
 go_wp2_with fail
 go_ret
 exact ⟨by simp, (by (with_reducible repeat first | apply Qa | assumption | apply Qb | apply Qc | apply Qd | apply Qe | refine Qf ?_ (by assumption) ?_); all_goals (try simp only [Sz]); first | done | omega | (try simp only [Sz] at *); omega)⟩))
end
section
open Go.RowKit
set_option maxHeartbeats 8000000
attribute [local irreducible] Row madeCells
theorem enter_Rival1 (W : World) (args : Array Value) : (callFunc 29 args).run Tryz.prog W = .ok (.enter 29 args) W := by (
 have h := Tryz.func29
 simp [callFunc, go_sem, h]; try rfl)
theorem enter_Rival2 (W : World) (args : Array Value) : (callFunc 30 args).run Tryz.prog W = .ok (.enter 30 args) W := by (
 have h := Tryz.func30
 simp [callFunc, go_sem, h]; try rfl)
set_option maxRecDepth 100000 in
theorem rival1_says {qb n : Nat} {G P Q T : Option Addr} {gc pc qc tc : Nat} {x : List Bool} {w : World} {k : Nat} (hq : Blk w qb 55 #[.bool false, .bool false, .slice G n gc, .slice P n pc, .slice Q n qc, .slice T n tc]) (hG : ValsAt w G (bools x)) (hl : x.length = n) (hk : k < n) :
 SaysAt Tryz.prog 29 #[.pointer (some ⟨qb, 0, none⟩)] w k (yn x k) := by (
 intro W hW
 have hq := hq.below hW hq.lt
 obtain ⟨b2, o2, rfl, l2, e2⟩ := (hG.below hW).bool (k := k) (by rw [hl]; exact hk)
 have q2 := hq.cell 2
 have lq := hq.lt
 simp only [Yl] at q2
 have u0 : (0 : Int) ≤ (k : Int) := by omega
 have u1 : (k : Int) < (n : Int) := by omega
 clear hq hG hl
 show Calls Tryz.prog 29 #[.int .i64 k, .pointer (some ⟨qb, 0, none⟩)] W _
 generalize yn x k = p at *
 go_enter Tryz.func29, Tryz.ntmps29
 go_wp2_with fail
 go_ret
 exact ⟨rfl, Below.refl _ _⟩)
set_option maxRecDepth 100000 in
theorem rival2_says {tb n : Nat} {T : Option Addr} {tc : Nat} {x : List Bool} {w : World} {k : Nat} (hq : Blk w tb 27 #[.slice T n tc]) (hG : ValsAt w T (bools x)) (hl : x.length = n) (hk : k < n) :
 SaysAt Tryz.prog 30 #[.pointer (some ⟨tb, 0, none⟩)] w k (yn x k) := by (
 intro W hW
 have hq := hq.below hW hq.lt
 obtain ⟨b2, o2, rfl, l2, e2⟩ := (hG.below hW).bool (k := k) (by rw [hl]; exact hk)
 have q2 := hq.cell 0
 have lq := hq.lt
 simp only [Yl] at q2
 have u0 : (0 : Int) ≤ (k : Int) := by omega
 have u1 : (k : Int) < (n : Int) := by omega
 clear hq hG hl
 show Calls Tryz.prog 30 #[.int .i64 k, .pointer (some ⟨tb, 0, none⟩)] W _
 generalize yn x k = p at *
 go_enter Tryz.func30, Tryz.ntmps30
 go_wp2_with fail
 go_ret
 exact ⟨rfl, Below.refl _ _⟩)
def rivG (l : List Nd) (F : Fx) (x : List Bool) : List Bool := mk l.length fun k => yn x k && yn F.down k
def rivS (t : Tm) (l : List Nd) (g : List Bool) : List Bool → Nat → Bool := flowS false false g (notL (noL l.length)) (noL l.length) (keepL t l) l
def rivY (t : Tm) (l : List Nd) (th : List Bool) : List Bool := mk l.length fun k => rkB t (nd l k) && yn th k
def RvPost (tB : TypeId) (regs : Int) (l : List Nd) (t : Tm) (x : List Bool) (w : World) (e : Ending) (w' : World) : Prop :=
 Below w.heap.size w w' ∧ ((fxE regs l t ≠ 0 ∧ e = .returned (.tuple #[.agg #[.slice none 0 0, .slice none 0 0], .int .i64 (fxE regs l t)])) ∨
  (fxE regs l t = 0 ∧ x.length ≠ l.length ∧ e = .returned (.tuple #[.agg #[.slice none 0 0, .slice none 0 0], .int .i64 1])) ∨
  (fxE regs l t = 0 ∧ x.length = l.length ∧ ∃ F th v1 v2, IsFx t l F ∧ Great (rivS t l (rivG l F x)) l.length th ∧ e = .returned (.tuple #[.agg #[v1, v2], .int .i64 0]) ∧ Row w' w.heap.size tB v1 (bools (rivG l F x)) ∧ Row w' w.heap.size tB v2 (bools (rivY t l th)) ∧ (v1.ownBlock = none ∨ v1.ownBlock ≠ v2.ownBlock)))
set_option maxRecDepth 100000 in
theorem Rival_err (regs : Int) (A : Option Addr) (l : List Nd) (cap : Nat) (t : Tm) (X : Option Addr) (x : List Bool) (xc : Nat) (w : World) (hl : l.length ≤ maxLen) (hA : NodesAt w A l) (h0 : fxE regs l t ≠ 0) :
 Calls Tryz.prog 7 #[.agg #[.int .i64 regs, .slice A l.length cap], .agg #[.int .i64 t.op, .int .i64 t.a, .int .i64 t.b], .slice X x.length xc] w (RvPost 4 regs l t x w) := by (
 have HX := hide (fun W (hW : Below w.heap.size w W) => Facts_any regs A l cap t W hl (hA.below hW))
 clear hA
 have h0' : (fxE regs l t != 0) = true := by simp [h0]
 have H0 := hide h0
 clear h0
 go_enter Tryz.func7, Tryz.ntmps7
 go_wp2_with fail
 refine (HX.out _ (by (with_reducible repeat first | apply Qa | assumption | apply Qb | apply Qc | apply Qd | apply Qe | refine Qf ?_ (by assumption) ?_); all_goals (try simp only [Sz]); first | done | omega | (try simp only [Sz] at *); omega)).mono ?_
 rintro e w1 ⟨hb1, h⟩
 obtain ⟨-, rfl⟩ := h.resolve_right (fun h => H0.out h.1)
 clear h
 have hz1 := hb1.size
 simp only [World.size_alloc] at hz1
 have hB1 : Below w.heap.size w w1 := (by (with_reducible repeat first | apply Qa | assumption | apply Qb | apply Qc | apply Qd | apply Qe | refine Qf ?_ (by assumption) ?_); all_goals (try simp only [Sz]); first | done | omega | (try simp only [Sz] at *); omega)
 have hO1 : Blk w1 (w.heap.size + 1 + 1) 29 #[.slice none 0 0, .slice none 0 0] := Blk.below (by repeat (first | ((with_reducible refine Blk.new' ?_); exact (by (try simp only [Sz]); first | done | omega | (try simp only [Sz] at *); omega)) | (with_reducible refine Blk.alloc ?_ _))) hb1 (by simp <;> omega)
 clear hb1
 unfold nil6
 go_upto_region 2 with fail
 obtain ⟨W1, hW1⟩ : ∃ W1 : World, W1 = w1.alloc (.cells #[.slice none 0 0, .slice none 0 0, .slice none 0 0, .slice none 0 0, .slice none 0 0, .slice none 0 0] 49) := ⟨_, rfl⟩
 have hB2 : Below w.heap.size w W1 := by rw [hW1]; exact hB1.alloc (by omega) _
 have hO1 : Blk W1 (w.heap.size + 1 + 1) 29 #[.slice none 0 0, .slice none 0 0] := by rw [hW1]; exact hO1.alloc _
 rw [← hW1]
 clear hW1 hB1
 have o0 := hO1.cell 0
 have o1 := hO1.cell 1
 have f0 := hO1.frozen 0
 have f1 := hO1.frozen 1
 simp only [Yl] at o0 o1
 have lO := hO1.lt
 go_wp2_with fail
 go_tidy
 refine bodyPost_ret (v := .tuple #[.agg #[.slice none 0 0, .slice none 0 0], .int .i64 (fxE regs l t)]) (by simp [results, Tryz.results7, go_sem, o0, o1, f0, f1, World.cell?_setCell_same, World.cell?_setCell_other]; try rfl) rfl ?_
 exact ⟨(hB2.setCell (by simp <;> omega) _).setCell (by simp <;> omega) _, .inl ⟨H0.out, rfl⟩⟩)
structure RvSt (W0 : World) (qb : Nat) (vs : Nat → Value) (xs : Nat → List Bool) (W : World) : Prop where
 q : Blk W qb 55 #[.bool false, .bool false, vs 0, vs 1, vs 2, vs 3]
 tab : Tab W W0.heap.size 4 4 vs (fun i => bools (xs i))
 below : Below W0.heap.size W0 W
 low : W0.heap.size ≤ qb
section
variable {W0 : World} {qb : Nat} {vs : Nat → Value} {xs : Nat → List Bool} {W : World}
theorem RvSt.later {W' : World} (h : RvSt W0 qb vs xs W) (hb : Below W.heap.size W W') : RvSt W0 qb vs xs W' :=
 ⟨h.q.below hb h.q.lt, h.tab.below hb, h.below.trans (hb.mono h.below.size), h.low⟩
theorem RvSt.put {V w9 : World} {i : Nat} (hi : i < 4) {v9 : Value} {b : Bool} (h0 : RvSt W0 qb vs xs W) (hb : Below W.heap.size W V) (hr : Row w9 W0.heap.size 4 v9 (bools (xs i) ++ [.bool b])) (hg : V.grownBy w9 (vs i).ownBlock) (hat : v9.ownBlock = (vs i).ownBlock ∨ ∀ k, v9.ownBlock = some k → V.heap.size ≤ k) :
 RvSt W0 qb (upd vs i v9) (upd xs i (xs i ++ [b])) (w9.setCell ⟨qb, i + 2, none⟩ v9) := by (
 have h := h0.later hb
 have hri := h.tab.row hi
 have hq := Blk.grown h.q hg (hri.ne_blk h.q (by decide))
 have ht := h.tab.put hi hr hg hat
 have hx : (fun j => bools (upd xs i (xs i ++ [b]) j)) = upd (fun j => bools (xs j)) i (bools (xs i) ++ [.bool b]) := by (
 funext j
 unfold upd
 split
 · rw [bools_snoc]
 · rfl)
 refine ⟨?_, ?_, (h.below.grown hg h.below.size (fun q hq => (hri.lt q hq).1)).setCell h.low _, h.low⟩
 · (
 have := hq.set_ (i + 2) v9
 have hi4 : i = 0 ∨ i = 1 ∨ i = 2 ∨ i = 3 := by omega
 rcases hi4 with rfl | rfl | rfl | rfl <;> exact this)
 · (
 rw [hx]
 exact ht.far (p := ⟨qb, i + 2, none⟩) hq (by decide) _))
end
end
section
open Go.RowKit
def rivQ (t : Tm) (l : List Nd) (x : List Bool) (m : Int) : Bool := yn x m.toNat && yn (keepL t l) m.toNat
def rivA (t : Tm) (l : List Nd) (x : List Bool) (k j : Nat) : Bool := decide (0 < (edgesOf false l k).length) && ((edgesOf false l k).take j).all (rivQ t l x)
theorem rivA_zero (t : Tm) (l : List Nd) (x : List Bool) (k : Nat) : rivA t l x k 0 = decide (0 < (edgesOf false l k).length) := by simp [rivA]
theorem rivA_step {t : Tm} {l : List Nd} {x : List Bool} {k j mm : Nat} {n : Nd} (h : (edgesOf false l k)[j]? = some (mm : Int)) (hn : l[mm]? = some n) :
 rivA t l x k (j + 1) = (rivA t l x k j && yn x mm && keepB t n) := by (
 unfold rivA
 rw [take_all h, ← Bool.and_assoc]
 unfold rivQ
 rw [Int.toNat_natCast, yn_keep hn, ← Bool.and_assoc])
theorem rivA_end (t : Tm) (l : List Nd) (g x : List Bool) {k j : Nat} (hk : k < l.length) (h : (edgesOf false l k).length ≤ j) : rivS t l g x k = (yn g k || rivA t l x k j) := by (
 unfold rivA rivS flowS saysB
 rw [take_full h]
 have h : ((edgesOf false l k).all fun r => askOne (noL l.length) (keepL t l) x r.toNat) = (edgesOf false l k).all (rivQ t l x) := all_congr fun m hm => by (
 rw [askOne, yn_no]
 unfold rivQ
 cases yn x m.toNat <;> cases yn (keepL t l) m.toNat <;> rfl)
 rw [h, yn_yes hk]
 cases yn g k <;> rcases hE : edgesOf false l k with _ | ⟨e0, es⟩ <;> simp)
end
end Go.Proofs.YtmghkonmfbpjcabGreat
