/- The reference's RunOf. -/
import Derived.Test.YtmghkonmfbpjcaaRunD
import Derived.Test.YtmghkonmfbpjcaaRunU
import Derived.Test.YtmghkonmfbpjcaaRunH
namespace Go.Proofs.Ytmghkonmfbpjcaa
set_option linter.unusedVariables false
set_option linter.unusedSimpArgs false
open Go.RowKit
set_option maxHeartbeats 8000000
attribute [local irreducible] Row CRow madeCells

theorem countsL_le (ts : List Tm) : ∀ y ∈ countsL ts, 0 ≤ y.2 ∧ y.2 ≤ (ts.length : Int) := fun y hy => by
  have h1 := countsL_pos ts y hy
  have h2 := cntOf_mem (countsL_asc ts) hy
  rw [countsL_cnt] at h2
  have : ts.count y.1 ≤ ts.length := List.count_le_length
  omega
/-- the reference runs -/
structure RSt (w : World) (regs : Int) (gr rb : Nat) (ov cv : Value) (s : Rn) (W : World) : Prop where
  box : Blk W rb 68 #[ov, .int .i64 s.ret, .bool s.ended, .int .i64 s.steps, cv]
  regs : Row W w.heap.size 3 (.slice (some ⟨gr, 0, none⟩) regs.toNat regs.toNat) (ints s.regs)
  out : Row W w.heap.size 3 ov (ints s.out)
  cts : CRow W w.heap.size 123 cv (countsL s.ts)
  ne : ov.ownBlock ≠ some gr
  mlo : w.heap.size ≤ rb
  below : Below w.heap.size w W
section
variable {w : World} {regs : Int} {gr rb : Nat} {ov cv : Value} {s : Rn} {W W' : World}
theorem RSt.later (h : RSt w regs gr rb ov cv s W) (hb : Below W.heap.size W W') : RSt w regs gr rb ov cv s W' :=
  ⟨h.box.below hb h.box.lt, h.regs.below' hb, h.out.below' hb, h.cts.below' hb, h.ne, h.mlo, h.below.trans (hb.mono h.below.size)⟩
theorem RSt.nbr (h : RSt w regs gr rb ov cv s W) : ¬ (rb = gr) := fun e => h.regs.ne_blk h.box (by decide) (by rw [e]; rfl)
theorem RSt.grlo (h : RSt w regs gr rb ov cv s W) : w.heap.size ≤ gr := rowge h.regs
theorem RSt.cvr (h : RSt w regs gr rb ov cv s W) : cv.ownBlock ≠ some gr := by
  rcases h.cts.ne_row h.regs (by decide) with e | e
  · rw [e]; simp
  · exact e
theorem RSt.setReg (h : RSt w regs gr rb ov cv s W) (k : Nat) (z : Int) : RSt w regs gr rb ov cv { s with regs := s.regs.set k z } (W.setCell ⟨gr, k, none⟩ (.int .i64 z)) := by
  refine ⟨h.box.far (p := ⟨gr, k, none⟩) h.nbr _, ?_, h.out.far (p := ⟨gr, k, none⟩) h.ne _, h.cts.far (p := ⟨gr, k, none⟩) h.cvr _, h.ne, h.mlo, h.below.setCell h.grlo _⟩
  have hr := h.regs.store k (.int .i64 z)
  rw [Nat.zero_add] at hr
  have e : (ints s.regs).set k (.int .i64 z) = ints (s.regs.set k z) := by unfold ints; rw [List.map_set]
  rw [e] at hr
  exact hr
theorem RSt.put (h : RSt w regs gr rb ov cv s W) (i : Nat) (u : Value) (s' : Rn) (hc : (#[ov, .int .i64 s.ret, .bool s.ended, .int .i64 s.steps, cv] : Array Value).setIfInBounds i u = #[ov, .int .i64 s'.ret, .bool s'.ended, .int .i64 s'.steps, cv]) (h1 : s'.regs = s.regs) (h2 : s'.ts = s.ts) (h3 : s'.out = s.out) :
    RSt w regs gr rb ov cv s' (W.setCell ⟨rb, i, none⟩ u) :=
  ⟨by have hb := h.box.set_ i u; rw [hc] at hb; exact hb, by rw [h1]; exact h.regs.far (p := ⟨rb, i, none⟩) (h.regs.ne_blk h.box (by decide)) _, by rw [h3]; exact h.out.far (p := ⟨rb, i, none⟩) (h.out.ne_blk h.box (by decide)) _, by rw [h2]; exact h.cts.far (p := ⟨rb, i, none⟩) (h.cts.ne_blk h.box (by decide)) _, h.ne, h.mlo, h.below.setCell h.mlo _⟩
theorem RSt.steps_ (h : RSt w regs gr rb ov cv s W) (k : Nat) : RSt w regs gr rb ov cv { s with steps := k } (W.setCell ⟨rb, 3, none⟩ (.int .i64 (k : Int))) := h.put 3 _ _ rfl rfl rfl rfl
theorem RSt.read_ (h : RSt w regs gr rb ov cv s W) (p : Nat) : RSt w regs gr rb ov cv { s with read := p } W := ⟨h.1, h.2, h.3, h.4, h.5, h.6, h.7⟩
theorem RSt.pos_ (h : RSt w regs gr rb ov cv s W) (p : Nat) : RSt w regs gr rb ov cv { s with pos := p } W := ⟨h.1, h.2, h.3, h.4, h.5, h.6, h.7⟩
theorem RSt.outGrown (h : RSt w regs gr rb ov cv s W) (hg : W.grownBy W' ov.ownBlock) {ov' : Value} {z : Int} (hO : Row W' w.heap.size 3 ov' (ints (s.out ++ [z]))) (hat : ov'.ownBlock = ov.ownBlock ∨ ∀ k, ov'.ownBlock = some k → W.heap.size ≤ k) :
    RSt w regs gr rb ov' cv { s with out := s.out ++ [z] } (W'.setCell ⟨rb, 0, none⟩ ov') := by
  have hb : Blk W' rb 68 #[ov, .int .i64 s.ret, .bool s.ended, .int .i64 s.steps, cv] := h.box.grown hg (h.out.ne_blk h.box (by decide))
  have hC : CRow W' w.heap.size 123 cv (countsL s.ts) := h.cts.kept hg (h.cts.ne_row h.out (by decide))
  refine ⟨hb.set_ 0 ov', (h.regs.kept hg (.inr fun e => h.ne e.symm)).far (p := ⟨rb, 0, none⟩) (h.regs.ne_blk h.box (by decide)) _, hO.far (p := ⟨rb, 0, none⟩) (hO.ne_blk hb (by decide)) _, hC.far (p := ⟨rb, 0, none⟩) (hC.ne_blk hb (by decide)) _, fun e => ?_, h.mlo, (h.below.grown hg h.below.size fun q hq => (h.out.lt q hq).1).setCell h.mlo _⟩
  rcases hat with h1 | h1
  · exact h.ne (h1.symm.trans e)
  · have := h1 gr e
    have := h.regs.lt gr rfl
    omega
theorem RSt.ctsGrown (h : RSt w regs gr rb ov cv s W) (hg : W.grownBy W' cv.ownBlock) {cv' : Value} {t : Tm} (hC : CRow W' w.heap.size 123 cv' (onceL (countsL s.ts) t)) :
    RSt w regs gr rb ov cv' { s with ts := s.ts ++ [t] } (W'.setCell ⟨rb, 4, none⟩ cv') := by
  have hb : Blk W' rb 68 #[ov, .int .i64 s.ret, .bool s.ended, .int .i64 s.steps, cv] := h.box.grown hg (h.cts.ne_blk h.box (by decide))
  have flip : ∀ {v : Value}, (cv.ownBlock = none ∨ cv.ownBlock ≠ v.ownBlock) → (v.ownBlock = none ∨ v.ownBlock ≠ cv.ownBlock) := fun {v} e => e.elim (fun e => by
    rcases ho : v.ownBlock with _ | k
    · exact .inl rfl
    · exact .inr (by rw [e]; simp)) fun e => .inr e.symm
  have hO : Row W' w.heap.size 3 ov (ints s.out) := h.out.kept hg (flip (h.cts.ne_row h.out (by decide)))
  have hR : Row W' w.heap.size 3 (.slice (some ⟨gr, 0, none⟩) regs.toNat regs.toNat) (ints s.regs) := h.regs.kept hg (flip (h.cts.ne_row h.regs (by decide)))
  rw [← countsL_snoc] at hC
  exact ⟨hb.set_ 4 cv', hR.far (p := ⟨rb, 4, none⟩) (hR.ne_blk hb (by decide)) _, hO.far (p := ⟨rb, 4, none⟩) (hO.ne_blk hb (by decide)) _, hC.far (p := ⟨rb, 4, none⟩) (hC.ne_blk hb (by decide)) _, h.ne, h.mlo, (h.below.grown hg h.below.size fun q hq => (h.cts.lt q hq).1).setCell h.mlo _⟩
end
theorem RSt.begin {w W : World} {regs : Int} {gr rb : Nat} (hb : Blk W rb 68 #[.slice none 0 0, .int .i64 0, .bool false, .int .i64 0, .slice none 0 0]) (hr : Row W w.heap.size 3 (.slice (some ⟨gr, 0, none⟩) regs.toNat regs.toNat) (List.replicate regs.toNat (.int .i64 0))) (hlo : w.heap.size ≤ rb) (hB : Below w.heap.size w W) :
    RSt w regs gr rb (.slice none 0 0) (.slice none 0 0) (startR regs) W :=
  ⟨hb, by rw [show (startR regs).regs = List.replicate regs.toNat 0 from rfl, show ints (List.replicate regs.toNat 0) = List.replicate regs.toNat (.int .i64 0) by simp [ints]]; exact hr, Row.nil_ _ _ _, CRow.nil_ _ _ _, by simp [Value.ownBlock], hlo, hB⟩
def ROfPost (tI tC : TypeId) (regs : Int) (l : List Nd) (inp : List Int) (fuel : Int) (w : World) (e : Ending) (w' : World) : Prop :=
  Below w.heap.size w w' ∧ ∃ v, e = .returned v ∧ ResAt tI tC w.heap.size w' v (runR regs l inp fuel.toNat).told
set_option maxRecDepth 100000 in
theorem RunOf_any (regs : Int) (A : Option Addr) (l : List Nd) (cap : Nat) (Ai : Option Addr) (inp : List Int) (ci : Nat) (fuel : Int) (w : World) (hA : NodesAt w A l) (hI : ValsAt w Ai (ints inp)) (hR : Right regs l) (hi : inp.length ≤ 256) (h2 : 0 ≤ fuel) (h3 : fuel ≤ 131072) :
    Calls Try.prog 44 #[.agg #[.int .i64 regs, .slice A l.length cap], .slice Ai inp.length ci, .int .i64 fuel] w (ROfPost 3 123 regs l inp fuel w) := by
  have hr1 := hR.rlo
  have hr2 := hR.rhi
  have hlen := hR.hi
  have HR := hide hR
  have HA := hide hA
  have HI := hide hI
  clear hA hI hR
  obtain ⟨i3, h3i, h3z, h3s, h3b⟩ := info_parts infoInt
  have hmk := run_make1 (P := Try.prog) 56 3 i3 _ 8 Try.underlying56 h3i h3z h3s h3b (by omega) rfl regs.toNat (by omega)
  rw [Int.toNat_of_nonneg (by omega)] at hmk
  go_enter Try.func44, Try.ntmps44
  go_upto_region 1 with fail
  obtain ⟨w1, hw1⟩ : ∃ w1, w1 = (w.alloc (.cells #[.int .i64 regs, .slice A l.length cap] 24)).alloc (.cells #[.slice none 0 0, .int .i64 0, .bool false, .int .i64 0, .slice none 0 0] 68) := ⟨_, rfl⟩
  have hP1 : Blk w1 w.heap.size 24 #[.int .i64 regs, .slice A l.length cap] := by rw [hw1]; exact (by repeat (first | ((with_reducible refine Blk.new' ?_); exact (by (try simp only [World.size_alloc, World.size_setCell, World.size_drew, World.heap_drewN]); (first | done | omega | ((try simp only [World.size_alloc, World.size_setCell, World.size_drew, World.heap_drewN] at *); omega)))) | (with_reducible refine Blk.drew ?_) | (with_reducible refine Blk.drewN ?_ _) | (with_reducible refine Blk.alloc ?_ _) | with_reducible assumption))
  have hO1 : Blk w1 (w.heap.size + 1) 68 #[.slice none 0 0, .int .i64 0, .bool false, .int .i64 0, .slice none 0 0] := by rw [hw1]; exact (by repeat (first | ((with_reducible refine Blk.new' ?_); exact (by (try simp only [World.size_alloc, World.size_setCell, World.size_drew, World.heap_drewN]); (first | done | omega | ((try simp only [World.size_alloc, World.size_setCell, World.size_drew, World.heap_drewN] at *); omega)))) | (with_reducible refine Blk.drew ?_) | (with_reducible refine Blk.drewN ?_ _) | (with_reducible refine Blk.alloc ?_ _) | with_reducible assumption))
  have hB1 : Below w.heap.size w w1 := by rw [hw1]; exact (by repeat (first | (with_reducible exact Below.refl _ _) | (with_reducible assumption) | (with_reducible refine Below.drew ?_) | (with_reducible refine below_drewN ?_ _) | (with_reducible refine Below.alloc ?_ (by (try simp only [World.size_alloc, World.size_setCell, World.size_drew, World.heap_drewN]); (first | done | omega | ((try simp only [World.size_alloc, World.size_setCell, World.size_drew, World.heap_drewN] at *); omega))) _) | (with_reducible refine Below.setCell ?_ (by (try simp only [World.size_alloc, World.size_setCell, World.size_drew, World.heap_drewN]); (first | done | omega | ((try simp only [World.size_alloc, World.size_setCell, World.size_drew, World.heap_drewN] at *); omega))) _) | (with_reducible refine Below.trans ?_ (Below.mono (by assumption) (by (try simp only [World.size_alloc, World.size_setCell, World.size_drew, World.heap_drewN]); (first | done | omega | ((try simp only [World.size_alloc, World.size_setCell, World.size_drew, World.heap_drewN] at *); omega)))))))
  rw [← hw1]
  have lp := hP1.lt
  have lo := hO1.lt
  have p0 := hP1.cell 0
  have p1 := hP1.cell 1
  simp only [List.getElem?_toArray, List.getElem?_cons_zero, List.getElem?_cons_succ] at p0 p1
  have HI1 := hide (HI.out.below hB1)
  clear hw1
  go_wp2_with fail
  go_loopg [9, 10] (fuel.toNat) (fun gk at_ rd wr => ∃ (s : Rn) (ov cv : Value), at_ = .int .i64 (s.pos : Int) ∧ rd = .int .i64 (s.read : Int) ∧ gk = fuel.toNat - s.steps ∧ s.steps ≤ fuel.toNat ∧ RnOk regs l inp s ∧ goR l inp (fuel.toNat - s.steps) s = runR regs l inp fuel.toNat ∧ RSt w1 regs w1.heap.size (w1.heap.size + 1) ov cv s wr)
  case atStart => exact ⟨startR regs, _, _, rfl, rfl, rfl, Nat.zero_le _, RnOk.start HR.out, rfl, RSt.begin (by repeat (first | ((with_reducible refine Blk.new' ?_); exact (by (try simp only [World.size_alloc, World.size_setCell, World.size_drew, World.heap_drewN]); (first | done | omega | ((try simp only [World.size_alloc, World.size_setCell, World.size_drew, World.heap_drewN] at *); omega)))) | (with_reducible refine Blk.drew ?_) | (with_reducible refine Blk.drewN ?_ _) | (with_reducible refine Blk.alloc ?_ _) | with_reducible assumption)) (by repeat (first | ((with_reducible refine Row.made1' ?_ ?_ ?_); exact (by (try simp only [World.size_alloc, World.size_setCell, World.size_drew, World.heap_drewN]); (first | done | omega | ((try simp only [World.size_alloc, World.size_setCell, World.size_drew, World.heap_drewN] at *); omega))); exact (by (try simp only [World.size_alloc, World.size_setCell, World.size_drew, World.heap_drewN]); (first | done | omega | ((try simp only [World.size_alloc, World.size_setCell, World.size_drew, World.heap_drewN] at *); omega))); exact (by (try simp only [World.size_alloc, World.size_setCell, World.size_drew, World.heap_drewN]); (first | done | omega | ((try simp only [World.size_alloc, World.size_setCell, World.size_drew, World.heap_drewN] at *); omega)))) | (with_reducible refine Row.drew ?_) | (with_reducible refine Row.drewN ?_ _) | (with_reducible refine Row.alloc ?_ _) | with_reducible assumption)) (by omega) (by repeat (first | (with_reducible exact Below.refl _ _) | (with_reducible assumption) | (with_reducible refine Below.drew ?_) | (with_reducible refine below_drewN ?_ _) | (with_reducible refine Below.alloc ?_ (by (try simp only [World.size_alloc, World.size_setCell, World.size_drew, World.heap_drewN]); (first | done | omega | ((try simp only [World.size_alloc, World.size_setCell, World.size_drew, World.heap_drewN] at *); omega))) _) | (with_reducible refine Below.setCell ?_ (by (try simp only [World.size_alloc, World.size_setCell, World.size_drew, World.heap_drewN]); (first | done | omega | ((try simp only [World.size_alloc, World.size_setCell, World.size_drew, World.heap_drewN] at *); omega))) _) | (with_reducible refine Below.trans ?_ (Below.mono (by assumption) (by (try simp only [World.size_alloc, World.size_setCell, World.size_drew, World.heap_drewN]); (first | done | omega | ((try simp only [World.size_alloc, World.size_setCell, World.size_drew, World.heap_drewN] at *); omega)))))))⟩
  case round =>
    obtain ⟨s, ov, cv, rfl, rfl, hgk, hsf, hok, hgo, hM⟩ := hrel
    have Hgk := hide hgk
    have Hok := hide hok
    have Hgo := hide hgo
    obtain ⟨r1, r2, r3, r4, r5, r6⟩ := hok
    have hst : s.steps ≤ 131072 := by omega
    clear hgk hgo r6
    obtain ⟨gr, hgr⟩ : ∃ g, g = w1.heap.size := ⟨_, rfl⟩
    obtain ⟨rb, hrb⟩ : ∃ g, g = w1.heap.size + 1 := ⟨_, rfl⟩
    rw [← hrb, ← hgr] at hM
    have Hgr := hide hgr
    have Hrb := hide hrb
    have hrlo : w1.heap.size ≤ gr ∧ w1.heap.size ≤ rb := by omega
    clear hgr hrb
    have c2 := hM.box.cell 2
    have c3 := hM.box.cell 3
    have cf3 := hM.box.frozen 3
    simp only [List.getElem?_toArray, List.getElem?_cons_zero, List.getElem?_cons_succ] at c2 c3
    cases hend : s.ended
    case true =>
      rw [hend] at c2
      have hfin : s = runR regs l inp fuel.toNat := by rw [← Hgo.out, goR_ended hend]
      by_cases hlt : (s.steps : Int) < fuel
      ·
        have Hfin := hide hfin
        have b0 := hM.box.cell 0
        have b1 := hM.box.cell 1
        have b4 := hM.box.cell 4
        have lb := hM.box.lt
        have hO7 := hO1.below hM.below lo
        have o0 := hO7.cell 0
        have o1 := hO7.cell 1
        have o2 := hO7.cell 2
        have o3 := hO7.cell 3
        have o4 := hO7.cell 4
        have g0 := hO7.frozen 0
        have g1 := hO7.frozen 1
        have g2 := hO7.frozen 2
        have g3 := hO7.frozen 3
        have g4 := hO7.frozen 4
        have lo7 := hO7.lt
        simp only [List.getElem?_toArray, List.getElem?_cons_zero, List.getElem?_cons_succ] at b0 b1 b4 o0 o1 o2 o3 o4
        obtain ⟨OA, oc, hov, _, _⟩ := hM.out.shape
        obtain ⟨CA, cc, hcv, _, _⟩ := hM.cts.shape
        subst hov hcv
        have hM7 := hide hM
        have hbz := hM.below.size
        have nmo : ¬ (rb = w.heap.size + 1) := by omega
        rw [← Hrb.out, ← Hgr.out]
        clear hfin hM hO7
        go_wp2_with fail
        refine bodyPost_ret (v := .agg #[.slice OA (ints s.out).length oc, .int .i64 s.ret, .bool s.ended, .int .i64 (s.steps : Int), .slice CA (countsL s.ts).length cc]) (by simp [results, Try.results44, go_sem, o0, o1, o2, o3, o4, hend, World.cell?_setCell_same, World.cell?_setCell_other]) rfl ?_
        have hq7 := hM7.out
        have hBq : Below w.heap.size w wr := hB1.trans (hq7.below.mono (by omega))
        have n1 : (Value.slice OA (ints s.out).length oc).ownBlock ≠ some (w.heap.size + 1) := fun e => by have := (hq7.out.lt _ e).1; omega
        have n2 : (Value.slice CA (countsL s.ts).length cc).ownBlock ≠ some (w.heap.size + 1) := fun e => by have := (hq7.cts.lt _ e).1; omega
        unfold ROfPost
        rw [← Hfin.out]
        refine ⟨(by repeat (first | (with_reducible exact Below.refl _ _) | (with_reducible assumption) | (with_reducible refine Below.drew ?_) | (with_reducible refine below_drewN ?_ _) | (with_reducible refine Below.alloc ?_ (by (try simp only [World.size_alloc, World.size_setCell, World.size_drew, World.heap_drewN]); (first | done | omega | ((try simp only [World.size_alloc, World.size_setCell, World.size_drew, World.heap_drewN] at *); omega))) _) | (with_reducible refine Below.setCell ?_ (by (try simp only [World.size_alloc, World.size_setCell, World.size_drew, World.heap_drewN]); (first | done | omega | ((try simp only [World.size_alloc, World.size_setCell, World.size_drew, World.heap_drewN] at *); omega))) _) | (with_reducible refine Below.trans ?_ (Below.mono (by assumption) (by (try simp only [World.size_alloc, World.size_setCell, World.size_drew, World.heap_drewN]); (first | done | omega | ((try simp only [World.size_alloc, World.size_setCell, World.size_drew, World.heap_drewN] at *); omega))))))), _, rfl, _, _, rfl, ?_, ?_⟩
        · exact ((((((hq7.out.far (p := ⟨w.heap.size + 1, 0, none⟩) n1 _).far (p := ⟨w.heap.size + 1, 1, none⟩) n1 _).far (p := ⟨w.heap.size + 1, 2, none⟩) n1 _).far (p := ⟨w.heap.size + 1, 3, none⟩) n1 _).far (p := ⟨w.heap.size + 1, 4, none⟩) n1 _)).mono (by omega)
        · exact ((((((hq7.cts.far (p := ⟨w.heap.size + 1, 0, none⟩) n2 _).far (p := ⟨w.heap.size + 1, 1, none⟩) n2 _).far (p := ⟨w.heap.size + 1, 2, none⟩) n2 _).far (p := ⟨w.heap.size + 1, 3, none⟩) n2 _).far (p := ⟨w.heap.size + 1, 4, none⟩) n2 _)).mono (by omega)
      ·
        have Hfin := hide hfin
        have b0 := hM.box.cell 0
        have b1 := hM.box.cell 1
        have b4 := hM.box.cell 4
        have lb := hM.box.lt
        have hO7 := hO1.below hM.below lo
        have o0 := hO7.cell 0
        have o1 := hO7.cell 1
        have o2 := hO7.cell 2
        have o3 := hO7.cell 3
        have o4 := hO7.cell 4
        have g0 := hO7.frozen 0
        have g1 := hO7.frozen 1
        have g2 := hO7.frozen 2
        have g3 := hO7.frozen 3
        have g4 := hO7.frozen 4
        have lo7 := hO7.lt
        simp only [List.getElem?_toArray, List.getElem?_cons_zero, List.getElem?_cons_succ] at b0 b1 b4 o0 o1 o2 o3 o4
        obtain ⟨OA, oc, hov, _, _⟩ := hM.out.shape
        obtain ⟨CA, cc, hcv, _, _⟩ := hM.cts.shape
        subst hov hcv
        have hM7 := hide hM
        have hbz := hM.below.size
        have nmo : ¬ (rb = w.heap.size + 1) := by omega
        rw [← Hrb.out, ← Hgr.out]
        clear hfin hM hO7
        go_wp2_with fail
        refine bodyPost_ret (v := .agg #[.slice OA (ints s.out).length oc, .int .i64 s.ret, .bool s.ended, .int .i64 (s.steps : Int), .slice CA (countsL s.ts).length cc]) (by simp [results, Try.results44, go_sem, o0, o1, o2, o3, o4, hend, World.cell?_setCell_same, World.cell?_setCell_other]) rfl ?_
        have hq7 := hM7.out
        have hBq : Below w.heap.size w wr := hB1.trans (hq7.below.mono (by omega))
        have n1 : (Value.slice OA (ints s.out).length oc).ownBlock ≠ some (w.heap.size + 1) := fun e => by have := (hq7.out.lt _ e).1; omega
        have n2 : (Value.slice CA (countsL s.ts).length cc).ownBlock ≠ some (w.heap.size + 1) := fun e => by have := (hq7.cts.lt _ e).1; omega
        unfold ROfPost
        rw [← Hfin.out]
        refine ⟨(by repeat (first | (with_reducible exact Below.refl _ _) | (with_reducible assumption) | (with_reducible refine Below.drew ?_) | (with_reducible refine below_drewN ?_ _) | (with_reducible refine Below.alloc ?_ (by (try simp only [World.size_alloc, World.size_setCell, World.size_drew, World.heap_drewN]); (first | done | omega | ((try simp only [World.size_alloc, World.size_setCell, World.size_drew, World.heap_drewN] at *); omega))) _) | (with_reducible refine Below.setCell ?_ (by (try simp only [World.size_alloc, World.size_setCell, World.size_drew, World.heap_drewN]); (first | done | omega | ((try simp only [World.size_alloc, World.size_setCell, World.size_drew, World.heap_drewN] at *); omega))) _) | (with_reducible refine Below.trans ?_ (Below.mono (by assumption) (by (try simp only [World.size_alloc, World.size_setCell, World.size_drew, World.heap_drewN]); (first | done | omega | ((try simp only [World.size_alloc, World.size_setCell, World.size_drew, World.heap_drewN] at *); omega))))))), _, rfl, _, _, rfl, ?_, ?_⟩
        · exact ((((((hq7.out.far (p := ⟨w.heap.size + 1, 0, none⟩) n1 _).far (p := ⟨w.heap.size + 1, 1, none⟩) n1 _).far (p := ⟨w.heap.size + 1, 2, none⟩) n1 _).far (p := ⟨w.heap.size + 1, 3, none⟩) n1 _).far (p := ⟨w.heap.size + 1, 4, none⟩) n1 _)).mono (by omega)
        · exact ((((((hq7.cts.far (p := ⟨w.heap.size + 1, 0, none⟩) n2 _).far (p := ⟨w.heap.size + 1, 1, none⟩) n2 _).far (p := ⟨w.heap.size + 1, 2, none⟩) n2 _).far (p := ⟨w.heap.size + 1, 3, none⟩) n2 _).far (p := ⟨w.heap.size + 1, 4, none⟩) n2 _)).mono (by omega)
    case false =>
      rw [hend] at c2
      by_cases hlt : s.steps < fuel.toNat
      · have hlt2 : (s.steps : Int) < fuel := by omega
        have Hend := hide hend
        clear hend
        obtain ⟨nb, no, n, hAA, hnb, hn', hnl⟩ := (HA.out.below hB1).get r2
        have hnd : nd l s.pos = n := nd_get hn'
        have hmem := List.mem_of_getElem? hn'
        have ht0 := HR.out.t0 hmem
        have hop := HR.out.ok n hmem
        have HN := hide hmem
        have Hnd := hide hnd
        subst hAA
        obtain ⟨op, d, a, b, t, e⟩ := n
        simp only at ht0 hop
        obtain ⟨n0, n1, n2, n3, n4, n5⟩ := hnl.below hM.below hnb
        simp only at n0 n1 n2 n3 n4 n5
        have lnb := Nat.lt_of_lt_of_le hnb hM.below.size
        have q0 := (hP1.below hM.below lp).cell 0
        have q1 := (hP1.below hM.below lp).cell 1
        have lpw := (hP1.below hM.below lp).lt
        simp only [List.getElem?_toArray, List.getElem?_cons_zero, List.getElem?_cons_succ] at q0 q1
        have u0 : (0 : Int) ≤ (s.pos : Int) := by omega
        have u1 : (s.pos : Int) < (l.length : Int) := by omega
        obtain ⟨W2, hW2⟩ : ∃ W2, W2 = (wr.setCell ⟨rb, 3, none⟩ (.int .i64 ((s.steps : Int) + 1))).alloc (.cells #[.int .i64 op, .int .i64 d, .int .i64 a, .int .i64 b, .int .i64 t, .int .i64 e] 91) := ⟨_, rfl⟩
        obtain ⟨g5, hg5⟩ : ∃ g, g = wr.heap.size := ⟨_, rfl⟩
        have hM2 : RSt w1 regs gr rb ov cv { s with steps := s.steps + 1 } W2 := by rw [hW2]; exact (hM.steps_ (s.steps + 1)).later ((Below.refl _ _).alloc (Nat.le_refl _) _)
        have hmg : ¬ (g5 = rb) := by have := hM.box.lt; omega
        have hN2 : Blk W2 g5 91 #[.int .i64 op, .int .i64 d, .int .i64 a, .int .i64 b, .int .i64 t, .int .i64 e] := by
          rw [hW2]; exact Blk.new' (by rw [hg5]; simp)
        have lrb := hM.box.lt
        have y0 := hN2.cell 0
        have y1 := hN2.cell 1
        have y2 := hN2.cell 2
        have y3 := hN2.cell 3
        have y4 := hN2.cell 4
        have y5 := hN2.cell 5
        have x0 := hM2.box.cell 0
        have x1 := hM2.box.cell 1
        have x2 := hM2.box.cell 2
        have x4 := hM2.box.cell 4
        have xf0 := hM2.box.frozen 0
        have xf1 := hM2.box.frozen 1
        have xf2 := hM2.box.frozen 2
        have xf4 := hM2.box.frozen 4
        have lN := hN2.lt
        have lM2 := hM2.box.lt
        simp only [List.getElem?_toArray, List.getElem?_cons_zero, List.getElem?_cons_succ] at y0 y1 y2 y3 y4 y5 x0 x1 x2 x4
        have nbr := hM2.nbr
        have nbr' : ¬ (gr = rb) := fun e => nbr e.symm
        have ngr : ¬ (g5 = gr) := fun e => (hM2.regs.ne_blk hN2 (by decide)) (by rw [e]; rfl)
        have ngr' : ¬ (gr = g5) := fun e => ngr e.symm
        have hmg' : ¬ (rb = g5) := fun e => hmg e.symm
        have hL : ((t.toNat : Nat) : Int) = t := Int.toNat_of_nonneg ht0
        have HM2 := hide hM2
        have HW2 := hide hW2
        have Hg5 := hide hg5
        have HN2 := hide hN2
        have hS : stepR l inp s = stepR l inp s := rfl
        conv at hS => rhs; unfold stepR
        simp only [Hnd.out] at hS
        have HS := hide hS
        have fin : ∀ (z : Int) (p : Nat) (s' : Rn) (ov' cv' : Value) (W' : World), z = (p : Int) → stepR l inp s = { s' with pos := p } → RSt w1 regs gr rb ov' cv' s' W' →
            ∃ (s2 : Rn) (ov cv : Value), Value.int .i64 z = .int .i64 (s2.pos : Int) ∧ Value.int .i64 (s'.read : Int) = .int .i64 (s2.read : Int) ∧ fuel.toNat - (stepR l inp s).steps = fuel.toNat - s2.steps ∧ s2.steps ≤ fuel.toNat ∧ RnOk regs l inp s2 ∧ goR l inp (fuel.toNat - s2.steps) s2 = runR regs l inp fuel.toNat ∧ RSt w1 regs w1.heap.size (w1.heap.size + 1) ov cv s2 W' := by
          rintro z p s' ov' cv' W' rfl h2 h3
          refine ⟨stepR l inp s, ov', cv', by rw [h2], by rw [h2], rfl, by rw [stepR_steps]; omega, Hok.out.step HR.out, ?_, by rw [h2, ← Hrb.out, ← Hgr.out]; exact h3.pos_ p⟩
          have hg := Hgo.out
          rw [show fuel.toNat - s.steps = (fuel.toNat - (stepR l inp s).steps) + 1 by rw [stepR_steps]; omega, goR_step Hend.out] at hg
          exact hg
        have Hfin := hide fin
        have hmeas : fuel.toNat - (stepR l inp s).steps < gk := by rw [stepR_steps, Hgk.out]; omega
        have Hmeas := hide hmeas
        rw [← Hrb.out, ← Hgr.out]
        have Hok' := Hok
        clear hM hM2 hW2 hg5 hN2 hnl hn' hmem hnd hS fin hmeas hB1 hO1
        by_cases h1 : op = 1
        · subst h1
          as_aux_lemma =>
            have hd := HR.out.dR HN.out rfl
            simp only at hd
            have rdf := (HM2.out.regs.int_ (k := d.toNat) (by show _ < s.regs.length; omega)).2
            have rdc := (HM2.out.regs.int_ (k := d.toNat) (by show _ < s.regs.length; omega)).1
            obtain ⟨hd0, hd1⟩ := hd
            have hd2 : d < max regs 0 := by omega
            go_upto_region 8 with fail
            rw [← HW2.out, ← Hg5.out]
            go_wp2_with fail
            all_goals (cases Hgr.out; cases Hrb.out)
            all_goals (go_roundg (fuel.toNat - (stepR l inp s).steps))
            all_goals (first | exact Hmeas.out | exact Hfin.out _ (t.toNat) { s with steps := s.steps + 1, regs := s.regs.set d.toNat a } ov cv _ (by omega) (by rw [HS.out]; rfl) (HM2.out.setReg d.toNat a))
        by_cases h2' : op = 2
        · subst h2'
          as_aux_lemma =>
            have hd := HR.out.dR HN.out rfl
            simp only at hd
            have ha := HR.out.aR HN.out rfl
            simp only at ha
            have rdf := (HM2.out.regs.int_ (k := d.toNat) (by show _ < s.regs.length; omega)).2
            have rdc := (HM2.out.regs.int_ (k := d.toNat) (by show _ < s.regs.length; omega)).1
            obtain ⟨hd0, hd1⟩ := hd
            have hd2 : d < max regs 0 := by omega
            have ra := (HM2.out.regs.int_ (k := a.toNat) (by show _ < s.regs.length; omega)).1
            rw [Int.toNat_of_nonneg ha.1] at ra
            obtain ⟨ha0, ha1⟩ := ha
            have ha2 : a < max regs 0 := by omega
            go_upto_region 8 with fail
            rw [← HW2.out, ← Hg5.out]
            go_upto_region 11 with fail
            go_region
            all_goals go_wp2_with fail
            all_goals (cases Hgr.out; cases Hrb.out)
            all_goals (go_roundg (fuel.toNat - (stepR l inp s).steps))
            all_goals (first | exact Hmeas.out | exact Hfin.out _ (t.toNat) { s with steps := s.steps + 1, regs := s.regs.set d.toNat (rg s.regs a) } ov cv _ (by omega) (by rw [HS.out, if_neg h1]; rfl) ((HM2.out.setReg d.toNat (rg s.regs a)).later ((Below.refl _ _).drew)))
        by_cases hB : hasB op = true
        · as_aux_lemma =>
            have hDA : hasD op = true ∧ hasA op = true := by
              simp only [hasB, hasD, hasA, inB, Bool.and_eq_true, Bool.or_eq_true, decide_eq_true_eq] at *
              omega
            have hd := HR.out.dR HN.out hDA.1
            have ha := HR.out.aR HN.out hDA.2
            have hb := HR.out.bR HN.out hB
            simp only at hd ha hb
            have o1 : (op == 1) = false := by simpa using h1
            have o2 : (op == 2) = false := by simpa using h2'
            have rdf := (HM2.out.regs.int_ (k := d.toNat) (by show _ < s.regs.length; omega)).2
            have rdc := (HM2.out.regs.int_ (k := d.toNat) (by show _ < s.regs.length; omega)).1
            obtain ⟨hd0, hd1⟩ := hd
            have hd2 : d < max regs 0 := by omega
            have ra := (HM2.out.regs.int_ (k := a.toNat) (by show _ < s.regs.length; omega)).1
            rw [Int.toNat_of_nonneg ha.1] at ra
            obtain ⟨ha0, ha1⟩ := ha
            have ha2 : a < max regs 0 := by omega
            have rb_ := (HM2.out.regs.int_ (k := b.toNat) (by show _ < s.regs.length; omega)).1
            rw [Int.toNat_of_nonneg hb.1] at rb_
            obtain ⟨hb0, hb1⟩ := hb
            have hb2 : b < max regs 0 := by omega
            have HRk0 := fun W => reckons_any op W
            rw [hB] at HRk0
            have HRk := fun W => hide (HRk0 W)
            clear HRk0
            have HRe := fun W => hide (Reckon_any op (rg s.regs a) (rg s.regs b) W)
            have hcl := countsL_len s.ts
            have HOn := fun (W : World) (hC : CRow W w1.heap.size 123 cv (countsL s.ts)) (hz : w1.heap.size ≤ W.heap.size) => hide (onceMore_any ⟨op, a, b⟩ hC hz (by omega) (fun y hy => by have := countsL_le s.ts y hy; omega))
            go_upto_region 8 with fail
            rw [← HW2.out, ← Hg5.out]
            go_upto_region 13 with (go_at_call 75; refine ((HRk _).out).mono ?_; rintro e w9 ⟨rfl, rfl⟩)
            refine wp_region_held_drew (S := fun w' => w'.cell? ⟨g5, 0, none⟩ = some (.int .i64 op) ∧ w'.cell? ⟨g5, 1, none⟩ = some (.int .i64 d) ∧ w'.cell? ⟨g5, 2, none⟩ = some (.int .i64 a) ∧ w'.cell? ⟨g5, 3, none⟩ = some (.int .i64 b)) (by kernel_rfl) ⟨y0, y1, y2, y3⟩ ?_
            intro hHeld
            refine wpAnyH_take (i := 0) (v := ?_) rfl (by kernel_rfl) (by kernel_rfl) (by kernel_rfl) (fun _ _ _ h => h) (Or.inl ⟨by rfl, ?_⟩) hHeld ?_; rotate_left; (focus (intro w' hSw; (try dsimp only at hSw); (try go_split_ands); go_simp; try with_reducible rfl))
            try simp only [List.getElem_toArray, List.getElem_cons_zero, List.getElem_cons_succ, Act.put, List.setIfInBounds_toArray, List.set_cons_zero, List.set_cons_succ]
            refine wpAnyH_take (i := 1) (v := ?_) rfl (by kernel_rfl) (by kernel_rfl) (by kernel_rfl) (fun _ _ _ h => h) (Or.inl ⟨by rfl, ?_⟩) hHeld ?_; rotate_left; (focus (intro w' hSw; (try dsimp only at hSw); (try go_split_ands); go_simp; try with_reducible rfl))
            try simp only [List.getElem_toArray, List.getElem_cons_zero, List.getElem_cons_succ, Act.put, List.setIfInBounds_toArray, List.set_cons_zero, List.set_cons_succ]
            refine wpAnyH_take (i := 2) (v := ?_) rfl (by kernel_rfl) (by kernel_rfl) (by kernel_rfl) (fun _ _ _ h => h) (Or.inl ⟨by rfl, ?_⟩) hHeld ?_; rotate_left; (focus (intro w' hSw; (try dsimp only at hSw); (try go_split_ands); go_simp; try with_reducible rfl))
            try simp only [List.getElem_toArray, List.getElem_cons_zero, List.getElem_cons_succ, Act.put, List.setIfInBounds_toArray, List.set_cons_zero, List.set_cons_succ]
            refine wpAnyH_take (i := 3) (v := ?_) rfl (by kernel_rfl) (by kernel_rfl) (by kernel_rfl) (fun _ _ _ h => h) (Or.inl ⟨by rfl, ?_⟩) hHeld ?_; rotate_left; (focus (intro w' hSw; (try dsimp only at hSw); (try go_split_ands); go_simp; try with_reducible rfl))
            try simp only [List.getElem_toArray, List.getElem_cons_zero, List.getElem_cons_succ, Act.put, List.setIfInBounds_toArray, List.set_cons_zero, List.set_cons_succ]
            refine wpAnyH_take (i := 4) (v := ?_) rfl (by kernel_rfl) (by kernel_rfl) (by kernel_rfl) (fun _ _ _ h => h) (Or.inl ⟨by rfl, ?_⟩) hHeld ?_; rotate_left; (focus (intro w' hSw; (try dsimp only at hSw); (try go_split_ands); go_simp; try with_reducible rfl))
            try simp only [List.getElem_toArray, List.getElem_cons_zero, List.getElem_cons_succ, Act.put, List.setIfInBounds_toArray, List.set_cons_zero, List.set_cons_succ]
            refine wpAnyH_take (i := 5) (v := ?_) rfl (by kernel_rfl) (by kernel_rfl) (by kernel_rfl) (fun _ _ _ h => h) (Or.inl ⟨by rfl, ?_⟩) hHeld ?_; rotate_left; (focus (intro w' hSw; (try dsimp only at hSw); (try go_split_ands); go_simp; try with_reducible rfl))
            try simp only [List.getElem_toArray, List.getElem_cons_zero, List.getElem_cons_succ, Act.put, List.setIfInBounds_toArray, List.set_cons_zero, List.set_cons_succ]
            refine wpAnyH_take (i := 6) (v := ?_) rfl (by kernel_rfl) (by kernel_rfl) (by kernel_rfl) (fun _ _ _ h => h) (Or.inl ⟨by rfl, ?_⟩) hHeld ?_; rotate_left; (focus (intro w' hSw; (try dsimp only at hSw); (try go_split_ands); go_simp; try with_reducible rfl))
            try simp only [List.getElem_toArray, List.getElem_cons_zero, List.getElem_cons_succ, Act.put, List.setIfInBounds_toArray, List.set_cons_zero, List.set_cons_succ]
            refine wpAnyH_take (i := 7) (v := ?_) rfl (by kernel_rfl) (by kernel_rfl) (by kernel_rfl) (fun _ _ _ h => h) (Or.inl ⟨by rfl, ?_⟩) hHeld ?_; rotate_left; (focus (intro w' hSw; (try dsimp only at hSw); (try go_split_ands); go_simp; try with_reducible rfl))
            try simp only [List.getElem_toArray, List.getElem_cons_zero, List.getElem_cons_succ, Act.put, List.setIfInBounds_toArray, List.set_cons_zero, List.set_cons_succ]
            refine wpAnyH_take (i := 8) (v := ?_) rfl (by kernel_rfl) (by kernel_rfl) (by kernel_rfl) (fun _ _ _ h => h) (Or.inl ⟨by rfl, ?_⟩) hHeld ?_; rotate_left; (focus (intro w' hSw; (try dsimp only at hSw); (try go_split_ands); go_simp; try with_reducible rfl))
            try simp only [List.getElem_toArray, List.getElem_cons_zero, List.getElem_cons_succ, Act.put, List.setIfInBounds_toArray, List.set_cons_zero, List.set_cons_succ]
            refine wpAnyH_take (i := 10) (v := ?_) rfl (by kernel_rfl) (by kernel_rfl) (by kernel_rfl) (fun _ _ _ h => h) (Or.inl ⟨by rfl, ?_⟩) hHeld ?_; rotate_left; (focus (intro w' hSw; (try dsimp only at hSw); (try go_split_ands); go_simp; try with_reducible rfl))
            try simp only [List.getElem_toArray, List.getElem_cons_zero, List.getElem_cons_succ, Act.put, List.setIfInBounds_toArray, List.set_cons_zero, List.set_cons_succ]
            refine wpAnyH_take (i := 11) (v := ?_) rfl (by kernel_rfl) (by kernel_rfl) (by kernel_rfl) (fun _ _ _ h => h) (Or.inl ⟨by rfl, ?_⟩) hHeld ?_; rotate_left; (focus (intro w' hSw; (try dsimp only at hSw); (try go_split_ands); go_simp; try with_reducible rfl))
            try simp only [List.getElem_toArray, List.getElem_cons_zero, List.getElem_cons_succ, Act.put, List.setIfInBounds_toArray, List.set_cons_zero, List.set_cons_succ]
            refine wpAnyH_take (i := 12) (v := ?_) rfl (by kernel_rfl) (by kernel_rfl) (by kernel_rfl) (fun _ _ _ h => h) (Or.inl ⟨by rfl, ?_⟩) hHeld ?_; rotate_left; (focus (intro w' hSw; (try dsimp only at hSw); (try go_split_ands); go_simp; try with_reducible rfl))
            try simp only [List.getElem_toArray, List.getElem_cons_zero, List.getElem_cons_succ, Act.put, List.setIfInBounds_toArray, List.set_cons_zero, List.set_cons_succ]
            refine wpAnyH_take (i := 13) (v := ?_) rfl (by kernel_rfl) (by kernel_rfl) (by kernel_rfl) (fun _ _ _ h => h) (Or.inl ⟨by rfl, ?_⟩) hHeld ?_; rotate_left; (focus (intro w' hSw; (try dsimp only at hSw); (try go_split_ands); go_simp; try with_reducible rfl))
            try simp only [List.getElem_toArray, List.getElem_cons_zero, List.getElem_cons_succ, Act.put, List.setIfInBounds_toArray, List.set_cons_zero, List.set_cons_succ]
            refine wpAnyH_ready (rs := [9, 14]) (by kernel_rfl) (by simp) ?_
            refine AllReadyH.cons rfl (fun K hK => ?_) (AllReadyH.cons rfl (fun K hK => ?_) AllReadyH.nil)
            · have HK9 := hide hK
              clear hK
              go_simp
              refine Shut.out HK9.out _ _ hHeld (fun _ => ?_)
              try simp only [List.getElem_toArray, List.getElem_cons_zero, List.getElem_cons_succ, Act.put, List.setIfInBounds_toArray, List.set_cons_zero, List.set_cons_succ]
              refine wpAnyH_ready (rs := [14]) (by kernel_rfl) (by simp) ?_
              refine AllReadyH.cons rfl (fun K hK => ?_) AllReadyH.nil
              have HK14 := hide hK
              clear hK
              go_simp
              refine Shut.out HK14.out _ _ hHeld (fun _ => ?_)
              try simp only [List.getElem_toArray, List.getElem_cons_zero, List.getElem_cons_succ, Act.put, List.setIfInBounds_toArray, List.set_cons_zero, List.set_cons_succ]
              refine wpAnyH_ready (rs := [15]) (by kernel_rfl) (by simp) ?_
              refine AllReadyH.cons rfl (fun K hK => ?_) AllReadyH.nil
              have HK15 := hide hK
              clear hK
              go_simp
              go_at_call 93
              refine ((HRe _).out).mono ?_
              rintro e9 w9 ⟨rfl, rfl⟩
              refine Shut.out HK15.out _ _ hHeld (fun _ => ?_)
              try simp only [List.getElem_toArray, List.getElem_cons_zero, List.getElem_cons_succ, Act.put, List.setIfInBounds_toArray, List.set_cons_zero, List.set_cons_succ]
              refine wpAnyH_take (i := 16) (v := ?_) rfl (by kernel_rfl) (by kernel_rfl) (by kernel_rfl) (fun _ _ _ h => h) (Or.inl ⟨by rfl, ?_⟩) hHeld ?_; rotate_left; (focus (intro w' hSw; (try dsimp only at hSw); (try go_split_ands); go_simp; try with_reducible rfl))
              try simp only [List.getElem_toArray, List.getElem_cons_zero, List.getElem_cons_succ, Act.put, List.setIfInBounds_toArray, List.set_cons_zero, List.set_cons_succ]
              refine wpAnyH_ready (rs := [17]) (by kernel_rfl) (by simp) ?_
              refine AllReadyH.cons rfl (fun K hK => ?_) AllReadyH.nil
              have HK17 := hide hK
              clear hK
              go_simp
              refine Shut.out HK17.out _ _ ?_ (fun _ => ?_)
              · refine ⟨?_, ?_, ?_, ?_⟩ <;> first | assumption | go_keep
              try simp only [List.getElem_toArray, List.getElem_cons_zero, List.getElem_cons_succ, Act.put, List.setIfInBounds_toArray, List.set_cons_zero, List.set_cons_succ]
              refine wpAnyH_done (by kernel_rfl) ?_ _
              clear hHeld HK9 HK14 HK15 HK17
              have hV0 := (HM2.out.setReg d.toNat (reckV op (rg s.regs a) (rg s.regs b))).later ((Below.refl _ _).drew)
              have hNV := (HN2.out.far (p := ⟨gr, d.toNat, none⟩) ngr (.int .i64 (reckV op (rg s.regs a) (rg s.regs b)))).drew
              generalize (W2.setCell ⟨gr, d.toNat, none⟩ (.int .i64 (reckV op (rg s.regs a) (rg s.regs b)))).drew = V at hV0 hNV ⊢
              clear y0 y1 y2 y3 y4 y5 x0 x1 x2 x4 xf0 xf1 xf2 xf4 ra rb_ rdf rdc lN lM2 HW2 HN2 HRk HRe
              have y0 := hNV.cell 0
              have y2 := hNV.cell 2
              have y3 := hNV.cell 3
              have lN := hNV.lt
              have x4 := hV0.box.cell 4
              have xf4 := hV0.box.frozen 4
              have lM2 := hV0.box.lt
              simp only [List.getElem?_toArray, List.getElem?_cons_zero, List.getElem?_cons_succ] at y0 y2 y3 x4
              have HO3 := hide (HOn V hV0.cts hV0.below.size).out
              have HV0 := hide hV0
              have hcb := hV0.cts.ne_blk hV0.box (by decide)
              clear hV0 hNV HOn HM2
              go_wp2_with (go_at_call 94; refine (HO3.out).mono ?_; rintro e9 w9 ⟨cv', rfl, hC9, hg9, hat9⟩; have f9 : w9.frozen? ⟨rb, 4, none⟩ = false := (by rw [hg9.frozen_far _ lM2 (by simp; exact fun e => hcb e.symm)]; exact xf4); have x9 : w9.cell? ⟨rb, 4, none⟩ = some cv := (by rw [hg9.cell_far _ lM2 (by simp; exact fun e => hcb e.symm)]; exact x4); obtain ⟨CA9, cc9, hcv9, _, _⟩ := hC9.shape; subst hcv9)
              all_goals (cases Hgr.out; cases Hrb.out)
              all_goals (go_roundg (fuel.toNat - (stepR l inp s).steps))
              all_goals (first | exact Hmeas.out | exact Hfin.out _ (t.toNat) { s with steps := s.steps + 1, regs := s.regs.set d.toNat (reckV op (rg s.regs a) (rg s.regs b)), ts := s.ts ++ [⟨op, a, b⟩] } ov _ _ (by omega) (by rw [HS.out, if_neg h1, if_neg h2', if_pos hB]; rfl) (HV0.out.ctsGrown hg9 hC9))
            · have HK14 := hide hK
              clear hK
              go_simp
              refine Shut.out HK14.out _ _ hHeld (fun _ => ?_)
              try simp only [List.getElem_toArray, List.getElem_cons_zero, List.getElem_cons_succ, Act.put, List.setIfInBounds_toArray, List.set_cons_zero, List.set_cons_succ]
              refine wpAnyH_ready (rs := [9]) (by kernel_rfl) (by simp) ?_
              refine AllReadyH.cons rfl (fun K hK => ?_) AllReadyH.nil
              have HK9 := hide hK
              clear hK
              go_simp
              refine Shut.out HK9.out _ _ hHeld (fun _ => ?_)
              try simp only [List.getElem_toArray, List.getElem_cons_zero, List.getElem_cons_succ, Act.put, List.setIfInBounds_toArray, List.set_cons_zero, List.set_cons_succ]
              refine wpAnyH_ready (rs := [15]) (by kernel_rfl) (by simp) ?_
              refine AllReadyH.cons rfl (fun K hK => ?_) AllReadyH.nil
              have HK15 := hide hK
              clear hK
              go_simp
              go_at_call 93
              refine ((HRe _).out).mono ?_
              rintro e9 w9 ⟨rfl, rfl⟩
              refine Shut.out HK15.out _ _ hHeld (fun _ => ?_)
              try simp only [List.getElem_toArray, List.getElem_cons_zero, List.getElem_cons_succ, Act.put, List.setIfInBounds_toArray, List.set_cons_zero, List.set_cons_succ]
              refine wpAnyH_take (i := 16) (v := ?_) rfl (by kernel_rfl) (by kernel_rfl) (by kernel_rfl) (fun _ _ _ h => h) (Or.inl ⟨by rfl, ?_⟩) hHeld ?_; rotate_left; (focus (intro w' hSw; (try dsimp only at hSw); (try go_split_ands); go_simp; try with_reducible rfl))
              try simp only [List.getElem_toArray, List.getElem_cons_zero, List.getElem_cons_succ, Act.put, List.setIfInBounds_toArray, List.set_cons_zero, List.set_cons_succ]
              refine wpAnyH_ready (rs := [17]) (by kernel_rfl) (by simp) ?_
              refine AllReadyH.cons rfl (fun K hK => ?_) AllReadyH.nil
              have HK17 := hide hK
              clear hK
              go_simp
              refine Shut.out HK17.out _ _ ?_ (fun _ => ?_)
              · refine ⟨?_, ?_, ?_, ?_⟩ <;> first | assumption | go_keep
              try simp only [List.getElem_toArray, List.getElem_cons_zero, List.getElem_cons_succ, Act.put, List.setIfInBounds_toArray, List.set_cons_zero, List.set_cons_succ]
              refine wpAnyH_done (by kernel_rfl) ?_ _
              clear hHeld HK9 HK14 HK15 HK17
              have hV0 := (HM2.out.setReg d.toNat (reckV op (rg s.regs a) (rg s.regs b))).later ((Below.refl _ _).drew)
              have hNV := (HN2.out.far (p := ⟨gr, d.toNat, none⟩) ngr (.int .i64 (reckV op (rg s.regs a) (rg s.regs b)))).drew
              generalize (W2.setCell ⟨gr, d.toNat, none⟩ (.int .i64 (reckV op (rg s.regs a) (rg s.regs b)))).drew = V at hV0 hNV ⊢
              clear y0 y1 y2 y3 y4 y5 x0 x1 x2 x4 xf0 xf1 xf2 xf4 ra rb_ rdf rdc lN lM2 HW2 HN2 HRk HRe
              have y0 := hNV.cell 0
              have y2 := hNV.cell 2
              have y3 := hNV.cell 3
              have lN := hNV.lt
              have x4 := hV0.box.cell 4
              have xf4 := hV0.box.frozen 4
              have lM2 := hV0.box.lt
              simp only [List.getElem?_toArray, List.getElem?_cons_zero, List.getElem?_cons_succ] at y0 y2 y3 x4
              have HO3 := hide (HOn V hV0.cts hV0.below.size).out
              have HV0 := hide hV0
              have hcb := hV0.cts.ne_blk hV0.box (by decide)
              clear hV0 hNV HOn HM2
              go_wp2_with (go_at_call 94; refine (HO3.out).mono ?_; rintro e9 w9 ⟨cv', rfl, hC9, hg9, hat9⟩; have f9 : w9.frozen? ⟨rb, 4, none⟩ = false := (by rw [hg9.frozen_far _ lM2 (by simp; exact fun e => hcb e.symm)]; exact xf4); have x9 : w9.cell? ⟨rb, 4, none⟩ = some cv := (by rw [hg9.cell_far _ lM2 (by simp; exact fun e => hcb e.symm)]; exact x4); obtain ⟨CA9, cc9, hcv9, _, _⟩ := hC9.shape; subst hcv9)
              all_goals (cases Hgr.out; cases Hrb.out)
              all_goals (go_roundg (fuel.toNat - (stepR l inp s).steps))
              all_goals (first | exact Hmeas.out | exact Hfin.out _ (t.toNat) { s with steps := s.steps + 1, regs := s.regs.set d.toNat (reckV op (rg s.regs a) (rg s.regs b)), ts := s.ts ++ [⟨op, a, b⟩] } ov _ _ (by omega) (by rw [HS.out, if_neg h1, if_neg h2', if_pos hB]; rfl) (HV0.out.ctsGrown hg9 hC9))
        by_cases h9 : op = 9
        · subst h9
          by_cases hi9 : s.read < inp.length
          · as_aux_lemma =>
              have HRk0 := fun W => reckons_any 9 W
              rw [show hasB 9 = false from rfl] at HRk0
              have HRk := fun W => hide (HRk0 W)
              clear HRk0
              have hd := HR.out.dR HN.out rfl
              simp only at hd
              have rdf := (HM2.out.regs.int_ (k := d.toNat) (by show _ < s.regs.length; omega)).2
              have rdc := (HM2.out.regs.int_ (k := d.toNat) (by show _ < s.regs.length; omega)).1
              obtain ⟨hd0, hd1⟩ := hd
              have hd2 : d < max regs 0 := by omega
              obtain ⟨ib, io, z, rfl, hib, hiz, ciz1⟩ := HI1.out.int (k := s.read) hi9
              have ciz := ((bcell HM2.out.below).1 _ _ hib).trans ciz1
              have nig : ¬ (ib = gr) := by have := HM2.out.grlo; omega
              have nib : ¬ (ib = rb) := by have := HM2.out.mlo; omega
              have hz2 : inp.getD s.read 0 = z := by rw [List.getD_eq_getElem?_getD, hiz]; rfl
              have v0 : (0 : Int) ≤ (s.read : Int) := by omega
              have v1 : (s.read : Int) < (inp.length : Int) := by omega
              have Hz2 := hide hz2
              clear hz2 hiz ciz1
              go_upto_region 8 with fail
              rw [← HW2.out, ← Hg5.out]
              go_upto_region 18 with (go_at_call 75; refine ((HRk _).out).mono ?_; rintro e9 w9 ⟨rfl, rfl⟩)
              go_region
              all_goals go_wp2_with fail
              all_goals have hr1 := ((HM2.out.setReg d.toNat 0).setReg d.toNat z)
              all_goals simp only [List.set_set] at hr1
              all_goals (cases Hgr.out; cases Hrb.out)
              all_goals (go_roundg (fuel.toNat - (stepR l inp s).steps))
              all_goals (first | exact Hmeas.out | exact Hfin.out _ (t.toNat) { s with steps := s.steps + 1, regs := s.regs.set d.toNat z, read := s.read + 1 } ov cv _ (by omega) (by rw [HS.out, if_neg h1, if_neg h2', if_neg hB, if_pos trivial, if_pos hi9, Hz2.out]) ((hr1.read_ (s.read + 1)).later ((Below.refl _ _).drew)))
          · as_aux_lemma =>
              have HRk0 := fun W => reckons_any 9 W
              rw [show hasB 9 = false from rfl] at HRk0
              have HRk := fun W => hide (HRk0 W)
              clear HRk0
              have hd := HR.out.dR HN.out rfl
              simp only at hd
              have rdf := (HM2.out.regs.int_ (k := d.toNat) (by show _ < s.regs.length; omega)).2
              have rdc := (HM2.out.regs.int_ (k := d.toNat) (by show _ < s.regs.length; omega)).1
              obtain ⟨hd0, hd1⟩ := hd
              have hd2 : d < max regs 0 := by omega
              have v1 : ¬ (s.read : Int) < (inp.length : Int) := by omega
              go_upto_region 8 with fail
              rw [← HW2.out, ← Hg5.out]
              go_wp2_with (go_at_call 75; refine ((HRk _).out).mono ?_; rintro e9 w9 ⟨rfl, rfl⟩)
              all_goals (cases Hgr.out; cases Hrb.out)
              all_goals (go_roundg (fuel.toNat - (stepR l inp s).steps))
              all_goals (first | exact Hmeas.out | exact Hfin.out _ (t.toNat) { s with steps := s.steps + 1, regs := s.regs.set d.toNat 0 } ov cv _ (by omega) (by rw [HS.out, if_neg h1, if_neg h2', if_neg hB, if_pos trivial, if_neg hi9]) (HM2.out.setReg d.toNat 0))
        by_cases h10 : op = 10
        · subst h10
          as_aux_lemma =>
            have HRk0 := fun W => reckons_any 10 W
            rw [show hasB 10 = false from rfl] at HRk0
            have HRk := fun W => hide (HRk0 W)
            clear HRk0
            have ha := HR.out.aR HN.out rfl
            simp only at ha
            have ra := (HM2.out.regs.int_ (k := a.toNat) (by show _ < s.regs.length; omega)).1
            rw [Int.toNat_of_nonneg ha.1] at ra
            obtain ⟨ha0, ha1⟩ := ha
            have ha2 : a < max regs 0 := by omega
            obtain ⟨OA, oc, hov, hoc1, hoc2⟩ := HM2.out.out.shape
            rw [ints_length] at hov hoc1
            subst hov
            have hlo := ints_length s.out
            have hwz := HM2.out.below.size
            have hO2 := HM2.out.out
            have hob : ¬ ((Value.slice OA s.out.length oc).ownBlock = some rb) := fun e => HM2.out.out.ne_blk HM2.out.box (by decide) e
            have hon : ¬ ((Value.slice OA s.out.length oc).ownBlock = some g5) := fun e => HM2.out.out.ne_blk HN2.out (by decide) e
            go_upto_region 8 with fail
            rw [← HW2.out, ← Hg5.out]
            go_upto_region 21 with (go_at_call 75; refine ((HRk _).out).mono ?_; rintro e9 w9 ⟨rfl, rfl⟩)
            go_region_law (refine step_append_row (v := .slice OA s.out.length oc) (by rfl) _ _ _ (by rfl) i3 _ 8 Try.underlying56 h3i h3z h3s h3b rfl (by rfl) ((hO2.alloc _).drew) (some ⟨W2.heap.size, 0, none⟩) 1 1 [.int .i64 (rg s.regs a)] (by rfl) (by rfl) (vals_one' (by simp)) (by simp [Value.oneCell']) (by simp [maxLen] <;> omega) (by simp <;> omega) (by simp <;> omega) ?_; intro v1 w9 hr1 hg1 hat1; have f5 : w9.frozen? ⟨rb, 0, none⟩ = false := (by rw [hg1.frozen_far _ (by simp <;> omega) (by simp; exact fun e => hob e.symm)]; exact (fpast lM2).trans xf0); have x5 : w9.cell? ⟨rb, 0, none⟩ = some (.slice OA s.out.length oc) := (by rw [hg1.cell_far _ (by simp <;> omega) (by simp; exact fun e => hob e.symm)]; exact (cpast lM2).trans x0); have y4' : w9.cell? ⟨g5, 4, none⟩ = some (.int .i64 t) := (by rw [hg1.cell_far _ (by simp <;> omega) (by simp; exact fun e => hon e.symm)]; exact (cpast lN).trans y4); obtain ⟨A1, cp1, hv1, _, _⟩ := hr1.shape; subst hv1)
            all_goals as_aux_lemma =>
              (try simp only [Exit.inBlock])
              go_wp2_with fail
              (simp only [List.length_append, List.length_singleton, ints_length] at hr1 hat1)
              have hr1 : Row w9 w1.heap.size 3 _ (ints (s.out ++ [rg s.regs a])) := (by rw [show ints (s.out ++ [rg s.regs a]) = ints s.out ++ [.int .i64 (rg s.regs a)] by simp [ints]]; exact hr1)
              all_goals (cases Hgr.out; cases Hrb.out)
              all_goals (go_roundg (fuel.toNat - (stepR l inp s).steps))
              all_goals (first | exact Hmeas.out | exact Hfin.out _ (t.toNat) { s with steps := s.steps + 1, out := s.out ++ [rg s.regs a] } _ cv _ (by omega) (by rw [HS.out, if_neg h1, if_neg h2', if_neg hB, if_neg h9, if_pos trivial]) (((HM2.out.later ((Below.refl _ _).alloc (Nat.le_refl _) _)).later ((Below.refl _ _).drew)).outGrown hg1 hr1 (by simpa using hat1)))
        by_cases h11 : op = 11
        · subst h11
          by_cases hz : rg s.regs a = 0
          · as_aux_lemma =>
              have HRk0 := fun W => reckons_any 11 W
              rw [show hasB 11 = false from rfl] at HRk0
              have HRk := fun W => hide (HRk0 W)
              clear HRk0
              have ha := HR.out.aR HN.out rfl
              simp only at ha
              have ra := (HM2.out.regs.int_ (k := a.toNat) (by show _ < s.regs.length; omega)).1
              rw [Int.toNat_of_nonneg ha.1] at ra
              obtain ⟨ha0, ha1⟩ := ha
              have ha2 : a < max regs 0 := by omega
              have hez := HR.out.else_ HN.out rfl
              simp only at hez
              rw [hz] at ra
              have Hz := hide hz
              clear hz
              go_upto_region 8 with fail
              rw [← HW2.out, ← Hg5.out]
              go_wp2_with (go_at_call 75; refine ((HRk _).out).mono ?_; rintro e9 w9 ⟨rfl, rfl⟩)
              all_goals (cases Hgr.out; cases Hrb.out)
              all_goals (go_roundg (fuel.toNat - (stepR l inp s).steps))
              all_goals (first | exact Hmeas.out | exact Hfin.out _ (e.toNat) { s with steps := s.steps + 1 } ov cv _ (by omega) (by rw [HS.out, if_neg h1, if_neg h2', if_neg hB, if_neg h9, if_neg h10, if_pos trivial, if_pos Hz.out]) HM2.out)
          · as_aux_lemma =>
              have HRk0 := fun W => reckons_any 11 W
              rw [show hasB 11 = false from rfl] at HRk0
              have HRk := fun W => hide (HRk0 W)
              clear HRk0
              have ha := HR.out.aR HN.out rfl
              simp only at ha
              have ra := (HM2.out.regs.int_ (k := a.toNat) (by show _ < s.regs.length; omega)).1
              rw [Int.toNat_of_nonneg ha.1] at ra
              obtain ⟨ha0, ha1⟩ := ha
              have ha2 : a < max regs 0 := by omega
              have Hz := hide hz
              obtain ⟨xa, hxa⟩ : ∃ x, x = rg s.regs a := ⟨_, rfl⟩
              rw [← hxa] at ra hz
              have hz2 : (xa == 0) = false := by simpa using hz
              clear hxa
              go_upto_region 8 with fail
              rw [← HW2.out, ← Hg5.out]
              go_wp2_with (go_at_call 75; refine ((HRk _).out).mono ?_; rintro e9 w9 ⟨rfl, rfl⟩)
              all_goals (cases Hgr.out; cases Hrb.out)
              all_goals (go_roundg (fuel.toNat - (stepR l inp s).steps))
              all_goals (first | exact Hmeas.out | exact Hfin.out _ (t.toNat) { s with steps := s.steps + 1 } ov cv _ (by omega) (by rw [HS.out, if_neg h1, if_neg h2', if_neg hB, if_neg h9, if_neg h10, if_pos trivial, if_neg Hz.out]) HM2.out)
        by_cases h12 : op = 12
        · subst h12
          as_aux_lemma =>
            have HRk0 := fun W => reckons_any 12 W
            rw [show hasB 12 = false from rfl] at HRk0
            have HRk := fun W => hide (HRk0 W)
            clear HRk0
            have ha := HR.out.aR HN.out rfl
            simp only at ha
            have ra := (HM2.out.regs.int_ (k := a.toNat) (by show _ < s.regs.length; omega)).1
            rw [Int.toNat_of_nonneg ha.1] at ra
            obtain ⟨ha0, ha1⟩ := ha
            have ha2 : a < max regs 0 := by omega
            go_upto_region 8 with fail
            rw [← HW2.out, ← Hg5.out]
            go_wp2_with (go_at_call 75; refine ((HRk _).out).mono ?_; rintro e9 w9 ⟨rfl, rfl⟩)
            all_goals (cases Hgr.out; cases Hrb.out)
            all_goals (go_roundg (fuel.toNat - (stepR l inp s).steps))
            all_goals (first | exact Hmeas.out | exact Hfin.out _ (t.toNat) { s with steps := s.steps + 1, ret := rg s.regs a, ended := true } ov cv _ (by omega) (by rw [HS.out, if_neg h1, if_neg h2', if_neg hB, if_neg h9, if_neg h10, if_neg h11, if_pos trivial]) ((HM2.out.put 1 (.int .i64 (rg s.regs a)) { s with steps := s.steps + 1, ret := rg s.regs a } rfl rfl rfl rfl).put 2 (.bool true) { s with steps := s.steps + 1, ret := rg s.regs a, ended := true } rfl rfl rfl rfl))
        have h0 : op = 0 := by
          simp only [opOk, hasB, inB, Bool.and_eq_true, decide_eq_true_eq] at *
          omega
        subst h0
        as_aux_lemma =>
          have HRk0 := fun W => reckons_any 0 W
          rw [show hasB 0 = false from rfl] at HRk0
          have HRk := fun W => hide (HRk0 W)
          clear HRk0
          go_upto_region 8 with fail
          rw [← HW2.out, ← Hg5.out]
          go_wp2_with (go_at_call 75; refine ((HRk _).out).mono ?_; rintro e9 w9 ⟨rfl, rfl⟩)
          all_goals (cases Hgr.out; cases Hrb.out)
          all_goals (go_roundg (fuel.toNat - (stepR l inp s).steps))
          all_goals (first | exact Hmeas.out | exact Hfin.out _ (t.toNat) { s with steps := s.steps + 1 } ov cv _ (by omega) (by rw [HS.out, if_neg h1, if_neg h2', if_neg hB, if_neg h9, if_neg h10, if_neg h11, if_neg h12]) HM2.out)
      · have hge : ¬ (s.steps : Int) < fuel := by omega
        have hfin : s = runR regs l inp fuel.toNat := by
          rw [← Hgo.out, show fuel.toNat - s.steps = 0 by omega]; rfl
        have Hfin := hide hfin
        have b0 := hM.box.cell 0
        have b1 := hM.box.cell 1
        have b4 := hM.box.cell 4
        have lb := hM.box.lt
        have hO7 := hO1.below hM.below lo
        have o0 := hO7.cell 0
        have o1 := hO7.cell 1
        have o2 := hO7.cell 2
        have o3 := hO7.cell 3
        have o4 := hO7.cell 4
        have g0 := hO7.frozen 0
        have g1 := hO7.frozen 1
        have g2 := hO7.frozen 2
        have g3 := hO7.frozen 3
        have g4 := hO7.frozen 4
        have lo7 := hO7.lt
        simp only [List.getElem?_toArray, List.getElem?_cons_zero, List.getElem?_cons_succ] at b0 b1 b4 o0 o1 o2 o3 o4
        obtain ⟨OA, oc, hov, _, _⟩ := hM.out.shape
        obtain ⟨CA, cc, hcv, _, _⟩ := hM.cts.shape
        subst hov hcv
        have hM7 := hide hM
        have hbz := hM.below.size
        have nmo : ¬ (rb = w.heap.size + 1) := by omega
        rw [← Hrb.out, ← Hgr.out]
        clear hfin hM hO7
        go_wp2_with fail
        refine bodyPost_ret (v := .agg #[.slice OA (ints s.out).length oc, .int .i64 s.ret, .bool s.ended, .int .i64 (s.steps : Int), .slice CA (countsL s.ts).length cc]) (by simp [results, Try.results44, go_sem, o0, o1, o2, o3, o4, hend, World.cell?_setCell_same, World.cell?_setCell_other]) rfl ?_
        have hq7 := hM7.out
        have hBq : Below w.heap.size w wr := hB1.trans (hq7.below.mono (by omega))
        have n1 : (Value.slice OA (ints s.out).length oc).ownBlock ≠ some (w.heap.size + 1) := fun e => by have := (hq7.out.lt _ e).1; omega
        have n2 : (Value.slice CA (countsL s.ts).length cc).ownBlock ≠ some (w.heap.size + 1) := fun e => by have := (hq7.cts.lt _ e).1; omega
        unfold ROfPost
        rw [← Hfin.out]
        refine ⟨(by repeat (first | (with_reducible exact Below.refl _ _) | (with_reducible assumption) | (with_reducible refine Below.drew ?_) | (with_reducible refine below_drewN ?_ _) | (with_reducible refine Below.alloc ?_ (by (try simp only [World.size_alloc, World.size_setCell, World.size_drew, World.heap_drewN]); (first | done | omega | ((try simp only [World.size_alloc, World.size_setCell, World.size_drew, World.heap_drewN] at *); omega))) _) | (with_reducible refine Below.setCell ?_ (by (try simp only [World.size_alloc, World.size_setCell, World.size_drew, World.heap_drewN]); (first | done | omega | ((try simp only [World.size_alloc, World.size_setCell, World.size_drew, World.heap_drewN] at *); omega))) _) | (with_reducible refine Below.trans ?_ (Below.mono (by assumption) (by (try simp only [World.size_alloc, World.size_setCell, World.size_drew, World.heap_drewN]); (first | done | omega | ((try simp only [World.size_alloc, World.size_setCell, World.size_drew, World.heap_drewN] at *); omega))))))), _, rfl, _, _, rfl, ?_, ?_⟩
        · exact ((((((hq7.out.far (p := ⟨w.heap.size + 1, 0, none⟩) n1 _).far (p := ⟨w.heap.size + 1, 1, none⟩) n1 _).far (p := ⟨w.heap.size + 1, 2, none⟩) n1 _).far (p := ⟨w.heap.size + 1, 3, none⟩) n1 _).far (p := ⟨w.heap.size + 1, 4, none⟩) n1 _)).mono (by omega)
        · exact ((((((hq7.cts.far (p := ⟨w.heap.size + 1, 0, none⟩) n2 _).far (p := ⟨w.heap.size + 1, 1, none⟩) n2 _).far (p := ⟨w.heap.size + 1, 2, none⟩) n2 _).far (p := ⟨w.heap.size + 1, 3, none⟩) n2 _).far (p := ⟨w.heap.size + 1, 4, none⟩) n2 _)).mono (by omega)
end Go.Proofs.Ytmghkonmfbpjcaa
