/- flow.Holds. -/
import Derived.Test.YtmghkonmfbpjcaaFlowG
import Derived.Test.YtmghkonmfbpjcaaHoldsR
import Derived.Deep.LoopGhost
import Derived.Deep.RegionHeld3
namespace Go.Proofs.Ytmghkonmfbpjcaa
set_option linter.unusedVariables false
set_option linter.unusedSimpArgs false
open Go.RowKit
set_option maxHeartbeats 2000000

theorem fchk_zero {regs : Int} {l : List Nd} {g p q t : Nat} (h : fchk regs l g p q t = 0) : Right regs l ∧ g = l.length ∧ p = l.length ∧ q = l.length ∧ t = l.length := by
  unfold fchk at h
  split at h
  · rename_i h1; exact absurd h h1
  · rename_i h1
    split at h
    · rename_i h2
      refine ⟨right_of_chk (by simpa using h1), ?_⟩
      simp only [okLens, Bool.and_eq_true, beq_iff_eq] at h2
      omega
    · cases h

theorem Holds_err
    (regs : Int) (A : Option Addr) (l : List Nd) (cap : Nat) (bk em : Bool) (G P Q T X : Option Addr) (g p q t xn gc pc qc tc xc : Nat) (w : World) (hA : NodesAt w A l) (hml : l.length ≤ maxLen)
    (hfe : fchk regs l g p q t ≠ 0) :
    Calls Try.prog 12 #[.agg #[.int .i64 regs, .slice A l.length cap], .agg #[.bool bk, .bool em, .slice G g gc, .slice P p pc, .slice Q q qc, .slice T t tc], .slice X xn xc] w
      fun e w' => e = .returned (.tuple #[.bool false, .int .i64 (fchk regs l g p q t)]) ∧ Below w.heap.size w w' := by
  generalize hq : fchk regs l g p q t = fe at *
  have Hq := hide hq
  clear hq
  have hne : (fe != 0) = true := by simpa using hfe
  clear hfe
  go_enter Try.func12, Try.ntmps12
  go_wp2_with (go_at_call 17; refine (FCheck_any _ _ _ _ _ _ _ _ _ _ _ _ _ _ _ _ _ _ _ hml (hA.below (by repeat (first | (with_reducible exact Below.refl _ _) | (with_reducible assumption) | (with_reducible refine Below.drew ?_) | (with_reducible refine below_drewN ?_ _) | (with_reducible refine Below.alloc ?_ (by (try simp only [World.size_alloc, World.size_setCell, World.size_drew, World.heap_drewN]); (first | done | omega | ((try simp only [World.size_alloc, World.size_setCell, World.size_drew, World.heap_drewN] at *); omega))) _) | (with_reducible refine Below.setCell ?_ (by (try simp only [World.size_alloc, World.size_setCell, World.size_drew, World.heap_drewN]); (first | done | omega | ((try simp only [World.size_alloc, World.size_setCell, World.size_drew, World.heap_drewN] at *); omega))) _) | (with_reducible refine Below.trans ?_ (Below.mono (by assumption) (by (try simp only [World.size_alloc, World.size_setCell, World.size_drew, World.heap_drewN]); (first | done | omega | ((try simp only [World.size_alloc, World.size_setCell, World.size_drew, World.heap_drewN] at *); omega))))))))).mono ?_; rw [Hq.out]; rintro e w1 ⟨rfl, hb1⟩)
  go_ret2
  exact ⟨rfl, (by repeat (first | (with_reducible exact Below.refl _ _) | (with_reducible assumption) | (with_reducible refine Below.drew ?_) | (with_reducible refine below_drewN ?_ _) | (with_reducible refine Below.alloc ?_ (by (try simp only [World.size_alloc, World.size_setCell, World.size_drew, World.heap_drewN]); (first | done | omega | ((try simp only [World.size_alloc, World.size_setCell, World.size_drew, World.heap_drewN] at *); omega))) _) | (with_reducible refine Below.setCell ?_ (by (try simp only [World.size_alloc, World.size_setCell, World.size_drew, World.heap_drewN]); (first | done | omega | ((try simp only [World.size_alloc, World.size_setCell, World.size_drew, World.heap_drewN] at *); omega))) _) | (with_reducible refine Below.trans ?_ (Below.mono (by assumption) (by (try simp only [World.size_alloc, World.size_setCell, World.size_drew, World.heap_drewN]); (first | done | omega | ((try simp only [World.size_alloc, World.size_setCell, World.size_drew, World.heap_drewN] at *); omega)))))))⟩

theorem Holds_len
    (regs : Int) (A : Option Addr) (l : List Nd) (cap : Nat) (bk em : Bool) (G P Q T X : Option Addr) (g p q t xn gc pc qc tc xc : Nat) (w : World) (hA : NodesAt w A l) (hml : l.length ≤ maxLen)
    (hfe : fchk regs l g p q t = 0) (hxn : xn ≠ l.length) (hmx : xn ≤ maxLen) :
    Calls Try.prog 12 #[.agg #[.int .i64 regs, .slice A l.length cap], .agg #[.bool bk, .bool em, .slice G g gc, .slice P p pc, .slice Q q qc, .slice T t tc], .slice X xn xc] w
      fun e w' => e = .returned (.tuple #[.bool false, .int .i64 1]) ∧ Below w.heap.size w w' := by
  have Hq := hide hfe
  clear hfe
  unfold maxLen at hmx
  have h1 : ((xn : Int) != (l.length : Int)) = true := by simp; omega
  go_enter Try.func12, Try.ntmps12
  go_wp2_with (go_at_call 17; refine (FCheck_any _ _ _ _ _ _ _ _ _ _ _ _ _ _ _ _ _ _ _ hml (hA.below (by repeat (first | (with_reducible exact Below.refl _ _) | (with_reducible assumption) | (with_reducible refine Below.drew ?_) | (with_reducible refine below_drewN ?_ _) | (with_reducible refine Below.alloc ?_ (by (try simp only [World.size_alloc, World.size_setCell, World.size_drew, World.heap_drewN]); (first | done | omega | ((try simp only [World.size_alloc, World.size_setCell, World.size_drew, World.heap_drewN] at *); omega))) _) | (with_reducible refine Below.setCell ?_ (by (try simp only [World.size_alloc, World.size_setCell, World.size_drew, World.heap_drewN]); (first | done | omega | ((try simp only [World.size_alloc, World.size_setCell, World.size_drew, World.heap_drewN] at *); omega))) _) | (with_reducible refine Below.trans ?_ (Below.mono (by assumption) (by (try simp only [World.size_alloc, World.size_setCell, World.size_drew, World.heap_drewN]); (first | done | omega | ((try simp only [World.size_alloc, World.size_setCell, World.size_drew, World.heap_drewN] at *); omega))))))))).mono ?_; rw [Hq.out]; rintro e w1 ⟨rfl, hb1⟩; have hz1 := hb1.size; simp only [World.size_alloc] at hz1; have hP1 : Blk w1 w.heap.size 24 #[.int .i64 regs, .slice A l.length cap] := Blk.below (Blk.alloc (Blk.new' rfl) _) hb1 (by (try simp only [World.size_alloc, World.size_setCell, World.size_drew, World.heap_drewN]); (first | done | omega | ((try simp only [World.size_alloc, World.size_setCell, World.size_drew, World.heap_drewN] at *); omega))); have p1 := hP1.cell 1; simp only [List.getElem?_toArray, List.getElem?_cons_zero, List.getElem?_cons_succ] at p1)
  go_ret2
  exact ⟨rfl, (by repeat (first | (with_reducible exact Below.refl _ _) | (with_reducible assumption) | (with_reducible refine Below.drew ?_) | (with_reducible refine below_drewN ?_ _) | (with_reducible refine Below.alloc ?_ (by (try simp only [World.size_alloc, World.size_setCell, World.size_drew, World.heap_drewN]); (first | done | omega | ((try simp only [World.size_alloc, World.size_setCell, World.size_drew, World.heap_drewN] at *); omega))) _) | (with_reducible refine Below.setCell ?_ (by (try simp only [World.size_alloc, World.size_setCell, World.size_drew, World.heap_drewN]); (first | done | omega | ((try simp only [World.size_alloc, World.size_setCell, World.size_drew, World.heap_drewN] at *); omega))) _) | (with_reducible refine Below.trans ?_ (Below.mono (by assumption) (by (try simp only [World.size_alloc, World.size_setCell, World.size_drew, World.heap_drewN]); (first | done | omega | ((try simp only [World.size_alloc, World.size_setCell, World.size_drew, World.heap_drewN] at *); omega)))))))⟩

set_option maxRecDepth 100000 in
theorem Holds_ok
    (regs : Int) (A : Option Addr) (l : List Nd) (cap : Nat) (bk em : Bool) (G P Q T X : Option Addr) (g p q t xn gc pc qc tc xc : Nat) (w : World) (hA : NodesAt w A l) (hml : l.length ≤ maxLen)
    (gen pass plus lt x : List Bool)
    (hG : ValsAt w G (bools gen)) (hP : ValsAt w P (bools pass)) (hQ : ValsAt w Q (bools plus)) (hT : ValsAt w T (bools lt)) (hX : ValsAt w X (bools x))
    (hg : gen.length = g) (hp : pass.length = p) (hq : plus.length = q) (ht : lt.length = t) (hx : x.length = xn)
    (hfe : fchk regs l g p q t = 0) (hxn : xn = l.length) :
    Calls Try.prog 12 #[.agg #[.int .i64 regs, .slice A l.length cap], .agg #[.bool bk, .bool em, .slice G g gc, .slice P p pc, .slice Q q qc, .slice T t tc], .slice X xn xc] w
      fun e w' => e = .returned (.tuple #[.bool (holdsB (flowS bk em gen pass plus lt l) l.length x), .int .i64 0]) ∧ Below w.heap.size w w' := by
  obtain ⟨hR, e1, e2, e3, e4⟩ := fchk_zero hfe
  subst hxn
  have hsays := fun (n : Nat) (B GA GB : Nat) (vs : Nat → Value) (xs : Nat → List Int) (w1 W : World) (hgr : Graph 56 3 B GA GB bk l.length (PEk l l.length) w1 vs xs) (hb : Below w1.heap.size w1 W) (hW : Below w.heap.size w W) (hn : n < l.length) =>
    graph_says bk em G P Q T X g p q t l.length gc pc qc tc xc gen pass plus lt x l B GA GB n vs xs w1 W (hG.below hW) (hP.below hW) (hQ.below hW) (hT.below hW) (hX.below hW) hg hp hq ht hx e1 e2 e3 e4 rfl hR.hi hgr hb hn hR.exits
  have Hsays := hide hsays
  have Hx := hide hx
  have Hq := hide hfe
  have hl2 := hR.hi
  have hof := fun (W : World) (hW : Below w.heap.size w W) => FlowOf_any regs A l cap bk W ⟨hR.lo, hR.hi⟩ (hA.below hW) hR.exits
  have Hof := hide hof
  clear hsays hG hP hQ hT hg hp hq ht e1 e2 e3 e4 hx hfe hof
  have h1 : ((l.length : Int) != (l.length : Int)) = false := by simp
  go_enter Try.func12, Try.ntmps12
  go_wp2_with (first
    | (go_at_call 17; refine (FCheck_any _ _ _ _ _ _ _ _ _ _ _ _ _ _ _ _ _ _ _ hml (hA.below (by repeat (first | (with_reducible exact Below.refl _ _) | (with_reducible assumption) | (with_reducible refine Below.drew ?_) | (with_reducible refine below_drewN ?_ _) | (with_reducible refine Below.alloc ?_ (by (try simp only [World.size_alloc, World.size_setCell, World.size_drew, World.heap_drewN]); (first | done | omega | ((try simp only [World.size_alloc, World.size_setCell, World.size_drew, World.heap_drewN] at *); omega))) _) | (with_reducible refine Below.setCell ?_ (by (try simp only [World.size_alloc, World.size_setCell, World.size_drew, World.heap_drewN]); (first | done | omega | ((try simp only [World.size_alloc, World.size_setCell, World.size_drew, World.heap_drewN] at *); omega))) _) | (with_reducible refine Below.trans ?_ (Below.mono (by assumption) (by (try simp only [World.size_alloc, World.size_setCell, World.size_drew, World.heap_drewN]); (first | done | omega | ((try simp only [World.size_alloc, World.size_setCell, World.size_drew, World.heap_drewN] at *); omega))))))))).mono ?_; rw [Hq.out]; rintro e w1 ⟨rfl, hb1⟩; have hz1 := hb1.size; simp only [World.size_alloc] at hz1; have hP1 : Blk w1 w.heap.size 24 #[.int .i64 regs, .slice A l.length cap] := Blk.below (Blk.alloc (Blk.new' rfl) _) hb1 (by (try simp only [World.size_alloc, World.size_setCell, World.size_drew, World.heap_drewN]); (first | done | omega | ((try simp only [World.size_alloc, World.size_setCell, World.size_drew, World.heap_drewN] at *); omega))); have hF1 : Blk w1 (w.heap.size + 1) 27 _ := Blk.below (Blk.new' (by simp)) hb1 (by simp); have p0 := hP1.cell 0; have p1 := hP1.cell 1; have f0 := hF1.cell 0; simp only [List.getElem?_toArray, List.getElem?_cons_zero, List.getElem?_cons_succ] at p0 p1 f0; have hB1 : Below w.heap.size w w1 := (by repeat (first | (with_reducible exact Below.refl _ _) | (with_reducible assumption) | (with_reducible refine Below.drew ?_) | (with_reducible refine below_drewN ?_ _) | (with_reducible refine Below.alloc ?_ (by (try simp only [World.size_alloc, World.size_setCell, World.size_drew, World.heap_drewN]); (first | done | omega | ((try simp only [World.size_alloc, World.size_setCell, World.size_drew, World.heap_drewN] at *); omega))) _) | (with_reducible refine Below.setCell ?_ (by (try simp only [World.size_alloc, World.size_setCell, World.size_drew, World.heap_drewN]); (first | done | omega | ((try simp only [World.size_alloc, World.size_setCell, World.size_drew, World.heap_drewN] at *); omega))) _) | (with_reducible refine Below.trans ?_ (Below.mono (by assumption) (by (try simp only [World.size_alloc, World.size_setCell, World.size_drew, World.heap_drewN]); (first | done | omega | ((try simp only [World.size_alloc, World.size_setCell, World.size_drew, World.heap_drewN] at *); omega))))))); clear hb1)
    | (go_at_call 51; refine (Hof.out _ hB1).mono ?_; rintro e w2 ⟨GA, GB, vs, xs, rfl, hgr, hb2⟩; have hz2 := hb2.size; have hP2 := hP1.below hb2 hP1.lt; have hF2 := hF1.below hb2 hF1.lt; have hB2 : Below w.heap.size w w2 := hB1.trans (hb2.mono (by omega)); clear hP1 hF1 p0 p1 f0))
  go_loopg [29] (l.length) (fun gk i wr => ∃ k : Nat, k ≤ l.length ∧ i = .int .i64 k ∧ gk = l.length - k ∧ (∀ j, j < k → yn x j = flowS bk em gen pass plus lt l x j) ∧
      Blk wr w2.heap.size 81 #[.slice (some ⟨GA, 0, none⟩) l.length l.length, .slice (some ⟨GB, 0, none⟩) l.length l.length] ∧ Blk wr (w.heap.size + 1) 27 #[.bool bk, .bool em, .slice G g gc, .slice P p pc, .slice Q q qc, .slice T t tc] ∧ Below w2.heap.size w2 wr)
  case atStart => exact ⟨0, Nat.zero_le _, rfl, by omega, fun j hj => by omega, Blk.new' rfl, hF2.alloc _, (Below.refl _ _).alloc (Nat.le_refl _) _⟩
  case round =>
    clear hF2 hP2
    obtain ⟨k, hk, rfl, hgk, hno, hGb, hFb, hB⟩ := hrel
    have Hgk := hide hgk
    have Hno := hide hno
    clear hgk hno
    have hz := hB.size
    have p0 := hGb.cell 0
    have p1 := hGb.cell 1
    simp only [List.getElem?_toArray, List.getElem?_cons_zero, List.getElem?_cons_succ] at p0 p1
    have lp := hGb.lt
    have lf := hFb.lt
    have hBW : Below w.heap.size w wr := hB2.trans (hB.mono (by omega))
    by_cases hlt : k < l.length
    · obtain ⟨xb, xo, rfl, hxb, cx⟩ := hX.bool (k := k) (by rw [Hx.out]; exact hlt)
      have cx' := ((bcell hBW).1 _ _ hxb).trans cx
      have lx : xb < wr.heap.size := by omega
      have f0 := hFb.cell 0
      have f1 := hFb.cell 1
      have f2 := hFb.cell 2
      have f3 := hFb.cell 3
      have f4 := hFb.cell 4
      have f5 := hFb.cell 5
      simp only [List.getElem?_toArray, List.getElem?_cons_zero, List.getElem?_cons_succ] at f0 f1 f2 f3 f4 f5
      have hcall := Hsays.out k w1.heap.size GA GB vs xs w2 wr.drew hgr hB.drew hBW.drew hlt
      change Calls _ _ _ _ (fun e w' => e = .returned (.bool (flowS bk em gen pass plus lt l x k)) ∧ Below wr.heap.size wr.drew w') at hcall
      have k0 : (0 : Int) ≤ (k : Int) := by omega
      have k1 : (k : Int) < (l.length : Int) := by omega
      have Hcall := hide hcall
      have HP := hide hGb
      have HF := hide hFb
      clear hcall hGb hFb cx hX hgr
      generalize hsk : flowS bk em gen pass plus lt l x k = sk at *
      have Hsk := hide hsk
      clear hsk
      go_wp2_with fail
      go_region_held3 (fun w' => w'.cell? ⟨xb, xo + k, none⟩ = some (.bool (yn x k)) ∧ w'.cell? ⟨w2.heap.size, 0, none⟩ = some (.slice (some ⟨GA, 0, none⟩) l.length l.length) ∧ w'.cell? ⟨w2.heap.size, 1, none⟩ = some (.slice (some ⟨GB, 0, none⟩) l.length l.length) ∧
          w'.cell? ⟨w.heap.size + 1, 0, none⟩ = some (.bool bk) ∧ w'.cell? ⟨w.heap.size + 1, 1, none⟩ = some (.bool em) ∧ w'.cell? ⟨w.heap.size + 1, 2, none⟩ = some (.slice G g gc) ∧
          w'.cell? ⟨w.heap.size + 1, 3, none⟩ = some (.slice P p pc) ∧ w'.cell? ⟨w.heap.size + 1, 4, none⟩ = some (.slice Q q qc) ∧ w'.cell? ⟨w.heap.size + 1, 5, none⟩ = some (.slice T t tc))
        (first | go_keep | (go_split_ands; refine ⟨?_, ?_, ?_, ?_, ?_, ?_, ?_, ?_, ?_⟩ <;> (first | (rw [hc3 _ _ lx]; assumption) | (rw [hc3 _ _ lp]; assumption) | (rw [hc3 _ _ lf]; assumption))))
        (first | (go_at_call 52; refine (Hcall.out).mono ?_; rintro e w3 ⟨rfl, hb3⟩; obtain ⟨hc3, hf3⟩ := bcell hb3))
      clear lx lp lf
      rename_i hheld
      clear hheld
      have hb3' : Below wr.heap.size wr w3 := ((Below.refl _ _).drew).trans hb3
      cases hq : (!(yn x k == sk))
      case true =>
        have hf : holdsB (flowS bk em gen pass plus lt l) l.length x = false := holdsB_false hlt (by rw [Hsk.out]; simpa using hq)
        have Hf := hide hf
        clear hf
        go_wp2_with fail
        go_ret2
        exact ⟨by rw [Hf.out]; rfl, hBW.trans (hb3'.mono (by omega))⟩
      case false =>
        have Hq := hide hq
        go_wp2_with fail
        go_roundg (l.length - (k + 1))
        case measure => have := Hgk.out; omega
        case rel =>
          refine ⟨k + 1, by omega, by go_num, rfl, fun j hj => ?_, HP.out.below hb3' HP.out.lt, HF.out.below hb3' HF.out.lt, hB.trans (hb3'.mono (by omega))⟩
          by_cases hjk : j = k
          · subst hjk
            rw [Hsk.out]
            simpa using Hq.out
          · exact Hno.out j (by omega)
    · have hf : holdsB (flowS bk em gen pass plus lt l) l.length x = true := holdsB_true fun i hi => Hno.out i (by omega)
      have Hf := hide hf
      clear hf hGb hFb
      go_wp2_with fail
      go_ret2
      exact ⟨by rw [Hf.out]; rfl, hBW⟩
end Go.Proofs.Ytmghkonmfbpjcaa
