/- The reference's HoldsOf and SameBools. -/
import Derived.Test.YtmghkonmfbpjcaaFlowP
import Derived.Test.YtmghkonmfbpjcaaSameB
import Derived.Deep.LoopGhost
import Derived.Deep.RegionHeld3
import Derived.Deep.QuietTactic
import Derived.BigQuiet
namespace Go.Proofs.Ytmghkonmfbpjcaa
set_option linter.unusedVariables false
set_option linter.unusedSimpArgs false
open Go.RowKit
set_option maxHeartbeats 2000000

/-- is it an answer? -/
def holdsB (S : List Bool → Nat → Bool) (n : Nat) (x : List Bool) : Bool := (List.range n).all fun i => yn x i == S x i
theorem range_take (n k : Nat) (h : k ≤ n) : (List.range n).take k = List.range k := by
  rw [List.take_range, Nat.min_eq_left h]
theorem holdsB_false {S : List Bool → Nat → Bool} {n : Nat} {x : List Bool} {k : Nat} (hk : k < n) (h : (yn x k == S x k) = false) : holdsB S n x = false :=
  List.all_eq_false.2 ⟨k, List.mem_range.2 hk, by simp [h]⟩
theorem holdsB_true {S : List Bool → Nat → Bool} {n : Nat} {x : List Bool} (h : ∀ i, i < n → yn x i = S x i) : holdsB S n x = true := by
  unfold holdsB
  rw [List.all_eq_true]
  intro i hi
  rw [h i (List.mem_range.1 hi)]
  simp
theorem holdsB_iff {S : List Bool → Nat → Bool} {n : Nat} {x : List Bool} (hl : x.length = n) : holdsB S n x = true ↔ Ans S n x := by
  unfold holdsB Ans
  rw [List.all_eq_true]
  constructor
  · intro h
    exact ⟨hl, fun i hi => by simpa using h i (List.mem_range.2 hi)⟩
  · rintro ⟨_, h⟩ i hi
    rw [h i (List.mem_range.1 hi)]
    simp

theorem HoldsOf_any (regs : Int) (A : Option Addr) (l : List Nd) (cap : Nat) (bk em : Bool) (G P Q T X : Option Addr) (g p q t xn gc pc qc tc xc : Nat) (gen pass plus lt x : List Bool) (w : World)
    (hA : NodesAt w A l) (hl : 1 ≤ l.length ∧ l.length ≤ 256)
    (hG : ValsAt w G (bools gen)) (hP : ValsAt w P (bools pass)) (hQ : ValsAt w Q (bools plus)) (hT : ValsAt w T (bools lt)) (hX : ValsAt w X (bools x))
    (hg : gen.length = g) (hp : pass.length = p) (hq : plus.length = q) (ht : lt.length = t) (hx : x.length = xn)
    (eg : g = l.length) (ep : p = l.length) (eq_ : q = l.length) (et : t = l.length) (ex : xn = l.length) :
    Calls Try.prog 15 #[.agg #[.int .i64 regs, .slice A l.length cap], .agg #[.bool bk, .bool em, .slice G g gc, .slice P p pc, .slice Q q qc, .slice T t tc], .slice X xn xc] w
      fun e w' => e = .returned (.bool (holdsB (flowS bk em gen pass plus lt l) l.length x)) ∧ Below w.heap.size w w' := by
  obtain ⟨hl1, hl2⟩ := hl
  subst ex
  have hsays := fun (n : Nat) (W : World) (hn : n < l.length) (hW : Below w.heap.size w W) =>
    rsays_loop regs A l cap bk em G P Q T X g p q t l.length gc pc qc tc xc gen pass plus lt x n W (hA.below hW) ⟨hl1, hl2⟩ hn (hG.below hW) (hP.below hW) (hQ.below hW) (hT.below hW) (hX.below hW) hg hp hq ht hx eg ep eq_ et rfl
  have Hsays := hide hsays
  have Hx := hide hx
  clear hsays hG hP hQ hT hg hp hq ht eg ep eq_ et hx
  go_enter Try.func15, Try.ntmps15
  go_wp2_with fail
  go_loopg [7] (l.length) (fun gk i wr => ∃ k : Nat, k ≤ l.length ∧ i = .int .i64 k ∧ gk = l.length - k ∧ (∀ j, j < k → yn x j = flowS bk em gen pass plus lt l x j) ∧
      Blk wr w.heap.size 24 #[.int .i64 regs, .slice A l.length cap] ∧ Blk wr (w.heap.size + 1) 27 #[.bool bk, .bool em, .slice G g gc, .slice P p pc, .slice Q q qc, .slice T t tc] ∧ Below w.heap.size w wr)
  case atStart => exact ⟨0, Nat.zero_le _, rfl, by omega, fun j hj => by omega, (by repeat (first | ((with_reducible refine Blk.new' ?_); exact (by (try simp only [World.size_alloc, World.size_setCell, World.size_drew, World.heap_drewN]); (first | done | omega | ((try simp only [World.size_alloc, World.size_setCell, World.size_drew, World.heap_drewN] at *); omega)))) | (with_reducible refine Blk.drew ?_) | (with_reducible refine Blk.drewN ?_ _) | (with_reducible refine Blk.alloc ?_ _) | with_reducible assumption)), (by repeat (first | ((with_reducible refine Blk.new' ?_); exact (by (try simp only [World.size_alloc, World.size_setCell, World.size_drew, World.heap_drewN]); (first | done | omega | ((try simp only [World.size_alloc, World.size_setCell, World.size_drew, World.heap_drewN] at *); omega)))) | (with_reducible refine Blk.drew ?_) | (with_reducible refine Blk.drewN ?_ _) | (with_reducible refine Blk.alloc ?_ _) | with_reducible assumption)), (by repeat (first | (with_reducible exact Below.refl _ _) | (with_reducible assumption) | (with_reducible refine Below.drew ?_) | (with_reducible refine below_drewN ?_ _) | (with_reducible refine Below.alloc ?_ (by (try simp only [World.size_alloc, World.size_setCell, World.size_drew, World.heap_drewN]); (first | done | omega | ((try simp only [World.size_alloc, World.size_setCell, World.size_drew, World.heap_drewN] at *); omega))) _) | (with_reducible refine Below.setCell ?_ (by (try simp only [World.size_alloc, World.size_setCell, World.size_drew, World.heap_drewN]); (first | done | omega | ((try simp only [World.size_alloc, World.size_setCell, World.size_drew, World.heap_drewN] at *); omega))) _) | (with_reducible refine Below.trans ?_ (Below.mono (by assumption) (by (try simp only [World.size_alloc, World.size_setCell, World.size_drew, World.heap_drewN]); (first | done | omega | ((try simp only [World.size_alloc, World.size_setCell, World.size_drew, World.heap_drewN] at *); omega)))))))⟩
  case round =>
    obtain ⟨k, hk, rfl, hgk, hno, hPb, hFb, hB⟩ := hrel
    have Hgk := hide hgk
    clear hgk
    have Hno := hide hno
    clear hno
    have hz := hB.size
    have p0 := hPb.cell 0
    have p1 := hPb.cell 1
    simp only [List.getElem?_toArray, List.getElem?_cons_zero, List.getElem?_cons_succ] at p0 p1
    have lp := hPb.lt
    have lf := hFb.lt
    by_cases hlt : k < l.length
    · obtain ⟨xb, xo, rfl, hxb, cx⟩ := hX.bool (k := k) (by rw [Hx.out]; exact hlt)
      have cx' := ((bcell hB).1 _ _ hxb).trans cx
      have lx : xb < wr.heap.size := by omega
      have f0 := hFb.cell 0
      have f1 := hFb.cell 1
      have f2 := hFb.cell 2
      have f3 := hFb.cell 3
      have f4 := hFb.cell 4
      have f5 := hFb.cell 5
      simp only [List.getElem?_toArray, List.getElem?_cons_zero, List.getElem?_cons_succ] at f0 f1 f2 f3 f4 f5
      have hcall := Hsays.out k wr.drew hlt hB.drew
      change Calls _ _ _ _ (fun e w' => e = .returned (.bool (flowS bk em gen pass plus lt l x k)) ∧ Below wr.heap.size wr.drew w') at hcall
      have k0 : (0 : Int) ≤ (k : Int) := by omega
      have k1 : (k : Int) < (l.length : Int) := by omega
      have Hcall := hide hcall
      have HP := hide hPb
      have HF := hide hFb
      clear hcall hPb hFb cx hX
      go_wp2_with fail
      go_region_held3 (fun w' => w'.cell? ⟨xb, xo + k, none⟩ = some (.bool (yn x k)) ∧ w'.cell? ⟨w.heap.size, 0, none⟩ = some (.int .i64 regs) ∧ w'.cell? ⟨w.heap.size, 1, none⟩ = some (.slice A l.length cap) ∧
          w'.cell? ⟨w.heap.size + 1, 0, none⟩ = some (.bool bk) ∧ w'.cell? ⟨w.heap.size + 1, 1, none⟩ = some (.bool em) ∧ w'.cell? ⟨w.heap.size + 1, 2, none⟩ = some (.slice G g gc) ∧
          w'.cell? ⟨w.heap.size + 1, 3, none⟩ = some (.slice P p pc) ∧ w'.cell? ⟨w.heap.size + 1, 4, none⟩ = some (.slice Q q qc) ∧ w'.cell? ⟨w.heap.size + 1, 5, none⟩ = some (.slice T t tc))
        (first | go_keep | (go_split_ands; refine ⟨?_, ?_, ?_, ?_, ?_, ?_, ?_, ?_, ?_⟩ <;> (first | (rw [hc3 _ _ lx]; assumption) | (rw [hc3 _ _ lp]; assumption) | (rw [hc3 _ _ lf]; assumption))))
        (first | (go_at_call 53; refine (Hcall.out).mono ?_; rintro e w3 ⟨rfl, hb3⟩; obtain ⟨hc3, hf3⟩ := bcell hb3))
      generalize hsk : flowS bk em gen pass plus lt l x k = sk at *
      have Hsk := hide hsk
      clear hsk
      clear lx lp lf
      rename_i hheld
      clear hheld
      cases hq : (!(yn x k == sk))
      case true =>
        have hf : holdsB (flowS bk em gen pass plus lt l) l.length x = false := holdsB_false hlt (by rw [Hsk.out]; simpa using hq)
        have Hf := hide hf
        clear hf
        go_wp2_with fail
        go_ret
        exact ⟨by rw [Hf.out]; rfl, (by repeat (first | (with_reducible exact Below.refl _ _) | (with_reducible assumption) | (with_reducible refine Below.drew ?_) | (with_reducible refine below_drewN ?_ _) | (with_reducible refine Below.alloc ?_ (by (try simp only [World.size_alloc, World.size_setCell, World.size_drew, World.heap_drewN]); (first | done | omega | ((try simp only [World.size_alloc, World.size_setCell, World.size_drew, World.heap_drewN] at *); omega))) _) | (with_reducible refine Below.setCell ?_ (by (try simp only [World.size_alloc, World.size_setCell, World.size_drew, World.heap_drewN]); (first | done | omega | ((try simp only [World.size_alloc, World.size_setCell, World.size_drew, World.heap_drewN] at *); omega))) _) | (with_reducible refine Below.trans ?_ (Below.mono (by assumption) (by (try simp only [World.size_alloc, World.size_setCell, World.size_drew, World.heap_drewN]); (first | done | omega | ((try simp only [World.size_alloc, World.size_setCell, World.size_drew, World.heap_drewN] at *); omega)))))))⟩
      case false =>
        have Hq := hide hq
        go_wp2_with fail
        go_roundg (l.length - (k + 1))
        case measure => have := Hgk.out; omega
        case rel =>
          refine ⟨k + 1, by omega, by go_num, rfl, fun j hj => ?_, HP.out.drew.below hb3 HP.out.lt, HF.out.drew.below hb3 HF.out.lt, (by repeat (first | (with_reducible exact Below.refl _ _) | (with_reducible assumption) | (with_reducible refine Below.drew ?_) | (with_reducible refine below_drewN ?_ _) | (with_reducible refine Below.alloc ?_ (by (try simp only [World.size_alloc, World.size_setCell, World.size_drew, World.heap_drewN]); (first | done | omega | ((try simp only [World.size_alloc, World.size_setCell, World.size_drew, World.heap_drewN] at *); omega))) _) | (with_reducible refine Below.setCell ?_ (by (try simp only [World.size_alloc, World.size_setCell, World.size_drew, World.heap_drewN]); (first | done | omega | ((try simp only [World.size_alloc, World.size_setCell, World.size_drew, World.heap_drewN] at *); omega))) _) | (with_reducible refine Below.trans ?_ (Below.mono (by assumption) (by (try simp only [World.size_alloc, World.size_setCell, World.size_drew, World.heap_drewN]); (first | done | omega | ((try simp only [World.size_alloc, World.size_setCell, World.size_drew, World.heap_drewN] at *); omega)))))))⟩
          by_cases hjk : j = k
          · subst hjk
            rw [Hsk.out]
            simpa using Hq.out
          · exact Hno.out j (by omega)
    · have hf : holdsB (flowS bk em gen pass plus lt l) l.length x = true := holdsB_true fun i hi => Hno.out i (by omega)
      have Hf := hide hf
      clear hf hPb hFb
      go_wp2_with fail
      go_ret
      exact ⟨by rw [Hf.out]; rfl, hB⟩

end Go.Proofs.Ytmghkonmfbpjcaa
