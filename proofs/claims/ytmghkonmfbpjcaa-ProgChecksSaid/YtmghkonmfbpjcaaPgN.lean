/- slices.Contains of numbers; prog.Next, prog.Ahead. -/
import Derived.Test.YtmghkonmfbpjcaaPgP
import Derived.Test.YtmghkonmfbpjcaaSame
import Derived.Test.YtmghkonmfbpjcaaCheck2
import Derived.Deep.LoopGhost
namespace Go.Proofs.Ytmghkonmfbpjcaa
set_option linter.unusedVariables false
set_option linter.unusedSimpArgs false
open Go.RowKit
set_option maxHeartbeats 4000000
attribute [local irreducible] Row madeCells

theorem Index_any (es : List Int) (A : Option Addr) (cap : Nat) (m : Int) (w : World) (hV : ValsAt w A (ints es)) (hl : es.length ≤ maxLen) :
    Calls Try.prog 103 #[.slice A es.length cap, .int .i64 m] w fun e w' => (∃ i : Int, e = .returned (.int .i64 i) ∧ decide (0 ≤ i) = es.contains m) ∧ w' = w := by
  unfold maxLen at hl
  go_enter Try.func103, Try.ntmps103
  go_wp2_with fail
  go_loopg [8] (es.length) (fun gk i wr => ∃ k : Nat, k ≤ es.length ∧ i = .int .i64 k ∧ gk = es.length - k ∧ (∀ j x, j < k → es[j]? = some x → m ≠ x) ∧ wr = w)
  case atStart => exact ⟨0, Nat.zero_le _, rfl, rfl, fun j x hj => by omega, rfl⟩
  case round =>
    obtain ⟨k, hk, rfl, hgk, hno, rfl⟩ := hrel
    have Hgk := hide hgk
    have Hno := hide hno
    clear hgk hno
    by_cases hlt : k < es.length
    · obtain ⟨b, o, z, rfl, hb, hz, cz⟩ := hV.int hlt
      have Hz := hide hz
      have k0 : (0 : Int) ≤ (k : Int) := by omega
      have k1 : (k : Int) < (es.length : Int) := by omega
      clear hV hz
      cases hq : (m == z)
      case true =>
        have hc : es.contains m = true := by
          rw [List.contains_iff_mem, eq_of_beq hq]
          exact List.mem_of_getElem? Hz.out
        have Hc := hide hc
        clear hc
        go_wp2_with fail
        go_ret
        exact ⟨⟨k, rfl, by rw [Hc.out]; exact decide_eq_true k0⟩, rfl⟩
      case false =>
        go_wp2_with fail
        go_roundg (es.length - (k + 1))
        case measure => have := Hgk.out; omega
        case rel =>
          refine ⟨k + 1, by omega, by go_num, rfl, fun j x hj hx => ?_, rfl⟩
          by_cases hjk : j = k
          · subst hjk
            rw [Hz.out] at hx
            injection hx with hx
            subst hx
            simpa using hq
          · exact Hno.out j x (by omega) hx
    · have hc : es.contains m = false := by
        cases h : es.contains m with
        | false => rfl
        | true =>
          obtain ⟨j, hj, hx⟩ := List.getElem_of_mem (List.contains_iff_mem.1 h)
          exact absurd rfl (Hno.out j m (by omega) (by rw [List.getElem?_eq_getElem hj, hx]))
      have Hc := hide hc
      clear hc hV
      go_wp2_with fail
      go_ret
      exact ⟨⟨-1, rfl, by rw [Hc.out]; rfl⟩, rfl⟩
theorem Contains_any (es : List Int) (A : Option Addr) (cap : Nat) (m : Int) (w : World) (hV : ValsAt w A (ints es)) (hl : es.length ≤ maxLen) :
    Calls Try.prog 81 #[.slice A es.length cap, .int .i64 m] w fun e w' => e = .returned (.bool (es.contains m)) ∧ w' = w := by
  have HI := hide (Index_any es A cap m w hV hl)
  clear hV hl
  go_enter Try.func81, Try.ntmps81
  go_wp2_with fail
  refine (HI.out).mono ?_
  rintro e w1 ⟨⟨i, rfl, hi⟩, rfl⟩
  have Hi := hide hi
  clear hi
  go_wp2_with fail
  go_ret
  exact ⟨ret_bool Hi.out, rfl⟩

def nxE (regs : Int) (l : List Nd) (n : Int) : Int := if chk regs l = 0 then (if n < 0 ∨ (l.length : Int) ≤ n then 3 else 0) else chk regs l
def nxL (regs : Int) (l : List Nd) (n : Int) (p : List Nd → Nat → Nat → Bool) : List Int := if nxE regs l n = 0 then sel (p l n.toNat) l.length else []
def NxPost (tI : TypeId) (regs : Int) (l : List Nd) (n : Int) (p : List Nd → Nat → Nat → Bool) (w : World) (e : Ending) (w' : World) : Prop :=
  Below w.heap.size w w' ∧ ∃ v, e = .returned (.tuple #[v, .int .i64 (nxE regs l n)]) ∧ Row w' w.heap.size tI v (ints (nxL regs l n p))
theorem Next_any (regs : Int) (A : Option Addr) (l : List Nd) (cap : Nat) (n : Int) (w : World) (hl : l.length ≤ maxLen) (hA : NodesAt w A l) :
    Calls Try.prog 33 #[.agg #[.int .i64 regs, .slice A l.length cap], .int .i64 n] w (NxPost 3 regs l n nextP w) := by
  have hC := fun W (hW : Below w.heap.size w W) => Check_any regs A l cap W hl (hA.below hW)
  unfold maxLen at hl
  by_cases h0 : chk regs l = 0
  · have hR := right_of_chk h0
    rw [h0] at hC
    have HC := hide hC
    clear hC
    by_cases hn : n < 0 ∨ (l.length : Int) ≤ n
    · have he : nxE regs l n = 3 := by rw [nxE, if_pos h0, if_pos hn]
      have hL : nxL regs l n nextP = [] := by rw [nxL, he]; rfl
      unfold NxPost
      rw [he, hL]
      clear he hL h0 hR
      by_cases hn0 : n < 0
      · have d0 : decide (n < 0) = true := decide_eq_true hn0
        clear hn hn0
        go_enter Try.func33, Try.ntmps33
        go_wp2_with fail
        refine (HC.out _ (by repeat (first | (with_reducible exact Below.refl _ _) | (with_reducible assumption) | (with_reducible refine Below.drew ?_) | (with_reducible refine below_drewN ?_ _) | (with_reducible refine Below.alloc ?_ (by (try simp only [World.size_alloc, World.size_setCell, World.size_drew, World.heap_drewN]); (first | done | omega | ((try simp only [World.size_alloc, World.size_setCell, World.size_drew, World.heap_drewN] at *); omega))) _) | (with_reducible refine Below.setCell ?_ (by (try simp only [World.size_alloc, World.size_setCell, World.size_drew, World.heap_drewN]); (first | done | omega | ((try simp only [World.size_alloc, World.size_setCell, World.size_drew, World.heap_drewN] at *); omega))) _) | (with_reducible refine Below.trans ?_ (Below.mono (by assumption) (by (try simp only [World.size_alloc, World.size_setCell, World.size_drew, World.heap_drewN]); (first | done | omega | ((try simp only [World.size_alloc, World.size_setCell, World.size_drew, World.heap_drewN] at *); omega)))))))).mono ?_
        rintro e w1 ⟨rfl, hb1⟩
        have hP : Blk w1 w.heap.size 24 #[.int .i64 regs, .slice A l.length cap] := Blk.below (Blk.new' rfl) hb1 (by simp)
        have hB : Below w.heap.size w w1 := (by repeat (first | (with_reducible exact Below.refl _ _) | (with_reducible assumption) | (with_reducible refine Below.drew ?_) | (with_reducible refine below_drewN ?_ _) | (with_reducible refine Below.alloc ?_ (by (try simp only [World.size_alloc, World.size_setCell, World.size_drew, World.heap_drewN]); (first | done | omega | ((try simp only [World.size_alloc, World.size_setCell, World.size_drew, World.heap_drewN] at *); omega))) _) | (with_reducible refine Below.setCell ?_ (by (try simp only [World.size_alloc, World.size_setCell, World.size_drew, World.heap_drewN]); (first | done | omega | ((try simp only [World.size_alloc, World.size_setCell, World.size_drew, World.heap_drewN] at *); omega))) _) | (with_reducible refine Below.trans ?_ (Below.mono (by assumption) (by (try simp only [World.size_alloc, World.size_setCell, World.size_drew, World.heap_drewN]); (first | done | omega | ((try simp only [World.size_alloc, World.size_setCell, World.size_drew, World.heap_drewN] at *); omega)))))))
        have p0 := hP.cell 0
        have p1 := hP.cell 1
        have lp := hP.lt
        simp only [List.getElem?_toArray, List.getElem?_cons_zero, List.getElem?_cons_succ] at p0 p1
        clear hb1
        go_wp2_with fail
        go_tidy
        go_ret2
        exact ⟨hB, _, rfl, Row.nil_ _ _ _⟩
      · have d0 : decide (n < 0) = false := decide_eq_false hn0
        have d1 : decide (n ≥ (l.length : Int)) = true := decide_eq_true (by omega)
        clear hn hn0
        go_enter Try.func33, Try.ntmps33
        go_wp2_with fail
        refine (HC.out _ (by repeat (first | (with_reducible exact Below.refl _ _) | (with_reducible assumption) | (with_reducible refine Below.drew ?_) | (with_reducible refine below_drewN ?_ _) | (with_reducible refine Below.alloc ?_ (by (try simp only [World.size_alloc, World.size_setCell, World.size_drew, World.heap_drewN]); (first | done | omega | ((try simp only [World.size_alloc, World.size_setCell, World.size_drew, World.heap_drewN] at *); omega))) _) | (with_reducible refine Below.setCell ?_ (by (try simp only [World.size_alloc, World.size_setCell, World.size_drew, World.heap_drewN]); (first | done | omega | ((try simp only [World.size_alloc, World.size_setCell, World.size_drew, World.heap_drewN] at *); omega))) _) | (with_reducible refine Below.trans ?_ (Below.mono (by assumption) (by (try simp only [World.size_alloc, World.size_setCell, World.size_drew, World.heap_drewN]); (first | done | omega | ((try simp only [World.size_alloc, World.size_setCell, World.size_drew, World.heap_drewN] at *); omega)))))))).mono ?_
        rintro e w1 ⟨rfl, hb1⟩
        have hP : Blk w1 w.heap.size 24 #[.int .i64 regs, .slice A l.length cap] := Blk.below (Blk.new' rfl) hb1 (by simp)
        have hB : Below w.heap.size w w1 := (by repeat (first | (with_reducible exact Below.refl _ _) | (with_reducible assumption) | (with_reducible refine Below.drew ?_) | (with_reducible refine below_drewN ?_ _) | (with_reducible refine Below.alloc ?_ (by (try simp only [World.size_alloc, World.size_setCell, World.size_drew, World.heap_drewN]); (first | done | omega | ((try simp only [World.size_alloc, World.size_setCell, World.size_drew, World.heap_drewN] at *); omega))) _) | (with_reducible refine Below.setCell ?_ (by (try simp only [World.size_alloc, World.size_setCell, World.size_drew, World.heap_drewN]); (first | done | omega | ((try simp only [World.size_alloc, World.size_setCell, World.size_drew, World.heap_drewN] at *); omega))) _) | (with_reducible refine Below.trans ?_ (Below.mono (by assumption) (by (try simp only [World.size_alloc, World.size_setCell, World.size_drew, World.heap_drewN]); (first | done | omega | ((try simp only [World.size_alloc, World.size_setCell, World.size_drew, World.heap_drewN] at *); omega)))))))
        have p0 := hP.cell 0
        have p1 := hP.cell 1
        have lp := hP.lt
        simp only [List.getElem?_toArray, List.getElem?_cons_zero, List.getElem?_cons_succ] at p0 p1
        clear hb1
        go_wp2_with fail
        go_tidy
        go_ret2
        exact ⟨hB, _, rfl, Row.nil_ _ _ _⟩
    · have he : nxE regs l n = 0 := by rw [nxE, if_pos h0, if_neg hn]
      obtain ⟨k, rfl⟩ := Int.eq_ofNat_of_zero_le (show 0 ≤ n by omega)
      have hlt : k < l.length := by omega
      have hL : nxL regs l (k : Int) nextP = sel (nextP l k) l.length := by rw [nxL, he, if_pos rfl, Int.toNat_natCast]
      obtain ⟨nb, no, x, rfl, hnb, hx, hxl⟩ := hA.get hlt
      rw [← exitsS_sel hR hx] at hL
      unfold NxPost
      rw [he, hL]
      have d0 : decide ((k : Int) < 0) = false := decide_eq_false (by omega)
      have d1 : decide ((k : Int) ≥ (l.length : Int)) = false := decide_eq_false (by omega)
      have u0 : (0 : Int) ≤ (k : Int) := by omega
      have u1 : (k : Int) < (l.length : Int) := by omega
      clear hn he hL hA hx h0 hR
      go_enter Try.func33, Try.ntmps33
      go_wp2_with fail
      refine (HC.out _ (by repeat (first | (with_reducible exact Below.refl _ _) | (with_reducible assumption) | (with_reducible refine Below.drew ?_) | (with_reducible refine below_drewN ?_ _) | (with_reducible refine Below.alloc ?_ (by (try simp only [World.size_alloc, World.size_setCell, World.size_drew, World.heap_drewN]); (first | done | omega | ((try simp only [World.size_alloc, World.size_setCell, World.size_drew, World.heap_drewN] at *); omega))) _) | (with_reducible refine Below.setCell ?_ (by (try simp only [World.size_alloc, World.size_setCell, World.size_drew, World.heap_drewN]); (first | done | omega | ((try simp only [World.size_alloc, World.size_setCell, World.size_drew, World.heap_drewN] at *); omega))) _) | (with_reducible refine Below.trans ?_ (Below.mono (by assumption) (by (try simp only [World.size_alloc, World.size_setCell, World.size_drew, World.heap_drewN]); (first | done | omega | ((try simp only [World.size_alloc, World.size_setCell, World.size_drew, World.heap_drewN] at *); omega)))))))).mono ?_
      rintro e w1 ⟨rfl, hb1⟩
      have hP : Blk w1 w.heap.size 24 #[.int .i64 regs, .slice (some ⟨nb, no, none⟩) l.length cap] := Blk.below (Blk.new' rfl) hb1 (by simp)
      have hB : Below w.heap.size w w1 := (by repeat (first | (with_reducible exact Below.refl _ _) | (with_reducible assumption) | (with_reducible refine Below.drew ?_) | (with_reducible refine below_drewN ?_ _) | (with_reducible refine Below.alloc ?_ (by (try simp only [World.size_alloc, World.size_setCell, World.size_drew, World.heap_drewN]); (first | done | omega | ((try simp only [World.size_alloc, World.size_setCell, World.size_drew, World.heap_drewN] at *); omega))) _) | (with_reducible refine Below.setCell ?_ (by (try simp only [World.size_alloc, World.size_setCell, World.size_drew, World.heap_drewN]); (first | done | omega | ((try simp only [World.size_alloc, World.size_setCell, World.size_drew, World.heap_drewN] at *); omega))) _) | (with_reducible refine Below.trans ?_ (Below.mono (by assumption) (by (try simp only [World.size_alloc, World.size_setCell, World.size_drew, World.heap_drewN]); (first | done | omega | ((try simp only [World.size_alloc, World.size_setCell, World.size_drew, World.heap_drewN] at *); omega)))))))
      have p0 := hP.cell 0
      have p1 := hP.cell 1
      have lp := hP.lt
      simp only [List.getElem?_toArray, List.getElem?_cons_zero, List.getElem?_cons_succ] at p0 p1
      obtain ⟨c0, c1, c2, c3, c4, c5⟩ := hxl.below hB hnb
      clear hb1 hxl
      go_wp2_with fail
      refine (exits_any x w1).mono ?_
      rintro e w2 ⟨v, rfl, hr2, hb2⟩
      go_wp2_with fail
      go_ret2
      exact ⟨hB.trans (hb2.mono hB.size), _, rfl, hr2.mono hB.size⟩
  · have he : nxE regs l n = chk regs l := by rw [nxE, if_neg h0]
    have hL : nxL regs l n nextP = [] := by rw [nxL, he, if_neg h0]
    unfold NxPost
    rw [he, hL]
    have HC := hide hC
    have b0 : (chk regs l != 0) = true := by simpa using h0
    clear he hL hC h0
    generalize chk regs l = c at *
    go_enter Try.func33, Try.ntmps33
    go_wp2_with fail
    refine (HC.out _ (by repeat (first | (with_reducible exact Below.refl _ _) | (with_reducible assumption) | (with_reducible refine Below.drew ?_) | (with_reducible refine below_drewN ?_ _) | (with_reducible refine Below.alloc ?_ (by (try simp only [World.size_alloc, World.size_setCell, World.size_drew, World.heap_drewN]); (first | done | omega | ((try simp only [World.size_alloc, World.size_setCell, World.size_drew, World.heap_drewN] at *); omega))) _) | (with_reducible refine Below.setCell ?_ (by (try simp only [World.size_alloc, World.size_setCell, World.size_drew, World.heap_drewN]); (first | done | omega | ((try simp only [World.size_alloc, World.size_setCell, World.size_drew, World.heap_drewN] at *); omega))) _) | (with_reducible refine Below.trans ?_ (Below.mono (by assumption) (by (try simp only [World.size_alloc, World.size_setCell, World.size_drew, World.heap_drewN]); (first | done | omega | ((try simp only [World.size_alloc, World.size_setCell, World.size_drew, World.heap_drewN] at *); omega)))))))).mono ?_
    rintro e w1 ⟨rfl, hb1⟩
    have hB : Below w.heap.size w w1 := (by repeat (first | (with_reducible exact Below.refl _ _) | (with_reducible assumption) | (with_reducible refine Below.drew ?_) | (with_reducible refine below_drewN ?_ _) | (with_reducible refine Below.alloc ?_ (by (try simp only [World.size_alloc, World.size_setCell, World.size_drew, World.heap_drewN]); (first | done | omega | ((try simp only [World.size_alloc, World.size_setCell, World.size_drew, World.heap_drewN] at *); omega))) _) | (with_reducible refine Below.setCell ?_ (by (try simp only [World.size_alloc, World.size_setCell, World.size_drew, World.heap_drewN]); (first | done | omega | ((try simp only [World.size_alloc, World.size_setCell, World.size_drew, World.heap_drewN] at *); omega))) _) | (with_reducible refine Below.trans ?_ (Below.mono (by assumption) (by (try simp only [World.size_alloc, World.size_setCell, World.size_drew, World.heap_drewN]); (first | done | omega | ((try simp only [World.size_alloc, World.size_setCell, World.size_drew, World.heap_drewN] at *); omega)))))))
    go_wp2_with fail
    go_tidy
    go_ret2
    exact ⟨hB, _, rfl, Row.nil_ _ _ _⟩
set_option maxRecDepth 100000 in
theorem Ahead_any (regs : Int) (A : Option Addr) (l : List Nd) (cap : Nat) (n : Int) (w : World) (hl : l.length ≤ maxLen) (hA : NodesAt w A l) :
    Calls Try.prog 34 #[.agg #[.int .i64 regs, .slice A l.length cap], .int .i64 n] w (NxPost 3 regs l n aheadP w) := by
  have hC := fun W (hW : Below w.heap.size w W) => Check_any regs A l cap W hl (hA.below hW)
  unfold maxLen at hl
  by_cases h0 : chk regs l = 0
  · have hR := right_of_chk h0
    rw [h0] at hC
    have HC := hide hC
    clear hC
    by_cases hn : n < 0 ∨ (l.length : Int) ≤ n
    · have he : nxE regs l n = 3 := by rw [nxE, if_pos h0, if_pos hn]
      have hL : nxL regs l n aheadP = [] := by rw [nxL, he]; rfl
      unfold NxPost
      rw [he, hL]
      clear he hL h0 hR
      by_cases hn0 : n < 0
      · have d0 : decide (n < 0) = true := decide_eq_true hn0
        clear hn hn0
        go_enter Try.func34, Try.ntmps34
        go_wp2_with fail
        refine (HC.out _ (by repeat (first | (with_reducible exact Below.refl _ _) | (with_reducible assumption) | (with_reducible refine Below.drew ?_) | (with_reducible refine below_drewN ?_ _) | (with_reducible refine Below.alloc ?_ (by (try simp only [World.size_alloc, World.size_setCell, World.size_drew, World.heap_drewN]); (first | done | omega | ((try simp only [World.size_alloc, World.size_setCell, World.size_drew, World.heap_drewN] at *); omega))) _) | (with_reducible refine Below.setCell ?_ (by (try simp only [World.size_alloc, World.size_setCell, World.size_drew, World.heap_drewN]); (first | done | omega | ((try simp only [World.size_alloc, World.size_setCell, World.size_drew, World.heap_drewN] at *); omega))) _) | (with_reducible refine Below.trans ?_ (Below.mono (by assumption) (by (try simp only [World.size_alloc, World.size_setCell, World.size_drew, World.heap_drewN]); (first | done | omega | ((try simp only [World.size_alloc, World.size_setCell, World.size_drew, World.heap_drewN] at *); omega)))))))).mono ?_
        rintro e w1 ⟨rfl, hb1⟩
        have hP : Blk w1 w.heap.size 24 #[.int .i64 regs, .slice A l.length cap] := Blk.below (Blk.new' rfl) hb1 (by simp)
        have hB : Below w.heap.size w w1 := (by repeat (first | (with_reducible exact Below.refl _ _) | (with_reducible assumption) | (with_reducible refine Below.drew ?_) | (with_reducible refine below_drewN ?_ _) | (with_reducible refine Below.alloc ?_ (by (try simp only [World.size_alloc, World.size_setCell, World.size_drew, World.heap_drewN]); (first | done | omega | ((try simp only [World.size_alloc, World.size_setCell, World.size_drew, World.heap_drewN] at *); omega))) _) | (with_reducible refine Below.setCell ?_ (by (try simp only [World.size_alloc, World.size_setCell, World.size_drew, World.heap_drewN]); (first | done | omega | ((try simp only [World.size_alloc, World.size_setCell, World.size_drew, World.heap_drewN] at *); omega))) _) | (with_reducible refine Below.trans ?_ (Below.mono (by assumption) (by (try simp only [World.size_alloc, World.size_setCell, World.size_drew, World.heap_drewN]); (first | done | omega | ((try simp only [World.size_alloc, World.size_setCell, World.size_drew, World.heap_drewN] at *); omega)))))))
        have p0 := hP.cell 0
        have p1 := hP.cell 1
        have lp := hP.lt
        simp only [List.getElem?_toArray, List.getElem?_cons_zero, List.getElem?_cons_succ] at p0 p1
        clear hb1
        go_wp2_with fail
        go_tidy
        go_ret2
        exact ⟨hB, _, rfl, Row.nil_ _ _ _⟩
      · have d0 : decide (n < 0) = false := decide_eq_false hn0
        have d1 : decide (n ≥ (l.length : Int)) = true := decide_eq_true (by omega)
        clear hn hn0
        go_enter Try.func34, Try.ntmps34
        go_wp2_with fail
        refine (HC.out _ (by repeat (first | (with_reducible exact Below.refl _ _) | (with_reducible assumption) | (with_reducible refine Below.drew ?_) | (with_reducible refine below_drewN ?_ _) | (with_reducible refine Below.alloc ?_ (by (try simp only [World.size_alloc, World.size_setCell, World.size_drew, World.heap_drewN]); (first | done | omega | ((try simp only [World.size_alloc, World.size_setCell, World.size_drew, World.heap_drewN] at *); omega))) _) | (with_reducible refine Below.setCell ?_ (by (try simp only [World.size_alloc, World.size_setCell, World.size_drew, World.heap_drewN]); (first | done | omega | ((try simp only [World.size_alloc, World.size_setCell, World.size_drew, World.heap_drewN] at *); omega))) _) | (with_reducible refine Below.trans ?_ (Below.mono (by assumption) (by (try simp only [World.size_alloc, World.size_setCell, World.size_drew, World.heap_drewN]); (first | done | omega | ((try simp only [World.size_alloc, World.size_setCell, World.size_drew, World.heap_drewN] at *); omega)))))))).mono ?_
        rintro e w1 ⟨rfl, hb1⟩
        have hP : Blk w1 w.heap.size 24 #[.int .i64 regs, .slice A l.length cap] := Blk.below (Blk.new' rfl) hb1 (by simp)
        have hB : Below w.heap.size w w1 := (by repeat (first | (with_reducible exact Below.refl _ _) | (with_reducible assumption) | (with_reducible refine Below.drew ?_) | (with_reducible refine below_drewN ?_ _) | (with_reducible refine Below.alloc ?_ (by (try simp only [World.size_alloc, World.size_setCell, World.size_drew, World.heap_drewN]); (first | done | omega | ((try simp only [World.size_alloc, World.size_setCell, World.size_drew, World.heap_drewN] at *); omega))) _) | (with_reducible refine Below.setCell ?_ (by (try simp only [World.size_alloc, World.size_setCell, World.size_drew, World.heap_drewN]); (first | done | omega | ((try simp only [World.size_alloc, World.size_setCell, World.size_drew, World.heap_drewN] at *); omega))) _) | (with_reducible refine Below.trans ?_ (Below.mono (by assumption) (by (try simp only [World.size_alloc, World.size_setCell, World.size_drew, World.heap_drewN]); (first | done | omega | ((try simp only [World.size_alloc, World.size_setCell, World.size_drew, World.heap_drewN] at *); omega)))))))
        have p0 := hP.cell 0
        have p1 := hP.cell 1
        have lp := hP.lt
        simp only [List.getElem?_toArray, List.getElem?_cons_zero, List.getElem?_cons_succ] at p0 p1
        clear hb1
        go_wp2_with fail
        go_tidy
        go_ret2
        exact ⟨hB, _, rfl, Row.nil_ _ _ _⟩
    · have he : nxE regs l n = 0 := by rw [nxE, if_pos h0, if_neg hn]
      obtain ⟨k, rfl⟩ := Int.eq_ofNat_of_zero_le (show 0 ≤ n by omega)
      have hlt : k < l.length := by omega
      have hL : nxL regs l (k : Int) aheadP = sel (aheadP l k) l.length := by rw [nxL, he, if_pos rfl, Int.toNat_natCast]
      unfold NxPost
      rw [he, hL]
      have d0 : decide ((k : Int) < 0) = false := decide_eq_false (by omega)
      have d1 : decide ((k : Int) ≥ (l.length : Int)) = false := decide_eq_false (by omega)
      have d2 : decide (l.length ≤ k) = false := decide_eq_false (by omega)
      have hhi := hR.hi
      obtain ⟨i3, h3i, h3z, h3s, h3b⟩ := info_parts infoInt
      clear hn he hL h0 hR
      go_enter Try.func34, Try.ntmps34
      go_wp2_with fail
      refine (HC.out _ (by repeat (first | (with_reducible exact Below.refl _ _) | (with_reducible assumption) | (with_reducible refine Below.drew ?_) | (with_reducible refine below_drewN ?_ _) | (with_reducible refine Below.alloc ?_ (by (try simp only [World.size_alloc, World.size_setCell, World.size_drew, World.heap_drewN]); (first | done | omega | ((try simp only [World.size_alloc, World.size_setCell, World.size_drew, World.heap_drewN] at *); omega))) _) | (with_reducible refine Below.setCell ?_ (by (try simp only [World.size_alloc, World.size_setCell, World.size_drew, World.heap_drewN]); (first | done | omega | ((try simp only [World.size_alloc, World.size_setCell, World.size_drew, World.heap_drewN] at *); omega))) _) | (with_reducible refine Below.trans ?_ (Below.mono (by assumption) (by (try simp only [World.size_alloc, World.size_setCell, World.size_drew, World.heap_drewN]); (first | done | omega | ((try simp only [World.size_alloc, World.size_setCell, World.size_drew, World.heap_drewN] at *); omega)))))))).mono ?_
      rintro e w1 ⟨rfl, hb1⟩
      have hP : Blk w1 w.heap.size 24 #[.int .i64 regs, .slice A l.length cap] := Blk.below (Blk.new' rfl) hb1 (by simp)
      have hB : Below w.heap.size w w1 := (by repeat (first | (with_reducible exact Below.refl _ _) | (with_reducible assumption) | (with_reducible refine Below.drew ?_) | (with_reducible refine below_drewN ?_ _) | (with_reducible refine Below.alloc ?_ (by (try simp only [World.size_alloc, World.size_setCell, World.size_drew, World.heap_drewN]); (first | done | omega | ((try simp only [World.size_alloc, World.size_setCell, World.size_drew, World.heap_drewN] at *); omega))) _) | (with_reducible refine Below.setCell ?_ (by (try simp only [World.size_alloc, World.size_setCell, World.size_drew, World.heap_drewN]); (first | done | omega | ((try simp only [World.size_alloc, World.size_setCell, World.size_drew, World.heap_drewN] at *); omega))) _) | (with_reducible refine Below.trans ?_ (Below.mono (by assumption) (by (try simp only [World.size_alloc, World.size_setCell, World.size_drew, World.heap_drewN]); (first | done | omega | ((try simp only [World.size_alloc, World.size_setCell, World.size_drew, World.heap_drewN] at *); omega)))))))
      have p0 := hP.cell 0
      have p1 := hP.cell 1
      have lp := hP.lt
      simp only [List.getElem?_toArray, List.getElem?_cons_zero, List.getElem?_cons_succ] at p0 p1
      clear hb1
      go_wp2_with fail
      go_loopg [7, 27] (l.length) (fun gk v i wr => ∃ m : Nat, m ≤ l.length ∧ i = .int .i64 m ∧ gk = l.length - m ∧ Row wr w.heap.size 3 v (ints (sel (aheadP l k) m)) ∧ Below w.heap.size w wr)
      case atStart => exact ⟨0, Nat.zero_le _, rfl, rfl, Row.nil_ _ _ _, hB⟩
      case round =>
        obtain ⟨m, hm, rfl, hgk, hrow, hbr⟩ := hrel
        have Hgk := hide hgk
        clear hgk p0 p1 lp hP hB
        by_cases hmm : m < l.length
        · obtain ⟨nb, no, x, rfl, hnb, hx, hxl⟩ := hA.get hmm
          obtain ⟨c0, c1, c2, c3, c4, c5⟩ := hxl.below hbr hnb
          have u0 : (0 : Int) ≤ (m : Int) := by omega
          have u1 : (m : Int) < (l.length : Int) := by omega
          have hlb := Nat.lt_of_lt_of_le hnb hbr.size
          obtain ⟨A5, c5', rfl, _, _⟩ := hrow.shape
          have hlen := sel_len (aheadP l k) m
          rw [← ints_length] at hlen
          have hpx : aheadP l k m = leadsB x k := aheadP_eq hx
          have Hpx := hide hpx
          have Hrow := hide hrow
          clear hxl hx hpx hrow
          go_wp2_with fail
          refine (exits_any x _).mono ?_
          rintro e w2 ⟨v2, rfl, hr2, hb2⟩
          obtain ⟨E2, ec, rfl, _, _⟩ := hr2.shape
          rw [ints_length] at hr2 ⊢
          have hCn := Contains_any (exitsS x) E2 ec (k : Int) w2 hr2.vals (by have := exitsS_len x; unfold maxLen; omega)
          rw [exitsS_has, ← Hpx.out] at hCn
          have hrow2 := (Hrow.out.alloc (.cells #[.int .i64 x.op, .int .i64 x.d, .int .i64 x.a, .int .i64 x.b, .int .i64 x.t, .int .i64 x.e] 91)).below' hb2
          have hbr2 : Below w.heap.size w w2 := (hbr.alloc hbr.size (.cells #[.int .i64 x.op, .int .i64 x.d, .int .i64 x.a, .int .i64 x.b, .int .i64 x.t, .int .i64 x.e] 91)).trans (hb2.mono (by simp; have := hbr.size; omega))
          have hz2 := hbr2.size
          have HCn := hide hCn
          have Hrow2 := hide hrow2
          clear hCn hrow2 hb2 hr2 Hrow c0 c1 c2 c3 c4 c5
          cases hp : aheadP l k m
          case false =>
            rw [hp] at HCn
            go_wp2_with (go_at_call 81; refine (HCn.out).mono ?_; rintro e w3 ⟨rfl, rfl⟩)
            go_roundg (l.length - (m + 1))
            case measure => have := Hgk.out; omega
            case rel => exact ⟨m + 1, by omega, by go_num, rfl, by rw [sel_succ_false hp]; exact Hrow2.out, hbr2⟩
          case true =>
            rw [hp] at HCn
            go_wp2_with (first
              | (at_builtin; refine wpList_append_row (v := .slice A5 (ints (sel (aheadP l k) m)).length c5') rfl (.tmp 36) (.tmp 38) _ rfl i3 _ 8 Try.underlying56 h3i h3z h3s h3b rfl rfl (Hrow2.out.alloc _) (some ⟨w2.heap.size, 0, none⟩) 1 1 [.int .i64 (m : Int)] rfl rfl (vals_one _ _ _) (by simp [Value.oneCell']) (by simp [maxLen]; omega) (by simp; omega) (by simp; omega) ?_; intro v3 w3 hr3 hg3 hat3)
              | (go_at_call 81; refine (HCn.out).mono ?_; rintro e w3 ⟨rfl, hw3⟩; have hw3 := hw3.symm; subst hw3))
            go_roundg (l.length - (m + 1))
            case measure => have := Hgk.out; omega
            case rel => exact ⟨m + 1, by omega, by go_num, rfl, by rw [sel_succ_true hp, ints_append]; exact hr3, (hbr2.alloc hz2 _).grown hg3 (by simp; omega) (fun q hq => (Hrow2.out.lt q hq).1)⟩
        · have hkk : m = l.length := by omega
          have Hkk := hide hkk
          clear hkk
          go_wp2_with fail
          go_tidy
          go_ret2
          exact ⟨hbr, _, rfl, by rw [← Hkk.out]; exact hrow⟩
  · have he : nxE regs l n = chk regs l := by rw [nxE, if_neg h0]
    have hL : nxL regs l n aheadP = [] := by rw [nxL, he, if_neg h0]
    unfold NxPost
    rw [he, hL]
    have HC := hide hC
    have b0 : (chk regs l != 0) = true := by simpa using h0
    clear he hL hC h0
    generalize chk regs l = c at *
    go_enter Try.func34, Try.ntmps34
    go_wp2_with fail
    refine (HC.out _ (by repeat (first | (with_reducible exact Below.refl _ _) | (with_reducible assumption) | (with_reducible refine Below.drew ?_) | (with_reducible refine below_drewN ?_ _) | (with_reducible refine Below.alloc ?_ (by (try simp only [World.size_alloc, World.size_setCell, World.size_drew, World.heap_drewN]); (first | done | omega | ((try simp only [World.size_alloc, World.size_setCell, World.size_drew, World.heap_drewN] at *); omega))) _) | (with_reducible refine Below.setCell ?_ (by (try simp only [World.size_alloc, World.size_setCell, World.size_drew, World.heap_drewN]); (first | done | omega | ((try simp only [World.size_alloc, World.size_setCell, World.size_drew, World.heap_drewN] at *); omega))) _) | (with_reducible refine Below.trans ?_ (Below.mono (by assumption) (by (try simp only [World.size_alloc, World.size_setCell, World.size_drew, World.heap_drewN]); (first | done | omega | ((try simp only [World.size_alloc, World.size_setCell, World.size_drew, World.heap_drewN] at *); omega)))))))).mono ?_
    rintro e w1 ⟨rfl, hb1⟩
    have hB : Below w.heap.size w w1 := (by repeat (first | (with_reducible exact Below.refl _ _) | (with_reducible assumption) | (with_reducible refine Below.drew ?_) | (with_reducible refine below_drewN ?_ _) | (with_reducible refine Below.alloc ?_ (by (try simp only [World.size_alloc, World.size_setCell, World.size_drew, World.heap_drewN]); (first | done | omega | ((try simp only [World.size_alloc, World.size_setCell, World.size_drew, World.heap_drewN] at *); omega))) _) | (with_reducible refine Below.setCell ?_ (by (try simp only [World.size_alloc, World.size_setCell, World.size_drew, World.heap_drewN]); (first | done | omega | ((try simp only [World.size_alloc, World.size_setCell, World.size_drew, World.heap_drewN] at *); omega))) _) | (with_reducible refine Below.trans ?_ (Below.mono (by assumption) (by (try simp only [World.size_alloc, World.size_setCell, World.size_drew, World.heap_drewN]); (first | done | omega | ((try simp only [World.size_alloc, World.size_setCell, World.size_drew, World.heap_drewN] at *); omega)))))))
    go_wp2_with fail
    go_tidy
    go_ret2
    exact ⟨hB, _, rfl, Row.nil_ _ _ _⟩
end Go.Proofs.Ytmghkonmfbpjcaa
