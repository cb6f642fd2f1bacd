/- text.names and text.parts. -/
import Derived.Test.YtmghkonmfbpjcabDoorTxP
import Derived.BigRegion
namespace Go.Proofs.YtmghkonmfbpjcabDoor
set_option linter.unusedVariables false
set_option linter.unusedSimpArgs false
open Go.RowKit
set_option maxHeartbeats 8000000
open Go.Lib

set_option maxRecDepth 100000 in
theorem names_any (w : World) : Calls Tryd.prog 34 #[] w fun e w' => e = .returned (.agg namesV) ∧ Below w.heap.size w w' := by
  go_enter Tryd.func34, Tryd.ntmps34
  go_wp2_with fail
  exact bodyPost_ret (v := .agg namesV) (by simp [results, Tryd.results34, go_sem, namesV]) rfl ⟨rfl, (by repeat (first | (with_reducible exact Below.refl _ _) | (with_reducible assumption) | (with_reducible refine Below.drew ?_) | (with_reducible refine below_drewN ?_ _) | (with_reducible refine Below.alloc ?_ (by (try simp only [World.size_alloc, World.size_setCell, World.size_drew, World.heap_drewN]); (first | done | omega | ((try simp only [World.size_alloc, World.size_setCell, World.size_drew, World.heap_drewN] at *); omega))) _) | (with_reducible refine Below.setCell ?_ (by (try simp only [World.size_alloc, World.size_setCell, World.size_drew, World.heap_drewN]); (first | done | omega | ((try simp only [World.size_alloc, World.size_setCell, World.size_drew, World.heap_drewN] at *); omega))) _) | (with_reducible refine Below.trans ?_ (Below.mono (by assumption) (by (try simp only [World.size_alloc, World.size_setCell, World.size_drew, World.heap_drewN]); (first | done | omega | ((try simp only [World.size_alloc, World.size_setCell, World.size_drew, World.heap_drewN] at *); omega)))))))⟩
/-- the parts as cells -/
def partCells (g : Nat) (op : Int) : List Value := (partsL op).flatMap fun p => [strB p.1, .pointer (some ⟨g, p.2, none⟩)]
def PartsPost (B g : Nat) (op : Int) (w : World) (e : Ending) (w' : World) : Prop :=
  ∃ q : Nat, e = .returned (.slice (some ⟨q, 0, none⟩) (partsL op).length (partsL op).length) ∧ B ≤ q ∧ Blk w' q 91 (partCells g op).toArray ∧ Below B w w'
set_option maxRecDepth 100000 in
theorem parts_any (g k : Nat) (d a b t e : Int) (w : World) (hP : Blk w g 55 #[.int .i64 (k : Int), .int .i64 d, .int .i64 a, .int .i64 b, .int .i64 t, .int .i64 e]) (hk : k < 13) :
    Calls Tryd.prog 35 #[.pointer (some ⟨g, 0, none⟩)] w (PartsPost w.heap.size g (k : Int) w) := by
  have lg := hP.lt
  go_enter Tryd.func35, Tryd.ntmps35
  go_wp2_with fail
  go_upto_region 1 with fail
  go_cut [3, 4, 5, 6] (fun s3 s4 s5 s6 wx => ∃ g3 g4 g5 g6 : Nat, s3 = .pointer (some ⟨g3, 0, none⟩) ∧ s4 = .pointer (some ⟨g4, 0, none⟩) ∧ s5 = .pointer (some ⟨g5, 0, none⟩) ∧ s6 = .pointer (some ⟨g6, 0, none⟩)
    ∧ Blk wx g3 91 #[.string ⟨#[]⟩, .pointer (some ⟨g, 1, none⟩)] ∧ Blk wx g4 91 #[.string ⟨#[]⟩, .pointer (some ⟨g, 2, none⟩)] ∧ Blk wx g5 91 #[.string ⟨#[]⟩, .pointer (some ⟨g, 3, none⟩)] ∧ Blk wx g6 91 #[.string ⟨#[116, 111]⟩, .pointer (some ⟨g, 4, none⟩)] ∧ Below w.heap.size w wx)
  case first =>
    clear hP hk
    go_region
    all_goals (go_wp2_with fail)
    all_goals go_meet
    all_goals exact ⟨_, _, _, _, rfl, rfl, rfl, rfl, (by repeat (first | ((with_reducible refine Blk.new' ?_); exact (by (try simp only [World.size_alloc, World.size_setCell, World.size_drew, World.heap_drewN]); (first | done | omega | ((try simp only [World.size_alloc, World.size_setCell, World.size_drew, World.heap_drewN] at *); omega)))) | (with_reducible refine Blk.drew ?_) | (with_reducible refine Blk.drewN ?_ _) | (with_reducible refine Blk.alloc ?_ _) | with_reducible assumption)), (by repeat (first | ((with_reducible refine Blk.new' ?_); exact (by (try simp only [World.size_alloc, World.size_setCell, World.size_drew, World.heap_drewN]); (first | done | omega | ((try simp only [World.size_alloc, World.size_setCell, World.size_drew, World.heap_drewN] at *); omega)))) | (with_reducible refine Blk.drew ?_) | (with_reducible refine Blk.drewN ?_ _) | (with_reducible refine Blk.alloc ?_ _) | with_reducible assumption)), (by repeat (first | ((with_reducible refine Blk.new' ?_); exact (by (try simp only [World.size_alloc, World.size_setCell, World.size_drew, World.heap_drewN]); (first | done | omega | ((try simp only [World.size_alloc, World.size_setCell, World.size_drew, World.heap_drewN] at *); omega)))) | (with_reducible refine Blk.drew ?_) | (with_reducible refine Blk.drewN ?_ _) | (with_reducible refine Blk.alloc ?_ _) | with_reducible assumption)), (by repeat (first | ((with_reducible refine Blk.new' ?_); exact (by (try simp only [World.size_alloc, World.size_setCell, World.size_drew, World.heap_drewN]); (first | done | omega | ((try simp only [World.size_alloc, World.size_setCell, World.size_drew, World.heap_drewN] at *); omega)))) | (with_reducible refine Blk.drew ?_) | (with_reducible refine Blk.drewN ?_ _) | (with_reducible refine Blk.alloc ?_ _) | with_reducible assumption)), (by repeat (first | (with_reducible exact Below.refl _ _) | (with_reducible assumption) | (with_reducible refine Below.drew ?_) | (with_reducible refine below_drewN ?_ _) | (with_reducible refine Below.alloc ?_ (by (try simp only [World.size_alloc, World.size_setCell, World.size_drew, World.heap_drewN]); (first | done | omega | ((try simp only [World.size_alloc, World.size_setCell, World.size_drew, World.heap_drewN] at *); omega))) _) | (with_reducible refine Below.setCell ?_ (by (try simp only [World.size_alloc, World.size_setCell, World.size_drew, World.heap_drewN]); (first | done | omega | ((try simp only [World.size_alloc, World.size_setCell, World.size_drew, World.heap_drewN] at *); omega))) _) | (with_reducible refine Below.trans ?_ (Below.mono (by assumption) (by (try simp only [World.size_alloc, World.size_setCell, World.size_drew, World.heap_drewN]); (first | done | omega | ((try simp only [World.size_alloc, World.size_setCell, World.size_drew, World.heap_drewN] at *); omega)))))))⟩
  case rest =>
    obtain ⟨g3, g4, g5, g6, rfl, rfl, rfl, rfl, h3, h4, h5, h6, hB⟩ := hcut
    have hN := hP.below hB lg
    clear hP
    have c0 := hN.cell 0
    have a0 := h3.cell 0
    have a1 := h3.cell 1
    have b0 := h4.cell 0
    have b1 := h4.cell 1
    have d0 := h5.cell 0
    have d1 := h5.cell 1
    have e0 := h6.cell 0
    have e1 := h6.cell 1
    have hz := hB.size
    simp only [List.getElem?_toArray, List.getElem?_cons_zero, List.getElem?_cons_succ] at c0 a0 a1 b0 b1 d0 d1 e0 e1
    clear hN h3 h4 h5 h6
    have hkk : k = 0 ∨ k = 1 ∨ k = 2 ∨ k = 3 ∨ k = 4 ∨ k = 5 ∨ k = 6 ∨ k = 7 ∨ k = 8 ∨ k = 9 ∨ k = 10 ∨ k = 11 ∨ k = 12 := by omega
    clear hk
    rcases hkk with rfl | rfl | rfl | rfl | rfl | rfl | rfl | rfl | rfl | rfl | rfl | rfl | rfl
    all_goals (go_wp2_with fail)
    all_goals (try (go_region; go_wp2_with fail))
    all_goals go_ret
    all_goals exact ⟨wc.heap.size, rfl, hz, (by first | exact Blk.new _ _ _ | exact (Blk.new wc _ _).drew | exact Blk.new wc.drew _ _), (by first | exact hB.alloc hz _ | exact (by repeat (first | (with_reducible exact Below.refl _ _) | (with_reducible assumption) | (with_reducible refine Below.drew ?_) | (with_reducible refine below_drewN ?_ _) | (with_reducible refine Below.alloc ?_ (by (try simp only [World.size_alloc, World.size_setCell, World.size_drew, World.heap_drewN]); (first | done | omega | ((try simp only [World.size_alloc, World.size_setCell, World.size_drew, World.heap_drewN] at *); omega))) _) | (with_reducible refine Below.setCell ?_ (by (try simp only [World.size_alloc, World.size_setCell, World.size_drew, World.heap_drewN]); (first | done | omega | ((try simp only [World.size_alloc, World.size_setCell, World.size_drew, World.heap_drewN] at *); omega))) _) | (with_reducible refine Below.trans ?_ (Below.mono (by assumption) (by (try simp only [World.size_alloc, World.size_setCell, World.size_drew, World.heap_drewN]); (first | done | omega | ((try simp only [World.size_alloc, World.size_setCell, World.size_drew, World.heap_drewN] at *); omega))))))))⟩
end Go.Proofs.YtmghkonmfbpjcabDoor
