/- The law GraphSame, walked. PRINTED by mksameg.py. -/
import Derived.Test.YtmghkonmfbpjcabDoes
import Derived.Test.YtmghkonmfbpjcabGraphB
import Derived.Test.YtmghkonmfbpjcabJG
namespace Go.Proofs.Ytmghkonmfbpjcab
set_option linter.unusedVariables false
set_option linter.unusedSimpArgs false
open Go.RowKit
set_option maxHeartbeats 8000000
attribute [local irreducible] Row CRow madeCells NRow

/-- a program in a box of the law's own, its nodes younger than a world -/
structure ProgSt (tP tN : TypeId) (B b : Nat) (regs : Int) (A : Option Addr) (c : Nat) (l : List Nd) (W : World) : Prop where
  box : Blk W b tP #[.int .i64 regs, .slice A l.length c]
  row : NRow W B tN (.slice A l.length c) l
theorem ProgSt.later {tP tN : TypeId} {B b : Nat} {regs : Int} {A : Option Addr} {c : Nat} {l : List Nd} {W W' : World} (h : ProgSt tP tN B b regs A c l W) (hb : Below W.heap.size W W') : ProgSt tP tN B b regs A c l W' := ⟨h.box.below hb h.box.lt, h.row.below' hb⟩
set_option maxRecDepth 100000 in
theorem same_err (regs : Int) (A : Option Addr) (l : List Nd) (cap : Nat) (Ai : Option Addr) (inp : List Int) (ci : Nat) (fuel : Int) (w : World) (hA : NodesAt w A l) (hml : l.length ≤ maxLen) (hc : chk regs l ≠ 0) :
    Calls Try.prog 3 #[.agg #[.int .i64 regs, .slice A l.length cap], .slice Ai inp.length ci, .int .i64 fuel] w fun e w' => e = .returned (.bool true) ∧ Below w.heap.size w w' := by
  have Hc := hide hc
  have hne : (chk regs l != 0) = true := by simpa using hc
  clear hc
  have HT := hide (fun W (hW : Below w.heap.size w W) => Trim_any regs A l cap W hml (hA.below hW))
  have HS := hide (fun W (hW : Below w.heap.size w W) => Split_any regs A l cap W hml (hA.below hW))
  clear hA
  go_enter Try.func3, Try.ntmps3
  go_wp2_with fail
  refine (HT.out _ (by repeat (first | (with_reducible exact Below.refl _ _) | (with_reducible assumption) | (with_reducible refine Below.drew ?_) | (with_reducible refine below_drewN ?_ _) | (with_reducible refine Below.alloc ?_ (by (try simp only [World.size_alloc, World.size_setCell, World.size_drew, World.heap_drewN]); (first | done | omega | ((try simp only [World.size_alloc, World.size_setCell, World.size_drew, World.heap_drewN] at *); omega))) _) | (with_reducible refine Below.setCell ?_ (by (try simp only [World.size_alloc, World.size_setCell, World.size_drew, World.heap_drewN]); (first | done | omega | ((try simp only [World.size_alloc, World.size_setCell, World.size_drew, World.heap_drewN] at *); omega))) _) | (with_reducible refine Below.trans ?_ (Below.mono (by assumption) (by (try simp only [World.size_alloc, World.size_setCell, World.size_drew, World.heap_drewN]); (first | done | omega | ((try simp only [World.size_alloc, World.size_setCell, World.size_drew, World.heap_drewN] at *); omega)))))))).mono ?_
  rintro e w1 ⟨hb1, h1⟩
  obtain ⟨-, rfl⟩ := h1.resolve_right (fun h => Hc.out h.1)
  have hz1 := hb1.size
  simp only [World.size_alloc] at hz1
  have hP : Blk w1 w.heap.size 24 #[.int .i64 regs, .slice A l.length cap] := Blk.below (Blk.new' rfl) hb1 (by simp)
  have hB : Below w.heap.size w w1 := (by repeat (first | (with_reducible exact Below.refl _ _) | (with_reducible assumption) | (with_reducible refine Below.drew ?_) | (with_reducible refine below_drewN ?_ _) | (with_reducible refine Below.alloc ?_ (by (try simp only [World.size_alloc, World.size_setCell, World.size_drew, World.heap_drewN]); (first | done | omega | ((try simp only [World.size_alloc, World.size_setCell, World.size_drew, World.heap_drewN] at *); omega))) _) | (with_reducible refine Below.setCell ?_ (by (try simp only [World.size_alloc, World.size_setCell, World.size_drew, World.heap_drewN]); (first | done | omega | ((try simp only [World.size_alloc, World.size_setCell, World.size_drew, World.heap_drewN] at *); omega))) _) | (with_reducible refine Below.trans ?_ (Below.mono (by assumption) (by (try simp only [World.size_alloc, World.size_setCell, World.size_drew, World.heap_drewN]); (first | done | omega | ((try simp only [World.size_alloc, World.size_setCell, World.size_drew, World.heap_drewN] at *); omega)))))))
  have p0 := hP.cell 0
  have p1 := hP.cell 1
  simp only [List.getElem?_toArray, List.getElem?_cons_zero, List.getElem?_cons_succ] at p0 p1
  have lp := hP.lt
  clear hb1 h1
  go_wp2_with fail
  refine (HS.out _ (hB.alloc (by omega) _)).mono ?_
  rintro e w2 ⟨hb2, h2⟩
  obtain ⟨-, rfl⟩ := h2.resolve_right (fun h => h.elim (fun h => Hc.out h.1) (fun h => Hc.out h.1))
  have hz2 := hb2.size
  simp only [World.size_alloc] at hz2
  have hB2 : Below w.heap.size w w2 := (hB.alloc (by omega) _).trans (hb2.mono (by simp; omega))
  clear hb2 h2
  clear p0 p1 lp hP
  generalize chk regs l = c at *
  go_wp2_with fail
  refine (graphBegun_any _).mono ?_
  rintro e w3 ⟨rfl, hb3⟩
  go_wp2_with fail
  go_ret
  exact ⟨rfl, (hB2.alloc (by omega) _).trans (hb3.mono (by simp; omega))⟩
set_option maxRecDepth 100000 in
theorem same_many (regs : Int) (A : Option Addr) (l : List Nd) (cap : Nat) (Ai : Option Addr) (inp : List Int) (ci : Nat) (fuel : Int) (w : World) (hA : NodesAt w A l) (hml : l.length ≤ maxLen) (hc : chk regs l = 0) (h256 : 256 < (splitL l).length) :
    Calls Try.prog 3 #[.agg #[.int .i64 regs, .slice A l.length cap], .slice Ai inp.length ci, .int .i64 fuel] w fun e w' => e = .returned (.bool true) ∧ Below w.heap.size w w' := by
  have Hc := hide hc
  have H2 := hide h256
  clear hc h256
  have HT := hide (fun W (hW : Below w.heap.size w W) => Trim_any regs A l cap W hml (hA.below hW))
  have HS := hide (fun W (hW : Below w.heap.size w W) => Split_any regs A l cap W hml (hA.below hW))
  clear hA
  go_enter Try.func3, Try.ntmps3
  go_wp2_with fail
  refine (HT.out _ (by repeat (first | (with_reducible exact Below.refl _ _) | (with_reducible assumption) | (with_reducible refine Below.drew ?_) | (with_reducible refine below_drewN ?_ _) | (with_reducible refine Below.alloc ?_ (by (try simp only [World.size_alloc, World.size_setCell, World.size_drew, World.heap_drewN]); (first | done | omega | ((try simp only [World.size_alloc, World.size_setCell, World.size_drew, World.heap_drewN] at *); omega))) _) | (with_reducible refine Below.setCell ?_ (by (try simp only [World.size_alloc, World.size_setCell, World.size_drew, World.heap_drewN]); (first | done | omega | ((try simp only [World.size_alloc, World.size_setCell, World.size_drew, World.heap_drewN] at *); omega))) _) | (with_reducible refine Below.trans ?_ (Below.mono (by assumption) (by (try simp only [World.size_alloc, World.size_setCell, World.size_drew, World.heap_drewN]); (first | done | omega | ((try simp only [World.size_alloc, World.size_setCell, World.size_drew, World.heap_drewN] at *); omega)))))))).mono ?_
  rintro e w1 ⟨hb1, h1⟩
  obtain ⟨-, v1, rfl, hN1⟩ := h1.resolve_left (fun h => h.1 Hc.out)
  obtain ⟨A1, c1, rfl, _, _⟩ := hN1.shape
  have hz1 := hb1.size
  simp only [World.size_alloc] at hz1
  have hP : Blk w1 w.heap.size 24 #[.int .i64 regs, .slice A l.length cap] := Blk.below (Blk.new' rfl) hb1 (by simp)
  have hB : Below w.heap.size w w1 := (by repeat (first | (with_reducible exact Below.refl _ _) | (with_reducible assumption) | (with_reducible refine Below.drew ?_) | (with_reducible refine below_drewN ?_ _) | (with_reducible refine Below.alloc ?_ (by (try simp only [World.size_alloc, World.size_setCell, World.size_drew, World.heap_drewN]); (first | done | omega | ((try simp only [World.size_alloc, World.size_setCell, World.size_drew, World.heap_drewN] at *); omega))) _) | (with_reducible refine Below.setCell ?_ (by (try simp only [World.size_alloc, World.size_setCell, World.size_drew, World.heap_drewN]); (first | done | omega | ((try simp only [World.size_alloc, World.size_setCell, World.size_drew, World.heap_drewN] at *); omega))) _) | (with_reducible refine Below.trans ?_ (Below.mono (by assumption) (by (try simp only [World.size_alloc, World.size_setCell, World.size_drew, World.heap_drewN]); (first | done | omega | ((try simp only [World.size_alloc, World.size_setCell, World.size_drew, World.heap_drewN] at *); omega)))))))
  have p0 := hP.cell 0
  have p1 := hP.cell 1
  simp only [List.getElem?_toArray, List.getElem?_cons_zero, List.getElem?_cons_succ] at p0 p1
  have lp := hP.lt
  clear hb1 h1
  go_wp2_with fail
  refine (HS.out _ (hB.alloc (by omega) _)).mono ?_
  rintro e w2 ⟨hb2, h2⟩
  obtain ⟨-, -, rfl⟩ := (h2.resolve_left (fun h => h.1 Hc.out)).resolve_right (fun h => by have := h.2.1; have := H2.out; omega)
  have hz2 := hb2.size
  simp only [World.size_alloc] at hz2
  have hB2 : Below w.heap.size w w2 := (hB.alloc (by omega) _).trans (hb2.mono (by simp; omega))
  clear hb2 h2
  clear p0 p1 lp hP
  go_wp2_with fail
  refine (graphBegun_any _).mono ?_
  rintro e w3 ⟨rfl, hb3⟩
  go_wp2_with fail
  go_ret
  exact ⟨rfl, (hB2.alloc (by omega) _).trans (hb3.mono (by simp; omega))⟩
set_option maxRecDepth 100000 in
theorem same_ok (regs : Int) (A : Option Addr) (l : List Nd) (cap : Nat) (Ai : Option Addr) (inp : List Int) (ci : Nat) (fuel : Int) (w : World) (hA : NodesAt w A l) (hml : l.length ≤ maxLen) (hI : ValsAt w Ai (ints inp)) (hic : inp.length ≤ ci ∧ ci ≤ maxLen) (hf : i64ok fuel) (hc : chk regs l = 0) (h256 : (splitL l).length ≤ 256) :
    Calls Try.prog 3 #[.agg #[.int .i64 regs, .slice A l.length cap], .slice Ai inp.length ci, .int .i64 fuel] w fun e w' => e = .returned (.bool true) ∧ Below w.heap.size w w' := by
  have hR := right_of_chk hc
  have hhi := hR.hi
  have Hc := hide hc
  have H2 := hide h256
  have hsc : chk regs (splitL l) = 0 := (hR.split h256).chk
  have htc : chk regs (trimL l) = 0 := hR.trim.chk
  have htl := trimL_len l
  have HT := hide (fun W (hW : Below w.heap.size w W) => Trim_any regs A l cap W hml (hA.below hW))
  have HS := hide (fun W (hW : Below w.heap.size w W) => Split_any regs A l cap W hml (hA.below hW))
  have HCh := fun V => hide (choose_any fuel 400 (by omega) (by omega) hf V)
  have hn := chV_in fuel (show (0 : Int) < 400 by omega)
  generalize chV fuel 400 = n at *
  obtain ⟨n', rfl⟩ : ∃ n' : Nat, n = n' := ⟨n.toNat, by omega⟩
  have hn4 : n' ≤ 400 := by omega
  obtain ⟨R, hRd⟩ : ∃ R, R = (runR regs l (fewL inp) n').told := ⟨_, rfl⟩
  have hRt : (runR regs (trimL l) (fewL inp) n').told = R := by
    have h := run_trim (inp := fewL inp) hR n'
    rw [hRd]
    simp only [Rn.told, h.alike.out, h.alike.ret, h.alike.ended, h.alike.ts, h.steps]
  have hDoes := (split_sim (fewL inp) hR).does_ (split_start hR) (show 2 ≤ (splitL l).length + 1 by have := (split_spl hR).len; have := hR.lo; omega) n'
  have ht2 := trim_again hR
  have hs2 := split_again hR
  have hfi : (fewL inp).length ≤ ci ∧ ci ≤ maxLen := ⟨by have : (fewL inp).length ≤ inp.length := (by unfold fewL; rw [List.length_take]; omega); omega, hic.2⟩
  have HF := fun V => hide (few_any Ai inp ci V hic)
  have HR1 := fun (V : World) (hV : Below w.heap.size w V) => hide (by
    have h := Run_got (cap := cap) (n := n') (w := V) hml (hA.below hV) ((hI.below hV).few) hfi hc (fewL_len inp) (by omega)
    rw [← hRd] at h
    exact h)
  have HV := hide (fun (V : World) (hV : Below w.heap.size w V) => (hI.below hV).few)
  have HN := hide (fun (V : World) (hV : Below w.heap.size w V) => hA.below hV)
  have hfl := fewL_len inp
  have HD := hide hDoes
  have Hfi := hide hfi
  have Hsc := hide hsc
  have Htc := hide htc
  have Ht2 := hide ht2
  have Hs2 := hide hs2
  have HRt := hide hRt
  clear hA hI hc h256 hR hRd hDoes hfi hsc htc ht2 hs2 hRt hf
  generalize hTL : trimL l = T at *
  generalize hSL : splitL l = S at *
  go_enter Try.func3, Try.ntmps3
  go_wp2_with fail
  refine (HT.out _ (by repeat (first | (with_reducible exact Below.refl _ _) | (with_reducible assumption) | (with_reducible refine Below.drew ?_) | (with_reducible refine below_drewN ?_ _) | (with_reducible refine Below.alloc ?_ (by (try simp only [World.size_alloc, World.size_setCell, World.size_drew, World.heap_drewN]); (first | done | omega | ((try simp only [World.size_alloc, World.size_setCell, World.size_drew, World.heap_drewN] at *); omega))) _) | (with_reducible refine Below.setCell ?_ (by (try simp only [World.size_alloc, World.size_setCell, World.size_drew, World.heap_drewN]); (first | done | omega | ((try simp only [World.size_alloc, World.size_setCell, World.size_drew, World.heap_drewN] at *); omega))) _) | (with_reducible refine Below.trans ?_ (Below.mono (by assumption) (by (try simp only [World.size_alloc, World.size_setCell, World.size_drew, World.heap_drewN]); (first | done | omega | ((try simp only [World.size_alloc, World.size_setCell, World.size_drew, World.heap_drewN] at *); omega)))))))).mono ?_
  rintro e w1 ⟨hb1, h1⟩
  obtain ⟨-, v1, rfl, hN1⟩ := h1.resolve_left (fun h => h.1 Hc.out)
  rw [hTL] at hN1
  obtain ⟨A1, c1, rfl, _, _⟩ := hN1.shape
  have hz1 := hb1.size
  simp only [World.size_alloc] at hz1
  have hP1 : Blk w1 w.heap.size 24 #[.int .i64 regs, .slice A l.length cap] := Blk.below (Blk.new' rfl) hb1 (by simp)
  have hB1 : Below w.heap.size w w1 := (by repeat (first | (with_reducible exact Below.refl _ _) | (with_reducible assumption) | (with_reducible refine Below.drew ?_) | (with_reducible refine below_drewN ?_ _) | (with_reducible refine Below.alloc ?_ (by (try simp only [World.size_alloc, World.size_setCell, World.size_drew, World.heap_drewN]); (first | done | omega | ((try simp only [World.size_alloc, World.size_setCell, World.size_drew, World.heap_drewN] at *); omega))) _) | (with_reducible refine Below.setCell ?_ (by (try simp only [World.size_alloc, World.size_setCell, World.size_drew, World.heap_drewN]); (first | done | omega | ((try simp only [World.size_alloc, World.size_setCell, World.size_drew, World.heap_drewN] at *); omega))) _) | (with_reducible refine Below.trans ?_ (Below.mono (by assumption) (by (try simp only [World.size_alloc, World.size_setCell, World.size_drew, World.heap_drewN]); (first | done | omega | ((try simp only [World.size_alloc, World.size_setCell, World.size_drew, World.heap_drewN] at *); omega)))))))
  have p0 := hP1.cell 0
  have p1 := hP1.cell 1
  simp only [List.getElem?_toArray, List.getElem?_cons_zero, List.getElem?_cons_succ] at p0 p1
  have lp := hP1.lt
  have hN1 := hN1.mono (base' := w.heap.size) (by simp)
  clear hb1 h1
  go_upto_region 2 with fail
  obtain ⟨W1, hW1⟩ : ∃ W1, W1 = w1.alloc (.cells #[.int .i64 regs, .slice A1 T.length c1] 24) := ⟨_, rfl⟩
  have hT1 : ProgSt 24 60 w.heap.size w1.heap.size regs A1 c1 T W1 := by rw [hW1]; exact ⟨Blk.new' rfl, hN1.alloc _⟩
  have hBW : Below w1.heap.size w1 W1 := by rw [hW1]; exact (Below.refl _ _).alloc (Nat.le_refl _) _
  rw [← hW1]
  have hB1 := hB1.trans (hBW.mono (by omega))
  have hP1 := hP1.below hBW lp
  have p0 := hP1.cell 0
  have p1 := hP1.cell 1
  simp only [List.getElem?_toArray, List.getElem?_cons_zero, List.getElem?_cons_succ] at p0 p1
  have lp := hP1.lt
  have hz1 := hB1.size
  obtain ⟨bt, hbt⟩ : ∃ a, a = w1.heap.size := ⟨_, rfl⟩
  rw [← hbt] at hT1 ⊢
  clear hW1 hBW hbt hN1
  go_wp2_with fail
  refine (HS.out _ hB1).mono ?_
  rintro e w2 ⟨hb2, h2⟩
  obtain ⟨-, -, v2, rfl, hN2⟩ := (h2.resolve_left (fun h => h.1 Hc.out)).resolve_left (fun h => by have := h.2.1; have := H2.out; rw [hSL] at *; omega)
  rw [hSL] at hN2
  obtain ⟨A2, c2, rfl, _, _⟩ := hN2.shape
  have hz2 := hb2.size
  have hB2 := hB1.trans (hb2.mono (by omega))
  have hT2 := hT1.later hb2
  have hP2 := hP1.below hb2 lp
  have hN2 := hN2.mono (base' := w.heap.size) (by omega)
  clear hb2 h2 hT1 hP1 hB1
  go_upto_region 3 with fail
  obtain ⟨W2, hW2⟩ : ∃ W2, W2 = w2.alloc (.cells #[.int .i64 regs, .slice A2 S.length c2] 24) := ⟨_, rfl⟩
  have hQ2 : ProgSt 24 60 w.heap.size w2.heap.size regs A2 c2 S W2 := by rw [hW2]; exact ⟨Blk.new' rfl, hN2.alloc _⟩
  have hBW : Below w2.heap.size w2 W2 := by rw [hW2]; exact (Below.refl _ _).alloc (Nat.le_refl _) _
  rw [← hW2]
  have hB2 := hB2.trans (hBW.mono (by omega))
  have hT2 := hT2.later hBW
  have hP2 := hP2.below hBW hP2.lt
  have hz2 := hB2.size
  obtain ⟨bq, hbq⟩ : ∃ a, a = w2.heap.size := ⟨_, rfl⟩
  rw [← hbq] at hQ2 ⊢
  clear hW2 hBW hbq hN2 p0 p1 lp hz1
  go_wp2_with (go_at_call 11; refine ((HCh _).out).mono ?_; rintro e w0 ⟨rfl, hw0⟩; rw [hw0]; clear hw0 w0)
  have p0 := hP2.cell 0
  have p1 := hP2.cell 1
  simp only [List.getElem?_toArray, List.getElem?_cons_zero, List.getElem?_cons_succ] at p0 p1
  have lp := hP2.lt
  have HR2 := fun (V : World) (hV : Below W2.heap.size W2 V) => HR1 V (hB2.trans (hV.mono hz2))
  go_cut [12, 13] (fun s12 s13 wy => ∃ (b : Nat) (O : Option Addr) (oc : Nat) (C : Option Addr) (cc : Nat), s12 = .pointer (some ⟨b, 0, none⟩) ∧ s13 = .int .i64 0 ∧ ResSt 3 75 33 W2 b O oc C cc R wy)
  case first =>
    refine wp_region_held_drew (S := fun w' => w'.cell? ⟨w.heap.size, 0, none⟩ = some (.int .i64 regs) ∧ w'.cell? ⟨w.heap.size, 1, none⟩ = some (.slice A l.length cap)) (by kernel_rfl) ⟨p0, p1⟩ ?_
    intro hHeld
    have hC0 : Below W2.heap.size W2 W2.drew := (Below.refl _ _).drew
    refine wpAnyH_take (i := 0) (v := ?_) rfl (by kernel_rfl) (by kernel_rfl) (by kernel_rfl) (fun _ _ _ h => h) (Or.inl ⟨by rfl, ?_⟩) hHeld ?_; rotate_left; (focus (intro w' hSw; (try dsimp only at hSw); (try go_split_ands); go_simp; try with_reducible rfl))
    try simp only [List.getElem_toArray, List.getElem_cons_zero, List.getElem_cons_succ, Act.put, List.setIfInBounds_toArray, List.set_cons_zero, List.set_cons_succ]
    refine wpAnyH_take (i := 1) (v := ?_) rfl (by kernel_rfl) (by kernel_rfl) (by kernel_rfl) (fun _ _ _ h => h) (Or.inl ⟨by rfl, ?_⟩) hHeld ?_; rotate_left; (focus (intro w' hSw; clear hSw; go_simp; try with_reducible rfl))
    try simp only [List.getElem_toArray, List.getElem_cons_zero, List.getElem_cons_succ, Act.put, List.setIfInBounds_toArray, List.set_cons_zero, List.set_cons_succ]
    refine wpAnyH_take (i := 3) (v := ?_) rfl (by kernel_rfl) (by kernel_rfl) (by kernel_rfl) (fun _ _ _ h => h) (Or.inl ⟨by rfl, ?_⟩) hHeld ?_; rotate_left; (focus (intro w' hSw; clear hSw; go_simp; try with_reducible rfl))
    try simp only [List.getElem_toArray, List.getElem_cons_zero, List.getElem_cons_succ, Act.put, List.setIfInBounds_toArray, List.set_cons_zero, List.set_cons_succ]
    refine wpAnyH_ready (rs := [2, 8]) (by kernel_rfl) (by simp) ?_
    refine AllReadyH.cons rfl (fun K hK => ?_) (AllReadyH.cons rfl (fun K hK => ?_) AllReadyH.nil)
    · have HK2 := hide hK
      clear hK
      go_simp
      go_at_call 13
      refine ((HF _).out).mono ?_
      rintro e w0 ⟨rfl, rfl⟩
      refine Shut.out HK2.out _ _ hHeld (fun _ => ?_)
      try simp only [List.getElem_toArray, List.getElem_cons_zero, List.getElem_cons_succ, Act.put, List.setIfInBounds_toArray, List.set_cons_zero, List.set_cons_succ]
      clear HK2
      refine wpAnyH_ready (rs := [4, 8]) (by kernel_rfl) (by simp) ?_
      refine AllReadyH.cons rfl (fun K hK => ?_) (AllReadyH.cons rfl (fun K hK => ?_) AllReadyH.nil)
      · have HK4 := hide hK
        clear hK
        go_simp
        go_at_call 12
        refine ((HR2 _ hC0).out).mono ?_
        rintro e w5 ⟨hc5, O5, oc5, C5, cc5, rfl, hO5⟩
        have hC5 : Below W2.heap.size W2 w5 := hC0.trans (hc5.mono hC0.size)
        clear hHeld
        have hHeld : w5.cell? ⟨w.heap.size, 0, none⟩ = some (.int .i64 regs) ∧ w5.cell? ⟨w.heap.size, 1, none⟩ = some (.slice A l.length cap) := ⟨((bcell hC5).1 _ _ lp).trans p0, ((bcell hC5).1 _ _ lp).trans p1⟩
        refine Shut.out HK4.out _ _ hHeld (fun _ => ?_)
        try simp only [List.getElem_toArray, List.getElem_cons_zero, List.getElem_cons_succ, Act.put, List.setIfInBounds_toArray, List.set_cons_zero, List.set_cons_succ]
        clear HK4
        refine wpAnyH_take (i := 5) (v := ?_) rfl (by kernel_rfl) (by kernel_rfl) (by kernel_rfl) (fun _ _ _ h => h) (Or.inl ⟨by rfl, ?_⟩) hHeld ?_; rotate_left; (focus (intro w' hSw; clear hSw; go_simp; try with_reducible rfl))
        try simp only [List.getElem_toArray, List.getElem_cons_zero, List.getElem_cons_succ, Act.put, List.setIfInBounds_toArray, List.set_cons_zero, List.set_cons_succ]
        refine wpAnyH_take (i := 6) (v := ?_) rfl (by kernel_rfl) (by kernel_rfl) (by kernel_rfl) (fun _ _ _ h => h) (Or.inl ⟨by rfl, ?_⟩) hHeld ?_; rotate_left; (focus (intro w' hSw; clear hSw; go_simp; try with_reducible rfl))
        try simp only [List.getElem_toArray, List.getElem_cons_zero, List.getElem_cons_succ, Act.put, List.setIfInBounds_toArray, List.set_cons_zero, List.set_cons_succ]
        refine wpAnyH_take (i := 7) (v := ?_) rfl (by kernel_rfl) (by kernel_rfl) (by kernel_rfl) (fun _ _ _ h => h) (Or.inl ⟨by rfl, ?_⟩) hHeld ?_; rotate_left; (focus (intro w' hSw; clear hSw; go_simp; try with_reducible rfl))
        try simp only [List.getElem_toArray, List.getElem_cons_zero, List.getElem_cons_succ, Act.put, List.setIfInBounds_toArray, List.set_cons_zero, List.set_cons_succ]
        refine wpAnyH_ready (rs := [8]) (by kernel_rfl) (by simp) ?_
        refine AllReadyH.cons rfl (fun K hK => ?_) AllReadyH.nil
        have HK8 := hide hK
        clear hK
        go_simp
        obtain ⟨V6, hV6⟩ : ∃ V : World, V = (w5).alloc (.cells #[.slice none 0 0, .int .i64 0, .bool false, .int .i64 0, .slice none 0 0] 33) := ⟨_, rfl⟩
        rw [← hV6]
        have hC6 : Below W2.heap.size W2 V6 := by rw [hV6]; exact Below.alloc hC5 hC5.size _
        have hzV6 : Blk V6 (w5).heap.size 33 #[.slice none 0 0, .int .i64 0, .bool false, .int .i64 0, .slice none 0 0] := by rw [hV6]; exact Blk.new' rfl
        have hbV6 : Below (w5).heap.size (w5) V6 := by rw [hV6]; exact (Below.refl _ _).alloc (Nat.le_refl _) _
        clear hHeld hV6
        have hHeld : V6.cell? ⟨w.heap.size, 0, none⟩ = some (.int .i64 regs) ∧ V6.cell? ⟨w.heap.size, 1, none⟩ = some (.slice A l.length cap) := ⟨((bcell hC6).1 _ _ lp).trans p0, ((bcell hC6).1 _ _ lp).trans p1⟩
        refine Shut.out HK8.out _ _ hHeld (fun _ => ?_)
        try simp only [List.getElem_toArray, List.getElem_cons_zero, List.getElem_cons_succ, Act.put, List.setIfInBounds_toArray, List.set_cons_zero, List.set_cons_succ]
        clear HK8
        have hQz := hzV6
        have rQ := (hO5.mono_ (B' := W2.heap.size) (by have := hC0.size; omega)).below hbV6
        have n2 := hO5.ne (g := w5.heap.size) (.inr (Nat.le_refl _))
        have hwb : W2.heap.size ≤ w5.heap.size := hC5.size
        have nwb : ¬ (w.heap.size = w5.heap.size) := by have := hC5.size; have := lp; omega
        have nwb' : ¬ (w5.heap.size = w.heap.size) := fun e => nwb e.symm
        have hfin := ResSt.mk5 (R := R) hQz rQ n2 hC6 hwb
        obtain ⟨b, hb⟩ : ∃ b, b = w5.heap.size := ⟨_, rfl⟩
        rw [← hb] at hQz hfin nwb nwb' ⊢
        have Hfin := hide hfin
        clear hzV6 hb hbV6 rQ n2 hfin hO5
        refine wpAnyH_ready (rs := [9]) (by kernel_rfl) (by simp) ?_
        refine AllReadyH.cons rfl (fun K hK => ?_) AllReadyH.nil
        have d0 := hQz.cell 0
        have d1 := hQz.cell 1
        have d2 := hQz.cell 2
        have d3 := hQz.cell 3
        have d4 := hQz.cell 4
        have f0 := hQz.frozen 0
        have f1 := hQz.frozen 1
        have f2 := hQz.frozen 2
        have f3 := hQz.frozen 3
        have f4 := hQz.frozen 4
        simp only [List.getElem?_toArray, List.getElem?_cons_zero, List.getElem?_cons_succ] at d0 d1 d2 d3 d4
        have HK9 := hide hK
        clear hK
        go_simp
        refine Shut.out HK9.out _ _ ?_ (fun hHeld => ?_)
        · (try dsimp only)
          refine And.intro ?_ ?_
          · rw [set5_cell nwb]; exact hHeld.1
          · rw [set5_cell nwb]; exact hHeld.2
        try simp only [List.getElem_toArray, List.getElem_cons_zero, List.getElem_cons_succ, Act.put, List.setIfInBounds_toArray, List.set_cons_zero, List.set_cons_succ]
        clear HK9
        refine wpAnyH_take (i := 10) (v := ?_) rfl (by kernel_rfl) (by kernel_rfl) (by kernel_rfl) (fun _ _ _ h => h) (Or.inl ⟨by rfl, ?_⟩) hHeld ?_; rotate_left; (focus (intro w' hSw; clear hSw; go_simp; try with_reducible rfl))
        try simp only [List.getElem_toArray, List.getElem_cons_zero, List.getElem_cons_succ, Act.put, List.setIfInBounds_toArray, List.set_cons_zero, List.set_cons_succ]
        refine wpAnyH_done (by kernel_rfl) ?_ _
        go_wp2_with fail
        go_meet
        go_tidy
        exact ⟨b, O5, oc5, C5, cc5, rfl, rfl, Hfin.out⟩
      · have HK8 := hide hK
        clear hK
        go_simp
        obtain ⟨V6, hV6⟩ : ∃ V : World, V = (W2.alloc (.cells #[.slice none 0 0, .int .i64 0, .bool false, .int .i64 0, .slice none 0 0] 33)).drew := ⟨_, rfl⟩
        rw [← hV6]
        have hC6 : Below W2.heap.size W2 V6 := by rw [hV6]; exact Below.drew ((Below.refl _ _).alloc (Nat.le_refl _) _)
        have hzV6 : Blk V6 W2.heap.size 33 #[.slice none 0 0, .int .i64 0, .bool false, .int .i64 0, .slice none 0 0] := by rw [hV6]; exact (Blk.new' rfl).drew
        clear hHeld hV6
        have hHeld : V6.cell? ⟨w.heap.size, 0, none⟩ = some (.int .i64 regs) ∧ V6.cell? ⟨w.heap.size, 1, none⟩ = some (.slice A l.length cap) := ⟨((bcell hC6).1 _ _ lp).trans p0, ((bcell hC6).1 _ _ lp).trans p1⟩
        refine Shut.out HK8.out _ _ hHeld (fun _ => ?_)
        try simp only [List.getElem_toArray, List.getElem_cons_zero, List.getElem_cons_succ, Act.put, List.setIfInBounds_toArray, List.set_cons_zero, List.set_cons_succ]
        clear HK8
        refine wpAnyH_ready (rs := [4]) (by kernel_rfl) (by simp) ?_
        refine AllReadyH.cons rfl (fun K hK => ?_) AllReadyH.nil
        have HK4 := hide hK
        clear hK
        go_simp
        go_at_call 12
        refine ((HR2 _ hC6).out).mono ?_
        rintro e w5 ⟨hc5, O5, oc5, C5, cc5, rfl, hO5⟩
        have hC5 : Below W2.heap.size W2 w5 := hC6.trans (hc5.mono hC6.size)
        clear hHeld
        have hHeld : w5.cell? ⟨w.heap.size, 0, none⟩ = some (.int .i64 regs) ∧ w5.cell? ⟨w.heap.size, 1, none⟩ = some (.slice A l.length cap) := ⟨((bcell hC5).1 _ _ lp).trans p0, ((bcell hC5).1 _ _ lp).trans p1⟩
        refine Shut.out HK4.out _ _ hHeld (fun _ => ?_)
        try simp only [List.getElem_toArray, List.getElem_cons_zero, List.getElem_cons_succ, Act.put, List.setIfInBounds_toArray, List.set_cons_zero, List.set_cons_succ]
        clear HK4
        refine wpAnyH_take (i := 5) (v := ?_) rfl (by kernel_rfl) (by kernel_rfl) (by kernel_rfl) (fun _ _ _ h => h) (Or.inl ⟨by rfl, ?_⟩) hHeld ?_; rotate_left; (focus (intro w' hSw; clear hSw; go_simp; try with_reducible rfl))
        try simp only [List.getElem_toArray, List.getElem_cons_zero, List.getElem_cons_succ, Act.put, List.setIfInBounds_toArray, List.set_cons_zero, List.set_cons_succ]
        refine wpAnyH_take (i := 6) (v := ?_) rfl (by kernel_rfl) (by kernel_rfl) (by kernel_rfl) (fun _ _ _ h => h) (Or.inl ⟨by rfl, ?_⟩) hHeld ?_; rotate_left; (focus (intro w' hSw; clear hSw; go_simp; try with_reducible rfl))
        try simp only [List.getElem_toArray, List.getElem_cons_zero, List.getElem_cons_succ, Act.put, List.setIfInBounds_toArray, List.set_cons_zero, List.set_cons_succ]
        refine wpAnyH_take (i := 7) (v := ?_) rfl (by kernel_rfl) (by kernel_rfl) (by kernel_rfl) (fun _ _ _ h => h) (Or.inl ⟨by rfl, ?_⟩) hHeld ?_; rotate_left; (focus (intro w' hSw; clear hSw; go_simp; try with_reducible rfl))
        try simp only [List.getElem_toArray, List.getElem_cons_zero, List.getElem_cons_succ, Act.put, List.setIfInBounds_toArray, List.set_cons_zero, List.set_cons_succ]
        have hQz := hzV6.below hc5 hzV6.lt
        have rQ := hO5.mono_ (B' := W2.heap.size) (by have := hC6.size; omega)
        have n2 := hO5.ne (g := W2.heap.size) (.inl hzV6.lt)
        have nwb : ¬ (w.heap.size = W2.heap.size) := by have := lp; omega
        have nwb' : ¬ (W2.heap.size = w.heap.size) := fun e => nwb e.symm
        have hfin := ResSt.mk5 (R := R) hQz rQ n2 hC5 (Nat.le_refl _)
        obtain ⟨b, hb⟩ : ∃ b, b = W2.heap.size := ⟨_, rfl⟩
        have hQz : Blk w5 W2.heap.size 33 #[.slice none 0 0, .int .i64 0, .bool false, .int .i64 0, .slice none 0 0] := hQz
        rw [← hb] at hQz hfin nwb nwb'
        try rw [← hb]
        have Hfin := hide hfin
        clear hzV6 hb rQ n2 hfin hO5
        refine wpAnyH_ready (rs := [9]) (by kernel_rfl) (by simp) ?_
        refine AllReadyH.cons rfl (fun K hK => ?_) AllReadyH.nil
        have d0 := hQz.cell 0
        have d1 := hQz.cell 1
        have d2 := hQz.cell 2
        have d3 := hQz.cell 3
        have d4 := hQz.cell 4
        have f0 := hQz.frozen 0
        have f1 := hQz.frozen 1
        have f2 := hQz.frozen 2
        have f3 := hQz.frozen 3
        have f4 := hQz.frozen 4
        simp only [List.getElem?_toArray, List.getElem?_cons_zero, List.getElem?_cons_succ] at d0 d1 d2 d3 d4
        have HK9 := hide hK
        clear hK
        go_simp
        refine Shut.out HK9.out _ _ ?_ (fun hHeld => ?_)
        · (try dsimp only)
          refine And.intro ?_ ?_
          · rw [set5_cell nwb]; exact hHeld.1
          · rw [set5_cell nwb]; exact hHeld.2
        try simp only [List.getElem_toArray, List.getElem_cons_zero, List.getElem_cons_succ, Act.put, List.setIfInBounds_toArray, List.set_cons_zero, List.set_cons_succ]
        clear HK9
        refine wpAnyH_take (i := 10) (v := ?_) rfl (by kernel_rfl) (by kernel_rfl) (by kernel_rfl) (fun _ _ _ h => h) (Or.inl ⟨by rfl, ?_⟩) hHeld ?_; rotate_left; (focus (intro w' hSw; clear hSw; go_simp; try with_reducible rfl))
        try simp only [List.getElem_toArray, List.getElem_cons_zero, List.getElem_cons_succ, Act.put, List.setIfInBounds_toArray, List.set_cons_zero, List.set_cons_succ]
        refine wpAnyH_done (by kernel_rfl) ?_ _
        go_wp2_with fail
        go_meet
        go_tidy
        exact ⟨b, O5, oc5, C5, cc5, rfl, rfl, Hfin.out⟩
    · have HK8 := hide hK
      clear hK
      go_simp
      obtain ⟨V6, hV6⟩ : ∃ V : World, V = (W2.alloc (.cells #[.slice none 0 0, .int .i64 0, .bool false, .int .i64 0, .slice none 0 0] 33)).drew := ⟨_, rfl⟩
      rw [← hV6]
      have hC6 : Below W2.heap.size W2 V6 := by rw [hV6]; exact Below.drew ((Below.refl _ _).alloc (Nat.le_refl _) _)
      have hzV6 : Blk V6 W2.heap.size 33 #[.slice none 0 0, .int .i64 0, .bool false, .int .i64 0, .slice none 0 0] := by rw [hV6]; exact (Blk.new' rfl).drew
      clear hHeld hV6
      have hHeld : V6.cell? ⟨w.heap.size, 0, none⟩ = some (.int .i64 regs) ∧ V6.cell? ⟨w.heap.size, 1, none⟩ = some (.slice A l.length cap) := ⟨((bcell hC6).1 _ _ lp).trans p0, ((bcell hC6).1 _ _ lp).trans p1⟩
      refine Shut.out HK8.out _ _ hHeld (fun _ => ?_)
      try simp only [List.getElem_toArray, List.getElem_cons_zero, List.getElem_cons_succ, Act.put, List.setIfInBounds_toArray, List.set_cons_zero, List.set_cons_succ]
      clear HK8
      refine wpAnyH_ready (rs := [2]) (by kernel_rfl) (by simp) ?_
      refine AllReadyH.cons rfl (fun K hK => ?_) AllReadyH.nil
      have HK2 := hide hK
      clear hK
      go_simp
      go_at_call 13
      refine ((HF _).out).mono ?_
      rintro e w0 ⟨rfl, rfl⟩
      refine Shut.out HK2.out _ _ hHeld (fun _ => ?_)
      try simp only [List.getElem_toArray, List.getElem_cons_zero, List.getElem_cons_succ, Act.put, List.setIfInBounds_toArray, List.set_cons_zero, List.set_cons_succ]
      clear HK2
      refine wpAnyH_ready (rs := [4]) (by kernel_rfl) (by simp) ?_
      refine AllReadyH.cons rfl (fun K hK => ?_) AllReadyH.nil
      have HK4 := hide hK
      clear hK
      go_simp
      go_at_call 12
      refine ((HR2 _ hC6).out).mono ?_
      rintro e w5 ⟨hc5, O5, oc5, C5, cc5, rfl, hO5⟩
      have hC5 : Below W2.heap.size W2 w5 := hC6.trans (hc5.mono hC6.size)
      clear hHeld
      have hHeld : w5.cell? ⟨w.heap.size, 0, none⟩ = some (.int .i64 regs) ∧ w5.cell? ⟨w.heap.size, 1, none⟩ = some (.slice A l.length cap) := ⟨((bcell hC5).1 _ _ lp).trans p0, ((bcell hC5).1 _ _ lp).trans p1⟩
      refine Shut.out HK4.out _ _ hHeld (fun _ => ?_)
      try simp only [List.getElem_toArray, List.getElem_cons_zero, List.getElem_cons_succ, Act.put, List.setIfInBounds_toArray, List.set_cons_zero, List.set_cons_succ]
      clear HK4
      refine wpAnyH_take (i := 5) (v := ?_) rfl (by kernel_rfl) (by kernel_rfl) (by kernel_rfl) (fun _ _ _ h => h) (Or.inl ⟨by rfl, ?_⟩) hHeld ?_; rotate_left; (focus (intro w' hSw; clear hSw; go_simp; try with_reducible rfl))
      try simp only [List.getElem_toArray, List.getElem_cons_zero, List.getElem_cons_succ, Act.put, List.setIfInBounds_toArray, List.set_cons_zero, List.set_cons_succ]
      refine wpAnyH_take (i := 6) (v := ?_) rfl (by kernel_rfl) (by kernel_rfl) (by kernel_rfl) (fun _ _ _ h => h) (Or.inl ⟨by rfl, ?_⟩) hHeld ?_; rotate_left; (focus (intro w' hSw; clear hSw; go_simp; try with_reducible rfl))
      try simp only [List.getElem_toArray, List.getElem_cons_zero, List.getElem_cons_succ, Act.put, List.setIfInBounds_toArray, List.set_cons_zero, List.set_cons_succ]
      refine wpAnyH_take (i := 7) (v := ?_) rfl (by kernel_rfl) (by kernel_rfl) (by kernel_rfl) (fun _ _ _ h => h) (Or.inl ⟨by rfl, ?_⟩) hHeld ?_; rotate_left; (focus (intro w' hSw; clear hSw; go_simp; try with_reducible rfl))
      try simp only [List.getElem_toArray, List.getElem_cons_zero, List.getElem_cons_succ, Act.put, List.setIfInBounds_toArray, List.set_cons_zero, List.set_cons_succ]
      have hQz := hzV6.below hc5 hzV6.lt
      have rQ := hO5.mono_ (B' := W2.heap.size) (by have := hC6.size; omega)
      have n2 := hO5.ne (g := W2.heap.size) (.inl hzV6.lt)
      have nwb : ¬ (w.heap.size = W2.heap.size) := by have := lp; omega
      have nwb' : ¬ (W2.heap.size = w.heap.size) := fun e => nwb e.symm
      have hfin := ResSt.mk5 (R := R) hQz rQ n2 hC5 (Nat.le_refl _)
      obtain ⟨b, hb⟩ : ∃ b, b = W2.heap.size := ⟨_, rfl⟩
      have hQz : Blk w5 W2.heap.size 33 #[.slice none 0 0, .int .i64 0, .bool false, .int .i64 0, .slice none 0 0] := hQz
      rw [← hb] at hQz hfin nwb nwb'
      try rw [← hb]
      have Hfin := hide hfin
      clear hzV6 hb rQ n2 hfin hO5
      refine wpAnyH_ready (rs := [9]) (by kernel_rfl) (by simp) ?_
      refine AllReadyH.cons rfl (fun K hK => ?_) AllReadyH.nil
      have d0 := hQz.cell 0
      have d1 := hQz.cell 1
      have d2 := hQz.cell 2
      have d3 := hQz.cell 3
      have d4 := hQz.cell 4
      have f0 := hQz.frozen 0
      have f1 := hQz.frozen 1
      have f2 := hQz.frozen 2
      have f3 := hQz.frozen 3
      have f4 := hQz.frozen 4
      simp only [List.getElem?_toArray, List.getElem?_cons_zero, List.getElem?_cons_succ] at d0 d1 d2 d3 d4
      have HK9 := hide hK
      clear hK
      go_simp
      refine Shut.out HK9.out _ _ ?_ (fun hHeld => ?_)
      · (try dsimp only)
        refine And.intro ?_ ?_
        · rw [set5_cell nwb]; exact hHeld.1
        · rw [set5_cell nwb]; exact hHeld.2
      try simp only [List.getElem_toArray, List.getElem_cons_zero, List.getElem_cons_succ, Act.put, List.setIfInBounds_toArray, List.set_cons_zero, List.set_cons_succ]
      clear HK9
      refine wpAnyH_take (i := 10) (v := ?_) rfl (by kernel_rfl) (by kernel_rfl) (by kernel_rfl) (fun _ _ _ h => h) (Or.inl ⟨by rfl, ?_⟩) hHeld ?_; rotate_left; (focus (intro w' hSw; clear hSw; go_simp; try with_reducible rfl))
      try simp only [List.getElem_toArray, List.getElem_cons_zero, List.getElem_cons_succ, Act.put, List.setIfInBounds_toArray, List.set_cons_zero, List.set_cons_succ]
      refine wpAnyH_done (by kernel_rfl) ?_ _
      go_wp2_with fail
      go_meet
      go_tidy
      exact ⟨b, O5, oc5, C5, cc5, rfl, rfl, Hfin.out⟩
  case rest =>
    obtain ⟨W3, rfl⟩ : ∃ W3 : World, W3 = wc := ⟨_, rfl⟩
    obtain ⟨ba, Oa, oca, Ca, cca, rfl, rfl, hS1⟩ := hcut
    have hb := hS1.below
    have hB3 := hB2.trans (hb.mono hz2)
    have hT3 := hT2.later hb
    have hQ3 := hQ2.later hb
    have hP3 := hP2.below hb hP2.lt
    have hz3 := hB3.size
    have q0 := hT3.box.cell 0
    have q1 := hT3.box.cell 1
    simp only [List.getElem?_toArray, List.getElem?_cons_zero, List.getElem?_cons_succ] at q0 q1
    have lq := hT3.box.lt
    have HR3 := fun (V : World) (hV : Below W3.heap.size W3 V) => hide (by
      have h := Run_got (regs := regs) (cap := c1) (n := n') (w := V) (by unfold maxLen; omega) (hT3.row.nodes.below hV) (HV.out _ (hB3.trans (hV.mono hz3))) Hfi.out Htc.out hfl (by omega)
      rw [HRt.out] at h
      exact h)
    have HS1 := hide hS1
    clear hS1 hb HR1 HR2 p0 p1 lp hP2 hT2 hQ2 hB2 hz2
    go_upto_region 7 with fail
    go_cut [14, 15] (fun s14 s15 wy => ∃ (b : Nat) (O : Option Addr) (oc : Nat) (C : Option Addr) (cc : Nat), s14 = .pointer (some ⟨b, 0, none⟩) ∧ s15 = .int .i64 0 ∧ ResSt 3 75 33 W3 b O oc C cc R wy)
    case first =>
      refine wp_region_held_drew (S := fun w' => w'.cell? ⟨bt, 0, none⟩ = some (.int .i64 regs) ∧ w'.cell? ⟨bt, 1, none⟩ = some (.slice A1 T.length c1)) (by kernel_rfl) ⟨q0, q1⟩ ?_
      intro hHeld
      have hC0 : Below W3.heap.size W3 W3.drew := (Below.refl _ _).drew
      refine wpAnyH_take (i := 0) (v := ?_) rfl (by kernel_rfl) (by kernel_rfl) (by kernel_rfl) (fun _ _ _ h => h) (Or.inl ⟨by rfl, ?_⟩) hHeld ?_; rotate_left; (focus (intro w' hSw; (try dsimp only at hSw); (try go_split_ands); go_simp; try with_reducible rfl))
      try simp only [List.getElem_toArray, List.getElem_cons_zero, List.getElem_cons_succ, Act.put, List.setIfInBounds_toArray, List.set_cons_zero, List.set_cons_succ]
      refine wpAnyH_take (i := 1) (v := ?_) rfl (by kernel_rfl) (by kernel_rfl) (by kernel_rfl) (fun _ _ _ h => h) (Or.inl ⟨by rfl, ?_⟩) hHeld ?_; rotate_left; (focus (intro w' hSw; clear hSw; go_simp; try with_reducible rfl))
      try simp only [List.getElem_toArray, List.getElem_cons_zero, List.getElem_cons_succ, Act.put, List.setIfInBounds_toArray, List.set_cons_zero, List.set_cons_succ]
      refine wpAnyH_take (i := 3) (v := ?_) rfl (by kernel_rfl) (by kernel_rfl) (by kernel_rfl) (fun _ _ _ h => h) (Or.inl ⟨by rfl, ?_⟩) hHeld ?_; rotate_left; (focus (intro w' hSw; clear hSw; go_simp; try with_reducible rfl))
      try simp only [List.getElem_toArray, List.getElem_cons_zero, List.getElem_cons_succ, Act.put, List.setIfInBounds_toArray, List.set_cons_zero, List.set_cons_succ]
      refine wpAnyH_ready (rs := [2, 8]) (by kernel_rfl) (by simp) ?_
      refine AllReadyH.cons rfl (fun K hK => ?_) (AllReadyH.cons rfl (fun K hK => ?_) AllReadyH.nil)
      · have HK2 := hide hK
        clear hK
        go_simp
        go_at_call 13
        refine ((HF _).out).mono ?_
        rintro e w0 ⟨rfl, rfl⟩
        refine Shut.out HK2.out _ _ hHeld (fun _ => ?_)
        try simp only [List.getElem_toArray, List.getElem_cons_zero, List.getElem_cons_succ, Act.put, List.setIfInBounds_toArray, List.set_cons_zero, List.set_cons_succ]
        clear HK2
        refine wpAnyH_ready (rs := [4, 8]) (by kernel_rfl) (by simp) ?_
        refine AllReadyH.cons rfl (fun K hK => ?_) (AllReadyH.cons rfl (fun K hK => ?_) AllReadyH.nil)
        · have HK4 := hide hK
          clear hK
          go_simp
          go_at_call 12
          refine ((HR3 _ hC0).out).mono ?_
          rintro e w5 ⟨hc5, O5, oc5, C5, cc5, rfl, hO5⟩
          have hC5 : Below W3.heap.size W3 w5 := hC0.trans (hc5.mono hC0.size)
          clear hHeld
          have hHeld : w5.cell? ⟨bt, 0, none⟩ = some (.int .i64 regs) ∧ w5.cell? ⟨bt, 1, none⟩ = some (.slice A1 T.length c1) := ⟨((bcell hC5).1 _ _ lq).trans q0, ((bcell hC5).1 _ _ lq).trans q1⟩
          refine Shut.out HK4.out _ _ hHeld (fun _ => ?_)
          try simp only [List.getElem_toArray, List.getElem_cons_zero, List.getElem_cons_succ, Act.put, List.setIfInBounds_toArray, List.set_cons_zero, List.set_cons_succ]
          clear HK4
          refine wpAnyH_take (i := 5) (v := ?_) rfl (by kernel_rfl) (by kernel_rfl) (by kernel_rfl) (fun _ _ _ h => h) (Or.inl ⟨by rfl, ?_⟩) hHeld ?_; rotate_left; (focus (intro w' hSw; clear hSw; go_simp; try with_reducible rfl))
          try simp only [List.getElem_toArray, List.getElem_cons_zero, List.getElem_cons_succ, Act.put, List.setIfInBounds_toArray, List.set_cons_zero, List.set_cons_succ]
          refine wpAnyH_take (i := 6) (v := ?_) rfl (by kernel_rfl) (by kernel_rfl) (by kernel_rfl) (fun _ _ _ h => h) (Or.inl ⟨by rfl, ?_⟩) hHeld ?_; rotate_left; (focus (intro w' hSw; clear hSw; go_simp; try with_reducible rfl))
          try simp only [List.getElem_toArray, List.getElem_cons_zero, List.getElem_cons_succ, Act.put, List.setIfInBounds_toArray, List.set_cons_zero, List.set_cons_succ]
          refine wpAnyH_take (i := 7) (v := ?_) rfl (by kernel_rfl) (by kernel_rfl) (by kernel_rfl) (fun _ _ _ h => h) (Or.inl ⟨by rfl, ?_⟩) hHeld ?_; rotate_left; (focus (intro w' hSw; clear hSw; go_simp; try with_reducible rfl))
          try simp only [List.getElem_toArray, List.getElem_cons_zero, List.getElem_cons_succ, Act.put, List.setIfInBounds_toArray, List.set_cons_zero, List.set_cons_succ]
          refine wpAnyH_ready (rs := [8]) (by kernel_rfl) (by simp) ?_
          refine AllReadyH.cons rfl (fun K hK => ?_) AllReadyH.nil
          have HK8 := hide hK
          clear hK
          go_simp
          obtain ⟨V6, hV6⟩ : ∃ V : World, V = (w5).alloc (.cells #[.slice none 0 0, .int .i64 0, .bool false, .int .i64 0, .slice none 0 0] 33) := ⟨_, rfl⟩
          rw [← hV6]
          have hC6 : Below W3.heap.size W3 V6 := by rw [hV6]; exact Below.alloc hC5 hC5.size _
          have hzV6 : Blk V6 (w5).heap.size 33 #[.slice none 0 0, .int .i64 0, .bool false, .int .i64 0, .slice none 0 0] := by rw [hV6]; exact Blk.new' rfl
          have hbV6 : Below (w5).heap.size (w5) V6 := by rw [hV6]; exact (Below.refl _ _).alloc (Nat.le_refl _) _
          clear hHeld hV6
          have hHeld : V6.cell? ⟨bt, 0, none⟩ = some (.int .i64 regs) ∧ V6.cell? ⟨bt, 1, none⟩ = some (.slice A1 T.length c1) := ⟨((bcell hC6).1 _ _ lq).trans q0, ((bcell hC6).1 _ _ lq).trans q1⟩
          refine Shut.out HK8.out _ _ hHeld (fun _ => ?_)
          try simp only [List.getElem_toArray, List.getElem_cons_zero, List.getElem_cons_succ, Act.put, List.setIfInBounds_toArray, List.set_cons_zero, List.set_cons_succ]
          clear HK8
          have hQz := hzV6
          have rQ := (hO5.mono_ (B' := W3.heap.size) (by have := hC0.size; omega)).below hbV6
          have n2 := hO5.ne (g := w5.heap.size) (.inr (Nat.le_refl _))
          have hwb : W3.heap.size ≤ w5.heap.size := hC5.size
          have nwb : ¬ (bt = w5.heap.size) := by have := hC5.size; have := lq; omega
          have nwb' : ¬ (w5.heap.size = bt) := fun e => nwb e.symm
          have hfin := ResSt.mk5 (R := R) hQz rQ n2 hC6 hwb
          obtain ⟨b, hb⟩ : ∃ b, b = w5.heap.size := ⟨_, rfl⟩
          rw [← hb] at hQz hfin nwb nwb' ⊢
          have Hfin := hide hfin
          clear hzV6 hb hbV6 rQ n2 hfin hO5
          refine wpAnyH_ready (rs := [9]) (by kernel_rfl) (by simp) ?_
          refine AllReadyH.cons rfl (fun K hK => ?_) AllReadyH.nil
          have d0 := hQz.cell 0
          have d1 := hQz.cell 1
          have d2 := hQz.cell 2
          have d3 := hQz.cell 3
          have d4 := hQz.cell 4
          have f0 := hQz.frozen 0
          have f1 := hQz.frozen 1
          have f2 := hQz.frozen 2
          have f3 := hQz.frozen 3
          have f4 := hQz.frozen 4
          simp only [List.getElem?_toArray, List.getElem?_cons_zero, List.getElem?_cons_succ] at d0 d1 d2 d3 d4
          have HK9 := hide hK
          clear hK
          go_simp
          refine Shut.out HK9.out _ _ ?_ (fun hHeld => ?_)
          · (try dsimp only)
            refine And.intro ?_ ?_
            · rw [set5_cell nwb]; exact hHeld.1
            · rw [set5_cell nwb]; exact hHeld.2
          try simp only [List.getElem_toArray, List.getElem_cons_zero, List.getElem_cons_succ, Act.put, List.setIfInBounds_toArray, List.set_cons_zero, List.set_cons_succ]
          clear HK9
          refine wpAnyH_take (i := 10) (v := ?_) rfl (by kernel_rfl) (by kernel_rfl) (by kernel_rfl) (fun _ _ _ h => h) (Or.inl ⟨by rfl, ?_⟩) hHeld ?_; rotate_left; (focus (intro w' hSw; clear hSw; go_simp; try with_reducible rfl))
          try simp only [List.getElem_toArray, List.getElem_cons_zero, List.getElem_cons_succ, Act.put, List.setIfInBounds_toArray, List.set_cons_zero, List.set_cons_succ]
          refine wpAnyH_done (by kernel_rfl) ?_ _
          go_wp2_with fail
          go_meet
          go_tidy
          exact ⟨b, O5, oc5, C5, cc5, rfl, rfl, Hfin.out⟩
        · have HK8 := hide hK
          clear hK
          go_simp
          obtain ⟨V6, hV6⟩ : ∃ V : World, V = (W3.alloc (.cells #[.slice none 0 0, .int .i64 0, .bool false, .int .i64 0, .slice none 0 0] 33)).drew := ⟨_, rfl⟩
          rw [← hV6]
          have hC6 : Below W3.heap.size W3 V6 := by rw [hV6]; exact Below.drew ((Below.refl _ _).alloc (Nat.le_refl _) _)
          have hzV6 : Blk V6 W3.heap.size 33 #[.slice none 0 0, .int .i64 0, .bool false, .int .i64 0, .slice none 0 0] := by rw [hV6]; exact (Blk.new' rfl).drew
          clear hHeld hV6
          have hHeld : V6.cell? ⟨bt, 0, none⟩ = some (.int .i64 regs) ∧ V6.cell? ⟨bt, 1, none⟩ = some (.slice A1 T.length c1) := ⟨((bcell hC6).1 _ _ lq).trans q0, ((bcell hC6).1 _ _ lq).trans q1⟩
          refine Shut.out HK8.out _ _ hHeld (fun _ => ?_)
          try simp only [List.getElem_toArray, List.getElem_cons_zero, List.getElem_cons_succ, Act.put, List.setIfInBounds_toArray, List.set_cons_zero, List.set_cons_succ]
          clear HK8
          refine wpAnyH_ready (rs := [4]) (by kernel_rfl) (by simp) ?_
          refine AllReadyH.cons rfl (fun K hK => ?_) AllReadyH.nil
          have HK4 := hide hK
          clear hK
          go_simp
          go_at_call 12
          refine ((HR3 _ hC6).out).mono ?_
          rintro e w5 ⟨hc5, O5, oc5, C5, cc5, rfl, hO5⟩
          have hC5 : Below W3.heap.size W3 w5 := hC6.trans (hc5.mono hC6.size)
          clear hHeld
          have hHeld : w5.cell? ⟨bt, 0, none⟩ = some (.int .i64 regs) ∧ w5.cell? ⟨bt, 1, none⟩ = some (.slice A1 T.length c1) := ⟨((bcell hC5).1 _ _ lq).trans q0, ((bcell hC5).1 _ _ lq).trans q1⟩
          refine Shut.out HK4.out _ _ hHeld (fun _ => ?_)
          try simp only [List.getElem_toArray, List.getElem_cons_zero, List.getElem_cons_succ, Act.put, List.setIfInBounds_toArray, List.set_cons_zero, List.set_cons_succ]
          clear HK4
          refine wpAnyH_take (i := 5) (v := ?_) rfl (by kernel_rfl) (by kernel_rfl) (by kernel_rfl) (fun _ _ _ h => h) (Or.inl ⟨by rfl, ?_⟩) hHeld ?_; rotate_left; (focus (intro w' hSw; clear hSw; go_simp; try with_reducible rfl))
          try simp only [List.getElem_toArray, List.getElem_cons_zero, List.getElem_cons_succ, Act.put, List.setIfInBounds_toArray, List.set_cons_zero, List.set_cons_succ]
          refine wpAnyH_take (i := 6) (v := ?_) rfl (by kernel_rfl) (by kernel_rfl) (by kernel_rfl) (fun _ _ _ h => h) (Or.inl ⟨by rfl, ?_⟩) hHeld ?_; rotate_left; (focus (intro w' hSw; clear hSw; go_simp; try with_reducible rfl))
          try simp only [List.getElem_toArray, List.getElem_cons_zero, List.getElem_cons_succ, Act.put, List.setIfInBounds_toArray, List.set_cons_zero, List.set_cons_succ]
          refine wpAnyH_take (i := 7) (v := ?_) rfl (by kernel_rfl) (by kernel_rfl) (by kernel_rfl) (fun _ _ _ h => h) (Or.inl ⟨by rfl, ?_⟩) hHeld ?_; rotate_left; (focus (intro w' hSw; clear hSw; go_simp; try with_reducible rfl))
          try simp only [List.getElem_toArray, List.getElem_cons_zero, List.getElem_cons_succ, Act.put, List.setIfInBounds_toArray, List.set_cons_zero, List.set_cons_succ]
          have hQz := hzV6.below hc5 hzV6.lt
          have rQ := hO5.mono_ (B' := W3.heap.size) (by have := hC6.size; omega)
          have n2 := hO5.ne (g := W3.heap.size) (.inl hzV6.lt)
          have nwb : ¬ (bt = W3.heap.size) := by have := lq; omega
          have nwb' : ¬ (W3.heap.size = bt) := fun e => nwb e.symm
          have hfin := ResSt.mk5 (R := R) hQz rQ n2 hC5 (Nat.le_refl _)
          obtain ⟨b, hb⟩ : ∃ b, b = W3.heap.size := ⟨_, rfl⟩
          have hQz : Blk w5 W3.heap.size 33 #[.slice none 0 0, .int .i64 0, .bool false, .int .i64 0, .slice none 0 0] := hQz
          rw [← hb] at hQz hfin nwb nwb'
          try rw [← hb]
          have Hfin := hide hfin
          clear hzV6 hb rQ n2 hfin hO5
          refine wpAnyH_ready (rs := [9]) (by kernel_rfl) (by simp) ?_
          refine AllReadyH.cons rfl (fun K hK => ?_) AllReadyH.nil
          have d0 := hQz.cell 0
          have d1 := hQz.cell 1
          have d2 := hQz.cell 2
          have d3 := hQz.cell 3
          have d4 := hQz.cell 4
          have f0 := hQz.frozen 0
          have f1 := hQz.frozen 1
          have f2 := hQz.frozen 2
          have f3 := hQz.frozen 3
          have f4 := hQz.frozen 4
          simp only [List.getElem?_toArray, List.getElem?_cons_zero, List.getElem?_cons_succ] at d0 d1 d2 d3 d4
          have HK9 := hide hK
          clear hK
          go_simp
          refine Shut.out HK9.out _ _ ?_ (fun hHeld => ?_)
          · (try dsimp only)
            refine And.intro ?_ ?_
            · rw [set5_cell nwb]; exact hHeld.1
            · rw [set5_cell nwb]; exact hHeld.2
          try simp only [List.getElem_toArray, List.getElem_cons_zero, List.getElem_cons_succ, Act.put, List.setIfInBounds_toArray, List.set_cons_zero, List.set_cons_succ]
          clear HK9
          refine wpAnyH_take (i := 10) (v := ?_) rfl (by kernel_rfl) (by kernel_rfl) (by kernel_rfl) (fun _ _ _ h => h) (Or.inl ⟨by rfl, ?_⟩) hHeld ?_; rotate_left; (focus (intro w' hSw; clear hSw; go_simp; try with_reducible rfl))
          try simp only [List.getElem_toArray, List.getElem_cons_zero, List.getElem_cons_succ, Act.put, List.setIfInBounds_toArray, List.set_cons_zero, List.set_cons_succ]
          refine wpAnyH_done (by kernel_rfl) ?_ _
          go_wp2_with fail
          go_meet
          go_tidy
          exact ⟨b, O5, oc5, C5, cc5, rfl, rfl, Hfin.out⟩
      · have HK8 := hide hK
        clear hK
        go_simp
        obtain ⟨V6, hV6⟩ : ∃ V : World, V = (W3.alloc (.cells #[.slice none 0 0, .int .i64 0, .bool false, .int .i64 0, .slice none 0 0] 33)).drew := ⟨_, rfl⟩
        rw [← hV6]
        have hC6 : Below W3.heap.size W3 V6 := by rw [hV6]; exact Below.drew ((Below.refl _ _).alloc (Nat.le_refl _) _)
        have hzV6 : Blk V6 W3.heap.size 33 #[.slice none 0 0, .int .i64 0, .bool false, .int .i64 0, .slice none 0 0] := by rw [hV6]; exact (Blk.new' rfl).drew
        clear hHeld hV6
        have hHeld : V6.cell? ⟨bt, 0, none⟩ = some (.int .i64 regs) ∧ V6.cell? ⟨bt, 1, none⟩ = some (.slice A1 T.length c1) := ⟨((bcell hC6).1 _ _ lq).trans q0, ((bcell hC6).1 _ _ lq).trans q1⟩
        refine Shut.out HK8.out _ _ hHeld (fun _ => ?_)
        try simp only [List.getElem_toArray, List.getElem_cons_zero, List.getElem_cons_succ, Act.put, List.setIfInBounds_toArray, List.set_cons_zero, List.set_cons_succ]
        clear HK8
        refine wpAnyH_ready (rs := [2]) (by kernel_rfl) (by simp) ?_
        refine AllReadyH.cons rfl (fun K hK => ?_) AllReadyH.nil
        have HK2 := hide hK
        clear hK
        go_simp
        go_at_call 13
        refine ((HF _).out).mono ?_
        rintro e w0 ⟨rfl, rfl⟩
        refine Shut.out HK2.out _ _ hHeld (fun _ => ?_)
        try simp only [List.getElem_toArray, List.getElem_cons_zero, List.getElem_cons_succ, Act.put, List.setIfInBounds_toArray, List.set_cons_zero, List.set_cons_succ]
        clear HK2
        refine wpAnyH_ready (rs := [4]) (by kernel_rfl) (by simp) ?_
        refine AllReadyH.cons rfl (fun K hK => ?_) AllReadyH.nil
        have HK4 := hide hK
        clear hK
        go_simp
        go_at_call 12
        refine ((HR3 _ hC6).out).mono ?_
        rintro e w5 ⟨hc5, O5, oc5, C5, cc5, rfl, hO5⟩
        have hC5 : Below W3.heap.size W3 w5 := hC6.trans (hc5.mono hC6.size)
        clear hHeld
        have hHeld : w5.cell? ⟨bt, 0, none⟩ = some (.int .i64 regs) ∧ w5.cell? ⟨bt, 1, none⟩ = some (.slice A1 T.length c1) := ⟨((bcell hC5).1 _ _ lq).trans q0, ((bcell hC5).1 _ _ lq).trans q1⟩
        refine Shut.out HK4.out _ _ hHeld (fun _ => ?_)
        try simp only [List.getElem_toArray, List.getElem_cons_zero, List.getElem_cons_succ, Act.put, List.setIfInBounds_toArray, List.set_cons_zero, List.set_cons_succ]
        clear HK4
        refine wpAnyH_take (i := 5) (v := ?_) rfl (by kernel_rfl) (by kernel_rfl) (by kernel_rfl) (fun _ _ _ h => h) (Or.inl ⟨by rfl, ?_⟩) hHeld ?_; rotate_left; (focus (intro w' hSw; clear hSw; go_simp; try with_reducible rfl))
        try simp only [List.getElem_toArray, List.getElem_cons_zero, List.getElem_cons_succ, Act.put, List.setIfInBounds_toArray, List.set_cons_zero, List.set_cons_succ]
        refine wpAnyH_take (i := 6) (v := ?_) rfl (by kernel_rfl) (by kernel_rfl) (by kernel_rfl) (fun _ _ _ h => h) (Or.inl ⟨by rfl, ?_⟩) hHeld ?_; rotate_left; (focus (intro w' hSw; clear hSw; go_simp; try with_reducible rfl))
        try simp only [List.getElem_toArray, List.getElem_cons_zero, List.getElem_cons_succ, Act.put, List.setIfInBounds_toArray, List.set_cons_zero, List.set_cons_succ]
        refine wpAnyH_take (i := 7) (v := ?_) rfl (by kernel_rfl) (by kernel_rfl) (by kernel_rfl) (fun _ _ _ h => h) (Or.inl ⟨by rfl, ?_⟩) hHeld ?_; rotate_left; (focus (intro w' hSw; clear hSw; go_simp; try with_reducible rfl))
        try simp only [List.getElem_toArray, List.getElem_cons_zero, List.getElem_cons_succ, Act.put, List.setIfInBounds_toArray, List.set_cons_zero, List.set_cons_succ]
        have hQz := hzV6.below hc5 hzV6.lt
        have rQ := hO5.mono_ (B' := W3.heap.size) (by have := hC6.size; omega)
        have n2 := hO5.ne (g := W3.heap.size) (.inl hzV6.lt)
        have nwb : ¬ (bt = W3.heap.size) := by have := lq; omega
        have nwb' : ¬ (W3.heap.size = bt) := fun e => nwb e.symm
        have hfin := ResSt.mk5 (R := R) hQz rQ n2 hC5 (Nat.le_refl _)
        obtain ⟨b, hb⟩ : ∃ b, b = W3.heap.size := ⟨_, rfl⟩
        have hQz : Blk w5 W3.heap.size 33 #[.slice none 0 0, .int .i64 0, .bool false, .int .i64 0, .slice none 0 0] := hQz
        rw [← hb] at hQz hfin nwb nwb'
        try rw [← hb]
        have Hfin := hide hfin
        clear hzV6 hb rQ n2 hfin hO5
        refine wpAnyH_ready (rs := [9]) (by kernel_rfl) (by simp) ?_
        refine AllReadyH.cons rfl (fun K hK => ?_) AllReadyH.nil
        have d0 := hQz.cell 0
        have d1 := hQz.cell 1
        have d2 := hQz.cell 2
        have d3 := hQz.cell 3
        have d4 := hQz.cell 4
        have f0 := hQz.frozen 0
        have f1 := hQz.frozen 1
        have f2 := hQz.frozen 2
        have f3 := hQz.frozen 3
        have f4 := hQz.frozen 4
        simp only [List.getElem?_toArray, List.getElem?_cons_zero, List.getElem?_cons_succ] at d0 d1 d2 d3 d4
        have HK9 := hide hK
        clear hK
        go_simp
        refine Shut.out HK9.out _ _ ?_ (fun hHeld => ?_)
        · (try dsimp only)
          refine And.intro ?_ ?_
          · rw [set5_cell nwb]; exact hHeld.1
          · rw [set5_cell nwb]; exact hHeld.2
        try simp only [List.getElem_toArray, List.getElem_cons_zero, List.getElem_cons_succ, Act.put, List.setIfInBounds_toArray, List.set_cons_zero, List.set_cons_succ]
        clear HK9
        refine wpAnyH_take (i := 10) (v := ?_) rfl (by kernel_rfl) (by kernel_rfl) (by kernel_rfl) (fun _ _ _ h => h) (Or.inl ⟨by rfl, ?_⟩) hHeld ?_; rotate_left; (focus (intro w' hSw; clear hSw; go_simp; try with_reducible rfl))
        try simp only [List.getElem_toArray, List.getElem_cons_zero, List.getElem_cons_succ, Act.put, List.setIfInBounds_toArray, List.set_cons_zero, List.set_cons_succ]
        refine wpAnyH_done (by kernel_rfl) ?_ _
        go_wp2_with fail
        go_meet
        go_tidy
        exact ⟨b, O5, oc5, C5, cc5, rfl, rfl, Hfin.out⟩
    case rest =>
      obtain ⟨W4, rfl⟩ : ∃ W4 : World, W4 = wc := ⟨_, rfl⟩
      obtain ⟨bb, Ob, ocb, Cb, ccb, rfl, rfl, hS2⟩ := hcut
      have hb := hS2.below
      have hB4 := hB3.trans (hb.mono hz3)
      have hT4 := hT3.later hb
      have hQ4 := hQ3.later hb
      have hP4 := hP3.below hb hP3.lt
      have hS1 := HS1.out.later hb
      have hz4 := hB4.size
      have p0 := hQ4.box.cell 0
      have p1 := hQ4.box.cell 1
      simp only [List.getElem?_toArray, List.getElem?_cons_zero, List.getElem?_cons_succ] at p0 p1
      have lp := hQ4.box.lt
      clear hb HR3 q0 q1 lq hP3 hT3 hQ3 hB3 hz3 HS1 HT HS HCh
      have HSS := hide (fun W (hW : Below W4.heap.size W4 W) => Split_any regs A2 S c2 W (by have := H2.out; unfold maxLen; omega) (hQ4.row.nodes.below hW))
      have HTT := hide (fun W (hW : Below W4.heap.size W4 W) => Trim_any regs A1 T c1 W (by unfold maxLen; omega) (hT4.row.nodes.below hW))
      go_wp2_with fail
      refine (HSS.out _ (Below.refl _ _)).mono ?_
      rintro e w5 ⟨hb5, h5⟩
      obtain ⟨-, -, v5, rfl, hN5⟩ := (h5.resolve_left (fun h => h.1 Hsc.out)).resolve_left (fun h => by have := h.2.1; have := H2.out; rw [Hs2.out] at *; omega)
      rw [Hs2.out] at hN5
      obtain ⟨A5, c5, rfl, _, _⟩ := hN5.shape
      have hz5 := hb5.size
      have hN5 := hN5.mono (base' := w.heap.size) (by omega)
      clear h5 p0 p1 lp
      go_upto_region 9 with fail
      obtain ⟨W5, hW5⟩ : ∃ W5, W5 = w5.alloc (.cells #[.int .i64 regs, .slice A5 S.length c5] 24) := ⟨_, rfl⟩
      have hU5 : ProgSt 24 60 w.heap.size w5.heap.size regs A5 c5 S W5 := by rw [hW5]; exact ⟨Blk.new' rfl, hN5.alloc _⟩
      have hBW : Below w5.heap.size w5 W5 := by rw [hW5]; exact (Below.refl _ _).alloc (Nat.le_refl _) _
      rw [← hW5]
      have hb := hb5.trans (hBW.mono hz5)
      have hB5 := hB4.trans (hb.mono hz4)
      have hT5 := hT4.later hb
      have hQ5 := hQ4.later hb
      have hP5 := hP4.below hb hP4.lt
      have hS1 := hS1.later hb
      have hS2 := hS2.later hb
      have hz5 := hb.size
      obtain ⟨bs, hbs⟩ : ∃ a, a = w5.heap.size := ⟨_, rfl⟩
      rw [← hbs] at hU5 ⊢
      have p0 := hT5.box.cell 0
      have p1 := hT5.box.cell 1
      simp only [List.getElem?_toArray, List.getElem?_cons_zero, List.getElem?_cons_succ] at p0 p1
      have lp := hT5.box.lt
      clear hW5 hBW hbs hN5 hT4 hQ4 hP4 hb5 HSS
      go_wp2_with fail
      refine (HTT.out _ hb).mono ?_
      rintro e w6 ⟨hb6, h6⟩
      obtain ⟨-, v6, rfl, hN6⟩ := h6.resolve_left (fun h => h.1 Htc.out)
      rw [Ht2.out] at hN6
      obtain ⟨A6, c6, rfl, _, _⟩ := hN6.shape
      have hz6 := hb6.size
      have hN6 := hN6.mono (base' := w.heap.size) (by omega)
      clear h6 p0 p1 lp
      go_upto_region 10 with fail
      obtain ⟨W6, hW6⟩ : ∃ W6, W6 = w6.alloc (.cells #[.int .i64 regs, .slice A6 T.length c6] 24) := ⟨_, rfl⟩
      have hV6 : ProgSt 24 60 w.heap.size w6.heap.size regs A6 c6 T W6 := by rw [hW6]; exact ⟨Blk.new' rfl, hN6.alloc _⟩
      have hBW : Below w6.heap.size w6 W6 := by rw [hW6]; exact (Below.refl _ _).alloc (Nat.le_refl _) _
      rw [← hW6]
      have hb := hb6.trans (hBW.mono hz6)
      have hB6 := hB5.trans (hb.mono hB5.size)
      have hT6 := hT5.later hb
      have hQ6 := hQ5.later hb
      have hP6 := hP5.below hb hP5.lt
      have hU6 := hU5.later hb
      have hS1 := hS1.later hb
      have hS2 := hS2.later hb
      obtain ⟨bu, hbu⟩ : ∃ a, a = w6.heap.size := ⟨_, rfl⟩
      rw [← hbu] at hV6 ⊢
      clear hW6 hBW hbu hN6 hT5 hQ5 hP5 hU5 hb6 HTT hb hB4 hB5 hz4 hz5 hz6
      have t0 := hT6.box.cell 0
      have t1 := hT6.box.cell 1
      simp only [List.getElem?_toArray, List.getElem?_cons_zero, List.getElem?_cons_succ] at t0 t1
      have q0 := hQ6.box.cell 0
      have q1 := hQ6.box.cell 1
      simp only [List.getElem?_toArray, List.getElem?_cons_zero, List.getElem?_cons_succ] at q0 q1
      have p0 := hP6.cell 0
      have p1 := hP6.cell 1
      simp only [List.getElem?_toArray, List.getElem?_cons_zero, List.getElem?_cons_succ] at p0 p1
      have s0 := hU6.box.cell 0
      have s1 := hU6.box.cell 1
      simp only [List.getElem?_toArray, List.getElem?_cons_zero, List.getElem?_cons_succ] at s0 s1
      have u0 := hV6.box.cell 0
      have u1 := hV6.box.cell 1
      simp only [List.getElem?_toArray, List.getElem?_cons_zero, List.getElem?_cons_succ] at u0 u1
      have a0 := hS1.box.cell 0
      have a1 := hS1.box.cell 1
      have a2 := hS1.box.cell 2
      have a3 := hS1.box.cell 3
      have a4 := hS1.box.cell 4
      simp only [List.getElem?_toArray, List.getElem?_cons_zero, List.getElem?_cons_succ] at a0 a1 a2 a3 a4
      have b0 := hS2.box.cell 0
      have b1 := hS2.box.cell 1
      have b2 := hS2.box.cell 2
      have b3 := hS2.box.cell 3
      have b4 := hS2.box.cell 4
      simp only [List.getElem?_toArray, List.getElem?_cons_zero, List.getElem?_cons_succ] at b0 b1 b2 b3 b4
      have lt_ := hT6.box.lt
      have lq := hQ6.box.lt
      have lp := hP6.lt
      have ls := hU6.box.lt
      have lu := hV6.box.lt
      have la := hS1.box.lt
      have lb := hS2.box.lt
      have HB6 := hide hB6
      have HSR := fun (V : World) (hV : Lies W6 V) => hide ((hS1.row.below hV).same (hS2.row.below hV))
      have HP1 := fun (V : World) (hV : Lies W6 V) => hide (by
        have h := SameProgs_any regs regs A5 A2 S S c5 c2 V (hU6.row.nodes.below hV) (hQ6.row.nodes.below hV) (by have := H2.out; unfold maxLen; omega) (by have := H2.out; unfold maxLen; omega)
        rw [show (regs == regs && S == S) = true by simp] at h
        exact h)
      have HP2 := fun (V : World) (hV : Lies W6 V) => hide (by
        have h := SameProgs_any regs regs A6 A1 T T c6 c1 V (hV6.row.nodes.below hV) (hT6.row.nodes.below hV) (by unfold maxLen; omega) (by unfold maxLen; omega)
        rw [show (regs == regs && T == T) = true by simp] at h
        exact h)
      have HDo := fun (V : World) (hV : Lies W6 V) => hide (does_any (cap := cap) (mcap := c2) (w := V) hml H2.out (HN.out _ (Lies.from_ HB6.out hV)) (hQ6.row.nodes.below hV) (HV.out _ (Lies.from_ HB6.out hV)) Hfi.out Hc.out Hsc.out hfl hn4 HD.out)
      clear hT6 hQ6 hP6 hU6 hV6 hS1 hS2 hB6 HD HN HV Hfi Hc Hsc Htc Ht2 Hs2 HRt
      refine wp_region_held_drew (S := fun w' => w'.cell? ⟨bt, 0, none⟩ = some (.int .i64 regs) ∧ w'.cell? ⟨bt, 1, none⟩ = some (.slice A1 T.length c1) ∧ w'.cell? ⟨bq, 0, none⟩ = some (.int .i64 regs) ∧ w'.cell? ⟨bq, 1, none⟩ = some (.slice A2 S.length c2) ∧ w'.cell? ⟨w.heap.size, 0, none⟩ = some (.int .i64 regs) ∧ w'.cell? ⟨w.heap.size, 1, none⟩ = some (.slice A l.length cap) ∧ w'.cell? ⟨bs, 0, none⟩ = some (.int .i64 regs) ∧ w'.cell? ⟨bs, 1, none⟩ = some (.slice A5 S.length c5) ∧ w'.cell? ⟨bu, 0, none⟩ = some (.int .i64 regs) ∧ w'.cell? ⟨bu, 1, none⟩ = some (.slice A6 T.length c6) ∧ w'.cell? ⟨ba, 0, none⟩ = some (.slice Oa R.out.length oca) ∧ w'.cell? ⟨ba, 1, none⟩ = some (.int .i64 R.ret) ∧ w'.cell? ⟨ba, 2, none⟩ = some (.bool R.ended) ∧ w'.cell? ⟨ba, 3, none⟩ = some (.int .i64 R.steps) ∧ w'.cell? ⟨ba, 4, none⟩ = some (.slice Ca R.cts.length cca) ∧ w'.cell? ⟨bb, 0, none⟩ = some (.slice Ob R.out.length ocb) ∧ w'.cell? ⟨bb, 1, none⟩ = some (.int .i64 R.ret) ∧ w'.cell? ⟨bb, 2, none⟩ = some (.bool R.ended) ∧ w'.cell? ⟨bb, 3, none⟩ = some (.int .i64 R.steps) ∧ w'.cell? ⟨bb, 4, none⟩ = some (.slice Cb R.cts.length ccb)) (by kernel_rfl) ⟨t0, t1, q0, q1, p0, p1, s0, s1, u0, u1, a0, a1, a2, a3, a4, b0, b1, b2, b3, b4⟩ ?_
      intro hHeld
      have hC0 : Below W6.heap.size W6 W6.drew := (Below.refl _ _).drew
      refine wpAnyH_ready (rs := [0]) (by kernel_rfl) (by simp) ?_
      refine AllReadyH.cons rfl (fun K hK => ?_) AllReadyH.nil
      have HK0 := hide hK
      clear hK
      go_simp
      go_at_call 10
      refine (graphBegun_any _).mono ?_
      rintro e V1 ⟨rfl, hbV1⟩
      have hC1 : Below W6.heap.size W6 V1 := hC0.trans (hbV1.mono hC0.size)
      clear hHeld
      have hHeld : V1.cell? ⟨bt, 0, none⟩ = some (.int .i64 regs) ∧ V1.cell? ⟨bt, 1, none⟩ = some (.slice A1 T.length c1) ∧ V1.cell? ⟨bq, 0, none⟩ = some (.int .i64 regs) ∧ V1.cell? ⟨bq, 1, none⟩ = some (.slice A2 S.length c2) ∧ V1.cell? ⟨w.heap.size, 0, none⟩ = some (.int .i64 regs) ∧ V1.cell? ⟨w.heap.size, 1, none⟩ = some (.slice A l.length cap) ∧ V1.cell? ⟨bs, 0, none⟩ = some (.int .i64 regs) ∧ V1.cell? ⟨bs, 1, none⟩ = some (.slice A5 S.length c5) ∧ V1.cell? ⟨bu, 0, none⟩ = some (.int .i64 regs) ∧ V1.cell? ⟨bu, 1, none⟩ = some (.slice A6 T.length c6) ∧ V1.cell? ⟨ba, 0, none⟩ = some (.slice Oa R.out.length oca) ∧ V1.cell? ⟨ba, 1, none⟩ = some (.int .i64 R.ret) ∧ V1.cell? ⟨ba, 2, none⟩ = some (.bool R.ended) ∧ V1.cell? ⟨ba, 3, none⟩ = some (.int .i64 R.steps) ∧ V1.cell? ⟨ba, 4, none⟩ = some (.slice Ca R.cts.length cca) ∧ V1.cell? ⟨bb, 0, none⟩ = some (.slice Ob R.out.length ocb) ∧ V1.cell? ⟨bb, 1, none⟩ = some (.int .i64 R.ret) ∧ V1.cell? ⟨bb, 2, none⟩ = some (.bool R.ended) ∧ V1.cell? ⟨bb, 3, none⟩ = some (.int .i64 R.steps) ∧ V1.cell? ⟨bb, 4, none⟩ = some (.slice Cb R.cts.length ccb) := ⟨((bcell hC1).1 _ _ lt_).trans t0, ((bcell hC1).1 _ _ lt_).trans t1, ((bcell hC1).1 _ _ lq).trans q0, ((bcell hC1).1 _ _ lq).trans q1, ((bcell hC1).1 _ _ lp).trans p0, ((bcell hC1).1 _ _ lp).trans p1, ((bcell hC1).1 _ _ ls).trans s0, ((bcell hC1).1 _ _ ls).trans s1, ((bcell hC1).1 _ _ lu).trans u0, ((bcell hC1).1 _ _ lu).trans u1, ((bcell hC1).1 _ _ la).trans a0, ((bcell hC1).1 _ _ la).trans a1, ((bcell hC1).1 _ _ la).trans a2, ((bcell hC1).1 _ _ la).trans a3, ((bcell hC1).1 _ _ la).trans a4, ((bcell hC1).1 _ _ lb).trans b0, ((bcell hC1).1 _ _ lb).trans b1, ((bcell hC1).1 _ _ lb).trans b2, ((bcell hC1).1 _ _ lb).trans b3, ((bcell hC1).1 _ _ lb).trans b4⟩
      refine Shut.out HK0.out _ _ hHeld (fun _ => ?_)
      try simp only [List.getElem_toArray, List.getElem_cons_zero, List.getElem_cons_succ, Act.put, List.setIfInBounds_toArray, List.set_cons_zero, List.set_cons_succ]
      clear HK0
      refine wpAnyH_take (i := 1) (v := ?_) rfl (by kernel_rfl) (by kernel_rfl) (by kernel_rfl) (fun _ _ _ h => h) (Or.inl ⟨by rfl, ?_⟩) hHeld ?_; rotate_left; (focus (intro w' hSw; clear hSw; go_simp; try with_reducible rfl))
      try simp only [List.getElem_toArray, List.getElem_cons_zero, List.getElem_cons_succ, Act.put, List.setIfInBounds_toArray, List.set_cons_zero, List.set_cons_succ]
      refine wpAnyH_take (i := 2) (v := ?_) rfl (by kernel_rfl) (by kernel_rfl) (by kernel_rfl) (fun _ _ _ h => h) (Or.inl ⟨by rfl, ?_⟩) hHeld ?_; rotate_left; (focus (intro w' hSw; clear hSw; go_simp; try with_reducible rfl))
      try simp only [List.getElem_toArray, List.getElem_cons_zero, List.getElem_cons_succ, Act.put, List.setIfInBounds_toArray, List.set_cons_zero, List.set_cons_succ]
      refine wpAnyH_take (i := 3) (v := ?_) rfl (by kernel_rfl) (by kernel_rfl) (by kernel_rfl) (fun _ _ _ h => h) (Or.inl ⟨by rfl, ?_⟩) hHeld ?_; rotate_left; (focus (intro w' hSw; clear hSw; go_simp; try with_reducible rfl))
      try simp only [List.getElem_toArray, List.getElem_cons_zero, List.getElem_cons_succ, Act.put, List.setIfInBounds_toArray, List.set_cons_zero, List.set_cons_succ]
      refine wpAnyH_take (i := 4) (v := ?_) rfl (by kernel_rfl) (by kernel_rfl) (by kernel_rfl) (fun _ _ _ h => h) (Or.inl ⟨by rfl, ?_⟩) hHeld ?_; rotate_left; (focus (intro w' hSw; clear hSw; go_simp; try with_reducible rfl))
      try simp only [List.getElem_toArray, List.getElem_cons_zero, List.getElem_cons_succ, Act.put, List.setIfInBounds_toArray, List.set_cons_zero, List.set_cons_succ]
      refine wpAnyH_take (i := 5) (v := ?_) rfl (by kernel_rfl) (by kernel_rfl) (by kernel_rfl) (fun _ _ _ h => h) (Or.inl ⟨by rfl, ?_⟩) hHeld ?_; rotate_left; (focus (intro w' hSw; clear hSw; go_simp; try with_reducible rfl))
      try simp only [List.getElem_toArray, List.getElem_cons_zero, List.getElem_cons_succ, Act.put, List.setIfInBounds_toArray, List.set_cons_zero, List.set_cons_succ]
      refine wpAnyH_take (i := 6) (v := ?_) rfl (by kernel_rfl) (by kernel_rfl) (by kernel_rfl) (fun _ _ _ h => h) (Or.inl ⟨by rfl, ?_⟩) hHeld ?_; rotate_left; (focus (intro w' hSw; clear hSw; go_simp; try with_reducible rfl))
      try simp only [List.getElem_toArray, List.getElem_cons_zero, List.getElem_cons_succ, Act.put, List.setIfInBounds_toArray, List.set_cons_zero, List.set_cons_succ]
      refine wpAnyH_take (i := 7) (v := ?_) rfl (by kernel_rfl) (by kernel_rfl) (by kernel_rfl) (fun _ _ _ h => h) (Or.inl ⟨by rfl, ?_⟩) hHeld ?_; rotate_left; (focus (intro w' hSw; clear hSw; go_simp; try with_reducible rfl))
      try simp only [List.getElem_toArray, List.getElem_cons_zero, List.getElem_cons_succ, Act.put, List.setIfInBounds_toArray, List.set_cons_zero, List.set_cons_succ]
      refine wpAnyH_take (i := 8) (v := ?_) rfl (by kernel_rfl) (by kernel_rfl) (by kernel_rfl) (fun _ _ _ h => h) (Or.inl ⟨by rfl, ?_⟩) hHeld ?_; rotate_left; (focus (intro w' hSw; clear hSw; go_simp; try with_reducible rfl))
      try simp only [List.getElem_toArray, List.getElem_cons_zero, List.getElem_cons_succ, Act.put, List.setIfInBounds_toArray, List.set_cons_zero, List.set_cons_succ]
      refine wpAnyH_take (i := 9) (v := ?_) rfl (by kernel_rfl) (by kernel_rfl) (by kernel_rfl) (fun _ _ _ h => h) (Or.inl ⟨by rfl, ?_⟩) hHeld ?_; rotate_left; (focus (intro w' hSw; clear hSw; go_simp; try with_reducible rfl))
      try simp only [List.getElem_toArray, List.getElem_cons_zero, List.getElem_cons_succ, Act.put, List.setIfInBounds_toArray, List.set_cons_zero, List.set_cons_succ]
      refine wpAnyH_take (i := 10) (v := ?_) rfl (by kernel_rfl) (by kernel_rfl) (by kernel_rfl) (fun _ _ _ h => h) (Or.inl ⟨by rfl, ?_⟩) hHeld ?_; rotate_left; (focus (intro w' hSw; clear hSw; go_simp; try with_reducible rfl))
      try simp only [List.getElem_toArray, List.getElem_cons_zero, List.getElem_cons_succ, Act.put, List.setIfInBounds_toArray, List.set_cons_zero, List.set_cons_succ]
      refine wpAnyH_take (i := 11) (v := ?_) rfl (by kernel_rfl) (by kernel_rfl) (by kernel_rfl) (fun _ _ _ h => h) (Or.inl ⟨by rfl, ?_⟩) hHeld ?_; rotate_left; (focus (intro w' hSw; clear hSw; go_simp; try with_reducible rfl))
      try simp only [List.getElem_toArray, List.getElem_cons_zero, List.getElem_cons_succ, Act.put, List.setIfInBounds_toArray, List.set_cons_zero, List.set_cons_succ]
      refine wpAnyH_take (i := 12) (v := ?_) rfl (by kernel_rfl) (by kernel_rfl) (by kernel_rfl) (fun _ _ _ h => h) (Or.inl ⟨by rfl, ?_⟩) hHeld ?_; rotate_left; (focus (intro w' hSw; clear hSw; go_simp; try with_reducible rfl))
      try simp only [List.getElem_toArray, List.getElem_cons_zero, List.getElem_cons_succ, Act.put, List.setIfInBounds_toArray, List.set_cons_zero, List.set_cons_succ]
      refine wpAnyH_take (i := 13) (v := ?_) rfl (by kernel_rfl) (by kernel_rfl) (by kernel_rfl) (fun _ _ _ h => h) (Or.inl ⟨by rfl, ?_⟩) hHeld ?_; rotate_left; (focus (intro w' hSw; clear hSw; go_simp; try with_reducible rfl))
      try simp only [List.getElem_toArray, List.getElem_cons_zero, List.getElem_cons_succ, Act.put, List.setIfInBounds_toArray, List.set_cons_zero, List.set_cons_succ]
      refine wpAnyH_take (i := 14) (v := ?_) rfl (by kernel_rfl) (by kernel_rfl) (by kernel_rfl) (fun _ _ _ h => h) (Or.inl ⟨by rfl, ?_⟩) hHeld ?_; rotate_left; (focus (intro w' hSw; clear hSw; go_simp; try with_reducible rfl))
      try simp only [List.getElem_toArray, List.getElem_cons_zero, List.getElem_cons_succ, Act.put, List.setIfInBounds_toArray, List.set_cons_zero, List.set_cons_succ]
      refine wpAnyH_take (i := 15) (v := ?_) rfl (by kernel_rfl) (by kernel_rfl) (by kernel_rfl) (fun _ _ _ h => h) (Or.inl ⟨by rfl, ?_⟩) hHeld ?_; rotate_left; (focus (intro w' hSw; clear hSw; go_simp; try with_reducible rfl))
      try simp only [List.getElem_toArray, List.getElem_cons_zero, List.getElem_cons_succ, Act.put, List.setIfInBounds_toArray, List.set_cons_zero, List.set_cons_succ]
      refine wpAnyH_take (i := 16) (v := ?_) rfl (by kernel_rfl) (by kernel_rfl) (by kernel_rfl) (fun _ _ _ h => h) (Or.inl ⟨by rfl, ?_⟩) hHeld ?_; rotate_left; (focus (intro w' hSw; clear hSw; go_simp; try with_reducible rfl))
      try simp only [List.getElem_toArray, List.getElem_cons_zero, List.getElem_cons_succ, Act.put, List.setIfInBounds_toArray, List.set_cons_zero, List.set_cons_succ]
      refine wpAnyH_take (i := 17) (v := ?_) rfl (by kernel_rfl) (by kernel_rfl) (by kernel_rfl) (fun _ _ _ h => h) (Or.inl ⟨by rfl, ?_⟩) hHeld ?_; rotate_left; (focus (intro w' hSw; clear hSw; go_simp; try with_reducible rfl))
      try simp only [List.getElem_toArray, List.getElem_cons_zero, List.getElem_cons_succ, Act.put, List.setIfInBounds_toArray, List.set_cons_zero, List.set_cons_succ]
      refine wpAnyH_take (i := 18) (v := ?_) rfl (by kernel_rfl) (by kernel_rfl) (by kernel_rfl) (fun _ _ _ h => h) (Or.inl ⟨by rfl, ?_⟩) hHeld ?_; rotate_left; (focus (intro w' hSw; (try dsimp only at hSw); (try go_split_ands); go_simp; try with_reducible rfl))
      try simp only [List.getElem_toArray, List.getElem_cons_zero, List.getElem_cons_succ, Act.put, List.setIfInBounds_toArray, List.set_cons_zero, List.set_cons_succ]
      refine wpAnyH_take (i := 19) (v := ?_) rfl (by kernel_rfl) (by kernel_rfl) (by kernel_rfl) (fun _ _ _ h => h) (Or.inl ⟨by rfl, ?_⟩) hHeld ?_; rotate_left; (focus (intro w' hSw; (try dsimp only at hSw); (try go_split_ands); go_simp; try with_reducible rfl))
      try simp only [List.getElem_toArray, List.getElem_cons_zero, List.getElem_cons_succ, Act.put, List.setIfInBounds_toArray, List.set_cons_zero, List.set_cons_succ]
      refine wpAnyH_ready (rs := [20]) (by kernel_rfl) (by simp) ?_
      refine AllReadyH.cons rfl (fun K hK => ?_) AllReadyH.nil
      have HK20 := hide hK
      clear hK
      go_simp
      go_at_call 14
      refine ((HSR _ hC1).out).mono ?_
      rintro e V2 ⟨rfl, hbV2⟩
      have hC2 : Below W6.heap.size W6 V2 := hC1.trans (hbV2.mono hC1.size)
      clear hHeld
      have hHeld : V2.cell? ⟨bt, 0, none⟩ = some (.int .i64 regs) ∧ V2.cell? ⟨bt, 1, none⟩ = some (.slice A1 T.length c1) ∧ V2.cell? ⟨bq, 0, none⟩ = some (.int .i64 regs) ∧ V2.cell? ⟨bq, 1, none⟩ = some (.slice A2 S.length c2) ∧ V2.cell? ⟨w.heap.size, 0, none⟩ = some (.int .i64 regs) ∧ V2.cell? ⟨w.heap.size, 1, none⟩ = some (.slice A l.length cap) ∧ V2.cell? ⟨bs, 0, none⟩ = some (.int .i64 regs) ∧ V2.cell? ⟨bs, 1, none⟩ = some (.slice A5 S.length c5) ∧ V2.cell? ⟨bu, 0, none⟩ = some (.int .i64 regs) ∧ V2.cell? ⟨bu, 1, none⟩ = some (.slice A6 T.length c6) ∧ V2.cell? ⟨ba, 0, none⟩ = some (.slice Oa R.out.length oca) ∧ V2.cell? ⟨ba, 1, none⟩ = some (.int .i64 R.ret) ∧ V2.cell? ⟨ba, 2, none⟩ = some (.bool R.ended) ∧ V2.cell? ⟨ba, 3, none⟩ = some (.int .i64 R.steps) ∧ V2.cell? ⟨ba, 4, none⟩ = some (.slice Ca R.cts.length cca) ∧ V2.cell? ⟨bb, 0, none⟩ = some (.slice Ob R.out.length ocb) ∧ V2.cell? ⟨bb, 1, none⟩ = some (.int .i64 R.ret) ∧ V2.cell? ⟨bb, 2, none⟩ = some (.bool R.ended) ∧ V2.cell? ⟨bb, 3, none⟩ = some (.int .i64 R.steps) ∧ V2.cell? ⟨bb, 4, none⟩ = some (.slice Cb R.cts.length ccb) := ⟨((bcell hC2).1 _ _ lt_).trans t0, ((bcell hC2).1 _ _ lt_).trans t1, ((bcell hC2).1 _ _ lq).trans q0, ((bcell hC2).1 _ _ lq).trans q1, ((bcell hC2).1 _ _ lp).trans p0, ((bcell hC2).1 _ _ lp).trans p1, ((bcell hC2).1 _ _ ls).trans s0, ((bcell hC2).1 _ _ ls).trans s1, ((bcell hC2).1 _ _ lu).trans u0, ((bcell hC2).1 _ _ lu).trans u1, ((bcell hC2).1 _ _ la).trans a0, ((bcell hC2).1 _ _ la).trans a1, ((bcell hC2).1 _ _ la).trans a2, ((bcell hC2).1 _ _ la).trans a3, ((bcell hC2).1 _ _ la).trans a4, ((bcell hC2).1 _ _ lb).trans b0, ((bcell hC2).1 _ _ lb).trans b1, ((bcell hC2).1 _ _ lb).trans b2, ((bcell hC2).1 _ _ lb).trans b3, ((bcell hC2).1 _ _ lb).trans b4⟩
      refine Shut.out HK20.out _ _ hHeld (fun _ => ?_)
      try simp only [List.getElem_toArray, List.getElem_cons_zero, List.getElem_cons_succ, Act.put, List.setIfInBounds_toArray, List.set_cons_zero, List.set_cons_succ]
      clear HK20
      refine wpAnyH_take (i := 21) (v := ?_) rfl (by kernel_rfl) (by kernel_rfl) (by kernel_rfl) (fun _ _ _ h => h) (Or.inl ⟨by rfl, ?_⟩) hHeld ?_; rotate_left; (focus (intro w' hSw; clear hSw; go_simp; try with_reducible rfl))
      try simp only [List.getElem_toArray, List.getElem_cons_zero, List.getElem_cons_succ, Act.put, List.setIfInBounds_toArray, List.set_cons_zero, List.set_cons_succ]
      refine wpAnyH_take (i := 22) (v := ?_) rfl (by kernel_rfl) (by kernel_rfl) (by kernel_rfl) (fun _ _ _ h => h) (Or.inl ⟨by rfl, ?_⟩) hHeld ?_; rotate_left; (focus (intro w' hSw; clear hSw; go_simp; try with_reducible rfl))
      try simp only [List.getElem_toArray, List.getElem_cons_zero, List.getElem_cons_succ, Act.put, List.setIfInBounds_toArray, List.set_cons_zero, List.set_cons_succ]
      refine wpAnyH_take (i := 23) (v := ?_) rfl (by kernel_rfl) (by kernel_rfl) (by kernel_rfl) (fun _ _ _ h => h) (Or.inl ⟨by rfl, ?_⟩) hHeld ?_; rotate_left; (focus (intro w' hSw; (try dsimp only at hSw); (try go_split_ands); go_simp; try with_reducible rfl))
      try simp only [List.getElem_toArray, List.getElem_cons_zero, List.getElem_cons_succ, Act.put, List.setIfInBounds_toArray, List.set_cons_zero, List.set_cons_succ]
      refine wpAnyH_take (i := 24) (v := ?_) rfl (by kernel_rfl) (by kernel_rfl) (by kernel_rfl) (fun _ _ _ h => h) (Or.inl ⟨by rfl, ?_⟩) hHeld ?_; rotate_left; (focus (intro w' hSw; (try dsimp only at hSw); (try go_split_ands); go_simp; try with_reducible rfl))
      try simp only [List.getElem_toArray, List.getElem_cons_zero, List.getElem_cons_succ, Act.put, List.setIfInBounds_toArray, List.set_cons_zero, List.set_cons_succ]
      refine wpAnyH_ready (rs := [25]) (by kernel_rfl) (by simp) ?_
      refine AllReadyH.cons rfl (fun K hK => ?_) AllReadyH.nil
      have HK25 := hide hK
      clear hK
      go_simp
      go_at_call 15
      refine ((HP1 _ hC2).out).mono ?_
      rintro e V3 ⟨rfl, hbV3⟩
      have hC3 : Below W6.heap.size W6 V3 := hC2.trans (hbV3.mono hC2.size)
      clear hHeld
      have hHeld : V3.cell? ⟨bt, 0, none⟩ = some (.int .i64 regs) ∧ V3.cell? ⟨bt, 1, none⟩ = some (.slice A1 T.length c1) ∧ V3.cell? ⟨bq, 0, none⟩ = some (.int .i64 regs) ∧ V3.cell? ⟨bq, 1, none⟩ = some (.slice A2 S.length c2) ∧ V3.cell? ⟨w.heap.size, 0, none⟩ = some (.int .i64 regs) ∧ V3.cell? ⟨w.heap.size, 1, none⟩ = some (.slice A l.length cap) ∧ V3.cell? ⟨bs, 0, none⟩ = some (.int .i64 regs) ∧ V3.cell? ⟨bs, 1, none⟩ = some (.slice A5 S.length c5) ∧ V3.cell? ⟨bu, 0, none⟩ = some (.int .i64 regs) ∧ V3.cell? ⟨bu, 1, none⟩ = some (.slice A6 T.length c6) ∧ V3.cell? ⟨ba, 0, none⟩ = some (.slice Oa R.out.length oca) ∧ V3.cell? ⟨ba, 1, none⟩ = some (.int .i64 R.ret) ∧ V3.cell? ⟨ba, 2, none⟩ = some (.bool R.ended) ∧ V3.cell? ⟨ba, 3, none⟩ = some (.int .i64 R.steps) ∧ V3.cell? ⟨ba, 4, none⟩ = some (.slice Ca R.cts.length cca) ∧ V3.cell? ⟨bb, 0, none⟩ = some (.slice Ob R.out.length ocb) ∧ V3.cell? ⟨bb, 1, none⟩ = some (.int .i64 R.ret) ∧ V3.cell? ⟨bb, 2, none⟩ = some (.bool R.ended) ∧ V3.cell? ⟨bb, 3, none⟩ = some (.int .i64 R.steps) ∧ V3.cell? ⟨bb, 4, none⟩ = some (.slice Cb R.cts.length ccb) := ⟨((bcell hC3).1 _ _ lt_).trans t0, ((bcell hC3).1 _ _ lt_).trans t1, ((bcell hC3).1 _ _ lq).trans q0, ((bcell hC3).1 _ _ lq).trans q1, ((bcell hC3).1 _ _ lp).trans p0, ((bcell hC3).1 _ _ lp).trans p1, ((bcell hC3).1 _ _ ls).trans s0, ((bcell hC3).1 _ _ ls).trans s1, ((bcell hC3).1 _ _ lu).trans u0, ((bcell hC3).1 _ _ lu).trans u1, ((bcell hC3).1 _ _ la).trans a0, ((bcell hC3).1 _ _ la).trans a1, ((bcell hC3).1 _ _ la).trans a2, ((bcell hC3).1 _ _ la).trans a3, ((bcell hC3).1 _ _ la).trans a4, ((bcell hC3).1 _ _ lb).trans b0, ((bcell hC3).1 _ _ lb).trans b1, ((bcell hC3).1 _ _ lb).trans b2, ((bcell hC3).1 _ _ lb).trans b3, ((bcell hC3).1 _ _ lb).trans b4⟩
      refine Shut.out HK25.out _ _ hHeld (fun _ => ?_)
      try simp only [List.getElem_toArray, List.getElem_cons_zero, List.getElem_cons_succ, Act.put, List.setIfInBounds_toArray, List.set_cons_zero, List.set_cons_succ]
      clear HK25
      refine wpAnyH_take (i := 26) (v := ?_) rfl (by kernel_rfl) (by kernel_rfl) (by kernel_rfl) (fun _ _ _ h => h) (Or.inl ⟨by rfl, ?_⟩) hHeld ?_; rotate_left; (focus (intro w' hSw; clear hSw; go_simp; try with_reducible rfl))
      try simp only [List.getElem_toArray, List.getElem_cons_zero, List.getElem_cons_succ, Act.put, List.setIfInBounds_toArray, List.set_cons_zero, List.set_cons_succ]
      refine wpAnyH_take (i := 27) (v := ?_) rfl (by kernel_rfl) (by kernel_rfl) (by kernel_rfl) (fun _ _ _ h => h) (Or.inl ⟨by rfl, ?_⟩) hHeld ?_; rotate_left; (focus (intro w' hSw; clear hSw; go_simp; try with_reducible rfl))
      try simp only [List.getElem_toArray, List.getElem_cons_zero, List.getElem_cons_succ, Act.put, List.setIfInBounds_toArray, List.set_cons_zero, List.set_cons_succ]
      refine wpAnyH_take (i := 28) (v := ?_) rfl (by kernel_rfl) (by kernel_rfl) (by kernel_rfl) (fun _ _ _ h => h) (Or.inl ⟨by rfl, ?_⟩) hHeld ?_; rotate_left; (focus (intro w' hSw; (try dsimp only at hSw); (try go_split_ands); go_simp; try with_reducible rfl))
      try simp only [List.getElem_toArray, List.getElem_cons_zero, List.getElem_cons_succ, Act.put, List.setIfInBounds_toArray, List.set_cons_zero, List.set_cons_succ]
      refine wpAnyH_take (i := 29) (v := ?_) rfl (by kernel_rfl) (by kernel_rfl) (by kernel_rfl) (fun _ _ _ h => h) (Or.inl ⟨by rfl, ?_⟩) hHeld ?_; rotate_left; (focus (intro w' hSw; (try dsimp only at hSw); (try go_split_ands); go_simp; try with_reducible rfl))
      try simp only [List.getElem_toArray, List.getElem_cons_zero, List.getElem_cons_succ, Act.put, List.setIfInBounds_toArray, List.set_cons_zero, List.set_cons_succ]
      refine wpAnyH_ready (rs := [30]) (by kernel_rfl) (by simp) ?_
      refine AllReadyH.cons rfl (fun K hK => ?_) AllReadyH.nil
      have HK30 := hide hK
      clear hK
      go_simp
      go_at_call 15
      refine ((HP2 _ hC3).out).mono ?_
      rintro e V4 ⟨rfl, hbV4⟩
      have hC4 : Below W6.heap.size W6 V4 := hC3.trans (hbV4.mono hC3.size)
      clear hHeld
      have hHeld : V4.cell? ⟨bt, 0, none⟩ = some (.int .i64 regs) ∧ V4.cell? ⟨bt, 1, none⟩ = some (.slice A1 T.length c1) ∧ V4.cell? ⟨bq, 0, none⟩ = some (.int .i64 regs) ∧ V4.cell? ⟨bq, 1, none⟩ = some (.slice A2 S.length c2) ∧ V4.cell? ⟨w.heap.size, 0, none⟩ = some (.int .i64 regs) ∧ V4.cell? ⟨w.heap.size, 1, none⟩ = some (.slice A l.length cap) ∧ V4.cell? ⟨bs, 0, none⟩ = some (.int .i64 regs) ∧ V4.cell? ⟨bs, 1, none⟩ = some (.slice A5 S.length c5) ∧ V4.cell? ⟨bu, 0, none⟩ = some (.int .i64 regs) ∧ V4.cell? ⟨bu, 1, none⟩ = some (.slice A6 T.length c6) ∧ V4.cell? ⟨ba, 0, none⟩ = some (.slice Oa R.out.length oca) ∧ V4.cell? ⟨ba, 1, none⟩ = some (.int .i64 R.ret) ∧ V4.cell? ⟨ba, 2, none⟩ = some (.bool R.ended) ∧ V4.cell? ⟨ba, 3, none⟩ = some (.int .i64 R.steps) ∧ V4.cell? ⟨ba, 4, none⟩ = some (.slice Ca R.cts.length cca) ∧ V4.cell? ⟨bb, 0, none⟩ = some (.slice Ob R.out.length ocb) ∧ V4.cell? ⟨bb, 1, none⟩ = some (.int .i64 R.ret) ∧ V4.cell? ⟨bb, 2, none⟩ = some (.bool R.ended) ∧ V4.cell? ⟨bb, 3, none⟩ = some (.int .i64 R.steps) ∧ V4.cell? ⟨bb, 4, none⟩ = some (.slice Cb R.cts.length ccb) := ⟨((bcell hC4).1 _ _ lt_).trans t0, ((bcell hC4).1 _ _ lt_).trans t1, ((bcell hC4).1 _ _ lq).trans q0, ((bcell hC4).1 _ _ lq).trans q1, ((bcell hC4).1 _ _ lp).trans p0, ((bcell hC4).1 _ _ lp).trans p1, ((bcell hC4).1 _ _ ls).trans s0, ((bcell hC4).1 _ _ ls).trans s1, ((bcell hC4).1 _ _ lu).trans u0, ((bcell hC4).1 _ _ lu).trans u1, ((bcell hC4).1 _ _ la).trans a0, ((bcell hC4).1 _ _ la).trans a1, ((bcell hC4).1 _ _ la).trans a2, ((bcell hC4).1 _ _ la).trans a3, ((bcell hC4).1 _ _ la).trans a4, ((bcell hC4).1 _ _ lb).trans b0, ((bcell hC4).1 _ _ lb).trans b1, ((bcell hC4).1 _ _ lb).trans b2, ((bcell hC4).1 _ _ lb).trans b3, ((bcell hC4).1 _ _ lb).trans b4⟩
      refine Shut.out HK30.out _ _ hHeld (fun _ => ?_)
      try simp only [List.getElem_toArray, List.getElem_cons_zero, List.getElem_cons_succ, Act.put, List.setIfInBounds_toArray, List.set_cons_zero, List.set_cons_succ]
      clear HK30
      refine wpAnyH_take (i := 31) (v := ?_) rfl (by kernel_rfl) (by kernel_rfl) (by kernel_rfl) (fun _ _ _ h => h) (Or.inl ⟨by rfl, ?_⟩) hHeld ?_; rotate_left; (focus (intro w' hSw; clear hSw; go_simp; try with_reducible rfl))
      try simp only [List.getElem_toArray, List.getElem_cons_zero, List.getElem_cons_succ, Act.put, List.setIfInBounds_toArray, List.set_cons_zero, List.set_cons_succ]
      refine wpAnyH_take (i := 32) (v := ?_) rfl (by kernel_rfl) (by kernel_rfl) (by kernel_rfl) (fun _ _ _ h => h) (Or.inl ⟨by rfl, ?_⟩) hHeld ?_; rotate_left; (focus (intro w' hSw; clear hSw; go_simp; try with_reducible rfl))
      try simp only [List.getElem_toArray, List.getElem_cons_zero, List.getElem_cons_succ, Act.put, List.setIfInBounds_toArray, List.set_cons_zero, List.set_cons_succ]
      refine wpAnyH_take (i := 33) (v := ?_) rfl (by kernel_rfl) (by kernel_rfl) (by kernel_rfl) (fun _ _ _ h => h) (Or.inl ⟨by rfl, ?_⟩) hHeld ?_; rotate_left; (focus (intro w' hSw; (try dsimp only at hSw); (try go_split_ands); go_simp; try with_reducible rfl))
      try simp only [List.getElem_toArray, List.getElem_cons_zero, List.getElem_cons_succ, Act.put, List.setIfInBounds_toArray, List.set_cons_zero, List.set_cons_succ]
      refine wpAnyH_take (i := 34) (v := ?_) rfl (by kernel_rfl) (by kernel_rfl) (by kernel_rfl) (fun _ _ _ h => h) (Or.inl ⟨by rfl, ?_⟩) hHeld ?_; rotate_left; (focus (intro w' hSw; (try dsimp only at hSw); (try go_split_ands); go_simp; try with_reducible rfl))
      try simp only [List.getElem_toArray, List.getElem_cons_zero, List.getElem_cons_succ, Act.put, List.setIfInBounds_toArray, List.set_cons_zero, List.set_cons_succ]
      refine wpAnyH_take (i := 35) (v := ?_) rfl (by kernel_rfl) (by kernel_rfl) (by kernel_rfl) (fun _ _ _ h => h) (Or.inl ⟨by rfl, ?_⟩) hHeld ?_; rotate_left; (focus (intro w' hSw; clear hSw; go_simp; try with_reducible rfl))
      try simp only [List.getElem_toArray, List.getElem_cons_zero, List.getElem_cons_succ, Act.put, List.setIfInBounds_toArray, List.set_cons_zero, List.set_cons_succ]
      refine wpAnyH_take (i := 37) (v := ?_) rfl (by kernel_rfl) (by kernel_rfl) (by kernel_rfl) (fun _ _ _ h => h) (Or.inl ⟨by rfl, ?_⟩) hHeld ?_; rotate_left; (focus (intro w' hSw; clear hSw; go_simp; try with_reducible rfl))
      try simp only [List.getElem_toArray, List.getElem_cons_zero, List.getElem_cons_succ, Act.put, List.setIfInBounds_toArray, List.set_cons_zero, List.set_cons_succ]
      refine wpAnyH_ready (rs := [36]) (by kernel_rfl) (by simp) ?_
      refine AllReadyH.cons rfl (fun K hK => ?_) AllReadyH.nil
      have HK36 := hide hK
      clear hK
      go_simp
      go_at_call 13
      refine ((HF _).out).mono ?_
      rintro e w0 ⟨rfl, rfl⟩
      refine Shut.out HK36.out _ _ hHeld (fun _ => ?_)
      try simp only [List.getElem_toArray, List.getElem_cons_zero, List.getElem_cons_succ, Act.put, List.setIfInBounds_toArray, List.set_cons_zero, List.set_cons_succ]
      clear HK36
      refine wpAnyH_ready (rs := [38]) (by kernel_rfl) (by simp) ?_
      refine AllReadyH.cons rfl (fun K hK => ?_) AllReadyH.nil
      have HK38 := hide hK
      clear hK
      go_simp
      go_at_call 16
      refine ((HDo _ hC4).out).mono ?_
      rintro e V5 ⟨rfl, hbV5⟩
      have hC5 : Below W6.heap.size W6 V5 := hC4.trans (hbV5.mono hC4.size)
      clear hHeld
      have hHeld : V5.cell? ⟨bt, 0, none⟩ = some (.int .i64 regs) ∧ V5.cell? ⟨bt, 1, none⟩ = some (.slice A1 T.length c1) ∧ V5.cell? ⟨bq, 0, none⟩ = some (.int .i64 regs) ∧ V5.cell? ⟨bq, 1, none⟩ = some (.slice A2 S.length c2) ∧ V5.cell? ⟨w.heap.size, 0, none⟩ = some (.int .i64 regs) ∧ V5.cell? ⟨w.heap.size, 1, none⟩ = some (.slice A l.length cap) ∧ V5.cell? ⟨bs, 0, none⟩ = some (.int .i64 regs) ∧ V5.cell? ⟨bs, 1, none⟩ = some (.slice A5 S.length c5) ∧ V5.cell? ⟨bu, 0, none⟩ = some (.int .i64 regs) ∧ V5.cell? ⟨bu, 1, none⟩ = some (.slice A6 T.length c6) ∧ V5.cell? ⟨ba, 0, none⟩ = some (.slice Oa R.out.length oca) ∧ V5.cell? ⟨ba, 1, none⟩ = some (.int .i64 R.ret) ∧ V5.cell? ⟨ba, 2, none⟩ = some (.bool R.ended) ∧ V5.cell? ⟨ba, 3, none⟩ = some (.int .i64 R.steps) ∧ V5.cell? ⟨ba, 4, none⟩ = some (.slice Ca R.cts.length cca) ∧ V5.cell? ⟨bb, 0, none⟩ = some (.slice Ob R.out.length ocb) ∧ V5.cell? ⟨bb, 1, none⟩ = some (.int .i64 R.ret) ∧ V5.cell? ⟨bb, 2, none⟩ = some (.bool R.ended) ∧ V5.cell? ⟨bb, 3, none⟩ = some (.int .i64 R.steps) ∧ V5.cell? ⟨bb, 4, none⟩ = some (.slice Cb R.cts.length ccb) := ⟨((bcell hC5).1 _ _ lt_).trans t0, ((bcell hC5).1 _ _ lt_).trans t1, ((bcell hC5).1 _ _ lq).trans q0, ((bcell hC5).1 _ _ lq).trans q1, ((bcell hC5).1 _ _ lp).trans p0, ((bcell hC5).1 _ _ lp).trans p1, ((bcell hC5).1 _ _ ls).trans s0, ((bcell hC5).1 _ _ ls).trans s1, ((bcell hC5).1 _ _ lu).trans u0, ((bcell hC5).1 _ _ lu).trans u1, ((bcell hC5).1 _ _ la).trans a0, ((bcell hC5).1 _ _ la).trans a1, ((bcell hC5).1 _ _ la).trans a2, ((bcell hC5).1 _ _ la).trans a3, ((bcell hC5).1 _ _ la).trans a4, ((bcell hC5).1 _ _ lb).trans b0, ((bcell hC5).1 _ _ lb).trans b1, ((bcell hC5).1 _ _ lb).trans b2, ((bcell hC5).1 _ _ lb).trans b3, ((bcell hC5).1 _ _ lb).trans b4⟩
      refine Shut.out HK38.out _ _ hHeld (fun _ => ?_)
      try simp only [List.getElem_toArray, List.getElem_cons_zero, List.getElem_cons_succ, Act.put, List.setIfInBounds_toArray, List.set_cons_zero, List.set_cons_succ]
      clear HK38
      refine wpAnyH_take (i := 39) (v := ?_) rfl (by kernel_rfl) (by kernel_rfl) (by kernel_rfl) (fun _ _ _ h => h) (Or.inl ⟨by rfl, ?_⟩) hHeld ?_; rotate_left; (focus (intro w' hSw; clear hSw; go_simp; try with_reducible rfl))
      try simp only [List.getElem_toArray, List.getElem_cons_zero, List.getElem_cons_succ, Act.put, List.setIfInBounds_toArray, List.set_cons_zero, List.set_cons_succ]
      refine wpAnyH_take (i := 40) (v := ?_) rfl (by kernel_rfl) (by kernel_rfl) (by kernel_rfl) (fun _ _ _ h => h) (Or.inl ⟨by rfl, ?_⟩) hHeld ?_; rotate_left; (focus (intro w' hSw; clear hSw; go_simp; try with_reducible rfl))
      try simp only [List.getElem_toArray, List.getElem_cons_zero, List.getElem_cons_succ, Act.put, List.setIfInBounds_toArray, List.set_cons_zero, List.set_cons_succ]
      refine wpAnyH_done (by kernel_rfl) ?_ _
      go_wp2_with fail
      go_ret
      exact ⟨rfl, Lies.from_ HB6.out hC5⟩
/-- the law, whatever its input -/
theorem GraphSame_any (regs : Int) (A : Option Addr) (l : List Nd) (cap : Nat) (Ai : Option Addr) (inp : List Int) (ci : Nat) (fuel : Int) (w : World) (hA : NodesAt w A l) (hml : l.length ≤ maxLen) (hI : ValsAt w Ai (ints inp)) (hic : inp.length ≤ ci ∧ ci ≤ maxLen) (hf : i64ok fuel) :
    Calls Try.prog 3 #[.agg #[.int .i64 regs, .slice A l.length cap], .slice Ai inp.length ci, .int .i64 fuel] w fun e w' => e = .returned (.bool true) ∧ Below w.heap.size w w' := by
  by_cases hc : chk regs l = 0
  · by_cases h : (splitL l).length ≤ 256
    · exact same_ok regs A l cap Ai inp ci fuel w hA hml hI hic hf hc h
    · exact same_many regs A l cap Ai inp ci fuel w hA hml hc (by omega)
  · exact same_err regs A l cap Ai inp ci fuel w hA hml hc
end Go.Proofs.Ytmghkonmfbpjcab
