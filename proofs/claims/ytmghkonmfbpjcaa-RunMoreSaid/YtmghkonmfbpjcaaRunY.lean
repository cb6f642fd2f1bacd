/- The law RunMore, walked. -/
import Derived.Test.YtmghkonmfbpjcaaRunZ
import Derived.Test.YtmghkonmfbpjcaaRunW
namespace Go.Proofs.Ytmghkonmfbpjcaa
set_option linter.unusedVariables false
set_option linter.unusedSimpArgs false
open Go.RowKit
set_option maxHeartbeats 8000000
attribute [local irreducible] Row CRow madeCells

theorem runE_fuel {regs : Int} {l : List Nd} {inp : List Int} {f g : Int} (hf : 0 ≤ f ∧ f ≤ 131072) (hg : 0 ≤ g ∧ g ≤ 131072) : runE regs l inp f = runE regs l inp g := by
  unfold runE
  rw [if_neg (show ¬ (f < 0 ∨ 131072 < f) by omega), if_neg (show ¬ (g < 0 ∨ 131072 < g) by omega)]
/-- what the law holds behind the two runs -/
structure MoreSt (tI tC tR : TypeId) (w : World) (a b : Nat) (O : Option Addr) (oc : Nat) (C : Option Addr) (cc : Nat) (P : Option Addr) (pc : Nat) (D : Option Addr) (dc : Nat) (R Q : Rs) (W : World) : Prop where
  boxR : Blk W a tR #[.slice O R.out.length oc, .int .i64 R.ret, .bool R.ended, .int .i64 R.steps, .slice C R.cts.length cc]
  boxQ : Blk W b tR #[.slice P Q.out.length pc, .int .i64 Q.ret, .bool Q.ended, .int .i64 Q.steps, .slice D Q.cts.length dc]
  rowR : ResRow tI tC w.heap.size W O oc C cc R
  rowQ : ResRow tI tC w.heap.size W P pc D dc Q
  below : Below w.heap.size w W
theorem MoreSt.later {tI tC tR : TypeId} {w : World} {a b : Nat} {O : Option Addr} {oc : Nat} {C : Option Addr} {cc : Nat} {P : Option Addr} {pc : Nat} {D : Option Addr} {dc : Nat} {R Q : Rs} {W W' : World} (h : MoreSt tI tC tR w a b O oc C cc P pc D dc R Q W) (hb : Below W.heap.size W W') : MoreSt tI tC tR w a b O oc C cc P pc D dc R Q W' :=
  ⟨h.boxR.below hb h.boxR.lt, h.boxQ.below hb h.boxQ.lt, h.rowR.below hb, h.rowQ.below hb, h.below.trans (hb.mono h.below.size)⟩
theorem ResRow.mono_ {tI tC : TypeId} {B B' : Nat} {W : World} {O : Option Addr} {oc : Nat} {C : Option Addr} {cc : Nat} {r : Rs} (h : ResRow tI tC B W O oc C cc r) (hb : B' ≤ B) : ResRow tI tC B' W O oc C cc r := ⟨h.out.mono hb, h.cts.mono hb⟩
theorem set5_cell {V : World} {a b : Nat} (h : ¬ (a = b)) (o : Nat) (u0 u1 u2 u3 u4 : Value) : (((((V.setCell ⟨b, 0, none⟩ u0).setCell ⟨b, 1, none⟩ u1).setCell ⟨b, 2, none⟩ u2).setCell ⟨b, 3, none⟩ u3).setCell ⟨b, 4, none⟩ u4).cell? ⟨a, o, none⟩ = V.cell? ⟨a, o, none⟩ := by
  have hne : ∀ k : Nat, (⟨a, o, none⟩ : Addr) ≠ ⟨b, k, none⟩ := fun k e => h (by injection e)
  simp [World.cell?_setCell_other, h]
theorem MoreSt.mk5 {tI tC tR : TypeId} {w : World} {a b : Nat} {O : Option Addr} {oc : Nat} {C : Option Addr} {cc : Nat} {P : Option Addr} {pc : Nat} {D : Option Addr} {dc : Nat} {R Q : Rs} {V : World} {z0 z1 z2 z3 z4 : Value}
    (hR : Blk V a tR #[.slice O R.out.length oc, .int .i64 R.ret, .bool R.ended, .int .i64 R.steps, .slice C R.cts.length cc]) (hQ : Blk V b tR #[z0, z1, z2, z3, z4]) (hab : ¬ (a = b)) (rR : ResRow tI tC w.heap.size V O oc C cc R) (rQ : ResRow tI tC w.heap.size V P pc D dc Q)
    (nR : (Value.slice O R.out.length oc).ownBlock ≠ some b ∧ (Value.slice C R.cts.length cc).ownBlock ≠ some b) (nQ : (Value.slice P Q.out.length pc).ownBlock ≠ some b ∧ (Value.slice D Q.cts.length dc).ownBlock ≠ some b) (hB : Below w.heap.size w V) (hwb : w.heap.size ≤ b) :
    MoreSt tI tC tR w a b O oc C cc P pc D dc R Q (((((V.setCell ⟨b, 0, none⟩ (.slice P Q.out.length pc)).setCell ⟨b, 1, none⟩ (.int .i64 Q.ret)).setCell ⟨b, 2, none⟩ (.bool Q.ended)).setCell ⟨b, 3, none⟩ (.int .i64 Q.steps)).setCell ⟨b, 4, none⟩ (.slice D Q.cts.length dc)) :=
  ⟨((((hR.far (p := ⟨b, 0, none⟩) hab _).far (p := ⟨b, 1, none⟩) hab _).far (p := ⟨b, 2, none⟩) hab _).far (p := ⟨b, 3, none⟩) hab _).far (p := ⟨b, 4, none⟩) hab _,
   ((((hQ.set_ 0 _).set_ 1 _).set_ 2 _).set_ 3 _).set_ 4 _,
   ((((rR.far nR.1 nR.2 0 _).far nR.1 nR.2 1 _).far nR.1 nR.2 2 _).far nR.1 nR.2 3 _).far nR.1 nR.2 4 _,
   ((((rQ.far nQ.1 nQ.2 0 _).far nQ.1 nQ.2 1 _).far nQ.1 nQ.2 2 _).far nQ.1 nQ.2 3 _).far nQ.1 nQ.2 4 _,
   ((((hB.setCell hwb _).setCell hwb _).setCell hwb _).setCell hwb _).setCell hwb _⟩
set_option maxRecDepth 100000 in
theorem RunMore_any (regs : Int) (A : Option Addr) (l : List Nd) (cap : Nat) (Ai : Option Addr) (inp : List Int) (ci : Nat) (fuel more : Int) (w : World) (hl : l.length ≤ maxLen) (hA : NodesAt w A l) (hI : ValsAt w Ai (ints inp)) (hic : inp.length ≤ ci ∧ ci ≤ maxLen) (hf : i64ok fuel) (hm : i64ok more) :
    Calls Try.prog 10 #[.agg #[.int .i64 regs, .slice A l.length cap], .slice Ai inp.length ci, .int .i64 fuel, .int .i64 more] w fun e w' => e = .returned (.bool true) ∧ Below w.heap.size w w' := by
  have HCh1 := fun V => hide (choose_any fuel 4096 (by omega) (by omega) hf V)
  have HCh2 := fun V => hide (choose_any more 4096 (by omega) (by omega) hm V)
  have hn := chV_in fuel (show (0 : Int) < 4096 by omega)
  have hk := chV_in more (show (0 : Int) < 4096 by omega)
  generalize chV fuel 4096 = n at *
  generalize chV more 4096 = k at *
  obtain ⟨n', rfl⟩ : ∃ n' : Nat, n = n' := ⟨n.toNat, by omega⟩
  obtain ⟨k', rfl⟩ : ∃ k' : Nat, k = k' := ⟨k.toNat, by omega⟩
  obtain ⟨R, hR⟩ : ∃ R, R = runS regs l inp n' := ⟨_, rfl⟩
  obtain ⟨Q, hQ⟩ : ∃ Q, Q = runS regs l inp ((n' : Int) + (k' : Int)) := ⟨_, rfl⟩
  obtain ⟨c, hc⟩ : ∃ c, c = runE regs l inp n' := ⟨_, rfl⟩
  have hc2 : runE regs l inp ((n' : Int) + (k' : Int)) = c := by rw [hc]; exact runE_fuel (by omega) (by omega)
  have HR1 := fun (V : World) (hV : Below w.heap.size w V) => hide (by
    have h := Run_any regs A l cap Ai inp ci n' V hl (hA.below hV) (hI.below hV) hic
    unfold RunPost at h
    rw [← hR, ← hc] at h
    exact h)
  have HR2 := fun (V : World) (hV : Below w.heap.size w V) => hide (by
    have h := Run_any regs A l cap Ai inp ci ((n' : Int) + (k' : Int)) V hl (hA.below hV) (hI.below hV) hic
    unfold RunPost at h
    rw [← hQ, hc2] at h
    exact h)
  have HB := fun V => hide (runBegun_any V)
  have hplain : c = 0 → (R.ended = true → Q = R) ∧ (R.ended = false → R.steps = n' ∧ (∃ x, Q.out = R.out ++ x) ∧ n' ≤ Q.steps) := fun h0 => by
    have e1 : R = (runR regs l inp n').told := by rw [hR, runS, if_pos (by rw [← hc]; exact h0)]; rfl
    have e2 : Q = (runR regs l inp (n' + k')).told := by rw [hQ, runS, if_pos (by rw [hc2]; exact h0)]; rfl
    rw [e1, e2]
    exact ⟨fun h => by rw [more_ended h], fun h => more_not h k'⟩
  have Hplain := hide hplain
  clear hR hQ hc hc2 hA hI hl hic hf hm hplain
  go_enter Try.func10, Try.ntmps10
  go_wp2_with (go_at_call 49; refine ((HCh1 _).out).mono ?_; rintro e w0 ⟨rfl, rfl⟩)
  refine ((HR1 _ (by repeat (first | (with_reducible exact Below.refl _ _) | (with_reducible assumption) | (with_reducible refine Below.drew ?_) | (with_reducible refine below_drewN ?_ _) | (with_reducible refine Below.alloc ?_ (by (try simp only [World.size_alloc, World.size_setCell, World.size_drew, World.heap_drewN]); (first | done | omega | ((try simp only [World.size_alloc, World.size_setCell, World.size_drew, World.heap_drewN] at *); omega))) _) | (with_reducible refine Below.setCell ?_ (by (try simp only [World.size_alloc, World.size_setCell, World.size_drew, World.heap_drewN]); (first | done | omega | ((try simp only [World.size_alloc, World.size_setCell, World.size_drew, World.heap_drewN] at *); omega))) _) | (with_reducible refine Below.trans ?_ (Below.mono (by assumption) (by (try simp only [World.size_alloc, World.size_setCell, World.size_drew, World.heap_drewN]); (first | done | omega | ((try simp only [World.size_alloc, World.size_setCell, World.size_drew, World.heap_drewN] at *); omega)))))))).out).mono ?_
  rintro e w1 ⟨hc1, u1, rfl, hr1⟩
  obtain ⟨O1, oc1, C1, cc1, rfl, hO1⟩ := hr1.rows
  have hB1 : Below w.heap.size w w1 := (by repeat (first | (with_reducible exact Below.refl _ _) | (with_reducible assumption) | (with_reducible refine Below.drew ?_) | (with_reducible refine below_drewN ?_ _) | (with_reducible refine Below.alloc ?_ (by (try simp only [World.size_alloc, World.size_setCell, World.size_drew, World.heap_drewN]); (first | done | omega | ((try simp only [World.size_alloc, World.size_setCell, World.size_drew, World.heap_drewN] at *); omega))) _) | (with_reducible refine Below.setCell ?_ (by (try simp only [World.size_alloc, World.size_setCell, World.size_drew, World.heap_drewN]); (first | done | omega | ((try simp only [World.size_alloc, World.size_setCell, World.size_drew, World.heap_drewN] at *); omega))) _) | (with_reducible refine Below.trans ?_ (Below.mono (by assumption) (by (try simp only [World.size_alloc, World.size_setCell, World.size_drew, World.heap_drewN]); (first | done | omega | ((try simp only [World.size_alloc, World.size_setCell, World.size_drew, World.heap_drewN] at *); omega)))))))
  have hP1 : Blk w1 w.heap.size 24 #[.int .i64 regs, .slice A l.length cap] := Blk.below (Blk.new' rfl) hc1 (by simp)
  have hO1 := hO1.mono_ (B' := w.heap.size) (by simp)
  have hy1 := hB1.size
  clear hr1 hc1
  go_upto_region 3 with fail
  obtain ⟨W2, hW2⟩ : ∃ W2, W2 = w1.alloc (.cells #[.slice O1 R.out.length oc1, .int .i64 R.ret, .bool R.ended, .int .i64 R.steps, .slice C1 R.cts.length cc1] 68) := ⟨_, rfl⟩
  have hb2 : Blk W2 w1.heap.size 68 #[.slice O1 R.out.length oc1, .int .i64 R.ret, .bool R.ended, .int .i64 R.steps, .slice C1 R.cts.length cc1] := by rw [hW2]; exact Blk.new' rfl
  have hB12 : Below w1.heap.size w1 W2 := by rw [hW2]; exact (Below.refl _ _).alloc (Nat.le_refl _) _
  have hP2 := hP1.below hB12 hP1.lt
  have hO2 := hO1.below hB12
  have hB2 := hB1.trans (hB12.mono hy1)
  have hy2 := hB2.size
  have p0 := hP2.cell 0
  have p1 := hP2.cell 1
  have lp2 := hP2.lt
  simp only [List.getElem?_toArray, List.getElem?_cons_zero, List.getElem?_cons_succ] at p0 p1
  rw [← hW2]
  obtain ⟨a1, ha1⟩ : ∃ a, a = w1.heap.size := ⟨_, rfl⟩
  rw [← ha1] at hb2 ⊢
  have la2 := hb2.lt
  clear hW2 hP1 hB12 hB1 hy1 hO1 ha1
  go_cut [12, 13] (fun s12 s13 wx => ∃ (b : Nat) (P : Option Addr) (pc : Nat) (D : Option Addr) (dc : Nat), s12 = .pointer (some ⟨b, 0, none⟩) ∧ s13 = .int .i64 c ∧ MoreSt 3 123 68 w a1 b O1 oc1 C1 cc1 P pc D dc R Q wx)
  case first =>
    have hwr : IntKind.i64.wrap ((n' : Int) + (k' : Int)) = (n' : Int) + (k' : Int) := by rw [IntKind.wrap_i64]; omega
    have hla : a1 < W2.heap.size := la2
    refine wp_region_held_drew (S := fun w' => w'.cell? ⟨w.heap.size, 0, none⟩ = some (.int .i64 regs) ∧ w'.cell? ⟨w.heap.size, 1, none⟩ = some (.slice A l.length cap)) (by kernel_rfl) ⟨p0, p1⟩ ?_
    intro hHeld
    have hC0 : Below W2.heap.size W2 W2.drew := (Below.refl _ _).drew
    refine wpAnyH_take (i := 0) (v := ?_) rfl (by kernel_rfl) (by kernel_rfl) (by kernel_rfl) (fun _ _ _ h => h) (Or.inl ⟨by rfl, ?_⟩) hHeld ?_; rotate_left; (focus (intro w' hSw; (try dsimp only at hSw); (try go_split_ands); go_simp; try with_reducible rfl))
    try simp only [List.getElem_toArray, List.getElem_cons_zero, List.getElem_cons_succ, Act.put, List.setIfInBounds_toArray, List.set_cons_zero, List.set_cons_succ]
    refine wpAnyH_take (i := 1) (v := ?_) rfl (by kernel_rfl) (by kernel_rfl) (by kernel_rfl) (fun _ _ _ h => h) (Or.inl ⟨by rfl, ?_⟩) hHeld ?_; rotate_left; (focus (intro w' hSw; (try dsimp only at hSw); (try go_split_ands); go_simp; try with_reducible rfl))
    try simp only [List.getElem_toArray, List.getElem_cons_zero, List.getElem_cons_succ, Act.put, List.setIfInBounds_toArray, List.set_cons_zero, List.set_cons_succ]
    refine wpAnyH_take (i := 2) (v := ?_) rfl (by kernel_rfl) (by kernel_rfl) (by kernel_rfl) (fun _ _ _ h => h) (Or.inl ⟨by rfl, ?_⟩) hHeld ?_; rotate_left; (focus (intro w' hSw; (try dsimp only at hSw); (try go_split_ands); go_simp; try with_reducible rfl))
    try simp only [List.getElem_toArray, List.getElem_cons_zero, List.getElem_cons_succ, Act.put, List.setIfInBounds_toArray, List.set_cons_zero, List.set_cons_succ]
    refine wpAnyH_take (i := 3) (v := ?_) rfl (by kernel_rfl) (by kernel_rfl) (by kernel_rfl) (fun _ _ _ h => h) (Or.inl ⟨by rfl, ?_⟩) hHeld ?_; rotate_left; (focus (intro w' hSw; (try dsimp only at hSw); (try go_split_ands); go_simp; try with_reducible rfl))
    try simp only [List.getElem_toArray, List.getElem_cons_zero, List.getElem_cons_succ, Act.put, List.setIfInBounds_toArray, List.set_cons_zero, List.set_cons_succ]
    refine wpAnyH_ready (rs := [4, 10]) (by kernel_rfl) (by simp) ?_
    refine AllReadyH.cons rfl (fun K hK => ?_) (AllReadyH.cons rfl (fun K hK => ?_) AllReadyH.nil)
    · have HK4 := hide hK
      clear hK
      go_simp
      go_at_call 49
      refine ((HCh2 _).out).mono ?_
      rintro e w0 ⟨rfl, rfl⟩
      refine Shut.out HK4.out _ _ hHeld (fun _ => ?_)
      try simp only [List.getElem_toArray, List.getElem_cons_zero, List.getElem_cons_succ, Act.put, List.setIfInBounds_toArray, List.set_cons_zero, List.set_cons_succ]
      clear HK4
      refine wpAnyH_take (i := 5) (v := ?_) rfl (by kernel_rfl) (by kernel_rfl) (by kernel_rfl) (fun _ _ _ h => h) (Or.inl ⟨by rfl, ?_⟩) hHeld ?_; rotate_left; (focus (intro w' hSw; (try dsimp only at hSw); (try go_split_ands); go_simp; try with_reducible rfl))
      try simp only [List.getElem_toArray, List.getElem_cons_zero, List.getElem_cons_succ, Act.put, List.setIfInBounds_toArray, List.set_cons_zero, List.set_cons_succ]
      refine wpAnyH_ready (rs := [6, 10]) (by kernel_rfl) (by simp) ?_
      refine AllReadyH.cons rfl (fun K hK => ?_) (AllReadyH.cons rfl (fun K hK => ?_) AllReadyH.nil)
      · have HK6 := hide hK
        clear hK
        go_simp
        go_at_call 42
        refine ((HR2 _ (hB2.trans (hC0.mono hy2))).out).mono ?_
        rintro e w5 ⟨hc5, u5, rfl, hr5⟩
        obtain ⟨O5, oc5, C5, cc5, rfl, hO5⟩ := hr5.rows
        have hC5 : Below W2.heap.size W2 w5 := hC0.trans (hc5.mono hC0.size)
        clear hHeld hr5
        have hHeld : w5.cell? ⟨w.heap.size, 0, none⟩ = some (.int .i64 regs) ∧ w5.cell? ⟨w.heap.size, 1, none⟩ = some (.slice A l.length cap) := ⟨((bcell hC5).1 _ _ lp2).trans p0, ((bcell hC5).1 _ _ lp2).trans p1⟩
        refine Shut.out HK6.out _ _ hHeld (fun _ => ?_)
        try simp only [List.getElem_toArray, List.getElem_cons_zero, List.getElem_cons_succ, Act.put, List.setIfInBounds_toArray, List.set_cons_zero, List.set_cons_succ]
        clear HK6
        refine wpAnyH_take (i := 7) (v := ?_) rfl (by kernel_rfl) (by kernel_rfl) (by kernel_rfl) (fun _ _ _ h => h) (Or.inl ⟨by rfl, ?_⟩) hHeld ?_; rotate_left; (focus (intro w' hSw; (try dsimp only at hSw); (try go_split_ands); go_simp; try with_reducible rfl))
        try simp only [List.getElem_toArray, List.getElem_cons_zero, List.getElem_cons_succ, Act.put, List.setIfInBounds_toArray, List.set_cons_zero, List.set_cons_succ]
        refine wpAnyH_take (i := 8) (v := ?_) rfl (by kernel_rfl) (by kernel_rfl) (by kernel_rfl) (fun _ _ _ h => h) (Or.inl ⟨by rfl, ?_⟩) hHeld ?_; rotate_left; (focus (intro w' hSw; (try dsimp only at hSw); (try go_split_ands); go_simp; try with_reducible rfl))
        try simp only [List.getElem_toArray, List.getElem_cons_zero, List.getElem_cons_succ, Act.put, List.setIfInBounds_toArray, List.set_cons_zero, List.set_cons_succ]
        refine wpAnyH_take (i := 9) (v := ?_) rfl (by kernel_rfl) (by kernel_rfl) (by kernel_rfl) (fun _ _ _ h => h) (Or.inl ⟨by rfl, ?_⟩) hHeld ?_; rotate_left; (focus (intro w' hSw; (try dsimp only at hSw); (try go_split_ands); go_simp; try with_reducible rfl))
        try simp only [List.getElem_toArray, List.getElem_cons_zero, List.getElem_cons_succ, Act.put, List.setIfInBounds_toArray, List.set_cons_zero, List.set_cons_succ]
        refine wpAnyH_ready (rs := [10]) (by kernel_rfl) (by simp) ?_
        refine AllReadyH.cons rfl (fun K hK => ?_) AllReadyH.nil
        have HK10 := hide hK
        clear hK
        go_simp
        obtain ⟨V6, hV6⟩ : ∃ V : World, V = (w5).alloc (.cells #[.slice none 0 0, .int .i64 0, .bool false, .int .i64 0, .slice none 0 0] 68) := ⟨_, rfl⟩
        rw [← hV6]
        have hC6 : Below W2.heap.size W2 V6 := by rw [hV6]; exact Below.alloc hC5 hC5.size _
        have hzV6 : Blk V6 (w5).heap.size 68 #[.slice none 0 0, .int .i64 0, .bool false, .int .i64 0, .slice none 0 0] := by rw [hV6]; exact Blk.new' rfl
        have hbVV6 : Below (w5).heap.size (w5) V6 := by rw [hV6]; exact (Below.refl _ _).alloc (Nat.le_refl _) _
        clear hHeld hV6
        have hHeld : V6.cell? ⟨w.heap.size, 0, none⟩ = some (.int .i64 regs) ∧ V6.cell? ⟨w.heap.size, 1, none⟩ = some (.slice A l.length cap) := ⟨((bcell hC6).1 _ _ lp2).trans p0, ((bcell hC6).1 _ _ lp2).trans p1⟩
        refine Shut.out HK10.out _ _ hHeld (fun _ => ?_)
        try simp only [List.getElem_toArray, List.getElem_cons_zero, List.getElem_cons_succ, Act.put, List.setIfInBounds_toArray, List.set_cons_zero, List.set_cons_succ]
        clear HK10
        have hQz := hzV6
        have hRz := (hb2.below hC5 la2).below hbVV6 (Nat.lt_of_lt_of_le la2 hC5.size)
        have rR := (hO2.below hC5).below hbVV6
        have rQ := (hO5.mono_ (B' := w.heap.size) (by have := hC0.size; omega)).below hbVV6
        have n1 := (hO2.below hC5).ne (g := w5.heap.size) (.inr (Nat.le_refl _))
        have n2 := hO5.ne (g := w5.heap.size) (.inr (Nat.le_refl _))
        have nab : ¬ (a1 = w5.heap.size) := by have := hC5.size; omega
        have hwb : w.heap.size ≤ w5.heap.size := by have := hC5.size; omega
        have hBV : Below w.heap.size w V6 := hB2.trans (hC6.mono hy2)
        have nwb : ¬ (w.heap.size = w5.heap.size) := by have := hC5.size; omega
        have nwb' : ¬ (w5.heap.size = w.heap.size) := fun e => nwb e.symm
        have hfin := MoreSt.mk5 hRz hQz nab rR rQ n1 n2 hBV hwb
        obtain ⟨b, hb⟩ : ∃ b, b = w5.heap.size := ⟨_, rfl⟩
        rw [← hb] at hQz hfin nwb nwb' ⊢
        have Hfin := hide hfin
        clear hzV6 hb hbVV6 hRz rR rQ n1 n2 hBV hfin nab hO5 hO2 hb2
        refine wpAnyH_ready (rs := [11]) (by kernel_rfl) (by simp) ?_
        refine AllReadyH.cons rfl (fun K hK => ?_) AllReadyH.nil
        have d0 := hQz.cell 0
        have d1 := hQz.cell 1
        have d2 := hQz.cell 2
        have d3 := hQz.cell 3
        have d4 := hQz.cell 4
        have f0 := hQz.frozen 0
        have f1 := hQz.frozen 1
        have f2 := hQz.frozen 2
        have f3 := hQz.frozen 3
        have f4 := hQz.frozen 4
        simp only [List.getElem?_toArray, List.getElem?_cons_zero, List.getElem?_cons_succ] at d0 d1 d2 d3 d4
        have HK11 := hide hK
        clear hK
        go_simp
        refine Shut.out HK11.out _ _ ?_ (fun hHeld => ?_)
        · (try dsimp only)
          refine And.intro ?_ ?_
          · rw [set5_cell nwb]; exact hHeld.1
          · rw [set5_cell nwb]; exact hHeld.2
        try simp only [List.getElem_toArray, List.getElem_cons_zero, List.getElem_cons_succ, Act.put, List.setIfInBounds_toArray, List.set_cons_zero, List.set_cons_succ]
        clear HK11
        refine wpAnyH_take (i := 12) (v := ?_) rfl (by kernel_rfl) (by kernel_rfl) (by kernel_rfl) (fun _ _ _ h => h) (Or.inl ⟨by rfl, ?_⟩) hHeld ?_; rotate_left; (focus (intro w' hSw; (try dsimp only at hSw); (try go_split_ands); go_simp; try with_reducible rfl))
        try simp only [List.getElem_toArray, List.getElem_cons_zero, List.getElem_cons_succ, Act.put, List.setIfInBounds_toArray, List.set_cons_zero, List.set_cons_succ]
        refine wpAnyH_done (by kernel_rfl) ?_ _
        go_wp2_with fail
        go_meet
        go_tidy
        exact ⟨b, O5, oc5, C5, cc5, rfl, rfl, Hfin.out⟩
      · have HK10 := hide hK
        clear hK
        go_simp
        obtain ⟨V6, hV6⟩ : ∃ V : World, V = (W2.alloc (.cells #[.slice none 0 0, .int .i64 0, .bool false, .int .i64 0, .slice none 0 0] 68)).drew := ⟨_, rfl⟩
        rw [← hV6]
        have hC6 : Below W2.heap.size W2 V6 := by rw [hV6]; exact Below.drew ((Below.refl _ _).alloc (Nat.le_refl _) _)
        have hzV6 : Blk V6 W2.heap.size 68 #[.slice none 0 0, .int .i64 0, .bool false, .int .i64 0, .slice none 0 0] := by rw [hV6]; exact (Blk.new' rfl).drew
        clear hHeld hV6
        have hHeld : V6.cell? ⟨w.heap.size, 0, none⟩ = some (.int .i64 regs) ∧ V6.cell? ⟨w.heap.size, 1, none⟩ = some (.slice A l.length cap) := ⟨((bcell hC6).1 _ _ lp2).trans p0, ((bcell hC6).1 _ _ lp2).trans p1⟩
        refine Shut.out HK10.out _ _ hHeld (fun _ => ?_)
        try simp only [List.getElem_toArray, List.getElem_cons_zero, List.getElem_cons_succ, Act.put, List.setIfInBounds_toArray, List.set_cons_zero, List.set_cons_succ]
        clear HK10
        refine wpAnyH_ready (rs := [6]) (by kernel_rfl) (by simp) ?_
        refine AllReadyH.cons rfl (fun K hK => ?_) AllReadyH.nil
        have HK6 := hide hK
        clear hK
        go_simp
        go_at_call 42
        refine ((HR2 _ (hB2.trans (hC6.mono hy2))).out).mono ?_
        rintro e w5 ⟨hc5, u5, rfl, hr5⟩
        obtain ⟨O5, oc5, C5, cc5, rfl, hO5⟩ := hr5.rows
        have hC5 : Below W2.heap.size W2 w5 := hC6.trans (hc5.mono hC6.size)
        clear hHeld hr5
        have hHeld : w5.cell? ⟨w.heap.size, 0, none⟩ = some (.int .i64 regs) ∧ w5.cell? ⟨w.heap.size, 1, none⟩ = some (.slice A l.length cap) := ⟨((bcell hC5).1 _ _ lp2).trans p0, ((bcell hC5).1 _ _ lp2).trans p1⟩
        refine Shut.out HK6.out _ _ hHeld (fun _ => ?_)
        try simp only [List.getElem_toArray, List.getElem_cons_zero, List.getElem_cons_succ, Act.put, List.setIfInBounds_toArray, List.set_cons_zero, List.set_cons_succ]
        clear HK6
        refine wpAnyH_take (i := 7) (v := ?_) rfl (by kernel_rfl) (by kernel_rfl) (by kernel_rfl) (fun _ _ _ h => h) (Or.inl ⟨by rfl, ?_⟩) hHeld ?_; rotate_left; (focus (intro w' hSw; (try dsimp only at hSw); (try go_split_ands); go_simp; try with_reducible rfl))
        try simp only [List.getElem_toArray, List.getElem_cons_zero, List.getElem_cons_succ, Act.put, List.setIfInBounds_toArray, List.set_cons_zero, List.set_cons_succ]
        refine wpAnyH_take (i := 8) (v := ?_) rfl (by kernel_rfl) (by kernel_rfl) (by kernel_rfl) (fun _ _ _ h => h) (Or.inl ⟨by rfl, ?_⟩) hHeld ?_; rotate_left; (focus (intro w' hSw; (try dsimp only at hSw); (try go_split_ands); go_simp; try with_reducible rfl))
        try simp only [List.getElem_toArray, List.getElem_cons_zero, List.getElem_cons_succ, Act.put, List.setIfInBounds_toArray, List.set_cons_zero, List.set_cons_succ]
        refine wpAnyH_take (i := 9) (v := ?_) rfl (by kernel_rfl) (by kernel_rfl) (by kernel_rfl) (fun _ _ _ h => h) (Or.inl ⟨by rfl, ?_⟩) hHeld ?_; rotate_left; (focus (intro w' hSw; (try dsimp only at hSw); (try go_split_ands); go_simp; try with_reducible rfl))
        try simp only [List.getElem_toArray, List.getElem_cons_zero, List.getElem_cons_succ, Act.put, List.setIfInBounds_toArray, List.set_cons_zero, List.set_cons_succ]
        have hQz := hzV6.below hc5 hzV6.lt
        have hRz := hb2.below hC5 la2
        have rR := hO2.below hC5
        have rQ := hO5.mono_ (B' := w.heap.size) (by have := hC6.size; omega)
        have n1 := hO2.ne (g := W2.heap.size) (.inr (Nat.le_refl _))
        have n2 := hO5.ne (g := W2.heap.size) (.inl hzV6.lt)
        have nab : ¬ (a1 = W2.heap.size) := by omega
        have hBV : Below w.heap.size w w5 := hB2.trans (hC5.mono hy2)
        have nwb : ¬ (w.heap.size = W2.heap.size) := by omega
        have nwb' : ¬ (W2.heap.size = w.heap.size) := fun e => nwb e.symm
        have hfin := MoreSt.mk5 hRz hQz nab rR rQ n1 n2 hBV hy2
        obtain ⟨b, hb⟩ : ∃ b, b = W2.heap.size := ⟨_, rfl⟩
        have hQz : Blk w5 W2.heap.size 68 #[.slice none 0 0, .int .i64 0, .bool false, .int .i64 0, .slice none 0 0] := hQz
        rw [← hb] at hQz hfin nwb nwb'
        try rw [← hb]
        have Hfin := hide hfin
        clear hzV6 hb hRz rR rQ n1 n2 hBV hfin nab hO5 hO2 hb2
        refine wpAnyH_ready (rs := [11]) (by kernel_rfl) (by simp) ?_
        refine AllReadyH.cons rfl (fun K hK => ?_) AllReadyH.nil
        have d0 := hQz.cell 0
        have d1 := hQz.cell 1
        have d2 := hQz.cell 2
        have d3 := hQz.cell 3
        have d4 := hQz.cell 4
        have f0 := hQz.frozen 0
        have f1 := hQz.frozen 1
        have f2 := hQz.frozen 2
        have f3 := hQz.frozen 3
        have f4 := hQz.frozen 4
        simp only [List.getElem?_toArray, List.getElem?_cons_zero, List.getElem?_cons_succ] at d0 d1 d2 d3 d4
        have HK11 := hide hK
        clear hK
        go_simp
        refine Shut.out HK11.out _ _ ?_ (fun hHeld => ?_)
        · (try dsimp only)
          refine And.intro ?_ ?_
          · rw [set5_cell nwb]; exact hHeld.1
          · rw [set5_cell nwb]; exact hHeld.2
        try simp only [List.getElem_toArray, List.getElem_cons_zero, List.getElem_cons_succ, Act.put, List.setIfInBounds_toArray, List.set_cons_zero, List.set_cons_succ]
        clear HK11
        refine wpAnyH_take (i := 12) (v := ?_) rfl (by kernel_rfl) (by kernel_rfl) (by kernel_rfl) (fun _ _ _ h => h) (Or.inl ⟨by rfl, ?_⟩) hHeld ?_; rotate_left; (focus (intro w' hSw; (try dsimp only at hSw); (try go_split_ands); go_simp; try with_reducible rfl))
        try simp only [List.getElem_toArray, List.getElem_cons_zero, List.getElem_cons_succ, Act.put, List.setIfInBounds_toArray, List.set_cons_zero, List.set_cons_succ]
        refine wpAnyH_done (by kernel_rfl) ?_ _
        go_wp2_with fail
        go_meet
        go_tidy
        exact ⟨b, O5, oc5, C5, cc5, rfl, rfl, Hfin.out⟩
    · have HK10 := hide hK
      clear hK
      go_simp
      obtain ⟨V6, hV6⟩ : ∃ V : World, V = (W2.alloc (.cells #[.slice none 0 0, .int .i64 0, .bool false, .int .i64 0, .slice none 0 0] 68)).drew := ⟨_, rfl⟩
      rw [← hV6]
      have hC6 : Below W2.heap.size W2 V6 := by rw [hV6]; exact Below.drew ((Below.refl _ _).alloc (Nat.le_refl _) _)
      have hzV6 : Blk V6 W2.heap.size 68 #[.slice none 0 0, .int .i64 0, .bool false, .int .i64 0, .slice none 0 0] := by rw [hV6]; exact (Blk.new' rfl).drew
      clear hHeld hV6
      have hHeld : V6.cell? ⟨w.heap.size, 0, none⟩ = some (.int .i64 regs) ∧ V6.cell? ⟨w.heap.size, 1, none⟩ = some (.slice A l.length cap) := ⟨((bcell hC6).1 _ _ lp2).trans p0, ((bcell hC6).1 _ _ lp2).trans p1⟩
      refine Shut.out HK10.out _ _ hHeld (fun _ => ?_)
      try simp only [List.getElem_toArray, List.getElem_cons_zero, List.getElem_cons_succ, Act.put, List.setIfInBounds_toArray, List.set_cons_zero, List.set_cons_succ]
      clear HK10
      refine wpAnyH_ready (rs := [4]) (by kernel_rfl) (by simp) ?_
      refine AllReadyH.cons rfl (fun K hK => ?_) AllReadyH.nil
      have HK4 := hide hK
      clear hK
      go_simp
      go_at_call 49
      refine ((HCh2 _).out).mono ?_
      rintro e w0 ⟨rfl, rfl⟩
      refine Shut.out HK4.out _ _ hHeld (fun _ => ?_)
      try simp only [List.getElem_toArray, List.getElem_cons_zero, List.getElem_cons_succ, Act.put, List.setIfInBounds_toArray, List.set_cons_zero, List.set_cons_succ]
      clear HK4
      refine wpAnyH_take (i := 5) (v := ?_) rfl (by kernel_rfl) (by kernel_rfl) (by kernel_rfl) (fun _ _ _ h => h) (Or.inl ⟨by rfl, ?_⟩) hHeld ?_; rotate_left; (focus (intro w' hSw; (try dsimp only at hSw); (try go_split_ands); go_simp; try with_reducible rfl))
      try simp only [List.getElem_toArray, List.getElem_cons_zero, List.getElem_cons_succ, Act.put, List.setIfInBounds_toArray, List.set_cons_zero, List.set_cons_succ]
      refine wpAnyH_ready (rs := [6]) (by kernel_rfl) (by simp) ?_
      refine AllReadyH.cons rfl (fun K hK => ?_) AllReadyH.nil
      have HK6 := hide hK
      clear hK
      go_simp
      go_at_call 42
      refine ((HR2 _ (hB2.trans (hC6.mono hy2))).out).mono ?_
      rintro e w5 ⟨hc5, u5, rfl, hr5⟩
      obtain ⟨O5, oc5, C5, cc5, rfl, hO5⟩ := hr5.rows
      have hC5 : Below W2.heap.size W2 w5 := hC6.trans (hc5.mono hC6.size)
      clear hHeld hr5
      have hHeld : w5.cell? ⟨w.heap.size, 0, none⟩ = some (.int .i64 regs) ∧ w5.cell? ⟨w.heap.size, 1, none⟩ = some (.slice A l.length cap) := ⟨((bcell hC5).1 _ _ lp2).trans p0, ((bcell hC5).1 _ _ lp2).trans p1⟩
      refine Shut.out HK6.out _ _ hHeld (fun _ => ?_)
      try simp only [List.getElem_toArray, List.getElem_cons_zero, List.getElem_cons_succ, Act.put, List.setIfInBounds_toArray, List.set_cons_zero, List.set_cons_succ]
      clear HK6
      refine wpAnyH_take (i := 7) (v := ?_) rfl (by kernel_rfl) (by kernel_rfl) (by kernel_rfl) (fun _ _ _ h => h) (Or.inl ⟨by rfl, ?_⟩) hHeld ?_; rotate_left; (focus (intro w' hSw; (try dsimp only at hSw); (try go_split_ands); go_simp; try with_reducible rfl))
      try simp only [List.getElem_toArray, List.getElem_cons_zero, List.getElem_cons_succ, Act.put, List.setIfInBounds_toArray, List.set_cons_zero, List.set_cons_succ]
      refine wpAnyH_take (i := 8) (v := ?_) rfl (by kernel_rfl) (by kernel_rfl) (by kernel_rfl) (fun _ _ _ h => h) (Or.inl ⟨by rfl, ?_⟩) hHeld ?_; rotate_left; (focus (intro w' hSw; (try dsimp only at hSw); (try go_split_ands); go_simp; try with_reducible rfl))
      try simp only [List.getElem_toArray, List.getElem_cons_zero, List.getElem_cons_succ, Act.put, List.setIfInBounds_toArray, List.set_cons_zero, List.set_cons_succ]
      refine wpAnyH_take (i := 9) (v := ?_) rfl (by kernel_rfl) (by kernel_rfl) (by kernel_rfl) (fun _ _ _ h => h) (Or.inl ⟨by rfl, ?_⟩) hHeld ?_; rotate_left; (focus (intro w' hSw; (try dsimp only at hSw); (try go_split_ands); go_simp; try with_reducible rfl))
      try simp only [List.getElem_toArray, List.getElem_cons_zero, List.getElem_cons_succ, Act.put, List.setIfInBounds_toArray, List.set_cons_zero, List.set_cons_succ]
      have hQz := hzV6.below hc5 hzV6.lt
      have hRz := hb2.below hC5 la2
      have rR := hO2.below hC5
      have rQ := hO5.mono_ (B' := w.heap.size) (by have := hC6.size; omega)
      have n1 := hO2.ne (g := W2.heap.size) (.inr (Nat.le_refl _))
      have n2 := hO5.ne (g := W2.heap.size) (.inl hzV6.lt)
      have nab : ¬ (a1 = W2.heap.size) := by omega
      have hBV : Below w.heap.size w w5 := hB2.trans (hC5.mono hy2)
      have nwb : ¬ (w.heap.size = W2.heap.size) := by omega
      have nwb' : ¬ (W2.heap.size = w.heap.size) := fun e => nwb e.symm
      have hfin := MoreSt.mk5 hRz hQz nab rR rQ n1 n2 hBV hy2
      obtain ⟨b, hb⟩ : ∃ b, b = W2.heap.size := ⟨_, rfl⟩
      have hQz : Blk w5 W2.heap.size 68 #[.slice none 0 0, .int .i64 0, .bool false, .int .i64 0, .slice none 0 0] := hQz
      rw [← hb] at hQz hfin nwb nwb'
      try rw [← hb]
      have Hfin := hide hfin
      clear hzV6 hb hRz rR rQ n1 n2 hBV hfin nab hO5 hO2 hb2
      refine wpAnyH_ready (rs := [11]) (by kernel_rfl) (by simp) ?_
      refine AllReadyH.cons rfl (fun K hK => ?_) AllReadyH.nil
      have d0 := hQz.cell 0
      have d1 := hQz.cell 1
      have d2 := hQz.cell 2
      have d3 := hQz.cell 3
      have d4 := hQz.cell 4
      have f0 := hQz.frozen 0
      have f1 := hQz.frozen 1
      have f2 := hQz.frozen 2
      have f3 := hQz.frozen 3
      have f4 := hQz.frozen 4
      simp only [List.getElem?_toArray, List.getElem?_cons_zero, List.getElem?_cons_succ] at d0 d1 d2 d3 d4
      have HK11 := hide hK
      clear hK
      go_simp
      refine Shut.out HK11.out _ _ ?_ (fun hHeld => ?_)
      · (try dsimp only)
        refine And.intro ?_ ?_
        · rw [set5_cell nwb]; exact hHeld.1
        · rw [set5_cell nwb]; exact hHeld.2
      try simp only [List.getElem_toArray, List.getElem_cons_zero, List.getElem_cons_succ, Act.put, List.setIfInBounds_toArray, List.set_cons_zero, List.set_cons_succ]
      clear HK11
      refine wpAnyH_take (i := 12) (v := ?_) rfl (by kernel_rfl) (by kernel_rfl) (by kernel_rfl) (fun _ _ _ h => h) (Or.inl ⟨by rfl, ?_⟩) hHeld ?_; rotate_left; (focus (intro w' hSw; (try dsimp only at hSw); (try go_split_ands); go_simp; try with_reducible rfl))
      try simp only [List.getElem_toArray, List.getElem_cons_zero, List.getElem_cons_succ, Act.put, List.setIfInBounds_toArray, List.set_cons_zero, List.set_cons_succ]
      refine wpAnyH_done (by kernel_rfl) ?_ _
      go_wp2_with fail
      go_meet
      go_tidy
      exact ⟨b, O5, oc5, C5, cc5, rfl, rfl, Hfin.out⟩
  case rest =>
    obtain ⟨b, P, pc, D, dc, rfl, rfl, hM⟩ := hcut
    have r2 := hM.boxR.cell 2
    simp only [List.getElem?_toArray, List.getElem?_cons_zero, List.getElem?_cons_succ] at r2
    by_cases h0 : c = 0
    · subst h0
      have hp := Hplain.out rfl
      cases hend : R.ended
      case true =>
        obtain rfl := hp.1 hend
        rw [hend] at r2
        clear hp Hplain
        go_wp2_with fail
        refine ((HB _).out).mono ?_
        rintro e Y ⟨rfl, hbY⟩
        have hMY := hM.later hbY
        have hBY := hMY.below
        have hYz := hBY.size
        have b0 := hMY.boxR.cell 0
        have b1 := hMY.boxR.cell 1
        have b2 := hMY.boxR.cell 2
        have b3 := hMY.boxR.cell 3
        have b4 := hMY.boxR.cell 4
        have d0 := hMY.boxQ.cell 0
        have d1 := hMY.boxQ.cell 1
        have d2 := hMY.boxQ.cell 2
        have d3 := hMY.boxQ.cell 3
        have d4 := hMY.boxQ.cell 4
        simp only [List.getElem?_toArray, List.getElem?_cons_zero, List.getElem?_cons_succ] at b0 b1 b2 b3 b4 d0 d1 d2 d3 d4
        have HSm := hide (hMY.rowQ.same hMY.rowR)
        rw [hend] at b2 d2 HSm
        clear hMY hM hbY
        go_wp2_with fail
        refine (HSm.out).mono ?_
        rintro e Z ⟨rfl, hbZ⟩
        go_wp2_with fail
        go_ret
        exact ⟨rfl, hBY.trans (hbZ.mono hYz)⟩
      case false =>
        obtain ⟨hs1, ⟨x, hx⟩, hs2⟩ := hp.2 hend
        rw [hend] at r2
        have e1 : ((R.steps : Int) == (n' : Int)) = true := by rw [hs1]; simp
        have e2 : (n' : Int) ≤ (Q.steps : Int) := by omega
        obtain ⟨_, _, esh, hq1, hq2⟩ := hM.rowQ.out.shape
        injection esh with ea eb ec
        subst ec
        clear ea eb
        rw [ints_length] at hq1
        have Hx := hide hx
        clear hp Hplain hs1 hs2 hx
        go_wp2_with fail
        refine ((HB _).out).mono ?_
        rintro e Y ⟨rfl, hbY⟩
        have hMY := hM.later hbY
        have hBY := hMY.below
        have hYz := hBY.size
        have b0 := hMY.boxR.cell 0
        have b1 := hMY.boxR.cell 1
        have b2 := hMY.boxR.cell 2
        have b3 := hMY.boxR.cell 3
        have b4 := hMY.boxR.cell 4
        have d0 := hMY.boxQ.cell 0
        have d1 := hMY.boxQ.cell 1
        have d2 := hMY.boxQ.cell 2
        have d3 := hMY.boxQ.cell 3
        have d4 := hMY.boxQ.cell 4
        simp only [List.getElem?_toArray, List.getElem?_cons_zero, List.getElem?_cons_succ] at b0 b1 b2 b3 b4 d0 d1 d2 d3 d4
        have hvx := hMY.rowQ.out.vals
        rw [Hx.out] at hvx hq1
        have HBg := hide (begins_any P O1 pc oc1 R.out x Y hvx hMY.rowR.out.vals hq1 hq2)
        rw [← Hx.out] at HBg
        clear hMY hM hbY hvx hq1 hq2 Hx
        go_wp2_with fail
        refine (HBg.out).mono ?_
        rintro e Z ⟨rfl, dd, rfl⟩
        go_wp2_with fail
        go_ret
        exact ⟨rfl, below_drewN hBY _⟩
    · have hne : (c != 0) = true := by simpa using h0
      go_wp2_with fail
      refine ((HB _).out).mono ?_
      rintro e Y ⟨rfl, hbY⟩
      have hMY := hM.later hbY
      have hBY := hMY.below
      have hYz := hBY.size
      clear hMY hM hbY
      go_wp2_with fail
      go_ret
      exact ⟨by simp, hBY⟩
end Go.Proofs.Ytmghkonmfbpjcaa
