/- The laws RunRuns and RunTimes, walked. -/
import Derived.Test.YtmghkonmfbpjcaaRunB
namespace Go.Proofs.Ytmghkonmfbpjcaa
set_option linter.unusedVariables false
set_option linter.unusedSimpArgs false
open Go.RowKit
set_option maxHeartbeats 8000000
attribute [local irreducible] Row CRow madeCells

theorem runE_ok {regs : Int} {l : List Nd} {inp : List Int} {fuel : Int} (h : runE regs l inp fuel = 0) : chk regs l = 0 ∧ inp.length ≤ 256 ∧ 0 ≤ fuel ∧ fuel ≤ 131072 := by
  unfold runE at h
  split at h
  · rename_i h0
    split at h
    · cases h
    · split at h
      · cases h
      · rename_i h1 h2
        exact ⟨h0, by omega, by omega, by omega⟩
  · rename_i h0
    exact absurd h h0
theorem Blk.five {w : World} {g : Nat} {t : TypeId} {x0 x1 x2 x3 x4 : Value} (h : Blk w g t #[x0, x1, x2, x3, x4]) : w.cell? ⟨g, 0, none⟩ = some x0 ∧ w.cell? ⟨g, 1, none⟩ = some x1 ∧ w.cell? ⟨g, 2, none⟩ = some x2 ∧ w.cell? ⟨g, 3, none⟩ = some x3 ∧ w.cell? ⟨g, 4, none⟩ = some x4 := ⟨h.cell 0, h.cell 1, h.cell 2, h.cell 3, h.cell 4⟩
set_option maxRecDepth 100000 in
theorem RunTimes_any (O : Option Addr) (on oc : Nat) (rt : Int) (en : Bool) (st : Int) (C : Option Addr) (cc : Nat) (cs : List Ct) (t : Tm) (w : World) (hC : CtsAt w C cs) (hl : cs.length ≤ maxLen) :
    Calls Try.prog 9 #[.agg #[.slice O on oc, .int .i64 rt, .bool en, .int .i64 st, .slice C cs.length cc], .agg #[.int .i64 t.op, .int .i64 t.a, .int .i64 t.b]] w fun e w' => e = .returned (.bool true) ∧ Below w.heap.size w w' := by
  have HB := fun V => hide (runBegun_any V)
  have HT := fun (V : World) (hV : Below w.heap.size w V) => hide (Times_any O on oc rt en st C cc cs t V (hC.below hV) hl)
  have HS := fun (V : World) (hV : Below w.heap.size w V) => hide (TimesOf_any O on oc rt en st C cc cs t V (hC.below hV) hl)
  generalize cntOf cs t = z at *
  clear hC hl
  go_enter Try.func9, Try.ntmps9
  go_upto_region 1 with fail
  obtain ⟨W5, hW5⟩ : ∃ W5, W5 = (w.alloc (.cells #[.slice O on oc, .int .i64 rt, .bool en, .int .i64 st, .slice C cs.length cc] 68)).alloc (.cells #[.int .i64 t.op, .int .i64 t.a, .int .i64 t.b] 47) := ⟨_, rfl⟩
  have b1 : Blk W5 w.heap.size 68 #[.slice O on oc, .int .i64 rt, .bool en, .int .i64 st, .slice C cs.length cc] := by rw [hW5]; exact (by repeat (first | ((with_reducible refine Blk.new' ?_); exact (by (try simp only [World.size_alloc, World.size_setCell, World.size_drew, World.heap_drewN]); (first | done | omega | ((try simp only [World.size_alloc, World.size_setCell, World.size_drew, World.heap_drewN] at *); omega)))) | (with_reducible refine Blk.drew ?_) | (with_reducible refine Blk.drewN ?_ _) | (with_reducible refine Blk.alloc ?_ _) | with_reducible assumption))
  have b2 : Blk W5 (w.heap.size + 1) 47 #[.int .i64 t.op, .int .i64 t.a, .int .i64 t.b] := by rw [hW5]; exact (by repeat (first | ((with_reducible refine Blk.new' ?_); exact (by (try simp only [World.size_alloc, World.size_setCell, World.size_drew, World.heap_drewN]); (first | done | omega | ((try simp only [World.size_alloc, World.size_setCell, World.size_drew, World.heap_drewN] at *); omega)))) | (with_reducible refine Blk.drew ?_) | (with_reducible refine Blk.drewN ?_ _) | (with_reducible refine Blk.alloc ?_ _) | with_reducible assumption))
  have hB0 : Below w.heap.size w W5 := by rw [hW5]; exact (by repeat (first | (with_reducible exact Below.refl _ _) | (with_reducible assumption) | (with_reducible refine Below.drew ?_) | (with_reducible refine below_drewN ?_ _) | (with_reducible refine Below.alloc ?_ (by (try simp only [World.size_alloc, World.size_setCell, World.size_drew, World.heap_drewN]); (first | done | omega | ((try simp only [World.size_alloc, World.size_setCell, World.size_drew, World.heap_drewN] at *); omega))) _) | (with_reducible refine Below.setCell ?_ (by (try simp only [World.size_alloc, World.size_setCell, World.size_drew, World.heap_drewN]); (first | done | omega | ((try simp only [World.size_alloc, World.size_setCell, World.size_drew, World.heap_drewN] at *); omega))) _) | (with_reducible refine Below.trans ?_ (Below.mono (by assumption) (by (try simp only [World.size_alloc, World.size_setCell, World.size_drew, World.heap_drewN]); (first | done | omega | ((try simp only [World.size_alloc, World.size_setCell, World.size_drew, World.heap_drewN] at *); omega)))))))
  rw [← hW5]
  clear hW5
  -- REGION1
  have c0 := b1.cell 0
  have c1 := b1.cell 1
  have c2 := b1.cell 2
  have c3 := b1.cell 3
  have c4 := b1.cell 4
  have d0 := b2.cell 0
  have d1 := b2.cell 1
  have d2 := b2.cell 2
  have l1 := b1.lt
  have l2 := b2.lt
  simp only [List.getElem?_toArray, List.getElem?_cons_zero, List.getElem?_cons_succ] at c0 c1 c2 c3 c4 d0 d1 d2
  have hz0 := hB0.size
  clear b1 b2
  refine wp_region_held_drew (S := fun w' => w'.cell? ⟨w.heap.size, 0, none⟩ = some (.slice O on oc) ∧ w'.cell? ⟨w.heap.size, 1, none⟩ = some (.int .i64 rt) ∧ w'.cell? ⟨w.heap.size, 2, none⟩ = some (.bool en) ∧ w'.cell? ⟨w.heap.size, 3, none⟩ = some (.int .i64 st) ∧ w'.cell? ⟨w.heap.size, 4, none⟩ = some (.slice C cs.length cc) ∧ w'.cell? ⟨w.heap.size + 1, 0, none⟩ = some (.int .i64 t.op) ∧ w'.cell? ⟨w.heap.size + 1, 1, none⟩ = some (.int .i64 t.a) ∧ w'.cell? ⟨w.heap.size + 1, 2, none⟩ = some (.int .i64 t.b)) (by kernel_rfl) ⟨c0, c1, c2, c3, c4, d0, d1, d2⟩ ?_
  intro hHeld
  have hC0 : Below W5.heap.size W5 W5.drew := (Below.refl _ _).drew
  refine wpAnyH_ready (rs := [0]) (by kernel_rfl) (by simp) ?_
  refine AllReadyH.cons rfl (fun K hK => ?_) AllReadyH.nil
  have HK0 := hide hK
  clear hK
  go_simp
  go_at_call 45
  refine ((HB _).out).mono ?_
  rintro e W6 ⟨rfl, hbW6⟩
  have hC6 : Below W5.heap.size W5 W6 := hC0.trans (hbW6.mono hC0.size)
  clear hHeld
  have hHeld : W6.cell? ⟨w.heap.size, 0, none⟩ = some (.slice O on oc) ∧ W6.cell? ⟨w.heap.size, 1, none⟩ = some (.int .i64 rt) ∧ W6.cell? ⟨w.heap.size, 2, none⟩ = some (.bool en) ∧ W6.cell? ⟨w.heap.size, 3, none⟩ = some (.int .i64 st) ∧ W6.cell? ⟨w.heap.size, 4, none⟩ = some (.slice C cs.length cc) ∧ W6.cell? ⟨w.heap.size + 1, 0, none⟩ = some (.int .i64 t.op) ∧ W6.cell? ⟨w.heap.size + 1, 1, none⟩ = some (.int .i64 t.a) ∧ W6.cell? ⟨w.heap.size + 1, 2, none⟩ = some (.int .i64 t.b) := ⟨((bcell hC6).1 _ _ l1).trans c0, ((bcell hC6).1 _ _ l1).trans c1, ((bcell hC6).1 _ _ l1).trans c2, ((bcell hC6).1 _ _ l1).trans c3, ((bcell hC6).1 _ _ l1).trans c4, ((bcell hC6).1 _ _ l2).trans d0, ((bcell hC6).1 _ _ l2).trans d1, ((bcell hC6).1 _ _ l2).trans d2⟩
  refine Shut.out HK0.out _ _ hHeld (fun _ => ?_)
  try simp only [List.getElem_toArray, List.getElem_cons_zero, List.getElem_cons_succ, Act.put, List.setIfInBounds_toArray, List.set_cons_zero, List.set_cons_succ]
  clear HK0
  refine wpAnyH_take (i := 1) (v := ?_) rfl (by kernel_rfl) (by kernel_rfl) (by kernel_rfl) (fun _ _ _ h => h) (Or.inl ⟨by rfl, ?_⟩) hHeld ?_; rotate_left; (focus (intro w' hSw; (try dsimp only at hSw); (try go_split_ands); go_simp; try with_reducible rfl))
  try simp only [List.getElem_toArray, List.getElem_cons_zero, List.getElem_cons_succ, Act.put, List.setIfInBounds_toArray, List.set_cons_zero, List.set_cons_succ]
  refine wpAnyH_take (i := 2) (v := ?_) rfl (by kernel_rfl) (by kernel_rfl) (by kernel_rfl) (fun _ _ _ h => h) (Or.inl ⟨by rfl, ?_⟩) hHeld ?_; rotate_left; (focus (intro w' hSw; (try dsimp only at hSw); (try go_split_ands); go_simp; try with_reducible rfl))
  try simp only [List.getElem_toArray, List.getElem_cons_zero, List.getElem_cons_succ, Act.put, List.setIfInBounds_toArray, List.set_cons_zero, List.set_cons_succ]
  refine wpAnyH_take (i := 3) (v := ?_) rfl (by kernel_rfl) (by kernel_rfl) (by kernel_rfl) (fun _ _ _ h => h) (Or.inl ⟨by rfl, ?_⟩) hHeld ?_; rotate_left; (focus (intro w' hSw; (try dsimp only at hSw); (try go_split_ands); go_simp; try with_reducible rfl))
  try simp only [List.getElem_toArray, List.getElem_cons_zero, List.getElem_cons_succ, Act.put, List.setIfInBounds_toArray, List.set_cons_zero, List.set_cons_succ]
  refine wpAnyH_take (i := 5) (v := ?_) rfl (by kernel_rfl) (by kernel_rfl) (by kernel_rfl) (fun _ _ _ h => h) (Or.inl ⟨by rfl, ?_⟩) hHeld ?_; rotate_left; (focus (intro w' hSw; (try dsimp only at hSw); (try go_split_ands); go_simp; try with_reducible rfl))
  try simp only [List.getElem_toArray, List.getElem_cons_zero, List.getElem_cons_succ, Act.put, List.setIfInBounds_toArray, List.set_cons_zero, List.set_cons_succ]
  refine wpAnyH_take (i := 6) (v := ?_) rfl (by kernel_rfl) (by kernel_rfl) (by kernel_rfl) (fun _ _ _ h => h) (Or.inl ⟨by rfl, ?_⟩) hHeld ?_; rotate_left; (focus (intro w' hSw; (try dsimp only at hSw); (try go_split_ands); go_simp; try with_reducible rfl))
  try simp only [List.getElem_toArray, List.getElem_cons_zero, List.getElem_cons_succ, Act.put, List.setIfInBounds_toArray, List.set_cons_zero, List.set_cons_succ]
  refine wpAnyH_ready (rs := [4]) (by kernel_rfl) (by simp) ?_
  refine AllReadyH.cons rfl (fun K hK => ?_) AllReadyH.nil
  have HK4 := hide hK
  clear hK
  go_simp
  go_at_call 47
  refine ((HT _ (hB0.trans (hC6.mono hz0))).out).mono ?_
  rintro e W7 ⟨rfl, hbW7⟩
  have hC7 : Below W5.heap.size W5 W7 := hC6.trans (hbW7.mono hC6.size)
  clear hHeld
  have hHeld : W7.cell? ⟨w.heap.size, 0, none⟩ = some (.slice O on oc) ∧ W7.cell? ⟨w.heap.size, 1, none⟩ = some (.int .i64 rt) ∧ W7.cell? ⟨w.heap.size, 2, none⟩ = some (.bool en) ∧ W7.cell? ⟨w.heap.size, 3, none⟩ = some (.int .i64 st) ∧ W7.cell? ⟨w.heap.size, 4, none⟩ = some (.slice C cs.length cc) ∧ W7.cell? ⟨w.heap.size + 1, 0, none⟩ = some (.int .i64 t.op) ∧ W7.cell? ⟨w.heap.size + 1, 1, none⟩ = some (.int .i64 t.a) ∧ W7.cell? ⟨w.heap.size + 1, 2, none⟩ = some (.int .i64 t.b) := ⟨((bcell hC7).1 _ _ l1).trans c0, ((bcell hC7).1 _ _ l1).trans c1, ((bcell hC7).1 _ _ l1).trans c2, ((bcell hC7).1 _ _ l1).trans c3, ((bcell hC7).1 _ _ l1).trans c4, ((bcell hC7).1 _ _ l2).trans d0, ((bcell hC7).1 _ _ l2).trans d1, ((bcell hC7).1 _ _ l2).trans d2⟩
  refine Shut.out HK4.out _ _ hHeld (fun _ => ?_)
  try simp only [List.getElem_toArray, List.getElem_cons_zero, List.getElem_cons_succ, Act.put, List.setIfInBounds_toArray, List.set_cons_zero, List.set_cons_succ]
  clear HK4
  refine wpAnyH_ready (rs := [7]) (by kernel_rfl) (by simp) ?_
  refine AllReadyH.cons rfl (fun K hK => ?_) AllReadyH.nil
  have HK7 := hide hK
  clear hK
  go_simp
  go_at_call 48
  refine ((HS _ (hB0.trans (hC7.mono hz0))).out).mono ?_
  rintro e W8 ⟨rfl, hbW8⟩
  have hC8 : Below W5.heap.size W5 W8 := hC7.trans (hbW8.mono hC7.size)
  clear hHeld
  have hHeld : W8.cell? ⟨w.heap.size, 0, none⟩ = some (.slice O on oc) ∧ W8.cell? ⟨w.heap.size, 1, none⟩ = some (.int .i64 rt) ∧ W8.cell? ⟨w.heap.size, 2, none⟩ = some (.bool en) ∧ W8.cell? ⟨w.heap.size, 3, none⟩ = some (.int .i64 st) ∧ W8.cell? ⟨w.heap.size, 4, none⟩ = some (.slice C cs.length cc) ∧ W8.cell? ⟨w.heap.size + 1, 0, none⟩ = some (.int .i64 t.op) ∧ W8.cell? ⟨w.heap.size + 1, 1, none⟩ = some (.int .i64 t.a) ∧ W8.cell? ⟨w.heap.size + 1, 2, none⟩ = some (.int .i64 t.b) := ⟨((bcell hC8).1 _ _ l1).trans c0, ((bcell hC8).1 _ _ l1).trans c1, ((bcell hC8).1 _ _ l1).trans c2, ((bcell hC8).1 _ _ l1).trans c3, ((bcell hC8).1 _ _ l1).trans c4, ((bcell hC8).1 _ _ l2).trans d0, ((bcell hC8).1 _ _ l2).trans d1, ((bcell hC8).1 _ _ l2).trans d2⟩
  refine Shut.out HK7.out _ _ hHeld (fun _ => ?_)
  try simp only [List.getElem_toArray, List.getElem_cons_zero, List.getElem_cons_succ, Act.put, List.setIfInBounds_toArray, List.set_cons_zero, List.set_cons_succ]
  clear HK7
  refine wpAnyH_take (i := 8) (v := ?_) rfl (by kernel_rfl) (by kernel_rfl) (by kernel_rfl) (fun _ _ _ h => h) (Or.inl ⟨by rfl, ?_⟩) hHeld ?_; rotate_left; (focus (intro w' hSw; (try dsimp only at hSw); (try go_split_ands); go_simp; try with_reducible rfl))
  try simp only [List.getElem_toArray, List.getElem_cons_zero, List.getElem_cons_succ, Act.put, List.setIfInBounds_toArray, List.set_cons_zero, List.set_cons_succ]
  refine wpAnyH_take (i := 9) (v := ?_) rfl (by kernel_rfl) (by kernel_rfl) (by kernel_rfl) (fun _ _ _ h => h) (Or.inl ⟨by rfl, ?_⟩) hHeld ?_; rotate_left; (focus (intro w' hSw; (try dsimp only at hSw); (try go_split_ands); go_simp; try with_reducible rfl))
  try simp only [List.getElem_toArray, List.getElem_cons_zero, List.getElem_cons_succ, Act.put, List.setIfInBounds_toArray, List.set_cons_zero, List.set_cons_succ]
  refine wpAnyH_take (i := 10) (v := ?_) rfl (by kernel_rfl) (by kernel_rfl) (by kernel_rfl) (fun _ _ _ h => h) (Or.inl ⟨by rfl, ?_⟩) hHeld ?_; rotate_left; (focus (intro w' hSw; (try dsimp only at hSw); (try go_split_ands); go_simp; try with_reducible rfl))
  try simp only [List.getElem_toArray, List.getElem_cons_zero, List.getElem_cons_succ, Act.put, List.setIfInBounds_toArray, List.set_cons_zero, List.set_cons_succ]
  refine wpAnyH_done (by kernel_rfl) ?_ _
  go_wp2_with fail
  go_ret
  exact ⟨by simp, hB0.trans (hC8.mono hz0)⟩
end Go.Proofs.Ytmghkonmfbpjcaa
