/- Oth. -/
import Derived.Test.YtmghkonmfbpjcabGI
import Derived.Test.YtmghkonmfbpjcabGH
import Derived.Test.YtmghkonmfbpjcabGL
import Derived.Test.YtmghkonmfbpjcabGA
set_option linter.unusedVariables false
set_option linter.unusedSimpArgs false
namespace Go.Proofs.Ytmghkonmfbpjcab
section
open Go.RowKit
set_option maxHeartbeats 8000000
attribute [local irreducible] Row CRow madeCells NRow
set_option maxRecDepth 100000 in
theorem others_any {O1 O2 : Option Addr} {on1 oc1 on2 oc2 : Nat} {rt1 rt2 : Int} {en1 en2 : Bool} {st1 st2 : Int} {C1 C2 : Option Addr} {cs1 cs2 : List Ct} {cc1 cc2 : Nat} (t : Tm) (w : World) (hC1 : CtsAt w C1 cs1) (hC2 : CtsAt w C2 cs2) (hl1 : cs1.length ≤ maxLen) (hl2 : cs2.length ≤ maxLen) (ho1 : ∀ x ∈ cs1, x.1 ≠ t → cntOf cs2 x.1 = x.2) (ho2 : ∀ x ∈ cs2, x.1 ≠ t → cntOf cs1 x.1 = x.2) :
    Calls Try.prog 20 #[.agg #[.slice O1 on1 oc1, .int .i64 rt1, .bool en1, .int .i64 st1, .slice C1 cs1.length cc1], .agg #[.slice O2 on2 oc2, .int .i64 rt2, .bool en2, .int .i64 st2, .slice C2 cs2.length cc2], .agg #[.int .i64 t.op, .int .i64 t.a, .int .i64 t.b]] w fun e w' => e = .returned (.bool true) ∧ Below w.heap.size w w' := by
  have HT1 := fun (V : World) (hV : Below w.heap.size w V) (u : Tm) => hide (Times_any O1 on1 oc1 rt1 en1 st1 C1 cc1 cs1 u V (hC1.below hV) hl1)
  have HT2 := fun (V : World) (hV : Below w.heap.size w V) (u : Tm) => hide (Times_any O2 on2 oc2 rt2 en2 st2 C2 cc2 cs2 u V (hC2.below hV) hl2)
  have HC1 := hide (fun (V : World) (hV : Below w.heap.size w V) => hC1.below hV)
  have HC2 := hide (fun (V : World) (hV : Below w.heap.size w V) => hC2.below hV)
  have HO1 := hide ho1
  have HO2 := hide ho2
  unfold maxLen at hl1 hl2
  clear hC1 hC2 ho1 ho2
  have hgd := guardTerm
  go_enter Try.func20, Try.ntmps20
  go_wp2_with fail
  go_loopg [7] (cs1.length) (fun gk i wr => ∃ k : Nat, k ≤ cs1.length ∧ i = .int .i64 k ∧ gk = cs1.length - k ∧ Blk wr w.heap.size 33 #[.slice O1 on1 oc1, .int .i64 rt1, .bool en1, .int .i64 st1, .slice C1 cs1.length cc1] ∧ Blk wr (w.heap.size + 1) 33 #[.slice O2 on2 oc2, .int .i64 rt2, .bool en2, .int .i64 st2, .slice C2 cs2.length cc2] ∧ Blk wr (w.heap.size + 1 + 1) 42 #[.int .i64 t.op, .int .i64 t.a, .int .i64 t.b] ∧ Below w.heap.size w wr)
  case atStart => exact ⟨0, Nat.zero_le _, rfl, by omega, (by repeat (first | ((with_reducible refine Blk.new' ?_); exact (by (try simp only [Sz]); first | done | omega | (try simp only [Sz] at *); omega)) | (with_reducible refine Blk.drew ?_) | (with_reducible refine Blk.drewN ?_ _) | (with_reducible refine Blk.alloc ?_ _) | with_reducible assumption)), (by repeat (first | ((with_reducible refine Blk.new' ?_); exact (by (try simp only [Sz]); first | done | omega | (try simp only [Sz] at *); omega)) | (with_reducible refine Blk.drew ?_) | (with_reducible refine Blk.drewN ?_ _) | (with_reducible refine Blk.alloc ?_ _) | with_reducible assumption)), (by repeat (first | ((with_reducible refine Blk.new' ?_); exact (by (try simp only [Sz]); first | done | omega | (try simp only [Sz] at *); omega)) | (with_reducible refine Blk.drew ?_) | (with_reducible refine Blk.drewN ?_ _) | (with_reducible refine Blk.alloc ?_ _) | with_reducible assumption)), (by (with_reducible repeat first | apply Qa | assumption | apply Qb | apply Qc | apply Qd | apply Qe | refine Qf ?_ (by assumption) ?_); all_goals (try simp only [Sz]); first | done | omega | (try simp only [Sz] at *); omega)⟩
  case round =>
    obtain ⟨k, hk, rfl, hgk, hR1, hR2, hT, hB⟩ := hrel
    have Hgk := hide hgk
    clear hgk
    have a4 := hR1.cell 4
    have b0 := hR2.cell 0
    have b1 := hR2.cell 1
    have b2 := hR2.cell 2
    have b3 := hR2.cell 3
    have b4 := hR2.cell 4
    have t0 := hT.cell 0
    have t1 := hT.cell 1
    have t2 := hT.cell 2
    simp only [Yl] at a4 b0 b1 b2 b3 b4 t0 t1 t2
    have la := hR1.lt
    have lb := hR2.lt
    have lt_ := hT.lt
    have hz := hB.size
    by_cases hlt : k < cs1.length
    · obtain ⟨bc, oc', x, eC, hbc, hx, hxl⟩ := (HC1.out _ hB).get (k := k) hlt
      subst eC
      obtain ⟨x0, x1, x2, x3⟩ := hxl
      have k0 : (0 : Int) ≤ (k : Int) := by omega
      have k1 : (k : Int) < (cs1.length : Int) := by omega
      have hEq := fun W => run_eq_term x.1 t W
      unfold Tm.val at hEq
      have hO := HO1.out x (List.mem_of_getElem? hx)
      have hrr : Below wr.heap.size wr wr := Below.refl _ _
      clear hx
      go_upto_region 4 with fail
      go_cut [40] (fun s wx => s = .bool false ∧ Below wr.heap.size wr wx)
      case first =>
        cases hq : (x.1 == t)
        case true =>
          rw [hq] at hEq
          clear hq hO
          refine wp_region_held_drew (S := fun w' => w'.cell? ⟨w.heap.size, 4, none⟩ = some (.slice (some ⟨bc, oc', none⟩) cs1.length cc1) ∧ w'.cell? ⟨w.heap.size + 1, 0, none⟩ = some (.slice O2 on2 oc2) ∧ w'.cell? ⟨w.heap.size + 1, 1, none⟩ = some (.int .i64 rt2) ∧ w'.cell? ⟨w.heap.size + 1, 2, none⟩ = some (.bool en2) ∧ w'.cell? ⟨w.heap.size + 1, 3, none⟩ = some (.int .i64 st2) ∧ w'.cell? ⟨w.heap.size + 1, 4, none⟩ = some (.slice C2 cs2.length cc2) ∧ w'.cell? ⟨w.heap.size + 1 + 1, 0, none⟩ = some (.int .i64 t.op) ∧ w'.cell? ⟨w.heap.size + 1 + 1, 1, none⟩ = some (.int .i64 t.a) ∧ w'.cell? ⟨w.heap.size + 1 + 1, 2, none⟩ = some (.int .i64 t.b) ∧ w'.cell? ⟨bc, oc' + k * 4, none⟩ = some (.int .i64 x.1.op) ∧ w'.cell? ⟨bc, oc' + k * 4 + 1, none⟩ = some (.int .i64 x.1.a) ∧ w'.cell? ⟨bc, oc' + k * 4 + 2, none⟩ = some (.int .i64 x.1.b) ∧ w'.cell? ⟨bc, oc' + k * 4 + 3, none⟩ = some (.int .i64 x.2)) (by kernel_rfl) ⟨a4, b0, b1, b2, b3, b4, t0, t1, t2, x0, x1, x2, x3⟩ ?_
          intro hH
          have hC0 : Below wr.heap.size wr wr.drew := (Below.refl _ _).drew
          refine Up (fun _ _ _ _ _ => id) fun hP => ?_
          refine Vq 0 ?_ rfl (by kernel_rfl) hP (by rfl) ?r hH ?_; case r => intro w'; go_simp; try with_reducible rfl
          try simp only [Nm]
          refine Vi 1 ?_ rfl (by kernel_rfl) hP (by rfl) ?r hH ?_; case r => intro w' h; (try dsimp only at h); (try go_split_ands); go_simp; try with_reducible rfl
          try simp only [Nm]
          refine Vq 2 ?_ rfl (by kernel_rfl) hP (by rfl) ?r hH ?_; case r => intro w'; go_simp; try with_reducible rfl
          try simp only [Nm]
          refine Vq 3 ?_ rfl (by kernel_rfl) hP (by rfl) ?r hH ?_; case r => intro w'; go_simp; try with_reducible rfl
          try simp only [Nm]
          refine Vq 4 ?_ rfl (by kernel_rfl) hP (by rfl) ?r hH ?_; case r => intro w'; go_simp; try with_reducible rfl
          try simp only [Nm]
          refine Vi 5 ?_ rfl (by kernel_rfl) hP (by rfl) ?r hH ?_; case r => intro w' h; (try dsimp only at h); (try go_split_ands); go_simp; try with_reducible rfl
          try simp only [Nm]
          refine Vi 6 ?_ rfl (by kernel_rfl) hP (by rfl) ?r hH ?_; case r => intro w' h; (try dsimp only at h); (try go_split_ands); go_simp; try with_reducible rfl
          try simp only [Nm]
          refine Vq 7 ?_ rfl (by kernel_rfl) hP (by rfl) ?r hH ?_; case r => intro w'; go_simp; try with_reducible rfl
          try simp only [Nm]
          refine Vq 8 ?_ rfl (by kernel_rfl) hP (by rfl) ?r hH ?_; case r => intro w'; go_simp; try with_reducible rfl
          try simp only [Nm]
          refine Vn 9 rfl (by kernel_rfl) hP (by rfl) hH ?_
          try simp only [Nm]
          refine Vn 10 rfl (by kernel_rfl) hP (by rfl) hH ?_
          try simp only [Nm]
          refine Vn 11 rfl (by kernel_rfl) hP (by rfl) hH ?_
          try simp only [Nm]
          refine Vn 12 rfl (by kernel_rfl) hP (by rfl) hH ?_
          try simp only [Nm]
          refine Vn 13 rfl (by kernel_rfl) hP (by rfl) hH ?_
          try simp only [Nm]
          refine Vn 14 rfl (by kernel_rfl) hP (by rfl) hH ?_
          try simp only [Nm]
          refine Vn 15 rfl (by kernel_rfl) hP (by rfl) hH ?_
          try simp only [Nm]
          refine Vn 16 rfl (by kernel_rfl) hP (by rfl) hH ?_
          try simp only [Nm]
          refine Vn 17 rfl (by kernel_rfl) hP (by rfl) hH ?_
          try simp only [Nm]
          refine Vn 18 rfl (by kernel_rfl) hP (by rfl) hH ?_
          try simp only [Nm]
          refine Vn 19 rfl (by kernel_rfl) hP (by rfl) hH ?_
          try simp only [Nm]
          refine Vn 20 rfl (by kernel_rfl) hP (by rfl) hH ?_
          try simp only [Nm]
          refine Vn 21 rfl (by kernel_rfl) hP (by rfl) hH ?_
          try simp only [Nm]
          refine Vn 22 rfl (by kernel_rfl) hP (by rfl) hH ?_
          try simp only [Nm]
          refine Vn 23 rfl (by kernel_rfl) hP (by rfl) hH ?_
          try simp only [Nm]
          refine Vq 24 ?_ rfl (by kernel_rfl) hP (by rfl) ?r hH ?_; case r => intro w'; go_simp; try with_reducible rfl
          try simp only [Nm]
          refine wpAnyH_done (by kernel_rfl) ?_ _
          go_wp2_with fail
          go_meet
          go_tidy
          exact ⟨rfl, hC0⟩
        case false =>
          have hv := hO (by simpa using hq)
          have hn : (cntOf cs2 x.1 != x.2) = false := by simp [hv]
          have HTx := fun (V : World) (hV : Below wr.heap.size wr V) => HT2 V (hB.trans (hV.mono hz)) x.1
          rw [hq] at hEq
          clear hq hO hv
          refine wp_region_held_drew (S := fun w' => w'.cell? ⟨w.heap.size, 4, none⟩ = some (.slice (some ⟨bc, oc', none⟩) cs1.length cc1) ∧ w'.cell? ⟨w.heap.size + 1, 0, none⟩ = some (.slice O2 on2 oc2) ∧ w'.cell? ⟨w.heap.size + 1, 1, none⟩ = some (.int .i64 rt2) ∧ w'.cell? ⟨w.heap.size + 1, 2, none⟩ = some (.bool en2) ∧ w'.cell? ⟨w.heap.size + 1, 3, none⟩ = some (.int .i64 st2) ∧ w'.cell? ⟨w.heap.size + 1, 4, none⟩ = some (.slice C2 cs2.length cc2) ∧ w'.cell? ⟨w.heap.size + 1 + 1, 0, none⟩ = some (.int .i64 t.op) ∧ w'.cell? ⟨w.heap.size + 1 + 1, 1, none⟩ = some (.int .i64 t.a) ∧ w'.cell? ⟨w.heap.size + 1 + 1, 2, none⟩ = some (.int .i64 t.b) ∧ w'.cell? ⟨bc, oc' + k * 4, none⟩ = some (.int .i64 x.1.op) ∧ w'.cell? ⟨bc, oc' + k * 4 + 1, none⟩ = some (.int .i64 x.1.a) ∧ w'.cell? ⟨bc, oc' + k * 4 + 2, none⟩ = some (.int .i64 x.1.b) ∧ w'.cell? ⟨bc, oc' + k * 4 + 3, none⟩ = some (.int .i64 x.2)) (by kernel_rfl) ⟨a4, b0, b1, b2, b3, b4, t0, t1, t2, x0, x1, x2, x3⟩ ?_
          intro hH
          have hC0 : Below wr.heap.size wr wr.drew := (Below.refl _ _).drew
          refine Up (fun _ _ _ _ _ => id) fun hP => ?_
          refine Vq 0 ?_ rfl (by kernel_rfl) hP (by rfl) ?r hH ?_; case r => intro w'; go_simp; try with_reducible rfl
          try simp only [Nm]
          refine Vi 1 ?_ rfl (by kernel_rfl) hP (by rfl) ?r hH ?_; case r => intro w' h; (try dsimp only at h); (try go_split_ands); go_simp; try with_reducible rfl
          try simp only [Nm]
          refine Vq 2 ?_ rfl (by kernel_rfl) hP (by rfl) ?r hH ?_; case r => intro w'; go_simp; try with_reducible rfl
          try simp only [Nm]
          refine Vq 3 ?_ rfl (by kernel_rfl) hP (by rfl) ?r hH ?_; case r => intro w'; go_simp; try with_reducible rfl
          try simp only [Nm]
          refine Vq 4 ?_ rfl (by kernel_rfl) hP (by rfl) ?r hH ?_; case r => intro w'; go_simp; try with_reducible rfl
          try simp only [Nm]
          refine Vi 5 ?_ rfl (by kernel_rfl) hP (by rfl) ?r hH ?_; case r => intro w' h; (try dsimp only at h); (try go_split_ands); go_simp; try with_reducible rfl
          try simp only [Nm]
          refine Vi 6 ?_ rfl (by kernel_rfl) hP (by rfl) ?r hH ?_; case r => intro w' h; (try dsimp only at h); (try go_split_ands); go_simp; try with_reducible rfl
          try simp only [Nm]
          refine Vq 7 ?_ rfl (by kernel_rfl) hP (by rfl) ?r hH ?_; case r => intro w'; go_simp; try with_reducible rfl
          try simp only [Nm]
          refine Vq 8 ?_ rfl (by kernel_rfl) hP (by rfl) ?r hH ?_; case r => intro w'; go_simp; try with_reducible rfl
          try simp only [Nm]
          refine Vi 9 ?_ rfl (by kernel_rfl) hP (by rfl) ?r hH ?_; case r => intro w' h; (try dsimp only at h); (try go_split_ands); go_simp; try with_reducible rfl
          try simp only [Nm]
          refine Vq 10 ?_ rfl (by kernel_rfl) hP (by rfl) ?r hH ?_; case r => intro w'; go_simp; try with_reducible rfl
          try simp only [Nm]
          refine Vi 11 ?_ rfl (by kernel_rfl) hP (by rfl) ?r hH ?_; case r => intro w' h; (try dsimp only at h); (try go_split_ands); go_simp; try with_reducible rfl
          try simp only [Nm]
          refine Vq 12 ?_ rfl (by kernel_rfl) hP (by rfl) ?r hH ?_; case r => intro w'; go_simp; try with_reducible rfl
          try simp only [Nm]
          refine Vq 13 ?_ rfl (by kernel_rfl) hP (by rfl) ?r hH ?_; case r => intro w'; go_simp; try with_reducible rfl
          try simp only [Nm]
          refine Vq 14 ?_ rfl (by kernel_rfl) hP (by rfl) ?r hH ?_; case r => intro w'; go_simp; try with_reducible rfl
          try simp only [Nm]
          refine Vi 15 ?_ rfl (by kernel_rfl) hP (by rfl) ?r hH ?_; case r => intro w' h; (try dsimp only at h); (try go_split_ands); go_simp; try with_reducible rfl
          try simp only [Nm]
          refine Vq 17 ?_ rfl (by kernel_rfl) hP (by rfl) ?r hH ?_; case r => intro w'; go_simp; try with_reducible rfl
          try simp only [Nm]
          refine Vi 18 ?_ rfl (by kernel_rfl) hP (by rfl) ?r hH ?_; case r => intro w' h; (try dsimp only at h); (try go_split_ands); go_simp; try with_reducible rfl
          try simp only [Nm]
          refine Vq 19 ?_ rfl (by kernel_rfl) hP (by rfl) ?r hH ?_; case r => intro w'; go_simp; try with_reducible rfl
          try simp only [Nm]
          refine Vq 20 ?_ rfl (by kernel_rfl) hP (by rfl) ?r hH ?_; case r => intro w'; go_simp; try with_reducible rfl
          try simp only [Nm]
          refine Vq 21 ?_ rfl (by kernel_rfl) hP (by rfl) ?r hH ?_; case r => intro w'; go_simp; try with_reducible rfl
          try simp only [Nm]
          refine Vi 22 ?_ rfl (by kernel_rfl) hP (by rfl) ?r hH ?_; case r => intro w' h; (try dsimp only at h); (try go_split_ands); go_simp; try with_reducible rfl
          try simp only [Nm]
          refine Rd 16 (by kernel_rfl) rfl (fun K hK => ?_)
          have HK16 := hide hK
          clear hK
          go_simp
          go_at_call 19
          refine ((HTx _ hC0).out).mono ?_
          rintro e V1 ⟨rfl, hbV1⟩
          have hC1 : Below wr.heap.size wr V1 := hC0.trans (hbV1.mono hC0.size)
          clear hH
          have hH : V1.cell? ⟨w.heap.size, 4, none⟩ = some (.slice (some ⟨bc, oc', none⟩) cs1.length cc1) ∧ V1.cell? ⟨w.heap.size + 1, 0, none⟩ = some (.slice O2 on2 oc2) ∧ V1.cell? ⟨w.heap.size + 1, 1, none⟩ = some (.int .i64 rt2) ∧ V1.cell? ⟨w.heap.size + 1, 2, none⟩ = some (.bool en2) ∧ V1.cell? ⟨w.heap.size + 1, 3, none⟩ = some (.int .i64 st2) ∧ V1.cell? ⟨w.heap.size + 1, 4, none⟩ = some (.slice C2 cs2.length cc2) ∧ V1.cell? ⟨w.heap.size + 1 + 1, 0, none⟩ = some (.int .i64 t.op) ∧ V1.cell? ⟨w.heap.size + 1 + 1, 1, none⟩ = some (.int .i64 t.a) ∧ V1.cell? ⟨w.heap.size + 1 + 1, 2, none⟩ = some (.int .i64 t.b) ∧ V1.cell? ⟨bc, oc' + k * 4, none⟩ = some (.int .i64 x.1.op) ∧ V1.cell? ⟨bc, oc' + k * 4 + 1, none⟩ = some (.int .i64 x.1.a) ∧ V1.cell? ⟨bc, oc' + k * 4 + 2, none⟩ = some (.int .i64 x.1.b) ∧ V1.cell? ⟨bc, oc' + k * 4 + 3, none⟩ = some (.int .i64 x.2) := ⟨((bcell hC1).1 _ _ la).trans a4, ((bcell hC1).1 _ _ lb).trans b0, ((bcell hC1).1 _ _ lb).trans b1, ((bcell hC1).1 _ _ lb).trans b2, ((bcell hC1).1 _ _ lb).trans b3, ((bcell hC1).1 _ _ lb).trans b4, ((bcell hC1).1 _ _ lt_).trans t0, ((bcell hC1).1 _ _ lt_).trans t1, ((bcell hC1).1 _ _ lt_).trans t2, ((bcell hC1).1 _ _ hbc).trans x0, ((bcell hC1).1 _ _ hbc).trans x1, ((bcell hC1).1 _ _ hbc).trans x2, ((bcell hC1).1 _ _ hbc).trans x3⟩
          refine Shut.out HK16.out _ _ hH (fun _ => ?_)
          try simp only [Nm]
          clear HK16
          refine Vq 23 ?_ rfl (by kernel_rfl) hP (by rfl) ?r hH ?_; case r => intro w'; go_simp; try with_reducible rfl
          try simp only [Nm]
          try simp only [hn]
          refine Vq 24 ?_ rfl (by kernel_rfl) hP (by rfl) ?r hH ?_; case r => intro w'; go_simp; try with_reducible rfl
          try simp only [Nm]
          refine wpAnyH_done (by kernel_rfl) ?_ _
          go_wp2_with fail
          go_meet
          go_tidy
          exact ⟨rfl, hC1⟩
      case rest =>
        obtain ⟨rfl, hbc'⟩ := hcut
        replace hR1 := hR1.below hbc' hR1.lt
        replace hR2 := hR2.below hbc' hR2.lt
        replace hT := hT.below hbc' hT.lt
        replace hB := hB.trans (hbc'.mono hB.size)
        go_wp2_with fail
        go_roundg (cs1.length - (k + 1))
        case measure => have := Hgk.out; omega
        case rel => exact ⟨k + 1, by omega, by go_num, rfl, hR1, hR2, hT, hB⟩
    · have hkk : k = cs1.length := by omega
      subst hkk
      clear a4 b0 b1 b2 b3 b4 t0 t1 t2 la lb lt_
      have r14 := hR1.cell 4
      have r24 := hR2.cell 4
      simp only [Yl] at r14 r24
      have l1 := hR1.lt
      have l2 := hR2.lt
      go_wp2_with fail
      go_loopg [8] (cs2.length) (fun gk i wr => ∃ k : Nat, k ≤ cs2.length ∧ i = .int .i64 k ∧ gk = cs2.length - k ∧ Blk wr w.heap.size 33 #[.slice O1 on1 oc1, .int .i64 rt1, .bool en1, .int .i64 st1, .slice C1 cs1.length cc1] ∧ Blk wr (w.heap.size + 1) 33 #[.slice O2 on2 oc2, .int .i64 rt2, .bool en2, .int .i64 st2, .slice C2 cs2.length cc2] ∧ Blk wr (w.heap.size + 1 + 1) 42 #[.int .i64 t.op, .int .i64 t.a, .int .i64 t.b] ∧ Below w.heap.size w wr)
      case atStart => exact ⟨0, Nat.zero_le _, rfl, by omega, hR1, hR2, hT, hB⟩
      case round =>
        obtain ⟨k, hk, rfl, hgk, hR1, hR2, hT, hB⟩ := hrel
        have Hgk := hide hgk
        clear hgk
        have a4 := hR2.cell 4
        have b0 := hR1.cell 0
        have b1 := hR1.cell 1
        have b2 := hR1.cell 2
        have b3 := hR1.cell 3
        have b4 := hR1.cell 4
        have t0 := hT.cell 0
        have t1 := hT.cell 1
        have t2 := hT.cell 2
        simp only [Yl] at a4 b0 b1 b2 b3 b4 t0 t1 t2
        have la := hR2.lt
        have lb := hR1.lt
        have lt_ := hT.lt
        have hz := hB.size
        by_cases hlt : k < cs2.length
        · obtain ⟨bc, oc', x, eC, hbc, hx, hxl⟩ := (HC2.out _ hB).get (k := k) hlt
          subst eC
          obtain ⟨x0, x1, x2, x3⟩ := hxl
          have k0 : (0 : Int) ≤ (k : Int) := by omega
          have k1 : (k : Int) < (cs2.length : Int) := by omega
          have hEq := fun W => run_eq_term x.1 t W
          unfold Tm.val at hEq
          have hO := HO2.out x (List.mem_of_getElem? hx)
          have hrr : Below wr.heap.size wr wr := Below.refl _ _
          clear hx
          go_upto_region 9 with fail
          go_cut [72] (fun s wx => s = .bool false ∧ Below wr.heap.size wr wx)
          case first =>
            cases hq : (x.1 == t)
            case true =>
              rw [hq] at hEq
              clear hq hO
              refine wp_region_held_drew (S := fun w' => w'.cell? ⟨w.heap.size + 1, 4, none⟩ = some (.slice (some ⟨bc, oc', none⟩) cs2.length cc2) ∧ w'.cell? ⟨w.heap.size, 0, none⟩ = some (.slice O1 on1 oc1) ∧ w'.cell? ⟨w.heap.size, 1, none⟩ = some (.int .i64 rt1) ∧ w'.cell? ⟨w.heap.size, 2, none⟩ = some (.bool en1) ∧ w'.cell? ⟨w.heap.size, 3, none⟩ = some (.int .i64 st1) ∧ w'.cell? ⟨w.heap.size, 4, none⟩ = some (.slice C1 cs1.length cc1) ∧ w'.cell? ⟨w.heap.size + 1 + 1, 0, none⟩ = some (.int .i64 t.op) ∧ w'.cell? ⟨w.heap.size + 1 + 1, 1, none⟩ = some (.int .i64 t.a) ∧ w'.cell? ⟨w.heap.size + 1 + 1, 2, none⟩ = some (.int .i64 t.b) ∧ w'.cell? ⟨bc, oc' + k * 4, none⟩ = some (.int .i64 x.1.op) ∧ w'.cell? ⟨bc, oc' + k * 4 + 1, none⟩ = some (.int .i64 x.1.a) ∧ w'.cell? ⟨bc, oc' + k * 4 + 2, none⟩ = some (.int .i64 x.1.b) ∧ w'.cell? ⟨bc, oc' + k * 4 + 3, none⟩ = some (.int .i64 x.2)) (by kernel_rfl) ⟨a4, b0, b1, b2, b3, b4, t0, t1, t2, x0, x1, x2, x3⟩ ?_
              intro hH
              have hC0 : Below wr.heap.size wr wr.drew := (Below.refl _ _).drew
              refine Up (fun _ _ _ _ _ => id) fun hP => ?_
              refine Vq 0 ?_ rfl (by kernel_rfl) hP (by rfl) ?r hH ?_; case r => intro w'; go_simp; try with_reducible rfl
              try simp only [Nm]
              refine Vi 1 ?_ rfl (by kernel_rfl) hP (by rfl) ?r hH ?_; case r => intro w' h; (try dsimp only at h); (try go_split_ands); go_simp; try with_reducible rfl
              try simp only [Nm]
              refine Vq 2 ?_ rfl (by kernel_rfl) hP (by rfl) ?r hH ?_; case r => intro w'; go_simp; try with_reducible rfl
              try simp only [Nm]
              refine Vq 3 ?_ rfl (by kernel_rfl) hP (by rfl) ?r hH ?_; case r => intro w'; go_simp; try with_reducible rfl
              try simp only [Nm]
              refine Vq 4 ?_ rfl (by kernel_rfl) hP (by rfl) ?r hH ?_; case r => intro w'; go_simp; try with_reducible rfl
              try simp only [Nm]
              refine Vi 5 ?_ rfl (by kernel_rfl) hP (by rfl) ?r hH ?_; case r => intro w' h; (try dsimp only at h); (try go_split_ands); go_simp; try with_reducible rfl
              try simp only [Nm]
              refine Vi 6 ?_ rfl (by kernel_rfl) hP (by rfl) ?r hH ?_; case r => intro w' h; (try dsimp only at h); (try go_split_ands); go_simp; try with_reducible rfl
              try simp only [Nm]
              refine Vq 7 ?_ rfl (by kernel_rfl) hP (by rfl) ?r hH ?_; case r => intro w'; go_simp; try with_reducible rfl
              try simp only [Nm]
              refine Vq 8 ?_ rfl (by kernel_rfl) hP (by rfl) ?r hH ?_; case r => intro w'; go_simp; try with_reducible rfl
              try simp only [Nm]
              refine Vn 9 rfl (by kernel_rfl) hP (by rfl) hH ?_
              try simp only [Nm]
              refine Vn 10 rfl (by kernel_rfl) hP (by rfl) hH ?_
              try simp only [Nm]
              refine Vn 11 rfl (by kernel_rfl) hP (by rfl) hH ?_
              try simp only [Nm]
              refine Vn 12 rfl (by kernel_rfl) hP (by rfl) hH ?_
              try simp only [Nm]
              refine Vn 13 rfl (by kernel_rfl) hP (by rfl) hH ?_
              try simp only [Nm]
              refine Vn 14 rfl (by kernel_rfl) hP (by rfl) hH ?_
              try simp only [Nm]
              refine Vn 15 rfl (by kernel_rfl) hP (by rfl) hH ?_
              try simp only [Nm]
              refine Vn 16 rfl (by kernel_rfl) hP (by rfl) hH ?_
              try simp only [Nm]
              refine Vn 17 rfl (by kernel_rfl) hP (by rfl) hH ?_
              try simp only [Nm]
              refine Vn 18 rfl (by kernel_rfl) hP (by rfl) hH ?_
              try simp only [Nm]
              refine Vn 19 rfl (by kernel_rfl) hP (by rfl) hH ?_
              try simp only [Nm]
              refine Vn 20 rfl (by kernel_rfl) hP (by rfl) hH ?_
              try simp only [Nm]
              refine Vn 21 rfl (by kernel_rfl) hP (by rfl) hH ?_
              try simp only [Nm]
              refine Vn 22 rfl (by kernel_rfl) hP (by rfl) hH ?_
              try simp only [Nm]
              refine Vn 23 rfl (by kernel_rfl) hP (by rfl) hH ?_
              try simp only [Nm]
              refine Vq 24 ?_ rfl (by kernel_rfl) hP (by rfl) ?r hH ?_; case r => intro w'; go_simp; try with_reducible rfl
              try simp only [Nm]
              refine wpAnyH_done (by kernel_rfl) ?_ _
              go_wp2_with fail
              go_meet
              go_tidy
              exact ⟨rfl, hC0⟩
            case false =>
              have hv := hO (by simpa using hq)
              have hn : (cntOf cs1 x.1 != x.2) = false := by simp [hv]
              have HTx := fun (V : World) (hV : Below wr.heap.size wr V) => HT1 V (hB.trans (hV.mono hz)) x.1
              rw [hq] at hEq
              clear hq hO hv
              refine wp_region_held_drew (S := fun w' => w'.cell? ⟨w.heap.size + 1, 4, none⟩ = some (.slice (some ⟨bc, oc', none⟩) cs2.length cc2) ∧ w'.cell? ⟨w.heap.size, 0, none⟩ = some (.slice O1 on1 oc1) ∧ w'.cell? ⟨w.heap.size, 1, none⟩ = some (.int .i64 rt1) ∧ w'.cell? ⟨w.heap.size, 2, none⟩ = some (.bool en1) ∧ w'.cell? ⟨w.heap.size, 3, none⟩ = some (.int .i64 st1) ∧ w'.cell? ⟨w.heap.size, 4, none⟩ = some (.slice C1 cs1.length cc1) ∧ w'.cell? ⟨w.heap.size + 1 + 1, 0, none⟩ = some (.int .i64 t.op) ∧ w'.cell? ⟨w.heap.size + 1 + 1, 1, none⟩ = some (.int .i64 t.a) ∧ w'.cell? ⟨w.heap.size + 1 + 1, 2, none⟩ = some (.int .i64 t.b) ∧ w'.cell? ⟨bc, oc' + k * 4, none⟩ = some (.int .i64 x.1.op) ∧ w'.cell? ⟨bc, oc' + k * 4 + 1, none⟩ = some (.int .i64 x.1.a) ∧ w'.cell? ⟨bc, oc' + k * 4 + 2, none⟩ = some (.int .i64 x.1.b) ∧ w'.cell? ⟨bc, oc' + k * 4 + 3, none⟩ = some (.int .i64 x.2)) (by kernel_rfl) ⟨a4, b0, b1, b2, b3, b4, t0, t1, t2, x0, x1, x2, x3⟩ ?_
              intro hH
              have hC0 : Below wr.heap.size wr wr.drew := (Below.refl _ _).drew
              refine Up (fun _ _ _ _ _ => id) fun hP => ?_
              refine Vq 0 ?_ rfl (by kernel_rfl) hP (by rfl) ?r hH ?_; case r => intro w'; go_simp; try with_reducible rfl
              try simp only [Nm]
              refine Vi 1 ?_ rfl (by kernel_rfl) hP (by rfl) ?r hH ?_; case r => intro w' h; (try dsimp only at h); (try go_split_ands); go_simp; try with_reducible rfl
              try simp only [Nm]
              refine Vq 2 ?_ rfl (by kernel_rfl) hP (by rfl) ?r hH ?_; case r => intro w'; go_simp; try with_reducible rfl
              try simp only [Nm]
              refine Vq 3 ?_ rfl (by kernel_rfl) hP (by rfl) ?r hH ?_; case r => intro w'; go_simp; try with_reducible rfl
              try simp only [Nm]
              refine Vq 4 ?_ rfl (by kernel_rfl) hP (by rfl) ?r hH ?_; case r => intro w'; go_simp; try with_reducible rfl
              try simp only [Nm]
              refine Vi 5 ?_ rfl (by kernel_rfl) hP (by rfl) ?r hH ?_; case r => intro w' h; (try dsimp only at h); (try go_split_ands); go_simp; try with_reducible rfl
              try simp only [Nm]
              refine Vi 6 ?_ rfl (by kernel_rfl) hP (by rfl) ?r hH ?_; case r => intro w' h; (try dsimp only at h); (try go_split_ands); go_simp; try with_reducible rfl
              try simp only [Nm]
              refine Vq 7 ?_ rfl (by kernel_rfl) hP (by rfl) ?r hH ?_; case r => intro w'; go_simp; try with_reducible rfl
              try simp only [Nm]
              refine Vq 8 ?_ rfl (by kernel_rfl) hP (by rfl) ?r hH ?_; case r => intro w'; go_simp; try with_reducible rfl
              try simp only [Nm]
              refine Vi 9 ?_ rfl (by kernel_rfl) hP (by rfl) ?r hH ?_; case r => intro w' h; (try dsimp only at h); (try go_split_ands); go_simp; try with_reducible rfl
              try simp only [Nm]
              refine Vq 10 ?_ rfl (by kernel_rfl) hP (by rfl) ?r hH ?_; case r => intro w'; go_simp; try with_reducible rfl
              try simp only [Nm]
              refine Vi 11 ?_ rfl (by kernel_rfl) hP (by rfl) ?r hH ?_; case r => intro w' h; (try dsimp only at h); (try go_split_ands); go_simp; try with_reducible rfl
              try simp only [Nm]
              refine Vq 12 ?_ rfl (by kernel_rfl) hP (by rfl) ?r hH ?_; case r => intro w'; go_simp; try with_reducible rfl
              try simp only [Nm]
              refine Vq 13 ?_ rfl (by kernel_rfl) hP (by rfl) ?r hH ?_; case r => intro w'; go_simp; try with_reducible rfl
              try simp only [Nm]
              refine Vq 14 ?_ rfl (by kernel_rfl) hP (by rfl) ?r hH ?_; case r => intro w'; go_simp; try with_reducible rfl
              try simp only [Nm]
              refine Vi 15 ?_ rfl (by kernel_rfl) hP (by rfl) ?r hH ?_; case r => intro w' h; (try dsimp only at h); (try go_split_ands); go_simp; try with_reducible rfl
              try simp only [Nm]
              refine Vq 17 ?_ rfl (by kernel_rfl) hP (by rfl) ?r hH ?_; case r => intro w'; go_simp; try with_reducible rfl
              try simp only [Nm]
              refine Vi 18 ?_ rfl (by kernel_rfl) hP (by rfl) ?r hH ?_; case r => intro w' h; (try dsimp only at h); (try go_split_ands); go_simp; try with_reducible rfl
              try simp only [Nm]
              refine Vq 19 ?_ rfl (by kernel_rfl) hP (by rfl) ?r hH ?_; case r => intro w'; go_simp; try with_reducible rfl
              try simp only [Nm]
              refine Vq 20 ?_ rfl (by kernel_rfl) hP (by rfl) ?r hH ?_; case r => intro w'; go_simp; try with_reducible rfl
              try simp only [Nm]
              refine Vq 21 ?_ rfl (by kernel_rfl) hP (by rfl) ?r hH ?_; case r => intro w'; go_simp; try with_reducible rfl
              try simp only [Nm]
              refine Vi 22 ?_ rfl (by kernel_rfl) hP (by rfl) ?r hH ?_; case r => intro w' h; (try dsimp only at h); (try go_split_ands); go_simp; try with_reducible rfl
              try simp only [Nm]
              refine Rd 16 (by kernel_rfl) rfl (fun K hK => ?_)
              have HK16 := hide hK
              clear hK
              go_simp
              go_at_call 19
              refine ((HTx _ hC0).out).mono ?_
              rintro e V1 ⟨rfl, hbV1⟩
              have hC1 : Below wr.heap.size wr V1 := hC0.trans (hbV1.mono hC0.size)
              clear hH
              have hH : V1.cell? ⟨w.heap.size + 1, 4, none⟩ = some (.slice (some ⟨bc, oc', none⟩) cs2.length cc2) ∧ V1.cell? ⟨w.heap.size, 0, none⟩ = some (.slice O1 on1 oc1) ∧ V1.cell? ⟨w.heap.size, 1, none⟩ = some (.int .i64 rt1) ∧ V1.cell? ⟨w.heap.size, 2, none⟩ = some (.bool en1) ∧ V1.cell? ⟨w.heap.size, 3, none⟩ = some (.int .i64 st1) ∧ V1.cell? ⟨w.heap.size, 4, none⟩ = some (.slice C1 cs1.length cc1) ∧ V1.cell? ⟨w.heap.size + 1 + 1, 0, none⟩ = some (.int .i64 t.op) ∧ V1.cell? ⟨w.heap.size + 1 + 1, 1, none⟩ = some (.int .i64 t.a) ∧ V1.cell? ⟨w.heap.size + 1 + 1, 2, none⟩ = some (.int .i64 t.b) ∧ V1.cell? ⟨bc, oc' + k * 4, none⟩ = some (.int .i64 x.1.op) ∧ V1.cell? ⟨bc, oc' + k * 4 + 1, none⟩ = some (.int .i64 x.1.a) ∧ V1.cell? ⟨bc, oc' + k * 4 + 2, none⟩ = some (.int .i64 x.1.b) ∧ V1.cell? ⟨bc, oc' + k * 4 + 3, none⟩ = some (.int .i64 x.2) := ⟨((bcell hC1).1 _ _ la).trans a4, ((bcell hC1).1 _ _ lb).trans b0, ((bcell hC1).1 _ _ lb).trans b1, ((bcell hC1).1 _ _ lb).trans b2, ((bcell hC1).1 _ _ lb).trans b3, ((bcell hC1).1 _ _ lb).trans b4, ((bcell hC1).1 _ _ lt_).trans t0, ((bcell hC1).1 _ _ lt_).trans t1, ((bcell hC1).1 _ _ lt_).trans t2, ((bcell hC1).1 _ _ hbc).trans x0, ((bcell hC1).1 _ _ hbc).trans x1, ((bcell hC1).1 _ _ hbc).trans x2, ((bcell hC1).1 _ _ hbc).trans x3⟩
              refine Shut.out HK16.out _ _ hH (fun _ => ?_)
              try simp only [Nm]
              clear HK16
              refine Vq 23 ?_ rfl (by kernel_rfl) hP (by rfl) ?r hH ?_; case r => intro w'; go_simp; try with_reducible rfl
              try simp only [Nm]
              try simp only [hn]
              refine Vq 24 ?_ rfl (by kernel_rfl) hP (by rfl) ?r hH ?_; case r => intro w'; go_simp; try with_reducible rfl
              try simp only [Nm]
              refine wpAnyH_done (by kernel_rfl) ?_ _
              go_wp2_with fail
              go_meet
              go_tidy
              exact ⟨rfl, hC1⟩
          case rest =>
            obtain ⟨rfl, hbc'⟩ := hcut
            replace hR1 := hR1.below hbc' hR1.lt
            replace hR2 := hR2.below hbc' hR2.lt
            replace hT := hT.below hbc' hT.lt
            replace hB := hB.trans (hbc'.mono hB.size)
            go_wp2_with fail
            go_roundg (cs2.length - (k + 1))
            case measure => have := Hgk.out; omega
            case rel => exact ⟨k + 1, by omega, by go_num, rfl, hR1, hR2, hT, hB⟩
        · have hkk : k = cs2.length := by omega
          subst hkk
          go_wp2_with fail
          go_ret
          exact ⟨rfl, hB⟩
end
end Go.Proofs.Ytmghkonmfbpjcab
