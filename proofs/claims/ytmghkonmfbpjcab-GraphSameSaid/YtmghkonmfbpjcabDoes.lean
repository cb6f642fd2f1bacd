/- does: does one program do what another one does? -/
import Derived.Test.YtmghkonmfbpjcabJE
import Derived.Test.YtmghkonmfbpjcabRunW
import Derived.Test.YtmghkonmfbpjcabJC
namespace Go.Proofs.Ytmghkonmfbpjcab
set_option linter.unusedVariables false
set_option linter.unusedSimpArgs false
open Go.RowKit
set_option maxHeartbeats 8000000
attribute [local irreducible] Row CRow madeCells

/-- what 'does' asks of three results -/
def Does (a b c : Rs) : Prop := (b.ended = true → a.ended = true ∧ a.ret = b.ret ∧ a.out = b.out) ∧ (∃ x, a.out = b.out ++ x) ∧ (a.ended = true → c.ended = true ∧ a.ret = c.ret ∧ a.out = c.out) ∧ (∃ x, c.out = a.out ++ x)
theorem Sim.does_ {l m : List Nd} {inp : List Int} {K : Nat} {Rel : Rn → Rn → Prop} (h : Sim l m inp K Rel) {regs regs' : Int} (hr : Rel (startR regs) (startR regs')) (hK : K ≤ m.length + 1) (n : Nat) :
    Does (runR regs l inp n).told (runR regs' m inp n).told (runR regs' m inp (n * (m.length + 1) + m.length)).told := by
  have hN : K * n ≤ n * (m.length + 1) + m.length := by
    have := Nat.mul_le_mul_right n hK
    rw [Nat.mul_comm (m.length + 1) n] at this
    omega
  exact h.does hr n _ hN
set_option maxRecDepth 100000 in
theorem does_any {regs regs' : Int} {A B : Option Addr} {l m : List Nd} {cap mcap : Nat} {Ai : Option Addr} {inp : List Int} {ci n : Nat} {w : World} (hml : l.length ≤ maxLen) (hmm : m.length ≤ 256) (hA : NodesAt w A l) (hB : NodesAt w B m) (hI : ValsAt w Ai (ints inp)) (hic : inp.length ≤ ci ∧ ci ≤ maxLen)
    (hcl : chk regs l = 0) (hcm : chk regs' m = 0) (hin : inp.length ≤ 256) (hn : n ≤ 400) (hD : Does (runR regs l inp n).told (runR regs' m inp n).told (runR regs' m inp (n * (m.length + 1) + m.length)).told) :
    Calls Try.prog 16 #[.agg #[.int .i64 regs, .slice A l.length cap], .agg #[.int .i64 regs', .slice B m.length mcap], .slice Ai inp.length ci, .int .i64 (n : Int)] w fun e w' => e = .returned (.bool true) ∧ Below w.heap.size w w' := by
  have hK : n * (m.length + 1) + m.length ≤ 131072 := by
    have : n * (m.length + 1) ≤ 400 * 257 := Nat.mul_le_mul hn (by omega)
    omega
  have e1 : IntKind.i64.wrap ((m.length : Int) + 1) = (m.length : Int) + 1 := by rw [IntKind.wrap_i64]; omega
  have e2 : IntKind.i64.wrap ((n : Int) * ((m.length : Int) + 1)) = ((n * (m.length + 1) : Nat) : Int) := by
    have : (n : Int) * ((m.length : Int) + 1) = ((n * (m.length + 1) : Nat) : Int) := by simp
    rw [this, IntKind.wrap_i64]; omega
  have e3 : IntKind.i64.wrap (((n * (m.length + 1) : Nat) : Int) + (m.length : Int)) = ((n * (m.length + 1) + m.length : Nat) : Int) := by rw [IntKind.wrap_i64]; omega
  have HR1 := fun (V : World) (hV : Below w.heap.size w V) => hide (Run_got (cap := cap) (n := n) (w := V) hml (hA.below hV) (hI.below hV) hic hcl hin (by omega))
  have HR2 := fun (V : World) (hV : Below w.heap.size w V) => hide (Run_got (cap := mcap) (n := n) (w := V) (by unfold maxLen; omega) (hB.below hV) (hI.below hV) hic hcm hin (by omega))
  have HR3 := fun (V : World) (hV : Below w.heap.size w V) => hide (Run_got (cap := mcap) (n := n * (m.length + 1) + m.length) (w := V) (by unfold maxLen; omega) (hB.below hV) (hI.below hV) hic hcm hin hK)
  generalize (runR regs l inp n).told = R1 at *
  generalize (runR regs' m inp n).told = R2 at *
  generalize (runR regs' m inp (n * (m.length + 1) + m.length)).told = R3 at *
  generalize hKK : n * (m.length + 1) + m.length = K at *
  generalize hNN : n * (m.length + 1) = N at *
  have HD := hide hD
  clear hA hB hI hcl hcm hD hKK hNN
  go_enter Try.func16, Try.ntmps16
  go_wp2_with fail
  refine ((HR1 _ (by repeat (first | (with_reducible exact Below.refl _ _) | (with_reducible assumption) | (with_reducible refine Below.drew ?_) | (with_reducible refine below_drewN ?_ _) | (with_reducible refine Below.alloc ?_ (by (try simp only [World.size_alloc, World.size_setCell, World.size_drew, World.heap_drewN]); (first | done | omega | ((try simp only [World.size_alloc, World.size_setCell, World.size_drew, World.heap_drewN] at *); omega))) _) | (with_reducible refine Below.setCell ?_ (by (try simp only [World.size_alloc, World.size_setCell, World.size_drew, World.heap_drewN]); (first | done | omega | ((try simp only [World.size_alloc, World.size_setCell, World.size_drew, World.heap_drewN] at *); omega))) _) | (with_reducible refine Below.trans ?_ (Below.mono (by assumption) (by (try simp only [World.size_alloc, World.size_setCell, World.size_drew, World.heap_drewN]); (first | done | omega | ((try simp only [World.size_alloc, World.size_setCell, World.size_drew, World.heap_drewN] at *); omega)))))))).out).mono ?_
  rintro e w1 ⟨hb1, O1, oc1, C1, cc1, rfl, hO1⟩
  have hz1 := hb1.size
  simp only [World.size_alloc] at hz1
  have hQ1 : Blk w1 (w.heap.size + 1) 24 #[.int .i64 regs', .slice B m.length mcap] := Blk.below (Blk.new' (by simp)) hb1 (by simp)
  have hB1 : Below w.heap.size w w1 := (by repeat (first | (with_reducible exact Below.refl _ _) | (with_reducible assumption) | (with_reducible refine Below.drew ?_) | (with_reducible refine below_drewN ?_ _) | (with_reducible refine Below.alloc ?_ (by (try simp only [World.size_alloc, World.size_setCell, World.size_drew, World.heap_drewN]); (first | done | omega | ((try simp only [World.size_alloc, World.size_setCell, World.size_drew, World.heap_drewN] at *); omega))) _) | (with_reducible refine Below.setCell ?_ (by (try simp only [World.size_alloc, World.size_setCell, World.size_drew, World.heap_drewN]); (first | done | omega | ((try simp only [World.size_alloc, World.size_setCell, World.size_drew, World.heap_drewN] at *); omega))) _) | (with_reducible refine Below.trans ?_ (Below.mono (by assumption) (by (try simp only [World.size_alloc, World.size_setCell, World.size_drew, World.heap_drewN]); (first | done | omega | ((try simp only [World.size_alloc, World.size_setCell, World.size_drew, World.heap_drewN] at *); omega)))))))
  have hO1 := hO1.mono_ (B' := w.heap.size) (by simp; omega)
  have q0 := hQ1.cell 0
  have q1 := hQ1.cell 1
  have lq := hQ1.lt
  simp only [List.getElem?_toArray, List.getElem?_cons_zero, List.getElem?_cons_succ] at q0 q1
  clear hb1
  go_upto_region 2 with fail
  obtain ⟨W1, hW1⟩ : ∃ W1, W1 = w1.alloc (.cells #[.slice O1 R1.out.length oc1, .int .i64 R1.ret, .bool R1.ended, .int .i64 R1.steps, .slice C1 R1.cts.length cc1] 33) := ⟨_, rfl⟩
  have hbx1 : Blk W1 w1.heap.size 33 #[.slice O1 R1.out.length oc1, .int .i64 R1.ret, .bool R1.ended, .int .i64 R1.steps, .slice C1 R1.cts.length cc1] := by rw [hW1]; exact Blk.new' rfl
  have hBW : Below w1.heap.size w1 W1 := by rw [hW1]; exact (Below.refl _ _).alloc (Nat.le_refl _) _
  rw [← hW1]
  have hO1 := hO1.below hBW
  have hB1 := hB1.trans (hBW.mono (by omega))
  have hQ1 := hQ1.below hBW lq
  have q0 := hQ1.cell 0
  have q1 := hQ1.cell 1
  have lq := hQ1.lt
  have hz1 := hB1.size
  simp only [List.getElem?_toArray, List.getElem?_cons_zero, List.getElem?_cons_succ] at q0 q1
  obtain ⟨a1, ha1⟩ : ∃ a, a = w1.heap.size := ⟨_, rfl⟩
  rw [← ha1] at hbx1 ⊢
  clear hW1 hBW ha1
  go_wp2_with fail
  refine ((HR2 _ hB1).out).mono ?_
  rintro e w2 ⟨hb2, O2, oc2, C2, cc2, rfl, hO2⟩
  have hz2 := hb2.size
  have hB2 := hB1.trans (hb2.mono (by omega))
  have hO1 := hO1.below hb2
  have hbx1 := hbx1.below hb2 hbx1.lt
  have hQ2 := hQ1.below hb2 lq
  have hO2 := hO2.mono_ (B' := w.heap.size) (by omega)
  have q0 := hQ2.cell 0
  have q1 := hQ2.cell 1
  have lq := hQ2.lt
  simp only [List.getElem?_toArray, List.getElem?_cons_zero, List.getElem?_cons_succ] at q0 q1
  clear hb2 hQ1
  go_upto_region 3 with fail
  obtain ⟨W2, hW2⟩ : ∃ W2, W2 = w2.alloc (.cells #[.slice O2 R2.out.length oc2, .int .i64 R2.ret, .bool R2.ended, .int .i64 R2.steps, .slice C2 R2.cts.length cc2] 33) := ⟨_, rfl⟩
  have hbx2 : Blk W2 w2.heap.size 33 #[.slice O2 R2.out.length oc2, .int .i64 R2.ret, .bool R2.ended, .int .i64 R2.steps, .slice C2 R2.cts.length cc2] := by rw [hW2]; exact Blk.new' rfl
  have hBW : Below w2.heap.size w2 W2 := by rw [hW2]; exact (Below.refl _ _).alloc (Nat.le_refl _) _
  rw [← hW2]
  have hO1 := hO1.below hBW
  have hO2 := hO2.below hBW
  have hbx1 := hbx1.below hBW hbx1.lt
  have hB2 := hB2.trans (hBW.mono (by omega))
  have hQ2 := hQ2.below hBW lq
  have q0 := hQ2.cell 0
  have q1 := hQ2.cell 1
  have lq := hQ2.lt
  have hz2 := hB2.size
  simp only [List.getElem?_toArray, List.getElem?_cons_zero, List.getElem?_cons_succ] at q0 q1
  obtain ⟨a2, ha2⟩ : ∃ a, a = w2.heap.size := ⟨_, rfl⟩
  rw [← ha2] at hbx2 ⊢
  clear hW2 hBW ha2
  go_wp2_with fail
  refine ((HR3 _ hB2).out).mono ?_
  rintro e w3 ⟨hb3, O3, oc3, C3, cc3, rfl, hO3⟩
  have hz3 := hb3.size
  have hB3 := hB2.trans (hb3.mono (by omega))
  have hO1 := hO1.below hb3
  have hO2 := hO2.below hb3
  have hbx1 := hbx1.below hb3 hbx1.lt
  have hbx2 := hbx2.below hb3 hbx2.lt
  have hO3 := hO3.mono_ (B' := w.heap.size) (by omega)
  clear hb3 hQ2 q0 q1 lq
  go_upto_region 4 with fail
  obtain ⟨W3, hW3⟩ : ∃ W3, W3 = w3.alloc (.cells #[.slice O3 R3.out.length oc3, .int .i64 R3.ret, .bool R3.ended, .int .i64 R3.steps, .slice C3 R3.cts.length cc3] 33) := ⟨_, rfl⟩
  have hbx3 : Blk W3 w3.heap.size 33 #[.slice O3 R3.out.length oc3, .int .i64 R3.ret, .bool R3.ended, .int .i64 R3.steps, .slice C3 R3.cts.length cc3] := by rw [hW3]; exact Blk.new' rfl
  have hBW : Below w3.heap.size w3 W3 := by rw [hW3]; exact (Below.refl _ _).alloc (Nat.le_refl _) _
  rw [← hW3]
  have hO1 := hO1.below hBW
  have hO2 := hO2.below hBW
  have hO3 := hO3.below hBW
  have hbx1 := hbx1.below hBW hbx1.lt
  have hbx2 := hbx2.below hBW hbx2.lt
  have hB3 := hB3.trans (hBW.mono (by omega))
  obtain ⟨a3, ha3⟩ : ∃ a, a = w3.heap.size := ⟨_, rfl⟩
  rw [← ha3] at hbx3 ⊢
  clear hW3 hBW ha3
  have p0 := hbx1.cell 0
  have p1 := hbx1.cell 1
  have p2 := hbx1.cell 2
  have p3 := hbx1.cell 3
  have p4 := hbx1.cell 4
  simp only [List.getElem?_toArray, List.getElem?_cons_zero, List.getElem?_cons_succ] at p0 p1 p2 p3 p4
  have q0 := hbx2.cell 0
  have q1 := hbx2.cell 1
  have q2 := hbx2.cell 2
  have q3 := hbx2.cell 3
  have q4 := hbx2.cell 4
  simp only [List.getElem?_toArray, List.getElem?_cons_zero, List.getElem?_cons_succ] at q0 q1 q2 q3 q4
  have r0 := hbx3.cell 0
  have r1 := hbx3.cell 1
  have r2 := hbx3.cell 2
  have r3 := hbx3.cell 3
  have r4 := hbx3.cell 4
  simp only [List.getElem?_toArray, List.getElem?_cons_zero, List.getElem?_cons_succ] at r0 r1 r2 r3 r4
  obtain ⟨_, _, s1, g1, g2⟩ := hO1.out.shape
  injection s1 with sa sb sc
  subst sc
  clear sa sb
  obtain ⟨_, _, s1, g3, g4⟩ := hO3.out.shape
  injection s1 with sa sb sc
  subst sc
  clear sa sb
  rw [ints_length] at g1 g3
  obtain ⟨D1, ⟨x, D2⟩, D3, ⟨y, D4⟩⟩ := HD.out
  have l1 := hO1.lens.1
  have l2 := hO2.lens.1
  have l3 := hO3.lens.1
  have HS1 := fun (h : R1.out = R2.out) (V : World) (d : Nat) (hV : V = W3.drewN d) => hide (by
    have h0 := SameInts_any O1 O2 oc1 oc2 R1.out R2.out V (by rw [hV]; exact hO1.out.vals) (by rw [hV]; exact hO2.out.vals) l1 l2
    rw [show (R1.out == R2.out) = true by rw [h]; exact beq_self_eq_true _] at h0
    exact h0)
  have HS2 := fun (h : R1.out = R3.out) (V : World) (d : Nat) (hV : V = W3.drewN d) => hide (by
    have h0 := SameInts_any O1 O3 oc1 oc3 R1.out R3.out V (by rw [hV]; exact hO1.out.vals) (by rw [hV]; exact hO3.out.vals) l1 l3
    rw [show (R1.out == R3.out) = true by rw [h]; exact beq_self_eq_true _] at h0
    exact h0)
  have HB1 := fun (V : World) (d : Nat) (hV : V = W3.drewN d) => hide (by
    have h0 := begins_any O1 O2 oc1 oc2 R2.out x V (by rw [← D2, hV]; exact hO1.out.vals) (by rw [hV]; exact hO2.out.vals) (by rw [← D2]; exact g1) g2
    rw [← D2] at h0
    exact h0)
  have HB2 := fun (V : World) (d : Nat) (hV : V = W3.drewN d) => hide (by
    have h0 := begins_any O3 O1 oc3 oc1 R1.out y V (by rw [← D4, hV]; exact hO3.out.vals) (by rw [hV]; exact hO1.out.vals) (by rw [← D4]; exact g3) g4
    rw [← D4] at h0
    exact h0)
  clear HD D2 D4 hO1 hO2 hO3 hbx1 hbx2 hbx3 HR1 HR2 HR3 g1 g2 g3 g4 l1 l2 l3 e1 e2 e3
  have n1 : (R1.ret != R1.ret) = false := by simp
  cases hb : R2.ended
  case true =>
    obtain ⟨f1, f2, f3⟩ := D1 hb
    obtain ⟨k1, k2, k3⟩ := D3 f1
    rw [hb] at q2
    rw [f1] at p2
    rw [k1] at r2
    rw [← f2] at q1
    rw [← k2] at r1
    have HS1 := HS1 f3
    have HS2 := HS2 k3
    clear hb f1 f2 f3 k1 k2 k3 D1 D3
    go_wp2_with fail
    refine ((HS1 _ 0 rfl).out).mono ?_
    rintro e V1 ⟨rfl, d1, rfl⟩
    go_wp2_with fail
    refine ((HB1 _ _ rfl).out).mono ?_
    rintro e V2 ⟨rfl, d2, rfl⟩
    go_wp2_with fail
    refine ((HS2 _ _ rfl).out).mono ?_
    rintro e V3 ⟨rfl, d3, rfl⟩
    go_wp2_with fail
    refine ((HB2 _ _ rfl).out).mono ?_
    rintro e V4 ⟨rfl, d4, rfl⟩
    go_wp2_with fail
    go_ret
    exact ⟨rfl, below_drewN hB3 _⟩
  case false =>
    cases ha : R1.ended
    case true =>
      obtain ⟨k1, k2, k3⟩ := D3 ha
      rw [hb] at q2
      rw [ha] at p2
      rw [k1] at r2
      rw [← k2] at r1
      have HS2 := HS2 k3
      clear hb ha k1 k2 k3 D1 D3 HS1
      go_wp2_with fail
      refine ((HB1 _ 0 rfl).out).mono ?_
      rintro e V2 ⟨rfl, d2, rfl⟩
      go_wp2_with fail
      refine ((HS2 _ _ rfl).out).mono ?_
      rintro e V3 ⟨rfl, d3, rfl⟩
      go_wp2_with fail
      refine ((HB2 _ _ rfl).out).mono ?_
      rintro e V4 ⟨rfl, d4, rfl⟩
      go_wp2_with fail
      go_ret
      exact ⟨rfl, below_drewN hB3 _⟩
    case false =>
      rw [hb] at q2
      rw [ha] at p2
      clear hb ha D1 D3 HS1 HS2
      go_wp2_with fail
      refine ((HB1 _ 0 rfl).out).mono ?_
      rintro e V2 ⟨rfl, d2, rfl⟩
      go_wp2_with fail
      refine ((HB2 _ _ rfl).out).mono ?_
      rintro e V4 ⟨rfl, d4, rfl⟩
      go_wp2_with fail
      go_ret
      exact ⟨rfl, below_drewN hB3 _⟩
end Go.Proofs.Ytmghkonmfbpjcab
