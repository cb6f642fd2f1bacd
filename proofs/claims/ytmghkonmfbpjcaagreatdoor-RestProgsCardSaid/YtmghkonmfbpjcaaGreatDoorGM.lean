/- Parts. -/
import Derived.Test.YtmghkonmfbpjcaaGreatDoorRunI
import Derived.Test.YtmghkonmfbpjcaaGreatDoorRows
import Derived.LaidMore
import Derived.OpenShut
import Derived.Stop.LaidErr
import Derived.Deep.DeepWitnessRowRef
set_option linter.unusedVariables false
set_option linter.unusedSimpArgs false
set_option maxRecDepth 100000
set_option maxHeartbeats 16000000
namespace Go.Proofs.YtmghkonmfbpjcaaGreatDoor
open Go.Proofs.Tryz
section
open Go.RowKit
theorem bPA (regs : Int) (A : Option Addr) (l : List Nd) (cap : Nat) (Ai : Option Addr) (inp : List Int) (ci : Nat) (fuel : Int) (w : World) (hl : l.length ≤ maxLen) (hA : bG w A l) (hI : bH w Ai (bO inp)) (hic : inp.length ≤ ci ∧ ci ≤ maxLen) :
 Calls prog 8 #[.agg #[.int .i64 regs, .slice A l.length cap], .slice Ai inp.length ci, .int .i64 fuel] w (iR 3 66 regs l inp fuel w) := by (
 by_cases h0 : chk regs l = 0
 · (
 by_cases h1 : 256 < inp.length
 · exact bNH regs A l cap Ai inp ci fuel w hl hA h0 h1
 · (
 by_cases h2 : fuel < 0
 · exact bJZ regs A l cap Ai inp ci fuel w hl hA h0 Zb h2
 · (
 by_cases h3 : 131072 < fuel
 · exact bJY regs A l cap Ai inp ci fuel w hl hA h0 Zb h3
 · exact bQO regs A l cap Ai inp ci fuel w hl hA hI hic h0 Zb Zb Zb)))
 · exact bNI regs A l cap Ai inp ci fuel w hl hA h0)
end
section
open Go.RowKit
attribute [local irreducible] Row cX madeCells
end
section
open Go.RowKit
attribute [local irreducible] Row cX madeCells
theorem xY {w : World} {cs : Array Value} {t : TypeId} {g : Nat} {xs : List Value} (h : g = w.heap.size) (hc : cs = xs.toArray) : bH (w.alloc (.cells cs t)) (some ⟨g, 0, none⟩) xs := by (
 subst hc
 have hb := Blk.new' (w := w) (t := t) (cs := xs.toArray) h
 refine bH.mk hb.lt fun i v hi => ?_
 rw [Nat.zero_add, hb.cell]
 simpa using hi)
theorem bKT (w : World) : Calls prog 27 #[] w fun e w' => e = .returned (.agg #[.int .i64 3, .int .i64 0, .int .i64 1]) ∧ Below w.heap.size w w' := by (
 go_enter func27, ntmps27
 go_wp2
 refine bodyPost_ret (v := .agg #[.int .i64 3, .int .i64 0, .int .i64 1]) (by simp [results, results27, go_sem]) rfl ⟨rfl, Ye⟩)
end
section
open Go.RowKit
def fG : List Nd := [⟨9, 0, 0, 0, 1, 0⟩, ⟨9, 1, 0, 0, 2, 0⟩, ⟨11, 0, 0, 0, 3, 7⟩, ⟨3, 3, 0, 1, 9, 0⟩, ⟨10, 0, 2, 0, 8, 0⟩, ⟨2, 2, 3, 0, 6, 0⟩, ⟨12, 0, 2, 0, 0, 0⟩, ⟨3, 3, 0, 1, 10, 0⟩, ⟨0, 0, 0, 0, 5, 0⟩, ⟨2, 2, 3, 0, 4, 0⟩, ⟨0, 0, 0, 0, 5, 0⟩]
theorem bEA : mJ 3 fS = 0 := by decide +kernel
theorem rZ : gK (tD fS) 3 fS = (0, 4, fG) := by decide +kernel
theorem wI : chk 4 fG = 0 := Ze
theorem bBB : iL fG = fG := by decide +kernel
theorem bBS : sQ 4 fG [4, 5] 99 = 0 := by decide +kernel
theorem bBR : uL 4 fG [4, 5] 99 = ⟨[9], 9, true, 9, [(⟨3, 0, 1⟩, 1)]⟩ := of_decide_eq_true Zc
theorem qJ : jR 3 fS [2, 3, 4] 0 4 fG := by
 refine .inr (.inr (.inr ⟨pQ, Zf, ?_, ?_⟩))
 ·intro n hn
  simp only [Uh, List.not_mem_nil, or_false] at hn
  omega
 ·refine .next (r1 := 4) (l1 := fG) (.inr (.inl ⟨rfl, .inr ⟨bEA, rfl, ?_, ?_⟩⟩)) (.next (r1 := 4) (l1 := fG) (.inr (.inr (.inl ⟨rfl, rfl, rfl, ?_⟩))) (.next (r1 := 4) (l1 := fG) (.inr (.inr (.inr ⟨rfl, rfl, rfl, bBB.symm⟩))) .nil))
  ·rw [rZ]
  ·rw [rZ]
  ·exact ⟨.nil _, bCA (bS wI) (by decide +kernel)⟩
theorem bIU {t : List UInt8} {code : Int} (h : bPI (cY 3 fS) [2, 3, 4] t code) : t = cY 4 fG ∧ code = 0 := by
 rcases h with ⟨h, _⟩ | ⟨r, l, c, r', l', hc, hf, hs, hp, h⟩
 ·exact absurd rfl (h _ _ pQ pP)
 ·obtain ⟨e1, e2⟩ := bBM (kE pQ pP) (kE hc hf) hs
  subst e1 e2
  obtain ⟨e3, e4, e5⟩ := hp.same qJ
  subst e3 e4 e5
  rcases h with ⟨h, _⟩ | ⟨_, h1, h2, _⟩
  ·exact absurd rfl h
  ·exact ⟨h2, h1⟩
theorem wF : Fit fG := (qJ.fine pP).2.2.2.2
theorem uV (w : World) (hT : Tv w) : Calls prog 6 #[] w fun e w' => e = .returned (.bool true) ∧ Below w.heap.size w w' := by
 have HSm := fun W => bA (bIL W)
 go_enter func6, ntmps6
 go_wp2_with fail
 refine Calls.mono (HSm _).out ?_
 rintro e w1 ⟨g1, rfl, hN1, hb1⟩
 have hT1 := hT.below hb1
 have HSh := bA (bHY 3 (some ⟨g1, 0, none⟩) fS 7 w1 (by unfold maxLen; decide) hN1.nodes pQ hT1 pP)
 go_wp2_with fail
 refine Calls.mono HSh.o ?_
 rintro e w2 ⟨rfl, hb2⟩
 have hB2 := hb1.trans (hb2.mono hb1.size)
 have hB3 : Below w.heap.size w (w2.alloc (.cells #[.int .i64 2, .int .i64 3, .int .i64 4] 3)) := hB2.alloc hB2.size _
 have HO := bA (bAT (cY 3 fS) bIM (some ⟨w2.heap.size, 0, none⟩) [2, 3, 4] 3 _ (xY (w := w2) (t := 3) (xs := bO [2, 3, 4]) rfl rfl) Xy (by intro n hn; simp only [Uh, List.not_mem_nil, or_false] at hn; rcases hn with rfl | rfl | rfl <;> decide) (hT.below hB3))
 clear HSh hb1 hb2 hN1 hT1
 go_wp2_with fail
 refine Calls.mono HO.o ?_
 rintro e w3 ⟨tx, code, rfl, hb3, hopt⟩
 obtain ⟨e1, e2⟩ := bIU hopt
 subst e1 e2
 have hB4 := hB3.trans (hb3.mono hB3.size)
 have hlen : (cY 4 fG).length ≤ 4294967280 := by
  have := sO (l := fG) (regs := 4) ⟨Zb, Zb⟩ wF
  have h11 : fG.length = 11 := rfl
  omega
 have HR := bA (bEH (cY 4 fG) hlen w3 (hT.below hB4))
 clear HO hopt hB3 hB2 hb3 hlen
 go_wp2_with fail
 refine Calls.mono HR.o ?_
 rintro e w4 ⟨r4, l4, v4, ok4, rfl, hN4, hb4, hg4⟩
 have hgW : bED (cY 4 fG) 4 fG true := Or.inl ⟨rfl, wI, wF, rfl⟩
 obtain ⟨e1, e2, e3⟩ := hg4.same hgW
 subst e1 e2 e3
 rw [if_pos rfl]
 obtain ⟨A4, c4, rfl, _, _⟩ := hN4.shape
 rw [show fG.length = 11 from rfl] at *
 have hB5 := hB4.trans (hb4.mono hB4.size)
 clear HR hg4 hgW hB4 hb4
 have hX5 := Blk.new w4 24 #[.int .i64 4, .slice A4 11 c4]
 have hN5 := hN4.alloc (.cells #[.int .i64 4, .slice A4 11 c4] 24)
 have hB6 := hB5.alloc hB5.size (.cells #[.int .i64 4, .slice A4 11 c4] 24)
 have x0 := hX5.cell 0
 have x1 := hX5.cell 1
 simp only [Yl] at x0 x1
 clear hN4 hB5
 go_wp2_with fail
 have hnd := hN5.nodes
 refine Calls.mono (bPA 4 A4 fG c4 (some ⟨w4.heap.size + 1, 0, none⟩) [4, 5] 2 99 _ (by simp [maxLen, fG]) (hnd.below ((Bnq _ _))) (xY Zf rfl) ⟨Zf, by simp [maxLen]⟩) ?_
 rintro e v1 ⟨hc1, u1, rfl, ov1, cv1, rfl, hO1, hC1⟩
 rw [bBR] at hO1 hC1 ⊢
 rw [bBS]
 obtain ⟨D1, q1, rfl, _, _⟩ := hO1.shape
 obtain ⟨E1, p1, rfl, _, _⟩ := hC1.shape
 have hB1 : Below w.heap.size w v1 := hB6.trans (((Bnq _ _)).trans (hc1.mono Zf) |>.mono hB6.size)
 have H1 := bA hO1.vals
 have G1 := bA hC1.nodes
 clear hN5 hnd hO1 hC1 hc1 hX5 x0 x1 hB6
 go_upto_region 5 with fail
 obtain ⟨W5, hW5⟩ := Exq (v1.alloc (.cells #[.slice D1 (bO [9]).length q1, .int .i64 9, .bool true, .int .i64 9, .slice E1 1 p1] 33))
 have b1 : Blk W5 v1.heap.size 33 #[.slice D1 (bO [9]).length q1, .int .i64 9, .bool true, .int .i64 9, .slice E1 1 p1] := by rw [hW5]; exact Blk.new' rfl
 have hB5 : Below v1.heap.size v1 W5 := by rw [hW5]; exact (Bnq _ _)
 have hBw : Below w.heap.size w W5 := hB1.trans (hB5.mono hB1.size)
 have HI := fun (V : World) (hV : Below W5.heap.size W5 V) (g : Nat) (hg : Blk V g 3 #[.int .i64 9]) => bA (bAQ D1 (some ⟨g, 0, none⟩) q1 1 [9] [9] V ((H1.o.below hB5).below hV) (fun _ => ⟨g, 0, rfl, hg.lt, fun i v hi => by rw [Nat.zero_add, hg.cell]; simpa [bO] using hi⟩) Xy Xy)
 have HT1 := fun (V : World) (hV : Below W5.heap.size W5 V) => bA (by have h := bJU D1 (bO [9]).length q1 9 true 9 E1 p1 [(⟨3, 0, 1⟩, 1)] ⟨3, 0, 1⟩ V ((G1.out.below hB5).below hV) Xy; rw [show fO [((⟨3, 0, 1⟩ : Tm), (1 : Int))] ⟨3, 0, 1⟩ = 1 from by decide] at h; exact h)
 have HS := fun V => bA (bKT V)
 rw [← hW5]
 have c0 := b1.cell 0
 have c1 := b1.cell 1
 have c2 := b1.cell 2
 have c3 := b1.cell 3
 have c4' := b1.cell 4
 have l1 := b1.lt
 simp only [Yl] at c0 c1 c2 c3 c4'
 clear hW5 b1 hB5 hB1
 obtain ⟨a1, ha1⟩ := Exq v1.heap.size
 rw [← ha1] at c0 c1 c2 c3 c4' l1
 rw [← ha1]
 clear ha1
 -- region 5
 refine wp_region_held_drew (S := fun w' => w'.cell? ⟨a1, 0, none⟩ = some (.slice D1 (bO [9]).length q1) ∧ w'.cell? ⟨a1, 1, none⟩ = some (.int .i64 9) ∧ w'.cell? ⟨a1, 2, none⟩ = some (.bool true) ∧ w'.cell? ⟨a1, 3, none⟩ = some (.int .i64 9) ∧ w'.cell? ⟨a1, 4, none⟩ = some (.slice E1 1 p1)) Zc ⟨c0, c1, c2, c3, c4'⟩ ?_
 intro hH
 have hC0 : Below W5.heap.size W5 W5.drew := (Below.refl _ _).drew
 refine Up (fun _ _ _ _ _ => id) fun hP => ?_
 iterate 26 (refine Wb hP hH ?_; try simp only [Nm])
 refine Rd 26 Zc rfl (fun K hK => ?_)
 have HK26 := bA hK
 clear hK
 go_simp
 obtain ⟨W6, hW6⟩ := Exq ((W5.alloc (.cells #[.int .i64 9] 3)).drew)
 rw [← hW6]
 have hC6 : Below W5.heap.size W5 W6 := by rw [hW6]; exact Below.drew ((Bnq _ _))
 have hB6 : Blk W6 W5.heap.size 3 #[.int .i64 9] := by rw [hW6]; exact (Blk.new' rfl).drew
 clear hH hW6
 have hH : W6.cell? ⟨a1, 0, none⟩ = some (.slice D1 (bO [9]).length q1) ∧ W6.cell? ⟨a1, 1, none⟩ = some (.int .i64 9) ∧ W6.cell? ⟨a1, 2, none⟩ = some (.bool true) ∧ W6.cell? ⟨a1, 3, none⟩ = some (.int .i64 9) ∧ W6.cell? ⟨a1, 4, none⟩ = some (.slice E1 1 p1) := ⟨((bB hC6).1 _ _ l1).trans c0, ((bB hC6).1 _ _ l1).trans c1, ((bB hC6).1 _ _ l1).trans c2, ((bB hC6).1 _ _ l1).trans c3, ((bB hC6).1 _ _ l1).trans c4'⟩
 refine Shut.out HK26.o _ _ hH (fun _ => ?_)
 try simp only [Nm]
 clear HK26
 refine Rd 27 Zc rfl (fun K hK => ?_)
 have HK27 := bA hK
 clear hK
 go_simp
 go_at_call 25
 refine ((HI _ hC6 _ hB6).out).mono ?_
 rintro e W7 ⟨rfl, dd, h7⟩
 have hC7 : Below W5.heap.size W5 W7 := by rw [h7]; exact cB hC6 _
 clear hH h7 hB6
 have hH : W7.cell? ⟨a1, 0, none⟩ = some (.slice D1 (bO [9]).length q1) ∧ W7.cell? ⟨a1, 1, none⟩ = some (.int .i64 9) ∧ W7.cell? ⟨a1, 2, none⟩ = some (.bool true) ∧ W7.cell? ⟨a1, 3, none⟩ = some (.int .i64 9) ∧ W7.cell? ⟨a1, 4, none⟩ = some (.slice E1 1 p1) := ⟨((bB hC7).1 _ _ l1).trans c0, ((bB hC7).1 _ _ l1).trans c1, ((bB hC7).1 _ _ l1).trans c2, ((bB hC7).1 _ _ l1).trans c3, ((bB hC7).1 _ _ l1).trans c4'⟩
 refine Shut.out HK27.o _ _ hH (fun _ => ?_)
 try simp only [Nm]
 clear HK27
 iterate 3 (refine Wb hP hH ?_; try simp only [Nm])
 refine Rd 31 Zc rfl (fun K hK => ?_)
 have HK31 := bA hK
 clear hK
 go_simp
 go_at_call 27
 refine ((HS _).out).mono ?_
 rintro e W8 ⟨rfl, hbW8⟩
 have hC8 : Below W5.heap.size W5 W8 := hC7.trans (hbW8.mono hC7.size)
 clear hH
 have hH : W8.cell? ⟨a1, 0, none⟩ = some (.slice D1 (bO [9]).length q1) ∧ W8.cell? ⟨a1, 1, none⟩ = some (.int .i64 9) ∧ W8.cell? ⟨a1, 2, none⟩ = some (.bool true) ∧ W8.cell? ⟨a1, 3, none⟩ = some (.int .i64 9) ∧ W8.cell? ⟨a1, 4, none⟩ = some (.slice E1 1 p1) := ⟨((bB hC8).1 _ _ l1).trans c0, ((bB hC8).1 _ _ l1).trans c1, ((bB hC8).1 _ _ l1).trans c2, ((bB hC8).1 _ _ l1).trans c3, ((bB hC8).1 _ _ l1).trans c4'⟩
 refine Shut.out HK31.o _ _ hH (fun _ => ?_)
 try simp only [Nm]
 clear HK31
 refine Rd 32 Zc rfl (fun K hK => ?_)
 have HK32 := bA hK
 clear hK
 go_simp
 go_at_call 26
 refine ((HT1 _ hC8).out).mono ?_
 rintro e W9 ⟨rfl, hbW9⟩
 have hC9 : Below W5.heap.size W5 W9 := hC8.trans (hbW9.mono hC8.size)
 clear hH
 have hH : W9.cell? ⟨a1, 0, none⟩ = some (.slice D1 (bO [9]).length q1) ∧ W9.cell? ⟨a1, 1, none⟩ = some (.int .i64 9) ∧ W9.cell? ⟨a1, 2, none⟩ = some (.bool true) ∧ W9.cell? ⟨a1, 3, none⟩ = some (.int .i64 9) ∧ W9.cell? ⟨a1, 4, none⟩ = some (.slice E1 1 p1) := ⟨((bB hC9).1 _ _ l1).trans c0, ((bB hC9).1 _ _ l1).trans c1, ((bB hC9).1 _ _ l1).trans c2, ((bB hC9).1 _ _ l1).trans c3, ((bB hC9).1 _ _ l1).trans c4'⟩
 refine Shut.out HK32.o _ _ hH (fun _ => ?_)
 try simp only [Nm]
 clear HK32
 iterate 3 (refine Wb hP hH ?_; try simp only [Nm])
 refine wpAnyH_done Zc ?_ _
 -- end of region 5
 go_wp2_with fail
 go_ret
 exact ⟨rfl, hBw.trans (hC9.mono hBw.size)⟩
end
section
open Go.RowKit
attribute [local irreducible] Row madeCells bK cZ
structure rF (W0 : World) (ga : Nat) (r : Int) (A : Option Addr) (n c : Nat) (W : World) : Prop where
 box : Blk W ga 24 #[.int .i64 r, .slice A n c]
 row : ∃ m, m.length = n ∧ bK W W0.heap.size 44 (.slice A n c) m
 below : Below W0.heap.size W0 W
 low : W0.heap.size ≤ ga
theorem sN {A B : Option Addr} {n m c d : Nat} (h : Value.slice A n c = .slice B m d) : A = B := by cases h; rfl
theorem bEB {g g' : Nat} (h : (some ⟨g, 0, none⟩ : Option Addr) = some ⟨g', 0, none⟩) : g = g' := by cases h; rfl
section
variable {W0 W : World} {ga n c : Nat} {r : Int} {A : Option Addr}
theorem rF.get (h : rF W0 ga r A n c W) {k : Nat} (hk : k < n) : ∃ g, A = some ⟨g, 0, none⟩ ∧ ∀ j, j < n * 6 → W.frozen? ⟨g, j, none⟩ = false := by (
 obtain ⟨m, rfl, hN⟩ := h.row
 obtain ⟨g, cap, x, e, _, _, _, _, hf⟩ := hN.get hk
 exact ⟨g, sN e, hf⟩)
theorem rF.cells (h : rF W0 ga r A n c W) {g : Nat} (hA : A = some ⟨g, 0, none⟩) {k : Nat} (hk : k < n) : ∃ x : Nd, x.lies W g (k * 6) := by (
 obtain ⟨m, rfl, hN⟩ := h.row
 obtain ⟨g', cap, x, e, _, _, _, hl, _⟩ := hN.get hk
 replace e := sN e
 rw [hA] at e
 replace e := bEB e
 subst e
 exact ⟨x, hl⟩)
theorem rF.store {g : Nat} (h : rF W0 ga r (some ⟨g, 0, none⟩) n c W) {k : Nat} (hk : k < n) :
 rF W0 ga r (some ⟨g, 0, none⟩) n c ((((((W.setCell ⟨g, k * 6, none⟩ (.int .i64 (-1))).setCell ⟨g, k * 6 + 1, none⟩ (.int .i64 0)).setCell ⟨g, k * 6 + 2, none⟩ (.int .i64 0)).setCell ⟨g, k * 6 + 3, none⟩ (.int .i64 0)).setCell ⟨g, k * 6 + 4, none⟩ (.int .i64 0)).setCell ⟨g, k * 6 + 5, none⟩ (.int .i64 0)) := by (
 obtain ⟨m, rfl, hN⟩ := h.row
 obtain ⟨g', cap, x, e, hg, hgl, hx, _, _⟩ := hN.get hk
 replace e := bEB (sN e)
 subst e
 have hne := hN.ne_blk h.box Ze
 have g1 : g ≠ ga := fun e => hne Xm
 refine ⟨(((((h.box.far (Ne.symm g1) _).far (Ne.symm g1) _).far (Ne.symm g1) _).far (Ne.symm g1) _).far (Ne.symm g1) _).far (Ne.symm g1) _, ⟨_, ?_, hN.put6 hx ⟨-1, 0, 0, 0, 0, 0⟩⟩, (((((h.below.setCell hg _).setCell hg _).setCell hg _).setCell hg _).setCell hg _).setCell hg _, h.low⟩
 rw [List.length_set])
theorem rF.new {w1 : World} {m : List Nd} (hb : Below W0.heap.size W0 w1) (hN : bK w1 W0.heap.size 44 (.slice A m.length c) m) (hW : W = w1.alloc (.cells #[.int .i64 r, .slice A m.length c] 24)) : rF W0 w1.heap.size r A m.length c W := by (
 subst hW
 exact ⟨Blk.new' rfl, ⟨m, rfl, hN.alloc _⟩, hb.alloc hb.size _, hb.size⟩)
end
def bHM (r : Int) (l : List Nd) (t : Tm) : Int := if fU r l t = 0 then oK r l t else 0
def bHN (r : Int) (l : List Nd) (t : Tm) : List Nd := if fU r l t = 0 then oL r l t else []
theorem nZ.got {r : Int} {l : List Nd} {t : Tm} {w w' : World} {e : Ending} (h : nZ 44 r l t w e w') :
 ∃ v, e = .returned (.tuple #[.agg #[.int .i64 (bHM r l t), v], .int .i64 (fU r l t)]) ∧ bK w' w.heap.size 44 v (bHN r l t) ∧ Below w.heap.size w w' := by (
 obtain ⟨hb, ⟨h, rfl⟩ | ⟨h, v, rfl, hN⟩⟩ := h
 · (
 refine ⟨.slice none 0 0, ?_, ?_, hb⟩
 · unfold bHM; rw [if_neg h]
 · unfold bHN; rw [if_neg h]; exact bK.nil_ _ _ _)
 · (
 refine ⟨v, ?_, ?_, hb⟩
 · unfold bHM; rw [if_pos h, h]
 · unfold bHN; rw [if_pos h]; exact hN))
theorem rE.got {r : Int} {l : List Nd} {w w' : World} {e : Ending} (h : rE 44 r l w e w') :
 ∃ (c r' : Int) (l' : List Nd) (v : Value), e = .returned (.tuple #[.agg #[.int .i64 r', v], .int .i64 c]) ∧ (c = 0 ∨ (c ≠ 0 ∧ l' = [])) ∧ bK w' w.heap.size 44 v l' ∧ Below w.heap.size w w' := by (
 obtain ⟨hb, ⟨h, rfl⟩ | ⟨_, _, rfl⟩ | ⟨_, _, v, rfl, hN⟩⟩ := h
 · exact ⟨_, 0, [], _, rfl, .inr ⟨h, rfl⟩, bK.nil_ _ _ _, hb⟩
 · exact ⟨2, 0, [], _, rfl, .inr ⟨Ze, rfl⟩, bK.nil_ _ _ _, hb⟩
 · exact ⟨0, r, _, v, rfl, .inl rfl, hN, hb⟩)
theorem xS (regs : Int) (A : Option Addr) (l : List Nd) (cap : Nat) (t : Tm) (S : Option Addr) (ns : List Int) (ci : Nat) (w : World)
 (hA : bG w A l) (hlm : l.length ≤ maxLen) (hl : l.length * 48 ≤ 140737488355328) (hI : bH w S (bO ns)) (hnl : ns.length ≤ maxLen) (hwf : ∀ n ∈ ns, (Lit.int .i64 n).wf = true) (hT : Tv w) :
 Calls prog 4 #[.agg #[.int .i64 regs, .slice A l.length cap], .agg #[.int .i64 t.op, .int .i64 t.a, .int .i64 t.b], .slice S ns.length ci] w fun e w' => e = .returned (.bool true) ∧ Below w.heap.size w w' := by (
 have HOw := bA (fun W (hb : Below w.heap.size w W) => uH regs A l cap W (hA.below hb) hl)
 have HPa := bA (fun W (hb : Below w.heap.size w W) => wT regs A l cap S ns ci W (hA.below hb) hlm (hI.below hb) hnl hwf)
 have HPo := bA (fun W (hb : Below w.heap.size w W) => bAS regs A l cap S ns ci W (hA.below hb) (hI.below hb) hnl)
 have HOn := bA (fun W (hb : Below w.heap.size w W) => (bIA regs A l cap t W hlm (hA.below hb)).mono fun e W' h => h.got)
 have HOo := bA (fun W (hb : Below w.heap.size w W) => (zF regs A l cap t W (hA.below hb)).mono fun e W' h => h.got)
 have HSp := bA (fun W (hb : Below w.heap.size w W) => (tE regs A l cap W hlm (hA.below hb)).mono fun e W' h => h.got)
 have HBe := bA (fun W (hb : Below w.heap.size w W) => uV W (hT.below hb))
 have HA := bA (fun W (hb : Below w.heap.size w W) => hA.below hb)
 clear hA hI hwf hT
 go_enter func4, ntmps4
 go_upto_region 1 with fail
 obtain ⟨V0, hV0⟩ := Exq ((w.alloc (.cells #[.int .i64 regs, .slice A l.length cap] 24)).alloc (.cells #[.int .i64 t.op, .int .i64 t.a, .int .i64 t.b] 41))
 have hB : Below w.heap.size w V0 := by rw [hV0]; exact ((Bnq _ _)).alloc Zf _
 have hP : Blk V0 w.heap.size 24 #[.int .i64 regs, .slice A l.length cap] := by rw [hV0]; exact (Blk.new w _ _).alloc _
 have hT : Blk V0 (w.heap.size + 1) 41 (tmA t) := by rw [hV0]; exact Blk.new' Zf
 rw [← hV0]
 clear hV0
 refine Km fun p0 p1 t0 t1 t2 lp lt' => ?_
 go_wp2_with fail
 refine Calls.mono (HOw.o _ hB) ?_
 rintro e w1 ⟨v, rfl, hN, hb⟩
 obtain ⟨OA, oc, rfl, _, _⟩ := hN.shape
 clear p0 p1 t0 t1 t2 lp lt'
 replace hP := hP.below hb hP.lt
 replace hT := hT.below hb hT.lt
 replace hN := hN.mono hB.size
 replace hB := hB.trans (hb.mono hB.size)
 clear hb HOw
 go_upto_region 2 with fail
 obtain ⟨W1, hW1⟩ := Exq (w1.alloc (.cells #[.int .i64 regs, .slice OA l.length oc] 24))
 rw [← hW1]
 have hO : Blk W1 w1.heap.size 24 #[.int .i64 regs, .slice OA l.length oc] := by rw [hW1]; exact Blk.new' rfl
 have hb : Below w1.heap.size w1 W1 := by rw [hW1]; exact (Bnq _ _)
 replace hP := hP.below hb hP.lt
 replace hT := hT.below hb hT.lt
 replace hN := hN.below' hb
 replace hB := hB.trans (hb.mono hB.size)
 clear hW1 hb
 obtain ⟨gO, hgO⟩ := Exq w1.heap.size
 rw [← hgO] at hO ⊢
 clear hgO
 refine Km fun p0 p1 t0 t1 t2 lp lt' => ?_
 go_wp2_with fail
 refine Calls.mono (HPa.o _ hB) ?_
 rintro e w2 ⟨c, r', l', v', rfl, hp, hM, hb⟩
 obtain ⟨A2, c2, rfl, hx1, hx2⟩ := hM.shape
 have Hp := bA hp
 have hb' := hb
 clear p0 p1 t0 t1 t2 lp lt' hp
 go_upto_region 3 with fail
 obtain ⟨W2, hW2⟩ := Exq (w2.alloc (.cells #[.int .i64 r', .slice A2 l'.length c2] 24))
 rw [← hW2]
 have HS := bA (rF.new hb' hM hW2)
 obtain ⟨ga, hga⟩ := Exq w2.heap.size
 rw [← hga] at HS ⊢
 clear hW2 hga hM hb hb'
 have HP' := bA hP
 have HT' := bA hT
 have HO' := bA hO
 have HN' := bA hN
 have HB' := bA hB
 clear hP hT hO hN hB
 have hmx : l'.length ≤ maxLen := Nat.le_trans hx1 hx2
 unfold maxLen at hmx
 go_wp2_with fail
 go_loopg [10] (l'.length) (fun gk i wr => ∃ k : Nat, k ≤ l'.length ∧ i = .int .i64 k ∧ gk = l'.length - k ∧ rF W1 ga r' A2 l'.length c2 wr)
 case atStart => exact ⟨0, Nat.zero_le _, rfl, rfl, HS.o⟩
 case round => (
 clear HS
 obtain ⟨k, hk, rfl, hgk, hS⟩ := hrel
 have Hgk := bA hgk
 clear hgk
 have q0 := hS.box.cell 0
 have q1 := hS.box.cell 1
 simp only [Yl] at q0 q1
 have lq := hS.box.lt
 by_cases hlt : k < l'.length
 · (
 obtain ⟨g, hA', hfr⟩ := hS.get hlt
 obtain ⟨x, c0, c1, c2, c3, c4, c5⟩ := hS.cells hA' hlt
 subst hA'
 refine Kp fun f0 f1 f2 f3 f4 f5 k0 => ?_
 have k1 : (k : Int) < ((l'.length : Nat) : Int) := Zb
 have HS := bA hS
 clear hS hfr
 go_wp2_with fail
 go_roundg (l'.length - (k + 1))
 case measure => exact Jl
 case rel => exact ⟨k + 1, Zb, by go_num, rfl, HS.o.store hlt⟩)
 · (
 obtain rfl : k = l'.length := Zb
 refine Kj fun hb hP hT hO hN hB => ?_
 obtain ⟨X2, rfl⟩ := Exq wr
 clear hS hb HP' HT' HO' HN' HB' hk hlt Hgk
 refine Km fun p0 p1 t0 t1 t2 lp lt' => ?_
 go_wp2_with fail
 refine Calls.mono (HOn.o _ hB) ?_
 rintro e w3 ⟨v3, rfl, hM, hb⟩
 generalize hrr : bHM regs l t = r3 at *
 generalize hll : bHN regs l t = l3 at *
 generalize hee : fU regs l t = e3 at *
 clear hrr hll hee
 obtain ⟨A3, c3, rfl, hy1, hy2⟩ := hM.shape
 have hb' := hb
 clear p0 p1 t0 t1 t2 lp lt' q0 q1 lq
 go_upto_region 8 with fail
 obtain ⟨W3, hW3⟩ := Exq (w3.alloc (.cells #[.int .i64 r3, .slice A3 l3.length c3] 24))
 rw [← hW3]
 have HS := bA (rF.new hb' hM hW3)
 obtain ⟨gb, hgb⟩ := Exq w3.heap.size
 rw [← hgb] at HS ⊢
 clear hW3 hgb hM hb hb'
 have HP' := bA hP
 have HT' := bA hT
 have HO' := bA hO
 have HN' := bA hN
 have HB' := bA hB
 clear hP hT hO hN hB
 have hmx : l3.length ≤ maxLen := Nat.le_trans hy1 hy2
 unfold maxLen at hmx
 go_wp2_with fail
 go_loopg [13] (l3.length) (fun gk i wr => ∃ k : Nat, k ≤ l3.length ∧ i = .int .i64 k ∧ gk = l3.length - k ∧ rF X2 gb r3 A3 l3.length c3 wr)
 case atStart => exact ⟨0, Nat.zero_le _, rfl, rfl, HS.o⟩
 case round => (
 clear HS
 obtain ⟨k, hk, rfl, hgk, hS⟩ := hrel
 have Hgk := bA hgk
 clear hgk
 have q0 := hS.box.cell 0
 have q1 := hS.box.cell 1
 simp only [Yl] at q0 q1
 have lq := hS.box.lt
 by_cases hlt : k < l3.length
 · (
 obtain ⟨g, hA', hfr⟩ := hS.get hlt
 obtain ⟨x, c0, c1, c2, c3, c4, c5⟩ := hS.cells hA' hlt
 subst hA'
 refine Kp fun f0 f1 f2 f3 f4 f5 k0 => ?_
 have k1 : (k : Int) < ((l3.length : Nat) : Int) := Zb
 have HS := bA hS
 clear hS hfr
 go_wp2_with fail
 go_roundg (l3.length - (k + 1))
 case measure => exact Jl
 case rel => exact ⟨k + 1, Zb, by go_num, rfl, HS.o.store hlt⟩)
 · (
 obtain rfl : k = l3.length := Zb
 refine Kj fun hb hP hT hO hN hB => ?_
 obtain ⟨X3, rfl⟩ := Exq wr
 clear hS hb HP' HT' HO' HN' HB' hk hlt Hgk
 refine Km fun p0 p1 t0 t1 t2 lp lt' => ?_
 go_wp2_with fail
 refine Calls.mono (HSp.o _ hB) ?_
 rintro e w4 ⟨cg, r4, l4, v4, rfl, hcg, hM, hb⟩
 obtain ⟨A4, c4, rfl, hz1, hz2⟩ := hM.shape
 have Hcg := bA hcg
 have hb' := hb
 clear p0 p1 t0 t1 t2 lp lt' q0 q1 lq hcg
 go_upto_region 13 with fail
 obtain ⟨W4, hW4⟩ := Exq (w4.alloc (.cells #[.int .i64 r4, .slice A4 l4.length c4] 24))
 rw [← hW4]
 have HS := bA (rF.new hb' hM hW4)
 obtain ⟨gc, hgc⟩ := Exq w4.heap.size
 rw [← hgc] at HS ⊢
 clear hW4 hgc hM hb hb'
 have HP' := bA hP
 have HT' := bA hT
 have HO' := bA hO
 have HN' := bA hN
 have HB' := bA hB
 clear hP hT hO hN hB
 have hmx : l4.length ≤ maxLen := Nat.le_trans hz1 hz2
 unfold maxLen at hmx
 go_wp2_with fail
 go_loopg [16] (l4.length) (fun gk i wr => ∃ k : Nat, k ≤ l4.length ∧ i = .int .i64 k ∧ gk = l4.length - k ∧ rF X3 gc r4 A4 l4.length c4 wr)
 case atStart => exact ⟨0, Nat.zero_le _, rfl, rfl, HS.o⟩
 case round => (
 clear HS
 obtain ⟨k, hk, rfl, hgk, hS⟩ := hrel
 have Hgk := bA hgk
 clear hgk
 have q0 := hS.box.cell 0
 have q1 := hS.box.cell 1
 simp only [Yl] at q0 q1
 have lq := hS.box.lt
 by_cases hlt : k < l4.length
 · (
 obtain ⟨g, hA', hfr⟩ := hS.get hlt
 obtain ⟨x, c0, c1, c2, c3, c4, c5⟩ := hS.cells hA' hlt
 subst hA'
 refine Kp fun f0 f1 f2 f3 f4 f5 k0 => ?_
 have k1 : (k : Int) < ((l4.length : Nat) : Int) := Zb
 have HS := bA hS
 clear hS hfr
 go_wp2_with fail
 go_roundg (l4.length - (k + 1))
 case measure => exact Jl
 case rel => exact ⟨k + 1, Zb, by go_num, rfl, HS.o.store hlt⟩)
 · (
 obtain rfl : k = l4.length := Zb
 refine Kj fun hb hP hT hO hN hB => ?_
 obtain ⟨X4, rfl⟩ := Exq wr
 have hC := hS.box
 clear hS hb HP' HT' HO' HN' HB' hk hlt Hgk
 refine Km fun p0 p1 t0 t1 t2 lp lt' => ?_
 go_wp2_with fail
 refine Calls.mono (HPa.o _ hB) ?_
 rintro e w5 ⟨cx, rx, lx, vx, rfl, hp, hM, hb⟩
 obtain ⟨e1, e2, e3⟩ := Hp.o.same hp
 subst e1 e2 e3
 clear hp
 obtain ⟨B5, d5, rfl, hm5a, hm5b⟩ := hM.shape
 clear p0 p1 t0 t1 t2 lp lt'
 clear q0 q1 lq
 refine Wi ?_; clear hP hT hO hC; intro hP hT hO hC
 replace hN := hN.below' hb
 replace hB := hB.trans (hb.mono hB.size)
 clear hb
 go_upto_region 18 with fail
 obtain ⟨W5, hW5⟩ := Exq (w5.alloc (.cells #[.int .i64 r', .slice B5 l'.length d5] 24))
 rw [← hW5]
 have hX5 : Blk W5 w5.heap.size 24 #[.int .i64 r', .slice B5 l'.length d5] := by rw [hW5]; exact Blk.new' rfl
 have hb : Below w5.heap.size w5 W5 := by rw [hW5]; exact (Bnq _ _)
 refine Wi ?_; clear hP hT hO hC; intro hP hT hO hC
 replace hN := hN.below' hb
 replace hB := hB.trans (hb.mono hB.size)
 have hM5 := hM.below' hb
 clear hM hb hW5
 obtain ⟨g5, hg⟩ := Exq w5.heap.size
 rw [← hg] at hX5 ⊢
 refine Kl fun p0 p1 t0 t1 t2 lp lt' => ?_; clear hg
 go_wp2_with fail
 refine Calls.mono (HOn.o _ hB) ?_
 rintro e w6 ⟨vx, rfl, hM, hb⟩
 obtain ⟨B6, d6, rfl, hm6a, hm6b⟩ := hM.shape
 clear p0 p1 t0 t1 t2 lp lt'
 refine Wi ?_; clear hP hT hO hC; intro hP hT hO hC
 replace hX5 := hX5.below hb hX5.lt
 replace hN := hN.below' hb
 replace hM5 := hM5.below' hb
 replace hB := hB.trans (hb.mono hB.size)
 clear hb
 go_upto_region 19 with fail
 obtain ⟨W6, hW6⟩ := Exq (w6.alloc (.cells #[.int .i64 r3, .slice B6 l3.length d6] 24))
 rw [← hW6]
 have hX6 : Blk W6 w6.heap.size 24 #[.int .i64 r3, .slice B6 l3.length d6] := by rw [hW6]; exact Blk.new' rfl
 have hb : Below w6.heap.size w6 W6 := by rw [hW6]; exact (Bnq _ _)
 refine Wi ?_; clear hP hT hO hC; intro hP hT hO hC
 replace hX5 := hX5.below hb hX5.lt
 replace hN := hN.below' hb
 replace hM5 := hM5.below' hb
 replace hB := hB.trans (hb.mono hB.size)
 have hM6 := hM.below' hb
 clear hM hb hW6
 obtain ⟨g6, hg⟩ := Exq w6.heap.size
 rw [← hg] at hX6 ⊢
 refine Kl fun p0 p1 t0 t1 t2 lp lt' => ?_; clear hg
 go_wp2_with fail
 refine Calls.mono (HPo.o _ hB) ?_
 rintro e w7 ⟨cx, rx, lx, vx, rfl, hp, hM, hb⟩
 obtain ⟨e1, e2, e3⟩ := Hp.o.same hp
 subst e1 e2 e3
 clear hp
 obtain ⟨B7, d7, rfl, hm7a, hm7b⟩ := hM.shape
 clear p0 p1 t0 t1 t2 lp lt'
 refine Ku ?_; clear hP hT hO hC hX5 hX6; intro hP hT hO hC hX5 hX6
 replace hN := hN.below' hb
 replace hM5 := hM5.below' hb
 replace hM6 := hM6.below' hb
 replace hB := hB.trans (hb.mono hB.size)
 clear hb
 go_upto_region 20 with fail
 obtain ⟨W7, hW7⟩ := Exq (w7.alloc (.cells #[.int .i64 r', .slice B7 l'.length d7] 24))
 rw [← hW7]
 have hX7 : Blk W7 w7.heap.size 24 #[.int .i64 r', .slice B7 l'.length d7] := by rw [hW7]; exact Blk.new' rfl
 have hb : Below w7.heap.size w7 W7 := by rw [hW7]; exact (Bnq _ _)
 refine Ku ?_; clear hP hT hO hC hX5 hX6; intro hP hT hO hC hX5 hX6
 replace hN := hN.below' hb
 replace hM5 := hM5.below' hb
 replace hM6 := hM6.below' hb
 replace hB := hB.trans (hb.mono hB.size)
 have hM7 := hM.below' hb
 clear hM hb hW7
 obtain ⟨g7, hg⟩ := Exq w7.heap.size
 rw [← hg] at hX7 ⊢
 refine Kl fun p0 p1 t0 t1 t2 lp lt' => ?_; clear hg
 go_wp2_with fail
 refine Calls.mono (HOo.o _ hB) ?_
 rintro e w8 ⟨vx, rfl, hM, hb⟩
 obtain ⟨B8, d8, rfl, hm8a, hm8b⟩ := hM.shape
 clear p0 p1 t0 t1 t2 lp lt'
 refine Ku ?_; clear hP hT hO hC hX5 hX6; intro hP hT hO hC hX5 hX6
 replace hX7 := hX7.below hb hX7.lt
 replace hN := hN.below' hb
 replace hM5 := hM5.below' hb
 replace hM6 := hM6.below' hb
 replace hM7 := hM7.below' hb
 replace hB := hB.trans (hb.mono hB.size)
 clear hb
 go_upto_region 21 with fail
 obtain ⟨W8, hW8⟩ := Exq (w8.alloc (.cells #[.int .i64 r3, .slice B8 l3.length d8] 24))
 rw [← hW8]
 have hX8 : Blk W8 w8.heap.size 24 #[.int .i64 r3, .slice B8 l3.length d8] := by rw [hW8]; exact Blk.new' rfl
 have hb : Below w8.heap.size w8 W8 := by rw [hW8]; exact (Bnq _ _)
 refine Ku ?_; clear hP hT hO hC hX5 hX6; intro hP hT hO hC hX5 hX6
 replace hX7 := hX7.below hb hX7.lt
 replace hN := hN.below' hb
 replace hM5 := hM5.below' hb
 replace hM6 := hM6.below' hb
 replace hM7 := hM7.below' hb
 replace hB := hB.trans (hb.mono hB.size)
 have hM8 := hM.below' hb
 clear hM hb hW8
 obtain ⟨g8, hg⟩ := Exq w8.heap.size
 rw [← hg] at hX8 ⊢
 clear hg
 go_wp2_with fail
 refine Calls.mono (HBe.o _ hB) ?_
 rintro e w9 ⟨rfl, hb⟩
 refine Kd ?_; clear hP hT hO hC hX5 hX6 hX7 hX8 hN hM5 hM6 hM7 hM8 hB hb; intro hP hT hO hC hX5 hX6 hX7 hX8 hN hM5 hM6 hM7 hM8 hB
 have HSm := bA (mL regs regs A OA l l cap oc _ (HA.o _ hB) hN.nodes hlm hlm)
 have x0 := hP.cell 0
 have x1 := hP.cell 1
 have y0 := hO.cell 0
 have y1 := hO.cell 1
 simp only [Yl] at x0 x1 y0 y1
 have c0 := hC.cell 0
 have c1 := hC.cell 1
 simp only [Yl] at c0 c1
 by_cases hcg : cg = 0
 · (
 subst hcg
 clear Hcg
 go_wp2_with fail
 clear c0 c1
 refine Calls.mono HSm.o ?_
 rintro e w10 ⟨rfl, hb⟩
 simp only [beq_self_eq_true, Bool.and_self]
 refine J2 ?_; clear HSm x0 x1 y0 y1 hP hT hO hC hX5 hX6 hX7 hX8 hN hM5 hM6 hM7 hM8 hB hb; intro hP hT hO hC hX5 hX6 hX7 hX8 hN hM5 hM6 hM7 hM8 hB HSm x0 x1 y0 y1
 go_wp2_with fail
 refine Calls.mono HSm.o ?_
 rintro e w11 ⟨rfl, hb⟩
 simp only [beq_self_eq_true, Bool.and_self]
 refine J3 ?_; clear HSm x0 x1 y0 y1 hP hT hO hC hX5 hX6 hX7 hX8 hN hM5 hM6 hM7 hM8 hB hb; intro hP hT hO hC hX5 hX6 hX7 hX8 hN hM5 hM6 hM7 hM8 hB HSm x0 x1 y0 y1
 go_wp2_with fail
 refine Calls.mono HSm.o ?_
 rintro e w12 ⟨rfl, hb⟩
 simp only [beq_self_eq_true, Bool.and_self]
 clear HSm x0 x1 y0 y1
 refine Kd ?_; clear hP hT hO hC hX5 hX6 hX7 hX8 hN hM5 hM6 hM7 hM8 hB hb; intro hP hT hO hC hX5 hX6 hX7 hX8 hN hM5 hM6 hM7 hM8 hB
 go_wp2_with fail
 go_ret
 exact ⟨rfl, hB⟩)
 · (
 obtain ⟨hne, hl4⟩ : cg ≠ 0 ∧ l4 = [] := Hcg.o.resolve_left hcg
 have hl0 : l4.length = 0 := by rw [hl4]; rfl
 have hg0 : (cg == 0) = false := beq_eq_false_iff_ne.2 hcg
 rw [hl0] at c1
 clear hne hl4 hcg Hcg
 go_wp2_with fail
 clear c0 c1
 refine Calls.mono HSm.o ?_
 rintro e w10 ⟨rfl, hb⟩
 simp only [beq_self_eq_true, Bool.and_self]
 refine J2 ?_; clear HSm x0 x1 y0 y1 hP hT hO hC hX5 hX6 hX7 hX8 hN hM5 hM6 hM7 hM8 hB hb; intro hP hT hO hC hX5 hX6 hX7 hX8 hN hM5 hM6 hM7 hM8 hB HSm x0 x1 y0 y1
 go_wp2_with fail
 refine Calls.mono HSm.o ?_
 rintro e w11 ⟨rfl, hb⟩
 simp only [beq_self_eq_true, Bool.and_self]
 refine J3 ?_; clear HSm x0 x1 y0 y1 hP hT hO hC hX5 hX6 hX7 hX8 hN hM5 hM6 hM7 hM8 hB hb; intro hP hT hO hC hX5 hX6 hX7 hX8 hN hM5 hM6 hM7 hM8 hB HSm x0 x1 y0 y1
 go_wp2_with fail
 refine Calls.mono HSm.o ?_
 rintro e w12 ⟨rfl, hb⟩
 simp only [beq_self_eq_true, Bool.and_self]
 clear HSm x0 x1 y0 y1
 refine Kd ?_; clear hP hT hO hC hX5 hX6 hX7 hX8 hN hM5 hM6 hM7 hM8 hB hb; intro hP hT hO hC hX5 hX6 hX7 hX8 hN hM5 hM6 hM7 hM8 hB
 go_wp2_with fail
 go_ret
 exact ⟨rfl, hB⟩))))))))
end
section
open Go.ChangeShapes Go.WideShapes Go.ChangeAt Go.WideMaps Go.WideElems Go.RowKit
theorem Tryz.own : ownKnob prog.godebug = none := Zc
theorem Tryz.laidOut : laidOutB prog = true := Zc
theorem gPow : prog.globalNamed "internal/strconv.uint64pow10" = some 3 := Zc
theorem tPow : (prog.globals[3]?).map (·.type) = some 223 := Zc
theorem gSyn : prog.globalNamed "strconv.ErrSyntax" = some 1 := Zc
theorem tSyn : (prog.globals[1]?).map (·.type) = some 105 := Zc
theorem gRng : prog.globalNamed "strconv.ErrRange" = some 2 := Zc
theorem tRng : (prog.globals[2]?).map (·.type) = some 105 := Zc
theorem bHI : "*" ++ "errors.errorString" = "*errors.errorString" := Ze
theorem bLK (u : TypeId) (h : prog.typeName? 3 u = some "*errors.errorString") : u = 229 :=
 typeName_ptr_named (nm := "errors.errorString") (by rw [bHI]; kernel_rfl) Zc Ze u (by rw [bHI]; exact h)
theorem bES {W : World} (h : laidMetH prog Rows.restProgsRow.laid W) (hsh : W.ShapedOpen prog) : Tv W := by (
 rw [MakeChecks.laidMetH_plain _ _ _ Zc] at h
 have h2 := h.tail.tail
 have h4 := h2.tail.tail
 obtain ⟨a1, s1, hv1, _, _, _⟩ := laid_sentinel h4 gRng tRng underlying105 bLK underlying229 underlying231 rfl rfl underlying9 Zc Zc
 obtain ⟨a2, s2, hv2, _, _, _⟩ := laid_sentinel h4.tail gSyn tSyn underlying105 bLK underlying229 underlying231 rfl rfl underlying9 Zc Zc
 exact ⟨Lib.tabIs_of_head gPow tPow underlying223 underlying158 Zc Zc h2, ⟨_, _, hv2⟩, ⟨_, _, hv1⟩, cell_of_shapedOpen_int (zero := #[.int .i64 0]) (t := 3) hsh (of_decide_eq_true Zc) Zc rfl Zc Zc underlying3⟩)
noncomputable def bGH : Array Value := ((match (Rows.laid_unicode_utf8_first : DataW Unit) with | .agg l => l.map (fun (d : DataW Unit) => match d with | DataW.lit (Lit.int k n) => Value.int k n | _ => undef) | _ => []).toArray)
noncomputable def zK (os : Os) : World :=
 { World.doorLaid prog 400 os with heap := (World.doorLaid prog 400 os).heap.modify 6 fun
  | .cells _ t frozen => .cells bGH t frozen
  | o => o }
theorem bPO (os : Os) : laidMet prog Rows.restProgsRow.laid ((zK os).forCall (fun _ _ => 0) ⟨#[], #[.agg #[.int .i64 0, .slice none 0 0], .agg #[.int .i64 0, .int .i64 0, .int .i64 0], .slice none 0 0], []⟩).memory :=
 laidMet_of_run' 8 Zc Zc
end
end Go.Proofs.YtmghkonmfbpjcaaGreatDoor
