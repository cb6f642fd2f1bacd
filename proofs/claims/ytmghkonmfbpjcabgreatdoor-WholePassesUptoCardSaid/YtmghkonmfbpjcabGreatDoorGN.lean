/- Parts. -/
import Derived.Test.YtmghkonmfbpjcabGreatDoorRunI
import Derived.Test.YtmghkonmfbpjcabGreatDoorRows
import Derived.LaidMore
import Derived.OpenShut
import Derived.Stop.LaidErr
import Derived.Deep.DeepWitnessRowRef
set_option linter.unusedVariables false
set_option linter.unusedSimpArgs false
set_option maxRecDepth 100000
set_option maxHeartbeats 16000000
namespace Go.Proofs.YtmghkonmfbpjcabGreatDoor
open Go.Proofs.Tryz
section
open Go.RowKit
theorem bQK (regs : Int) (A : Option Addr) (l : List Nd) (cap : Nat) (Ai : Option Addr) (inp : List Int) (ci : Nat) (fuel : Int) (w : World) (hl : l.length ≤ maxLen) (hA : bH w A l) (hI : bG w Ai (bN inp)) (hic : inp.length ≤ ci ∧ ci ≤ maxLen) :
 Calls prog 25 #[.agg #[.int .i64 regs, .slice A l.length cap], .slice Ai inp.length ci, .int .i64 fuel] w (iZ 3 114 regs l inp fuel w) := by (
 by_cases h0 : chk regs l = 0
 · (
 by_cases h1 : 256 < inp.length
 · exact bOK regs A l cap Ai inp ci fuel w hl hA h0 h1
 · (
 by_cases h2 : fuel < 0
 · exact bKW regs A l cap Ai inp ci fuel w hl hA h0 Zb h2
 · (
 by_cases h3 : 131072 < fuel
 · exact bKV regs A l cap Ai inp ci fuel w hl hA h0 Zb h3
 · exact bSC regs A l cap Ai inp ci fuel w hl hA hI hic h0 Zb Zb Zb)))
 · exact bOL regs A l cap Ai inp ci fuel w hl hA h0)
end
section
open Go.RowKit
attribute [local irreducible] Row madeCells
end
section
open Go.RowKit
attribute [local irreducible] Row madeCells
theorem yL {w : World} {cs : Array Value} {t : TypeId} {g : Nat} {xs : List Value} (h : g = w.heap.size) (hc : cs = xs.toArray) : bG (w.alloc (.cells cs t)) (some ⟨g, 0, none⟩) xs := by (
 subst hc
 have hb := Blk.new' (w := w) (t := t) (cs := xs.toArray) h
 refine bG.mk hb.lt fun i v hi => ?_
 rw [Nat.zero_add, hb.cell]
 simpa using hi)
theorem bLR (w : World) : Calls prog 28 #[] w fun e w' => e = .returned (.agg #[.int .i64 3, .int .i64 0, .int .i64 1]) ∧ Below w.heap.size w w' := by (
 go_enter func28, ntmps28
 go_wp2
 refine bodyPost_ret (v := .agg #[.int .i64 3, .int .i64 0, .int .i64 1]) (by simp [results, results28, go_sem]) rfl ⟨rfl, Yc⟩)
end
section
open Go.RowKit
def fH : List Nd := [⟨9, 0, 0, 0, 1, 0⟩, ⟨9, 1, 0, 0, 2, 0⟩, ⟨11, 0, 0, 0, 3, 7⟩, ⟨3, 3, 0, 1, 9, 0⟩, ⟨10, 0, 2, 0, 8, 0⟩, ⟨2, 2, 3, 0, 6, 0⟩, ⟨12, 0, 2, 0, 0, 0⟩, ⟨3, 3, 0, 1, 10, 0⟩, ⟨0, 0, 0, 0, 5, 0⟩, ⟨2, 2, 3, 0, 4, 0⟩, ⟨0, 0, 0, 0, 5, 0⟩]
theorem bES : mW 3 fT = 0 := by decide +kernel
theorem sF : gM (tR fT) 3 fT = (0, 4, fH) := by decide +kernel
theorem wW : chk 4 fH = 0 := Ze
theorem bBQ : iS fH = fH := by decide +kernel
theorem bCI : sX 4 fH [4, 5] 99 = 0 := by decide +kernel
theorem bCH : uQ 4 fH [4, 5] 99 = ⟨[9], 9, true, 9, [(⟨3, 0, 1⟩, 1)]⟩ := of_decide_eq_true Zc
theorem qR : kE 3 fT [2, 3, 4] 0 4 fH := by
 refine .inr (.inr (.inr ⟨pW, Zf, ?_, ?_⟩))
 ·intro n hn
  simp only [Uo, List.not_mem_nil, or_false] at hn
  omega
 ·refine .next (r1 := 4) (l1 := fH) (.inr (.inl ⟨rfl, .inr ⟨bES, rfl, ?_, ?_⟩⟩)) (.next (r1 := 4) (l1 := fH) (.inr (.inr (.inl ⟨rfl, rfl, rfl, ?_⟩))) (.next (r1 := 4) (l1 := fH) (.inr (.inr (.inr ⟨rfl, rfl, rfl, bBQ.symm⟩))) .nil))
  ·rw [sF]
  ·rw [sF]
  ·exact ⟨.nil _, bCQ (bS wW) (by decide +kernel)⟩
theorem bJQ {t : List UInt8} {code : Int} (h : bFF (cD 3 fT) [2, 3, 4] t code) : t = cD 4 fH ∧ code = 0 := by
 rcases h with ⟨h, _⟩ | ⟨r, l, c, r', l', hc, hf, hs, hp, h⟩
 ·exact absurd rfl (h _ _ pW pV)
 ·obtain ⟨e1, e2⟩ := vP (gP pW pV) (gP hc hf) hs
  subst e1 e2
  obtain ⟨e3, e4, e5⟩ := hp.same qR
  subst e3 e4 e5
  rcases h with ⟨h, _⟩ | ⟨_, h1, h2, _⟩
  ·exact absurd rfl h
  ·exact ⟨h2, h1⟩
theorem wT : Fit fH := (qR.fine pV).2.2.2.2
theorem vE (w : World) (hT : Tv w) : Calls prog 8 #[] w fun e w' => e = .returned (.bool true) ∧ Below w.heap.size w w' := by
 have HSm := fun W => bA (bJG W)
 go_enter func8, ntmps8
 go_wp2_with fail
 refine Calls.mono (HSm _).out ?_
 rintro e w1 ⟨g1, rfl, hN1, hb1⟩
 have hT1 := hT.below hb1
 have HSh := bA (bIT 3 (some ⟨g1, 0, none⟩) fT 7 w1 (by unfold maxLen; decide) hN1.nodes pW hT1 pV)
 go_wp2_with fail
 refine Calls.mono HSh.o ?_
 rintro e w2 ⟨rfl, hb2⟩
 have hB2 := hb1.trans (hb2.mono hb1.size)
 have hB3 : Below w.heap.size w (w2.alloc (.cells #[.int .i64 2, .int .i64 3, .int .i64 4] 3)) := hB2.alloc hB2.size _
 have HO := bA (sK (cD 3 fT) bJH (some ⟨w2.heap.size, 0, none⟩) [2, 3, 4] 3 _ (yL (w := w2) (t := 3) (xs := bN [2, 3, 4]) rfl rfl) Xu (by intro n hn; simp only [Uo, List.not_mem_nil, or_false] at hn; rcases hn with rfl | rfl | rfl <;> decide) (hT.below hB3))
 clear HSh hb1 hb2 hN1 hT1
 go_wp2_with fail
 refine Calls.mono HO.o ?_
 rintro e w3 ⟨tx, code, rfl, hb3, hopt⟩
 obtain ⟨e1, e2⟩ := bJQ hopt
 subst e1 e2
 have hB4 := hB3.trans (hb3.mono hB3.size)
 have hlen : (cD 4 fH).length ≤ 4294967280 := by
  have := pX (l := fH) (regs := 4) ⟨Zb, Zb⟩ wT
  have h11 : fH.length = 11 := rfl
  omega
 have HR := bA (bEZ (cD 4 fH) hlen w3 (hT.below hB4))
 clear HO hopt hB3 hB2 hb3 hlen
 go_wp2_with fail
 refine Calls.mono HR.o ?_
 rintro e w4 ⟨r4, l4, v4, ok4, rfl, hN4, hb4, hg4⟩
 have hgW : zT (cD 4 fH) 4 fH true := Or.inl ⟨rfl, wW, wT, rfl⟩
 obtain ⟨e1, e2, e3⟩ := hg4.same hgW
 subst e1 e2 e3
 rw [if_pos rfl]
 obtain ⟨A4, c4, rfl, _, _⟩ := hN4.shape
 rw [show fH.length = 11 from rfl] at *
 have hB5 := hB4.trans (hb4.mono hB4.size)
 clear HR hg4 hgW hB4 hb4
 have hX5 := Blk.new w4 24 #[.int .i64 4, .slice A4 11 c4]
 have hN5 := hN4.alloc (.cells #[.int .i64 4, .slice A4 11 c4] 24)
 have hB6 := hB5.alloc hB5.size (.cells #[.int .i64 4, .slice A4 11 c4] 24)
 have x0 := hX5.cell 0
 have x1 := hX5.cell 1
 simp only [Yl] at x0 x1
 clear hN4 hB5
 go_wp2_with fail
 have hnd := hN5.nodes
 refine Calls.mono (bQK 4 A4 fH c4 (some ⟨w4.heap.size + 1, 0, none⟩) [4, 5] 2 99 _ (by simp [maxLen, fH]) (hnd.below ((Bnq _ _))) (yL Zf rfl) ⟨Zf, by simp [maxLen]⟩) ?_
 rintro e v1 ⟨hc1, u1, rfl, ov1, cv1, rfl, hO1, hC1⟩
 rw [bCH] at hO1 hC1 ⊢
 rw [bCI]
 obtain ⟨D1, q1, rfl, _, _⟩ := hO1.shape
 obtain ⟨E1, p1, rfl, _, _⟩ := hC1.shape
 have hB1 : Below w.heap.size w v1 := hB6.trans (((Bnq _ _)).trans (hc1.mono Zf) |>.mono hB6.size)
 have H1 := bA hO1.vals
 have G1 := bA hC1.nodes
 clear hN5 hnd hO1 hC1 hc1 hX5 x0 x1 hB6
 go_upto_region 5 with fail
 obtain ⟨W5, hW5⟩ := Exq (v1.alloc (.cells #[.slice D1 (bN [9]).length q1, .int .i64 9, .bool true, .int .i64 9, .slice E1 1 p1] 50))
 have b1 : Blk W5 v1.heap.size 50 #[.slice D1 (bN [9]).length q1, .int .i64 9, .bool true, .int .i64 9, .slice E1 1 p1] := by rw [hW5]; exact Blk.new' rfl
 have hB5 : Below v1.heap.size v1 W5 := by rw [hW5]; exact (Bnq _ _)
 have hBw : Below w.heap.size w W5 := hB1.trans (hB5.mono hB1.size)
 have HI := fun (V : World) (hV : Below W5.heap.size W5 V) (g : Nat) (hg : Blk V g 3 #[.int .i64 9]) => bA (bBG D1 (some ⟨g, 0, none⟩) q1 1 [9] [9] V ((H1.o.below hB5).below hV) (fun _ => ⟨g, 0, rfl, hg.lt, fun i v hi => by rw [Nat.zero_add, hg.cell]; simpa [bN] using hi⟩) Xu Xu)
 have HT1 := fun (V : World) (hV : Below W5.heap.size W5 V) => bA (by have h := bKR D1 (bN [9]).length q1 9 true 9 E1 p1 [(⟨3, 0, 1⟩, 1)] ⟨3, 0, 1⟩ V ((G1.out.below hB5).below hV) Xu; rw [show fP [((⟨3, 0, 1⟩ : Tm), (1 : Int))] ⟨3, 0, 1⟩ = 1 from by decide] at h; exact h)
 have HS := fun V => bA (bLR V)
 rw [← hW5]
 have c0 := b1.cell 0
 have c1 := b1.cell 1
 have c2 := b1.cell 2
 have c3 := b1.cell 3
 have c4' := b1.cell 4
 have l1 := b1.lt
 simp only [Yl] at c0 c1 c2 c3 c4'
 clear hW5 b1 hB5 hB1
 obtain ⟨a1, ha1⟩ := Exq v1.heap.size
 rw [← ha1] at c0 c1 c2 c3 c4' l1
 rw [← ha1]
 clear ha1
 -- region 5
 refine wp_region_held_drew (S := fun w' => w'.cell? ⟨a1, 0, none⟩ = some (.slice D1 (bN [9]).length q1) ∧ w'.cell? ⟨a1, 1, none⟩ = some (.int .i64 9) ∧ w'.cell? ⟨a1, 2, none⟩ = some (.bool true) ∧ w'.cell? ⟨a1, 3, none⟩ = some (.int .i64 9) ∧ w'.cell? ⟨a1, 4, none⟩ = some (.slice E1 1 p1)) Zc ⟨c0, c1, c2, c3, c4'⟩ ?_
 intro hH
 have hC0 : Below W5.heap.size W5 W5.drew := (Below.refl _ _).drew
 refine Up (fun _ _ _ _ _ => id) fun hP => ?_
 iterate 26 (refine Wb hP hH ?_; try simp only [Nm])
 refine Rd 26 Zc rfl (fun K hK => ?_)
 have HK26 := bA hK
 clear hK
 go_simp
 obtain ⟨W6, hW6⟩ := Exq ((W5.alloc (.cells #[.int .i64 9] 3)).drew)
 rw [← hW6]
 have hC6 : Below W5.heap.size W5 W6 := by rw [hW6]; exact Below.drew ((Bnq _ _))
 have hB6 : Blk W6 W5.heap.size 3 #[.int .i64 9] := by rw [hW6]; exact (Blk.new' rfl).drew
 clear hH hW6
 have hH : W6.cell? ⟨a1, 0, none⟩ = some (.slice D1 (bN [9]).length q1) ∧ W6.cell? ⟨a1, 1, none⟩ = some (.int .i64 9) ∧ W6.cell? ⟨a1, 2, none⟩ = some (.bool true) ∧ W6.cell? ⟨a1, 3, none⟩ = some (.int .i64 9) ∧ W6.cell? ⟨a1, 4, none⟩ = some (.slice E1 1 p1) := ⟨((bB hC6).1 _ _ l1).trans c0, ((bB hC6).1 _ _ l1).trans c1, ((bB hC6).1 _ _ l1).trans c2, ((bB hC6).1 _ _ l1).trans c3, ((bB hC6).1 _ _ l1).trans c4'⟩
 refine Shut.out HK26.o _ _ hH (fun _ => ?_)
 try simp only [Nm]
 clear HK26
 refine Rd 27 Zc rfl (fun K hK => ?_)
 have HK27 := bA hK
 clear hK
 go_simp
 go_at_call 26
 refine ((HI _ hC6 _ hB6).out).mono ?_
 rintro e W7 ⟨rfl, dd, h7⟩
 have hC7 : Below W5.heap.size W5 W7 := by rw [h7]; exact bZ hC6 _
 clear hH h7 hB6
 have hH : W7.cell? ⟨a1, 0, none⟩ = some (.slice D1 (bN [9]).length q1) ∧ W7.cell? ⟨a1, 1, none⟩ = some (.int .i64 9) ∧ W7.cell? ⟨a1, 2, none⟩ = some (.bool true) ∧ W7.cell? ⟨a1, 3, none⟩ = some (.int .i64 9) ∧ W7.cell? ⟨a1, 4, none⟩ = some (.slice E1 1 p1) := ⟨((bB hC7).1 _ _ l1).trans c0, ((bB hC7).1 _ _ l1).trans c1, ((bB hC7).1 _ _ l1).trans c2, ((bB hC7).1 _ _ l1).trans c3, ((bB hC7).1 _ _ l1).trans c4'⟩
 refine Shut.out HK27.o _ _ hH (fun _ => ?_)
 try simp only [Nm]
 clear HK27
 iterate 3 (refine Wb hP hH ?_; try simp only [Nm])
 refine Rd 31 Zc rfl (fun K hK => ?_)
 have HK31 := bA hK
 clear hK
 go_simp
 go_at_call 28
 refine ((HS _).out).mono ?_
 rintro e W8 ⟨rfl, hbW8⟩
 have hC8 : Below W5.heap.size W5 W8 := hC7.trans (hbW8.mono hC7.size)
 clear hH
 have hH : W8.cell? ⟨a1, 0, none⟩ = some (.slice D1 (bN [9]).length q1) ∧ W8.cell? ⟨a1, 1, none⟩ = some (.int .i64 9) ∧ W8.cell? ⟨a1, 2, none⟩ = some (.bool true) ∧ W8.cell? ⟨a1, 3, none⟩ = some (.int .i64 9) ∧ W8.cell? ⟨a1, 4, none⟩ = some (.slice E1 1 p1) := ⟨((bB hC8).1 _ _ l1).trans c0, ((bB hC8).1 _ _ l1).trans c1, ((bB hC8).1 _ _ l1).trans c2, ((bB hC8).1 _ _ l1).trans c3, ((bB hC8).1 _ _ l1).trans c4'⟩
 refine Shut.out HK31.o _ _ hH (fun _ => ?_)
 try simp only [Nm]
 clear HK31
 refine Rd 32 Zc rfl (fun K hK => ?_)
 have HK32 := bA hK
 clear hK
 go_simp
 go_at_call 27
 refine ((HT1 _ hC8).out).mono ?_
 rintro e W9 ⟨rfl, hbW9⟩
 have hC9 : Below W5.heap.size W5 W9 := hC8.trans (hbW9.mono hC8.size)
 clear hH
 have hH : W9.cell? ⟨a1, 0, none⟩ = some (.slice D1 (bN [9]).length q1) ∧ W9.cell? ⟨a1, 1, none⟩ = some (.int .i64 9) ∧ W9.cell? ⟨a1, 2, none⟩ = some (.bool true) ∧ W9.cell? ⟨a1, 3, none⟩ = some (.int .i64 9) ∧ W9.cell? ⟨a1, 4, none⟩ = some (.slice E1 1 p1) := ⟨((bB hC9).1 _ _ l1).trans c0, ((bB hC9).1 _ _ l1).trans c1, ((bB hC9).1 _ _ l1).trans c2, ((bB hC9).1 _ _ l1).trans c3, ((bB hC9).1 _ _ l1).trans c4'⟩
 refine Shut.out HK32.o _ _ hH (fun _ => ?_)
 try simp only [Nm]
 clear HK32
 iterate 3 (refine Wb hP hH ?_; try simp only [Nm])
 refine wpAnyH_done Zc ?_ _
 -- end of region 5
 go_wp2_with fail
 go_ret
 exact ⟨rfl, hBw.trans (hC9.mono hBw.size)⟩
end
section
open Go.RowKit
theorem bFF.same {s : List UInt8} {ns : List Int} {t1 t2 : List UInt8} {c1 c2 : Int} (h : bFF s ns t1 c1) (h' : bFF s ns t2 c2) : t1 = t2 ∧ c1 = c2 := by (
 rcases h with ⟨a, b, c⟩ | ⟨r, l, c, r', l', hc, hf, hs, hp, h⟩ <;> rcases h' with ⟨a', b', c'⟩ | ⟨r2, l2, cc, r2', l2', hc2, hf2, hs2, hp2, h2⟩
 · exact ⟨c.trans c'.symm, b.trans b'.symm⟩
 · exact absurd hs2 (a _ _ hc2 hf2)
 · exact absurd hs (a' _ _ hc hf)
 · (
 obtain ⟨e1, e2⟩ := vP (gP hc hf) (gP hc2 hf2) (hs.symm.trans hs2)
 subst e1 e2
 obtain ⟨e1, e2, e3⟩ := hp.same hp2
 subst e1 e2 e3
 rcases h with ⟨h, e1, e2⟩ | ⟨h, e1, e2, _⟩ <;> rcases h2 with ⟨h', e1', e2'⟩ | ⟨h', e1', e2', _⟩
 · exact ⟨e2.trans e2'.symm, e1.trans e1'.symm⟩
 · exact absurd h' h
 · exact absurd h h'
 · exact ⟨e2.trans e2'.symm, e1.trans e1'.symm⟩))
theorem yF (s : List UInt8) (hs : s.length ≤ 4294967280) (S : Option Addr) (ns : List Int) (ci : Nat) (w : World) (hI : bG w S (bN ns)) (hnl : ns.length ≤ maxLen) :
 Calls prog 7 #[cE s, .slice S ns.length ci] w (bIV s ns w) := by (
 have HR := bA (bBI s hs w)
 go_enter func7, ntmps7
 go_wp2_with fail
 refine Calls.mono HR.o ?_
 rintro e w1 ⟨regs, l, v, ok, rfl, hN1, hb1, hg⟩
 obtain ⟨A1, c1, rfl, _, hc1⟩ := hN1.shape
 have Hg := bA hg
 clear HR hg
 cases ok with
 | false =>
  have hno : oH s := by (
 rcases Hg.o with ⟨h, _⟩ | ⟨_, _, _, h⟩
 · cases h
 · exact h)
  have Hno := bA hno
  clear hno
  go_wp2_with fail
  go_ret2
  exact ⟨[], 1, rfl, hb1.alloc hb1.size _, .inl ⟨Hno.o, rfl, rfl⟩⟩
 | true =>
  obtain ⟨hc, hf, hsh⟩ : chk regs l = 0 ∧ Fit l ∧ s = cD regs l := by (
 rcases Hg.o with ⟨_, h1, h2, h3⟩ | ⟨h, _⟩
 · exact ⟨h1, h2, h3⟩
 · cases h)
  refine Wy fun hB2 hQ2 hN2 => ?_
  have HP := bA (sJ regs A1 l c1 S ns ci _ hN2.nodes (hI.below hB2) hnl)
  have q0 := hQ2.cell 0
  have q1 := hQ2.cell 1
  simp only [Yl] at q0 q1
  have Hc := bA hc
  have Hf := bA hf
  have Hsh := bA hsh
  clear hc hf hsh hN1 hb1
  go_wp2_with fail
  refine Calls.mono HP.o ?_
  rintro e w3 ⟨c, r', l', v', rfl, hp, hN3, hb3⟩
  obtain ⟨A3, c3, rfl, _, hc3⟩ := hN3.shape
  have hB3 := hB2.trans (hb3.mono hB2.size)
  have Hp := bA hp
  clear HP hp hQ2 hN2 hb3 hB2 q0 q1
  by_cases hc0 : c = 0
  · (
 subst hc0
 obtain ⟨hR, hin, hps, hR', hF'⟩ := Hp.o.fine Hf.o
 refine Wz fun hB4 hQ4 hN4 => ?_
 obtain ⟨hm1, hm256, hr1, hr64, hmo⟩ := jL hR'.chk
 have HS := bA (sH r' A3 l' c3 _ hN4.nodes hm256 ⟨Zb, Zb⟩ hmo hF')
 have q0 := hQ4.cell 0
 have q1 := hQ4.cell 1
 simp only [Yl] at q0 q1
 have HF' := bA hF'
 have HR' := bA hR'
 clear hR hin hps hR' hF' hN3 hN4 hQ4 hmo
 go_wp2_with fail
 refine Calls.mono HS.o ?_
 rintro e w5 ⟨rfl, hb5⟩
 go_wp2_with fail
 go_ret2
 exact ⟨_, 0, rfl, hB4.trans (hb5.mono hB4.size), .inr ⟨regs, l, 0, r', l', Hc.o, Hf.o, Hsh.o, Hp.o, .inr ⟨rfl, rfl, rfl, HR'.o.chk, HF'.o⟩⟩⟩)
  · (
 have hne : (c != 0) = true := by simp [hc0]
 have Hc0 := bA hc0
 clear hc0
 go_wp2_with fail
 go_ret2
 exact ⟨[], c, rfl, hB3.alloc hB3.size _, .inr ⟨regs, l, c, r', l', Hc.o, Hf.o, Hsh.o, Hp.o, .inl ⟨Hc0.o, rfl, rfl⟩⟩⟩))
theorem uT (regs : Int) (A : Option Addr) (l : List Nd) (cap : Nat) (S : Option Addr) (ns : List Int) (ci : Nat) (s : List UInt8) (M : Option Addr) (ms : List Int) (mi : Nat) (w : World)
 (hA : bH w A l) (hl : l.length ≤ maxLen) (hI : bG w S (bN ns)) (hnl : ns.length ≤ maxLen) (hwf : ∀ n ∈ ns, (Lit.int .i64 n).wf = true) (hs : s.length ≤ 4294967280)
 (hM : bG w M (bN ms)) (hml : ms.length ≤ maxLen) (hwfm : ∀ n ∈ ms, (Lit.int .i64 n).wf = true) (hT : Tv w) :
 Calls prog 3 #[.agg #[.int .i64 regs, .slice A l.length cap], .slice S ns.length ci, cE s, .slice M ms.length mi] w fun e w' => e = .returned (.bool true) ∧ Below w.heap.size w w' := by (
 have hB0 : Below w.heap.size w (w.alloc (.cells #[.int .i64 regs, .slice A l.length cap] 24)) := (Bnq _ _)
 have hP0 := Blk.new w 24 #[.int .i64 regs, .slice A l.length cap]
 have HP := bA (fun W (hb : Below w.heap.size w W) => xH regs A l cap S ns ci W (hA.below hb) hl (hI.below hb) hnl hwf)
 have HR := bA (fun W (hb : Below w.heap.size w W) => sJ regs A l cap S ns ci W (hA.below hb) (hI.below hb) hnl)
 have HO := bA (fun W (hb : Below w.heap.size w W) => sK s hs M ms mi W (hM.below hb) hml hwfm (hT.below hb))
 have HF := bA (fun W (hb : Below w.heap.size w W) => yF s hs M ms mi W (hM.below hb) hml)
 have HT := bA (fun W (hb : Below w.heap.size w W) => vE W (hT.below hb))
 clear hA hI hM hT hwf hwfm
 go_enter func3, ntmps3
 go_wp2_with fail
 refine Calls.mono (HP.o _ hB0) ?_
 rintro e w1 ⟨c, r', l', v', rfl, hp, hN1, hb1⟩
 obtain ⟨A1, c1, rfl, hx1, hx2⟩ := hN1.shape
 have hB2 := (hB0.trans (hb1.mono hB0.size)).alloc (hB0.trans (hb1.mono hB0.size)).size (.cells #[.int .i64 r', .slice A1 l'.length c1] 24)
 have hP2 := (hP0.below hb1 hP0.lt).alloc (.cells #[.int .i64 r', .slice A1 l'.length c1] 24)
 have hQ2 := Blk.new w1 24 #[.int .i64 r', .slice A1 l'.length c1]
 have hN2 := hN1.alloc (.cells #[.int .i64 r', .slice A1 l'.length c1] 24)
 have Hp := bA hp
 have p0 := hP2.cell 0
 have p1 := hP2.cell 1
 simp only [Yl] at p0 p1
 clear HP hp hN1 hb1 hB0 hP0
 go_wp2_with fail
 refine Calls.mono (HR.o _ hB2) ?_
 rintro e w3 ⟨cx, rx, lx, vx, rfl, hp, hN3, hb3⟩
 obtain ⟨A3, c3, rfl, hx3, hx4⟩ := hN3.shape
 obtain ⟨e1, e2, e3⟩ := Hp.o.same hp
 subst e1 e2 e3
 have hB4 := (hB2.trans (hb3.mono hB2.size)).alloc (hB2.trans (hb3.mono hB2.size)).size (.cells #[.int .i64 r', .slice A3 l'.length c3] 24)
 have hQ4 := (hQ2.below hb3 hQ2.lt).alloc (.cells #[.int .i64 r', .slice A3 l'.length c3] 24)
 have hN4 := (hN2.below' hb3).alloc (.cells #[.int .i64 r', .slice A3 l'.length c3] 24)
 have hX4 := Blk.new w3 24 #[.int .i64 r', .slice A3 l'.length c3]
 have hM4 := hN3.alloc (.cells #[.int .i64 r', .slice A3 l'.length c3] 24)
 clear HR hp Hp hN3 hb3 hB2 hP2 hQ2 hN2 p0 p1
 go_wp2_with fail
 refine Calls.mono (HO.o _ hB4) ?_
 rintro e w5 ⟨t, code, rfl, hb5, ho⟩
 have Ho := bA ho
 have hB5 := hB4.trans (hb5.mono hB4.size)
 have hQ5 := hQ4.below hb5 hQ4.lt
 have hX5 := hX4.below hb5 hX4.lt
 have hN5 := hN4.below' hb5
 have hM5 := hM4.below' hb5
 clear HO ho hb5 hB4 hQ4 hX4 hN4 hM4
 go_wp2_with fail
 refine Calls.mono (HF.o _ hB5) ?_
 rintro e w6 ⟨t2, code2, rfl, hb6, ho⟩
 obtain ⟨e1, e2⟩ := Ho.o.same ho
 subst e1 e2
 have hB6 := hB5.trans (hb6.mono hB5.size)
 have hQ6 := hQ5.below hb6 hQ5.lt
 have hX6 := hX5.below hb6 hX5.lt
 have hN6 := hN5.below' hb6
 have hM6 := hM5.below' hb6
 clear HF ho Ho hb6 hB5 hQ5 hX5 hN5 hM5
 go_wp2_with fail
 refine Calls.mono (HT.o _ hB6) ?_
 rintro e w7 ⟨rfl, hb7⟩
 have hB7 := hB6.trans (hb7.mono hB6.size)
 have hQ7 := hQ6.below hb7 hQ6.lt
 have hX7 := hX6.below hb7 hX6.lt
 have hSm := bA (yD r' r' A1 A3 l' l' c1 c3 w7 (hN6.below' hb7).nodes (hM6.below' hb7).nodes Zb Zb)
 have q0 := hQ7.cell 0
 have q1 := hQ7.cell 1
 have x0 := hX7.cell 0
 have x1 := hX7.cell 1
 simp only [Yl] at q0 q1 x0 x1
 clear HT hb7 hB6 hQ6 hX6 hN6 hM6 hQ7 hX7
 go_wp2_with fail
 refine Calls.mono hSm.out ?_
 rintro e w8 ⟨rfl, hb8⟩
 have hB8 := hB7.trans (hb8.mono hB7.size)
 go_wp2_with fail
 go_ret
 exact ⟨Zf, hB8⟩)
end
section
open Go.ChangeShapes Go.WideShapes Go.ChangeAt Go.WideMaps Go.WideElems Go.RowKit
theorem Tryz.own : ownKnob prog.godebug = none := Zc
theorem Tryz.laidOut : laidOutB prog = true := Zc
theorem gPow : prog.globalNamed "internal/strconv.uint64pow10" = some 3 := Zc
theorem tPow : (prog.globals[3]?).map (·.type) = some 229 := Zc
theorem gSyn : prog.globalNamed "strconv.ErrSyntax" = some 1 := Zc
theorem tSyn : (prog.globals[1]?).map (·.type) = some 84 := Zc
theorem gRng : prog.globalNamed "strconv.ErrRange" = some 2 := Zc
theorem tRng : (prog.globals[2]?).map (·.type) = some 84 := Zc
theorem bIC : "*" ++ "errors.errorString" = "*errors.errorString" := Ze
theorem bMI (u : TypeId) (h : prog.typeName? 3 u = some "*errors.errorString") : u = 225 :=
 typeName_ptr_named (nm := "errors.errorString") (by rw [bIC]; kernel_rfl) Zc Ze u (by rw [bIC]; exact h)
theorem bFM {W : World} (h : laidMetH prog Rows.wholePassesUptoRow.laid W) (hsh : W.ShapedOpen prog) : Tv W := by (
 rw [MakeChecks.laidMetH_plain _ _ _ Zc] at h
 have h2 := h.tail.tail
 have h4 := h2.tail.tail
 obtain ⟨a1, s1, hv1, _, _, _⟩ := laid_sentinel h4 gRng tRng underlying84 bMI underlying225 underlying227 rfl rfl underlying9 Zc Zc
 obtain ⟨a2, s2, hv2, _, _, _⟩ := laid_sentinel h4.tail gSyn tSyn underlying84 bMI underlying225 underlying227 rfl rfl underlying9 Zc Zc
 exact ⟨Lib.tabIs_of_head gPow tPow underlying229 underlying125 Zc Zc h2, ⟨_, _, hv2⟩, ⟨_, _, hv1⟩, cell_of_shapedOpen_int (zero := #[.int .i64 0]) (t := 3) hsh (of_decide_eq_true Zc) Zc rfl Zc Zc underlying3⟩)
noncomputable def bHA : Array Value := ((match (Rows.laid_unicode_utf8_first : DataW Unit) with | .agg l => l.map (fun (d : DataW Unit) => match d with | DataW.lit (Lit.int k n) => Value.int k n | _ => undef) | _ => []).toArray)
noncomputable def bAA (os : Os) : World :=
 { World.doorLaid prog 400 os with heap := (World.doorLaid prog 400 os).heap.modify 6 fun
  | .cells _ t frozen => .cells bHA t frozen
  | o => o }
theorem bQY (os : Os) : laidMet prog Rows.wholePassesUptoRow.laid ((bAA os).forCall (fun _ _ => 0) ⟨#[], #[.agg #[.int .i64 0, .slice none 0 0], .slice none 0 0, .string ⟨#[]⟩, .slice none 0 0], []⟩).memory :=
 laidMet_of_run' 8 Zc Zc
end
end Go.Proofs.YtmghkonmfbpjcabGreatDoor
