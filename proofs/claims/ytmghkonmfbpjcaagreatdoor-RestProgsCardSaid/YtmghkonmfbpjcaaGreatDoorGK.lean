/- Parts. -/
import Derived.Test.YtmghkonmfbpjcaaGreatDoorGJ
set_option linter.unusedVariables false
set_option linter.unusedSimpArgs false
set_option maxRecDepth 100000
set_option maxHeartbeats 16000000
namespace Go.Proofs.YtmghkonmfbpjcaaGreatDoor
open Go.RowKit
open Go.Proofs.Tryz
section
open Go.Lib
theorem tY (k : Nat) (hk : k < 13) (w : World) : (Instr.index 109 (.agg vR) (.int .i64 (k : Int))).run prog w = .ok (eH (opW (k : Int))) w := by
 have h0 : k = 0 ∨ k = 1 ∨ k = 2 ∨ k = 3 ∨ k = 4 ∨ k = 5 ∨ k = 6 ∨ k = 7 ∨ k = 8 ∨ k = 9 ∨ k = 10 ∨ k = 11 ∨ k = 12 := Zb
 rcases h0 with rfl | rfl | rfl | rfl | rfl | rfl | rfl | rfl | rfl | rfl | rfl | rfl | rfl <;> simp [Instr.index, run_underlying underlying109, asIntOf, go_sem, vR] <;> rfl
theorem bHY (regs : Int) (A : Option Addr) (l : List Nd) (cap : Nat) (w : World) (hl : l.length ≤ maxLen) (hA : bG w A l) (hc : chk regs l = 0) (hT : Tv w) (fit : ∀ n ∈ l, ∀ i, i < 6 → eR (n.fld i)) :
  Calls prog 21 #[.agg #[.int .i64 regs, .slice A l.length cap]] w fun e w' => e = .returned (.tuple #[eH (cY regs l), .int .i64 0]) ∧ Below w.heap.size w w' := by
 have HC := fun W h => bA (fZ regs A l cap W hl h)
 rw [hc] at HC
 obtain ⟨h1, h256, hr1, hr64, ho⟩ := qB hc
 have hri : eR regs := ⟨Zb, Zb⟩
 have L1 := itoa_length_le regs hri.1 hri.2
 have EQ : (⟨#[114, 101, 103, 115, 32]⟩ : ByteArray) ++ ⟨(itoa regs).toArray⟩ ++ ⟨#[10]⟩ = ⟨(cY regs []).toArray⟩ := by
  apply ByteArray.ext
  simp [cY, cV, tV]
 have LS0 : (cY regs []).length ≤ 27 := sO (l := []) hri Zf
 have Ho := bA ho
 have Fit := bA fit
 have Hri := bA hri
 have HI := fun W hW => bA (bAU regs hri W hW)
 clear ho fit hri hc
 go_enter func21, ntmps21
 go_wp2_with (first
  | (go_at_call 18; refine ((HC _ (hA.below Ye)).out).mono ?_; rintro e w1 ⟨rfl, hb1⟩; have hP1 := Blk.below (Blk.new w 24 #[.int .i64 regs, .slice A l.length cap]) hb1 Zf; have c0 := hP1.cell 0; have c1 := hP1.cell 1; have lP := hP1.lt; simp only [Yl] at c0 c1; have hB1 : Below w.heap.size w w1 := (((Bnq _ _)).trans (hb1.mono Zf)))
  | (go_at_call 60; refine ((HI _ (hT.below (hB1.alloc Zb _))).out).mono ?_; rintro e w2 ⟨rfl, hb2⟩; have hd2 := (Bd.fresh w1).below hb2; have hB2 : Below w1.heap.size w1 w2 := ((Bnq _ _)).trans (hb2.mono Zf))
  | (go_at_call 59; refine (WrS w1.heap.size w1.heap.size [] (cY regs []) _ hd2 Zh hB2.size).mono ?_; rintro e w3 ⟨rfl, hd3, hb3, -⟩; have hB3 := hB2.trans hb3; have hP3 := hP1.below hB3 lP; have c3 := hP3.cell 1; simp only [Yl] at c3))
 rw [List.nil_append] at hd3
 go_loopg [24] (l.length) (fun gk i wr => ∃ k : Nat, k ≤ l.length ∧ i = .int .i64 k ∧ gk = l.length - k ∧ Bd w1.heap.size w1.heap.size (cY regs (l.take k)) wr ∧ Below w1.heap.size w1 wr)
 case atStart => exact ⟨0, Nat.zero_le _, rfl, Zb, hd3, hB3⟩
 case round =>
  obtain ⟨k, hk, rfl, hgk, hd, hBl⟩ := hrel
  have Hgk := bA hgk
  clear hgk EQ HC HI hd2 hd3 hb2 hb3 c0 c1 c3 hB2 hB3 hP3 hb1 L1 LS0
  have hz := hBl.size
  have LS : (cY regs (l.take k)).length ≤ 27 + k * 199 := by
   have := sO (l := l.take k) Hri.o fun n hn => Fit.out n (List.mem_of_mem_take hn)
   rw [List.length_take, Nat.min_eq_left hk] at this
   exact this
  by_cases hlt : k < l.length
  ·obtain ⟨ab, ao, x, rfl, hab, hx, hxl⟩ := (hA.below (hB1.trans (hBl.mono hB1.size))).get hlt
   have hmem := Vv hx
   obtain ⟨op, d, a, b, t, e⟩ := x
   obtain ⟨kk, rfl⟩ : ∃ kk : Nat, op = (kk : Int) := ⟨op.toNat, by have := (Ho.o _ hmem).1; simp only at this; omega⟩
   have hk13 : kk < 13 := by have := (Ho.o _ hmem).2; simp only at this; omega
   have ES := bEZ (regs := regs) hx
   have hfx := Fit.out _ hmem
   obtain ⟨k0, k1⟩ := Ikq (k := k) (n := l.length) (by omega)
   obtain ⟨c0, c1, c2, c3, c4, c5⟩ := hxl
   have ES := bA ES
   have Hfx := bA hfx
   generalize hsa : cY regs (l.take k) = sa at *
   clear hsa hx hmem
   go_upto_region 9 with fail
   go_cut [] (fun wx => Bd w1.heap.size w1.heap.size (sa ++ opW (kk : Int)) wx ∧ Blk wx wr.heap.size 44 #[.int .i64 (kk : Int), .int .i64 d, .int .i64 a, .int .i64 b, .int .i64 t, .int .i64 e] ∧ Below w1.heap.size w1 wx)
   case first =>
    have hix := fun W => tY kk hk13 W
    have hW := Blk.new wr 44 #[.int .i64 (kk : Int), .int .i64 d, .int .i64 a, .int .i64 b, .int .i64 t, .int .i64 e]
    have hlo := zP (kk : Int)
    have lW := hW.lt
    have lb := hd.lt
    have hdW := hd.alloc (.cells #[.int .i64 (kk : Int), .int .i64 d, .int .i64 a, .int .i64 b, .int .i64 t, .int .i64 e] 44)
    have hBW : Below w1.heap.size w1 (wr.alloc (.cells #[.int .i64 (kk : Int), .int .i64 d, .int .i64 a, .int .i64 b, .int .i64 t, .int .i64 e] 44)) := hBl.alloc hz _
    generalize wr.alloc (.cells #[.int .i64 (kk : Int), .int .i64 d, .int .i64 a, .int .i64 b, .int .i64 t, .int .i64 e] 44) = wa at *
    have cW := hW.cell 0
    simp only [List.getElem?_toArray, List.getElem?_cons_zero] at cW
    clear hd hBl
    go_region_with (first
     | (go_at_call 61; refine (yQ _).mono ?_; rintro e w4 ⟨rfl, hb4⟩; have hN4 := (hW.drew).below hb4 lW; have hd4 := (hdW.drew).below hb4; have c4 := hN4.cell 0; simp only [List.getElem?_toArray, List.getElem?_cons_zero] at c4; have hB4 : Below w1.heap.size w1 w4 := (hBW.drew).trans (hb4.mono (hBW.size)))
     | (go_at_call 59; refine (WrS w1.heap.size w1.heap.size sa (opW (kk : Int)) _ hd4 Zb hB4.size).mono ?_; rintro e w5 ⟨rfl, hd5, hb5, hk5⟩))
    all_goals (go_wp2_with fail)
    all_goals go_meet
    all_goals exact ⟨hd5, hN4.others hk5 Zb Ze, hB4.trans hb5⟩
   case rest =>
    have lb := hd.lt
    clear hd hBl c0 c1 c2 c3 c4 c5 hz
    obtain ⟨hd, hN, hBl⟩ := hcut
    have lN := hN.lt
    have hz := hBl.size
    have NL := bCD ⟨(kk : Int), d, a, b, t, e⟩
    have LN := yP Hfx.o
    rw [NL] at LN
    have hp4 := qT (kk : Int)
    have hpw := gL (kk : Int)
    have hpa := fun W hN => bA (yJ wr.heap.size kk d a b t e W hN hk13)
    unfold tH sR at hpa
    have ES2 : cY regs (l.take (k + 1)) = sa ++ (opW (kk : Int) ++ (cD (kk : Int)).flatMap (qK ⟨(kk : Int), d, a, b, t, e⟩)) ++ [10] := by
     rw [ES.out]
     unfold jZ
     rw [NL]
     simp
    have ES2 := bA ES2
    clear ES NL
    simp only at LN
    generalize opW (kk : Int) = ow at *
    generalize cD (kk : Int) = ps at *
    generalize hg7 : wr.heap.size = g7 at *
    clear hg7
    have LS' : sa.length ≤ 27 + k * 199 := LS
    simp only [Vu] at LN
    go_wp2_with (refine ((hpa _ hN).out).mono ?_; rintro ee w4 ⟨q, rfl, hq, hq4, hb4⟩; have hd4 := hd.below hb4; have hN4 := hN.below hb4 lN; have hB4 : Below w1.heap.size w1 w4 := hBl.trans (hb4.mono hz))
    clear hpa
    go_loopg [35] (ps.length) (fun gk i wi => ∃ j : Nat, j ≤ ps.length ∧ i = .int .i64 j ∧ gk = ps.length - j ∧ Bd w1.heap.size w1.heap.size (sa ++ (ow ++ (ps.take j).flatMap (qK ⟨(kk : Int), d, a, b, t, e⟩))) wi ∧ Blk wi g7 44 #[.int .i64 (kk : Int), .int .i64 d, .int .i64 a, .int .i64 b, .int .i64 t, .int .i64 e] ∧ Blk wi q 114 (ps.flatMap fun p => [eH p.1, .pointer (some ⟨g7, p.2, none⟩)]).toArray ∧ Below w1.heap.size w1 wi)
    case atStart => exact ⟨0, Nat.zero_le _, rfl, Zb, by simpa using hd4, hN4, hq4, hB4⟩
    case round =>
     obtain ⟨j, hj, rfl, hgj, hdi, hNi, hqi, hBi⟩ := hrel
     have Hgj := bA hgj
     clear hgj hd4 hN4 hq4 hB4 hb4 hd hN hBl
     have hzi := hBi.size
     have LF := xL (qK ⟨(kk : Int), d, a, b, t, e⟩) ps j
     by_cases hjl : j < ps.length
     ·obtain ⟨⟨wd, f⟩, hp⟩ : ∃ p, ps[j]? = some p := ⟨_, Vs hjl⟩
      have hw := hpw _ (Vv hp)
      have pg := sS (fun p : List UInt8 × Nat => eH p.1) (fun p => .pointer (some ⟨g7, p.2, none⟩)) ps j _ hp
      have cq0 := hqi.cell (j * 2)
      have cq1 := hqi.cell (j * 2 + 1)
      rw [List.getElem?_toArray, pg.1] at cq0
      rw [List.getElem?_toArray, pg.2] at cq1
      have hf6 : f < 6 := hw.2.2
      have cN := hNi.cell f
      have hcf := (⟨(kk : Int), d, a, b, t, e⟩ : Nd).fld_cell hf6
      have hz64 := Hfx.o f hf6
      have Fsp := wD (qK ⟨(kk : Int), d, a, b, t, e⟩) hp
      have hpt : qK ⟨(kk : Int), d, a, b, t, e⟩ (wd, f) = (if wd = [] then [] else 32 :: wd) ++ 32 :: itoa ((⟨(kk : Int), d, a, b, t, e⟩ : Nd).fld f) := rfl
      rw [hpt] at Fsp
      generalize (⟨(kk : Int), d, a, b, t, e⟩ : Nd).fld f = z at *
      have hcf : #[Value.int .i64 (kk : Int), .int .i64 d, .int .i64 a, .int .i64 b, .int .i64 t, .int .i64 e][f]? = some (.int .i64 z) := by rw [← hcf]; simp [Nd.cells]
      rw [hcf] at cN
      have LZ := itoa_length_le z hz64.1 hz64.2
      have EQZ : (⟨#[32]⟩ : ByteArray) ++ ⟨(itoa z).toArray⟩ = ⟨(32 :: itoa z).toArray⟩ := by apply ByteArray.ext; simp
      have EQW : (⟨#[32]⟩ : ByteArray) ++ ⟨wd.toArray⟩ = ⟨(32 :: wd).toArray⟩ := by apply ByteArray.ext; simp
      have lNi := hNi.lt
      have hTi : Tv wr := hT.below (hB1.trans (hBi.mono hB1.size))
      obtain ⟨j0, j1⟩ := Ikq (k := j) (n := ps.length) (by omega)
      have LW : wd.length ≤ 4 := by rcases hw.1 with h | h | h <;> rw [show wd = _ from h] <;> decide
      have ltB := hdi.lt
      have ltQ := hqi.lt
      have HIZ := fun W hW => bA (bAU z hz64 W hW)
      clear hz64 hw pg hpw
      have Fsp := bA Fsp
      by_cases hwd : wd = []
      ·subst hwd
       go_wp2_with (refine ((HIZ _ (hTi.below ((Bnq _ _)))).out).mono ?_; rintro ee w5 ⟨rfl, hb5⟩; have hd5 := (hdi.alloc _).below hb5; have hN5 := (hNi.alloc _).below hb5 Zd; have hq5 := (hqi.alloc _).below hb5 Zd; have hB5 : Below w1.heap.size w1 w5 := (hBi.alloc hzi _).trans (hb5.mono Zd))
       go_wp2_with (refine (WrS w1.heap.size w1.heap.size _ (32 :: itoa z) _ hd5 Xe hB5.size).mono ?_; rintro ee w6 ⟨rfl, hd6, hb6, hk6⟩)
       go_roundg (ps.length - (j + 1))
       case measure => have := Hgj.o; omega
       case rel => exact ⟨j + 1, Zb, by go_num, rfl, (by rw [Fsp.out]; simpa using hd6), hN5.others hk6 Zb Ze, hq5.others hk6 Zb Ze, hB5.trans hb6⟩
      ·have hcmp : wd.isEmpty = false := by
        cases wd with
        | nil => exact absurd rfl hwd
        | cons x r => rfl
       rw [if_neg hwd] at hpt
       have Fsp : List.flatMap (qK ⟨(kk : Int), d, a, b, t, e⟩) (ps.take (j + 1)) = List.flatMap (qK ⟨(kk : Int), d, a, b, t, e⟩) (ps.take j) ++ ((32 :: wd) ++ 32 :: itoa z) := by rw [Fsp.out, if_neg hwd]
       have Fsp := bA Fsp
       go_wp2_with (refine (WrS w1.heap.size w1.heap.size _ (32 :: wd) _ (hdi.alloc _) Xe ((hBi.alloc hzi _).size)).mono ?_; rintro ee w5 ⟨rfl, hd5, hb5, hk5⟩; have hN5 := (hNi.alloc _).others hk5 Zb Ze; have hq5 := (hqi.alloc _).others hk5 Zb Ze; have hp5 := (Blk.new wr 114 #[.string ⟨wd.toArray⟩, .pointer (some ⟨g7, f, none⟩)]).others hk5 Zb Ze; have hB5 : Below w1.heap.size w1 w5 := (hBi.alloc hzi _).trans hb5; have c51 := hp5.cell 1; have c5f := hN5.cell f; rw [hcf] at c5f; simp only [Yl] at c51)
       have hT5 : Tv w5 := hT.below (hB1.trans (hB5.mono hB1.size))
       go_wp2_with (refine ((HIZ _ hT5).out).mono ?_; rintro ee w6 ⟨rfl, hb6⟩; have hd6 := hd5.below hb6; have hN6 := hN5.below hb6 hN5.lt; have hq6 := hq5.below hb6 hq5.lt; have hB6 : Below w1.heap.size w1 w6 := hB5.trans (hb6.mono hB5.size))
       go_wp2_with (refine (WrS w1.heap.size w1.heap.size _ (32 :: itoa z) _ hd6 Xe hB6.size).mono ?_; rintro ee w7 ⟨rfl, hd7, hb7, hk7⟩)
       go_roundg (ps.length - (j + 1))
       case measure => have := Hgj.o; omega
       case rel => exact ⟨j + 1, Zb, by go_num, rfl, (by rw [Fsp.out]; simpa using hd7), hN6.others hk7 Zb Ze, hq6.others hk7 Zb Ze, hB6.trans hb7⟩
     ·obtain rfl : j = ps.length := Zb
      rw [List.take_length] at hdi LF
      have hlen : (sa ++ (ow ++ ps.flatMap (qK ⟨(kk : Int), d, a, b, t, e⟩))).length + 1 ≤ 1000000 := by
       simp only [Vu]
       omega
      go_wp2_with (refine (WrB w1.heap.size w1.heap.size _ 10 _ hdi hlen hzi).mono ?_; rintro ee w8 ⟨rfl, hd8, hb8, -⟩)
      go_roundg (l.length - (k + 1))
      case measure => exact Jl
      case rel => exact ⟨k + 1, Zb, by go_num, rfl, (by rw [ES2.out]; exact hd8), hBi.trans hb8⟩
  ·obtain rfl : k = l.length := Zb
   go_wp2_with (refine (BdStr w1.heap.size w1.heap.size _ _ hd hz).mono ?_; rintro e w9 ⟨rfl, hb9⟩)
   go_ret2
   exact ⟨rfl, hB1.trans ((hBl.trans hb9).mono hB1.size)⟩
end
section
open Go.Lib Go.Maps
def bNJ (s : List UInt8) (w : World) (e : Ending) (w' : World) : Prop :=
 ∃ (regs : Int) (l : List Nd) (v : Value) (ok : Bool), e = .returned (.tuple #[.agg #[.int .i64 regs, v], .int .i64 (if ok then 0 else 1)]) ∧ bK w' w.heap.size 44 v l ∧ Below w.heap.size w w' ∧ bED s regs l ok
theorem lD.grown {g k : Nat} {w w' : World} {row : Option Nat} (h : lD g k w) (hg : w.grownBy w' row) (hr : row ≠ some g) : lD g k w' := by
 obtain ⟨es, clock, hh, F, r⟩ := h
 exact ⟨es, clock, (hg.block g (bW hh) (fun e => hr e.symm)).trans hh, F, r⟩
theorem lD.ne_row {g k B : Nat} {w : World} {e : TypeId} {v : Value} {l : List Nd} (h : lD g k w) (hr : bK w B e v l) : v.ownBlock ≠ some g := by
 obtain ⟨es, clock, hh, F, r⟩ := h
 rcases hr.open with ⟨rfl, _⟩ | ⟨g', cap, cur, rfl, _, hh', _⟩
 ·exact Je
 ·intro he
  simp [Value.ownBlock] at he
  subst he
  rw [hh] at hh'
  cases hh'
theorem bEH (s : List UInt8) (hs : s.length ≤ 4294967280) (w : World) (hT : Tv w) : Calls prog 24 #[eH s] w (bNJ s w) := by
 obtain ⟨i3, h3i, h3z, h3s, h3b⟩ := info_parts iO
 have hmm := @run_makeMap prog
 go_enter func24, ntmps24
 go_upto_region 3 with (refine (yQ _).mono ?_; rintro e w1 ⟨rfl, hb1⟩)
 have hZ := ((Blk.new w 24 #[.int .i64 0, .slice none 0 0]).alloc (.map #[] 0)).below hb1 Zh
 have hM : lD (w.heap.size + 1) 0 w1 := by
  have h0 := World.ownsMap_made (H := Unit) (w.alloc (.cells #[.int .i64 0, .slice none 0 0] 24)) prog 9 (plainElem prog 3)
  rw [show (w.alloc (.cells #[.int .i64 0, .slice none 0 0] 24)).heap.size = w.heap.size + 1 by simp] at h0
  exact lD.below h0 hb1
 have hB : Below w.heap.size w w1 := (((Bnq _ _)).alloc Zf _).trans (hb1.mono Zh)
 clear hb1
 go_loopg [5, 6, 20] (13) (fun gk a5 a6 i wr => ∃ k : Nat, k ≤ 13 ∧ i = .int .i64 k ∧ gk = 13 - k ∧ lD (w.heap.size + 1) k wr ∧ Blk wr w.heap.size 24 #[.int .i64 0, .slice none 0 0] ∧ Below w.heap.size w wr)
 case atStart => exact ⟨0, Zb, rfl, Zb, hM, hZ, hB⟩
 case round =>
  obtain ⟨k, hk, rfl, hgk, hMk, hZk, hBk⟩ := hrel
  have Hgk := bA hgk
  clear hgk hM hZ hB
  by_cases hlt : k < 13
  ·have hix := fun W => tY k hlt W
   have k1 : (k : Int) < 13 := Zb
   have hol : (opW (k : Int)).length ≤ 4294967280 := by have := zP (k : Int); omega
   go_wp2_with (at_mapUpdate; refine wpList_mapUpdate_own _ rfl _ _ _ 117 rfl 9 3 bMI underlying117 _ (w.heap.size + 1) k _ rfl hMk Zw _ _ _ rfl rfl (bMK hol) _ [] (plainElem_int underlying3 (WalkArith.wf_i64 Zb)) ?_; intro w3 hown3 hgrow3)
   go_roundg (13 - (k + 1))
   case measure => exact Jl
   case rel => exact ⟨k + 1, Zb, by go_num, rfl, hown3, hZk.grown hgrow3 Zf, hBk.grown hgrow3 hBk.size (fun q hq => by cases hq; omega)⟩
  ·obtain rfl : k = 13 := Zb
   have hT1 := hT.below hBk
   have HT0 := bA hT
   clear hT hlt hk
   have HC := bA (bPJ s hs wr hT1)
   go_wp2_with fail
   refine Calls.mono HC.o ?_
   rintro e w4 ⟨head, rest, is, rfl, hb4, hC⟩
   have hT4 := hT1.below hb4
   have hM4 := hMk.below hb4
   have hZ4 := hZk.below hb4 hZk.lt
   have hB4 := hBk.trans (hb4.mono hBk.size)
   have hhl : head.length ≤ 4294967280 ∧ rest.length ≤ s.length := by
    rcases hC with ⟨_, h, _⟩ | ⟨_, _, h1, h2⟩
    ·have := congrArg List.length h
     simp at this
     omega
    ·rw [h1, h2]; simp; omega
   clear HC hT1 hMk hZk hBk hb4
   have HP := bA (bNK head tV w4)
   have HCc := bA hC
   clear hC
   go_wp2_with fail
   refine Calls.mono HP.o ?_
   rintro e w5 ⟨dg, fine, rfl, hw5, hPf⟩
   subst hw5
   have hdg : dg.length ≤ 4294967280 := by
    rcases hPf with ⟨_, h⟩ | ⟨_, h, _⟩
    ·have := congrArg List.length h
     rw [Vu] at this
     omega
    ·rw [h]; exact hhl.1
   have HPf := bA hPf
   have HA := bA (bNP dg hdg _ hT4)
   clear hPf HP
   go_wp2_with fail
   refine Calls.mono HA.o ?_
   rintro e w6 ⟨v, er, rfl, hb6, hA⟩
   have hT6 := hT4.below hb6
   have hM6 := hM4.below hb6
   have hZ6 := hZ4.below hb6 hZ4.lt
   have hB6 := hB4.trans (hb6.mono hB4.size)
   clear HA hT4 hM4 hZ4 hB4 hb6
   have hA0 : (er = .nilIface ∨ ∃ t q, er = .iface t q) := by
    rcases hA with ⟨h, _⟩ | ⟨h, _⟩
    ·exact .inl h
    ·exact .inr h
   have HAa := bA hA
   clear hA
   go_upto_region 11 with fail
   have hP6 := Blk.new w6 24 #[.int .i64 v, .slice none 0 0]
   have hgp : w.heap.size + 1 < w6.heap.size := hM6.lt
   replace hT6 := hT6.below ((Below.refl _ _).alloc (Nat.le_refl _) (.cells #[.int .i64 v, .slice none 0 0] 24))
   replace hM6 := hM6.alloc (.cells #[.int .i64 v, .slice none 0 0] 24)
   replace hZ6 := hZ6.alloc (.cells #[.int .i64 v, .slice none 0 0] 24)
   replace hB6 := hB6.alloc hB6.size (.cells #[.int .i64 v, .slice none 0 0] 24)
   generalize w6.alloc (.cells #[.int .i64 v, .slice none 0 0] 24) = w7 at *
   generalize w6.heap.size = gp at *
   have hno : (∀ r, eR r → is = true → fine = true → dg = itoa r → False) → pJ s := by
    intro H
    refine bOD fun r y hr e => ?_
    rcases HCc.o with ⟨h1, h2, h3⟩ | ⟨h1, h2, _⟩
    ·rw [e] at h2
     obtain ⟨e1, _⟩ := jQ (rB r) h3 h2
     rcases HPf.o with ⟨h4, h5⟩ | ⟨h4, _, h5⟩
     ·rw [h5] at e1
      exact H r hr h1 h4 (List.append_cancel_left e1).symm
     ·exact h5 _ e1.symm
    ·rw [e] at h2
     exact h2 Zf
   have Hno := bA hno
   clear hno
   go_cut [61] (fun s61 wx => ∃ bad : Bool, s61 = .bool bad ∧ (bad = false → is = true ∧ fine = true ∧ dg = itoa v ∧ eR v) ∧ (bad = true → pJ s) ∧ Tv wx ∧ lD (w.heap.size + 1) 13 wx ∧ Blk wx w.heap.size 24 #[.int .i64 0, .slice none 0 0] ∧ Blk wx gp 24 #[.int .i64 v, .slice none 0 0] ∧ Below w.heap.size w wx)
   case first =>
    cases is with
    | false =>
     go_wp2_with fail
     go_meet
     exact ⟨true, rfl, (fun h => by cases h), (fun _ => Hno.o fun r hr h1 _ _ => by cases h1), hT6, hM6, hZ6, hP6, hB6⟩
    | true =>
     cases fine with
     | false =>
      go_wp2_with fail
      go_meet
      exact ⟨true, rfl, (fun h => by cases h), (fun _ => Hno.o fun r hr _ h1 _ => by cases h1), hT6, hM6, hZ6, hP6, hB6⟩
     | true =>
      rcases HAa.o with ⟨rfl, hv, hvn⟩ | ⟨⟨t, q', rfl⟩, hvn⟩
      ·have HI := bA (bAU v hv w7 hT6)
       have Hvn := bA hvn
       clear hvn hA0
       go_wp2_with fail
       refine Calls.mono HI.o ?_
       rintro e w8 ⟨rfl, hb8⟩
       have hS8 := bA (And.intro (hT6.below hb8) (And.intro (hM6.below hb8) (And.intro (hZ6.below hb8 hZ6.lt) (And.intro (hP6.below hb8 hP6.lt) (hB6.trans (hb8.mono hB6.size))))))
       clear HI hT6 hM6 hZ6 hP6 hB6 hb8
       by_cases heq : itoa v = dg
       ·have Heq := bA heq
        rw [heq]
        clear heq
        go_wp2_with fail
        go_meet
        exact ⟨false, rfl, (fun _ => ⟨Xx, Xx, Heq.o.symm, hv⟩), (fun h => by cases h), hS8.out⟩
       ·have hne : (itoa v == dg) = false := by rw [beq_eq_false_iff_ne]; exact heq
        have Heq := bA heq
        clear heq
        generalize hiv : itoa v = iv at *
        have Hiv := bA hiv
        clear hiv
        go_wp2_with fail
        go_meet
        exact ⟨true, rfl, (fun h => by cases h), (fun _ => Hno.o fun r hr _ _ h1 => Heq.o (by rw [← Hiv.o, Hvn.o r hr h1, ← h1])), hS8.out⟩
      ·have Hvn := bA hvn
       clear hvn hA0
       go_wp2_with fail
       go_meet
       exact ⟨true, rfl, (fun h => by cases h), (fun _ => Hno.o fun r hr _ _ h1 => Hvn.o r hr h1), hT6, hM6, hZ6, hP6, hB6⟩
   case rest =>
    obtain ⟨bad, rfl, hg, hb, hT, hM, hZ, hP, hB⟩ := hcut
    have Hg := bA hg
    have Hb := bA hb
    clear hg hb hT6 hM6 hZ6 hP6 hB6
    cases bad with
    | true =>
     have z0 := hZ.cell 0
     have z1 := hZ.cell 1
     have zf0 := hZ.frozen 0
     have zf1 := hZ.frozen 1
     have lZ := hZ.lt
     simp only [Yl] at z0 z1
     go_wp2_with fail
     refine bodyPost_ret (v := .tuple #[.agg #[.int .i64 0, .slice none 0 0], .int .i64 1]) (by simp [results, results24, go_sem, z0, z1, zf0, zf1, Vr, Vp]; try rfl) rfl ⟨0, [], _, false, rfl, bK.nil_ _ _ _, ?_, Or.inr ⟨rfl, rfl, rfl, ?_⟩⟩
     ·exact (hB.setCell (Nat.le_refl _) _).setCell (Nat.le_refl _) _
     exact Hb.o Xx
    | false =>
     have hgood := Hg.o Xx
     obtain ⟨h1, h2, h3, hv⟩ := hgood
     subst h1 h2
     have hs0 : s = cY v [] ++ rest := by
      rcases HCc.o with ⟨_, h4, _⟩ | ⟨h4, _⟩
      ·rcases HPf.o with ⟨_, h5⟩ | ⟨h5, _⟩
       ·rw [h4, h5, h3, mS]; simp [cV]
       ·cases h5
      ·cases h4
     have Hs0 := bA hs0
     clear h3 hs0 Hg Hb
     go_wp2_with fail
     go_loopg [8, 9, 15, 16, 17] (257) (fun gk a8 a9 a15 a16 a17 wr => ∃ (l : List Nd) (V : Value) (rt : List UInt8), a8 = eH rt ∧ gk = 257 - l.length ∧ l.length ≤ 257 ∧ rt.length ≤ 4294967280 ∧ s = cY v l ++ rt ∧ (∀ m ∈ l, dW m) ∧ bK wr w.heap.size 44 V l ∧ Blk wr gp 24 #[.int .i64 v, V] ∧ Tv wr ∧ lD (w.heap.size + 1) 13 wr ∧ Blk wr w.heap.size 24 #[.int .i64 0, .slice none 0 0] ∧ Below w.heap.size w wr)
     case atStart => exact ⟨[], .slice none 0 0, rest, rfl, rfl, Zf, Zb, Hs0.o, (fun m hm => by cases hm), bK.nil_ _ _ _, hP, hT, hM, hZ, hB⟩
     case round =>
      clear hT hM hZ hP hB
      obtain ⟨l, V, rt, rfl, hgk, hl7, hrl, hs1, hsh, hN, hP, hT, hM, hZ, hB⟩ := hrel
      have Hgk := bA hgk
      have Hs := bA hs1
      have Hsh := bA hsh
      clear hgk hs1 hsh
      obtain ⟨An, cn, rfl, _, _⟩ := hN.shape
      have lP := hP.lt
      refine Wm fun p0 p1 => ?_
      by_cases hrt : rt = []
      ·subst hrt
       have HK := bA (fZ v An l cn wr Zw hN.nodes)
       by_cases hc : chk v l = 0
       ·rw [hc] at HK
        have Hc := bA hc
        clear hc
        go_wp2_with fail
        refine Calls.mono HK.o ?_
        rintro e w6 ⟨rfl, hb6⟩
        have hZ6 := hZ.below hb6 hZ.lt
        have hP6 := hP.below hb6 hP.lt
        have hB6 := hB.trans (hb6.mono hB.size)
        have z0 := hZ6.cell 0
        have z1 := hZ6.cell 1
        have zf0 := hZ6.frozen 0
        have zf1 := hZ6.frozen 1
        have p0 := hP6.cell 0
        have p1 := hP6.cell 1
        have lZ := hZ6.lt
        have hNz := bA (hN.ne_blk hZ Ze)
        simp only [Yl] at z0 z1 p0 p1
        clear hZ
        go_wp2_with fail
        refine bodyPost_ret (v := .tuple #[.agg #[.int .i64 v, .slice An l.length cn], .int .i64 0]) (by simp [results, results24, go_sem, z0, z1, zf0, zf1, Vr, Vp]; try rfl) rfl ⟨v, l, _, true, rfl, ?_, ?_, Or.inl ⟨rfl, Hc.o, (fun m hm i hi => (Hsh.o m hm).fit i hi), ?_⟩⟩
        ·exact ((hN.below' hb6).far hNz.out _).far hNz.out _
        ·exact Jx
        ·rw [Hs.o]; simp
       ·have hn0 : (chk v l != 0) = true := by simp [hc]
        have Hc := bA hc
        clear hc
        generalize hgz : chk v l = cz at *
        have Hgz := bA hgz
        clear hgz
        go_wp2_with fail
        refine Calls.mono HK.o ?_
        rintro e w6 ⟨rfl, hb6⟩
        have hZ6 := hZ.below hb6 hZ.lt
        have hB6 := hB.trans (hb6.mono hB.size)
        clear hZ
        refine Kw fun zf0 zf1 lZ z0 z1 => ?_
        go_wp2_with fail
        refine bodyPost_ret (v := .tuple #[.agg #[.int .i64 0, .slice none 0 0], .int .i64 1]) (by simp [results, results24, go_sem, z0, z1, zf0, zf1, Vr, Vp]; try rfl) rfl ⟨0, [], _, false, rfl, bK.nil_ _ _ _, ?_, Or.inr ⟨rfl, rfl, rfl, ?_⟩⟩
        ·exact Jx
        exact bMA Hs.o Hsh.o (Or.inl ⟨rfl, by rw [Hgz.o]; exact Hc.o⟩)
      ·have he : rt.isEmpty = false := by simpa using hrt
       have Hrt := bA hrt
       clear hrt
       by_cases hl6 : l.length ≤ 256
       ·have d1 : decide ((l.length : Int) ≤ 256) = true := decide_eq_true Zb
        have HC := bA (bPJ rt hrl wr hT)
        go_wp2_with fail
        refine Calls.mono HC.o ?_
        rintro e w4 ⟨ln, rt', is, rfl, hb4, hC⟩
        have hll : ln.length ≤ 4294967280 ∧ rt'.length ≤ 4294967280 := by
         rcases hC with ⟨_, h, _⟩ | ⟨_, _, h1, h2⟩
         ·have := congrArg List.length h
          simp at this
          omega
         ·rw [h1, h2]; simp; omega
        have HCc := bA hC
        have hS4 := bA (And.intro (hN.below' hb4) (And.intro (hP.below hb4 hP.lt) (And.intro (hT.below hb4) (And.intro (hM.below hb4) (And.intro (hZ.below hb4 hZ.lt) (hB.trans (hb4.mono hB.size)))))))
        clear HC hC hN hP hT hM hZ hB hb4 p0 p1 lP
        have HNd := bA (bLZ ln hll.1 (w.heap.size + 1) w4 hS4.out.2.2.1 hS4.out.2.2.2.1)
        go_wp2_with fail
        refine Calls.mono HNd.o ?_
        rintro e w5 ⟨x, ok, rfl, hb5, hx⟩
        go_upto_region 17 with fail
        obtain ⟨hN4, hP4, hT4, hM4, hZ4, hB4⟩ := hS4.out
        have hb5 : Below w4.heap.size w4 (w5.alloc (.cells #[.int .i64 x.op, .int .i64 x.d, .int .i64 x.a, .int .i64 x.b, .int .i64 x.t, .int .i64 x.e] 44)) := hb5.alloc hb5.size _
        have hX5 := Blk.new w5 44 #[.int .i64 x.op, .int .i64 x.d, .int .i64 x.a, .int .i64 x.b, .int .i64 x.t, .int .i64 x.e]
        generalize w5.alloc (.cells #[.int .i64 x.op, .int .i64 x.d, .int .i64 x.a, .int .i64 x.b, .int .i64 x.t, .int .i64 x.e] 44) = w6 at *
        generalize w5.heap.size = gx at *
        have hN6 := hN4.below' hb5
        have hP6 := hP4.below hb5 hP4.lt
        have hT6 := hT4.below hb5
        have hM6 := hM4.below hb5
        have hZ6 := hZ4.below hb5 hZ4.lt
        have hB6 := hB4.trans (hb5.mono hB4.size)
        have Hx := bA hx
        clear hx hN4 hP4 hT4 hM4 hZ4 hB4 hb5 hS4 HNd
        cases is with
        | false =>
         clear hT6 hM6 hN6
         refine Kw fun zf0 zf1 lZ z0 z1 => ?_
         go_wp2_with fail
         refine bodyPost_ret (v := .tuple #[.agg #[.int .i64 0, .slice none 0 0], .int .i64 1]) (by simp [results, results24, go_sem, z0, z1, zf0, zf1, Vr, Vp]; try rfl) rfl ⟨0, [], _, false, rfl, bK.nil_ _ _ _, ?_, Or.inr ⟨rfl, rfl, rfl, ?_⟩⟩
         ·exact Jx
         refine bHO Hs.o Hsh.o Hrt.o fun m t hm e => ?_
         rcases HCc.o with ⟨h1, _⟩ | ⟨_, h1, _⟩
         ·cases h1
         ·exact h1 Xr
        | true =>
         have hCt : rt = ln ++ 10 :: rt' ∧ 10 ∉ ln := by
          rcases HCc.o with ⟨_, h1⟩ | ⟨h1, _⟩
          ·exact h1
          ·cases h1
         have HCt := bA hCt
         clear hCt
         cases ok with
         | false =>
          clear hT6 hM6 hN6
          refine Kw fun zf0 zf1 lZ z0 z1 => ?_
          go_wp2_with fail
          refine bodyPost_ret (v := .tuple #[.agg #[.int .i64 0, .slice none 0 0], .int .i64 1]) (by simp [results, results24, go_sem, z0, z1, zf0, zf1, Vr, Vp]; try rfl) rfl ⟨0, [], _, false, rfl, bK.nil_ _ _ _, ?_, Or.inr ⟨rfl, rfl, rfl, ?_⟩⟩
          ·exact Jx
          refine bHO Hs.o Hsh.o Hrt.o fun m t hm e => ?_
          rw [HCt.o.1] at e
          obtain ⟨e1, _⟩ := jQ HCt.o.2 (kU hm.op) e
          rcases Hx.o with ⟨h1, _⟩ | ⟨_, h1⟩
          ·cases h1
          ·exact h1 m hm e1
         | true =>
          have hxs : dW x ∧ ln = gC x := by
           rcases Hx.o with ⟨_, h1⟩ | ⟨h1, _⟩
           ·exact h1
           ·cases h1
          have Hxs := bA hxs
          clear hxs
          have p1 := hP6.cell 1
          have x0 := hX5.cell 0
          have x1 := hX5.cell 1
          have x2 := hX5.cell 2
          have x3 := hX5.cell 3
          have x4 := hX5.cell 4
          have x5 := hX5.cell 5
          simp only [Yl] at p1 x0 x1 x2 x3 x4 x5
          go_wp2_with (at_builtin; refine bL (v := .slice An l.length cn) (l := l) (base := w.heap.size) rfl _ _ _ rfl i3 _ 48 underlying22 h3i h3z h3s h3b rfl rfl (hN6.alloc _) (some ⟨w6.heap.size, 0, none⟩) 1 1 [x] rfl rfl (cG rfl) Zr Zd (by have := hB6.size; simp <;> omega) ?_; intro v9 w9 hr9 hg9 hat9; obtain ⟨A9, c9, hv9, _, _⟩ := hr9.shape; subst hv9; simp only [Vu, Vz] at hr9 hat9 ⊢; have hP9 := Blk.grown (hP6.alloc (.cells #[.int .i64 x.op, .int .i64 x.d, .int .i64 x.a, .int .i64 x.b, .int .i64 x.t, .int .i64 x.e] 44)) hg9 (hN6.ne_blk hP6 Ze); have q0 := hP9.cell 0; have q1 := hP9.cell 1; have qf := hP9.frozen 1; simp only [Yl] at q0 q1)
          have hZ9 := Blk.grown (hZ6.alloc (.cells #[.int .i64 x.op, .int .i64 x.d, .int .i64 x.a, .int .i64 x.b, .int .i64 x.t, .int .i64 x.e] 44)) hg9 (hN6.ne_blk hZ6 Ze)
          have hM9 := lD.grown (hM6.alloc (.cells #[.int .i64 x.op, .int .i64 x.d, .int .i64 x.a, .int .i64 x.b, .int .i64 x.t, .int .i64 x.e] 44)) hg9 (hM6.ne_row hN6)
          have hB9 : Below w.heap.size w w9 := Below.grown (hB6.alloc hB6.size (.cells #[.int .i64 x.op, .int .i64 x.d, .int .i64 x.a, .int .i64 x.b, .int .i64 x.t, .int .i64 x.e] 44)) hg9 (by have := hB6.size; simp; omega) (fun q hq => (hN6.lt q hq).1)
          have hB10 := hB9.setCell (p := ⟨gp, 1, none⟩) Zj (.slice A9 (l.length + 1) c9)
          have e1 : (l ++ [x]).length = l.length + 1 := Zf
          go_roundg (257 - (l.length + 1))
          case measure => exact Jl
          case rel => exact ⟨l ++ [x], _, rt', rfl, by rw [e1], by rw [e1]; omega, hll.2, by rw [Hs.o, HCt.o.1, Hxs.o.2, bFA], (fun m hm => by rcases List.mem_append.1 hm with h1 | h1; exact Hsh.o m h1; rw [List.mem_singleton.1 h1]; exact Hxs.o.1), hr9.far (hr9.ne_blk hP9 Ze) _, hP9.set_ 1 _, HT0.o.below hB10, hM9.far Zj _, hZ9.far Zj _, hB10⟩
       ·have d1 : decide ((l.length : Int) ≤ 256) = false := decide_eq_false Zb
        have hcn : chk v l ≠ 0 := fun e => by have := (qB e).2.1; omega
        have HK := bA (fZ v An l cn wr Zw hN.nodes)
        have hc := hcn
        clear hcn
        ·have hn0 : (chk v l != 0) = true := by simp [hc]
         have Hc := bA hc
         clear hc
         generalize hgz : chk v l = cz at *
         have Hgz := bA hgz
         clear hgz
         go_wp2_with fail
         refine Calls.mono HK.o ?_
         rintro e w6 ⟨rfl, hb6⟩
         have hZ6 := hZ.below hb6 hZ.lt
         have hB6 := hB.trans (hb6.mono hB.size)
         clear hZ
         refine Kw fun zf0 zf1 lZ z0 z1 => ?_
         go_wp2_with fail
         refine bodyPost_ret (v := .tuple #[.agg #[.int .i64 0, .slice none 0 0], .int .i64 1]) (by simp [results, results24, go_sem, z0, z1, zf0, zf1, Vr, Vp]; try rfl) rfl ⟨0, [], _, false, rfl, bK.nil_ _ _ _, ?_, Or.inr ⟨rfl, rfl, rfl, ?_⟩⟩
         ·exact Jx
         exact bMA Hs.o Hsh.o (Or.inr Zb)
end
def bPI (s : List UInt8) (ns : List Int) (t : List UInt8) (code : Int) : Prop :=
 (pJ s ∧ code = 1 ∧ t = []) ∨ (∃ r l c r' l', chk r l = 0 ∧ Fit l ∧ s = cY r l ∧ jR r l ns c r' l' ∧ ((c ≠ 0 ∧ code = c ∧ t = []) ∨ (c = 0 ∧ code = 0 ∧ t = cY r' l' ∧ chk r' l' = 0 ∧ Fit l')))
def bPB (s : List UInt8) (ns : List Int) (w : World) (e : Ending) (w' : World) : Prop :=
 ∃ t code, e = .returned (.tuple #[eH t, .int .i64 code]) ∧ Below w.heap.size w w' ∧ bPI s ns t code
theorem jR.fine {r : Int} {l : List Nd} {ns : List Int} {r' : Int} {l' : List Nd} (h : jR r l ns 0 r' l') (hf : Fit l) : bN r l ∧ (∀ n ∈ ns, 1 ≤ n ∧ n ≤ 4) ∧ Psq ns r l 0 r' l' ∧ bN r' l' ∧ Fit l' := by
 rcases h with ⟨a, b, _⟩ | ⟨_, _, b, _⟩ | ⟨_, _, _, b, _⟩ | ⟨a, _, b, c⟩
 ·exact absurd b.symm a
 ·cases b
 ·cases b
 ·have hR := bS a
  have hR' := c.right rfl hR
  exact ⟨hR, b, c, hR', bQE hR' (c.ao rfl hR (bQF hf))⟩
theorem bAT (s : List UInt8) (hs : s.length ≤ 4294967280) (S : Option Addr) (ns : List Int) (ci : Nat) (w : World) (hI : bH w S (bO ns)) (hnl : ns.length ≤ maxLen) (hwf : ∀ n ∈ ns, (Lit.int .i64 n).wf = true) (hT : Tv w) :
  Calls prog 23 #[eH s, .slice S ns.length ci] w (bPB s ns w) := by
 have HR := bA (bEH s hs w hT)
 go_enter func23, ntmps23
 go_wp2_with fail
 refine Calls.mono HR.o ?_
 rintro e w1 ⟨regs, l, v, ok, rfl, hN1, hb1, hg⟩
 obtain ⟨A1, c1, rfl, _, hc1⟩ := hN1.shape
 have Hg := bA hg
 clear HR hg
 cases ok with
 | false =>
  rw [if_neg Zf]
  have hno : pJ s := by
   rcases Hg.o with ⟨h, _⟩ | ⟨_, _, _, h⟩
   ·cases h
   ·exact h
  have Hno := bA hno
  clear hno
  go_wp2_with fail
  go_ret2
  exact ⟨[], 1, rfl, hb1.alloc hb1.size _, .inl ⟨Hno.o, rfl, rfl⟩⟩
 | true =>
  rw [if_pos rfl]
  obtain ⟨hc, hf, hsh⟩ : chk regs l = 0 ∧ Fit l ∧ s = cY regs l := by
   rcases Hg.o with ⟨_, h1, h2, h3⟩ | ⟨h, _⟩
   ·exact ⟨h1, h2, h3⟩
   ·cases h
  have hB2 : Below w.heap.size w (w1.alloc (.cells #[.int .i64 regs, .slice A1 l.length c1] 24)) := hb1.alloc hb1.size _
  have hQ2 := Blk.new w1 24 #[.int .i64 regs, .slice A1 l.length c1]
  have hN2 := hN1.alloc (.cells #[.int .i64 regs, .slice A1 l.length c1] 24)
  have HP := bA (wT regs A1 l c1 S ns ci _ hN2.nodes (by unfold maxLen; have := (bS hc).hi; omega) (hI.below hB2) hnl hwf)
  have q0 := hQ2.cell 0
  have q1 := hQ2.cell 1
  simp only [Yl] at q0 q1
  have Hc := bA hc
  have Hf := bA hf
  have Hsh := bA hsh
  clear hc hf hsh hN1 hb1
  go_wp2_with fail
  refine Calls.mono HP.o ?_
  rintro e w3 ⟨c, r', l', v', rfl, hp, hN3, hb3⟩
  obtain ⟨A3, c3, rfl, _, hc3⟩ := hN3.shape
  have hB3 := hB2.trans (hb3.mono hB2.size)
  have Hp := bA hp
  clear HP hp hQ2 hN2 hb3 hB2 q0 q1
  by_cases hc0 : c = 0
  ·subst hc0
   obtain ⟨hR, hin, hps, hR', hF'⟩ := Hp.o.fine Hf.o
   have hB4 : Below w.heap.size w (w3.alloc (.cells #[.int .i64 r', .slice A3 l'.length c3] 24)) := hB3.alloc hB3.size _
   have hQ4 := Blk.new w3 24 #[.int .i64 r', .slice A3 l'.length c3]
   have hN4 := hN3.alloc (.cells #[.int .i64 r', .slice A3 l'.length c3] 24)
   have HS := bA (bHY r' A3 l' c3 _ (by unfold maxLen; have := hR'.hi; omega) hN4.nodes hR'.chk (hT.below hB4) hF')
   have q0 := hQ4.cell 0
   have q1 := hQ4.cell 1
   simp only [Yl] at q0 q1
   have HF' := bA hF'
   have HR' := bA hR'
   clear hR hin hps hR' hF' hN3 hN4 hQ4
   go_wp2_with fail
   refine Calls.mono HS.o ?_
   rintro e w5 ⟨rfl, hb5⟩
   go_wp2_with fail
   go_ret2
   exact ⟨_, 0, rfl, hB4.trans (hb5.mono hB4.size), .inr ⟨regs, l, 0, r', l', Hc.o, Hf.o, Hsh.o, Hp.o, .inr ⟨rfl, rfl, rfl, HR'.o.chk, HF'.o⟩⟩⟩
  ·have hne : (c != 0) = true := by simp [hc0]
   have Hc0 := bA hc0
   clear hc0
   go_wp2_with fail
   go_ret2
   exact ⟨[], c, rfl, hB3.alloc hB3.size _, .inr ⟨regs, l, c, r', l', Hc.o, Hf.o, Hsh.o, Hp.o, .inl ⟨Hc0.o, rfl, rfl⟩⟩⟩
section
open Go.Lib
end
section
open Go.Lib
end
section
open Go.Lib
theorem pQ : chk 3 fS = 0 := Ze
theorem pP : Fit fS := by
 have h : fS.all (fun n => decide (-9223372036854775808 ≤ n.op ∧ n.op ≤ 9223372036854775807) && decide (-9223372036854775808 ≤ n.d ∧ n.d ≤ 9223372036854775807) && decide (-9223372036854775808 ≤ n.a ∧ n.a ≤ 9223372036854775807) && decide (-9223372036854775808 ≤ n.b ∧ n.b ≤ 9223372036854775807) && decide (-9223372036854775808 ≤ n.t ∧ n.t ≤ 9223372036854775807) && decide (-9223372036854775808 ≤ n.e ∧ n.e ≤ 9223372036854775807)) = true := Ze
 intro n hn i hi
 have := List.all_eq_true.1 h n hn
 simp only [V4, decide_eq_true_eq] at this
 rcases i with _ | _ | _ | _ | _ | _ | i <;> first | exact this.1.1.1.1.1 | exact this.1.1.1.1.2 | exact this.1.1.1.2 | exact this.1.1.2 | exact this.1.2 | exact this.2 | omega
theorem qZ {k : Nat} (h : k < 10) : itoa (k : Int) = [UInt8.ofNat (48 + k)] := by
 rw [bFX, if_neg Zb, List.nil_append, Int.natAbs_natCast, pZ h]
theorem bEX : cY 3 fS = [114, 101, 103, 115, 32, 51, 10, 105, 110, 32, 48, 32, 116, 111, 32, 49, 10, 105, 110, 32, 49, 32, 116, 111, 32, 50, 10, 105, 102, 32, 48, 32, 116, 111, 32, 51, 32, 101, 108, 115, 101, 32, 53, 10, 97, 100, 100, 32, 50, 32, 48, 32, 49, 32, 116, 111, 32, 52, 10, 111, 117, 116, 32, 50, 32, 116, 111, 32, 53, 10, 97, 100, 100, 32, 50, 32, 48, 32, 49, 32, 116, 111, 32, 54, 10, 101, 110, 100, 32, 50, 10] := by
 have h0 : itoa 0 = [48] := qZ (k := 0) Zb
 have h1 : itoa 1 = [49] := qZ (k := 1) Zb
 have h2 : itoa 2 = [50] := qZ (k := 2) Zb
 have h3 : itoa 3 = [51] := qZ (k := 3) Zb
 have h4 : itoa 4 = [52] := qZ (k := 4) Zb
 have h5 : itoa 5 = [53] := qZ (k := 5) Zb
 have h6 : itoa 6 = [54] := qZ (k := 6) Zb
 simp [cY, cV, fS, jZ, gC, iK, cD, eJ, fD, Nd.fld, tV, toW, elseW, opW, kC, h0, h1, h2, h3, h4, h5, h6]
theorem bIM : (cY 3 fS).length ≤ 4294967280 := by
 rw [bEX]
 decide
end
section
open Go.Maps
def cP (W : World) (g : Nat) (ts : List Tm) : Prop :=
 ∃ D : DataW Unit, W.ownsMap prog 41 (plainElem prog 3) g ts.length D ∧ (∀ (t : Tm) (l : Lit), keyOf prog 41 t.val = some l → D.atKey l (.lit (.int .i64 0)) = .lit (.int .i64 (ts.count t)))
  ∧ (∀ l, Maps.has D l = true → ∃ t ∈ ts, keyOf prog 41 t.val = some l) ∧ (∀ t ∈ ts, ∀ l, keyOf prog 41 t.val = some l → Maps.has D l = true)
section
variable {W W' : World} {g : Nat} {ts : List Tm}
theorem cP.own {row : Option Nat} (h : cP W g ts) (hg : W.grownBy W' row) (hr : row ≠ some g) : cP W' g ts := by (
 obtain ⟨D, h1, h2⟩ := h
 exact ⟨D, h1.kept hg (Ne.symm hr), h2⟩)
theorem cP.below (h : cP W g ts) (hb : Below W.heap.size W W') : cP W' g ts := by (
 obtain ⟨D, ⟨es, clock, hh, F, r⟩, h2⟩ := h
 exact ⟨D, ⟨es, clock, (hb.block g (bW hh)).trans hh, F, r⟩, h2⟩)
theorem cP.drew (h : cP W g ts) : cP W.drew g ts := h
theorem cP.set (h : cP W g ts) {p : Addr} (hp : g ≠ p.block) (u : Value) : cP (W.setCell p u) g ts := by (
 obtain ⟨D, h1, h2⟩ := h
 exact ⟨D, h1.setCell hp u, h2⟩)
theorem cP.ne_row {B : Nat} {e : TypeId} {v : Value} {xs : List Value} (h : cP W g ts) (hr : Row W B e v xs) : v.ownBlock ≠ some g := by (
 obtain ⟨D, ⟨es, clock, hh, F, r⟩, h2⟩ := h
 rcases hr with ⟨rfl, _⟩ | ⟨g', o, cap, cur, rfl, _, hh', _⟩
 · exact Je
 · (
 intro he
 simp [Value.ownBlock] at he
 subst he
 rw [hh] at hh'
 cases hh'))
theorem cP.ne_blk {b : Nat} {t : TypeId} {cs : Array Value} (h : cP W g ts) (hb : Blk W b t cs) : ¬ (b = g) := by (
 obtain ⟨D, ⟨es, clock, hh, F, r⟩, h2⟩ := h
 intro e
 subst e
 unfold Blk at hb
 rw [hh] at hb
 cases hb)
theorem cP.start : cP (W.alloc (.map #[] 0)) W.heap.size [] :=
 ⟨.map [], World.ownsMap_made _ _ _ _, fun t l hl => rfl, fun l h => (by cases h), fun t ht => (by cases ht)⟩
theorem cP.bump (h : cP W g ts) (hn : ts.length < 1000000) {t : Tm} {l : Lit} (hl : keyOf prog 41 t.val = some l) :
 (Instr.lookup 61 (.map (some g)) t.val false).run prog W = .ok (.int .i64 (ts.count t)) W ∧
  ∃ v0 st w1, (Instr.mapEntry 61 (.map (some g)) t.val).run prog W = .ok (.tuple #[v0, goInt st]) w1 ∧ W.grownBy w1 (some g) ∧ (Instr.lookup 61 (.map (some g)) t.val false).run prog w1 = .ok (.int .i64 (ts.count t)) w1 ∧
   ∃ w3, (Instr.entryStore 61 (.map (some g)) (goInt st) (.int .i64 ((ts.count t : Int) + 1))).run prog w1 = .ok () w3 ∧ w1.grownBy w3 (some g) ∧ cP w3 g (ts ++ [t]) := by (
 obtain ⟨D, hD, hc, hh1, hh2⟩ := h
 have e1 := hc t l hl
 have hcl : ts.count t ≤ ts.length := List.count_le_length
 have hmax : ts.length < maxLen := by unfold maxLen; omega
 obtain ⟨c', p1, p2, v0, st, w1, p3, p4, p5, p6⟩ := bCJ fH underlying61 underlying3 bEP hD hmax hl
 rw [e1] at p2
 have hcc := pD p2
 rw [← hcc] at p1 p5
 have hwf : (Lit.int .i64 ((ts.count t : Int) + 1)).wf = true := by (
 unfold Lit.wf
 rw [V4]
 exact ⟨decide_eq_true Z7, decide_eq_true Z9⟩)
 obtain ⟨w3, q1, q2, q3⟩ := p6 _ hwf
 refine ⟨p1, v0, st, w1, p3, p4, p5, w3, q1, q3, ⟨_, by rw [Vu]; exact q2, fun t' l' hl' => ?_, fun l' h => ?_, fun t' ht l' hl' => ?_⟩⟩
 · (
 by_cases htt : t' = t
 · (
 subst htt
 rw [hl] at hl'
 have hl' := Option.some.inj hl'
 subst hl'
 rw [atKey_put_same hD.isMap ((Keyed.of_law fH).key hl)]
 simp [List.count_append])
 · (
 have hne : l' ≠ l := fun e => htt (uY (fH.inj (e ▸ hl') hl))
 rw [atKey_put_other hne, hc t' l' hl']
 have : (t == t') = false := by simpa using Ne.symm htt
 simp [List.count_append, List.count_singleton, this]))
 · (
 by_cases hll : l' = l
 · exact ⟨t, Zf, by rw [hll]; exact hl⟩
 · (
 rw [has_put_other hll] at h
 obtain ⟨u, hu, hk⟩ := hh1 l' h
 exact ⟨u, by simp [hu], hk⟩))
 · (
 by_cases hll : l' = l
 · (
 rw [hll]
 exact has_put_same hD.isMap ((Keyed.of_law fH).key hl) _)
 · (
 rw [has_put_other hll]
 rcases List.mem_append.1 ht with e | e
 · exact hh2 t' e l' hl'
 · (
 simp at e
 subst e
 rw [hl] at hl'
 have hl' := Option.some.inj hl'
 exact absurd hl'.symm hll))))
end
abbrev sW (regs : Int) (A : Option Addr) (l : List Nd) (cap : Nat) (Ai : Option Addr) (ci : Nat) (inp : List Int) (gr gm : Nat) (ov : Value) (s : Rn) : Array Value :=
 #[.int .i64 regs, .slice A l.length cap, .slice Ai (inp.length - s.read) ci, .slice (some ⟨gr, 0, none⟩) regs.toNat regs.toNat, .map (some gm), ov, .int .i64 s.ret, .bool s.ended, .int .i64 s.steps, .slice none 0 0]
structure MSt (w : World) (regs : Int) (A : Option Addr) (l : List Nd) (cap : Nat) (inp : List Int) (mb gr gm : Nat) (Ai : Option Addr) (ci : Nat) (ov : Value) (s : Rn) (W : World) : Prop where
 box : Blk W mb 63 (sW regs A l cap Ai ci inp gr gm ov s)
 regs : Row W w.heap.size 3 (.slice (some ⟨gr, 0, none⟩) regs.toNat regs.toNat) (bO s.regs)
 out : Row W w.heap.size 3 ov (bO s.out)
 cnt : cP W gm s.ts
 inv : bH w Ai (bO (inp.drop s.read))
 icap : inp.length - s.read ≤ ci ∧ ci ≤ maxLen
 ne : ov.ownBlock ≠ some gr
 mlo : w.heap.size ≤ mb
 glo : w.heap.size ≤ gm
 below : Below w.heap.size w W
section
variable {w : World} {regs : Int} {A : Option Addr} {l : List Nd} {cap : Nat} {inp : List Int} {mb gr gm : Nat} {Ai : Option Addr} {ci : Nat} {ov : Value} {s : Rn} {W W' : World}
theorem MSt.later (h : MSt w regs A l cap inp mb gr gm Ai ci ov s W) (hb : Below W.heap.size W W') : MSt w regs A l cap inp mb gr gm Ai ci ov s W' :=
 ⟨h.box.below hb h.box.lt, h.regs.below' hb, h.out.below' hb, h.cnt.below hb, h.inv, h.icap, h.ne, h.mlo, h.glo, h.below.trans (hb.mono h.below.size)⟩
theorem MSt.counted (h : MSt w regs A l cap inp mb gr gm Ai ci ov s W) (hg : W.grownBy W' (some gm)) {ts : List Tm} (hc : cP W' gm ts) : MSt w regs A l cap inp mb gr gm Ai ci ov { s with ts := ts } W' :=
 ⟨h.box.grown hg (by have := h.cnt.ne_blk h.box; simp; exact fun e => this e.symm), h.regs.kept hg (.inr (h.cnt.ne_row h.regs)), h.out.kept hg (.inr (h.cnt.ne_row h.out)), hc, h.inv, h.icap, h.ne, h.mlo, h.glo, h.below.grown hg h.below.size (fun q hq => by have := Option.some.inj hq; have := h.glo; omega)⟩
theorem MSt.ins (h : MSt w regs A l cap inp mb gr gm Ai ci ov s W) : bH W Ai (bO (inp.drop s.read)) := h.inv.below h.below
end
end
section
open Go.Maps
attribute [local irreducible] Row madeCells cP
theorem Row.int_ {w : World} {B g n c : Nat} {e : TypeId} {es : List Int} (h : Row w B e (.slice (some ⟨g, 0, none⟩) n c) (bO es)) {k : Nat} (hk : k < es.length) :
 w.cell? ⟨g, k, none⟩ = some (.int .i64 (rg es (k : Int))) ∧ w.frozen? ⟨g, k, none⟩ = false := by (
 obtain ⟨g', o', cp, u, e1, _, _, hu, hc, hf⟩ := h.get (k := k) (by rw [bJ]; exact hk)
 injection e1 with e1 _ _
 injection e1 with e1
 injection e1 with ea eb _
 subst ea eb
 rw [jP, Vs hk] at hu
 have hr : rg es (k : Int) = es[k] := bPX (Vs hk)
 rw [hr]
 simp only [Nat.zero_add] at hc hf
 exact ⟨by rw [hc]; exact hu.symm, hf⟩)
theorem bCG (w : World) (regs : Int) (A : Option Addr) (l : List Nd) (cap : Nat) (inp : List Int) (mb gr gm : Nat) (Ai : Option Addr) (ci : Nat) (ov : Value) (s : Rn) (W : World) (hM : MSt w regs A l cap inp mb gr gm Ai ci ov s W) (t : Tm) (kl : Lit)
 (hkl : keyOf prog 41 t.val = some kl) (hts : s.ts.length < 1000000) (hlen : s.regs.length = regs.toNat) (hr : regs.toNat ≤ 64) (ha : 0 ≤ t.a ∧ t.a < (regs.toNat : Int)) (hb : 0 ≤ t.b ∧ t.b < (regs.toNat : Int)) :
 Calls prog 69 #[.pointer (some ⟨mb, 0, none⟩), .agg #[.int .i64 t.op, .int .i64 t.a, .int .i64 t.b]] W fun e W' => e = .returned (.int .i64 (bBT t.op (rg s.regs t.a) (rg s.regs t.b))) ∧ MSt w regs A l cap inp mb gr gm Ai ci ov { s with ts := s.ts ++ [t] } W' ∧ W.grownBy W' (some gm) := by (
 obtain ⟨g3, hg3⟩ := Exq W.heap.size
 obtain ⟨W0, hW0⟩ := Exq (W.alloc (.cells #[.int .i64 t.op, .int .i64 t.a, .int .i64 t.b] 41))
 have hM0 : MSt w regs A l cap inp mb gr gm Ai ci ov s W0 := by rw [hW0]; exact hM.later ((Bnq _ _))
 have hT : Blk W0 g3 41 #[.int .i64 t.op, .int .i64 t.a, .int .i64 t.b] := by rw [hW0]; exact Blk.new' hg3
 obtain ⟨hlook, v0, st, W1, hme, hg1, hlook1, W3, hst, hgw, hc3⟩ := (hM0.cnt.drew).bump hts hkl
 have hlook : (Instr.lookup 61 (.map (some gm)) (.agg #[.int .i64 t.op, .int .i64 t.a, .int .i64 t.b]) false).run prog W0.drew = .ok (.int .i64 (s.ts.count t)) W0.drew := hlook
 have hlook1 : (Instr.lookup 61 (.map (some gm)) (.agg #[.int .i64 t.op, .int .i64 t.a, .int .i64 t.b]) false).run prog W1 = .ok (.int .i64 (s.ts.count t)) W1 := hlook1
 have hme : (Instr.mapEntry 61 (.map (some gm)) (.agg #[.int .i64 t.op, .int .i64 t.a, .int .i64 t.b])).run prog W0.drew = .ok (.tuple #[v0, .int .i64 (st : Int)]) W1 := hme
 have hcl : s.ts.count t ≤ s.ts.length := List.count_le_length
 have hst : (Instr.entryStore 61 (.map (some gm)) (.int .i64 (st : Int)) (.int .i64 (IntKind.i64.wrap ((s.ts.count t : Int) + 1)))).run prog W1 = .ok () W3 := by rw [show IntKind.i64.wrap ((s.ts.count t : Int) + 1) = (s.ts.count t : Int) + 1 by rw [IntKind.wrap_i64]; omega]; exact hst
 have hM3 : MSt w regs A l cap inp mb gr gm Ai ci ov { s with ts := s.ts ++ [t] } W3 := by (
 have h0 : MSt w regs A l cap inp mb gr gm Ai ci ov s W0.drew := hM0.later ((Below.refl _ _).drew)
 have hc1 : W0.drew.grownBy W3 (some gm) := hg1.trans hgw
 exact h0.counted hc1 hc3)
 have hgr : W.grownBy W3 (some gm) := by (
 have h1 : W.grownBy W0.drew (some gm) := by rw [hW0]; exact ⟨rfl, rfl, rfl, Zf, fun k hk _ => Below.heap_alloc W _ k hk⟩
 exact h1.trans (hg1.trans hgw))
 have Hgr := bA hgr
 clear hgr
 have c4 := hM0.box.cell 4
 have t0 := hT.cell 0
 have t1 := hT.cell 1
 have t2 := hT.cell 2
 have lm := hM0.box.lt
 have lt3 := hT.lt
 have nm := hM0.cnt.ne_blk hM0.box
 have nt := hM0.cnt.ne_blk hT
 simp only [Yl] at c4 t0 t1 t2
 have e4 : W1.cell? ⟨mb, 4, none⟩ = some (.map (some gm)) := by rw [hg1.cell_far _ Zd Zh]; exact c4
 have e0 : W1.cell? ⟨g3, 0, none⟩ = some (.int .i64 t.op) := by rw [hg1.cell_far _ Zd Zh]; exact t0
 have e1 : W1.cell? ⟨g3, 1, none⟩ = some (.int .i64 t.a) := by rw [hg1.cell_far _ Zd Zh]; exact t1
 have e2 : W1.cell? ⟨g3, 2, none⟩ = some (.int .i64 t.b) := by rw [hg1.cell_far _ Zd Zh]; exact t2
 have hs1 := hg1.size
 simp only [World.size_drew] at hs1
 have f4 : W3.cell? ⟨mb, 4, none⟩ = some (.map (some gm)) := by rw [hgw.cell_far _ Zd Zh]; exact e4
 have f0 : W3.cell? ⟨g3, 0, none⟩ = some (.int .i64 t.op) := by rw [hgw.cell_far _ Zd Zh]; exact e0
 have f1 : W3.cell? ⟨g3, 1, none⟩ = some (.int .i64 t.a) := by rw [hgw.cell_far _ Zd Zh]; exact e1
 have f2 : W3.cell? ⟨g3, 2, none⟩ = some (.int .i64 t.b) := by rw [hgw.cell_far _ Zd Zh]; exact e2
 have f3 := hM3.box.cell 3
 simp only [Yl] at f3
 have ra := (hM3.regs.int_ (k := t.a.toNat) Zp).1
 have rb := (hM3.regs.int_ (k := t.b.toNat) Zp).1
 rw [V5 ha.1] at ra
 rw [V5 hb.1] at rb
 obtain ⟨ha0, ha1⟩ := ha
 obtain ⟨hb0, hb1⟩ := hb
 generalize hxa : rg s.regs t.a = xa at ra ⊢
 generalize hxb : rg s.regs t.b = xb at rb ⊢
 have HM3 := bA hM3
 have HW0 := bA hW0
 have Hg3 := bA hg3
 clear hg3
 obtain ⟨cn, hcn⟩ := Exq (s.ts.count t)
 rw [← hcn] at hlook hlook1 hst hcl
 clear hM hM0 hT hg1 hgw hc3 hM3 hW0 hs1 hkl hxa hxb hcn
 go_enter func69, ntmps69
 go_upto_region 1 with fail
 rw [← HW0.o, ← Hg3.o]
 refine wp_region_held_drew (S := fun w' => w'.cell? ⟨mb, 4, none⟩ = some (.map (some gm)) ∧ w'.cell? ⟨g3, 0, none⟩ = some (.int .i64 t.op) ∧ w'.cell? ⟨g3, 1, none⟩ = some (.int .i64 t.a) ∧ w'.cell? ⟨g3, 2, none⟩ = some (.int .i64 t.b)) Zc ⟨c4, t0, t1, t2⟩ ?_
 intro hH
 refine Up (fun _ _ _ _ _ => id) fun hP => ?_
 iterate 5 (refine Wa hP hH ?_; try simp only [Nm])
 refine wpAnyH_ready (rs := [5, 7]) Zc Zf ?_
 refine V7 rfl (fun K hK => ?_) (V7 rfl (fun K hK => ?_) V8)
 · (
 have HK5 := bA hK
 clear hK
 go_simp
 refine Shut.out HK5.o _ _ hH (fun _ => ?_)
 try simp only [Nm]
 refine Va 6 _ rfl hP hH ?_
 try simp only [Nm]
 refine Rd 7 Zc rfl (fun K hK => ?_)
 have HK7 := bA hK
 clear hK
 go_simp
 refine Shut.out HK7.o _ _ ⟨e4, e0, e1, e2⟩ (fun hH => ?_)
 try simp only [Nm]
 refine Va 8 _ rfl hP hH ?_
 try simp only [Nm]
 refine Rd 9 Zc rfl (fun K hK => ?_)
 have HK9 := bA hK
 clear hK
 go_simp
 refine Shut.out HK9.o _ _ ⟨f4, f0, f1, f2⟩ (fun hH => ?_)
 try simp only [Nm]
 refine wpAnyH_done Zc ?_ _
 clear hH HK5 HK7 HK9 t0 t1 t2 c4 e0 e1 e2 e4 hlook hme hlook1 hst
 go_upto_region 2 with fail
 go_quiet (fail)
 go_wp2
 all_goals go_tidy
 all_goals go_ret
 all_goals exact ⟨bHK (by simp_all [bBT]), HM3.o.later (cB (Below.refl _ _) _), Hgr.o.trans ⟨rfl, rfl, rfl, Nat.le_refl _, fun _ _ _ => rfl⟩⟩)
 · (
 have HK7 := bA hK
 clear hK
 go_simp
 refine Shut.out HK7.o _ _ ⟨e4, e0, e1, e2⟩ (fun hH => ?_)
 try simp only [Nm]
 refine Va 8 _ rfl hP hH ?_
 try simp only [Nm]
 refine Rd 5 Zc rfl (fun K hK => ?_)
 have HK5 := bA hK
 clear hK
 go_simp
 refine Shut.out HK5.o _ _ hH (fun _ => ?_)
 try simp only [Nm]
 refine Va 6 _ rfl hP hH ?_
 try simp only [Nm]
 refine Rd 9 Zc rfl (fun K hK => ?_)
 have HK9 := bA hK
 clear hK
 go_simp
 refine Shut.out HK9.o _ _ ⟨f4, f0, f1, f2⟩ (fun hH => ?_)
 try simp only [Nm]
 refine wpAnyH_done Zc ?_ _
 clear hH HK5 HK7 HK9 t0 t1 t2 c4 e0 e1 e2 e4 hlook hme hlook1 hst
 go_upto_region 2 with fail
 go_quiet (fail)
 go_wp2
 all_goals go_tidy
 all_goals go_ret
 all_goals exact ⟨bHK (by simp_all [bBT]), HM3.o.later (cB (Below.refl _ _) _), Hgr.o.trans ⟨rfl, rfl, rfl, Nat.le_refl _, fun _ _ _ => rfl⟩⟩))
end
end Go.Proofs.YtmghkonmfbpjcaaGreatDoor
