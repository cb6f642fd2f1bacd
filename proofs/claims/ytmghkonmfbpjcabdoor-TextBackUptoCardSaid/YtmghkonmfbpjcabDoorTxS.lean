/- text.Show. -/
import Derived.Test.YtmghkonmfbpjcabDoorTxW
import Derived.Test.YtmghkonmfbpjcabDoorCheck2
import Derived.Deep.DeepCutAuto
import Derived.Deep.RegionWith
import Derived.RegionTactic
namespace Go.Proofs.YtmghkonmfbpjcabDoor
set_option linter.unusedVariables false
set_option linter.unusedSimpArgs false
open Go.RowKit
set_option maxHeartbeats 8000000
open Go.Lib

theorem names_index (k : Nat) (hk : k < 13) (w : World) : (Instr.index 84 (.agg namesV) (.int .i64 (k : Int))).run Tryd.prog w = .ok (strB (opW (k : Int))) w := by
  have h0 : k = 0 ∨ k = 1 ∨ k = 2 ∨ k = 3 ∨ k = 4 ∨ k = 5 ∨ k = 6 ∨ k = 7 ∨ k = 8 ∨ k = 9 ∨ k = 10 ∨ k = 11 ∨ k = 12 := by omega
  rcases h0 with rfl | rfl | rfl | rfl | rfl | rfl | rfl | rfl | rfl | rfl | rfl | rfl | rfl <;> simp [Instr.index, run_underlying Tryd.underlying84, asIntOf, go_sem, namesV] <;> rfl
set_option maxRecDepth 100000 in
theorem Show_bad (regs : Int) (A : Option Addr) (l : List Nd) (cap : Nat) (w : World) (hl : l.length ≤ maxLen) (hA : NodesAt w A l) (hc : chk regs l ≠ 0) :
    Calls Tryd.prog 14 #[.agg #[.int .i64 regs, .slice A l.length cap]] w fun e w' => e = .returned (.tuple #[.string ⟨#[]⟩, .int .i64 (chk regs l)]) ∧ Below w.heap.size w w' := by
  have HC := fun W h => hide (Check_any regs A l cap W hl h)
  have hn : (chk regs l != 0) = true := by simp [hc]
  generalize chk regs l = z at *
  go_enter Tryd.func14, Tryd.ntmps14
  go_wp2_with (go_at_call 20; refine ((HC _ (hA.below (by repeat (first | (with_reducible exact Below.refl _ _) | (with_reducible assumption) | (with_reducible refine Below.drew ?_) | (with_reducible refine below_drewN ?_ _) | (with_reducible refine Below.alloc ?_ (by (try simp only [World.size_alloc, World.size_setCell, World.size_drew, World.heap_drewN]); (first | done | omega | ((try simp only [World.size_alloc, World.size_setCell, World.size_drew, World.heap_drewN] at *); omega))) _) | (with_reducible refine Below.setCell ?_ (by (try simp only [World.size_alloc, World.size_setCell, World.size_drew, World.heap_drewN]); (first | done | omega | ((try simp only [World.size_alloc, World.size_setCell, World.size_drew, World.heap_drewN] at *); omega))) _) | (with_reducible refine Below.trans ?_ (Below.mono (by assumption) (by (try simp only [World.size_alloc, World.size_setCell, World.size_drew, World.heap_drewN]); (first | done | omega | ((try simp only [World.size_alloc, World.size_setCell, World.size_drew, World.heap_drewN] at *); omega))))))))).out).mono ?_; rintro e w1 ⟨rfl, hb1⟩)
  all_goals go_ret2
  all_goals exact ⟨rfl, (by repeat (first | (with_reducible exact Below.refl _ _) | (with_reducible assumption) | (with_reducible refine Below.drew ?_) | (with_reducible refine below_drewN ?_ _) | (with_reducible refine Below.alloc ?_ (by (try simp only [World.size_alloc, World.size_setCell, World.size_drew, World.heap_drewN]); (first | done | omega | ((try simp only [World.size_alloc, World.size_setCell, World.size_drew, World.heap_drewN] at *); omega))) _) | (with_reducible refine Below.setCell ?_ (by (try simp only [World.size_alloc, World.size_setCell, World.size_drew, World.heap_drewN]); (first | done | omega | ((try simp only [World.size_alloc, World.size_setCell, World.size_drew, World.heap_drewN] at *); omega))) _) | (with_reducible refine Below.trans ?_ (Below.mono (by assumption) (by (try simp only [World.size_alloc, World.size_setCell, World.size_drew, World.heap_drewN]); (first | done | omega | ((try simp only [World.size_alloc, World.size_setCell, World.size_drew, World.heap_drewN] at *); omega)))))))⟩
set_option maxRecDepth 100000 in
theorem Show_ok (regs : Int) (A : Option Addr) (l : List Nd) (cap : Nat) (w : World) (hl : l.length ≤ maxLen) (hA : NodesAt w A l) (hc : chk regs l = 0) (hT : Tv w) (fit : ∀ n ∈ l, ∀ i, i < 6 → i64ok (n.fld i)) :
    Calls Tryd.prog 14 #[.agg #[.int .i64 regs, .slice A l.length cap]] w fun e w' => e = .returned (.tuple #[strB (showL regs l), .int .i64 0]) ∧ Below w.heap.size w w' := by
  have HC := fun W h => hide (Check_any regs A l cap W hl h)
  rw [hc] at HC
  obtain ⟨h1, h256, hr1, hr64, ho⟩ := chk_small hc
  have hri : i64ok regs := ⟨by omega, by omega⟩
  have L1 := itoa_length_le regs hri.1 hri.2
  have EQ : (⟨#[114, 101, 103, 115, 32]⟩ : ByteArray) ++ ⟨(itoa regs).toArray⟩ ++ ⟨#[10]⟩ = ⟨(showL regs []).toArray⟩ := by
    apply ByteArray.ext
    simp [showL, linesL, regsW]
  have LS0 : (showL regs []).length ≤ 27 := showL_len (l := []) hri (by simp)
  have Ho := hide ho
  have Fit := hide fit
  have Hri := hide hri
  have HI := fun W hW => hide (Itoa_b regs hri W hW)
  clear ho fit hri hc
  go_enter Tryd.func14, Tryd.ntmps14
  go_wp2_with (first
    | (go_at_call 20; refine ((HC _ (hA.below (by repeat (first | (with_reducible exact Below.refl _ _) | (with_reducible assumption) | (with_reducible refine Below.drew ?_) | (with_reducible refine below_drewN ?_ _) | (with_reducible refine Below.alloc ?_ (by (try simp only [World.size_alloc, World.size_setCell, World.size_drew, World.heap_drewN]); (first | done | omega | ((try simp only [World.size_alloc, World.size_setCell, World.size_drew, World.heap_drewN] at *); omega))) _) | (with_reducible refine Below.setCell ?_ (by (try simp only [World.size_alloc, World.size_setCell, World.size_drew, World.heap_drewN]); (first | done | omega | ((try simp only [World.size_alloc, World.size_setCell, World.size_drew, World.heap_drewN] at *); omega))) _) | (with_reducible refine Below.trans ?_ (Below.mono (by assumption) (by (try simp only [World.size_alloc, World.size_setCell, World.size_drew, World.heap_drewN]); (first | done | omega | ((try simp only [World.size_alloc, World.size_setCell, World.size_drew, World.heap_drewN] at *); omega))))))))).out).mono ?_; rintro e w1 ⟨rfl, hb1⟩; have hP1 := Blk.below (Blk.new w 24 #[.int .i64 regs, .slice A l.length cap]) hb1 (by simp); have c0 := hP1.cell 0; have c1 := hP1.cell 1; have lP := hP1.lt; simp only [List.getElem?_toArray, List.getElem?_cons_zero, List.getElem?_cons_succ] at c0 c1; have hB1 : Below w.heap.size w w1 := (((Below.refl _ _).alloc (Nat.le_refl _) _).trans (hb1.mono (by simp))))
    | (go_at_call 33; refine ((HI _ (hT.below (hB1.alloc (by omega) _))).out).mono ?_; rintro e w2 ⟨rfl, hb2⟩; have hd2 := (Bd.fresh w1).below hb2; have hB2 : Below w1.heap.size w1 w2 := ((Below.refl _ _).alloc (Nat.le_refl _) _).trans (hb2.mono (by simp)))
    | (go_at_call 32; refine (WrS w1.heap.size w1.heap.size [] (showL regs []) _ hd2 (by simp; omega) hB2.size).mono ?_; rintro e w3 ⟨rfl, hd3, hb3, -⟩; have hB3 := hB2.trans hb3; have hP3 := hP1.below hB3 lP; have c3 := hP3.cell 1; simp only [List.getElem?_toArray, List.getElem?_cons_zero, List.getElem?_cons_succ] at c3))
  rw [List.nil_append] at hd3
  go_loopg [24] (l.length) (fun gk i wr => ∃ k : Nat, k ≤ l.length ∧ i = .int .i64 k ∧ gk = l.length - k ∧ Bd w1.heap.size w1.heap.size (showL regs (l.take k)) wr ∧ Below w1.heap.size w1 wr)
  case atStart => exact ⟨0, Nat.zero_le _, rfl, by omega, hd3, hB3⟩
  case round =>
    obtain ⟨k, hk, rfl, hgk, hd, hBl⟩ := hrel
    have Hgk := hide hgk
    clear hgk EQ HC HI hd2 hd3 hb2 hb3 c0 c1 c3 hB2 hB3 hP3 hb1 L1 LS0
    have hz := hBl.size
    have LS : (showL regs (l.take k)).length ≤ 27 + k * 199 := by
      have := showL_len (l := l.take k) Hri.out fun n hn => Fit.out n (List.mem_of_mem_take hn)
      rw [List.length_take, Nat.min_eq_left hk] at this
      exact this
    by_cases hlt : k < l.length
    · obtain ⟨ab, ao, x, rfl, hab, hx, hxl⟩ := (hA.below (hB1.trans (hBl.mono hB1.size))).get hlt
      have hmem := List.mem_of_getElem? hx
      obtain ⟨op, d, a, b, t, e⟩ := x
      obtain ⟨kk, rfl⟩ : ∃ kk : Nat, op = (kk : Int) := ⟨op.toNat, by have := (Ho.out _ hmem).1; simp only at this; omega⟩
      have hk13 : kk < 13 := by have := (Ho.out _ hmem).2; simp only at this; omega
      have ES := showL_step (regs := regs) hx
      have hfx := Fit.out _ hmem
      have k0 : (0 : Int) ≤ (k : Int) := by omega
      have k1 : (k : Int) < (l.length : Int) := by omega
      obtain ⟨c0, c1, c2, c3, c4, c5⟩ := hxl
      have ES := hide ES
      have Hfx := hide hfx
      generalize hsa : showL regs (l.take k) = sa at *
      clear hsa hx hmem
      go_upto_region 9 with fail
      go_cut [] (fun wx => Bd w1.heap.size w1.heap.size (sa ++ opW (kk : Int)) wx ∧ Blk wx wr.heap.size 55 #[.int .i64 (kk : Int), .int .i64 d, .int .i64 a, .int .i64 b, .int .i64 t, .int .i64 e] ∧ Below w1.heap.size w1 wx)
      case first =>
        have hix := fun W => names_index kk hk13 W
        have hW := Blk.new wr 55 #[.int .i64 (kk : Int), .int .i64 d, .int .i64 a, .int .i64 b, .int .i64 t, .int .i64 e]
        have hlo := opW_len (kk : Int)
        have lW := hW.lt
        have lb := hd.lt
        have hdW := hd.alloc (.cells #[.int .i64 (kk : Int), .int .i64 d, .int .i64 a, .int .i64 b, .int .i64 t, .int .i64 e] 55)
        have hBW : Below w1.heap.size w1 (wr.alloc (.cells #[.int .i64 (kk : Int), .int .i64 d, .int .i64 a, .int .i64 b, .int .i64 t, .int .i64 e] 55)) := hBl.alloc hz _
        generalize wr.alloc (.cells #[.int .i64 (kk : Int), .int .i64 d, .int .i64 a, .int .i64 b, .int .i64 t, .int .i64 e] 55) = wa at *
        have cW := hW.cell 0
        simp only [List.getElem?_toArray, List.getElem?_cons_zero] at cW
        clear hd hBl
        go_region_with (first
          | (go_at_call 34; refine (names_any _).mono ?_; rintro e w4 ⟨rfl, hb4⟩; have hN4 := (hW.drew).below hb4 lW; have hd4 := (hdW.drew).below hb4; have c4 := hN4.cell 0; simp only [List.getElem?_toArray, List.getElem?_cons_zero] at c4; have hB4 : Below w1.heap.size w1 w4 := (hBW.drew).trans (hb4.mono (hBW.size)))
          | (go_at_call 32; refine (WrS w1.heap.size w1.heap.size sa (opW (kk : Int)) _ hd4 (by omega) hB4.size).mono ?_; rintro e w5 ⟨rfl, hd5, hb5, hk5⟩))
        all_goals (go_wp2_with fail)
        all_goals go_meet
        all_goals exact ⟨hd5, hN4.others hk5 (by omega) (by decide), hB4.trans hb5⟩
      case rest =>
        have lb := hd.lt
        clear hd hBl c0 c1 c2 c3 c4 c5 hz
        obtain ⟨hd, hN, hBl⟩ := hcut
        have lN := hN.lt
        have hz := hBl.size
        have NL := nodeL_parts ⟨(kk : Int), d, a, b, t, e⟩
        have LN := nodeL_len Hfx.out
        rw [NL] at LN
        have hp4 := partsL_len (kk : Int)
        have hpw := partsL_words (kk : Int)
        have hpa := fun W hN => hide (parts_any wr.heap.size kk d a b t e W hN hk13)
        unfold PartsPost partCells at hpa
        have ES2 : showL regs (l.take (k + 1)) = sa ++ (opW (kk : Int) ++ (partsL (kk : Int)).flatMap (partT ⟨(kk : Int), d, a, b, t, e⟩)) ++ [10] := by
          rw [ES.out]
          unfold lineL
          rw [NL]
          simp
        have ES2 := hide ES2
        clear ES NL
        simp only at LN
        generalize opW (kk : Int) = ow at *
        generalize partsL (kk : Int) = ps at *
        generalize hg7 : wr.heap.size = g7 at *
        clear hg7
        have LS' : sa.length ≤ 27 + k * 199 := LS
        simp only [List.length_append] at LN
        go_wp2_with (refine ((hpa _ hN).out).mono ?_; rintro ee w4 ⟨q, rfl, hq, hq4, hb4⟩; have hd4 := hd.below hb4; have hN4 := hN.below hb4 lN; have hB4 : Below w1.heap.size w1 w4 := hBl.trans (hb4.mono hz))
        clear hpa
        go_loopg [35] (ps.length) (fun gk i wi => ∃ j : Nat, j ≤ ps.length ∧ i = .int .i64 j ∧ gk = ps.length - j ∧ Bd w1.heap.size w1.heap.size (sa ++ (ow ++ (ps.take j).flatMap (partT ⟨(kk : Int), d, a, b, t, e⟩))) wi ∧ Blk wi g7 55 #[.int .i64 (kk : Int), .int .i64 d, .int .i64 a, .int .i64 b, .int .i64 t, .int .i64 e] ∧ Blk wi q 91 (ps.flatMap fun p => [strB p.1, .pointer (some ⟨g7, p.2, none⟩)]).toArray ∧ Below w1.heap.size w1 wi)
        case atStart => exact ⟨0, Nat.zero_le _, rfl, by omega, by simpa using hd4, hN4, hq4, hB4⟩
        case round =>
          obtain ⟨j, hj, rfl, hgj, hdi, hNi, hqi, hBi⟩ := hrel
          have Hgj := hide hgj
          clear hgj hd4 hN4 hq4 hB4 hb4 hd hN hBl
          have hzi := hBi.size
          have LF := flat_take_len (partT ⟨(kk : Int), d, a, b, t, e⟩) ps j
          by_cases hjl : j < ps.length
          · obtain ⟨⟨wd, f⟩, hp⟩ : ∃ p, ps[j]? = some p := ⟨_, List.getElem?_eq_getElem hjl⟩
            have hw := hpw _ (List.mem_of_getElem? hp)
            have pg := pairs_get (fun p : List UInt8 × Nat => strB p.1) (fun p => .pointer (some ⟨g7, p.2, none⟩)) ps j _ hp
            have cq0 := hqi.cell (j * 2)
            have cq1 := hqi.cell (j * 2 + 1)
            rw [List.getElem?_toArray, pg.1] at cq0
            rw [List.getElem?_toArray, pg.2] at cq1
            have hf6 : f < 6 := hw.2.2
            have cN := hNi.cell f
            have hcf := (⟨(kk : Int), d, a, b, t, e⟩ : Nd).fld_cell hf6
            have hz64 := Hfx.out f hf6
            have Fsp := flat_take_succ (partT ⟨(kk : Int), d, a, b, t, e⟩) hp
            have hpt : partT ⟨(kk : Int), d, a, b, t, e⟩ (wd, f) = (if wd = [] then [] else 32 :: wd) ++ 32 :: itoa ((⟨(kk : Int), d, a, b, t, e⟩ : Nd).fld f) := rfl
            rw [hpt] at Fsp
            generalize (⟨(kk : Int), d, a, b, t, e⟩ : Nd).fld f = z at *
            have hcf : #[Value.int .i64 (kk : Int), .int .i64 d, .int .i64 a, .int .i64 b, .int .i64 t, .int .i64 e][f]? = some (.int .i64 z) := by rw [← hcf]; simp [Nd.cells]
            rw [hcf] at cN
            have LZ := itoa_length_le z hz64.1 hz64.2
            have EQZ : (⟨#[32]⟩ : ByteArray) ++ ⟨(itoa z).toArray⟩ = ⟨(32 :: itoa z).toArray⟩ := by apply ByteArray.ext; simp
            have EQW : (⟨#[32]⟩ : ByteArray) ++ ⟨wd.toArray⟩ = ⟨(32 :: wd).toArray⟩ := by apply ByteArray.ext; simp
            have lNi := hNi.lt
            have hTi : Tv wr := hT.below (hB1.trans (hBi.mono hB1.size))
            have j0 : (0 : Int) ≤ (j : Int) := by omega
            have j1 : (j : Int) < (ps.length : Int) := by omega
            have LW : wd.length ≤ 4 := by rcases hw.1 with h | h | h <;> rw [show wd = _ from h] <;> decide
            have ltB := hdi.lt
            have ltQ := hqi.lt
            have HIZ := fun W hW => hide (Itoa_b z hz64 W hW)
            clear hz64 hw pg hpw
            have Fsp := hide Fsp
            by_cases hwd : wd = []
            · subst hwd
              go_wp2_with (refine ((HIZ _ (hTi.below ((Below.refl _ _).alloc (Nat.le_refl _) _))).out).mono ?_; rintro ee w5 ⟨rfl, hb5⟩; have hd5 := (hdi.alloc _).below hb5; have hN5 := (hNi.alloc _).below hb5 (by simp <;> omega); have hq5 := (hqi.alloc _).below hb5 (by simp <;> omega); have hB5 : Below w1.heap.size w1 w5 := (hBi.alloc hzi _).trans (hb5.mono (by simp <;> omega)))
              go_wp2_with (refine (WrS w1.heap.size w1.heap.size _ (32 :: itoa z) _ hd5 (by simp only [List.length_append, List.length_cons]; omega) hB5.size).mono ?_; rintro ee w6 ⟨rfl, hd6, hb6, hk6⟩)
              go_roundg (ps.length - (j + 1))
              case measure => have := Hgj.out; omega
              case rel => exact ⟨j + 1, by omega, by go_num, rfl, (by rw [Fsp.out]; simpa using hd6), hN5.others hk6 (by omega) (by decide), hq5.others hk6 (by omega) (by decide), hB5.trans hb6⟩
            · have hcmp : wd.isEmpty = false := by
                cases wd with
                | nil => exact absurd rfl hwd
                | cons x r => rfl
              rw [if_neg hwd] at hpt
              have Fsp : List.flatMap (partT ⟨(kk : Int), d, a, b, t, e⟩) (ps.take (j + 1)) = List.flatMap (partT ⟨(kk : Int), d, a, b, t, e⟩) (ps.take j) ++ ((32 :: wd) ++ 32 :: itoa z) := by rw [Fsp.out, if_neg hwd]
              have Fsp := hide Fsp
              go_wp2_with (refine (WrS w1.heap.size w1.heap.size _ (32 :: wd) _ (hdi.alloc _) (by simp only [List.length_append, List.length_cons]; omega) ((hBi.alloc hzi _).size)).mono ?_; rintro ee w5 ⟨rfl, hd5, hb5, hk5⟩; have hN5 := (hNi.alloc _).others hk5 (by omega) (by decide); have hq5 := (hqi.alloc _).others hk5 (by omega) (by decide); have hp5 := (Blk.new wr 91 #[.string ⟨wd.toArray⟩, .pointer (some ⟨g7, f, none⟩)]).others hk5 (by omega) (by decide); have hB5 : Below w1.heap.size w1 w5 := (hBi.alloc hzi _).trans hb5; have c51 := hp5.cell 1; have c5f := hN5.cell f; rw [hcf] at c5f; simp only [List.getElem?_toArray, List.getElem?_cons_zero, List.getElem?_cons_succ] at c51)
              have hT5 : Tv w5 := hT.below (hB1.trans (hB5.mono hB1.size))
              go_wp2_with (refine ((HIZ _ hT5).out).mono ?_; rintro ee w6 ⟨rfl, hb6⟩; have hd6 := hd5.below hb6; have hN6 := hN5.below hb6 hN5.lt; have hq6 := hq5.below hb6 hq5.lt; have hB6 : Below w1.heap.size w1 w6 := hB5.trans (hb6.mono hB5.size))
              go_wp2_with (refine (WrS w1.heap.size w1.heap.size _ (32 :: itoa z) _ hd6 (by simp only [List.length_append, List.length_cons]; omega) hB6.size).mono ?_; rintro ee w7 ⟨rfl, hd7, hb7, hk7⟩)
              go_roundg (ps.length - (j + 1))
              case measure => have := Hgj.out; omega
              case rel => exact ⟨j + 1, by omega, by go_num, rfl, (by rw [Fsp.out]; simpa using hd7), hN6.others hk7 (by omega) (by decide), hq6.others hk7 (by omega) (by decide), hB6.trans hb7⟩
          · obtain rfl : j = ps.length := by omega
            rw [List.take_length] at hdi LF
            have hlen : (sa ++ (ow ++ ps.flatMap (partT ⟨(kk : Int), d, a, b, t, e⟩))).length + 1 ≤ 1000000 := by
              simp only [List.length_append]
              omega
            go_wp2_with (refine (WrB w1.heap.size w1.heap.size _ 10 _ hdi hlen hzi).mono ?_; rintro ee w8 ⟨rfl, hd8, hb8, -⟩)
            go_roundg (l.length - (k + 1))
            case measure => have := Hgk.out; omega
            case rel => exact ⟨k + 1, by omega, by go_num, rfl, (by rw [ES2.out]; exact hd8), hBi.trans hb8⟩
    · obtain rfl : k = l.length := by omega
      go_wp2_with (refine (BdStr w1.heap.size w1.heap.size _ _ hd hz).mono ?_; rintro e w9 ⟨rfl, hb9⟩)
      go_ret2
      exact ⟨rfl, hB1.trans ((hBl.trans hb9).mono hB1.size)⟩
end Go.Proofs.YtmghkonmfbpjcabDoor
