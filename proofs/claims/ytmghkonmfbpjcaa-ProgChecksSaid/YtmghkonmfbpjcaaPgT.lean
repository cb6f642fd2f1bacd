/- The reference's TermsOf. -/
import Derived.Test.YtmghkonmfbpjcaaPgP
import Derived.Test.YtmghkonmfbpjcaaFactE
import Derived.Test.YtmghkonmfbpjcaaSame
import Derived.Deep.LoopGhost
import Derived.Deep.QuietTactic
namespace Go.Proofs.Ytmghkonmfbpjcaa
set_option linter.unusedVariables false
set_option linter.unusedSimpArgs false
open Go.RowKit
set_option maxHeartbeats 4000000
attribute [local irreducible] Row TRow madeCells

def Tm.val (n : Tm) : Value := .agg #[.int .i64 n.op, .int .i64 n.a, .int .i64 n.b]
theorem run_eq_term (x y : Tm) (w : World) : (Op.equalIn 10000 47 x.val y.val).run Try.prog w = .ok (x == y) w := by
  have u3 := Try.underlying3
  have a3 : ∀ w, (isAgg 3).run Try.prog w = .ok false w := fun w => by kernel_rfl
  have z3 : ∀ w, (sizeOf 3).run Try.prog w = .ok 1 w := fun w => by kernel_rfl
  have hS : Try.prog.underlying 47 = some (.struct (Try.prog.fieldsOf 47)) := by kernel_rfl
  have hp : Try.prog.stoodInHeld 47 = false := by kernel_rfl
  obtain ⟨x0, x1, x2⟩ := x
  obtain ⟨y0, y1, y2⟩ := y
  simp only [Tm.val]
  rw [show (10000 : Nat) = 9999 + 1 from rfl, run_equalIn_agg w 9999 47 _ _ hS hp]
  simp only [Program.fieldsOf, Try.underlying47]
  go_simp
  have hb : ((⟨x0, x1, x2⟩ : Tm) == ⟨y0, y1, y2⟩) = (x0 == y0 && (x1 == y1 && x2 == y2)) := by
    rw [Bool.eq_iff_iff]
    simp
  rw [hb]
  by_cases h0 : x0 = y0 <;> by_cases h1 : x1 = y1 <;> by_cases h2 : x2 = y2 <;> simp [h0, h1, h2]
theorem guardTerm : Try.prog.eqGuardType Try.prog.depth 47 = false := by kernel_rfl
theorem infoTerm : (Try.prog.info? 47).map (fun i => (i.zero, i.size, i.bytes)) = some (some (.agg #[.int .i64 0, .int .i64 0, .int .i64 0]), 3, 24) := by kernel_rfl

theorem contains_snoc (a : List Tm) (y t : Tm) : (a ++ [y]).contains t = (a.contains t || (y == t)) := by
  rw [Bool.eq_iff_iff]
  simp only [List.contains_iff_mem, List.mem_append, List.mem_singleton, Bool.or_eq_true, beq_iff_eq]
  exact or_congr_right eq_comm
set_option maxRecDepth 100000 in
theorem TermsOf_any (regs : Int) (A : Option Addr) (l : List Nd) (cap : Nat) (w : World) (hl : l.length ≤ 256) (hA : NodesAt w A l) :
    Calls Try.prog 38 #[.agg #[.int .i64 regs, .slice A l.length cap]] w fun e w' => Below w.heap.size w w' ∧ ∃ v, e = .returned v ∧ TRow w' w.heap.size 47 v (tmsOf l l.length) := by
  obtain ⟨ii, hii, hiz, his, hib⟩ := info_parts infoTerm
  go_enter Try.func38, Try.ntmps38
  go_wp2_with fail
  go_loopg [3, 4] (l.length) (fun gk v i wr => ∃ m : Nat, m ≤ l.length ∧ i = .int .i64 m ∧ gk = l.length - m ∧ TRow wr w.heap.size 47 v (tmsOf l m) ∧ Blk wr w.heap.size 24 #[.int .i64 regs, .slice A l.length cap] ∧ Below w.heap.size w wr)
  case atStart => exact ⟨0, Nat.zero_le _, rfl, rfl, TRow.nil_ _ _ _, (by repeat (first | ((with_reducible refine Blk.new' ?_); exact (by (try simp only [World.size_alloc, World.size_setCell, World.size_drew, World.heap_drewN]); (first | done | omega | ((try simp only [World.size_alloc, World.size_setCell, World.size_drew, World.heap_drewN] at *); omega)))) | (with_reducible refine Blk.drew ?_) | (with_reducible refine Blk.drewN ?_ _) | (with_reducible refine Blk.alloc ?_ _) | with_reducible assumption)), (by repeat (first | (with_reducible exact Below.refl _ _) | (with_reducible assumption) | (with_reducible refine Below.drew ?_) | (with_reducible refine below_drewN ?_ _) | (with_reducible refine Below.alloc ?_ (by (try simp only [World.size_alloc, World.size_setCell, World.size_drew, World.heap_drewN]); (first | done | omega | ((try simp only [World.size_alloc, World.size_setCell, World.size_drew, World.heap_drewN] at *); omega))) _) | (with_reducible refine Below.setCell ?_ (by (try simp only [World.size_alloc, World.size_setCell, World.size_drew, World.heap_drewN]); (first | done | omega | ((try simp only [World.size_alloc, World.size_setCell, World.size_drew, World.heap_drewN] at *); omega))) _) | (with_reducible refine Below.trans ?_ (Below.mono (by assumption) (by (try simp only [World.size_alloc, World.size_setCell, World.size_drew, World.heap_drewN]); (first | done | omega | ((try simp only [World.size_alloc, World.size_setCell, World.size_drew, World.heap_drewN] at *); omega)))))))⟩
  case round =>
    obtain ⟨m, hm, rfl, hgk, hrow, hP, hbr⟩ := hrel
    have Hgk := hide hgk
    clear hgk
    have p0 := hP.cell 0
    have p1 := hP.cell 1
    have lp := hP.lt
    simp only [List.getElem?_toArray, List.getElem?_cons_zero, List.getElem?_cons_succ] at p0 p1
    have HP := hide hP
    clear hP
    by_cases hmm : m < l.length
    · obtain ⟨nb, no, x, rfl, hnb, hx, hxl⟩ := hA.get hmm
      obtain ⟨c0, c1, c2, c3, c4, c5⟩ := hxl.below hbr hnb
      have u0 : (0 : Int) ≤ (m : Int) := by omega
      have u1 : (m : Int) < (l.length : Int) := by omega
      have hlb := Nat.lt_of_lt_of_le hnb hbr.size
      obtain ⟨A5, c5', rfl, _, _⟩ := hrow.shape
      have hlen := tmsOf_len l m
      have Hx := hide hx
      have Hrow := hide hrow
      clear hxl hx hrow
      go_wp2_with fail
      have hT : Blk ((wr.alloc (.cells #[.int .i64 x.op, .int .i64 x.d, .int .i64 x.a, .int .i64 x.b, .int .i64 x.t, .int .i64 x.e] 91)).alloc (.cells #[.int .i64 x.op, .int .i64 x.a, .int .i64 x.b] 47)) (wr.heap.size + 1) 47 #[.int .i64 x.op, .int .i64 x.a, .int .i64 x.b] := Blk.new' (by simp)
      have hr1 := (Hrow.out.alloc (.cells #[.int .i64 x.op, .int .i64 x.d, .int .i64 x.a, .int .i64 x.b, .int .i64 x.t, .int .i64 x.e] 91)).alloc (.cells #[.int .i64 x.op, .int .i64 x.a, .int .i64 x.b] 47)
      have hP1 := (HP.out.alloc (.cells #[.int .i64 x.op, .int .i64 x.d, .int .i64 x.a, .int .i64 x.b, .int .i64 x.t, .int .i64 x.e] 91)).alloc (.cells #[.int .i64 x.op, .int .i64 x.a, .int .i64 x.b] 47)
      have hb1 : Below w.heap.size w ((wr.alloc (.cells #[.int .i64 x.op, .int .i64 x.d, .int .i64 x.a, .int .i64 x.b, .int .i64 x.t, .int .i64 x.e] 91)).alloc (.cells #[.int .i64 x.op, .int .i64 x.a, .int .i64 x.b] 47)) := (hbr.alloc hbr.size _).alloc (by simp; have := hbr.size; omega) _
      have hzr := hbr.size
      generalize (wr.alloc (.cells #[.int .i64 x.op, .int .i64 x.d, .int .i64 x.a, .int .i64 x.b, .int .i64 x.t, .int .i64 x.e] 91)).alloc (.cells #[.int .i64 x.op, .int .i64 x.a, .int .i64 x.b] 47) = W at hT hr1 hP1 hb1 ⊢
      refine (reckons_any _ _).mono ?_
      rintro e w1 ⟨rfl, rfl⟩
      have t0 := hT.cell 0
      have t1 := hT.cell 1
      have t2 := hT.cell 2
      have lt := hT.lt
      simp only [List.getElem?_toArray, List.getElem?_cons_zero, List.getElem?_cons_succ] at t0 t1 t2
      obtain ⟨ts, hts⟩ : ∃ ts, ts = tmsOf l m := ⟨_, rfl⟩
      rw [← hts] at hr1 hlen ⊢
      have Hts := hide hts
      have Hr1 := hide hr1
      have HP1 := hide hP1
      have hgd := guardTerm
      clear hts hr1 hP1 Hrow HP p0 p1 lp c0 c1 c2 c3 c4 c5 hbr
      go_wp2_with fail
      go_loopg [7, 8] (ts.length) (fun gk s7 i wr' => ∃ j : Nat, j ≤ ts.length ∧ i = .int .i64 j ∧ gk = ts.length - j ∧ s7 = .bool (!hasB x.op || (ts.take j).contains x.tm) ∧ ∃ d, wr' = W.drewN d)
      case atStart => exact ⟨0, Nat.zero_le _, rfl, rfl, by simp, 0, rfl⟩
      case round =>
        obtain ⟨j, hj, rfl, hgk2, rfl, d, rfl⟩ := hrel
        have Hgk2 := hide hgk2
        clear hgk2
        by_cases hjl : j < ts.length
        · obtain ⟨gb, go, y, rfl, hgb, hy, hyl⟩ := (Hr1.out.nodes).get hjl
          obtain ⟨y0, y1, y2⟩ := hyl
          have v0 : (0 : Int) ≤ (j : Int) := by omega
          have v1 : (j : Int) < (ts.length : Int) := by omega
          have hst : (ts.take (j + 1)).contains x.tm = ((ts.take j).contains x.tm || (y == x.tm)) := by
            rw [List.take_add_one, hy]
            exact contains_snoc _ _ _
          have hst2 : (!hasB x.op || (ts.take (j + 1)).contains x.tm) = ((!hasB x.op || (ts.take j).contains x.tm) || (y == x.tm)) := by rw [hst, Bool.or_assoc]
          have hEq := fun W => run_eq_term y x.tm W
          unfold Tm.val at hEq
          have hEq : ∀ W, (Op.equalIn 10000 47 (.agg #[.int .i64 y.op, .int .i64 y.a, .int .i64 y.b]) (.agg #[.int .i64 x.op, .int .i64 x.a, .int .i64 x.b])).run Try.prog W = .ok (y == x.tm) W := hEq
          obtain ⟨a0, ha0⟩ : ∃ a, a = (!hasB x.op || (ts.take j).contains x.tm) := ⟨_, rfl⟩
          rw [← ha0] at hst2 ⊢
          obtain ⟨b0, hb0⟩ : ∃ b, b = (y == x.tm) := ⟨_, rfl⟩
          rw [← hb0] at hst2 hEq
          have Hst := hide hst2
          clear hst hst2 ha0 hb0 hy
          cases a0
          case true =>
            go_upto_region 11 with fail
            go_quiet (fail)
            go_wp2_with fail
            go_roundg (ts.length - (j + 1))
            case measure => have := Hgk2.out; omega
            case rel => exact ⟨j + 1, by omega, by go_num, rfl, by rw [Hst.out]; rfl, _, rfl⟩
          case false =>
            go_upto_region 11 with fail
            go_quiet (fail)
            go_wp2_with fail
            go_roundg (ts.length - (j + 1))
            case measure => have := Hgk2.out; omega
            case rel => exact ⟨j + 1, by omega, by go_num, rfl, by rw [Hst.out]; rfl, _, rfl⟩
        · have hjj : ts.take j = ts := List.take_of_length_le (by omega)
          rw [hjj]
          clear hjj
          cases ha : (!hasB x.op || ts.contains x.tm)
          case true =>
            have hnext : tmsOf l (m + 1) = ts := by
              rw [Hts.out] at ha ⊢
              cases hB : hasB x.op with
              | false => exact tmsOf_no Hx.out hB
              | true => rw [hB] at ha; exact tmsOf_seen Hx.out (by simpa using ha)
            have Hn := hide hnext
            clear ha hnext
            go_wp2_with fail
            go_roundg (l.length - (m + 1))
            case measure => have := Hgk.out; omega
            case rel => exact ⟨m + 1, by omega, by go_num, rfl, by rw [Hn.out]; exact Hr1.out.drewN _, HP1.out.drewN _, below_drewN hb1 _⟩
          case false =>
            have hnext : tmsOf l (m + 1) = ts ++ [x.tm] := by
              rw [Hts.out] at ha ⊢
              simp only [Bool.or_eq_false_iff, Bool.not_eq_false'] at ha
              exact tmsOf_yes Hx.out ha.1 ha.2
            have Hn := hide hnext
            clear ha hnext
            go_wp2_with (at_builtin; refine wpList_append_terms (v := .slice A5 ts.length c5') rfl (.tmp 49) (.tmp 51) _ rfl ii _ 24 Try.underlying59 hii hiz his hib rfl rfl ((Hr1.out.drewN d).alloc _) (some ⟨W.heap.size, 0, none⟩) 1 1 [x.tm] rfl rfl (terms_one' (n := x.tm) rfl) (by simp [maxLen]; omega) (by simp; omega) (by simp; omega) ?_; intro v3 w3 hr3 hg3 hat3)
            go_roundg (l.length - (m + 1))
            case measure => have := Hgk.out; omega
            case rel =>
              have hzW := hb1.size
              exact ⟨m + 1, by omega, by go_num, rfl, by rw [Hn.out]; exact hr3, ((HP1.out.drewN d).alloc (.cells #[.int .i64 x.op, .int .i64 x.a, .int .i64 x.b] 47)).grown hg3 (Hr1.out.ne_blk HP1.out (by decide)), ((below_drewN hb1 d).alloc (by simp; omega) _).grown hg3 (by simp; omega) (fun q hq => (Hr1.out.lt q hq).1)⟩
    · have hkk : m = l.length := by omega
      have Hkk := hide hkk
      clear hkk
      go_wp2_with fail
      go_tidy
      go_ret
      exact ⟨hbr, _, rfl, by rw [← Hkk.out]; exact hrow⟩
end Go.Proofs.Ytmghkonmfbpjcaa
