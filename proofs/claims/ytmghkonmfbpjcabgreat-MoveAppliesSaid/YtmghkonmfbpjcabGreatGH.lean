/- PgT PgN PgV Ma MvR Mw MvF. -/
import Derived.Test.YtmghkonmfbpjcabGreatGF
import Derived.Test.YtmghkonmfbpjcabGreatGG
import Derived.Test.YtmghkonmfbpjcabGreatGC
import Derived.Deep.LoopGhost
import Derived.Deep.QuietTactic
import Derived.Test.YtmghkonmfbpjcabGreatGA
import Derived.Test.YtmghkonmfbpjcabGreatGB
import Derived.Test.YtmghkonmfbpjcabGreatMvW
import Derived.Test.YtmghkonmfbpjcabGreatGE
set_option linter.unusedVariables false
set_option linter.unusedSimpArgs false
set_option maxRecDepth 100000
namespace Go.Proofs.YtmghkonmfbpjcabGreat
section
open Go.RowKit
set_option maxHeartbeats 4000000
attribute [local irreducible] Row TRow madeCells
theorem TermsOf_any (regs : Int) (A : Option Addr) (l : List Nd) (cap : Nat) (w : World) (hl : l.length ≤ 256) (hA : NodesAt w A l) :
 Calls Tryz.prog 54 #[.agg #[.int .i64 regs, .slice A l.length cap]] w fun e w' => Below w.heap.size w w' ∧ ∃ v, e = .returned v ∧ TRow w' w.heap.size 26 v (tmsOf l l.length) := by (
 obtain ⟨ii, hii, hiz, his, hib⟩ := info_parts infoTerm
 go_enter Tryz.func54, Tryz.ntmps54
 go_wp2_with fail
 go_loopg [3, 4] (l.length) (fun gk v i wr => ∃ m : Nat, m ≤ l.length ∧ i = .int .i64 m ∧ gk = l.length - m ∧ TRow wr w.heap.size 26 v (tmsOf l m) ∧ Blk wr w.heap.size 24 #[.int .i64 regs, .slice A l.length cap] ∧ Below w.heap.size w wr)
 case atStart => exact ⟨0, Nat.zero_le _, rfl, rfl, TRow.nil_ _ _ _, (by repeat (first | ((with_reducible refine Blk.new' ?_); exact (by (try simp only [Sz]); first | done | omega | (try simp only [Sz] at *); omega)) | (with_reducible refine Blk.drew ?_) | (with_reducible refine Blk.drewN ?_ _) | (with_reducible refine Blk.alloc ?_ _) | with_reducible assumption)), (by (with_reducible repeat first | apply Qa | assumption | apply Qb | apply Qc | apply Qd | apply Qe | refine Qf ?_ (by assumption) ?_); all_goals (try simp only [Sz]); first | done | omega | (try simp only [Sz] at *); omega)⟩
 case round => (
 obtain ⟨m, hm, rfl, hgk, hrow, hP, hbr⟩ := hrel
 have Hgk := hide hgk
 clear hgk
 have p0 := hP.cell 0
 have p1 := hP.cell 1
 have lp := hP.lt
 simp only [Yl] at p0 p1
 have HP := hide hP
 clear hP
 by_cases hmm : m < l.length
 · (
 obtain ⟨nb, no, x, rfl, hnb, hx, hxl⟩ := hA.get hmm
 obtain ⟨c0, c1, c2, c3, c4, c5⟩ := hxl.below hbr hnb
 have u0 : (0 : Int) ≤ (m : Int) := by omega
 have u1 : (m : Int) < (l.length : Int) := by omega
 have hlb := Nat.lt_of_lt_of_le hnb hbr.size
 obtain ⟨A5, c5', rfl, _, _⟩ := hrow.shape
 have hlen := tmsOf_len l m
 have Hx := hide hx
 have Hrow := hide hrow
 clear hxl hx hrow
 go_wp2_with fail
 have hT : Blk ((wr.alloc (.cells #[.int .i64 x.op, .int .i64 x.d, .int .i64 x.a, .int .i64 x.b, .int .i64 x.t, .int .i64 x.e] 57)).alloc (.cells #[.int .i64 x.op, .int .i64 x.a, .int .i64 x.b] 26)) (wr.heap.size + 1) 26 #[.int .i64 x.op, .int .i64 x.a, .int .i64 x.b] := Blk.new' (by simp)
 have hr1 := (Hrow.out.alloc (.cells #[.int .i64 x.op, .int .i64 x.d, .int .i64 x.a, .int .i64 x.b, .int .i64 x.t, .int .i64 x.e] 57)).alloc (.cells #[.int .i64 x.op, .int .i64 x.a, .int .i64 x.b] 26)
 have hP1 := (HP.out.alloc (.cells #[.int .i64 x.op, .int .i64 x.d, .int .i64 x.a, .int .i64 x.b, .int .i64 x.t, .int .i64 x.e] 57)).alloc (.cells #[.int .i64 x.op, .int .i64 x.a, .int .i64 x.b] 26)
 have hb1 : Below w.heap.size w ((wr.alloc (.cells #[.int .i64 x.op, .int .i64 x.d, .int .i64 x.a, .int .i64 x.b, .int .i64 x.t, .int .i64 x.e] 57)).alloc (.cells #[.int .i64 x.op, .int .i64 x.a, .int .i64 x.b] 26)) := (hbr.alloc hbr.size _).alloc (by simp; have := hbr.size; omega) _
 have hzr := hbr.size
 generalize (wr.alloc (.cells #[.int .i64 x.op, .int .i64 x.d, .int .i64 x.a, .int .i64 x.b, .int .i64 x.t, .int .i64 x.e] 57)).alloc (.cells #[.int .i64 x.op, .int .i64 x.a, .int .i64 x.b] 26) = W at hT hr1 hP1 hb1 ⊢
 refine (reckons_any _ _).mono ?_
 rintro e w1 ⟨rfl, rfl⟩
 have t0 := hT.cell 0
 have t1 := hT.cell 1
 have t2 := hT.cell 2
 have lt := hT.lt
 simp only [Yl] at t0 t1 t2
 obtain ⟨ts, hts⟩ : ∃ ts, ts = tmsOf l m := ⟨_, rfl⟩
 rw [← hts] at hr1 hlen ⊢
 have Hts := hide hts
 have Hr1 := hide hr1
 have HP1 := hide hP1
 have hgd := guardTerm
 clear hts hr1 hP1 Hrow HP p0 p1 lp c0 c1 c2 c3 c4 c5 hbr
 go_wp2_with fail
 go_loopg [7, 8] (ts.length) (fun gk s7 i wr' => ∃ j : Nat, j ≤ ts.length ∧ i = .int .i64 j ∧ gk = ts.length - j ∧ s7 = .bool (!hasB x.op || (ts.take j).contains x.tm) ∧ ∃ d, wr' = W.drewN d)
 case atStart => exact ⟨0, Nat.zero_le _, rfl, rfl, by simp, 0, rfl⟩
 case round => (
 obtain ⟨j, hj, rfl, hgk2, rfl, d, rfl⟩ := hrel
 have Hgk2 := hide hgk2
 clear hgk2
 by_cases hjl : j < ts.length
 · (
 obtain ⟨gb, go, y, rfl, hgb, hy, hyl⟩ := (Hr1.out.nodes).get hjl
 obtain ⟨y0, y1, y2⟩ := hyl
 have v0 : (0 : Int) ≤ (j : Int) := by omega
 have v1 : (j : Int) < (ts.length : Int) := by omega
 have hst : (ts.take (j + 1)).contains x.tm = ((ts.take j).contains x.tm || (y == x.tm)) := by (
 rw [List.take_add_one, hy]
 exact contains_snoc _ _ _)
 have hst2 : (!hasB x.op || (ts.take (j + 1)).contains x.tm) = ((!hasB x.op || (ts.take j).contains x.tm) || (y == x.tm)) := by rw [hst, Bool.or_assoc]
 have hEq := fun W => run_eq_term y x.tm W
 unfold Tm.val at hEq
 have hEq : ∀ W, (Op.equalIn 10000 26 (.agg #[.int .i64 y.op, .int .i64 y.a, .int .i64 y.b]) (.agg #[.int .i64 x.op, .int .i64 x.a, .int .i64 x.b])).run Tryz.prog W = .ok (y == x.tm) W := hEq
 obtain ⟨a0, ha0⟩ : ∃ a, a = (!hasB x.op || (ts.take j).contains x.tm) := ⟨_, rfl⟩
 rw [← ha0] at hst2 ⊢
 obtain ⟨b0, hb0⟩ : ∃ b, b = (y == x.tm) := ⟨_, rfl⟩
 rw [← hb0] at hst2 hEq
 have Hst := hide hst2
 clear hst hst2 ha0 hb0 hy
 cases a0
 case true => (
 go_upto_region 11 with fail
 go_quiet (fail)
 go_wp2_with fail
 go_roundg (ts.length - (j + 1))
 case measure => have := Hgk2.out; omega
 case rel => exact ⟨j + 1, by omega, by go_num, rfl, by rw [Hst.out]; rfl, _, rfl⟩)
 case false => (
 go_upto_region 11 with fail
 go_quiet (fail)
 go_wp2_with fail
 go_roundg (ts.length - (j + 1))
 case measure => have := Hgk2.out; omega
 case rel => exact ⟨j + 1, by omega, by go_num, rfl, by rw [Hst.out]; rfl, _, rfl⟩))
 · (
 have hjj : ts.take j = ts := List.take_of_length_le (by omega)
 rw [hjj]
 clear hjj
 cases ha : (!hasB x.op || ts.contains x.tm)
 case true => (
 have hnext : tmsOf l (m + 1) = ts := by (
 rw [Hts.out] at ha ⊢
 cases hB : hasB x.op with
 | false => exact tmsOf_no Hx.out hB
 | true => rw [hB] at ha; exact tmsOf_seen Hx.out (by simpa using ha))
 have Hn := hide hnext
 clear ha hnext
 go_wp2_with fail
 go_roundg (l.length - (m + 1))
 case measure => have := Hgk.out; omega
 case rel => exact ⟨m + 1, by omega, by go_num, rfl, by rw [Hn.out]; exact Hr1.out.drewN _, HP1.out.drewN _, below_drewN hb1 _⟩)
 case false => (
 have hnext : tmsOf l (m + 1) = ts ++ [x.tm] := by (
 rw [Hts.out] at ha ⊢
 simp only [Bool.or_eq_false_iff, Bool.not_eq_false'] at ha
 exact tmsOf_yes Hx.out ha.1 ha.2)
 have Hn := hide hnext
 clear ha hnext
 go_wp2_with (at_builtin; refine wpList_append_terms (v := .slice A5 ts.length c5') rfl (.tmp 49) (.tmp 51) _ rfl ii _ 24 Tryz.underlying79 hii hiz his hib rfl rfl ((Hr1.out.drewN d).alloc _) (some ⟨W.heap.size, 0, none⟩) 1 1 [x.tm] rfl rfl (terms_one' (n := x.tm) rfl) (by simp [maxLen]; omega) (by simp; omega) (by simp; omega) ?_; intro v3 w3 hr3 hg3 hat3)
 go_roundg (l.length - (m + 1))
 case measure => have := Hgk.out; omega
 case rel => (
 have hzW := hb1.size
 exact ⟨m + 1, by omega, by go_num, rfl, by rw [Hn.out]; exact hr3, ((HP1.out.drewN d).alloc (.cells #[.int .i64 x.op, .int .i64 x.a, .int .i64 x.b] 26)).grown hg3 (Hr1.out.ne_blk HP1.out (by decide)), ((below_drewN hb1 d).alloc (by simp; omega) _).grown hg3 (by simp; omega) (fun q hq => (Hr1.out.lt q hq).1)⟩)))))
 · (
 have hkk : m = l.length := by omega
 have Hkk := hide hkk
 clear hkk
 go_wp2_with fail
 go_tidy
 go_ret
 exact ⟨hbr, _, rfl, by rw [← Hkk.out]; exact hrow⟩)))
end
section
open Go.RowKit
set_option maxHeartbeats 4000000
attribute [local irreducible] Row madeCells
def nxE (regs : Int) (l : List Nd) (n : Int) : Int := if chk regs l = 0 then (if n < 0 ∨ (l.length : Int) ≤ n then 3 else 0) else chk regs l
def nxLp (regs : Int) (l : List Nd) (n : Int) (p : List Nd → Nat → Nat → Bool) : List Int := if nxE regs l n = 0 then sel (p l n.toNat) l.length else []
def NxPost (tI : TypeId) (regs : Int) (l : List Nd) (n : Int) (p : List Nd → Nat → Nat → Bool) (w : World) (e : Ending) (w' : World) : Prop :=
 Below w.heap.size w w' ∧ ∃ v, e = .returned (.tuple #[v, .int .i64 (nxE regs l n)]) ∧ Row w' w.heap.size tI v (ints (nxLp regs l n p))
end
section
open Go.RowKit
open Go.Maps
set_option maxHeartbeats 4000000
attribute [local irreducible] Row TRow madeCells TSeen
theorem wf_small {z : Int} (h0 : -1000 ≤ z) (h1 : z ≤ 1000) : (Lit.int .i64 z).wf = true := by (
 unfold Lit.wf
 rw [Bool.and_eq_true]
 exact ⟨decide_eq_true (by show (-9223372036854775808 : Int) ≤ _; omega), decide_eq_true (by show _ ≤ (9223372036854775807 : Int); omega)⟩)
theorem Right.key {regs : Int} {l : List Nd} (h : Right regs l) {n : Nd} (hn : n ∈ l) (hB : hasB n.op = true) : ∃ k, keyOf Tryz.prog 26 n.tm.val = some k := by (
 have h1 := h.rng n hn
 have h2 := h.rhi
 have hA : hasA n.op = true := by (
 simp only [hasB, hasA, inB, Bool.and_eq_true, Bool.or_eq_true, decide_eq_true_eq] at *
 omega)
 unfold badR okR at h1
 simp only [hB, hA, Bool.or_eq_false_iff, Bool.not_eq_false', Bool.not_true, Bool.false_or, Bool.and_eq_true, decide_eq_true_eq] at h1
 obtain ⟨⟨⟨⟨_, ha⟩, hb⟩, _⟩, _⟩ := h1
 simp only [hasB, inB, Bool.and_eq_true, decide_eq_true_eq] at hB
 exact keyTerm n.tm (wf_small (by show _ ≤ n.op; omega) (by show n.op ≤ _; omega)) (wf_small (by show _ ≤ n.a; omega) (by show n.a ≤ _; omega)) (wf_small (by show _ ≤ n.b; omega) (by show n.b ≤ _; omega)))
def TmPost (tT : TypeId) (regs : Int) (l : List Nd) (w : World) (e : Ending) (w' : World) : Prop :=
 Below w.heap.size w w' ∧ ∃ v, e = .returned (.tuple #[v, .int .i64 (chk regs l)]) ∧ TRow w' w.heap.size tT v (if chk regs l = 0 then tmsOf l l.length else [])
theorem Terms_any (regs : Int) (A : Option Addr) (l : List Nd) (cap : Nat) (w : World) (hl : l.length ≤ maxLen) (hA : NodesAt w A l) :
 Calls Tryz.prog 49 #[.agg #[.int .i64 regs, .slice A l.length cap]] w (TmPost 26 regs l w) := by (
 have hC := fun W (hW : Below w.heap.size w W) => Check_any regs A l cap W hl (hA.below hW)
 unfold maxLen at hl
 by_cases h0 : chk regs l = 0
 · (
 have hR := right_of_chk h0
 unfold TmPost
 rw [if_pos h0]
 rw [h0] at hC ⊢
 have HC := hide hC
 have HR := hide hR
 have hhi := hR.hi
 obtain ⟨ii, hii, hiz, his, hib⟩ := info_parts infoTerm
 have hmm := @run_makeMap Tryz.prog
 clear hC h0 hR
 go_enter Tryz.func49, Tryz.ntmps49
 go_wp2_with fail
 refine (HC.out _ (by (with_reducible repeat first | apply Qa | assumption | apply Qb | apply Qc | apply Qd | apply Qe | refine Qf ?_ (by assumption) ?_); all_goals (try simp only [Sz]); first | done | omega | (try simp only [Sz] at *); omega)).mono ?_
 rintro e w1 ⟨rfl, hb1⟩
 have hP : Blk w1 w.heap.size 24 #[.int .i64 regs, .slice A l.length cap] := Blk.below (Blk.new' rfl) hb1 (by simp)
 have hB : Below w.heap.size w w1 := (by (with_reducible repeat first | apply Qa | assumption | apply Qb | apply Qc | apply Qd | apply Qe | refine Qf ?_ (by assumption) ?_); all_goals (try simp only [Sz]); first | done | omega | (try simp only [Sz] at *); omega)
 have p0 := hP.cell 0
 have p1 := hP.cell 1
 have lp := hP.lt
 simp only [Yl] at p0 p1
 obtain ⟨g, hg⟩ : ∃ g, g = w1.heap.size := ⟨_, rfl⟩
 have hSn : TSeen (w1.alloc (.map #[] 0)) g 0 [] := by rw [hg]; exact TSeen.start
 have hBn : Below w.heap.size w (w1.alloc (.map #[] 0)) := hB.alloc hB.size _
 have Hg := hide hg
 have HSn := hide hSn
 have hgw : w.heap.size ≤ g := by rw [hg]; exact hB.size
 clear hb1 hg hSn
 go_wp2_with fail
 clear hmm
 rw [← Hg.out]
 go_loopg [5, 21] (l.length) (fun gk v i wr => ∃ m : Nat, m ≤ l.length ∧ i = .int .i64 m ∧ gk = l.length - m ∧ TRow wr w.heap.size 26 v (tmsOf l m) ∧ TSeen wr g m (tmsOf l m) ∧ Below w.heap.size w wr)
 case atStart => exact ⟨0, Nat.zero_le _, rfl, rfl, TRow.nil_ _ _ _, HSn.out, hBn⟩
 case round => (
 obtain ⟨m, hm, rfl, hgk, hrow, hsn, hbr⟩ := hrel
 have Hgk := hide hgk
 clear hgk p0 p1 lp hP hB hBn
 by_cases hlt : m < l.length
 · (
 obtain ⟨nb, no, x, rfl, hnb, hx, hxl⟩ := hA.get hlt
 obtain ⟨c0, c1, c2, c3, c4, c5⟩ := hxl.below hbr hnb
 have u0 : (0 : Int) ≤ (m : Int) := by omega
 have u1 : (m : Int) < (l.length : Int) := by omega
 have hlb := Nat.lt_of_lt_of_le hnb hbr.size
 have hzr := hbr.size
 obtain ⟨A5, c5', rfl, _, _⟩ := hrow.shape
 have hlen := tmsOf_len l m
 obtain ⟨ts, hts⟩ : ∃ ts, ts = tmsOf l m := ⟨_, rfl⟩
 rw [← hts] at hrow hsn hlen ⊢
 have Hts := hide hts
 have Hx := hide hx
 have Hrow := hide hrow
 have Hsn := hide hsn
 clear hxl hx hrow hsn hts
 go_wp2_with fail
 have hT : Blk ((wr.alloc (.cells #[.int .i64 x.op, .int .i64 x.d, .int .i64 x.a, .int .i64 x.b, .int .i64 x.t, .int .i64 x.e] 57)).alloc (.cells #[.int .i64 x.op, .int .i64 x.a, .int .i64 x.b] 26)) (wr.heap.size + 1) 26 #[.int .i64 x.op, .int .i64 x.a, .int .i64 x.b] := Blk.new' (by simp)
 have hbw : Below wr.heap.size wr ((wr.alloc (.cells #[.int .i64 x.op, .int .i64 x.d, .int .i64 x.a, .int .i64 x.b, .int .i64 x.t, .int .i64 x.e] 57)).alloc (.cells #[.int .i64 x.op, .int .i64 x.a, .int .i64 x.b] 26)) := ((Below.refl _ _).alloc (Nat.le_refl _) _).alloc (by simp) _
 have hN1 : Blk ((wr.alloc (.cells #[.int .i64 x.op, .int .i64 x.d, .int .i64 x.a, .int .i64 x.b, .int .i64 x.t, .int .i64 x.e] 57)).alloc (.cells #[.int .i64 x.op, .int .i64 x.a, .int .i64 x.b] 26)) wr.heap.size 57 #[.int .i64 x.op, .int .i64 x.d, .int .i64 x.a, .int .i64 x.b, .int .i64 x.t, .int .i64 x.e] := (Blk.new' rfl).alloc _
 have hsz : ((wr.alloc (.cells #[.int .i64 x.op, .int .i64 x.d, .int .i64 x.a, .int .i64 x.b, .int .i64 x.t, .int .i64 x.e] 57)).alloc (.cells #[.int .i64 x.op, .int .i64 x.a, .int .i64 x.b] 26)).heap.size = wr.heap.size + 1 + 1 := by simp
 refine (of_any x.op _).mono ?_
 rintro e w2 ⟨rfl, hb2⟩
 obtain ⟨g9, hg9⟩ : ∃ g, g = wr.heap.size + 1 := ⟨_, rfl⟩
 have hT2 := hT.below hb2 hT.lt
 rw [← hg9] at hT2 ⊢
 have hbw2 : Below wr.heap.size wr w2 := hbw.trans (hb2.mono (by rw [hsz]; omega))
 have hz2 := hb2.size
 rw [hsz] at hz2
 obtain ⟨W, hW⟩ : ∃ W, W = w2.alloc (.cells #[.bool (hasD x.op), .bool (hasA x.op), .bool (hasB x.op), .bool (isSet x.op), .bool (shT x.op), .bool (hasE x.op)] 117) := ⟨_, rfl⟩
 have hX : Blk W w2.heap.size 117 #[.bool (hasD x.op), .bool (hasA x.op), .bool (hasB x.op), .bool (isSet x.op), .bool (shT x.op), .bool (hasE x.op)] := by rw [hW]; exact Blk.new' rfl
 have hT3 : Blk W g9 26 #[.int .i64 x.op, .int .i64 x.a, .int .i64 x.b] := by rw [hW]; exact hT2.alloc _
 have hbW : Below wr.heap.size wr W := by rw [hW]; exact hbw2.alloc (by omega) _
 have hrW := Hrow.out.below' hbW
 have hsW := Hsn.out.below hbW
 have hBW := hbr.trans (hbW.mono hzr)
 have hn9 : ¬ (g = g9) := by have := Hsn.out.lt; omega
 have x2 := hX.cell 2
 have t0 := hT3.cell 0
 have t1 := hT3.cell 1
 have t2 := hT3.cell 2
 have lX := hX.lt
 have lT := hT3.lt
 simp only [Yl] at x2 t0 t1 t2
 have hWe : w2.alloc (.cells #[.bool (hasD x.op), .bool (hasA x.op), .bool (hasB x.op), .bool (isSet x.op), .bool (shT x.op), .bool (hasE x.op)] 117) = W := hW.symm
 have HWe := hide hWe
 have HrW := hide hrW
 have HsW := hide hsW
 have HBW := hide hBW
 clear hT hbw hN1 hsz hb2 hT2 hbw2 hz2 hW hX hbW hrW hsW hBW hWe Hrow Hsn hbr c0 c1 c2 c3 c4 c5 hT3 hg9
 cases hb : hasB x.op
 case false => (
 have hnext : tmsOf l (m + 1) = ts := by rw [Hts.out]; exact tmsOf_no Hx.out hb
 have Hn := hide hnext
 rw [hb] at x2 HWe
 clear hnext
 go_wp2_with fail
 go_roundg (l.length - (m + 1))
 case measure => have := Hgk.out; omega
 case rel => rw [HWe.out]; exact ⟨m + 1, by omega, by go_num, rfl, by rw [Hn.out]; exact HrW.out, by rw [Hn.out]; exact HsW.out.mono (by omega), HBW.out⟩)
 case true => (
 rw [hb] at x2 HWe
 have hBsz := HBW.out.size
 obtain ⟨kl, hkl⟩ := HR.out.key (List.mem_of_getElem? Hx.out) hb
 obtain ⟨c, hlook, hcm, hcz, v0, st, W1, hme, hg1, hlook1, W3, hst, hg3, hS3, hlook3⟩ := (HsW.out.drew).bump (by omega) hkl
 have hlook : (Instr.lookup 98 (.map (some g)) (.agg #[.int .i64 x.op, .int .i64 x.a, .int .i64 x.b]) false).run Tryz.prog W.drew = .ok (.int .i64 c) W.drew := hlook
 have hlook1 : (Instr.lookup 98 (.map (some g)) (.agg #[.int .i64 x.op, .int .i64 x.a, .int .i64 x.b]) false).run Tryz.prog W1 = .ok (.int .i64 c) W1 := hlook1
 have hme : (Instr.mapEntry 98 (.map (some g)) (.agg #[.int .i64 x.op, .int .i64 x.a, .int .i64 x.b])).run Tryz.prog W.drew = .ok (.tuple #[v0, .int .i64 (st : Int)]) W1 := hme
 have hst : (Instr.entryStore 98 (.map (some g)) (.int .i64 (st : Int)) (.int .i64 (IntKind.i64.wrap ((c : Int) + 1)))).run Tryz.prog W1 = .ok () W3 := by rw [show IntKind.i64.wrap ((c : Int) + 1) = (c : Int) + 1 by rw [IntKind.wrap_i64]; omega]; exact hst
 obtain ⟨cv, hcv⟩ : ∃ cv : Int, cv = (c : Int) + 1 := ⟨_, rfl⟩
 have hlook3 : (Instr.lookup 98 (.map (some g)) (.agg #[.int .i64 x.op, .int .i64 x.a, .int .i64 x.b]) false).run Tryz.prog W3 = .ok (.int .i64 cv) W3 := by rw [hcv]; exact hlook3
 have e0 : W1.cell? ⟨g9, 0, none⟩ = some (.int .i64 x.op) := by rw [hg1.cell_far _ (by simp <;> omega) (by simp; omega)]; exact t0
 have e1 : W1.cell? ⟨g9, 1, none⟩ = some (.int .i64 x.a) := by rw [hg1.cell_far _ (by simp <;> omega) (by simp; omega)]; exact t1
 have e2 : W1.cell? ⟨g9, 2, none⟩ = some (.int .i64 x.b) := by rw [hg1.cell_far _ (by simp <;> omega) (by simp; omega)]; exact t2
 have hs1 := hg1.size
 simp only [World.size_drew] at hs1
 have l1 : g9 < W1.heap.size := by omega
 have f0 : W3.cell? ⟨g9, 0, none⟩ = some (.int .i64 x.op) := by rw [hg3.cell_far _ (by simp <;> omega) (by simp; omega)]; exact e0
 have f1 : W3.cell? ⟨g9, 1, none⟩ = some (.int .i64 x.a) := by rw [hg3.cell_far _ (by simp <;> omega) (by simp; omega)]; exact e1
 have f2 : W3.cell? ⟨g9, 2, none⟩ = some (.int .i64 x.b) := by rw [hg3.cell_far _ (by simp <;> omega) (by simp; omega)]; exact e2
 have hr3 : TRow W3 w.heap.size 26 (.slice A5 ts.length c5') ts := ((HrW.out.drew).kept hg1 (.inr (HsW.out.ne_row HrW.out))).kept hg3 (.inr (HsW.out.ne_row HrW.out))
 have hB3 : Below w.heap.size w W3 := ((HBW.out.drew).grown hg1 (by simp; omega) (fun q hq => by injection hq with hq; omega)).grown hg3 (by omega) (fun q hq => by injection hq with hq; omega)
 have hz3 : w.heap.size ≤ W3.heap.size := hB3.size
 have HR3 := hide hr3
 have HB3 := hide hB3
 have HS3 := hide hS3
 clear hkl hg1 hg3 hs1 hr3 hB3 hS3
 cases hct : ts.contains x.tm
 case true => (
 have hnext : tmsOf l (m + 1) = ts := by rw [Hts.out] at hct ⊢; exact tmsOf_seen Hx.out hct
 have hc0 : c ≠ 0 := fun h => by have := hcz.1 h; rw [hct] at this; cases this
 have b1 : (cv == 1) = false := by rw [hcv]; have h : ((c : Int) + 1) ≠ 1 := (by omega); simpa using h
 rw [hct, if_pos rfl] at HS3
 have Hn := hide hnext
 clear hnext hcz hc0 hcv hct
 go_upto_region 12 with fail
 rw [HWe.out]
 refine wp_region_held_drew (S := fun w' => w'.cell? ⟨g9, 0, none⟩ = some (.int .i64 x.op) ∧ w'.cell? ⟨g9, 1, none⟩ = some (.int .i64 x.a) ∧ w'.cell? ⟨g9, 2, none⟩ = some (.int .i64 x.b)) (by kernel_rfl) ⟨t0, t1, t2⟩ ?_
 intro hH
 refine Up (fun _ _ _ _ _ => id) fun hP => ?_
 refine Vi 0 ?_ rfl (by kernel_rfl) hP (by rfl) ?r hH ?_; case r => intro w' h; (try dsimp only at h); go_simp; try with_reducible rfl
 try simp only [Nm]
 refine Vi 1 ?_ rfl (by kernel_rfl) hP (by rfl) ?r hH ?_; case r => intro w' h; (try dsimp only at h); go_simp; try with_reducible rfl
 try simp only [Nm]
 refine wpAnyH_ready (rs := [2, 4]) (by kernel_rfl) (by simp) ?_
 refine AllReadyH.cons rfl (fun K hK => ?_) (AllReadyH.cons rfl (fun K hK => ?_) AllReadyH.nil)
 · (
 have HK2 := hide hK
 clear hK
 go_simp
 refine Shut.out HK2.out _ _ hH (fun _ => ?_)
 try simp only [Nm]
 refine Vi 3 ?_ rfl (by kernel_rfl) hP (by rfl) ?r hH ?_; case r => intro w' h; (try dsimp only at h); go_simp; try with_reducible rfl
 try simp only [Nm]
 refine Rd 4 (by kernel_rfl) rfl (fun K hK => ?_)
 have HK4 := hide hK
 clear hK
 go_simp
 refine Shut.out HK4.out _ _ ⟨e0, e1, e2⟩ (fun hH => ?_)
 try simp only [Nm]
 refine Vi 5 ?_ rfl (by kernel_rfl) hP (by rfl) ?r hH ?_; case r => intro w' h; (try dsimp only at h); go_simp; try with_reducible rfl
 try simp only [Nm]
 refine Rd 6 (by kernel_rfl) rfl (fun K hK => ?_)
 have HK6 := hide hK
 clear hK
 go_simp
 refine Shut.out HK6.out _ _ ⟨f0, f1, f2⟩ (fun hH => ?_)
 try simp only [Nm]
 refine wpAnyH_done (by kernel_rfl) ?_ _
 clear hH HK2 HK4 HK6 t0 t1 t2 e0 e1 e2 hlook hme hlook1 hst
 go_wp2_with fail
 go_roundg (l.length - (m + 1))
 case measure => have := Hgk.out; omega
 case rel => exact ⟨m + 1, by omega, by go_num, rfl, by rw [Hn.out]; exact HR3.out, by rw [Hn.out]; exact HS3.out, HB3.out⟩)
 · (
 have HK4 := hide hK
 clear hK
 go_simp
 refine Shut.out HK4.out _ _ ⟨e0, e1, e2⟩ (fun hH => ?_)
 try simp only [Nm]
 refine Vi 5 ?_ rfl (by kernel_rfl) hP (by rfl) ?r hH ?_; case r => intro w' h; (try dsimp only at h); go_simp; try with_reducible rfl
 try simp only [Nm]
 refine Rd 2 (by kernel_rfl) rfl (fun K hK => ?_)
 have HK2 := hide hK
 clear hK
 go_simp
 refine Shut.out HK2.out _ _ hH (fun _ => ?_)
 try simp only [Nm]
 refine Vi 3 ?_ rfl (by kernel_rfl) hP (by rfl) ?r hH ?_; case r => intro w' h; (try dsimp only at h); go_simp; try with_reducible rfl
 try simp only [Nm]
 refine Rd 6 (by kernel_rfl) rfl (fun K hK => ?_)
 have HK6 := hide hK
 clear hK
 go_simp
 refine Shut.out HK6.out _ _ ⟨f0, f1, f2⟩ (fun hH => ?_)
 try simp only [Nm]
 refine wpAnyH_done (by kernel_rfl) ?_ _
 clear hH HK2 HK4 HK6 t0 t1 t2 e0 e1 e2 hlook hme hlook1 hst
 go_wp2_with fail
 go_roundg (l.length - (m + 1))
 case measure => have := Hgk.out; omega
 case rel => exact ⟨m + 1, by omega, by go_num, rfl, by rw [Hn.out]; exact HR3.out, by rw [Hn.out]; exact HS3.out, HB3.out⟩))
 case false => (
 have hnext : tmsOf l (m + 1) = ts ++ [x.tm] := by rw [Hts.out] at hct ⊢; exact tmsOf_yes Hx.out hb hct
 have hc0 : c = 0 := hcz.2 hct
 have b1 : (cv == 1) = true := by rw [hcv, hc0]; rfl
 rw [hct, if_neg (by simp)] at HS3
 have Hn := hide hnext
 clear hnext hcz hc0 hcv hct
 go_upto_region 12 with fail
 rw [HWe.out]
 refine wp_region_held_drew (S := fun w' => w'.cell? ⟨g9, 0, none⟩ = some (.int .i64 x.op) ∧ w'.cell? ⟨g9, 1, none⟩ = some (.int .i64 x.a) ∧ w'.cell? ⟨g9, 2, none⟩ = some (.int .i64 x.b)) (by kernel_rfl) ⟨t0, t1, t2⟩ ?_
 intro hH
 refine Up (fun _ _ _ _ _ => id) fun hP => ?_
 refine Vi 0 ?_ rfl (by kernel_rfl) hP (by rfl) ?r hH ?_; case r => intro w' h; (try dsimp only at h); go_simp; try with_reducible rfl
 try simp only [Nm]
 refine Vi 1 ?_ rfl (by kernel_rfl) hP (by rfl) ?r hH ?_; case r => intro w' h; (try dsimp only at h); go_simp; try with_reducible rfl
 try simp only [Nm]
 refine wpAnyH_ready (rs := [2, 4]) (by kernel_rfl) (by simp) ?_
 refine AllReadyH.cons rfl (fun K hK => ?_) (AllReadyH.cons rfl (fun K hK => ?_) AllReadyH.nil)
 · (
 have HK2 := hide hK
 clear hK
 go_simp
 refine Shut.out HK2.out _ _ hH (fun _ => ?_)
 try simp only [Nm]
 refine Vi 3 ?_ rfl (by kernel_rfl) hP (by rfl) ?r hH ?_; case r => intro w' h; (try dsimp only at h); go_simp; try with_reducible rfl
 try simp only [Nm]
 refine Rd 4 (by kernel_rfl) rfl (fun K hK => ?_)
 have HK4 := hide hK
 clear hK
 go_simp
 refine Shut.out HK4.out _ _ ⟨e0, e1, e2⟩ (fun hH => ?_)
 try simp only [Nm]
 refine Vi 5 ?_ rfl (by kernel_rfl) hP (by rfl) ?r hH ?_; case r => intro w' h; (try dsimp only at h); go_simp; try with_reducible rfl
 try simp only [Nm]
 refine Rd 6 (by kernel_rfl) rfl (fun K hK => ?_)
 have HK6 := hide hK
 clear hK
 go_simp
 refine Shut.out HK6.out _ _ ⟨f0, f1, f2⟩ (fun hH => ?_)
 try simp only [Nm]
 refine wpAnyH_done (by kernel_rfl) ?_ _
 clear hH HK2 HK4 HK6 t0 t1 t2 e0 e1 e2 hlook hme hlook1 hst
 go_wp2_with (at_builtin; refine wpList_append_terms (v := .slice A5 ts.length c5') rfl (.tmp 51) (.tmp 53) _ rfl ii _ 24 Tryz.underlying79 hii hiz his hib rfl rfl (HR3.out.alloc _) (some ⟨W3.heap.size, 0, none⟩) 1 1 [x.tm] rfl rfl (terms_one' (n := x.tm) rfl) (by simp [maxLen]; omega) (by simp; omega) (by simp; omega) ?_; intro v4 w4 hr4 hg4 hat4)
 go_roundg (l.length - (m + 1))
 case measure => have := Hgk.out; omega
 case rel => exact ⟨m + 1, by omega, by go_num, rfl, by rw [Hn.out]; exact hr4, by rw [Hn.out]; exact ((HS3.out.below ((Below.refl _ _).alloc (Nat.le_refl _) _)).own hg4 (HS3.out.ne_row HR3.out)), (HB3.out.alloc (by omega) _).grown hg4 (by simp; omega) (fun q hq => (HR3.out.lt q hq).1)⟩)
 · (
 have HK4 := hide hK
 clear hK
 go_simp
 refine Shut.out HK4.out _ _ ⟨e0, e1, e2⟩ (fun hH => ?_)
 try simp only [Nm]
 refine Vi 5 ?_ rfl (by kernel_rfl) hP (by rfl) ?r hH ?_; case r => intro w' h; (try dsimp only at h); go_simp; try with_reducible rfl
 try simp only [Nm]
 refine Rd 2 (by kernel_rfl) rfl (fun K hK => ?_)
 have HK2 := hide hK
 clear hK
 go_simp
 refine Shut.out HK2.out _ _ hH (fun _ => ?_)
 try simp only [Nm]
 refine Vi 3 ?_ rfl (by kernel_rfl) hP (by rfl) ?r hH ?_; case r => intro w' h; (try dsimp only at h); go_simp; try with_reducible rfl
 try simp only [Nm]
 refine Rd 6 (by kernel_rfl) rfl (fun K hK => ?_)
 have HK6 := hide hK
 clear hK
 go_simp
 refine Shut.out HK6.out _ _ ⟨f0, f1, f2⟩ (fun hH => ?_)
 try simp only [Nm]
 refine wpAnyH_done (by kernel_rfl) ?_ _
 clear hH HK2 HK4 HK6 t0 t1 t2 e0 e1 e2 hlook hme hlook1 hst
 go_wp2_with (at_builtin; refine wpList_append_terms (v := .slice A5 ts.length c5') rfl (.tmp 51) (.tmp 53) _ rfl ii _ 24 Tryz.underlying79 hii hiz his hib rfl rfl (HR3.out.alloc _) (some ⟨W3.heap.size, 0, none⟩) 1 1 [x.tm] rfl rfl (terms_one' (n := x.tm) rfl) (by simp [maxLen]; omega) (by simp; omega) (by simp; omega) ?_; intro v4 w4 hr4 hg4 hat4)
 go_roundg (l.length - (m + 1))
 case measure => have := Hgk.out; omega
 case rel => exact ⟨m + 1, by omega, by go_num, rfl, by rw [Hn.out]; exact hr4, by rw [Hn.out]; exact ((HS3.out.below ((Below.refl _ _).alloc (Nat.le_refl _) _)).own hg4 (HS3.out.ne_row HR3.out)), (HB3.out.alloc (by omega) _).grown hg4 (by simp; omega) (fun q hq => (HR3.out.lt q hq).1)⟩))))
 · (
 have hkk : m = l.length := by omega
 have Hkk := hide hkk
 clear hkk
 go_wp2_with fail
 go_tidy
 go_ret2
 exact ⟨hbr, _, rfl, by rw [← Hkk.out]; exact hrow⟩)))
 · (
 unfold TmPost
 rw [if_neg h0]
 have HC := hide hC
 have b0 : (chk regs l != 0) = true := by simpa using h0
 clear hC h0
 generalize chk regs l = c at *
 go_enter Tryz.func49, Tryz.ntmps49
 go_wp2_with fail
 refine (HC.out _ (by (with_reducible repeat first | apply Qa | assumption | apply Qb | apply Qc | apply Qd | apply Qe | refine Qf ?_ (by assumption) ?_); all_goals (try simp only [Sz]); first | done | omega | (try simp only [Sz] at *); omega)).mono ?_
 rintro e w1 ⟨rfl, hb1⟩
 have hB : Below w.heap.size w w1 := (by (with_reducible repeat first | apply Qa | assumption | apply Qb | apply Qc | apply Qd | apply Qe | refine Qf ?_ (by assumption) ?_); all_goals (try simp only [Sz]); first | done | omega | (try simp only [Sz] at *); omega)
 go_wp2_with fail
 go_tidy
 go_ret2
 exact ⟨hB, _, rfl, TRow.nil_ _ _ _⟩))
end
section
open Go.RowKit
set_option maxHeartbeats 8000000
attribute [local irreducible] Row madeCells NRow TRow
theorem All_any (regs : Int) (A : Option Addr) (l : List Nd) (cap : Nat) (w : World) (hl : l.length ≤ maxLen) (hA : NodesAt w A l) :
 Calls Tryz.prog 16 #[.agg #[.int .i64 regs, .slice A l.length cap]] w (AllPost 57 regs l w) := by (
 have HTm := hide (fun W (hW : Below w.heap.size w W) => Terms_any regs A l cap W hl (hA.below hW))
 have HN := hide (fun W (hW : Below w.heap.size w W) => hA.below hW)
 clear hA
 go_enter Tryz.func16, Tryz.ntmps16
 go_wp2_with fail
 refine (HTm.out _ (by (with_reducible repeat first | apply Qa | assumption | apply Qb | apply Qc | apply Qd | apply Qe | refine Qf ?_ (by assumption) ?_); all_goals (try simp only [Sz]); first | done | omega | (try simp only [Sz] at *); omega)).mono ?_
 rintro e w1 ⟨hb1, v, rfl, hr⟩
 have hz1 := hb1.size
 simp only [World.size_alloc] at hz1
 have hB : Below w.heap.size w w1 := (by (with_reducible repeat first | apply Qa | assumption | apply Qb | apply Qc | apply Qd | apply Qe | refine Qf ?_ (by assumption) ?_); all_goals (try simp only [Sz]); first | done | omega | (try simp only [Sz] at *); omega)
 have hP : Blk w1 w.heap.size 24 #[.int .i64 regs, .slice A l.length cap] := Blk.below (by repeat (first | ((with_reducible refine Blk.new' ?_); exact (by (try simp only [Sz]); first | done | omega | (try simp only [Sz] at *); omega)) | (with_reducible refine Blk.alloc ?_ _))) hb1 (by simp <;> omega)
 have hO : Blk w1 (w.heap.size + 1) 24 #[.int .i64 0, .slice none 0 0] := Blk.below (by repeat (first | ((with_reducible refine Blk.new' ?_); exact (by (try simp only [Sz]); first | done | omega | (try simp only [Sz] at *); omega)) | (with_reducible refine Blk.alloc ?_ _))) hb1 (by simp <;> omega)
 replace hr := hr.mono (base' := w.heap.size) (by simp <;> omega)
 clear hb1
 by_cases hc : chk regs l = 0
 case neg => (
 have hE : allE regs l = chk regs l := by unfold allE; rw [if_pos hc]
 have hc' : (chk regs l != 0) = true := by simp [hc]
 have H0 := hide hc
 have HE := hide hE
 clear hc hE hP hr
 have o0 := hO.cell 0
 have o1 := hO.cell 1
 have f0 := hO.frozen 0
 have f1 := hO.frozen 1
 simp only [Yl] at o0 o1
 have lO := hO.lt
 go_wp2_with fail
 go_tidy
 refine bodyPost_ret (v := .tuple #[.agg #[.int .i64 0, .slice none 0 0], .int .i64 (chk regs l)]) (by simp [results, Tryz.results16, go_sem, o0, o1, f0, f1, World.cell?_setCell_same, World.cell?_setCell_other]; try rfl) rfl ?_
 exact ⟨(hB.setCell (by simp <;> omega) _).setCell (by simp <;> omega) _, .inl ⟨by rw [HE.out]; exact H0.out, by rw [HE.out]⟩⟩)
 case pos => (
 rw [if_pos hc] at hr
 have hR := right_of_chk hc
 have hlo := hR.lo
 have hhi := hR.hi
 have hE : allE regs l = (allGo (allT l) regs l).1 := by unfold allE; rw [if_neg (by simp [hc])]
 have HE := hide hE
 rw [hc]
 obtain ⟨ts, hts⟩ : ∃ ts, ts = allT l := ⟨_, rfl⟩
 change TRow w1 w.heap.size _ v (allT l) at hr
 rw [← hts] at hr
 have htl : ts.length ≤ 256 := by rw [hts]; exact Nat.le_trans (tmsOf_len l l.length) hhi
 have Hts := hide hts
 obtain ⟨Tv, tc, ev, _, _⟩ := hr.shape
 subst ev
 have hTs := hr.nodes
 have HCl := hide (fun W (hW : Below w.heap.size w W) => Clone_any A l cap W (HN.out _ hW) hlo (by omega))
 clear hc hR hE hts hr
 have p0 := hP.cell 0
 have p1 := hP.cell 1
 simp only [Yl] at p0 p1
 have lp := hP.lt
 go_upto_region 4 with fail
 have HH : ∀ (V : World), Below w1.heap.size w1 V → (V.cell? ⟨w.heap.size, 0, none⟩ = some (.int .i64 regs) ∧ V.cell? ⟨w.heap.size, 1, none⟩ = some (.slice A l.length cap)) := fun V hV => ⟨((bcell hV).1 _ _ (by omega)).trans p0, ((bcell hV).1 _ _ (by omega)).trans p1⟩
 refine wp_region_held_drew (S := fun w' => (w'.cell? ⟨w.heap.size, 0, none⟩ = some (.int .i64 regs) ∧ w'.cell? ⟨w.heap.size, 1, none⟩ = some (.slice A l.length cap))) (by kernel_rfl) ?_ ?_
 · exact ⟨p0, p1⟩
 intro hH
 have hC0 : Below w1.heap.size w1 w1.drew := (Below.refl _ _).drew
 generalize w1.drew = V0 at hH hC0 ⊢
 refine Up (fun _ _ _ _ _ => id) fun hPq => ?_
 refine Vq 0 ?_ rfl (by kernel_rfl) hPq (by rfl) ?r hH ?_; case r => intro w'; go_simp; try with_reducible rfl
 try simp only [Nm]
 refine Vi 1 ?_ rfl (by kernel_rfl) hPq (by rfl) ?r hH ?_; case r => intro w' h; (try dsimp only at h); (try go_split_ands); go_simp; try with_reducible rfl
 try simp only [Nm]
 refine Vq 2 ?_ rfl (by kernel_rfl) hPq (by rfl) ?r hH ?_; case r => intro w'; go_simp; try with_reducible rfl
 try simp only [Nm]
 refine Vi 3 ?_ rfl (by kernel_rfl) hPq (by rfl) ?r hH ?_; case r => intro w' h; (try dsimp only at h); (try go_split_ands); go_simp; try with_reducible rfl
 try simp only [Nm]
 refine wpAnyH_ready (rs := [4, 6]) (by kernel_rfl) (by simp) ?_
 refine AllReadyH.cons rfl (fun K hK => ?_) (AllReadyH.cons rfl (fun K hK => ?_) AllReadyH.nil)
 focus (
 have HK4 := hide hK
 clear hK
 go_simp
 go_at_call 43
 refine (HCl.out _ (hB.trans (hC0.mono hB.size))).mono ?_
 rintro e V1 ⟨v, rfl, hr, hbV1⟩
 have hC1 : Below w1.heap.size w1 V1 := hC0.trans (hbV1.mono hC0.size)
 replace hr := hr.mono (base' := w.heap.size) (Nat.le_trans hB.size hC0.size)
 clear hH
 obtain ⟨Cv, cc, ev, _, _⟩ := hr.shape
 subst ev
 refine Shut.out HK4.out _ _ (HH _ hC1) (fun hH => ?_)
 try simp only [Nm]
 clear HK4
 refine Vq 5 ?_ rfl (by kernel_rfl) hPq (by rfl) ?r hH ?_; case r => intro w'; go_simp; try with_reducible rfl
 try simp only [Nm]
 refine Rd 6 (by kernel_rfl) rfl (fun K hK => ?_)
 have HK6 := hide hK
 clear hK
 go_simp
 obtain ⟨V2, hV2⟩ : ∃ V : World, V = V1.alloc (.cells #[.int .i64 0, .slice none 0 0] 24) := ⟨_, rfl⟩
 have hC2 : Below w1.heap.size w1 V2 := by rw [hV2]; exact hC1.alloc hC1.size _
 have hQ : Blk V2 V1.heap.size 24 #[.int .i64 0, .slice none 0 0] := by rw [hV2]; exact Blk.new' rfl
 replace hr := hr.alloc (.cells #[.int .i64 0, .slice none 0 0] 24)
 rw [← hV2] at hr
 rw [← hV2]
 obtain ⟨qb, hqb⟩ : ∃ b, b = V1.heap.size := ⟨_, rfl⟩
 have hqg : w1.heap.size ≤ qb := by rw [hqb]; exact hC1.size
 rw [← hqb] at hQ ⊢
 clear hH hV2 hqb
 refine Shut.out HK6.out _ _ (HH _ hC2) (fun hH => ?_)
 try simp only [Nm]
 clear HK6)
 rotate_left
 focus (
 have HK6 := hide hK
 clear hK
 go_simp
 obtain ⟨V1, hV1⟩ : ∃ V : World, V = V0.alloc (.cells #[.int .i64 0, .slice none 0 0] 24) := ⟨_, rfl⟩
 have hC1 : Below w1.heap.size w1 V1 := by rw [hV1]; exact hC0.alloc hC0.size _
 have hQ : Blk V1 V0.heap.size 24 #[.int .i64 0, .slice none 0 0] := by rw [hV1]; exact Blk.new' rfl
 rw [← hV1]
 obtain ⟨qb, hqb⟩ : ∃ b, b = V0.heap.size := ⟨_, rfl⟩
 have hqg : w1.heap.size ≤ qb := by rw [hqb]; exact hC0.size
 rw [← hqb] at hQ ⊢
 clear hH hV1 hqb
 refine Shut.out HK6.out _ _ (HH _ hC1) (fun hH => ?_)
 try simp only [Nm]
 clear HK6
 refine Rd 4 (by kernel_rfl) rfl (fun K hK => ?_)
 have HK4 := hide hK
 clear hK
 go_simp
 go_at_call 43
 refine (HCl.out _ (hB.trans (hC1.mono hB.size))).mono ?_
 rintro e V2 ⟨v, rfl, hr, hbV2⟩
 have hC2 : Below w1.heap.size w1 V2 := hC1.trans (hbV2.mono hC1.size)
 replace hr := hr.mono (base' := w.heap.size) (Nat.le_trans hB.size hC1.size)
 clear hH
 obtain ⟨Cv, cc, ev, _, _⟩ := hr.shape
 subst ev
 refine Shut.out HK4.out _ _ (HH _ hC2) (fun hH => ?_)
 try simp only [Nm]
 clear HK4
 refine Vq 5 ?_ rfl (by kernel_rfl) hPq (by rfl) ?r hH ?_; case r => intro w'; go_simp; try with_reducible rfl
 try simp only [Nm]
 replace hQ := hQ.below hbV2 hQ.lt)
 all_goals (
 refine Rd 7 (by kernel_rfl) rfl (fun K hK => ?_)
 have HK7 := hide hK
 clear hK
 have q0 := hQ.cell 0
 have q1 := hQ.cell 1
 have fq0 := hQ.frozen 0
 have fq1 := hQ.frozen 1
 simp only [Yl] at q0 q1
 go_simp
 refine Shut.out HK7.out _ _ ⟨(set1_cell (by omega) _ _).trans ((set1_cell (by omega) _ _).trans (((bcell hC2).1 _ _ (by omega)).trans p0)), (set1_cell (by omega) _ _).trans ((set1_cell (by omega) _ _).trans (((bcell hC2).1 _ _ (by omega)).trans p1))⟩ (fun hH => ?_)
 try simp only [Nm]
 clear HK7
 refine wpAnyH_done (by kernel_rfl) ?_ _
 have hS : AlSt w1 w.heap.size qb 0 (.slice none 0 0) [] V2 := ⟨hQ, NRow.nil_ _ _ _, hC2, hqg⟩
 have hS2 := hS.put (r' := regs) (Below.refl _ _) hr
 obtain ⟨W2, hW2⟩ : ∃ W : World, W = (V2.setCell ⟨qb, 0, none⟩ (.int .i64 regs)).setCell ⟨qb, 1, none⟩ (.slice Cv l.length cc) := ⟨_, rfl⟩
 rw [← hW2] at hS2 ⊢
 have HS2 := hide hS2
 have HP := hide hP
 have HO := hide hO
 have HB := hide hB
 have HTs := hide hTs
 have lp0 := hP.lt
 have lo0 := hO.lt
 have hbw := hB.size
 clear q0 q1 fq0 fq1 hH hS hS2 hQ hr hP hO hB hTs p0 p1 lp hW2 hC0 hC1 hC2
 go_wp2_with fail
 go_loopg [26] (ts.length) (fun gk i wr => ∃ (k : Nat) (r : Int) (v : Value) (ls : List Nd), k ≤ ts.length ∧ i = .int .i64 k ∧ gk = ts.length - k ∧ allGo (ts.drop k) r ls = allGo ts regs l ∧ AlSt w1 w.heap.size qb r v ls wr)
 case atStart => exact ⟨0, _, _, _, Nat.zero_le _, rfl, rfl, rfl, HS2.out⟩
 case round => (
 clear HS2
 obtain ⟨k, r, v, ls, hk, rfl, hgk, hgo, hS⟩ := hrel
 have Hgk := hide hgk
 have Hgo := hide hgo
 clear hgk hgo
 have hwz := hS.below.size
 have hlq := hS.box.lt
 have hlow := hS.low
 obtain ⟨Lv, lc, ev, hm1, hm2⟩ := hS.row.shape
 subst ev
 have hlm : ls.length ≤ maxLen := Nat.le_trans hm1 hm2
 by_cases hlt : k < ts.length
 · (
 obtain ⟨tb, tof, tm, rfl, htb, htk, c0, c1, c2⟩ := HTs.out.get hlt
 have Htk := hide htk
 have hlt1 := Nat.lt_of_lt_of_le htb hwz
 replace c0 := ((bcell hS.below).1 _ _ htb).trans c0
 replace c1 := ((bcell hS.below).1 _ _ htb).trans c1
 replace c2 := ((bcell hS.below).1 _ _ htb).trans c2
 have u0 : (0 : Int) ≤ (k : Int) := by omega
 have u1 : (k : Int) < (ts.length : Int) := by omega
 have q0 := hS.box.cell 0
 have q1 := hS.box.cell 1
 simp only [Yl] at q0 q1
 clear htk
 have HS := hide hS
 clear hS
 go_upto_region 8 with fail
 obtain ⟨W3, hW3⟩ : ∃ W : World, W = wr.alloc (.cells #[.int .i64 tm.op, .int .i64 tm.a, .int .i64 tm.b] 26) := ⟨_, rfl⟩
 have hb3 : Below wr.heap.size wr W3 := by rw [hW3]; exact (Below.refl _ _).alloc (Nat.le_refl _) _
 have hM : Blk W3 wr.heap.size 26 #[.int .i64 tm.op, .int .i64 tm.a, .int .i64 tm.b] := by rw [hW3]; exact Blk.new' rfl
 rw [← hW3]
 have hS3 := HS.out.later hb3
 clear hW3 HS q0 q1 c0 c1 c2
 have q0 := hS3.box.cell 0
 have q1 := hS3.box.cell 1
 have m0 := hM.cell 0
 have m1 := hM.cell 1
 have m2 := hM.cell 2
 simp only [Yl] at q0 q1 m0 m1 m2
 have lq := hS3.box.lt
 have lm := hM.lt
 have HOn := hide (One_any r Lv ls lc tm W3 hlm hS3.row.nodes)
 have HS3 := hide hS3
 clear hS3 hM
 go_wp2_with fail
 refine (HOn.out).mono ?_
 rintro e w4 ⟨hb4, h⟩
 have hstep := allGo_drop Htk.out r ls
 have hS4 := HS3.out.later hb4
 have hw3 := HS3.out.below.size
 clear q0 q1 m0 m1 m2 lq lm HOn
 have q0 := hS4.box.cell 0
 have q1 := hS4.box.cell 1
 have fq0 := hS4.box.frozen 0
 have fq1 := hS4.box.frozen 1
 simp only [Yl] at q0 q1
 have lq := hS4.box.lt
 have hO := HO.out.below hS4.below lo0
 have o0 := hO.cell 0
 have o1 := hO.cell 1
 have f0 := hO.frozen 0
 have f1 := hO.frozen 1
 simp only [Yl] at o0 o1
 have lO := hO.lt
 have HS4 := hide hS4
 clear hS4 hO
 rcases h with ⟨hne, rfl⟩ | ⟨h0, v', rfl, hr⟩
 · (
 rw [if_pos hne] at hstep
 have hne' : (oneE r ls tm != 0) = true := by simp [hne]
 have hE : allE regs l = oneE r ls tm := by rw [HE.out, ← Hts.out, ← Hgo.out, hstep]
 have Hne := hide hne
 have HE2 := hide hE
 have hB := HB.out.trans (HS4.out.below.mono hbw)
 have hB4 := hB.size
 clear hne hstep hE
 go_wp2_with fail
 go_tidy
 refine bodyPost_ret (v := .tuple #[.agg #[.int .i64 0, .slice none 0 0], .int .i64 (oneE r ls tm)]) (by simp [results, Tryz.results16, go_sem, o0, o1, f0, f1, World.cell?_setCell_same, World.cell?_setCell_other]; try rfl) rfl ?_
 exact ⟨(((hB.setCell (by simp <;> omega) _).setCell (by simp <;> omega) _).setCell (by simp <;> omega) _).setCell (by simp <;> omega) _, .inl ⟨by rw [HE2.out]; exact Hne.out, by rw [HE2.out]⟩⟩)
 · (
 rw [if_neg (by simp [h0])] at hstep
 replace hr := hr.mono (base' := w.heap.size) (by omega)
 obtain ⟨Rv, rc, ev, _, _⟩ := hr.shape
 subst ev
 have hS5 := HS3.out.put (r' := oneR r ls tm) hb4 hr
 obtain ⟨r2, hr2⟩ : ∃ z, z = oneR r ls tm := ⟨_, rfl⟩
 obtain ⟨l2, hl2⟩ : ∃ z, z = oneL r ls tm := ⟨_, rfl⟩
 rw [← hr2, ← hl2] at hstep hS5
 rw [← hl2] at hr
 rw [← hr2, ← hl2]
 rw [Hgo.out] at hstep
 have HS5 := hide hS5
 have Hst := hide hstep
 clear hstep hS5 hr2 hl2 hr h0 o0 o1 f0 f1 lO hb4
 go_wp2_with fail
 go_roundg (ts.length - (k + 1))
 case measure => have := Hgk.out; omega
 case rel => exact ⟨k + 1, _, _, _, by omega, by go_num, rfl, Hst.out.symm, HS5.out⟩))
 · (
 have hkk : k = ts.length := by omega
 subst hkk
 have hg := Hgo.out
 rw [List.drop_length] at hg
 have hgo : allGo (allT l) regs l = (0, r, ls) := by rw [← Hts.out, ← hg]; rfl
 have hE : allE regs l = 0 := by rw [HE.out, hgo]
 have HE2 := hide hE
 have Hgo2 := hide hgo
 have hO := HO.out.below hS.below lo0
 have q0 := hS.box.cell 0
 have q1 := hS.box.cell 1
 simp only [Yl] at q0 q1
 have hnO := hS.row.ne_blk hO (by decide)
 have Q := hide ((hS.row.far (p := ⟨w.heap.size + 1, 0, none⟩) hnO (.int .i64 r)).far (p := ⟨w.heap.size + 1, 1, none⟩) hnO (.slice Lv ls.length lc))
 have hB := HB.out.trans (hS.below.mono hbw)
 have o0 := hO.cell 0
 have o1 := hO.cell 1
 have f0 := hO.frozen 0
 have f1 := hO.frozen 1
 simp only [Yl] at o0 o1
 have lO := hO.lt
 have HBf := hide hB
 clear hg hgo hE hS hnO hB hO
 go_wp2_with fail
 go_tidy
 refine bodyPost_ret (v := .tuple #[.agg #[.int .i64 r, .slice Lv ls.length lc], .int .i64 0]) (by simp [results, Tryz.results16, go_sem, q0, q1, o0, o1, f0, f1, World.cell?_setCell_same, World.cell?_setCell_other]; try rfl) rfl ?_
 exact ⟨(HBf.out.setCell (by simp <;> omega) _).setCell (by simp <;> omega) _, .inr ⟨HE2.out, _, by rw [Hgo2.out], by rw [Hgo2.out]; exact Q.out⟩⟩)))))
end
section
open Go.RowKit
def frontL (h : Int) (t : Tm) (pt tk : List Bool) (l : List Nd) (k : Nat) : List Nd := (List.range k).map fun i => if yn pt i = true then putN h t (l.length + rk pt i) else takeN h tk l i
def backL (h : Int) (pt tk : List Bool) (l : List Nd) (k : Nat) : List Nd := ((List.range k).filter fun i => yn pt i).map (takeN h tk l)
theorem frontL_len (h : Int) (t : Tm) (pt tk : List Bool) (l : List Nd) (k : Nat) : (frontL h t pt tk l k).length = k := by simp [frontL]
theorem backL_len (h : Int) (pt tk : List Bool) (l : List Nd) : ∀ k, (backL h pt tk l k).length = rk pt k
 | 0 => rfl
 | k + 1 => by (
 have ih := backL_len h pt tk l k
 unfold backL at *
 rw [List.range_succ, List.filter_append, List.map_append, List.length_append, ih, rk]
 by_cases e : yn pt k = true <;> simp [e])
theorem frontL_succ (h : Int) (t : Tm) (pt tk : List Bool) (l : List Nd) (k : Nat) : frontL h t pt tk l (k + 1) = frontL h t pt tk l k ++ [if yn pt k = true then putN h t (l.length + rk pt k) else takeN h tk l k] := by (
 simp [frontL, List.range_succ])
theorem backL_yes {h : Int} {pt tk : List Bool} {l : List Nd} {k : Nat} (hy : yn pt k = true) : backL h pt tk l (k + 1) = backL h pt tk l k ++ [takeN h tk l k] := by (
 simp [backL, List.range_succ, List.filter_append, hy])
theorem backL_no {h : Int} {pt tk : List Bool} {l : List Nd} {k : Nat} (hy : yn pt k = false) : backL h pt tk l (k + 1) = backL h pt tk l k := by (
 simp [backL, List.range_succ, List.filter_append, hy])
theorem applyL_front (h : Int) (t : Tm) (pt tk : List Bool) (l : List Nd) : applyL h t pt tk l = frontL h t pt tk l l.length ++ backL h pt tk l l.length := by (
 have hl : (takeL h tk l).length = l.length := by simp [takeL]
 have hn : ∀ i, i < l.length → nd (takeL h tk l) i = takeN h tk l i := fun i hi => nd_get (by simp [takeL, hi])
 unfold applyL
 rw [putTo_eq h t pt (takeL h tk l) l.length (by omega), hl]
 congr 1
 · (
 unfold frontL
 apply List.map_congr_left
 intro i hi
 have hi := List.mem_range.1 hi
 rw [hn i hi]
 by_cases e : yn pt i = true
 · rw [if_pos ⟨hi, e⟩, if_pos e]
 · rw [if_neg (fun h => e h.2), if_neg e])
 · (
 unfold backL
 apply List.map_congr_left
 intro i hi
 exact hn i (List.mem_range.1 (List.mem_filter.1 hi).1)))
end
section
open Go.RowKit
set_option maxHeartbeats 8000000
attribute [local irreducible] Row madeCells NRow
structure AoSt (W0 : World) (ob : Nat) (r : Int) (v1 v2 : Value) (out back : List Nd) (W : World) : Prop where
 box : Blk W ob 24 #[.int .i64 r, v1]
 r1 : NRow W W0.heap.size 57 v1 out
 r2 : NRow W W0.heap.size 57 v2 back
 ne : v1.ownBlock = none ∨ v1.ownBlock ≠ v2.ownBlock
 below : Below W0.heap.size W0 W
 low : W0.heap.size ≤ ob
section
variable {W0 : World} {ob : Nat} {r : Int} {v1 v2 : Value} {out back : List Nd} {W : World}
theorem AoSt.later {W' : World} (h : AoSt W0 ob r v1 v2 out back W) (hb : Below W.heap.size W W') : AoSt W0 ob r v1 v2 out back W' :=
 ⟨h.box.below hb h.box.lt, h.r1.below' hb, h.r2.below' hb, h.ne, h.below.trans (hb.mono h.below.size), h.low⟩
theorem AoSt.front {V w9 : World} {v9 : Value} {xs : List Nd} (h : AoSt W0 ob r v1 v2 out back V) (hr : NRow w9 W0.heap.size 57 v9 (out ++ xs)) (hg : V.grownBy w9 v1.ownBlock) (hat : v9.ownBlock = v1.ownBlock ∨ ∀ k, v9.ownBlock = some k → V.heap.size ≤ k) :
 AoSt W0 ob r v9 v2 (out ++ xs) back (w9.setCell ⟨ob, 1, none⟩ v9) := by (
 have hL := Blk.grown h.box hg (h.r1.ne_blk h.box (by decide))
 have hne2 : v2.ownBlock = none ∨ v2.ownBlock ≠ v1.ownBlock := by (
 rcases h.ne with e | e
 · (
 rw [e]; rcases h2 : v2.ownBlock with _ | k
 · exact .inl rfl
 · exact .inr (by simp))
 · exact .inr (Ne.symm e))
 have hr2 := NRow.kept h.r2 hg hne2
 refine ⟨hL.set_ 1 _, hr.far (hr.ne_blk hL (by decide)) _, hr2.far (hr2.ne_blk hL (by decide)) _, ?_, (h.below.grown hg h.below.size (fun q hq => (h.r1.lt q hq).1)).setCell h.low _, h.low⟩
 rcases hat with e | e
 · rw [e]; exact h.ne
 · (
 rcases h9 : v9.ownBlock with _ | k
 · exact .inl rfl
 · (
 refine .inr fun e2 => ?_
 have := e k h9
 have := (h.r2.lt k e2.symm).2
 omega)))
theorem AoSt.behind {V w9 : World} {v9 : Value} {xs : List Nd} (h : AoSt W0 ob r v1 v2 out back V) (hr : NRow w9 W0.heap.size 57 v9 (back ++ xs)) (hg : V.grownBy w9 v2.ownBlock) (hat : v9.ownBlock = v2.ownBlock ∨ ∀ k, v9.ownBlock = some k → V.heap.size ≤ k) :
 AoSt W0 ob r v1 v9 out (back ++ xs) w9 := by (
 have hL := Blk.grown h.box hg (h.r2.ne_blk h.box (by decide))
 refine ⟨hL, NRow.kept h.r1 hg h.ne, hr, ?_, h.below.grown hg h.below.size (fun q hq => (h.r2.lt q hq).1), h.low⟩
 rcases hat with e | e
 · rw [e]; exact h.ne
 · (
 rcases h1 : v1.ownBlock with _ | k
 · exact .inl rfl
 · (
 refine .inr fun e2 => ?_
 have := e k (by rw [← e2])
 have := (h.r1.lt k h1).2
 omega)))
theorem NRow.ne_qb {w9 V : World} {o : Obj} {B qb : Nat} {e : TypeId} {v v9 : Value} {ls : List Nd} (hr : NRow w9 B e v9 ls) (hq : qb < V.heap.size) (h2 : v.ownBlock ≠ some qb) (hat : v9.ownBlock = v.ownBlock ∨ ∀ k, v9.ownBlock = some k → (V.alloc o).heap.size ≤ k) : v9.ownBlock ≠ some qb := by (
 rcases hat with e | e
 · rw [e]; exact h2
 · (
 intro e2
 have := e qb e2
 simp at this
 omega))
theorem AoSt.far6 {xb : Nat} {u0 u1 u2 u3 u4 u5 : Value} {cs : Array Value} (h : AoSt W0 ob r v1 v2 out back W) (hx : Blk W xb 57 cs) (h1 : v1.ownBlock ≠ some xb) (h2 : v2.ownBlock ≠ some xb) (hge : W0.heap.size ≤ xb) :
 AoSt W0 ob r v1 v2 out back ((((((W.setCell ⟨xb, 0, none⟩ u0).setCell ⟨xb, 1, none⟩ u1).setCell ⟨xb, 2, none⟩ u2).setCell ⟨xb, 3, none⟩ u3).setCell ⟨xb, 4, none⟩ u4).setCell ⟨xb, 5, none⟩ u5) := by (
 have hne : ob ≠ xb := Blk.ne_ h.box hx (by decide)
 exact ⟨(((((h.box.far (p := ⟨xb, 0, none⟩) hne _).far (p := ⟨xb, 1, none⟩) hne _).far (p := ⟨xb, 2, none⟩) hne _).far (p := ⟨xb, 3, none⟩) hne _).far (p := ⟨xb, 4, none⟩) hne _).far (p := ⟨xb, 5, none⟩) hne _,
  (((((h.r1.far (p := ⟨xb, 0, none⟩) h1 _).far (p := ⟨xb, 1, none⟩) h1 _).far (p := ⟨xb, 2, none⟩) h1 _).far (p := ⟨xb, 3, none⟩) h1 _).far (p := ⟨xb, 4, none⟩) h1 _).far (p := ⟨xb, 5, none⟩) h1 _,
  (((((h.r2.far (p := ⟨xb, 0, none⟩) h2 _).far (p := ⟨xb, 1, none⟩) h2 _).far (p := ⟨xb, 2, none⟩) h2 _).far (p := ⟨xb, 3, none⟩) h2 _).far (p := ⟨xb, 4, none⟩) h2 _).far (p := ⟨xb, 5, none⟩) h2 _,
  h.ne, (((((h.below.setCell hge _).setCell hge _).setCell hge _).setCell hge _).setCell hge _).setCell hge _, h.low⟩)
end
theorem ApplyOf_any (regs : Int) (A : Option Addr) (l : List Nd) (cap : Nat) (t : Tm) (X Y : Option Addr) (pt tk : List Bool) (xc yc : Nat) (w : World) (hA : NodesAt w A l) (hX : ValsAt w X (bools pt)) (hY : ValsAt w Y (bools tk)) (hR : Right regs l) (h1 : pt.length = l.length) (h2 : tk.length = l.length) :
 Calls Tryz.prog 18 #[.agg #[.int .i64 regs, .slice A l.length cap], .agg #[.int .i64 t.op, .int .i64 t.a, .int .i64 t.b], .agg #[.slice X pt.length xc, .slice Y tk.length yc]] w (ProgPost w.heap.size 57 (regs + 1) (applyL regs t pt tk l) w) := by (
 obtain ⟨i3, h3i, h3z, h3s, h3b⟩ := info_parts infoNode
 have hlo := hR.lo
 have hhi := hR.hi
 have hrlo := hR.rlo
 have hrhi := hR.rhi
 have hwr : IntKind.i64.wrap (regs + 1) = regs + 1 := by rw [IntKind.wrap_i64]; omega
 have HN := hide (fun W (hW : Below w.heap.size w W) => hA.below hW)
 have HX := hide (fun W (hW : Below w.heap.size w W) => hX.below hW)
 have HY := hide (fun W (hW : Below w.heap.size w W) => hY.below hW)
 have Hpt := hide h1
 have Htk := hide h2
 rw [h1, h2]
 clear hA hX hY hR h1 h2
 go_enter Tryz.func18, Tryz.ntmps18
 go_upto_region 2 with fail
 obtain ⟨W0, hW0⟩ : ∃ W : World, W = (((w.alloc (.cells #[.int .i64 regs, .slice A l.length cap] 24)).alloc (.cells #[.int .i64 t.op, .int .i64 t.a, .int .i64 t.b] 26)).alloc (.cells #[.slice X l.length xc, .slice Y l.length yc] 29)).alloc (.cells #[.int .i64 0, .slice none 0 0] 24) := ⟨_, rfl⟩
 have hP : Blk W0 w.heap.size 24 #[.int .i64 regs, .slice A l.length cap] := by rw [hW0]; exact (by repeat (first | ((with_reducible refine Blk.new' ?_); exact (by (try simp only [Sz]); first | done | omega | (try simp only [Sz] at *); omega)) | (with_reducible refine Blk.drew ?_) | (with_reducible refine Blk.drewN ?_ _) | (with_reducible refine Blk.alloc ?_ _) | with_reducible assumption))
 have hT : Blk W0 (w.heap.size + 1) 26 #[.int .i64 t.op, .int .i64 t.a, .int .i64 t.b] := by rw [hW0]; exact (by repeat (first | ((with_reducible refine Blk.new' ?_); exact (by (try simp only [Sz]); first | done | omega | (try simp only [Sz] at *); omega)) | (with_reducible refine Blk.drew ?_) | (with_reducible refine Blk.drewN ?_ _) | (with_reducible refine Blk.alloc ?_ _) | with_reducible assumption))
 have hL : Blk W0 (w.heap.size + 1 + 1) 29 #[.slice X l.length xc, .slice Y l.length yc] := by rw [hW0]; exact (by repeat (first | ((with_reducible refine Blk.new' ?_); exact (by (try simp only [Sz]); first | done | omega | (try simp only [Sz] at *); omega)) | (with_reducible refine Blk.drew ?_) | (with_reducible refine Blk.drewN ?_ _) | (with_reducible refine Blk.alloc ?_ _) | with_reducible assumption))
 have hO : Blk W0 (w.heap.size + 1 + 1 + 1) 24 #[.int .i64 0, .slice none 0 0] := by rw [hW0]; exact (by repeat (first | ((with_reducible refine Blk.new' ?_); exact (by (try simp only [Sz]); first | done | omega | (try simp only [Sz] at *); omega)) | (with_reducible refine Blk.drew ?_) | (with_reducible refine Blk.drewN ?_ _) | (with_reducible refine Blk.alloc ?_ _) | with_reducible assumption))
 have hB : Below w.heap.size w W0 := by rw [hW0]; exact (by (with_reducible repeat first | apply Qa | assumption | apply Qb | apply Qc | apply Qd | apply Qe | refine Qf ?_ (by assumption) ?_); all_goals (try simp only [Sz]); first | done | omega | (try simp only [Sz] at *); omega)
 have hs0 : W0.heap.size = w.heap.size + 1 + 1 + 1 + 1 := by rw [hW0]; simp
 try rw [← hW0]
 obtain ⟨ob, hob⟩ : ∃ b, b = W0.heap.size := ⟨_, rfl⟩
 try rw [← hs0, ← hob]
 obtain ⟨W1, hW1⟩ : ∃ W : World, W = W0.alloc (.cells #[.int .i64 (regs + 1), .slice none 0 0] 24) := ⟨_, rfl⟩
 have hS1 : AoSt W0 ob (regs + 1) (.slice none 0 0) (.slice none 0 0) (frontL regs t pt tk l 0) (backL regs pt tk l 0) W1 := by rw [hW1, hob]; exact ⟨Blk.new' rfl, NRow.nil_ _ _ _, NRow.nil_ _ _ _, .inl rfl, (Below.refl _ _).alloc (Nat.le_refl _) _, Nat.le_refl _⟩
 rw [← hW1]
 have hlw : w.heap.size + 1 + 1 + 1 < ob := by omega
 have hb1 : Below W0.heap.size W0 W1 := hS1.below
 have hP1 := hP.below hb1 hP.lt
 have p0 := hP1.cell 0
 have p1 := hP1.cell 1
 simp only [Yl] at p0 p1
 have lp := hP1.lt
 have HS1 := hide hS1
 have HP := hide hP
 have HT := hide hT
 have HL := hide hL
 have HO := hide hO
 have HB := hide hB
 have hob0 : W0.heap.size ≤ ob := by omega
 clear hW0 hW1 hob hP hT hL hO hB hS1 hP1 hs0 hb1
 go_upto_region 5 with fail
 clear p0 p1 lp
 go_wp2_with fail
 go_loopg [9, 10, 11] (l.length) (fun gk c s10 i wr => ∃ (k : Nat) (v1 v2 : Value), k ≤ l.length ∧ i = .int .i64 k ∧ s10 = v2 ∧ c = .int .i64 ((l.length : Int) + (rk pt k : Int)) ∧ gk = l.length - k ∧ AoSt W0 ob (regs + 1) v1 v2 (frontL regs t pt tk l k) (backL regs pt tk l k) wr)
 case atStart => exact ⟨0, _, _, Nat.zero_le _, rfl, rfl, by simp [rk], rfl, HS1.out⟩
 case round => (
 clear HS1
 obtain ⟨k, v1, v2, hk, rfl, e10, rfl, hgk, hS⟩ := hrel
 replace e10 := e10.symm
 subst e10
 have Hgk := hide hgk
 clear hgk
 have hwz := hS.below.size
 have hB := HB.out.size
 have hP := HP.out.below hS.below HP.out.lt
 have p0 := hP.cell 0
 have p1 := hP.cell 1
 simp only [Yl] at p0 p1
 have lp := hP.lt
 have lp0 := HP.out.lt
 have lt0 := HT.out.lt
 have ll0 := HL.out.lt
 have lo0 := HO.out.lt
 by_cases hlt : k < l.length
 · (
 obtain ⟨nb, no, nn, rfl, hnb, hn, n0, n1, n2, n3, n4, n5⟩ := (HN.out _ HB.out).get hlt
 obtain ⟨xb, xo, rfl, lxb, ex⟩ := (HX.out _ HB.out).bool (k := k) (by rw [Hpt.out]; exact hlt)
 obtain ⟨yb, yo, rfl, lyb, ey⟩ := (HY.out _ HB.out).bool (k := k) (by rw [Htk.out]; exact hlt)
 replace n0 := ((bcell hS.below).1 _ _ hnb).trans n0
 replace n1 := ((bcell hS.below).1 _ _ hnb).trans n1
 replace n2 := ((bcell hS.below).1 _ _ hnb).trans n2
 replace n3 := ((bcell hS.below).1 _ _ hnb).trans n3
 replace n4 := ((bcell hS.below).1 _ _ hnb).trans n4
 replace n5 := ((bcell hS.below).1 _ _ hnb).trans n5
 replace ex := ((bcell hS.below).1 _ _ lxb).trans ex
 replace ey := ((bcell hS.below).1 _ _ lyb).trans ey
 have hT := HT.out.below hS.below HT.out.lt
 have hL := HL.out.below hS.below HL.out.lt
 have t0 := hT.cell 0
 have t1 := hT.cell 1
 have t2 := hT.cell 2
 have x0 := hL.cell 0
 have x1 := hL.cell 1
 simp only [Yl] at t0 t1 t2 x0 x1
 have lt' := hT.lt
 have lL := hL.lt
 have lnb := Nat.lt_of_lt_of_le hnb hwz
 have lx' := Nat.lt_of_lt_of_le lxb hwz
 have ly' := Nat.lt_of_lt_of_le lyb hwz
 have u0 : (0 : Int) ≤ (k : Int) := by omega
 have u1 : (k : Int) < (l.length : Int) := by omega
 have hfl := frontL_len regs t pt tk l k
 have hbl := backL_len regs pt tk l k
 have hrk := rk_le pt k
 have Hn := hide hn
 clear hn hP
 cases hy : yn tk k
 case false => (
 rw [hy] at ey
 have Hy := hide hy
 clear hy
 cases hx : yn pt k
 case false => (
 rw [hx] at ex
 have Hx := hide hx
 clear hx
 go_upto_region 15 with fail
 obtain ⟨W2, hW2⟩ : ∃ W : World, W = wr.alloc (.cells #[.int .i64 nn.op, .int .i64 nn.d, .int .i64 nn.a, .int .i64 nn.b, .int .i64 nn.t, .int .i64 nn.e] 57) := ⟨_, rfl⟩
 have hS2 := hS.later (W' := W2) (by rw [hW2]; exact (Below.refl _ _).alloc (Nat.le_refl _) _)
 have hX2 : Blk W2 wr.heap.size 57 #[.int .i64 nn.op, .int .i64 nn.d, .int .i64 nn.a, .int .i64 nn.b, .int .i64 nn.t, .int .i64 nn.e] := by rw [hW2]; exact Blk.new' rfl
 rw [← hW2]
 obtain ⟨qb, hqb⟩ : ∃ b, b = wr.heap.size := ⟨_, rfl⟩
 have n1b : v1.ownBlock ≠ some qb := fun e => by have := (hS.r1.lt _ e).2; omega
 have n2b : v2.ownBlock ≠ some qb := fun e => by have := (hS.r2.lt _ e).2; omega
 have hqg : W0.heap.size ≤ qb := by omega
 have hqo : ob ≠ qb := by have := hS.box.lt; omega
 rw [← hqb] at hX2 ⊢
 clear hW2 hqb p0 p1 ex ey t0 t1 t2 x0 x1 n0 n1 n2 n3 n4 n5 hT hL lp lt' lL lnb lx' ly' hS
 have z0 := hX2.cell 0
 have z1 := hX2.cell 1
 have z2 := hX2.cell 2
 have z3 := hX2.cell 3
 have z4 := hX2.cell 4
 have z5 := hX2.cell 5
 have g0 := hX2.frozen 0
 have g1 := hX2.frozen 1
 have g2 := hX2.frozen 2
 have g3 := hX2.frozen 3
 have g4 := hX2.frozen 4
 have g5 := hX2.frozen 5
 have lX2 := hX2.lt
 simp only [Yl] at z0 z1 z2 z3 z4 z5
 have b1 := hS2.box.cell 1
 simp only [Yl] at b1
 have lb2 := hS2.box.lt
 have HS2 := hide hS2
 clear hS2
 go_upto_region 7 with (at_builtin; refine wpList_append_nodes (v := v1) (l := frontL regs t pt tk l k) (base := W0.heap.size) rfl _ _ _ rfl i3 _ 48 Tryz.underlying22 h3i h3z h3s h3b rfl rfl (HS2.out.r1.alloc _) (some ⟨W2.heap.size, 0, none⟩) 1 1 [nn] rfl rfl (nodes_one' (by simp)) (by rw [hfl]; simp [maxLen]; omega) (by rw [hfl]; simp; omega) (by have := HS2.out.below.size; simp <;> omega) ?_; intro v8 w8 hr8 hg8 hat8; obtain ⟨A8, c8, hv8, _, _⟩ := hr8.shape; subst hv8; simp only [List.length_append, List.length_singleton, hfl] at hr8 hat8 ⊢; have hS8 := (HS2.out.later ((Below.refl _ _).alloc (Nat.le_refl _) (.cells (ncells [nn]).toArray 57))); have hq8 := Blk.grown hS8.box hg8 (hS8.r1.ne_blk hS8.box (by decide)); have HF8 := hide (hS8.front hr8 hg8 hat8); have b1 := hq8.cell 1; have fb := hq8.frozen 1; have lb8 := hq8.lt; simp only [Yl] at b1; clear hS8 hq8 hr8 hg8 hat8)
 go_wp2_with fail
 go_roundg (l.length - (k + 1))
 case measure => have := Hgk.out; omega
 case rel => (
 have hE : frontL regs t pt tk l (k + 1) = frontL regs t pt tk l k ++ [nn] := by rw [frontL_succ, if_neg (by rw [Hx.out]; simp), takeN, if_neg (by rw [Hy.out]; simp), nd_get Hn.out]
 exact ⟨k + 1, _, _, by omega, by go_num, rfl, by rw [rk, Hx.out]; simp, rfl, by rw [hE, backL_no Hx.out]; exact HF8.out⟩))
 case true => (
 rw [hx] at ex
 have Hx := hide hx
 clear hx
 go_upto_region 12 with fail
 obtain ⟨W2, hW2⟩ : ∃ W : World, W = wr.alloc (.cells #[.int .i64 nn.op, .int .i64 nn.d, .int .i64 nn.a, .int .i64 nn.b, .int .i64 nn.t, .int .i64 nn.e] 57) := ⟨_, rfl⟩
 have hS2 := hS.later (W' := W2) (by rw [hW2]; exact (Below.refl _ _).alloc (Nat.le_refl _) _)
 have hX2 : Blk W2 wr.heap.size 57 #[.int .i64 nn.op, .int .i64 nn.d, .int .i64 nn.a, .int .i64 nn.b, .int .i64 nn.t, .int .i64 nn.e] := by rw [hW2]; exact Blk.new' rfl
 rw [← hW2]
 obtain ⟨qb, hqb⟩ : ∃ b, b = wr.heap.size := ⟨_, rfl⟩
 have n1b : v1.ownBlock ≠ some qb := fun e => by have := (hS.r1.lt _ e).2; omega
 have n2b : v2.ownBlock ≠ some qb := fun e => by have := (hS.r2.lt _ e).2; omega
 have hqg : W0.heap.size ≤ qb := by omega
 have hqo : ob ≠ qb := by have := hS.box.lt; omega
 rw [← hqb] at hX2 ⊢
 clear hW2 hqb p0 p1 ex ey t0 t1 t2 x0 x1 n0 n1 n2 n3 n4 n5 hT hL lp lt' lL lnb lx' ly' hS
 have z0 := hX2.cell 0
 have z1 := hX2.cell 1
 have z2 := hX2.cell 2
 have z3 := hX2.cell 3
 have z4 := hX2.cell 4
 have z5 := hX2.cell 5
 have g0 := hX2.frozen 0
 have g1 := hX2.frozen 1
 have g2 := hX2.frozen 2
 have g3 := hX2.frozen 3
 have g4 := hX2.frozen 4
 have g5 := hX2.frozen 5
 have lX2 := hX2.lt
 simp only [Yl] at z0 z1 z2 z3 z4 z5
 have HS2 := hide hS2
 clear hS2
 go_upto_region 13 with (at_builtin; go_loud (refine wpList_append_nodes (v := v2) (l := backL regs pt tk l k) (base := W0.heap.size) rfl _ _ _ rfl i3 _ 48 Tryz.underlying22 h3i h3z h3s h3b rfl rfl (HS2.out.r2.alloc _) (some ⟨W2.heap.size, 0, none⟩) 1 1 [nn] rfl rfl (nodes_one' (by simp)) (by rw [hbl]; simp [maxLen]; omega) (by rw [hbl]; simp; omega) (by have := HS2.out.below.size; simp <;> omega) ?_; intro v4 w4 hr4 hg4 hat4; have hS4 := (HS2.out.later ((Below.refl _ _).alloc (Nat.le_refl _) (.cells (ncells [nn]).toArray 57))).behind hr4 hg4 hat4; have hX4 := Blk.grown (hX2.alloc (.cells (ncells [nn]).toArray 57)) hg4 n2b; have n4b : v4.ownBlock ≠ some qb := hr4.ne_qb hX2.lt n2b hat4))
 clear z0 z1 z2 z3 z4 z5 g0 g1 g2 g3 g4 g5 lX2 hX2 hr4 hg4 hat4
 have g0 := hX4.frozen 0
 have g1 := hX4.frozen 1
 have g2 := hX4.frozen 2
 have g3 := hX4.frozen 3
 have g4 := hX4.frozen 4
 have g5 := hX4.frozen 5
 have z0 := hX4.cell 0
 have z1 := hX4.cell 1
 have z2 := hX4.cell 2
 have z3 := hX4.cell 3
 have z4 := hX4.cell 4
 have z5 := hX4.cell 5
 have lX4 := hX4.lt
 simp only [Yl] at z0 z1 z2 z3 z4 z5
 have hT := HT.out.below hS4.below HT.out.lt
 have hL := HL.out.below hS4.below HL.out.lt
 have t0 := hT.cell 0
 have t1 := hT.cell 1
 have t2 := hT.cell 2
 simp only [Yl] at t0 t1 t2
 have lt' := hT.lt
 have HS4 := hide hS4
 have HX4 := hide hX4
 clear hS4 hX4
 go_upto_region 14 with fail
 obtain ⟨W5, hW5⟩ : ∃ W : World, W = (((((w4.setCell ⟨qb, 0, none⟩ (.int .i64 t.op)).setCell ⟨qb, 1, none⟩ (.int .i64 regs)).setCell ⟨qb, 2, none⟩ (.int .i64 t.a)).setCell ⟨qb, 3, none⟩ (.int .i64 t.b)).setCell ⟨qb, 4, none⟩ (.int .i64 ((l.length : Int) + (rk pt k : Int)))).setCell ⟨qb, 5, none⟩ (.int .i64 0) := ⟨_, rfl⟩
 have hS5 := HS4.out.far6 (u0 := .int .i64 t.op) (u1 := .int .i64 regs) (u2 := .int .i64 t.a) (u3 := .int .i64 t.b) (u4 := .int .i64 ((l.length : Int) + (rk pt k : Int))) (u5 := .int .i64 0) HX4.out n1b n4b hqg
 rw [← hW5] at hS5
 have hX5 : Blk W5 qb 57 #[.int .i64 t.op, .int .i64 regs, .int .i64 t.a, .int .i64 t.b, .int .i64 ((l.length : Int) + (rk pt k : Int)), .int .i64 0] := by rw [hW5]; exact (((((HX4.out.set_ 0 _).set_ 1 _).set_ 2 _).set_ 3 _).set_ 4 _).set_ 5 _
 rw [← hW5]
 clear hW5 z0 z1 z2 z3 z4 z5 g0 g1 g2 g3 g4 g5 t0 t1 t2 lt' hT hL lX4 HS4 HX4
 have z0 := hX5.cell 0
 have z1 := hX5.cell 1
 have z2 := hX5.cell 2
 have z3 := hX5.cell 3
 have z4 := hX5.cell 4
 have z5 := hX5.cell 5
 have lX5 := hX5.lt
 simp only [Yl] at z0 z1 z2 z3 z4 z5
 have b1 := hS5.box.cell 1
 simp only [Yl] at b1
 have lb2 := hS5.box.lt
 have HS5 := hide hS5
 clear hS5
 go_upto_region 15 with fail
 go_upto_region 7 with (at_builtin; refine wpList_append_nodes (v := v1) (l := frontL regs t pt tk l k) (base := W0.heap.size) rfl _ _ _ rfl i3 _ 48 Tryz.underlying22 h3i h3z h3s h3b rfl rfl (HS5.out.r1.alloc _) (some ⟨W5.heap.size, 0, none⟩) 1 1 [⟨t.op, regs, t.a, t.b, (l.length : Int) + (rk pt k : Int), 0⟩] rfl rfl (nodes_one' (by simp)) (by rw [hfl]; simp [maxLen]; omega) (by rw [hfl]; simp; omega) (by have := HS5.out.below.size; simp <;> omega) ?_; intro v8 w8 hr8 hg8 hat8; obtain ⟨A8, c8, hv8, _, _⟩ := hr8.shape; subst hv8; simp only [List.length_append, List.length_singleton, hfl] at hr8 hat8 ⊢; have hS8 := (HS5.out.later ((Below.refl _ _).alloc (Nat.le_refl _) (.cells (ncells [⟨t.op, regs, t.a, t.b, (l.length : Int) + (rk pt k : Int), 0⟩]).toArray 57))); have hq8 := Blk.grown hS8.box hg8 (hS8.r1.ne_blk hS8.box (by decide)); have HF8 := hide (hS8.front hr8 hg8 hat8); have b1 := hq8.cell 1; have fb := hq8.frozen 1; have lb8 := hq8.lt; simp only [Yl] at b1; clear hS8 hq8 hr8 hg8 hat8)
 go_wp2_with fail
 go_roundg (l.length - (k + 1))
 case measure => have := Hgk.out; omega
 case rel => (
 have hE : frontL regs t pt tk l (k + 1) = frontL regs t pt tk l k ++ [⟨t.op, regs, t.a, t.b, (l.length : Int) + (rk pt k : Int), 0⟩] := by rw [frontL_succ, if_pos Hx.out, putN]; simp
 have hE2 : backL regs pt tk l (k + 1) = backL regs pt tk l k ++ [nn] := by rw [backL_yes Hx.out, takeN, if_neg (by rw [Hy.out]; simp), nd_get Hn.out]
 exact ⟨k + 1, _, _, by omega, by go_num, rfl, by rw [rk, Hx.out]; simp; omega, rfl, by rw [hE, hE2]; exact HF8.out⟩)))
 case true => (
 rw [hy] at ey
 have Hy := hide hy
 clear hy
 cases hx : yn pt k
 case false => (
 rw [hx] at ex
 have Hx := hide hx
 clear hx
 go_upto_region 15 with fail
 obtain ⟨W2, hW2⟩ : ∃ W : World, W = wr.alloc (.cells #[.int .i64 2, .int .i64 nn.d, .int .i64 regs, .int .i64 0, .int .i64 nn.t, .int .i64 0] 57) := ⟨_, rfl⟩
 have hS2 := hS.later (W' := W2) (by rw [hW2]; exact (Below.refl _ _).alloc (Nat.le_refl _) _)
 have hX2 : Blk W2 wr.heap.size 57 #[.int .i64 2, .int .i64 nn.d, .int .i64 regs, .int .i64 0, .int .i64 nn.t, .int .i64 0] := by rw [hW2]; exact Blk.new' rfl
 rw [← hW2]
 obtain ⟨qb, hqb⟩ : ∃ b, b = wr.heap.size := ⟨_, rfl⟩
 have n1b : v1.ownBlock ≠ some qb := fun e => by have := (hS.r1.lt _ e).2; omega
 have n2b : v2.ownBlock ≠ some qb := fun e => by have := (hS.r2.lt _ e).2; omega
 have hqg : W0.heap.size ≤ qb := by omega
 have hqo : ob ≠ qb := by have := hS.box.lt; omega
 rw [← hqb] at hX2 ⊢
 clear hW2 hqb p0 p1 ex ey t0 t1 t2 x0 x1 n0 n1 n2 n3 n4 n5 hT hL lp lt' lL lnb lx' ly' hS
 have z0 := hX2.cell 0
 have z1 := hX2.cell 1
 have z2 := hX2.cell 2
 have z3 := hX2.cell 3
 have z4 := hX2.cell 4
 have z5 := hX2.cell 5
 have g0 := hX2.frozen 0
 have g1 := hX2.frozen 1
 have g2 := hX2.frozen 2
 have g3 := hX2.frozen 3
 have g4 := hX2.frozen 4
 have g5 := hX2.frozen 5
 have lX2 := hX2.lt
 simp only [Yl] at z0 z1 z2 z3 z4 z5
 have b1 := hS2.box.cell 1
 simp only [Yl] at b1
 have lb2 := hS2.box.lt
 have HS2 := hide hS2
 clear hS2
 go_upto_region 7 with (at_builtin; refine wpList_append_nodes (v := v1) (l := frontL regs t pt tk l k) (base := W0.heap.size) rfl _ _ _ rfl i3 _ 48 Tryz.underlying22 h3i h3z h3s h3b rfl rfl (HS2.out.r1.alloc _) (some ⟨W2.heap.size, 0, none⟩) 1 1 [⟨2, nn.d, regs, 0, nn.t, 0⟩] rfl rfl (nodes_one' (by simp)) (by rw [hfl]; simp [maxLen]; omega) (by rw [hfl]; simp; omega) (by have := HS2.out.below.size; simp <;> omega) ?_; intro v8 w8 hr8 hg8 hat8; obtain ⟨A8, c8, hv8, _, _⟩ := hr8.shape; subst hv8; simp only [List.length_append, List.length_singleton, hfl] at hr8 hat8 ⊢; have hS8 := (HS2.out.later ((Below.refl _ _).alloc (Nat.le_refl _) (.cells (ncells [⟨2, nn.d, regs, 0, nn.t, 0⟩]).toArray 57))); have hq8 := Blk.grown hS8.box hg8 (hS8.r1.ne_blk hS8.box (by decide)); have HF8 := hide (hS8.front hr8 hg8 hat8); have b1 := hq8.cell 1; have fb := hq8.frozen 1; have lb8 := hq8.lt; simp only [Yl] at b1; clear hS8 hq8 hr8 hg8 hat8)
 go_wp2_with fail
 go_roundg (l.length - (k + 1))
 case measure => have := Hgk.out; omega
 case rel => (
 have hE : frontL regs t pt tk l (k + 1) = frontL regs t pt tk l k ++ [⟨2, nn.d, regs, 0, nn.t, 0⟩] := by rw [frontL_succ, if_neg (by rw [Hx.out]; simp), takeN, if_pos Hy.out, nd_get Hn.out]
 exact ⟨k + 1, _, _, by omega, by go_num, rfl, by rw [rk, Hx.out]; simp, rfl, by rw [hE, backL_no Hx.out]; exact HF8.out⟩))
 case true => (
 rw [hx] at ex
 have Hx := hide hx
 clear hx
 go_upto_region 12 with fail
 obtain ⟨W2, hW2⟩ : ∃ W : World, W = wr.alloc (.cells #[.int .i64 2, .int .i64 nn.d, .int .i64 regs, .int .i64 0, .int .i64 nn.t, .int .i64 0] 57) := ⟨_, rfl⟩
 have hS2 := hS.later (W' := W2) (by rw [hW2]; exact (Below.refl _ _).alloc (Nat.le_refl _) _)
 have hX2 : Blk W2 wr.heap.size 57 #[.int .i64 2, .int .i64 nn.d, .int .i64 regs, .int .i64 0, .int .i64 nn.t, .int .i64 0] := by rw [hW2]; exact Blk.new' rfl
 rw [← hW2]
 obtain ⟨qb, hqb⟩ : ∃ b, b = wr.heap.size := ⟨_, rfl⟩
 have n1b : v1.ownBlock ≠ some qb := fun e => by have := (hS.r1.lt _ e).2; omega
 have n2b : v2.ownBlock ≠ some qb := fun e => by have := (hS.r2.lt _ e).2; omega
 have hqg : W0.heap.size ≤ qb := by omega
 have hqo : ob ≠ qb := by have := hS.box.lt; omega
 rw [← hqb] at hX2 ⊢
 clear hW2 hqb p0 p1 ex ey t0 t1 t2 x0 x1 n0 n1 n2 n3 n4 n5 hT hL lp lt' lL lnb lx' ly' hS
 have z0 := hX2.cell 0
 have z1 := hX2.cell 1
 have z2 := hX2.cell 2
 have z3 := hX2.cell 3
 have z4 := hX2.cell 4
 have z5 := hX2.cell 5
 have g0 := hX2.frozen 0
 have g1 := hX2.frozen 1
 have g2 := hX2.frozen 2
 have g3 := hX2.frozen 3
 have g4 := hX2.frozen 4
 have g5 := hX2.frozen 5
 have lX2 := hX2.lt
 simp only [Yl] at z0 z1 z2 z3 z4 z5
 have HS2 := hide hS2
 clear hS2
 go_upto_region 13 with (at_builtin; go_loud (refine wpList_append_nodes (v := v2) (l := backL regs pt tk l k) (base := W0.heap.size) rfl _ _ _ rfl i3 _ 48 Tryz.underlying22 h3i h3z h3s h3b rfl rfl (HS2.out.r2.alloc _) (some ⟨W2.heap.size, 0, none⟩) 1 1 [⟨2, nn.d, regs, 0, nn.t, 0⟩] rfl rfl (nodes_one' (by simp)) (by rw [hbl]; simp [maxLen]; omega) (by rw [hbl]; simp; omega) (by have := HS2.out.below.size; simp <;> omega) ?_; intro v4 w4 hr4 hg4 hat4; have hS4 := (HS2.out.later ((Below.refl _ _).alloc (Nat.le_refl _) (.cells (ncells [⟨2, nn.d, regs, 0, nn.t, 0⟩]).toArray 57))).behind hr4 hg4 hat4; have hX4 := Blk.grown (hX2.alloc (.cells (ncells [⟨2, nn.d, regs, 0, nn.t, 0⟩]).toArray 57)) hg4 n2b; have n4b : v4.ownBlock ≠ some qb := hr4.ne_qb hX2.lt n2b hat4))
 clear z0 z1 z2 z3 z4 z5 g0 g1 g2 g3 g4 g5 lX2 hX2 hr4 hg4 hat4
 have g0 := hX4.frozen 0
 have g1 := hX4.frozen 1
 have g2 := hX4.frozen 2
 have g3 := hX4.frozen 3
 have g4 := hX4.frozen 4
 have g5 := hX4.frozen 5
 have z0 := hX4.cell 0
 have z1 := hX4.cell 1
 have z2 := hX4.cell 2
 have z3 := hX4.cell 3
 have z4 := hX4.cell 4
 have z5 := hX4.cell 5
 have lX4 := hX4.lt
 simp only [Yl] at z0 z1 z2 z3 z4 z5
 have hT := HT.out.below hS4.below HT.out.lt
 have hL := HL.out.below hS4.below HL.out.lt
 have t0 := hT.cell 0
 have t1 := hT.cell 1
 have t2 := hT.cell 2
 simp only [Yl] at t0 t1 t2
 have lt' := hT.lt
 have HS4 := hide hS4
 have HX4 := hide hX4
 clear hS4 hX4
 go_upto_region 14 with fail
 obtain ⟨W5, hW5⟩ : ∃ W : World, W = (((((w4.setCell ⟨qb, 0, none⟩ (.int .i64 t.op)).setCell ⟨qb, 1, none⟩ (.int .i64 regs)).setCell ⟨qb, 2, none⟩ (.int .i64 t.a)).setCell ⟨qb, 3, none⟩ (.int .i64 t.b)).setCell ⟨qb, 4, none⟩ (.int .i64 ((l.length : Int) + (rk pt k : Int)))).setCell ⟨qb, 5, none⟩ (.int .i64 0) := ⟨_, rfl⟩
 have hS5 := HS4.out.far6 (u0 := .int .i64 t.op) (u1 := .int .i64 regs) (u2 := .int .i64 t.a) (u3 := .int .i64 t.b) (u4 := .int .i64 ((l.length : Int) + (rk pt k : Int))) (u5 := .int .i64 0) HX4.out n1b n4b hqg
 rw [← hW5] at hS5
 have hX5 : Blk W5 qb 57 #[.int .i64 t.op, .int .i64 regs, .int .i64 t.a, .int .i64 t.b, .int .i64 ((l.length : Int) + (rk pt k : Int)), .int .i64 0] := by rw [hW5]; exact (((((HX4.out.set_ 0 _).set_ 1 _).set_ 2 _).set_ 3 _).set_ 4 _).set_ 5 _
 rw [← hW5]
 clear hW5 z0 z1 z2 z3 z4 z5 g0 g1 g2 g3 g4 g5 t0 t1 t2 lt' hT hL lX4 HS4 HX4
 have z0 := hX5.cell 0
 have z1 := hX5.cell 1
 have z2 := hX5.cell 2
 have z3 := hX5.cell 3
 have z4 := hX5.cell 4
 have z5 := hX5.cell 5
 have lX5 := hX5.lt
 simp only [Yl] at z0 z1 z2 z3 z4 z5
 have b1 := hS5.box.cell 1
 simp only [Yl] at b1
 have lb2 := hS5.box.lt
 have HS5 := hide hS5
 clear hS5
 go_upto_region 15 with fail
 go_upto_region 7 with (at_builtin; refine wpList_append_nodes (v := v1) (l := frontL regs t pt tk l k) (base := W0.heap.size) rfl _ _ _ rfl i3 _ 48 Tryz.underlying22 h3i h3z h3s h3b rfl rfl (HS5.out.r1.alloc _) (some ⟨W5.heap.size, 0, none⟩) 1 1 [⟨t.op, regs, t.a, t.b, (l.length : Int) + (rk pt k : Int), 0⟩] rfl rfl (nodes_one' (by simp)) (by rw [hfl]; simp [maxLen]; omega) (by rw [hfl]; simp; omega) (by have := HS5.out.below.size; simp <;> omega) ?_; intro v8 w8 hr8 hg8 hat8; obtain ⟨A8, c8, hv8, _, _⟩ := hr8.shape; subst hv8; simp only [List.length_append, List.length_singleton, hfl] at hr8 hat8 ⊢; have hS8 := (HS5.out.later ((Below.refl _ _).alloc (Nat.le_refl _) (.cells (ncells [⟨t.op, regs, t.a, t.b, (l.length : Int) + (rk pt k : Int), 0⟩]).toArray 57))); have hq8 := Blk.grown hS8.box hg8 (hS8.r1.ne_blk hS8.box (by decide)); have HF8 := hide (hS8.front hr8 hg8 hat8); have b1 := hq8.cell 1; have fb := hq8.frozen 1; have lb8 := hq8.lt; simp only [Yl] at b1; clear hS8 hq8 hr8 hg8 hat8)
 go_wp2_with fail
 go_roundg (l.length - (k + 1))
 case measure => have := Hgk.out; omega
 case rel => (
 have hE : frontL regs t pt tk l (k + 1) = frontL regs t pt tk l k ++ [⟨t.op, regs, t.a, t.b, (l.length : Int) + (rk pt k : Int), 0⟩] := by rw [frontL_succ, if_pos Hx.out, putN]; simp
 have hE2 : backL regs pt tk l (k + 1) = backL regs pt tk l k ++ [⟨2, nn.d, regs, 0, nn.t, 0⟩] := by rw [backL_yes Hx.out, takeN, if_pos Hy.out, nd_get Hn.out]
 exact ⟨k + 1, _, _, by omega, by go_num, rfl, by rw [rk, Hx.out]; simp; omega, rfl, by rw [hE, hE2]; exact HF8.out⟩))))
 · (
 have hkk : k = l.length := by omega
 subst hkk
 have hO := HO.out.below hS.below lo0
 have b1 := hS.box.cell 1
 have lb := hS.box.lt
 obtain ⟨A2, c2, e2, _, _⟩ := hS.r2.shape
 subst e2
 obtain ⟨A1, c1, e1, _, _⟩ := hS.r1.shape
 subst e1
 simp only [Yl] at b1
 have hfl := frontL_len regs t pt tk l l.length
 have hbl := backL_len regs pt tk l l.length
 have hrk := rk_le pt l.length
 have Hfl := hide hfl
 have Hbl := hide hbl
 clear hfl hbl
 have HS := hide hS
 have HO2 := hide hO
 clear hS hO hP
 go_upto_region 17 with (at_builtin; go_loud (refine wpList_append_nodes (v := .slice A1 (frontL regs t pt tk l l.length).length c1) (l := frontL regs t pt tk l l.length) (base := W0.heap.size) rfl _ _ _ rfl i3 _ 48 Tryz.underlying22 h3i h3z h3s h3b rfl rfl HS.out.r1 A2 (backL regs pt tk l l.length).length c2 (backL regs pt tk l l.length) rfl rfl HS.out.r2.nodes (by rw [Hfl.out, Hbl.out]; simp [maxLen]; omega) (by rw [Hfl.out, Hbl.out]; omega) (by have := HS.out.below.size; omega) ?_; intro v8 w8 hr8 hg8 hat8; obtain ⟨A8, c8, hv8, _, _⟩ := hr8.shape; subst hv8; have hq8 := Blk.grown HS.out.box hg8 (HS.out.r1.ne_blk HS.out.box (by decide)); have HF8 := hide (HS.out.front hr8 hg8 hat8); have b1' := hq8.cell 1; have fb := hq8.frozen 1; have lb8 := hq8.lt; simp only [Yl] at b1'; clear hq8 hr8 hg8 hat8))
 obtain ⟨W9, hW9⟩ : ∃ W : World, W = w8.setCell ⟨ob, 1, none⟩ (.slice A8 (frontL regs t pt tk l l.length ++ backL regs pt tk l l.length).length c8) := ⟨_, rfl⟩
 have hS9 := HF8.out
 rw [← hW9] at hS9
 try simp only [← List.length_append]
 rw [← hW9]
 clear hW9 HF8 HS b1 b1' fb lb lb8
 rw [← applyL_front] at hS9 ⊢
 have q0 := hS9.box.cell 0
 have q1 := hS9.box.cell 1
 have hO9 := HO.out.below hS9.below lo0
 have o0 := hO9.cell 0
 have o1 := hO9.cell 1
 have f0 := hO9.frozen 0
 have f1 := hO9.frozen 1
 simp only [Yl] at q0 q1 o0 o1
 have lO := hO9.lt
 have lq := hS9.box.lt
 have hn1 := hS9.r1.ne_blk hO9 (by decide)
 obtain ⟨N, hN⟩ : ∃ N, N = (applyL regs t pt tk l).length := ⟨_, rfl⟩
 rw [← hN] at hS9 hn1 q1 ⊢
 have Q := hide (((hS9.r1.far (p := ⟨w.heap.size + 1 + 1 + 1, 0, none⟩) hn1 (.int .i64 (regs + 1))).far (p := ⟨w.heap.size + 1 + 1 + 1, 1, none⟩) hn1 (.slice A8 N c8)).mono hB)
 have HBf := hide (HB.out.trans (hS9.below.mono hB))
 clear hS9 hO9 hn1 HO2 hN
 go_wp2_with fail
 go_tidy
 refine bodyPost_ret (v := .agg #[.int .i64 (regs + 1), .slice A8 N c8]) (by simp [results, Tryz.results18, go_sem, q0, q1, o0, o1, f0, f1, World.cell?_setCell_same, World.cell?_setCell_other]; try rfl) rfl ?_
 exact ⟨_, rfl, Q.out, (HBf.out.setCell (by simp <;> omega) _).setCell (by simp <;> omega) _⟩)))
end
section
open Go.RowKit
set_option maxHeartbeats 4000000
theorem anyOf_any (A : Option Addr) (cap : Nat) (x : List Bool) (w : World) (h : ValsAt w A (bools x)) (hl : x.length ≤ maxLen) :
 Calls Tryz.prog 52 #[.slice A x.length cap] w fun e w' => e = .returned (.bool (x.any id)) ∧ w' = w := by (
 unfold maxLen at hl
 go_enter Tryz.func52, Tryz.ntmps52
 go_wp2_with fail
 go_loopg [3] (x.length) (fun gk i wr => ∃ k : Nat, k ≤ x.length ∧ i = .int .i64 k ∧ gk = x.length - k ∧ (∀ j, j < k → yn x j = false) ∧ wr = w)
 case atStart => exact ⟨0, Nat.zero_le _, rfl, rfl, fun j hj => by omega, rfl⟩
 case round => (
 obtain ⟨k, hk, rfl, hgk, hno, rfl⟩ := hrel
 have Hgk := hide hgk
 have Hno := hide hno
 clear hgk hno
 by_cases hlt : k < x.length
 · (
 obtain ⟨b, off, rfl, hb, hc⟩ := h.bool hlt
 have u0 : (0 : Int) ≤ (k : Int) := by omega
 have u1 : (k : Int) < (x.length : Int) := by omega
 have H := hide h
 clear h
 cases hy : yn x k
 case false => (
 rw [hy] at hc
 have Hy := hide hy
 clear hy
 go_wp2_with fail
 go_roundg (x.length - (k + 1))
 case measure => have := Hgk.out; omega
 case rel => (
 refine ⟨k + 1, by omega, by go_num, rfl, ?_, rfl⟩
 intro j hj
 by_cases e : j = k
 · rw [e]; exact Hy.out
 · exact Hno.out j (by omega)))
 case true => (
 rw [hy] at hc
 have ha : x.any id = true := by (
 rw [List.any_eq_true]
 exact ⟨x[k], List.getElem_mem hlt, by simpa [yn, hlt] using hy⟩)
 have Ha := hide ha
 clear hy ha
 go_wp2_with fail
 go_ret
 exact ⟨by rw [Ha.out]; rfl, rfl⟩))
 · (
 have ha : x.any id = false := by (
 rw [List.any_eq_false]
 intro z hz
 obtain ⟨i, hi, rfl⟩ := List.getElem_of_mem hz
 have := Hno.out i (by omega)
 simpa [yn, hi] using this)
 have Ha := hide ha
 clear ha
 go_wp2_with fail
 go_ret
 exact ⟨by rw [Ha.out]; rfl, rfl⟩)))
end
end Go.Proofs.YtmghkonmfbpjcabGreat
