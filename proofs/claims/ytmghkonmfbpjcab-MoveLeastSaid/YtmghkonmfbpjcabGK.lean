/- PgV Ma Mq MsW MsY Ms7. -/
import Derived.Test.YtmghkonmfbpjcabGH
import Derived.Test.YtmghkonmfbpjcabGJ
import Derived.Test.YtmghkonmfbpjcabGA
import Derived.Test.YtmghkonmfbpjcabMvW
import Derived.Test.YtmghkonmfbpjcabMvI
import Derived.Test.YtmghkonmfbpjcabTrimG
import Derived.Test.YtmghkonmfbpjcabSplitG
set_option linter.unusedVariables false
set_option linter.unusedSimpArgs false
namespace Go.Proofs.Ytmghkonmfbpjcab
section
open Go.RowKit
open Go.Maps
set_option maxHeartbeats 4000000
attribute [local irreducible] Row TRow madeCells TSeen
theorem wf_small {z : Int} (h0 : -1000 ≤ z) (h1 : z ≤ 1000) : (Lit.int .i64 z).wf = true := by (
 unfold Lit.wf
 rw [Bool.and_eq_true]
 exact ⟨decide_eq_true (by show (-9223372036854775808 : Int) ≤ _; omega), decide_eq_true (by show _ ≤ (9223372036854775807 : Int); omega)⟩)
theorem Right.key {regs : Int} {l : List Nd} (h : Right regs l) {n : Nd} (hn : n ∈ l) (hB : hasB n.op = true) : ∃ k, keyOf Try.prog 42 n.tm.val = some k := by (
 have h1 := h.rng n hn
 have h2 := h.rhi
 have hA : hasA n.op = true := by (
 simp only [hasB, hasA, inB, Bool.and_eq_true, Bool.or_eq_true, decide_eq_true_eq] at *
 omega)
 unfold badR okR at h1
 simp only [hB, hA, Bool.or_eq_false_iff, Bool.not_eq_false', Bool.not_true, Bool.false_or, Bool.and_eq_true, decide_eq_true_eq] at h1
 obtain ⟨⟨⟨⟨_, ha⟩, hb⟩, _⟩, _⟩ := h1
 simp only [hasB, inB, Bool.and_eq_true, decide_eq_true_eq] at hB
 exact keyTerm n.tm (wf_small (by show _ ≤ n.op; omega) (by show n.op ≤ _; omega)) (wf_small (by show _ ≤ n.a; omega) (by show n.a ≤ _; omega)) (wf_small (by show _ ≤ n.b; omega) (by show n.b ≤ _; omega)))
def TmPost (tT : TypeId) (regs : Int) (l : List Nd) (w : World) (e : Ending) (w' : World) : Prop :=
 Below w.heap.size w w' ∧ ∃ v, e = .returned (.tuple #[v, .int .i64 (chk regs l)]) ∧ TRow w' w.heap.size tT v (if chk regs l = 0 then tmsOf l l.length else [])
set_option maxRecDepth 100000 in
theorem Terms_any (regs : Int) (A : Option Addr) (l : List Nd) (cap : Nat) (w : World) (hl : l.length ≤ maxLen) (hA : NodesAt w A l) :
 Calls Try.prog 50 #[.agg #[.int .i64 regs, .slice A l.length cap]] w (TmPost 42 regs l w) := by (
 have hC := fun W (hW : Below w.heap.size w W) => Check_any regs A l cap W hl (hA.below hW)
 unfold maxLen at hl
 by_cases h0 : chk regs l = 0
 · (
 have hR := right_of_chk h0
 unfold TmPost
 rw [if_pos h0]
 rw [h0] at hC ⊢
 have HC := hide hC
 have HR := hide hR
 have hhi := hR.hi
 obtain ⟨ii, hii, hiz, his, hib⟩ := info_parts infoTerm
 have hmm := @run_makeMap Try.prog
 clear hC h0 hR
 go_enter Try.func50, Try.ntmps50
 go_wp2_with fail
 refine (HC.out _ (by (with_reducible repeat first | apply Qa | assumption | apply Qb | apply Qc | apply Qd | apply Qe | refine Qf ?_ (by assumption) ?_); all_goals (try simp only [Sz]); first | done | omega | (try simp only [Sz] at *); omega)).mono ?_
 rintro e w1 ⟨rfl, hb1⟩
 have hP : Blk w1 w.heap.size 24 #[.int .i64 regs, .slice A l.length cap] := Blk.below (Blk.new' rfl) hb1 (by simp)
 have hB : Below w.heap.size w w1 := (by (with_reducible repeat first | apply Qa | assumption | apply Qb | apply Qc | apply Qd | apply Qe | refine Qf ?_ (by assumption) ?_); all_goals (try simp only [Sz]); first | done | omega | (try simp only [Sz] at *); omega)
 have p0 := hP.cell 0
 have p1 := hP.cell 1
 have lp := hP.lt
 simp only [Yl] at p0 p1
 obtain ⟨g, hg⟩ : ∃ g, g = w1.heap.size := ⟨_, rfl⟩
 have hSn : TSeen (w1.alloc (.map #[] 0)) g 0 [] := by rw [hg]; exact TSeen.start
 have hBn : Below w.heap.size w (w1.alloc (.map #[] 0)) := hB.alloc hB.size _
 have Hg := hide hg
 have HSn := hide hSn
 have hgw : w.heap.size ≤ g := by rw [hg]; exact hB.size
 clear hb1 hg hSn
 go_wp2_with fail
 clear hmm
 rw [← Hg.out]
 go_loopg [5, 21] (l.length) (fun gk v i wr => ∃ m : Nat, m ≤ l.length ∧ i = .int .i64 m ∧ gk = l.length - m ∧ TRow wr w.heap.size 42 v (tmsOf l m) ∧ TSeen wr g m (tmsOf l m) ∧ Below w.heap.size w wr)
 case atStart => exact ⟨0, Nat.zero_le _, rfl, rfl, TRow.nil_ _ _ _, HSn.out, hBn⟩
 case round => (
 obtain ⟨m, hm, rfl, hgk, hrow, hsn, hbr⟩ := hrel
 have Hgk := hide hgk
 clear hgk p0 p1 lp hP hB hBn
 by_cases hlt : m < l.length
 · (
 obtain ⟨nb, no, x, rfl, hnb, hx, hxl⟩ := hA.get hlt
 obtain ⟨c0, c1, c2, c3, c4, c5⟩ := hxl.below hbr hnb
 have u0 : (0 : Int) ≤ (m : Int) := by omega
 have u1 : (m : Int) < (l.length : Int) := by omega
 have hlb := Nat.lt_of_lt_of_le hnb hbr.size
 have hzr := hbr.size
 obtain ⟨A5, c5', rfl, _, _⟩ := hrow.shape
 have hlen := tmsOf_len l m
 obtain ⟨ts, hts⟩ : ∃ ts, ts = tmsOf l m := ⟨_, rfl⟩
 rw [← hts] at hrow hsn hlen ⊢
 have Hts := hide hts
 have Hx := hide hx
 have Hrow := hide hrow
 have Hsn := hide hsn
 clear hxl hx hrow hsn hts
 go_wp2_with fail
 have hT : Blk ((wr.alloc (.cells #[.int .i64 x.op, .int .i64 x.d, .int .i64 x.a, .int .i64 x.b, .int .i64 x.t, .int .i64 x.e] 60)).alloc (.cells #[.int .i64 x.op, .int .i64 x.a, .int .i64 x.b] 42)) (wr.heap.size + 1) 42 #[.int .i64 x.op, .int .i64 x.a, .int .i64 x.b] := Blk.new' (by simp)
 have hbw : Below wr.heap.size wr ((wr.alloc (.cells #[.int .i64 x.op, .int .i64 x.d, .int .i64 x.a, .int .i64 x.b, .int .i64 x.t, .int .i64 x.e] 60)).alloc (.cells #[.int .i64 x.op, .int .i64 x.a, .int .i64 x.b] 42)) := ((Below.refl _ _).alloc (Nat.le_refl _) _).alloc (by simp) _
 have hN1 : Blk ((wr.alloc (.cells #[.int .i64 x.op, .int .i64 x.d, .int .i64 x.a, .int .i64 x.b, .int .i64 x.t, .int .i64 x.e] 60)).alloc (.cells #[.int .i64 x.op, .int .i64 x.a, .int .i64 x.b] 42)) wr.heap.size 60 #[.int .i64 x.op, .int .i64 x.d, .int .i64 x.a, .int .i64 x.b, .int .i64 x.t, .int .i64 x.e] := (Blk.new' rfl).alloc _
 have hsz : ((wr.alloc (.cells #[.int .i64 x.op, .int .i64 x.d, .int .i64 x.a, .int .i64 x.b, .int .i64 x.t, .int .i64 x.e] 60)).alloc (.cells #[.int .i64 x.op, .int .i64 x.a, .int .i64 x.b] 42)).heap.size = wr.heap.size + 1 + 1 := by simp
 refine (of_any x.op _).mono ?_
 rintro e w2 ⟨rfl, hb2⟩
 obtain ⟨g9, hg9⟩ : ∃ g, g = wr.heap.size + 1 := ⟨_, rfl⟩
 have hT2 := hT.below hb2 hT.lt
 rw [← hg9] at hT2 ⊢
 have hbw2 : Below wr.heap.size wr w2 := hbw.trans (hb2.mono (by rw [hsz]; omega))
 have hz2 := hb2.size
 rw [hsz] at hz2
 obtain ⟨W, hW⟩ : ∃ W, W = w2.alloc (.cells #[.bool (hasD x.op), .bool (hasA x.op), .bool (hasB x.op), .bool (isSet x.op), .bool (shT x.op), .bool (hasE x.op)] 99) := ⟨_, rfl⟩
 have hX : Blk W w2.heap.size 99 #[.bool (hasD x.op), .bool (hasA x.op), .bool (hasB x.op), .bool (isSet x.op), .bool (shT x.op), .bool (hasE x.op)] := by rw [hW]; exact Blk.new' rfl
 have hT3 : Blk W g9 42 #[.int .i64 x.op, .int .i64 x.a, .int .i64 x.b] := by rw [hW]; exact hT2.alloc _
 have hbW : Below wr.heap.size wr W := by rw [hW]; exact hbw2.alloc (by omega) _
 have hrW := Hrow.out.below' hbW
 have hsW := Hsn.out.below hbW
 have hBW := hbr.trans (hbW.mono hzr)
 have hn9 : ¬ (g = g9) := by have := Hsn.out.lt; omega
 have x2 := hX.cell 2
 have t0 := hT3.cell 0
 have t1 := hT3.cell 1
 have t2 := hT3.cell 2
 have lX := hX.lt
 have lT := hT3.lt
 simp only [Yl] at x2 t0 t1 t2
 have hWe : w2.alloc (.cells #[.bool (hasD x.op), .bool (hasA x.op), .bool (hasB x.op), .bool (isSet x.op), .bool (shT x.op), .bool (hasE x.op)] 99) = W := hW.symm
 have HWe := hide hWe
 have HrW := hide hrW
 have HsW := hide hsW
 have HBW := hide hBW
 clear hT hbw hN1 hsz hb2 hT2 hbw2 hz2 hW hX hbW hrW hsW hBW hWe Hrow Hsn hbr c0 c1 c2 c3 c4 c5 hT3 hg9
 cases hb : hasB x.op
 case false => (
 have hnext : tmsOf l (m + 1) = ts := by rw [Hts.out]; exact tmsOf_no Hx.out hb
 have Hn := hide hnext
 rw [hb] at x2 HWe
 clear hnext
 go_wp2_with fail
 go_roundg (l.length - (m + 1))
 case measure => have := Hgk.out; omega
 case rel => rw [HWe.out]; exact ⟨m + 1, by omega, by go_num, rfl, by rw [Hn.out]; exact HrW.out, by rw [Hn.out]; exact HsW.out.mono (by omega), HBW.out⟩)
 case true => (
 rw [hb] at x2 HWe
 have hBsz := HBW.out.size
 obtain ⟨kl, hkl⟩ := HR.out.key (List.mem_of_getElem? Hx.out) hb
 obtain ⟨c, hlook, hcm, hcz, v0, st, W1, hme, hg1, hlook1, W3, hst, hg3, hS3, hlook3⟩ := (HsW.out.drew).bump (by omega) hkl
 have hlook : (Instr.lookup 70 (.map (some g)) (.agg #[.int .i64 x.op, .int .i64 x.a, .int .i64 x.b]) false).run Try.prog W.drew = .ok (.int .i64 c) W.drew := hlook
 have hlook1 : (Instr.lookup 70 (.map (some g)) (.agg #[.int .i64 x.op, .int .i64 x.a, .int .i64 x.b]) false).run Try.prog W1 = .ok (.int .i64 c) W1 := hlook1
 have hme : (Instr.mapEntry 70 (.map (some g)) (.agg #[.int .i64 x.op, .int .i64 x.a, .int .i64 x.b])).run Try.prog W.drew = .ok (.tuple #[v0, .int .i64 (st : Int)]) W1 := hme
 have hst : (Instr.entryStore 70 (.map (some g)) (.int .i64 (st : Int)) (.int .i64 (IntKind.i64.wrap ((c : Int) + 1)))).run Try.prog W1 = .ok () W3 := by rw [show IntKind.i64.wrap ((c : Int) + 1) = (c : Int) + 1 by rw [IntKind.wrap_i64]; omega]; exact hst
 obtain ⟨cv, hcv⟩ : ∃ cv : Int, cv = (c : Int) + 1 := ⟨_, rfl⟩
 have hlook3 : (Instr.lookup 70 (.map (some g)) (.agg #[.int .i64 x.op, .int .i64 x.a, .int .i64 x.b]) false).run Try.prog W3 = .ok (.int .i64 cv) W3 := by rw [hcv]; exact hlook3
 have e0 : W1.cell? ⟨g9, 0, none⟩ = some (.int .i64 x.op) := by rw [hg1.cell_far _ (by simp <;> omega) (by simp; omega)]; exact t0
 have e1 : W1.cell? ⟨g9, 1, none⟩ = some (.int .i64 x.a) := by rw [hg1.cell_far _ (by simp <;> omega) (by simp; omega)]; exact t1
 have e2 : W1.cell? ⟨g9, 2, none⟩ = some (.int .i64 x.b) := by rw [hg1.cell_far _ (by simp <;> omega) (by simp; omega)]; exact t2
 have hs1 := hg1.size
 simp only [World.size_drew] at hs1
 have l1 : g9 < W1.heap.size := by omega
 have f0 : W3.cell? ⟨g9, 0, none⟩ = some (.int .i64 x.op) := by rw [hg3.cell_far _ (by simp <;> omega) (by simp; omega)]; exact e0
 have f1 : W3.cell? ⟨g9, 1, none⟩ = some (.int .i64 x.a) := by rw [hg3.cell_far _ (by simp <;> omega) (by simp; omega)]; exact e1
 have f2 : W3.cell? ⟨g9, 2, none⟩ = some (.int .i64 x.b) := by rw [hg3.cell_far _ (by simp <;> omega) (by simp; omega)]; exact e2
 have hr3 : TRow W3 w.heap.size 42 (.slice A5 ts.length c5') ts := ((HrW.out.drew).kept hg1 (.inr (HsW.out.ne_row HrW.out))).kept hg3 (.inr (HsW.out.ne_row HrW.out))
 have hB3 : Below w.heap.size w W3 := ((HBW.out.drew).grown hg1 (by simp; omega) (fun q hq => by injection hq with hq; omega)).grown hg3 (by omega) (fun q hq => by injection hq with hq; omega)
 have hz3 : w.heap.size ≤ W3.heap.size := hB3.size
 have HR3 := hide hr3
 have HB3 := hide hB3
 have HS3 := hide hS3
 clear hkl hg1 hg3 hs1 hr3 hB3 hS3
 cases hct : ts.contains x.tm
 case true => (
 have hnext : tmsOf l (m + 1) = ts := by rw [Hts.out] at hct ⊢; exact tmsOf_seen Hx.out hct
 have hc0 : c ≠ 0 := fun h => by have := hcz.1 h; rw [hct] at this; cases this
 have b1 : (cv == 1) = false := by rw [hcv]; have h : ((c : Int) + 1) ≠ 1 := (by omega); simpa using h
 rw [hct, if_pos rfl] at HS3
 have Hn := hide hnext
 clear hnext hcz hc0 hcv hct
 go_upto_region 12 with fail
 rw [HWe.out]
 refine wp_region_held_drew (S := fun w' => w'.cell? ⟨g9, 0, none⟩ = some (.int .i64 x.op) ∧ w'.cell? ⟨g9, 1, none⟩ = some (.int .i64 x.a) ∧ w'.cell? ⟨g9, 2, none⟩ = some (.int .i64 x.b)) (by kernel_rfl) ⟨t0, t1, t2⟩ ?_
 intro hH
 refine Up (fun _ _ _ _ _ => id) fun hP => ?_
 refine Vi 0 ?_ rfl (by kernel_rfl) hP (by rfl) ?r hH ?_; case r => intro w' h; (try dsimp only at h); go_simp; try with_reducible rfl
 try simp only [Nm]
 refine Vi 1 ?_ rfl (by kernel_rfl) hP (by rfl) ?r hH ?_; case r => intro w' h; (try dsimp only at h); go_simp; try with_reducible rfl
 try simp only [Nm]
 refine wpAnyH_ready (rs := [2, 4]) (by kernel_rfl) (by simp) ?_
 refine AllReadyH.cons rfl (fun K hK => ?_) (AllReadyH.cons rfl (fun K hK => ?_) AllReadyH.nil)
 · (
 have HK2 := hide hK
 clear hK
 go_simp
 refine Shut.out HK2.out _ _ hH (fun _ => ?_)
 try simp only [Nm]
 refine Vi 3 ?_ rfl (by kernel_rfl) hP (by rfl) ?r hH ?_; case r => intro w' h; (try dsimp only at h); go_simp; try with_reducible rfl
 try simp only [Nm]
 refine Rd 4 (by kernel_rfl) rfl (fun K hK => ?_)
 have HK4 := hide hK
 clear hK
 go_simp
 refine Shut.out HK4.out _ _ ⟨e0, e1, e2⟩ (fun hH => ?_)
 try simp only [Nm]
 refine Vi 5 ?_ rfl (by kernel_rfl) hP (by rfl) ?r hH ?_; case r => intro w' h; (try dsimp only at h); go_simp; try with_reducible rfl
 try simp only [Nm]
 refine Rd 6 (by kernel_rfl) rfl (fun K hK => ?_)
 have HK6 := hide hK
 clear hK
 go_simp
 refine Shut.out HK6.out _ _ ⟨f0, f1, f2⟩ (fun hH => ?_)
 try simp only [Nm]
 refine wpAnyH_done (by kernel_rfl) ?_ _
 clear hH HK2 HK4 HK6 t0 t1 t2 e0 e1 e2 hlook hme hlook1 hst
 go_wp2_with fail
 go_roundg (l.length - (m + 1))
 case measure => have := Hgk.out; omega
 case rel => exact ⟨m + 1, by omega, by go_num, rfl, by rw [Hn.out]; exact HR3.out, by rw [Hn.out]; exact HS3.out, HB3.out⟩)
 · (
 have HK4 := hide hK
 clear hK
 go_simp
 refine Shut.out HK4.out _ _ ⟨e0, e1, e2⟩ (fun hH => ?_)
 try simp only [Nm]
 refine Vi 5 ?_ rfl (by kernel_rfl) hP (by rfl) ?r hH ?_; case r => intro w' h; (try dsimp only at h); go_simp; try with_reducible rfl
 try simp only [Nm]
 refine Rd 2 (by kernel_rfl) rfl (fun K hK => ?_)
 have HK2 := hide hK
 clear hK
 go_simp
 refine Shut.out HK2.out _ _ hH (fun _ => ?_)
 try simp only [Nm]
 refine Vi 3 ?_ rfl (by kernel_rfl) hP (by rfl) ?r hH ?_; case r => intro w' h; (try dsimp only at h); go_simp; try with_reducible rfl
 try simp only [Nm]
 refine Rd 6 (by kernel_rfl) rfl (fun K hK => ?_)
 have HK6 := hide hK
 clear hK
 go_simp
 refine Shut.out HK6.out _ _ ⟨f0, f1, f2⟩ (fun hH => ?_)
 try simp only [Nm]
 refine wpAnyH_done (by kernel_rfl) ?_ _
 clear hH HK2 HK4 HK6 t0 t1 t2 e0 e1 e2 hlook hme hlook1 hst
 go_wp2_with fail
 go_roundg (l.length - (m + 1))
 case measure => have := Hgk.out; omega
 case rel => exact ⟨m + 1, by omega, by go_num, rfl, by rw [Hn.out]; exact HR3.out, by rw [Hn.out]; exact HS3.out, HB3.out⟩))
 case false => (
 have hnext : tmsOf l (m + 1) = ts ++ [x.tm] := by rw [Hts.out] at hct ⊢; exact tmsOf_yes Hx.out hb hct
 have hc0 : c = 0 := hcz.2 hct
 have b1 : (cv == 1) = true := by rw [hcv, hc0]; rfl
 rw [hct, if_neg (by simp)] at HS3
 have Hn := hide hnext
 clear hnext hcz hc0 hcv hct
 go_upto_region 12 with fail
 rw [HWe.out]
 refine wp_region_held_drew (S := fun w' => w'.cell? ⟨g9, 0, none⟩ = some (.int .i64 x.op) ∧ w'.cell? ⟨g9, 1, none⟩ = some (.int .i64 x.a) ∧ w'.cell? ⟨g9, 2, none⟩ = some (.int .i64 x.b)) (by kernel_rfl) ⟨t0, t1, t2⟩ ?_
 intro hH
 refine Up (fun _ _ _ _ _ => id) fun hP => ?_
 refine Vi 0 ?_ rfl (by kernel_rfl) hP (by rfl) ?r hH ?_; case r => intro w' h; (try dsimp only at h); go_simp; try with_reducible rfl
 try simp only [Nm]
 refine Vi 1 ?_ rfl (by kernel_rfl) hP (by rfl) ?r hH ?_; case r => intro w' h; (try dsimp only at h); go_simp; try with_reducible rfl
 try simp only [Nm]
 refine wpAnyH_ready (rs := [2, 4]) (by kernel_rfl) (by simp) ?_
 refine AllReadyH.cons rfl (fun K hK => ?_) (AllReadyH.cons rfl (fun K hK => ?_) AllReadyH.nil)
 · (
 have HK2 := hide hK
 clear hK
 go_simp
 refine Shut.out HK2.out _ _ hH (fun _ => ?_)
 try simp only [Nm]
 refine Vi 3 ?_ rfl (by kernel_rfl) hP (by rfl) ?r hH ?_; case r => intro w' h; (try dsimp only at h); go_simp; try with_reducible rfl
 try simp only [Nm]
 refine Rd 4 (by kernel_rfl) rfl (fun K hK => ?_)
 have HK4 := hide hK
 clear hK
 go_simp
 refine Shut.out HK4.out _ _ ⟨e0, e1, e2⟩ (fun hH => ?_)
 try simp only [Nm]
 refine Vi 5 ?_ rfl (by kernel_rfl) hP (by rfl) ?r hH ?_; case r => intro w' h; (try dsimp only at h); go_simp; try with_reducible rfl
 try simp only [Nm]
 refine Rd 6 (by kernel_rfl) rfl (fun K hK => ?_)
 have HK6 := hide hK
 clear hK
 go_simp
 refine Shut.out HK6.out _ _ ⟨f0, f1, f2⟩ (fun hH => ?_)
 try simp only [Nm]
 refine wpAnyH_done (by kernel_rfl) ?_ _
 clear hH HK2 HK4 HK6 t0 t1 t2 e0 e1 e2 hlook hme hlook1 hst
 go_wp2_with (at_builtin; refine wpList_append_terms (v := .slice A5 ts.length c5') rfl (.tmp 51) (.tmp 53) _ rfl ii _ 24 Try.underlying94 hii hiz his hib rfl rfl (HR3.out.alloc _) (some ⟨W3.heap.size, 0, none⟩) 1 1 [x.tm] rfl rfl (terms_one' (n := x.tm) rfl) (by simp [maxLen]; omega) (by simp; omega) (by simp; omega) ?_; intro v4 w4 hr4 hg4 hat4)
 go_roundg (l.length - (m + 1))
 case measure => have := Hgk.out; omega
 case rel => exact ⟨m + 1, by omega, by go_num, rfl, by rw [Hn.out]; exact hr4, by rw [Hn.out]; exact ((HS3.out.below ((Below.refl _ _).alloc (Nat.le_refl _) _)).own hg4 (HS3.out.ne_row HR3.out)), (HB3.out.alloc (by omega) _).grown hg4 (by simp; omega) (fun q hq => (HR3.out.lt q hq).1)⟩)
 · (
 have HK4 := hide hK
 clear hK
 go_simp
 refine Shut.out HK4.out _ _ ⟨e0, e1, e2⟩ (fun hH => ?_)
 try simp only [Nm]
 refine Vi 5 ?_ rfl (by kernel_rfl) hP (by rfl) ?r hH ?_; case r => intro w' h; (try dsimp only at h); go_simp; try with_reducible rfl
 try simp only [Nm]
 refine Rd 2 (by kernel_rfl) rfl (fun K hK => ?_)
 have HK2 := hide hK
 clear hK
 go_simp
 refine Shut.out HK2.out _ _ hH (fun _ => ?_)
 try simp only [Nm]
 refine Vi 3 ?_ rfl (by kernel_rfl) hP (by rfl) ?r hH ?_; case r => intro w' h; (try dsimp only at h); go_simp; try with_reducible rfl
 try simp only [Nm]
 refine Rd 6 (by kernel_rfl) rfl (fun K hK => ?_)
 have HK6 := hide hK
 clear hK
 go_simp
 refine Shut.out HK6.out _ _ ⟨f0, f1, f2⟩ (fun hH => ?_)
 try simp only [Nm]
 refine wpAnyH_done (by kernel_rfl) ?_ _
 clear hH HK2 HK4 HK6 t0 t1 t2 e0 e1 e2 hlook hme hlook1 hst
 go_wp2_with (at_builtin; refine wpList_append_terms (v := .slice A5 ts.length c5') rfl (.tmp 51) (.tmp 53) _ rfl ii _ 24 Try.underlying94 hii hiz his hib rfl rfl (HR3.out.alloc _) (some ⟨W3.heap.size, 0, none⟩) 1 1 [x.tm] rfl rfl (terms_one' (n := x.tm) rfl) (by simp [maxLen]; omega) (by simp; omega) (by simp; omega) ?_; intro v4 w4 hr4 hg4 hat4)
 go_roundg (l.length - (m + 1))
 case measure => have := Hgk.out; omega
 case rel => exact ⟨m + 1, by omega, by go_num, rfl, by rw [Hn.out]; exact hr4, by rw [Hn.out]; exact ((HS3.out.below ((Below.refl _ _).alloc (Nat.le_refl _) _)).own hg4 (HS3.out.ne_row HR3.out)), (HB3.out.alloc (by omega) _).grown hg4 (by simp; omega) (fun q hq => (HR3.out.lt q hq).1)⟩))))
 · (
 have hkk : m = l.length := by omega
 have Hkk := hide hkk
 clear hkk
 go_wp2_with fail
 go_tidy
 go_ret2
 exact ⟨hbr, _, rfl, by rw [← Hkk.out]; exact hrow⟩)))
 · (
 unfold TmPost
 rw [if_neg h0]
 have HC := hide hC
 have b0 : (chk regs l != 0) = true := by simpa using h0
 clear hC h0
 generalize chk regs l = c at *
 go_enter Try.func50, Try.ntmps50
 go_wp2_with fail
 refine (HC.out _ (by (with_reducible repeat first | apply Qa | assumption | apply Qb | apply Qc | apply Qd | apply Qe | refine Qf ?_ (by assumption) ?_); all_goals (try simp only [Sz]); first | done | omega | (try simp only [Sz] at *); omega)).mono ?_
 rintro e w1 ⟨rfl, hb1⟩
 have hB : Below w.heap.size w w1 := (by (with_reducible repeat first | apply Qa | assumption | apply Qb | apply Qc | apply Qd | apply Qe | refine Qf ?_ (by assumption) ?_); all_goals (try simp only [Sz]); first | done | omega | (try simp only [Sz] at *); omega)
 go_wp2_with fail
 go_tidy
 go_ret2
 exact ⟨hB, _, rfl, TRow.nil_ _ _ _⟩))
end
section
open Go.RowKit
set_option maxHeartbeats 8000000
attribute [local irreducible] Row madeCells NRow TRow
set_option maxRecDepth 100000 in
theorem All_any (regs : Int) (A : Option Addr) (l : List Nd) (cap : Nat) (w : World) (hl : l.length ≤ maxLen) (hA : NodesAt w A l) :
 Calls Try.prog 24 #[.agg #[.int .i64 regs, .slice A l.length cap]] w (AllPost 60 regs l w) := by (
 have HTm := hide (fun W (hW : Below w.heap.size w W) => Terms_any regs A l cap W hl (hA.below hW))
 have HN := hide (fun W (hW : Below w.heap.size w W) => hA.below hW)
 clear hA
 go_enter Try.func24, Try.ntmps24
 go_wp2_with fail
 refine (HTm.out _ (by (with_reducible repeat first | apply Qa | assumption | apply Qb | apply Qc | apply Qd | apply Qe | refine Qf ?_ (by assumption) ?_); all_goals (try simp only [Sz]); first | done | omega | (try simp only [Sz] at *); omega)).mono ?_
 rintro e w1 ⟨hb1, v, rfl, hr⟩
 have hz1 := hb1.size
 simp only [World.size_alloc] at hz1
 have hB : Below w.heap.size w w1 := (by (with_reducible repeat first | apply Qa | assumption | apply Qb | apply Qc | apply Qd | apply Qe | refine Qf ?_ (by assumption) ?_); all_goals (try simp only [Sz]); first | done | omega | (try simp only [Sz] at *); omega)
 have hP : Blk w1 w.heap.size 24 #[.int .i64 regs, .slice A l.length cap] := Blk.below (by repeat (first | ((with_reducible refine Blk.new' ?_); exact (by (try simp only [Sz]); first | done | omega | (try simp only [Sz] at *); omega)) | (with_reducible refine Blk.alloc ?_ _))) hb1 (by simp <;> omega)
 have hO : Blk w1 (w.heap.size + 1) 24 #[.int .i64 0, .slice none 0 0] := Blk.below (by repeat (first | ((with_reducible refine Blk.new' ?_); exact (by (try simp only [Sz]); first | done | omega | (try simp only [Sz] at *); omega)) | (with_reducible refine Blk.alloc ?_ _))) hb1 (by simp <;> omega)
 replace hr := hr.mono (base' := w.heap.size) (by simp <;> omega)
 clear hb1
 by_cases hc : chk regs l = 0
 case neg => (
 have hE : allE regs l = chk regs l := by unfold allE; rw [if_pos hc]
 have hc' : (chk regs l != 0) = true := by simp [hc]
 have H0 := hide hc
 have HE := hide hE
 clear hc hE hP hr
 have o0 := hO.cell 0
 have o1 := hO.cell 1
 have f0 := hO.frozen 0
 have f1 := hO.frozen 1
 simp only [Yl] at o0 o1
 have lO := hO.lt
 go_wp2_with fail
 go_tidy
 refine bodyPost_ret (v := .tuple #[.agg #[.int .i64 0, .slice none 0 0], .int .i64 (chk regs l)]) (by simp [results, Try.results24, go_sem, o0, o1, f0, f1, World.cell?_setCell_same, World.cell?_setCell_other]; try rfl) rfl ?_
 exact ⟨(hB.setCell (by simp <;> omega) _).setCell (by simp <;> omega) _, .inl ⟨by rw [HE.out]; exact H0.out, by rw [HE.out]⟩⟩)
 case pos => (
 rw [if_pos hc] at hr
 have hR := right_of_chk hc
 have hlo := hR.lo
 have hhi := hR.hi
 have hE : allE regs l = (allGo (allT l) regs l).1 := by unfold allE; rw [if_neg (by simp [hc])]
 have HE := hide hE
 rw [hc]
 obtain ⟨ts, hts⟩ : ∃ ts, ts = allT l := ⟨_, rfl⟩
 change TRow w1 w.heap.size _ v (allT l) at hr
 rw [← hts] at hr
 have htl : ts.length ≤ 256 := by rw [hts]; exact Nat.le_trans (tmsOf_len l l.length) hhi
 have Hts := hide hts
 obtain ⟨Tv, tc, ev, _, _⟩ := hr.shape
 subst ev
 have hTs := hr.nodes
 have HCl := hide (fun W (hW : Below w.heap.size w W) => Clone_any A l cap W (HN.out _ hW) hlo (by omega))
 clear hc hR hE hts hr
 have p0 := hP.cell 0
 have p1 := hP.cell 1
 simp only [Yl] at p0 p1
 have lp := hP.lt
 go_upto_region 4 with fail
 have HH : ∀ (V : World), Below w1.heap.size w1 V → (V.cell? ⟨w.heap.size, 0, none⟩ = some (.int .i64 regs) ∧ V.cell? ⟨w.heap.size, 1, none⟩ = some (.slice A l.length cap)) := fun V hV => ⟨((bcell hV).1 _ _ (by omega)).trans p0, ((bcell hV).1 _ _ (by omega)).trans p1⟩
 refine wp_region_held_drew (S := fun w' => (w'.cell? ⟨w.heap.size, 0, none⟩ = some (.int .i64 regs) ∧ w'.cell? ⟨w.heap.size, 1, none⟩ = some (.slice A l.length cap))) (by kernel_rfl) ?_ ?_
 · exact ⟨p0, p1⟩
 intro hH
 have hC0 : Below w1.heap.size w1 w1.drew := (Below.refl _ _).drew
 generalize w1.drew = V0 at hH hC0 ⊢
 refine Up (fun _ _ _ _ _ => id) fun hPq => ?_
 refine Vq 0 ?_ rfl (by kernel_rfl) hPq (by rfl) ?r hH ?_; case r => intro w'; go_simp; try with_reducible rfl
 try simp only [Nm]
 refine Vi 1 ?_ rfl (by kernel_rfl) hPq (by rfl) ?r hH ?_; case r => intro w' h; (try dsimp only at h); (try go_split_ands); go_simp; try with_reducible rfl
 try simp only [Nm]
 refine Vq 2 ?_ rfl (by kernel_rfl) hPq (by rfl) ?r hH ?_; case r => intro w'; go_simp; try with_reducible rfl
 try simp only [Nm]
 refine Vi 3 ?_ rfl (by kernel_rfl) hPq (by rfl) ?r hH ?_; case r => intro w' h; (try dsimp only at h); (try go_split_ands); go_simp; try with_reducible rfl
 try simp only [Nm]
 refine wpAnyH_ready (rs := [4, 6]) (by kernel_rfl) (by simp) ?_
 refine AllReadyH.cons rfl (fun K hK => ?_) (AllReadyH.cons rfl (fun K hK => ?_) AllReadyH.nil)
 focus (
 have HK4 := hide hK
 clear hK
 go_simp
 go_at_call 28
 refine (HCl.out _ (hB.trans (hC0.mono hB.size))).mono ?_
 rintro e V1 ⟨v, rfl, hr, hbV1⟩
 have hC1 : Below w1.heap.size w1 V1 := hC0.trans (hbV1.mono hC0.size)
 replace hr := hr.mono (base' := w.heap.size) (Nat.le_trans hB.size hC0.size)
 clear hH
 obtain ⟨Cv, cc, ev, _, _⟩ := hr.shape
 subst ev
 refine Shut.out HK4.out _ _ (HH _ hC1) (fun hH => ?_)
 try simp only [Nm]
 clear HK4
 refine Vq 5 ?_ rfl (by kernel_rfl) hPq (by rfl) ?r hH ?_; case r => intro w'; go_simp; try with_reducible rfl
 try simp only [Nm]
 refine Rd 6 (by kernel_rfl) rfl (fun K hK => ?_)
 have HK6 := hide hK
 clear hK
 go_simp
 obtain ⟨V2, hV2⟩ : ∃ V : World, V = V1.alloc (.cells #[.int .i64 0, .slice none 0 0] 24) := ⟨_, rfl⟩
 have hC2 : Below w1.heap.size w1 V2 := by rw [hV2]; exact hC1.alloc hC1.size _
 have hQ : Blk V2 V1.heap.size 24 #[.int .i64 0, .slice none 0 0] := by rw [hV2]; exact Blk.new' rfl
 replace hr := hr.alloc (.cells #[.int .i64 0, .slice none 0 0] 24)
 rw [← hV2] at hr
 rw [← hV2]
 obtain ⟨qb, hqb⟩ : ∃ b, b = V1.heap.size := ⟨_, rfl⟩
 have hqg : w1.heap.size ≤ qb := by rw [hqb]; exact hC1.size
 rw [← hqb] at hQ ⊢
 clear hH hV2 hqb
 refine Shut.out HK6.out _ _ (HH _ hC2) (fun hH => ?_)
 try simp only [Nm]
 clear HK6)
 rotate_left
 focus (
 have HK6 := hide hK
 clear hK
 go_simp
 obtain ⟨V1, hV1⟩ : ∃ V : World, V = V0.alloc (.cells #[.int .i64 0, .slice none 0 0] 24) := ⟨_, rfl⟩
 have hC1 : Below w1.heap.size w1 V1 := by rw [hV1]; exact hC0.alloc hC0.size _
 have hQ : Blk V1 V0.heap.size 24 #[.int .i64 0, .slice none 0 0] := by rw [hV1]; exact Blk.new' rfl
 rw [← hV1]
 obtain ⟨qb, hqb⟩ : ∃ b, b = V0.heap.size := ⟨_, rfl⟩
 have hqg : w1.heap.size ≤ qb := by rw [hqb]; exact hC0.size
 rw [← hqb] at hQ ⊢
 clear hH hV1 hqb
 refine Shut.out HK6.out _ _ (HH _ hC1) (fun hH => ?_)
 try simp only [Nm]
 clear HK6
 refine Rd 4 (by kernel_rfl) rfl (fun K hK => ?_)
 have HK4 := hide hK
 clear hK
 go_simp
 go_at_call 28
 refine (HCl.out _ (hB.trans (hC1.mono hB.size))).mono ?_
 rintro e V2 ⟨v, rfl, hr, hbV2⟩
 have hC2 : Below w1.heap.size w1 V2 := hC1.trans (hbV2.mono hC1.size)
 replace hr := hr.mono (base' := w.heap.size) (Nat.le_trans hB.size hC1.size)
 clear hH
 obtain ⟨Cv, cc, ev, _, _⟩ := hr.shape
 subst ev
 refine Shut.out HK4.out _ _ (HH _ hC2) (fun hH => ?_)
 try simp only [Nm]
 clear HK4
 refine Vq 5 ?_ rfl (by kernel_rfl) hPq (by rfl) ?r hH ?_; case r => intro w'; go_simp; try with_reducible rfl
 try simp only [Nm]
 replace hQ := hQ.below hbV2 hQ.lt)
 all_goals (
 refine Rd 7 (by kernel_rfl) rfl (fun K hK => ?_)
 have HK7 := hide hK
 clear hK
 have q0 := hQ.cell 0
 have q1 := hQ.cell 1
 have fq0 := hQ.frozen 0
 have fq1 := hQ.frozen 1
 simp only [Yl] at q0 q1
 go_simp
 refine Shut.out HK7.out _ _ ⟨(set1_cell (by omega) _ _).trans ((set1_cell (by omega) _ _).trans (((bcell hC2).1 _ _ (by omega)).trans p0)), (set1_cell (by omega) _ _).trans ((set1_cell (by omega) _ _).trans (((bcell hC2).1 _ _ (by omega)).trans p1))⟩ (fun hH => ?_)
 try simp only [Nm]
 clear HK7
 refine wpAnyH_done (by kernel_rfl) ?_ _
 have hS : AlSt w1 w.heap.size qb 0 (.slice none 0 0) [] V2 := ⟨hQ, NRow.nil_ _ _ _, hC2, hqg⟩
 have hS2 := hS.put (r' := regs) (Below.refl _ _) hr
 obtain ⟨W2, hW2⟩ : ∃ W : World, W = (V2.setCell ⟨qb, 0, none⟩ (.int .i64 regs)).setCell ⟨qb, 1, none⟩ (.slice Cv l.length cc) := ⟨_, rfl⟩
 rw [← hW2] at hS2 ⊢
 have HS2 := hide hS2
 have HP := hide hP
 have HO := hide hO
 have HB := hide hB
 have HTs := hide hTs
 have lp0 := hP.lt
 have lo0 := hO.lt
 have hbw := hB.size
 clear q0 q1 fq0 fq1 hH hS hS2 hQ hr hP hO hB hTs p0 p1 lp hW2 hC0 hC1 hC2
 go_wp2_with fail
 go_loopg [26] (ts.length) (fun gk i wr => ∃ (k : Nat) (r : Int) (v : Value) (ls : List Nd), k ≤ ts.length ∧ i = .int .i64 k ∧ gk = ts.length - k ∧ allGo (ts.drop k) r ls = allGo ts regs l ∧ AlSt w1 w.heap.size qb r v ls wr)
 case atStart => exact ⟨0, _, _, _, Nat.zero_le _, rfl, rfl, rfl, HS2.out⟩
 case round => (
 clear HS2
 obtain ⟨k, r, v, ls, hk, rfl, hgk, hgo, hS⟩ := hrel
 have Hgk := hide hgk
 have Hgo := hide hgo
 clear hgk hgo
 have hwz := hS.below.size
 have hlq := hS.box.lt
 have hlow := hS.low
 obtain ⟨Lv, lc, ev, hm1, hm2⟩ := hS.row.shape
 subst ev
 have hlm : ls.length ≤ maxLen := Nat.le_trans hm1 hm2
 by_cases hlt : k < ts.length
 · (
 obtain ⟨tb, tof, tm, rfl, htb, htk, c0, c1, c2⟩ := HTs.out.get hlt
 have Htk := hide htk
 have hlt1 := Nat.lt_of_lt_of_le htb hwz
 replace c0 := ((bcell hS.below).1 _ _ htb).trans c0
 replace c1 := ((bcell hS.below).1 _ _ htb).trans c1
 replace c2 := ((bcell hS.below).1 _ _ htb).trans c2
 have u0 : (0 : Int) ≤ (k : Int) := by omega
 have u1 : (k : Int) < (ts.length : Int) := by omega
 have q0 := hS.box.cell 0
 have q1 := hS.box.cell 1
 simp only [Yl] at q0 q1
 clear htk
 have HS := hide hS
 clear hS
 go_upto_region 8 with fail
 obtain ⟨W3, hW3⟩ : ∃ W : World, W = wr.alloc (.cells #[.int .i64 tm.op, .int .i64 tm.a, .int .i64 tm.b] 42) := ⟨_, rfl⟩
 have hb3 : Below wr.heap.size wr W3 := by rw [hW3]; exact (Below.refl _ _).alloc (Nat.le_refl _) _
 have hM : Blk W3 wr.heap.size 42 #[.int .i64 tm.op, .int .i64 tm.a, .int .i64 tm.b] := by rw [hW3]; exact Blk.new' rfl
 rw [← hW3]
 have hS3 := HS.out.later hb3
 clear hW3 HS q0 q1 c0 c1 c2
 have q0 := hS3.box.cell 0
 have q1 := hS3.box.cell 1
 have m0 := hM.cell 0
 have m1 := hM.cell 1
 have m2 := hM.cell 2
 simp only [Yl] at q0 q1 m0 m1 m2
 have lq := hS3.box.lt
 have lm := hM.lt
 have HOn := hide (One_any r Lv ls lc tm W3 hlm hS3.row.nodes)
 have HS3 := hide hS3
 clear hS3 hM
 go_wp2_with fail
 refine (HOn.out).mono ?_
 rintro e w4 ⟨hb4, h⟩
 have hstep := allGo_drop Htk.out r ls
 have hS4 := HS3.out.later hb4
 have hw3 := HS3.out.below.size
 clear q0 q1 m0 m1 m2 lq lm HOn
 have q0 := hS4.box.cell 0
 have q1 := hS4.box.cell 1
 have fq0 := hS4.box.frozen 0
 have fq1 := hS4.box.frozen 1
 simp only [Yl] at q0 q1
 have lq := hS4.box.lt
 have hO := HO.out.below hS4.below lo0
 have o0 := hO.cell 0
 have o1 := hO.cell 1
 have f0 := hO.frozen 0
 have f1 := hO.frozen 1
 simp only [Yl] at o0 o1
 have lO := hO.lt
 have HS4 := hide hS4
 clear hS4 hO
 rcases h with ⟨hne, rfl⟩ | ⟨h0, v', rfl, hr⟩
 · (
 rw [if_pos hne] at hstep
 have hne' : (oneE r ls tm != 0) = true := by simp [hne]
 have hE : allE regs l = oneE r ls tm := by rw [HE.out, ← Hts.out, ← Hgo.out, hstep]
 have Hne := hide hne
 have HE2 := hide hE
 have hB := HB.out.trans (HS4.out.below.mono hbw)
 have hB4 := hB.size
 clear hne hstep hE
 go_wp2_with fail
 go_tidy
 refine bodyPost_ret (v := .tuple #[.agg #[.int .i64 0, .slice none 0 0], .int .i64 (oneE r ls tm)]) (by simp [results, Try.results24, go_sem, o0, o1, f0, f1, World.cell?_setCell_same, World.cell?_setCell_other]; try rfl) rfl ?_
 exact ⟨(((hB.setCell (by simp <;> omega) _).setCell (by simp <;> omega) _).setCell (by simp <;> omega) _).setCell (by simp <;> omega) _, .inl ⟨by rw [HE2.out]; exact Hne.out, by rw [HE2.out]⟩⟩)
 · (
 rw [if_neg (by simp [h0])] at hstep
 replace hr := hr.mono (base' := w.heap.size) (by omega)
 obtain ⟨Rv, rc, ev, _, _⟩ := hr.shape
 subst ev
 have hS5 := HS3.out.put (r' := oneR r ls tm) hb4 hr
 obtain ⟨r2, hr2⟩ : ∃ z, z = oneR r ls tm := ⟨_, rfl⟩
 obtain ⟨l2, hl2⟩ : ∃ z, z = oneL r ls tm := ⟨_, rfl⟩
 rw [← hr2, ← hl2] at hstep hS5
 rw [← hl2] at hr
 rw [← hr2, ← hl2]
 rw [Hgo.out] at hstep
 have HS5 := hide hS5
 have Hst := hide hstep
 clear hstep hS5 hr2 hl2 hr h0 o0 o1 f0 f1 lO hb4
 go_wp2_with fail
 go_roundg (ts.length - (k + 1))
 case measure => have := Hgk.out; omega
 case rel => exact ⟨k + 1, _, _, _, by omega, by go_num, rfl, Hst.out.symm, HS5.out⟩))
 · (
 have hkk : k = ts.length := by omega
 subst hkk
 have hg := Hgo.out
 rw [List.drop_length] at hg
 have hgo : allGo (allT l) regs l = (0, r, ls) := by rw [← Hts.out, ← hg]; rfl
 have hE : allE regs l = 0 := by rw [HE.out, hgo]
 have HE2 := hide hE
 have Hgo2 := hide hgo
 have hO := HO.out.below hS.below lo0
 have q0 := hS.box.cell 0
 have q1 := hS.box.cell 1
 simp only [Yl] at q0 q1
 have hnO := hS.row.ne_blk hO (by decide)
 have Q := hide ((hS.row.far (p := ⟨w.heap.size + 1, 0, none⟩) hnO (.int .i64 r)).far (p := ⟨w.heap.size + 1, 1, none⟩) hnO (.slice Lv ls.length lc))
 have hB := HB.out.trans (hS.below.mono hbw)
 have o0 := hO.cell 0
 have o1 := hO.cell 1
 have f0 := hO.frozen 0
 have f1 := hO.frozen 1
 simp only [Yl] at o0 o1
 have lO := hO.lt
 have HBf := hide hB
 clear hg hgo hE hS hnO hB hO
 go_wp2_with fail
 go_tidy
 refine bodyPost_ret (v := .tuple #[.agg #[.int .i64 r, .slice Lv ls.length lc], .int .i64 0]) (by simp [results, Try.results24, go_sem, q0, q1, o0, o1, f0, f1, World.cell?_setCell_same, World.cell?_setCell_other]; try rfl) rfl ?_
 exact ⟨(HBf.out.setCell (by simp <;> omega) _).setCell (by simp <;> omega) _, .inr ⟨HE2.out, _, by rw [Hgo2.out], by rw [Hgo2.out]; exact Q.out⟩⟩)))))
end
section
open Go.RowKit
def PgPost (tN : TypeId) (er r : Int) (ls : List Nd) (w : World) (e : Ending) (w' : World) : Prop :=
  Below w.heap.size w w' ∧ ∃ v, e = .returned (.tuple #[.agg #[.int .i64 r, v], .int .i64 er]) ∧ NRow w' w.heap.size tN v ls
def maR (regs : Int) (l : List Nd) (t : Tm) (pt tk : List Bool) : Int := if maE regs l t pt tk = 0 then regs + 1 else 0
def maL (regs : Int) (l : List Nd) (t : Tm) (pt tk : List Bool) : List Nd := if maE regs l t pt tk = 0 then applyL regs t pt tk l else []
theorem MaPost.pg {tN : TypeId} {regs : Int} {l : List Nd} {t : Tm} {pt tk : List Bool} {w w' : World} {e : Ending} (h : MaPost tN regs l t pt tk w e w') : PgPost tN (maE regs l t pt tk) (maR regs l t pt tk) (maL regs l t pt tk) w e w' := by
  obtain ⟨hb, ⟨h0, rfl⟩ | ⟨h0, v, rfl, hr⟩⟩ := h
  · unfold maR maL; rw [if_neg h0, if_neg h0]; exact ⟨hb, _, rfl, NRow.nil_ _ _ _⟩
  · unfold maR maL; rw [if_pos h0, if_pos h0, h0]; exact ⟨hb, v, rfl, hr⟩
def onR (regs : Int) (l : List Nd) (t : Tm) : Int := if oneE regs l t = 0 then oneR regs l t else 0
def onL (regs : Int) (l : List Nd) (t : Tm) : List Nd := if oneE regs l t = 0 then oneL regs l t else []
theorem OnePost.pg {tN : TypeId} {regs : Int} {l : List Nd} {t : Tm} {w w' : World} {e : Ending} (h : OnePost tN regs l t w e w') : PgPost tN (oneE regs l t) (onR regs l t) (onL regs l t) w e w' := by
  obtain ⟨hb, ⟨h0, rfl⟩ | ⟨h0, v, rfl, hr⟩⟩ := h
  · unfold onR onL; rw [if_neg h0, if_neg h0]; exact ⟨hb, _, rfl, NRow.nil_ _ _ _⟩
  · unfold onR onL; rw [if_pos h0, if_pos h0, h0]; exact ⟨hb, v, rfl, hr⟩
def alR (regs : Int) (l : List Nd) : Int := if allE regs l = 0 then (allGo (allT l) regs l).2.1 else 0
def alL (regs : Int) (l : List Nd) : List Nd := if allE regs l = 0 then (allGo (allT l) regs l).2.2 else []
theorem AllPost.pg {tN : TypeId} {regs : Int} {l : List Nd} {w w' : World} {e : Ending} (h : AllPost tN regs l w e w') : PgPost tN (allE regs l) (alR regs l) (alL regs l) w e w' := by
  obtain ⟨hb, ⟨h0, rfl⟩ | ⟨h0, v, rfl, hr⟩⟩ := h
  · unfold alR alL; rw [if_neg h0, if_neg h0]; exact ⟨hb, _, rfl, NRow.nil_ _ _ _⟩
  · unfold alR alL; rw [if_pos h0, if_pos h0, h0]; exact ⟨hb, v, rfl, hr⟩
theorem maE_len {regs : Int} {l : List Nd} {t : Tm} {pt tk : List Bool} (h : maE regs l t pt tk = 0) : fxE regs l t = 0 ∧ pt.length = l.length ∧ tk.length = l.length := by
  unfold maE at h
  by_cases h0 : fxE regs l t = 0
  · rw [if_neg (by simp [h0])] at h
    by_cases h1 : pt.length ≠ l.length ∨ tk.length ≠ l.length
    · rw [if_pos h1] at h; cases h
    · exact ⟨h0, by omega, by omega⟩
  · rw [if_pos h0] at h; exact absurd h h0
end
section
open Go.RowKit
structure DoesOk (regs : Int) (l : List Nd) (r : Int) (m : List Nd) (inp : List Int) (n : Nat) : Prop where
  chkl : chk regs l = 0
  chkm : chk r m = 0
  len : m.length ≤ 256
  does : Does (runR regs l inp n).told (runR r m inp n).told (runR r m inp (n * (m.length + 1) + m.length)).told
theorem DoesOk.of {regs : Int} {l : List Nd} {r : Int} {m : List Nd} {inp : List Int} (hR : Right regs l) (hM : Right r m) (h : Doing regs l r m inp) (n : Nat) : DoesOk regs l r m inp n := ⟨hR.chk, hM.chk, hM.hi, h.does n⟩
theorem on_does {regs : Int} {l : List Nd} {t : Tm} (inp : List Int) (n : Nat) (h : oneE regs l t = 0) : DoesOk regs l (onR regs l t) (onL regs l t) inp n := by
  unfold onR onL
  rw [if_pos h, if_pos h]
  exact DoesOk.of (right_of_chk (fxE_chk (oneE_parts h).1)) (One.right h) (One.doing h) n
theorem All.right : ∀ (ts : List Tm) {r : Int} {l : List Nd}, Right r l → (allGo ts r l).1 = 0 → Right (allGo ts r l).2.1 (allGo ts r l).2.2
  | [], r, l, hR, h => hR
  | t :: ts, r, l, hR, h => by
    unfold allGo at h ⊢
    by_cases h0 : oneE r l t = 0
    · rw [if_neg (by simp [h0])] at h ⊢
      exact All.right ts (One.right h0) h
    · rw [if_pos h0] at h
      exact absurd h h0
theorem al_does {regs : Int} {l : List Nd} (inp : List Int) (n : Nat) (h : allE regs l = 0) : DoesOk regs l (alR regs l) (alL regs l) inp n := by
  unfold alR alL
  rw [if_pos h, if_pos h]
  unfold allE at h
  by_cases hc : chk regs l = 0
  · rw [if_neg (by simp [hc])] at h
    have hR := right_of_chk hc
    exact DoesOk.of hR (All.right _ hR h) (All.doing _ hR h) n
  · rw [if_pos hc] at h
    exact absurd h hc
theorem ma_does {regs : Int} {l : List Nd} {t : Tm} {pt tk : List Bool} (inp : List Int) (n : Nat) (hH : fxE regs l t = 0 → ∃ th, Held t l pt tk th) (h : maE regs l t pt tk = 0) : DoesOk regs l (maR regs l t pt tk) (maL regs l t pt tk) inp n := by
  unfold maR maL
  rw [if_pos h, if_pos h]
  have h0 := (maE_parts h).1
  have hR := right_of_chk (fxE_chk h0)
  obtain ⟨th, h1⟩ := hH h0
  exact DoesOk.of hR (apply_right hR h) (Doing.apply hR (fxE_tm h0) h1) n
def HpPost (tB : TypeId) (t : Tm) (l : List Nd) (er : Int) (w : World) (e : Ending) (w' : World) : Prop :=
  Below w.heap.size w w' ∧ ∃ v1 v2 pt tk, (er = 0 → ∃ th, Held t l pt tk th) ∧ e = .returned (.tuple #[.agg #[v1, v2], .int .i64 er]) ∧ Row w' w.heap.size tB v1 (bools pt) ∧ Row w' w.heap.size tB v2 (bools tk)
theorem busy_pl {tB : TypeId} {regs : Int} {l : List Nd} {t : Tm} {w w' : World} {e : Ending} (h : MvPost tB regs l t (busyX l) (fun _ => busyY t l) w e w') : HpPost tB t l (fxE regs l t) w e w' := by
  obtain ⟨hb, ⟨h0, rfl⟩ | ⟨h0, F, v1, v2, hF, rfl, r1, r2, _⟩⟩ := h
  · exact ⟨hb, _, _, [], [], fun x => absurd x h0, rfl, Row.nil_ _ _ _, Row.nil_ _ _ _⟩
  · rw [h0]
    exact ⟨hb, v1, v2, _, _, fun _ => ⟨_, busy_held hF (right_of_chk (fxE_chk h0)) (fxE_op h0)⟩, rfl, r1, r2⟩
def rvE (regs : Int) (l : List Nd) (t : Tm) (x : List Bool) : Int := if fxE regs l t ≠ 0 then fxE regs l t else if x.length ≠ l.length then 1 else 0
theorem rival_pl {tB : TypeId} {regs : Int} {l : List Nd} {t : Tm} {x : List Bool} {w w' : World} {e : Ending} (h : RvPost tB regs l t x w e w') : HpPost tB t l (rvE regs l t x) w e w' := by
  unfold rvE
  obtain ⟨hb, ⟨h0, rfl⟩ | ⟨h0, h1, rfl⟩ | ⟨h0, h1, F, th, v1, v2, hF, hG, rfl, r1, r2, _⟩⟩ := h
  · rw [if_pos h0]
    exact ⟨hb, _, _, [], [], fun x => absurd x h0, rfl, Row.nil_ _ _ _, Row.nil_ _ _ _⟩
  · rw [if_neg (by simp [h0]), if_pos h1]
    exact ⟨hb, _, _, [], [], fun x => absurd x (by omega), rfl, Row.nil_ _ _ _, Row.nil_ _ _ _⟩
  · rw [if_neg (by simp [h0]), if_neg (by simp [h1])]
    exact ⟨hb, v1, v2, _, _, fun _ => ⟨_, rival_held (right_of_chk (fxE_chk h0)) (fxE_op h0) hG⟩, rfl, r1, r2⟩
theorem rvE_zero {regs : Int} {l : List Nd} {t : Tm} {x : List Bool} (h : rvE regs l t x = 0) : fxE regs l t = 0 := by
  unfold rvE at h
  by_cases h0 : fxE regs l t = 0
  · exact h0
  · rw [if_pos h0] at h
    exact absurd h h0
end
section
open Go.RowKit
theorem OnePost.ok {tN : TypeId} {regs : Int} {l : List Nd} {t : Tm} {w w' : World} {e : Ending} (h : OnePost tN regs l t w e w') (h0 : oneE regs l t = 0) : PgPost tN 0 (oneR regs l t) (oneL regs l t) w e w' := by
  obtain ⟨hb, ⟨h1, _⟩ | ⟨_, v, rfl, hr⟩⟩ := h
  · exact absurd h0 h1
  · exact ⟨hb, v, rfl, hr⟩
theorem TrimPost.ok {tN : TypeId} {regs : Int} {l : List Nd} {w w' : World} {e : Ending} (h : TrimPost tN regs l w e w') (h0 : chk regs l = 0) : PgPost tN 0 regs (trimL l) w e w' := by
  obtain ⟨hb, ⟨h1, _⟩ | ⟨_, v, rfl, hr⟩⟩ := h
  · exact absurd h0 h1
  · exact ⟨hb, v, rfl, hr⟩
theorem SplitGPost.ok {tN : TypeId} {regs : Int} {l : List Nd} {w w' : World} {e : Ending} (h : SplitGPost tN regs l w e w') (h0 : chk regs l = 0) (h256 : (splitL l).length ≤ 256) : PgPost tN 0 regs (splitL l) w e w' := by
  obtain ⟨hb, ⟨h1, _⟩ | ⟨_, h1, _⟩ | ⟨_, _, v, rfl, hr⟩⟩ := h
  · exact absurd h0 h1
  · omega
  · exact ⟨hb, v, rfl, hr⟩
theorem MaPost.ok {tN : TypeId} {regs : Int} {l : List Nd} {t : Tm} {pt tk : List Bool} {w w' : World} {e : Ending} (h : MaPost tN regs l t pt tk w e w') (h0 : maE regs l t pt tk = 0) : PgPost tN 0 (regs + 1) (applyL regs t pt tk l) w e w' := by
  obtain ⟨hb, ⟨h1, _⟩ | ⟨_, v, rfl, hr⟩⟩ := h
  · exact absurd h0 h1
  · exact ⟨hb, v, rfl, hr⟩
end
section
open Go.RowKit
section
variable {regs : Int} {t : Tm} {l : List Nd} {inp : List Int}
theorem run_cost (hR : Right regs l) (ht : hasB t.op = true) : ∀ (k : Nat) (s : Rn), s.pos < l.length → (goR l inp k s).ts.count t = s.ts.count t + sumR l inp (costR t l) k s
  | 0, s, _ => by simp [goR, sumR]
  | k + 1, s, hp => by
    by_cases he : s.ended = true
    · rw [goR_ended he, sumR_ended he]; omega
    · have he : s.ended = false := by simpa using he
      have h1 : (stepR l inp s).ts.count t = s.ts.count t + costR t l s.pos := by
        rw [sr_ts]
        unfold costR
        have htm : (hasB (nd l s.pos).op = true ∧ (nd l s.pos).tm = t) ↔ recB t (nd l s.pos) = true := by
          unfold recB Nd.tm
          simp only [Bool.and_eq_true, beq_iff_eq]
          constructor
          · rintro ⟨_, e⟩
            exact ⟨⟨congrArg Tm.op e, congrArg Tm.a e⟩, congrArg Tm.b e⟩
          · rintro ⟨⟨e1, e2⟩, e3⟩
            exact ⟨by rw [e1]; exact ht, by rw [e1, e2, e3]⟩
        by_cases hB : hasB (nd l s.pos).op = true
        · rw [if_pos hB, List.count_append, List.count_singleton]
          by_cases e : (nd l s.pos).tm = t
          · rw [if_pos (by simpa using e), yes1 (htm.1 ⟨hB, e⟩)]
          · rw [if_neg (by simpa using e), yes0 (fun x => e (htm.2 x).2)]
        · rw [if_neg hB, yes0 (fun x => hB (htm.2 x).1)]; rfl
      rw [goR_step he, sumR_step he]
      by_cases h2 : (stepR l inp s).ended = true
      · rw [goR_ended h2, sumR_ended h2, h1]; omega
      · have h2 : (stepR l inp s).ended = false := by simpa using h2
        rw [run_cost hR ht k _ (sr_edge hR hp h2).2.1, h1]; omega
theorem fx_lazyX {F : Fx} {n : Nat} (hn : n < l.length) : yn (lazyX l F) n = (yn F.late n && !yn F.alone n) := by unfold lazyX; rw [yn_mk hn]
theorem fx_lazyY {F : Fx} {n : Nat} (hR : Right regs l) (ht : 3 ≤ t.op ∧ t.op ≤ 8) (hn : n < l.length) : yn (lazyY t l F) n = (recB t (nd l n) && (!yn F.late n || !yn F.alone n)) := by unfold lazyY; rw [yn_mk hn, rkb hR ht hn]
theorem lazy_cost (F : Fx) (h : IsFx t l F) (hR : Right regs l) (hl : Lone l) (ht : 3 ≤ t.op ∧ t.op ≤ 8) (k : Nat) (he : (goR l inp k (startR regs)).ended = true) :
    sumR l inp (costP t l (lazyX l F) (lazyY t l F)) k (startR regs) = sumR l inp (costE F) k (startR regs) := by
  have h1 := late_le_lazy h hR hl ht (pt := lazyX l F) (tk := lazyY t l F) (fun n hn => fx_lazyX hn) (fun n hn => fx_lazyY hR ht hn) k he
  have h2 := lazy_le_late (F := F) (t := t) (inp := inp) hR (pt := lazyX l F) (tk := lazyY t l F) (fun n hn => fx_lazyX hn) (fun n hn => fx_lazyY hR ht hn) k
  have h3 := early_le_late h hR hl ht k he
  have h4 := late_le_early (inp := inp) h hR hl k
  omega
theorem busy_cost (F : Fx) (hR : Right regs l) (ht : 3 ≤ t.op ∧ t.op ≤ 8) (k : Nat) :
    sumR l inp (costP t l (busyX l F) (busyY t l)) k (startR regs) = sumR l inp (costE F) k (startR regs) := by
  have hlo := hR.lo
  have key : ∀ n, n < l.length → costP t l (busyX l F) (busyY t l) n = costE F n := fun n hn => by
    unfold costP costE busyX busyY
    rw [yn_mk hn, yn_mk hn, rkb hR ht hn]
    cases recB t (nd l n) <;> simp
  have h1 := sum_mono (inp := inp) hR (fun n hn => Nat.le_of_eq (key n hn)) k (startR regs) (by show 0 < l.length; omega)
  have h2 := sum_mono (inp := inp) hR (fun n hn => Nat.le_of_eq (key n hn).symm) k (startR regs) (by show 0 < l.length; omega)
  omega
theorem rival_cost (F : Fx) (h : IsFx t l F) (hR : Right regs l) (hl : Lone l) (ht : 3 ≤ t.op ∧ t.op ≤ 8) {x th : List Bool} (hth : Great (rivS t l (rivG l F x)) l.length th) (k : Nat) (he : (goR l inp k (startR regs)).ended = true) :
    sumR l inp (costE F) k (startR regs) ≤ sumR l inp (costP t l (rivG l F x) (rivY t l th)) k (startR regs) := by
  refine early_le_rival h hR hl ht (th := th) (fun n hn e => ?_) (fun n hn => rival_le hth hn) (fun n hn e => ?_) k he
  · unfold rivG at e
    rw [yn_mk hn, Bool.and_eq_true] at e
    exact e.2
  · unfold rivY at e
    rw [yn_mk hn, Bool.and_eq_true] at e
    exact e.2
theorem apply_ended {pt tk th : List Bool} (hR : Right regs l) (hT : TmOk regs t) (hH : Held t l pt tk th) (k : Nat) (he : (runR regs l inp k).ended = true) :
    ∃ j, j ≤ 2 * k ∧ (runR (regs + 1) (applyL regs t pt tk l) inp j).ended = true ∧ (runR (regs + 1) (applyL regs t pt tk l) inp j).ts.count t = sumR l inp (costP t l pt tk) k (startR regs) ∧ ∀ v, v ≠ t → (runR regs l inp k).ts.count v = (runR (regs + 1) (applyL regs t pt tk l) inp j).ts.count v := by
  obtain ⟨j, _, h2, h3, h4⟩ := (Mvd.start hR hH).go hR hT hH (inp := inp) k (fun _ => rfl)
  refine ⟨j, h2, ?_, ?_, h3.ts⟩
  · unfold runR; rw [← h3.ended]; exact he
  · unfold runR; rw [h4]; simp [startR]
theorem any_none (h : oneAny t l = false) : (∀ n, yn (oneX t l) n = false) ∧ ∀ n, yn (oneY t l) n = false := by
  unfold oneAny at h
  have hno : ∀ (x : List Bool), (∀ b ∈ x, b = false) → ∀ n, yn x n = false := fun x hx n => by
    unfold yn
    rw [List.getD_eq_getElem?_getD]
    cases e : x[n]? with
    | none => rfl
    | some b => exact hx b (List.mem_of_getElem? e)
  rw [List.any_eq_false] at h
  exact ⟨hno _ fun b hb => by simpa using h b (List.mem_append.2 (.inl hb)), hno _ fun b hb => by simpa using h b (List.mem_append.2 (.inr hb))⟩
theorem one_ended (h : oneE regs l t = 0) {n N : Nat} (ha : (runR regs l inp n).ended = true) (hb : (runR (oneR regs l t) (oneL regs l t) inp N).ended = true) :
    ∃ k, k ≤ 2 * n ∧ (goR (oneQ l) inp k (startR regs)).ended = true ∧ (runR regs l inp n).ts.count t = sumR (oneQ l) inp (costR t (oneQ l)) k (startR regs) ∧
      (runR (oneR regs l t) (oneL regs l t) inp N).ts.count t = sumR (oneQ l) inp (costE (fxOf t (oneQ l))) k (startR regs) ∧ ∀ v, v ≠ t → (runR regs l inp n).ts.count v = (runR (oneR regs l t) (oneL regs l t) inp N).ts.count v := by
  obtain ⟨h0, h1, h2⟩ := oneE_parts h
  have hR := right_of_chk (fxE_chk h0)
  have hQ := oneQ_right (fxE_chk h0) h1
  have hT := fxE_tm h0
  have hl : Lone (oneQ l) := lone_split hR.trim
  have hF := fxOf_is t (oneQ l)
  obtain ⟨k, _, h4, h5⟩ := oneQ_run (inp := inp) hR n
  have hk : (runR regs (oneQ l) inp k).ended = true := by rw [← h5.ended]; exact ha
  have hk' : (goR (oneQ l) inp k (startR regs)).ended = true := hk
  have hlo := hQ.lo
  have hc : (runR regs l inp n).ts.count t = sumR (oneQ l) inp (costR t (oneQ l)) k (startR regs) := by
    rw [h5.ts]
    unfold runR
    rw [run_cost hQ hT.hasB k _ (by show 0 < (oneQ l).length; omega)]
    simp [startR]
  have hz := lazy_cost (inp := inp) (fxOf t (oneQ l)) hF hQ hl hT.op k hk'
  refine ⟨k, h4, hk', hc, ?_⟩
  by_cases hA : oneAny t l = true
  · have e1 : oneR regs l t = regs + 1 := if_pos hA
    have e2 : oneL regs l t = applyL regs t (oneX t l) (oneY t l) (oneQ l) := if_pos hA
    rw [e1, e2] at hb ⊢
    obtain ⟨j, _, j2, j3, j4⟩ := apply_ended hQ hT (lazy_held hF hQ hT.op) k hk
    rw [run_once hb j2]
    exact ⟨j3.trans hz, fun v hv => by rw [h5.ts]; exact j4 v hv⟩
  · have e1 : oneR regs l t = regs := if_neg hA
    have e2 : oneL regs l t = l := if_neg hA
    rw [e1, e2] at hb ⊢
    rw [run_once hb ha]
    obtain ⟨x1, x2⟩ := any_none (yno hA)
    refine ⟨?_, fun v _ => rfl⟩
    rw [hc, ← hz]
    have key : ∀ n, n < (oneQ l).length → costR t (oneQ l) n = costP t (oneQ l) (lazyX (oneQ l) (fxOf t (oneQ l))) (lazyY t (oneQ l) (fxOf t (oneQ l))) n := fun n hn => by
      unfold costR costP
      rw [show yn (lazyX (oneQ l) (fxOf t (oneQ l))) n = false from x1 n, show yn (lazyY t (oneQ l) (fxOf t (oneQ l))) n = false from x2 n]
      simp
    have y1 := sum_mono (inp := inp) hQ (fun n hn => Nat.le_of_eq (key n hn)) k (startR regs) (by show 0 < (oneQ l).length; omega)
    have y2 := sum_mono (inp := inp) hQ (fun n hn => Nat.le_of_eq (key n hn).symm) k (startR regs) (by show 0 < (oneQ l).length; omega)
    omega
theorem one_saves (h : oneE regs l t = 0) (n : Nat) (ha : (runR regs l inp n).ended = true) :
    (runR (oneR regs l t) (oneL regs l t) inp (n * ((oneL regs l t).length + 1))).ended = true ∧ (runR (oneR regs l t) (oneL regs l t) inp (n * ((oneL regs l t).length + 1))).ts.count t ≤ (runR regs l inp n).ts.count t ∧
    ∀ v, v ≠ t → (runR regs l inp n).ts.count v = (runR (oneR regs l t) (oneL regs l t) inp (n * ((oneL regs l t).length + 1))).ts.count v := by
  have hb := (One.doing (inp := inp) h).ends n ha
  obtain ⟨k, _, h1, h2, h3, h4⟩ := one_ended h ha hb
  obtain ⟨h0, h5, _⟩ := oneE_parts h
  have hR := right_of_chk (fxE_chk h0)
  have h6 := early_le_rec (inp := inp) (fxOf_is t (oneQ l)) (oneQ_right (fxE_chk h0) h5) (lone_split hR.trim) (fxE_op h0) k h1
  exact ⟨hb, by omega, h4⟩
theorem one_busy {p : List Nd} (hp : trimL p = p) (h : oneE regs p t = 0) {n : Nat} (hn : n ≤ 32768) (ha : (runR (oneR regs p t) (oneL regs p t) inp n).ended = true) (F : Fx) (hF : IsFx t (splitL p) F) :
    (runR (regs + 1) (applyL regs t (busyX (splitL p) F) (busyY t (splitL p)) (splitL p)) inp 131072).ended = true ∧
    (runR (regs + 1) (applyL regs t (busyX (splitL p) F) (busyY t (splitL p)) (splitL p)) inp 131072).ts.count t = (runR (oneR regs p t) (oneL regs p t) inp n).ts.count t := by
  have hd := (One.doing (inp := inp) h).ended n ha
  obtain ⟨k, h7, h1, h2, h3, h4⟩ := one_ended h hd ha
  have hq : oneQ p = splitL p := by unfold oneQ; rw [hp]
  rw [hq] at h1 h3
  obtain ⟨h0, h5, _⟩ := oneE_parts h
  rw [hq] at h5
  have hR := right_of_chk (fxE_chk h0)
  have hQ : Right regs (splitL p) := hR.split h5
  have hT := fxE_tm h0
  obtain ⟨j, j1, j2, j3, _⟩ := apply_ended hQ hT (busy_held hF hQ hT.op) k h1
  have e : runR (regs + 1) (applyL regs t (busyX (splitL p) F) (busyY t (splitL p)) (splitL p)) inp 131072 = runR (regs + 1) (applyL regs t (busyX (splitL p) F) (busyY t (splitL p)) (splitL p)) inp j := by
    unfold runR at *
    rw [show 131072 = j + (131072 - j) by omega, goR_add, goR_ended j2]
  rw [e]
  refine ⟨j2, ?_⟩
  rw [j3, busy_cost F hQ hT.op k, h3, hF.unique (fxOf_is t (splitL p))]
theorem one_rival {p : List Nd} (hp : trimL p = p) (h : oneE regs p t = 0) {n : Nat} (hn : n ≤ 32768) (ha : (runR (oneR regs p t) (oneL regs p t) inp n).ended = true) (F : Fx) (hF : IsFx t (splitL p) F) {x th : List Bool} (hth : Great (rivS t (splitL p) (rivG (splitL p) F x)) (splitL p).length th) :
    (runR (regs + 1) (applyL regs t (rivG (splitL p) F x) (rivY t (splitL p) th) (splitL p)) inp 131072).ended = true ∧
    (runR (oneR regs p t) (oneL regs p t) inp n).ts.count t ≤ (runR (regs + 1) (applyL regs t (rivG (splitL p) F x) (rivY t (splitL p) th) (splitL p)) inp 131072).ts.count t := by
  have hd := (One.doing (inp := inp) h).ended n ha
  obtain ⟨k, h7, h1, h2, h3, h4⟩ := one_ended h hd ha
  have hq : oneQ p = splitL p := by unfold oneQ; rw [hp]
  rw [hq] at h1 h3
  obtain ⟨h0, h5, _⟩ := oneE_parts h
  rw [hq] at h5
  have hR := right_of_chk (fxE_chk h0)
  have hQ : Right regs (splitL p) := hR.split h5
  have hT := fxE_tm h0
  obtain ⟨j, j1, j2, j3, _⟩ := apply_ended hQ hT (rival_held hQ hT.op hth) k h1
  have e : runR (regs + 1) (applyL regs t (rivG (splitL p) F x) (rivY t (splitL p) th) (splitL p)) inp 131072 = runR (regs + 1) (applyL regs t (rivG (splitL p) F x) (rivY t (splitL p) th) (splitL p)) inp j := by
    unfold runR at *
    rw [show 131072 = j + (131072 - j) by omega, goR_add, goR_ended j2]
  rw [e]
  refine ⟨j2, ?_⟩
  have h8 := rival_cost (inp := inp) F hF hQ (lone_split hR) hT.op hth k h1
  have hu := hF.unique (fxOf_is t (splitL p))
  rw [j3, h3, ← hu]
  exact h8
end
end
end Go.Proofs.Ytmghkonmfbpjcab
