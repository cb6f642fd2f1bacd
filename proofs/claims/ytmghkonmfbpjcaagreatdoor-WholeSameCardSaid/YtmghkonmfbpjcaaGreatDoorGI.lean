/- PgV Ma WpB WpD Ms7 WpE RunK RunC. -/
import Derived.Test.YtmghkonmfbpjcaaGreatDoorGH
import Derived.Test.YtmghkonmfbpjcaaGreatDoorGA
import Derived.Test.YtmghkonmfbpjcaaGreatDoorGG
import Derived.Test.YtmghkonmfbpjcaaGreatDoorMvW
import Derived.Test.YtmghkonmfbpjcaaGreatDoorGB
import Derived.Test.YtmghkonmfbpjcaaGreatDoorGD
import Derived.Test.YtmghkonmfbpjcaaGreatDoorSplitG
import Derived.Test.YtmghkonmfbpjcaaGreatDoorTrimG
import Derived.Deep.DeepCutAuto
import Derived.Deep.RegionWith
import Derived.RegionTactic
import Derived.Test.YtmghkonmfbpjcaaGreatDoorGC
set_option linter.unusedVariables false
set_option linter.unusedSimpArgs false
namespace Go.Proofs.YtmghkonmfbpjcaaGreatDoor
section
open Go.RowKit
open Go.Maps
set_option maxHeartbeats 4000000
attribute [local irreducible] Row TRow madeCells TSeen
theorem wf_small {z : Int} (h0 : -1000 ≤ z) (h1 : z ≤ 1000) : (Lit.int .i64 z).wf = true := by (
 unfold Lit.wf
 rw [Bool.and_eq_true]
 exact ⟨decide_eq_true (by show (-9223372036854775808 : Int) ≤ _; omega), decide_eq_true (by show _ ≤ (9223372036854775807 : Int); omega)⟩)
theorem Right.key {regs : Int} {l : List Nd} (h : Right regs l) {n : Nd} (hn : n ∈ l) (hB : hasB n.op = true) : ∃ k, keyOf Tryz.prog 41 n.tm.val = some k := by (
 have h1 := h.rng n hn
 have h2 := h.rhi
 have hA : hasA n.op = true := by (
 simp only [hasB, hasA, inB, Bool.and_eq_true, Bool.or_eq_true, decide_eq_true_eq] at *
 omega)
 unfold badR okR at h1
 simp only [hB, hA, Bool.or_eq_false_iff, Bool.not_eq_false', Bool.not_true, Bool.false_or, Bool.and_eq_true, decide_eq_true_eq] at h1
 obtain ⟨⟨⟨⟨_, ha⟩, hb⟩, _⟩, _⟩ := h1
 simp only [hasB, inB, Bool.and_eq_true, decide_eq_true_eq] at hB
 exact keyTerm n.tm (wf_small (by show _ ≤ n.op; omega) (by show n.op ≤ _; omega)) (wf_small (by show _ ≤ n.a; omega) (by show n.a ≤ _; omega)) (wf_small (by show _ ≤ n.b; omega) (by show n.b ≤ _; omega)))
def TmPost (tT : TypeId) (regs : Int) (l : List Nd) (w : World) (e : Ending) (w' : World) : Prop :=
 Below w.heap.size w w' ∧ ∃ v, e = .returned (.tuple #[v, .int .i64 (chk regs l)]) ∧ TRow w' w.heap.size tT v (if chk regs l = 0 then tmsOf l l.length else [])
set_option maxRecDepth 100000 in
theorem Terms_any (regs : Int) (A : Option Addr) (l : List Nd) (cap : Nat) (w : World) (hl : l.length ≤ maxLen) (hA : NodesAt w A l) :
 Calls Tryz.prog 104 #[.agg #[.int .i64 regs, .slice A l.length cap]] w (TmPost 41 regs l w) := by (
 have hC := fun W (hW : Below w.heap.size w W) => Check_any regs A l cap W hl (hA.below hW)
 unfold maxLen at hl
 by_cases h0 : chk regs l = 0
 · (
 have hR := right_of_chk h0
 unfold TmPost
 rw [if_pos h0]
 rw [h0] at hC ⊢
 have HC := hide hC
 have HR := hide hR
 have hhi := hR.hi
 obtain ⟨ii, hii, hiz, his, hib⟩ := info_parts infoTerm
 have hmm := @run_makeMap Tryz.prog
 clear hC h0 hR
 go_enter Tryz.func104, Tryz.ntmps104
 go_wp2_with fail
 refine (HC.out _ (by (with_reducible repeat first | apply Qa | assumption | apply Qb | apply Qc | apply Qd | apply Qe | refine Qf ?_ (by assumption) ?_); all_goals (try simp only [Sz]); first | done | omega | (try simp only [Sz] at *); omega)).mono ?_
 rintro e w1 ⟨rfl, hb1⟩
 have hP : Blk w1 w.heap.size 24 #[.int .i64 regs, .slice A l.length cap] := Blk.below (Blk.new' rfl) hb1 (by simp)
 have hB : Below w.heap.size w w1 := (by (with_reducible repeat first | apply Qa | assumption | apply Qb | apply Qc | apply Qd | apply Qe | refine Qf ?_ (by assumption) ?_); all_goals (try simp only [Sz]); first | done | omega | (try simp only [Sz] at *); omega)
 have p0 := hP.cell 0
 have p1 := hP.cell 1
 have lp := hP.lt
 simp only [Yl] at p0 p1
 obtain ⟨g, hg⟩ : ∃ g, g = w1.heap.size := ⟨_, rfl⟩
 have hSn : TSeen (w1.alloc (.map #[] 0)) g 0 [] := by rw [hg]; exact TSeen.start
 have hBn : Below w.heap.size w (w1.alloc (.map #[] 0)) := hB.alloc hB.size _
 have Hg := hide hg
 have HSn := hide hSn
 have hgw : w.heap.size ≤ g := by rw [hg]; exact hB.size
 clear hb1 hg hSn
 go_wp2_with fail
 clear hmm
 rw [← Hg.out]
 go_loopg [5, 21] (l.length) (fun gk v i wr => ∃ m : Nat, m ≤ l.length ∧ i = .int .i64 m ∧ gk = l.length - m ∧ TRow wr w.heap.size 41 v (tmsOf l m) ∧ TSeen wr g m (tmsOf l m) ∧ Below w.heap.size w wr)
 case atStart => exact ⟨0, Nat.zero_le _, rfl, rfl, TRow.nil_ _ _ _, HSn.out, hBn⟩
 case round => (
 obtain ⟨m, hm, rfl, hgk, hrow, hsn, hbr⟩ := hrel
 have Hgk := hide hgk
 clear hgk p0 p1 lp hP hB hBn
 by_cases hlt : m < l.length
 · (
 obtain ⟨nb, no, x, rfl, hnb, hx, hxl⟩ := hA.get hlt
 obtain ⟨c0, c1, c2, c3, c4, c5⟩ := hxl.below hbr hnb
 have u0 : (0 : Int) ≤ (m : Int) := by omega
 have u1 : (m : Int) < (l.length : Int) := by omega
 have hlb := Nat.lt_of_lt_of_le hnb hbr.size
 have hzr := hbr.size
 obtain ⟨A5, c5', rfl, _, _⟩ := hrow.shape
 have hlen := tmsOf_len l m
 obtain ⟨ts, hts⟩ : ∃ ts, ts = tmsOf l m := ⟨_, rfl⟩
 rw [← hts] at hrow hsn hlen ⊢
 have Hts := hide hts
 have Hx := hide hx
 have Hrow := hide hrow
 have Hsn := hide hsn
 clear hxl hx hrow hsn hts
 go_wp2_with fail
 have hT : Blk ((wr.alloc (.cells #[.int .i64 x.op, .int .i64 x.d, .int .i64 x.a, .int .i64 x.b, .int .i64 x.t, .int .i64 x.e] 44)).alloc (.cells #[.int .i64 x.op, .int .i64 x.a, .int .i64 x.b] 41)) (wr.heap.size + 1) 41 #[.int .i64 x.op, .int .i64 x.a, .int .i64 x.b] := Blk.new' (by simp)
 have hbw : Below wr.heap.size wr ((wr.alloc (.cells #[.int .i64 x.op, .int .i64 x.d, .int .i64 x.a, .int .i64 x.b, .int .i64 x.t, .int .i64 x.e] 44)).alloc (.cells #[.int .i64 x.op, .int .i64 x.a, .int .i64 x.b] 41)) := ((Below.refl _ _).alloc (Nat.le_refl _) _).alloc (by simp) _
 have hN1 : Blk ((wr.alloc (.cells #[.int .i64 x.op, .int .i64 x.d, .int .i64 x.a, .int .i64 x.b, .int .i64 x.t, .int .i64 x.e] 44)).alloc (.cells #[.int .i64 x.op, .int .i64 x.a, .int .i64 x.b] 41)) wr.heap.size 44 #[.int .i64 x.op, .int .i64 x.d, .int .i64 x.a, .int .i64 x.b, .int .i64 x.t, .int .i64 x.e] := (Blk.new' rfl).alloc _
 have hsz : ((wr.alloc (.cells #[.int .i64 x.op, .int .i64 x.d, .int .i64 x.a, .int .i64 x.b, .int .i64 x.t, .int .i64 x.e] 44)).alloc (.cells #[.int .i64 x.op, .int .i64 x.a, .int .i64 x.b] 41)).heap.size = wr.heap.size + 1 + 1 := by simp
 refine (of_any x.op _).mono ?_
 rintro e w2 ⟨rfl, hb2⟩
 obtain ⟨g9, hg9⟩ : ∃ g, g = wr.heap.size + 1 := ⟨_, rfl⟩
 have hT2 := hT.below hb2 hT.lt
 rw [← hg9] at hT2 ⊢
 have hbw2 : Below wr.heap.size wr w2 := hbw.trans (hb2.mono (by rw [hsz]; omega))
 have hz2 := hb2.size
 rw [hsz] at hz2
 obtain ⟨W, hW⟩ : ∃ W, W = w2.alloc (.cells #[.bool (hasD x.op), .bool (hasA x.op), .bool (hasB x.op), .bool (isSet x.op), .bool (shT x.op), .bool (hasE x.op)] 94) := ⟨_, rfl⟩
 have hX : Blk W w2.heap.size 94 #[.bool (hasD x.op), .bool (hasA x.op), .bool (hasB x.op), .bool (isSet x.op), .bool (shT x.op), .bool (hasE x.op)] := by rw [hW]; exact Blk.new' rfl
 have hT3 : Blk W g9 41 #[.int .i64 x.op, .int .i64 x.a, .int .i64 x.b] := by rw [hW]; exact hT2.alloc _
 have hbW : Below wr.heap.size wr W := by rw [hW]; exact hbw2.alloc (by omega) _
 have hrW := Hrow.out.below' hbW
 have hsW := Hsn.out.below hbW
 have hBW := hbr.trans (hbW.mono hzr)
 have hn9 : ¬ (g = g9) := by have := Hsn.out.lt; omega
 have x2 := hX.cell 2
 have t0 := hT3.cell 0
 have t1 := hT3.cell 1
 have t2 := hT3.cell 2
 have lX := hX.lt
 have lT := hT3.lt
 simp only [Yl] at x2 t0 t1 t2
 have hWe : w2.alloc (.cells #[.bool (hasD x.op), .bool (hasA x.op), .bool (hasB x.op), .bool (isSet x.op), .bool (shT x.op), .bool (hasE x.op)] 94) = W := hW.symm
 have HWe := hide hWe
 have HrW := hide hrW
 have HsW := hide hsW
 have HBW := hide hBW
 clear hT hbw hN1 hsz hb2 hT2 hbw2 hz2 hW hX hbW hrW hsW hBW hWe Hrow Hsn hbr c0 c1 c2 c3 c4 c5 hT3 hg9
 cases hb : hasB x.op
 case false => (
 have hnext : tmsOf l (m + 1) = ts := by rw [Hts.out]; exact tmsOf_no Hx.out hb
 have Hn := hide hnext
 rw [hb] at x2 HWe
 clear hnext
 go_wp2_with fail
 go_roundg (l.length - (m + 1))
 case measure => have := Hgk.out; omega
 case rel => rw [HWe.out]; exact ⟨m + 1, by omega, by go_num, rfl, by rw [Hn.out]; exact HrW.out, by rw [Hn.out]; exact HsW.out.mono (by omega), HBW.out⟩)
 case true => (
 rw [hb] at x2 HWe
 have hBsz := HBW.out.size
 obtain ⟨kl, hkl⟩ := HR.out.key (List.mem_of_getElem? Hx.out) hb
 obtain ⟨c, hlook, hcm, hcz, v0, st, W1, hme, hg1, hlook1, W3, hst, hg3, hS3, hlook3⟩ := (HsW.out.drew).bump (by omega) hkl
 have hlook : (Instr.lookup 61 (.map (some g)) (.agg #[.int .i64 x.op, .int .i64 x.a, .int .i64 x.b]) false).run Tryz.prog W.drew = .ok (.int .i64 c) W.drew := hlook
 have hlook1 : (Instr.lookup 61 (.map (some g)) (.agg #[.int .i64 x.op, .int .i64 x.a, .int .i64 x.b]) false).run Tryz.prog W1 = .ok (.int .i64 c) W1 := hlook1
 have hme : (Instr.mapEntry 61 (.map (some g)) (.agg #[.int .i64 x.op, .int .i64 x.a, .int .i64 x.b])).run Tryz.prog W.drew = .ok (.tuple #[v0, .int .i64 (st : Int)]) W1 := hme
 have hst : (Instr.entryStore 61 (.map (some g)) (.int .i64 (st : Int)) (.int .i64 (IntKind.i64.wrap ((c : Int) + 1)))).run Tryz.prog W1 = .ok () W3 := by rw [show IntKind.i64.wrap ((c : Int) + 1) = (c : Int) + 1 by rw [IntKind.wrap_i64]; omega]; exact hst
 obtain ⟨cv, hcv⟩ : ∃ cv : Int, cv = (c : Int) + 1 := ⟨_, rfl⟩
 have hlook3 : (Instr.lookup 61 (.map (some g)) (.agg #[.int .i64 x.op, .int .i64 x.a, .int .i64 x.b]) false).run Tryz.prog W3 = .ok (.int .i64 cv) W3 := by rw [hcv]; exact hlook3
 have e0 : W1.cell? ⟨g9, 0, none⟩ = some (.int .i64 x.op) := by rw [hg1.cell_far _ (by simp <;> omega) (by simp; omega)]; exact t0
 have e1 : W1.cell? ⟨g9, 1, none⟩ = some (.int .i64 x.a) := by rw [hg1.cell_far _ (by simp <;> omega) (by simp; omega)]; exact t1
 have e2 : W1.cell? ⟨g9, 2, none⟩ = some (.int .i64 x.b) := by rw [hg1.cell_far _ (by simp <;> omega) (by simp; omega)]; exact t2
 have hs1 := hg1.size
 simp only [World.size_drew] at hs1
 have l1 : g9 < W1.heap.size := by omega
 have f0 : W3.cell? ⟨g9, 0, none⟩ = some (.int .i64 x.op) := by rw [hg3.cell_far _ (by simp <;> omega) (by simp; omega)]; exact e0
 have f1 : W3.cell? ⟨g9, 1, none⟩ = some (.int .i64 x.a) := by rw [hg3.cell_far _ (by simp <;> omega) (by simp; omega)]; exact e1
 have f2 : W3.cell? ⟨g9, 2, none⟩ = some (.int .i64 x.b) := by rw [hg3.cell_far _ (by simp <;> omega) (by simp; omega)]; exact e2
 have hr3 : TRow W3 w.heap.size 41 (.slice A5 ts.length c5') ts := ((HrW.out.drew).kept hg1 (.inr (HsW.out.ne_row HrW.out))).kept hg3 (.inr (HsW.out.ne_row HrW.out))
 have hB3 : Below w.heap.size w W3 := ((HBW.out.drew).grown hg1 (by simp; omega) (fun q hq => by injection hq with hq; omega)).grown hg3 (by omega) (fun q hq => by injection hq with hq; omega)
 have hz3 : w.heap.size ≤ W3.heap.size := hB3.size
 have HR3 := hide hr3
 have HB3 := hide hB3
 have HS3 := hide hS3
 clear hkl hg1 hg3 hs1 hr3 hB3 hS3
 cases hct : ts.contains x.tm
 case true => (
 have hnext : tmsOf l (m + 1) = ts := by rw [Hts.out] at hct ⊢; exact tmsOf_seen Hx.out hct
 have hc0 : c ≠ 0 := fun h => by have := hcz.1 h; rw [hct] at this; cases this
 have b1 : (cv == 1) = false := by rw [hcv]; have h : ((c : Int) + 1) ≠ 1 := (by omega); simpa using h
 rw [hct, if_pos rfl] at HS3
 have Hn := hide hnext
 clear hnext hcz hc0 hcv hct
 go_upto_region 12 with fail
 rw [HWe.out]
 refine wp_region_held_drew (S := fun w' => w'.cell? ⟨g9, 0, none⟩ = some (.int .i64 x.op) ∧ w'.cell? ⟨g9, 1, none⟩ = some (.int .i64 x.a) ∧ w'.cell? ⟨g9, 2, none⟩ = some (.int .i64 x.b)) (by kernel_rfl) ⟨t0, t1, t2⟩ ?_
 intro hH
 refine Up (fun _ _ _ _ _ => id) fun hP => ?_
 refine Vi 0 ?_ rfl (by kernel_rfl) hP (by rfl) ?r hH ?_; case r => intro w' h; (try dsimp only at h); go_simp; try with_reducible rfl
 try simp only [Nm]
 refine Vi 1 ?_ rfl (by kernel_rfl) hP (by rfl) ?r hH ?_; case r => intro w' h; (try dsimp only at h); go_simp; try with_reducible rfl
 try simp only [Nm]
 refine wpAnyH_ready (rs := [2, 4]) (by kernel_rfl) (by simp) ?_
 refine AllReadyH.cons rfl (fun K hK => ?_) (AllReadyH.cons rfl (fun K hK => ?_) AllReadyH.nil)
 · (
 have HK2 := hide hK
 clear hK
 go_simp
 refine Shut.out HK2.out _ _ hH (fun _ => ?_)
 try simp only [Nm]
 refine Vi 3 ?_ rfl (by kernel_rfl) hP (by rfl) ?r hH ?_; case r => intro w' h; (try dsimp only at h); go_simp; try with_reducible rfl
 try simp only [Nm]
 refine Rd 4 (by kernel_rfl) rfl (fun K hK => ?_)
 have HK4 := hide hK
 clear hK
 go_simp
 refine Shut.out HK4.out _ _ ⟨e0, e1, e2⟩ (fun hH => ?_)
 try simp only [Nm]
 refine Vi 5 ?_ rfl (by kernel_rfl) hP (by rfl) ?r hH ?_; case r => intro w' h; (try dsimp only at h); go_simp; try with_reducible rfl
 try simp only [Nm]
 refine Rd 6 (by kernel_rfl) rfl (fun K hK => ?_)
 have HK6 := hide hK
 clear hK
 go_simp
 refine Shut.out HK6.out _ _ ⟨f0, f1, f2⟩ (fun hH => ?_)
 try simp only [Nm]
 refine wpAnyH_done (by kernel_rfl) ?_ _
 clear hH HK2 HK4 HK6 t0 t1 t2 e0 e1 e2 hlook hme hlook1 hst
 go_wp2_with fail
 go_roundg (l.length - (m + 1))
 case measure => have := Hgk.out; omega
 case rel => exact ⟨m + 1, by omega, by go_num, rfl, by rw [Hn.out]; exact HR3.out, by rw [Hn.out]; exact HS3.out, HB3.out⟩)
 · (
 have HK4 := hide hK
 clear hK
 go_simp
 refine Shut.out HK4.out _ _ ⟨e0, e1, e2⟩ (fun hH => ?_)
 try simp only [Nm]
 refine Vi 5 ?_ rfl (by kernel_rfl) hP (by rfl) ?r hH ?_; case r => intro w' h; (try dsimp only at h); go_simp; try with_reducible rfl
 try simp only [Nm]
 refine Rd 2 (by kernel_rfl) rfl (fun K hK => ?_)
 have HK2 := hide hK
 clear hK
 go_simp
 refine Shut.out HK2.out _ _ hH (fun _ => ?_)
 try simp only [Nm]
 refine Vi 3 ?_ rfl (by kernel_rfl) hP (by rfl) ?r hH ?_; case r => intro w' h; (try dsimp only at h); go_simp; try with_reducible rfl
 try simp only [Nm]
 refine Rd 6 (by kernel_rfl) rfl (fun K hK => ?_)
 have HK6 := hide hK
 clear hK
 go_simp
 refine Shut.out HK6.out _ _ ⟨f0, f1, f2⟩ (fun hH => ?_)
 try simp only [Nm]
 refine wpAnyH_done (by kernel_rfl) ?_ _
 clear hH HK2 HK4 HK6 t0 t1 t2 e0 e1 e2 hlook hme hlook1 hst
 go_wp2_with fail
 go_roundg (l.length - (m + 1))
 case measure => have := Hgk.out; omega
 case rel => exact ⟨m + 1, by omega, by go_num, rfl, by rw [Hn.out]; exact HR3.out, by rw [Hn.out]; exact HS3.out, HB3.out⟩))
 case false => (
 have hnext : tmsOf l (m + 1) = ts ++ [x.tm] := by rw [Hts.out] at hct ⊢; exact tmsOf_yes Hx.out hb hct
 have hc0 : c = 0 := hcz.2 hct
 have b1 : (cv == 1) = true := by rw [hcv, hc0]; rfl
 rw [hct, if_neg (by simp)] at HS3
 have Hn := hide hnext
 clear hnext hcz hc0 hcv hct
 go_upto_region 12 with fail
 rw [HWe.out]
 refine wp_region_held_drew (S := fun w' => w'.cell? ⟨g9, 0, none⟩ = some (.int .i64 x.op) ∧ w'.cell? ⟨g9, 1, none⟩ = some (.int .i64 x.a) ∧ w'.cell? ⟨g9, 2, none⟩ = some (.int .i64 x.b)) (by kernel_rfl) ⟨t0, t1, t2⟩ ?_
 intro hH
 refine Up (fun _ _ _ _ _ => id) fun hP => ?_
 refine Vi 0 ?_ rfl (by kernel_rfl) hP (by rfl) ?r hH ?_; case r => intro w' h; (try dsimp only at h); go_simp; try with_reducible rfl
 try simp only [Nm]
 refine Vi 1 ?_ rfl (by kernel_rfl) hP (by rfl) ?r hH ?_; case r => intro w' h; (try dsimp only at h); go_simp; try with_reducible rfl
 try simp only [Nm]
 refine wpAnyH_ready (rs := [2, 4]) (by kernel_rfl) (by simp) ?_
 refine AllReadyH.cons rfl (fun K hK => ?_) (AllReadyH.cons rfl (fun K hK => ?_) AllReadyH.nil)
 · (
 have HK2 := hide hK
 clear hK
 go_simp
 refine Shut.out HK2.out _ _ hH (fun _ => ?_)
 try simp only [Nm]
 refine Vi 3 ?_ rfl (by kernel_rfl) hP (by rfl) ?r hH ?_; case r => intro w' h; (try dsimp only at h); go_simp; try with_reducible rfl
 try simp only [Nm]
 refine Rd 4 (by kernel_rfl) rfl (fun K hK => ?_)
 have HK4 := hide hK
 clear hK
 go_simp
 refine Shut.out HK4.out _ _ ⟨e0, e1, e2⟩ (fun hH => ?_)
 try simp only [Nm]
 refine Vi 5 ?_ rfl (by kernel_rfl) hP (by rfl) ?r hH ?_; case r => intro w' h; (try dsimp only at h); go_simp; try with_reducible rfl
 try simp only [Nm]
 refine Rd 6 (by kernel_rfl) rfl (fun K hK => ?_)
 have HK6 := hide hK
 clear hK
 go_simp
 refine Shut.out HK6.out _ _ ⟨f0, f1, f2⟩ (fun hH => ?_)
 try simp only [Nm]
 refine wpAnyH_done (by kernel_rfl) ?_ _
 clear hH HK2 HK4 HK6 t0 t1 t2 e0 e1 e2 hlook hme hlook1 hst
 go_wp2_with (at_builtin; refine wpList_append_terms (v := .slice A5 ts.length c5') rfl (.tmp 51) (.tmp 53) _ rfl ii _ 24 Tryz.underlying149 hii hiz his hib rfl rfl (HR3.out.alloc _) (some ⟨W3.heap.size, 0, none⟩) 1 1 [x.tm] rfl rfl (terms_one' (n := x.tm) rfl) (by simp [maxLen]; omega) (by simp; omega) (by simp; omega) ?_; intro v4 w4 hr4 hg4 hat4)
 go_roundg (l.length - (m + 1))
 case measure => have := Hgk.out; omega
 case rel => exact ⟨m + 1, by omega, by go_num, rfl, by rw [Hn.out]; exact hr4, by rw [Hn.out]; exact ((HS3.out.below ((Below.refl _ _).alloc (Nat.le_refl _) _)).own hg4 (HS3.out.ne_row HR3.out)), (HB3.out.alloc (by omega) _).grown hg4 (by simp; omega) (fun q hq => (HR3.out.lt q hq).1)⟩)
 · (
 have HK4 := hide hK
 clear hK
 go_simp
 refine Shut.out HK4.out _ _ ⟨e0, e1, e2⟩ (fun hH => ?_)
 try simp only [Nm]
 refine Vi 5 ?_ rfl (by kernel_rfl) hP (by rfl) ?r hH ?_; case r => intro w' h; (try dsimp only at h); go_simp; try with_reducible rfl
 try simp only [Nm]
 refine Rd 2 (by kernel_rfl) rfl (fun K hK => ?_)
 have HK2 := hide hK
 clear hK
 go_simp
 refine Shut.out HK2.out _ _ hH (fun _ => ?_)
 try simp only [Nm]
 refine Vi 3 ?_ rfl (by kernel_rfl) hP (by rfl) ?r hH ?_; case r => intro w' h; (try dsimp only at h); go_simp; try with_reducible rfl
 try simp only [Nm]
 refine Rd 6 (by kernel_rfl) rfl (fun K hK => ?_)
 have HK6 := hide hK
 clear hK
 go_simp
 refine Shut.out HK6.out _ _ ⟨f0, f1, f2⟩ (fun hH => ?_)
 try simp only [Nm]
 refine wpAnyH_done (by kernel_rfl) ?_ _
 clear hH HK2 HK4 HK6 t0 t1 t2 e0 e1 e2 hlook hme hlook1 hst
 go_wp2_with (at_builtin; refine wpList_append_terms (v := .slice A5 ts.length c5') rfl (.tmp 51) (.tmp 53) _ rfl ii _ 24 Tryz.underlying149 hii hiz his hib rfl rfl (HR3.out.alloc _) (some ⟨W3.heap.size, 0, none⟩) 1 1 [x.tm] rfl rfl (terms_one' (n := x.tm) rfl) (by simp [maxLen]; omega) (by simp; omega) (by simp; omega) ?_; intro v4 w4 hr4 hg4 hat4)
 go_roundg (l.length - (m + 1))
 case measure => have := Hgk.out; omega
 case rel => exact ⟨m + 1, by omega, by go_num, rfl, by rw [Hn.out]; exact hr4, by rw [Hn.out]; exact ((HS3.out.below ((Below.refl _ _).alloc (Nat.le_refl _) _)).own hg4 (HS3.out.ne_row HR3.out)), (HB3.out.alloc (by omega) _).grown hg4 (by simp; omega) (fun q hq => (HR3.out.lt q hq).1)⟩))))
 · (
 have hkk : m = l.length := by omega
 have Hkk := hide hkk
 clear hkk
 go_wp2_with fail
 go_tidy
 go_ret2
 exact ⟨hbr, _, rfl, by rw [← Hkk.out]; exact hrow⟩)))
 · (
 unfold TmPost
 rw [if_neg h0]
 have HC := hide hC
 have b0 : (chk regs l != 0) = true := by simpa using h0
 clear hC h0
 generalize chk regs l = c at *
 go_enter Tryz.func104, Tryz.ntmps104
 go_wp2_with fail
 refine (HC.out _ (by (with_reducible repeat first | apply Qa | assumption | apply Qb | apply Qc | apply Qd | apply Qe | refine Qf ?_ (by assumption) ?_); all_goals (try simp only [Sz]); first | done | omega | (try simp only [Sz] at *); omega)).mono ?_
 rintro e w1 ⟨rfl, hb1⟩
 have hB : Below w.heap.size w w1 := (by (with_reducible repeat first | apply Qa | assumption | apply Qb | apply Qc | apply Qd | apply Qe | refine Qf ?_ (by assumption) ?_); all_goals (try simp only [Sz]); first | done | omega | (try simp only [Sz] at *); omega)
 go_wp2_with fail
 go_tidy
 go_ret2
 exact ⟨hB, _, rfl, TRow.nil_ _ _ _⟩))
end
section
open Go.RowKit
set_option maxHeartbeats 8000000
attribute [local irreducible] Row madeCells NRow TRow
set_option maxRecDepth 100000 in
theorem All_any (regs : Int) (A : Option Addr) (l : List Nd) (cap : Nat) (w : World) (hl : l.length ≤ maxLen) (hA : NodesAt w A l) :
 Calls Tryz.prog 57 #[.agg #[.int .i64 regs, .slice A l.length cap]] w (AllPost 44 regs l w) := by (
 have HTm := hide (fun W (hW : Below w.heap.size w W) => Terms_any regs A l cap W hl (hA.below hW))
 have HN := hide (fun W (hW : Below w.heap.size w W) => hA.below hW)
 clear hA
 go_enter Tryz.func57, Tryz.ntmps57
 go_wp2_with fail
 refine (HTm.out _ (by (with_reducible repeat first | apply Qa | assumption | apply Qb | apply Qc | apply Qd | apply Qe | refine Qf ?_ (by assumption) ?_); all_goals (try simp only [Sz]); first | done | omega | (try simp only [Sz] at *); omega)).mono ?_
 rintro e w1 ⟨hb1, v, rfl, hr⟩
 have hz1 := hb1.size
 simp only [World.size_alloc] at hz1
 have hB : Below w.heap.size w w1 := (by (with_reducible repeat first | apply Qa | assumption | apply Qb | apply Qc | apply Qd | apply Qe | refine Qf ?_ (by assumption) ?_); all_goals (try simp only [Sz]); first | done | omega | (try simp only [Sz] at *); omega)
 have hP : Blk w1 w.heap.size 24 #[.int .i64 regs, .slice A l.length cap] := Blk.below (by repeat (first | ((with_reducible refine Blk.new' ?_); exact (by (try simp only [Sz]); first | done | omega | (try simp only [Sz] at *); omega)) | (with_reducible refine Blk.alloc ?_ _))) hb1 (by simp <;> omega)
 have hO : Blk w1 (w.heap.size + 1) 24 #[.int .i64 0, .slice none 0 0] := Blk.below (by repeat (first | ((with_reducible refine Blk.new' ?_); exact (by (try simp only [Sz]); first | done | omega | (try simp only [Sz] at *); omega)) | (with_reducible refine Blk.alloc ?_ _))) hb1 (by simp <;> omega)
 replace hr := hr.mono (base' := w.heap.size) (by simp <;> omega)
 clear hb1
 by_cases hc : chk regs l = 0
 case neg => (
 have hE : allE regs l = chk regs l := by unfold allE; rw [if_pos hc]
 have hc' : (chk regs l != 0) = true := by simp [hc]
 have H0 := hide hc
 have HE := hide hE
 clear hc hE hP hr
 have o0 := hO.cell 0
 have o1 := hO.cell 1
 have f0 := hO.frozen 0
 have f1 := hO.frozen 1
 simp only [Yl] at o0 o1
 have lO := hO.lt
 go_wp2_with fail
 go_tidy
 refine bodyPost_ret (v := .tuple #[.agg #[.int .i64 0, .slice none 0 0], .int .i64 (chk regs l)]) (by simp [results, Tryz.results57, go_sem, o0, o1, f0, f1, World.cell?_setCell_same, World.cell?_setCell_other]; try rfl) rfl ?_
 exact ⟨(hB.setCell (by simp <;> omega) _).setCell (by simp <;> omega) _, .inl ⟨by rw [HE.out]; exact H0.out, by rw [HE.out]⟩⟩)
 case pos => (
 rw [if_pos hc] at hr
 have hR := right_of_chk hc
 have hlo := hR.lo
 have hhi := hR.hi
 have hE : allE regs l = (allGo (allT l) regs l).1 := by unfold allE; rw [if_neg (by simp [hc])]
 have HE := hide hE
 rw [hc]
 obtain ⟨ts, hts⟩ : ∃ ts, ts = allT l := ⟨_, rfl⟩
 change TRow w1 w.heap.size _ v (allT l) at hr
 rw [← hts] at hr
 have htl : ts.length ≤ 256 := by rw [hts]; exact Nat.le_trans (tmsOf_len l l.length) hhi
 have Hts := hide hts
 obtain ⟨Tv, tc, ev, _, _⟩ := hr.shape
 subst ev
 have hTs := hr.nodes
 have HCl := hide (fun W (hW : Below w.heap.size w W) => Clone_any A l cap W (HN.out _ hW) hlo (by omega))
 clear hc hR hE hts hr
 have p0 := hP.cell 0
 have p1 := hP.cell 1
 simp only [Yl] at p0 p1
 have lp := hP.lt
 go_upto_region 4 with fail
 have HH : ∀ (V : World), Below w1.heap.size w1 V → (V.cell? ⟨w.heap.size, 0, none⟩ = some (.int .i64 regs) ∧ V.cell? ⟨w.heap.size, 1, none⟩ = some (.slice A l.length cap)) := fun V hV => ⟨((bcell hV).1 _ _ (by omega)).trans p0, ((bcell hV).1 _ _ (by omega)).trans p1⟩
 refine wp_region_held_drew (S := fun w' => (w'.cell? ⟨w.heap.size, 0, none⟩ = some (.int .i64 regs) ∧ w'.cell? ⟨w.heap.size, 1, none⟩ = some (.slice A l.length cap))) (by kernel_rfl) ?_ ?_
 · exact ⟨p0, p1⟩
 intro hH
 have hC0 : Below w1.heap.size w1 w1.drew := (Below.refl _ _).drew
 generalize w1.drew = V0 at hH hC0 ⊢
 refine Up (fun _ _ _ _ _ => id) fun hPq => ?_
 refine Vq 0 ?_ rfl (by kernel_rfl) hPq (by rfl) ?r hH ?_; case r => intro w'; go_simp; try with_reducible rfl
 try simp only [Nm]
 refine Vi 1 ?_ rfl (by kernel_rfl) hPq (by rfl) ?r hH ?_; case r => intro w' h; (try dsimp only at h); (try go_split_ands); go_simp; try with_reducible rfl
 try simp only [Nm]
 refine Vq 2 ?_ rfl (by kernel_rfl) hPq (by rfl) ?r hH ?_; case r => intro w'; go_simp; try with_reducible rfl
 try simp only [Nm]
 refine Vi 3 ?_ rfl (by kernel_rfl) hPq (by rfl) ?r hH ?_; case r => intro w' h; (try dsimp only at h); (try go_split_ands); go_simp; try with_reducible rfl
 try simp only [Nm]
 refine wpAnyH_ready (rs := [4, 6]) (by kernel_rfl) (by simp) ?_
 refine AllReadyH.cons rfl (fun K hK => ?_) (AllReadyH.cons rfl (fun K hK => ?_) AllReadyH.nil)
 focus (
 have HK4 := hide hK
 clear hK
 go_simp
 go_at_call 20
 refine (HCl.out _ (hB.trans (hC0.mono hB.size))).mono ?_
 rintro e V1 ⟨v, rfl, hr, hbV1⟩
 have hC1 : Below w1.heap.size w1 V1 := hC0.trans (hbV1.mono hC0.size)
 replace hr := hr.mono (base' := w.heap.size) (Nat.le_trans hB.size hC0.size)
 clear hH
 obtain ⟨Cv, cc, ev, _, _⟩ := hr.shape
 subst ev
 refine Shut.out HK4.out _ _ (HH _ hC1) (fun hH => ?_)
 try simp only [Nm]
 clear HK4
 refine Vq 5 ?_ rfl (by kernel_rfl) hPq (by rfl) ?r hH ?_; case r => intro w'; go_simp; try with_reducible rfl
 try simp only [Nm]
 refine Rd 6 (by kernel_rfl) rfl (fun K hK => ?_)
 have HK6 := hide hK
 clear hK
 go_simp
 obtain ⟨V2, hV2⟩ : ∃ V : World, V = V1.alloc (.cells #[.int .i64 0, .slice none 0 0] 24) := ⟨_, rfl⟩
 have hC2 : Below w1.heap.size w1 V2 := by rw [hV2]; exact hC1.alloc hC1.size _
 have hQ : Blk V2 V1.heap.size 24 #[.int .i64 0, .slice none 0 0] := by rw [hV2]; exact Blk.new' rfl
 replace hr := hr.alloc (.cells #[.int .i64 0, .slice none 0 0] 24)
 rw [← hV2] at hr
 rw [← hV2]
 obtain ⟨qb, hqb⟩ : ∃ b, b = V1.heap.size := ⟨_, rfl⟩
 have hqg : w1.heap.size ≤ qb := by rw [hqb]; exact hC1.size
 rw [← hqb] at hQ ⊢
 clear hH hV2 hqb
 refine Shut.out HK6.out _ _ (HH _ hC2) (fun hH => ?_)
 try simp only [Nm]
 clear HK6)
 rotate_left
 focus (
 have HK6 := hide hK
 clear hK
 go_simp
 obtain ⟨V1, hV1⟩ : ∃ V : World, V = V0.alloc (.cells #[.int .i64 0, .slice none 0 0] 24) := ⟨_, rfl⟩
 have hC1 : Below w1.heap.size w1 V1 := by rw [hV1]; exact hC0.alloc hC0.size _
 have hQ : Blk V1 V0.heap.size 24 #[.int .i64 0, .slice none 0 0] := by rw [hV1]; exact Blk.new' rfl
 rw [← hV1]
 obtain ⟨qb, hqb⟩ : ∃ b, b = V0.heap.size := ⟨_, rfl⟩
 have hqg : w1.heap.size ≤ qb := by rw [hqb]; exact hC0.size
 rw [← hqb] at hQ ⊢
 clear hH hV1 hqb
 refine Shut.out HK6.out _ _ (HH _ hC1) (fun hH => ?_)
 try simp only [Nm]
 clear HK6
 refine Rd 4 (by kernel_rfl) rfl (fun K hK => ?_)
 have HK4 := hide hK
 clear hK
 go_simp
 go_at_call 20
 refine (HCl.out _ (hB.trans (hC1.mono hB.size))).mono ?_
 rintro e V2 ⟨v, rfl, hr, hbV2⟩
 have hC2 : Below w1.heap.size w1 V2 := hC1.trans (hbV2.mono hC1.size)
 replace hr := hr.mono (base' := w.heap.size) (Nat.le_trans hB.size hC1.size)
 clear hH
 obtain ⟨Cv, cc, ev, _, _⟩ := hr.shape
 subst ev
 refine Shut.out HK4.out _ _ (HH _ hC2) (fun hH => ?_)
 try simp only [Nm]
 clear HK4
 refine Vq 5 ?_ rfl (by kernel_rfl) hPq (by rfl) ?r hH ?_; case r => intro w'; go_simp; try with_reducible rfl
 try simp only [Nm]
 replace hQ := hQ.below hbV2 hQ.lt)
 all_goals (
 refine Rd 7 (by kernel_rfl) rfl (fun K hK => ?_)
 have HK7 := hide hK
 clear hK
 have q0 := hQ.cell 0
 have q1 := hQ.cell 1
 have fq0 := hQ.frozen 0
 have fq1 := hQ.frozen 1
 simp only [Yl] at q0 q1
 go_simp
 refine Shut.out HK7.out _ _ ⟨(set1_cell (by omega) _ _).trans ((set1_cell (by omega) _ _).trans (((bcell hC2).1 _ _ (by omega)).trans p0)), (set1_cell (by omega) _ _).trans ((set1_cell (by omega) _ _).trans (((bcell hC2).1 _ _ (by omega)).trans p1))⟩ (fun hH => ?_)
 try simp only [Nm]
 clear HK7
 refine wpAnyH_done (by kernel_rfl) ?_ _
 have hS : AlSt w1 w.heap.size qb 0 (.slice none 0 0) [] V2 := ⟨hQ, NRow.nil_ _ _ _, hC2, hqg⟩
 have hS2 := hS.put (r' := regs) (Below.refl _ _) hr
 obtain ⟨W2, hW2⟩ : ∃ W : World, W = (V2.setCell ⟨qb, 0, none⟩ (.int .i64 regs)).setCell ⟨qb, 1, none⟩ (.slice Cv l.length cc) := ⟨_, rfl⟩
 rw [← hW2] at hS2 ⊢
 have HS2 := hide hS2
 have HP := hide hP
 have HO := hide hO
 have HB := hide hB
 have HTs := hide hTs
 have lp0 := hP.lt
 have lo0 := hO.lt
 have hbw := hB.size
 clear q0 q1 fq0 fq1 hH hS hS2 hQ hr hP hO hB hTs p0 p1 lp hW2 hC0 hC1 hC2
 go_wp2_with fail
 go_loopg [26] (ts.length) (fun gk i wr => ∃ (k : Nat) (r : Int) (v : Value) (ls : List Nd), k ≤ ts.length ∧ i = .int .i64 k ∧ gk = ts.length - k ∧ allGo (ts.drop k) r ls = allGo ts regs l ∧ AlSt w1 w.heap.size qb r v ls wr)
 case atStart => exact ⟨0, _, _, _, Nat.zero_le _, rfl, rfl, rfl, HS2.out⟩
 case round => (
 clear HS2
 obtain ⟨k, r, v, ls, hk, rfl, hgk, hgo, hS⟩ := hrel
 have Hgk := hide hgk
 have Hgo := hide hgo
 clear hgk hgo
 have hwz := hS.below.size
 have hlq := hS.box.lt
 have hlow := hS.low
 obtain ⟨Lv, lc, ev, hm1, hm2⟩ := hS.row.shape
 subst ev
 have hlm : ls.length ≤ maxLen := Nat.le_trans hm1 hm2
 by_cases hlt : k < ts.length
 · (
 obtain ⟨tb, tof, tm, rfl, htb, htk, c0, c1, c2⟩ := HTs.out.get hlt
 have Htk := hide htk
 have hlt1 := Nat.lt_of_lt_of_le htb hwz
 replace c0 := ((bcell hS.below).1 _ _ htb).trans c0
 replace c1 := ((bcell hS.below).1 _ _ htb).trans c1
 replace c2 := ((bcell hS.below).1 _ _ htb).trans c2
 have u0 : (0 : Int) ≤ (k : Int) := by omega
 have u1 : (k : Int) < (ts.length : Int) := by omega
 have q0 := hS.box.cell 0
 have q1 := hS.box.cell 1
 simp only [Yl] at q0 q1
 clear htk
 have HS := hide hS
 clear hS
 go_upto_region 8 with fail
 obtain ⟨W3, hW3⟩ : ∃ W : World, W = wr.alloc (.cells #[.int .i64 tm.op, .int .i64 tm.a, .int .i64 tm.b] 41) := ⟨_, rfl⟩
 have hb3 : Below wr.heap.size wr W3 := by rw [hW3]; exact (Below.refl _ _).alloc (Nat.le_refl _) _
 have hM : Blk W3 wr.heap.size 41 #[.int .i64 tm.op, .int .i64 tm.a, .int .i64 tm.b] := by rw [hW3]; exact Blk.new' rfl
 rw [← hW3]
 have hS3 := HS.out.later hb3
 clear hW3 HS q0 q1 c0 c1 c2
 have q0 := hS3.box.cell 0
 have q1 := hS3.box.cell 1
 have m0 := hM.cell 0
 have m1 := hM.cell 1
 have m2 := hM.cell 2
 simp only [Yl] at q0 q1 m0 m1 m2
 have lq := hS3.box.lt
 have lm := hM.lt
 have HOn := hide (One_any r Lv ls lc tm W3 hlm hS3.row.nodes)
 have HS3 := hide hS3
 clear hS3 hM
 go_wp2_with fail
 refine (HOn.out).mono ?_
 rintro e w4 ⟨hb4, h⟩
 have hstep := allGo_drop Htk.out r ls
 have hS4 := HS3.out.later hb4
 have hw3 := HS3.out.below.size
 clear q0 q1 m0 m1 m2 lq lm HOn
 have q0 := hS4.box.cell 0
 have q1 := hS4.box.cell 1
 have fq0 := hS4.box.frozen 0
 have fq1 := hS4.box.frozen 1
 simp only [Yl] at q0 q1
 have lq := hS4.box.lt
 have hO := HO.out.below hS4.below lo0
 have o0 := hO.cell 0
 have o1 := hO.cell 1
 have f0 := hO.frozen 0
 have f1 := hO.frozen 1
 simp only [Yl] at o0 o1
 have lO := hO.lt
 have HS4 := hide hS4
 clear hS4 hO
 rcases h with ⟨hne, rfl⟩ | ⟨h0, v', rfl, hr⟩
 · (
 rw [if_pos hne] at hstep
 have hne' : (oneE r ls tm != 0) = true := by simp [hne]
 have hE : allE regs l = oneE r ls tm := by rw [HE.out, ← Hts.out, ← Hgo.out, hstep]
 have Hne := hide hne
 have HE2 := hide hE
 have hB := HB.out.trans (HS4.out.below.mono hbw)
 have hB4 := hB.size
 clear hne hstep hE
 go_wp2_with fail
 go_tidy
 refine bodyPost_ret (v := .tuple #[.agg #[.int .i64 0, .slice none 0 0], .int .i64 (oneE r ls tm)]) (by simp [results, Tryz.results57, go_sem, o0, o1, f0, f1, World.cell?_setCell_same, World.cell?_setCell_other]; try rfl) rfl ?_
 exact ⟨(((hB.setCell (by simp <;> omega) _).setCell (by simp <;> omega) _).setCell (by simp <;> omega) _).setCell (by simp <;> omega) _, .inl ⟨by rw [HE2.out]; exact Hne.out, by rw [HE2.out]⟩⟩)
 · (
 rw [if_neg (by simp [h0])] at hstep
 replace hr := hr.mono (base' := w.heap.size) (by omega)
 obtain ⟨Rv, rc, ev, _, _⟩ := hr.shape
 subst ev
 have hS5 := HS3.out.put (r' := oneR r ls tm) hb4 hr
 obtain ⟨r2, hr2⟩ : ∃ z, z = oneR r ls tm := ⟨_, rfl⟩
 obtain ⟨l2, hl2⟩ : ∃ z, z = oneL r ls tm := ⟨_, rfl⟩
 rw [← hr2, ← hl2] at hstep hS5
 rw [← hl2] at hr
 rw [← hr2, ← hl2]
 rw [Hgo.out] at hstep
 have HS5 := hide hS5
 have Hst := hide hstep
 clear hstep hS5 hr2 hl2 hr h0 o0 o1 f0 f1 lO hb4
 go_wp2_with fail
 go_roundg (ts.length - (k + 1))
 case measure => have := Hgk.out; omega
 case rel => exact ⟨k + 1, _, _, _, by omega, by go_num, rfl, Hst.out.symm, HS5.out⟩))
 · (
 have hkk : k = ts.length := by omega
 subst hkk
 have hg := Hgo.out
 rw [List.drop_length] at hg
 have hgo : allGo (allT l) regs l = (0, r, ls) := by rw [← Hts.out, ← hg]; rfl
 have hE : allE regs l = 0 := by rw [HE.out, hgo]
 have HE2 := hide hE
 have Hgo2 := hide hgo
 have hO := HO.out.below hS.below lo0
 have q0 := hS.box.cell 0
 have q1 := hS.box.cell 1
 simp only [Yl] at q0 q1
 have hnO := hS.row.ne_blk hO (by decide)
 have Q := hide ((hS.row.far (p := ⟨w.heap.size + 1, 0, none⟩) hnO (.int .i64 r)).far (p := ⟨w.heap.size + 1, 1, none⟩) hnO (.slice Lv ls.length lc))
 have hB := HB.out.trans (hS.below.mono hbw)
 have o0 := hO.cell 0
 have o1 := hO.cell 1
 have f0 := hO.frozen 0
 have f1 := hO.frozen 1
 simp only [Yl] at o0 o1
 have lO := hO.lt
 have HBf := hide hB
 clear hg hgo hE hS hnO hB hO
 go_wp2_with fail
 go_tidy
 refine bodyPost_ret (v := .tuple #[.agg #[.int .i64 r, .slice Lv ls.length lc], .int .i64 0]) (by simp [results, Tryz.results57, go_sem, q0, q1, o0, o1, f0, f1, World.cell?_setCell_same, World.cell?_setCell_other]; try rfl) rfl ?_
 exact ⟨(HBf.out.setCell (by simp <;> omega) _).setCell (by simp <;> omega) _, .inr ⟨HE2.out, _, by rw [Hgo2.out], by rw [Hgo2.out]; exact Q.out⟩⟩)))))
end
section
open Go.RowKit
set_option maxHeartbeats 16000000
def PassPost (n r : Int) (l : List Nd) (w : World) (e : Ending) (w' : World) : Prop :=
  ∃ (c r' : Int) (l' : List Nd) (v : Value), e = .returned (.tuple #[.agg #[.int .i64 r', v], .int .i64 c]) ∧ PassIs n r l c r' l' ∧ NRow w' w.heap.size 44 v l' ∧ Below w.heap.size w w'
theorem pass_call (n : Int) (h14 : 1 ≤ n ∧ n ≤ 4) (K : Nat) (hK : passV n = .func (.func K) #[] #[]) (r : Int) (A : Option Addr) (l : List Nd) (cap : Nat) (w : World) (hA : NodesAt w A l) (hR : Right r l) :
    Calls Tryz.prog K #[.agg #[.int .i64 r, .slice A l.length cap]] w (PassPost n r l w) := by
  have hl : l.length ≤ maxLen := by have := hR.hi; unfold maxLen; omega
  have hc := hR.chk
  rcases (show n = 1 ∨ n = 2 ∨ n = 3 ∨ n = 4 by omega) with rfl | rfl | rfl | rfl
  · have : K = 14 := by
      unfold passV at hK
      rw [if_pos rfl] at hK
      injection hK with h
      injection h with h
      exact h.symm
    subst this
    refine (Split_any r A l cap w hl hA).mono ?_
    rintro e w' ⟨hb, ⟨h1, _⟩ | ⟨_, h1, rfl⟩ | ⟨_, h1, v, rfl, hN⟩⟩
    · exact absurd hc h1
    · exact ⟨2, 0, [], _, rfl, .inl ⟨rfl, .inl ⟨h1, rfl, rfl, rfl⟩⟩, NRow.nil_ _ _ _, hb⟩
    · exact ⟨0, r, _, v, rfl, .inl ⟨rfl, .inr ⟨h1, rfl, rfl, rfl⟩⟩, hN, hb⟩
  · have : K = 57 := by
      unfold passV at hK
      rw [if_neg (by decide), if_pos rfl] at hK
      injection hK with h
      injection h with h
      exact h.symm
    subst this
    refine (All_any r A l cap w hl hA).mono ?_
    rintro e w' ⟨hb, ⟨h1, rfl⟩ | ⟨h1, v, rfl, hN⟩⟩
    · exact ⟨allE r l, 0, [], _, rfl, .inr (.inl ⟨rfl, .inl ⟨h1, rfl, rfl, rfl⟩⟩), NRow.nil_ _ _ _, hb⟩
    · exact ⟨0, _, _, v, rfl, .inr (.inl ⟨rfl, .inr ⟨h1, rfl, rfl, rfl⟩⟩), hN, hb⟩
  · have : K = 58 := by
      unfold passV at hK
      rw [if_neg (by decide), if_neg (by decide), if_pos rfl] at hK
      injection hK with h
      injection h with h
      exact h.symm
    subst this
    refine (Dead_ok r A l cap w hA hR hc).mono ?_
    rintro e w' ⟨v, l', rfl, hd, _, hN, hb⟩
    exact ⟨0, r, l', v, rfl, .inr (.inr (.inl ⟨rfl, rfl, rfl, hd⟩)), hN, hb⟩
  · have : K = 34 := by
      unfold passV at hK
      rw [if_neg (by decide), if_neg (by decide), if_neg (by decide), if_pos rfl] at hK
      injection hK with h
      injection h with h
      exact h.symm
    subst this
    refine (Trim_any r A l cap w hl hA).mono ?_
    rintro e w' ⟨hb, ⟨h1, _⟩ | ⟨_, v, rfl, hN⟩⟩
    · exact absurd hc h1
    · exact ⟨0, r, _, v, rfl, .inr (.inr (.inr ⟨rfl, rfl, rfl, rfl⟩)), hN, hb⟩
theorem passV_in {n : Int} (h : 1 ≤ n ∧ n ≤ 4) : ∃ K, passV n = .func (.func K) #[] #[] := by
  rcases (show n = 1 ∨ n = 2 ∨ n = 3 ∨ n = 4 by omega) with rfl | rfl | rfl | rfl
  · exact ⟨_, rfl⟩
  · exact ⟨_, rfl⟩
  · exact ⟨_, rfl⟩
  · exact ⟨_, rfl⟩
theorem passV_out {n : Int} (h : ¬ (1 ≤ n ∧ n ≤ 4)) : passV n = .nilFunc := by
  unfold passV
  rw [if_neg (by omega), if_neg (by omega), if_neg (by omega), if_neg (by omega)]
theorem fn_ne_nil (K : Nat) (w : World) : (binOp BinOp.eql 46 (.func (.func K) #[] #[]) .nilFunc).run Tryz.prog w = .ok (.bool false) w := by kernel_rfl
theorem fn_nil_nil (w : World) : (binOp BinOp.eql 46 .nilFunc .nilFunc).run Tryz.prog w = .ok (.bool true) w := by kernel_rfl
def PassesPost (r : Int) (l : List Nd) (ns : List Int) (w : World) (e : Ending) (w' : World) : Prop :=
  ∃ (c r' : Int) (l' : List Nd) (v : Value), e = .returned (.tuple #[.agg #[.int .i64 r', v], .int .i64 c]) ∧ PassesIs r l ns c r' l' ∧ NRow w' w.heap.size 44 v l' ∧ Below w.heap.size w w'
theorem drop_next {ns : List Int} {k : Nat} {n r1 : Int} {l1 : List Nd} {r' : Int} {l' : List Nd} {c r2 : Int} {l2 : List Nd} (hn : ns[k]? = some n) (h : PassIs n r1 l1 0 r' l') (h2 : Psq (ns.drop (k + 1)) r' l' c r2 l2) : Psq (ns.drop k) r1 l1 c r2 l2 := by
  obtain ⟨hk, he⟩ := List.getElem?_eq_some_iff.1 hn
  rw [List.drop_eq_getElem_cons hk, he]
  exact .next h h2
theorem drop_bad {ns : List Int} {k : Nat} {n r1 : Int} {l1 : List Nd} {c : Int} (hn : ns[k]? = some n) (h : PassIs n r1 l1 c 0 []) (hc : c ≠ 0) : Psq (ns.drop k) r1 l1 c 0 [] := by
  obtain ⟨hk, he⟩ := List.getElem?_eq_some_iff.1 hn
  rw [List.drop_eq_getElem_cons hk, he]
  exact .bad h hc
theorem n4 {n : Int} (h : 1 ≤ n ∧ n ≤ 4) : n = 1 ∨ n = 2 ∨ n = 3 ∨ n = 4 := by omega
set_option maxRecDepth 100000 in
theorem Passes_any (regs : Int) (A : Option Addr) (l : List Nd) (cap : Nat) (S : Option Addr) (ns : List Int) (ci : Nat) (w : World) (hA : NodesAt w A l) (hl : l.length ≤ maxLen) (hI : ValsAt w S (ints ns)) (hnl : ns.length ≤ maxLen) (hwf : ∀ n ∈ ns, (Lit.int .i64 n).wf = true) :
    Calls Tryz.prog 5 #[.agg #[.int .i64 regs, .slice A l.length cap], .slice S ns.length ci] w (PassesPost regs l ns w) := by
  unfold maxLen at hnl
  have HC := fun W (hb : Below w.heap.size w W) => hide (Check_any regs A l cap W hl (hA.below hb))
  have hB0 : Below w.heap.size w ((w.alloc (.cells #[.int .i64 regs, .slice A l.length cap] 24)).alloc (.cells #[.int .i64 0, .slice none 0 0] 24)) := ((Below.refl _ _).alloc (Nat.le_refl _) _).alloc (by simp) _
  have hP0 : Blk ((w.alloc (.cells #[.int .i64 regs, .slice A l.length cap] 24)).alloc (.cells #[.int .i64 0, .slice none 0 0] 24)) w.heap.size 24 #[.int .i64 regs, .slice A l.length cap] := (Blk.new w _ _).alloc _
  have hZ0 : Blk ((w.alloc (.cells #[.int .i64 regs, .slice A l.length cap] 24)).alloc (.cells #[.int .i64 0, .slice none 0 0] 24)) (w.heap.size + 1) 24 #[.int .i64 0, .slice none 0 0] := Blk.new' (by simp)
  go_enter Tryz.func5, Tryz.ntmps5
  go_wp2_with fail
  refine Calls.mono (HC _ hB0).out ?_
  rintro e w1 ⟨rfl, hb1⟩
  have hP1 := hP0.below hb1 hP0.lt
  have hZ1 := hZ0.below hb1 hZ0.lt
  have hB1 := hB0.trans (hb1.mono hB0.size)
  clear hP0 hZ0 hB0 hb1 HC
  by_cases hc : chk regs l = 0
  · rw [hc]
    have hR := right_of_chk hc
    by_cases h16 : 16 < ns.length
    · have d1 : decide ((ns.length : Int) > 16) = true := decide_eq_true (by omega)
      have z0 := hZ1.cell 0
      have z1 := hZ1.cell 1
      have zf0 := hZ1.frozen 0
      have zf1 := hZ1.frozen 1
      have lZ := hZ1.lt
      simp only [Yl] at z0 z1
      go_wp2_with fail
      refine bodyPost_ret (v := .tuple #[.agg #[.int .i64 0, .slice none 0 0], .int .i64 2]) (by simp [results, Tryz.results5, go_sem, z0, z1, zf0, zf1, World.cell?_setCell_same, World.cell?_setCell_other]; try rfl) rfl ⟨_, 0, [], _, rfl, ?_, NRow.nil_ _ _ _, ?_⟩
      rotate_left
      · exact (hB1.setCell (by simp) _).setCell (by simp) _
      exact .inr (.inl ⟨hc, h16, rfl, rfl, rfl⟩)
    · have d1 : decide ((ns.length : Int) > 16) = false := decide_eq_false (by omega)
      have Hc := hide hc
      have HR := hide hR
      clear hc hR
      go_wp2_with fail
      go_loopg [8, 25] (ns.length) (fun gk a8 i wr => ∃ k : Nat, k ≤ ns.length ∧ i = .int .i64 k ∧ gk = ns.length - k ∧ (∀ j n, j < k → ns[j]? = some n → 1 ≤ n ∧ n ≤ 4) ∧ Blk wr w.heap.size 24 #[.int .i64 regs, .slice A l.length cap] ∧ Blk wr (w.heap.size + 1) 24 #[.int .i64 0, .slice none 0 0] ∧ Below w.heap.size w wr)
      case atStart => exact ⟨0, by omega, rfl, by omega, (fun j n hj => absurd hj (by omega)), hP1, hZ1, hB1⟩
      case round =>
        clear hP1 hZ1 hB1
        obtain ⟨k, hk, rfl, hgk, hall, hP, hZ, hB⟩ := hrel
        have Hgk := hide hgk
        have Hall := hide hall
        clear hgk hall
        by_cases hlt : k < ns.length
        · obtain ⟨n, hn⟩ : ∃ n, ns[k]? = some n := ⟨_, List.getElem?_eq_getElem hlt⟩
          obtain ⟨b0, o0, hS, hb0, hv0⟩ := hI (by unfold ints; intro h; rw [List.map_eq_nil_iff] at h; rw [h] at hlt; exact absurd hlt (Nat.not_lt_zero _))
          subst hS
          have hck : wr.cell? ⟨b0, o0 + k, none⟩ = some (.int .i64 n) := (hB.cell (p := ⟨b0, o0 + k, none⟩) hb0).trans (hv0 k _ (by unfold ints; rw [List.getElem?_map, hn]; rfl))
          have HP := hide (pass_any n (hwf n (List.mem_of_getElem? hn)) wr)
          have Hn := hide hn
          have Hv := hide hv0
          have k0 : (0 : Int) ≤ (k : Int) := by omega
          have k1 : (k : Int) < (ns.length : Int) := by omega
          clear hn hv0
          go_wp2_with fail
          refine Calls.mono HP.out ?_
          rintro e w2 ⟨rfl, hb2⟩
          have hP2 := hP.below hb2 hP.lt
          have hZ2 := hZ.below hb2 hZ.lt
          have hB2 := hB.trans (hb2.mono hB.size)
          clear HP hP hZ hB hb2 hck
          by_cases h14 : 1 ≤ n ∧ n ≤ 4
          · obtain ⟨K, hK⟩ := passV_in h14
            rw [hK]
            have hfe := fn_ne_nil K
            go_wp2_with fail
            go_roundg (ns.length - (k + 1))
            case measure => have := Hgk.out; omega
            case rel => exact ⟨k + 1, by omega, by go_num, rfl, (fun j m hj hm => (Nat.lt_or_eq_of_le (Nat.lt_succ_iff.1 hj)).elim (fun h => Hall.out j m h hm) (fun h => by rw [h, Hn.out] at hm; cases hm; exact h14)), hP2, hZ2, hB2⟩
          · rw [passV_out h14]
            have hfe := fn_nil_nil
            have z0 := hZ2.cell 0
            have z1 := hZ2.cell 1
            have zf0 := hZ2.frozen 0
            have zf1 := hZ2.frozen 1
            have lZ := hZ2.lt
            simp only [Yl] at z0 z1
            go_wp2_with fail
            refine bodyPost_ret (v := .tuple #[.agg #[.int .i64 0, .slice none 0 0], .int .i64 4]) (by simp [results, Tryz.results5, go_sem, z0, z1, zf0, zf1, World.cell?_setCell_same, World.cell?_setCell_other]; try rfl) rfl ⟨_, 0, [], _, rfl, ?_, NRow.nil_ _ _ _, ?_⟩
            rotate_left
            · exact (hB2.setCell (by simp) _).setCell (by simp) _
            exact .inr (.inr (.inl ⟨Hc.out, by omega, ⟨n, List.mem_of_getElem? Hn.out, h14⟩, rfl, rfl, rfl⟩))
        · obtain rfl : k = ns.length := by omega
          have hall : ∀ n ∈ ns, 1 ≤ n ∧ n ≤ 4 := fun n hn => by
            obtain ⟨j, hj, e⟩ := List.getElem_of_mem hn
            exact Hall.out j n hj (by rw [List.getElem?_eq_getElem hj, e])
          have Hin := hide hall
          clear hall Hall
          have HCl := hide (fun W (hW : Below w.heap.size w W) => Clone_any A l cap W (hA.below hW) HR.out.lo (by have := HR.out.hi; omega))
          have lp := hP.lt
          have lz := hZ.lt
          go_upto_region 12 with fail
          have p0 := hP.cell 0
          have p1 := hP.cell 1
          simp only [Yl] at p0 p1
          go_cut [9] (fun s9 wx => ∃ (GQ : Nat) (v : Value), s9 = .pointer (some ⟨GQ, 0, none⟩) ∧ w.heap.size + 2 ≤ GQ ∧ Blk wx GQ 24 #[.int .i64 regs, v] ∧ NRow wx w.heap.size 44 v l ∧ Blk wx (w.heap.size + 1) 24 #[.int .i64 0, .slice none 0 0] ∧ Below w.heap.size w wx)
          case first =>
            go_region_with (first
              | (go_at_call 20; (first | with_reducible show Calls _ _ _ (World.drew (World.alloc _ _)) _ | with_reducible show Calls _ _ _ (World.alloc _ _) _); (refine (HCl.out _ (by (with_reducible repeat first | apply Qa | assumption | apply Qb | apply Qc | apply Qd | apply Qe | refine Qf ?_ (by assumption) ?_); all_goals (try simp only [Sz]); first | done | omega | (try simp only [Sz] at *); omega)).mono ?_; rintro e w2 ⟨v2, rfl, hr2, hb2⟩; obtain ⟨A2, c2, rfl, _, _⟩ := hr2.shape; have hz2 := hb2.size; simp only [World.size_alloc, World.size_drew] at hz2; have hP2 : Blk w2 w.heap.size 24 #[.int .i64 regs, .slice A l.length cap] := Blk.below (by repeat (first | ((with_reducible refine Blk.new' ?_); exact (by (try simp only [Sz]); first | done | omega | (try simp only [Sz] at *); omega)) | (with_reducible refine Blk.drew ?_) | (with_reducible refine Blk.drewN ?_ _) | (with_reducible refine Blk.alloc ?_ _) | with_reducible assumption)) hb2 (by simp <;> omega); have hQ2 : Blk w2 (w.heap.size + 1) 24 #[.int .i64 0, .slice none 0 0] := Blk.below (by repeat (first | ((with_reducible refine Blk.new' ?_); exact (by (try simp only [Sz]); first | done | omega | (try simp only [Sz] at *); omega)) | (with_reducible refine Blk.drew ?_) | (with_reducible refine Blk.drewN ?_ _) | (with_reducible refine Blk.alloc ?_ _) | with_reducible assumption)) hb2 (by simp <;> omega); have l2 := hP2.lt; have l3 := hQ2.lt; have q0 := hP2.cell 0; have q1 := hP2.cell 1; simp only [Yl] at q0 q1; have hG2 : Blk w2 wr.heap.size 24 #[.int .i64 0, .slice none 0 0] := Blk.below (by repeat (first | ((with_reducible refine Blk.new' ?_); exact (by (try simp only [Sz]); first | done | omega | (try simp only [Sz] at *); omega)) | (with_reducible refine Blk.drew ?_) | (with_reducible refine Blk.drewN ?_ _) | (with_reducible refine Blk.alloc ?_ _) | with_reducible assumption)) hb2 (by simp <;> omega); have g0 := hG2.cell 0; have g1 := hG2.cell 1; have g2 := hG2.frozen 0; have g3 := hG2.frozen 1; simp only [Yl] at g0 g1))
              | (go_at_call 20; (refine (HCl.out _ (by (with_reducible repeat first | apply Qa | assumption | apply Qb | apply Qc | apply Qd | apply Qe | refine Qf ?_ (by assumption) ?_); all_goals (try simp only [Sz]); first | done | omega | (try simp only [Sz] at *); omega)).mono ?_; rintro e w2 ⟨v2, rfl, hr2, hb2⟩; obtain ⟨A2, c2, rfl, _, _⟩ := hr2.shape; have hz2 := hb2.size; simp only [World.size_alloc, World.size_drew] at hz2; have hP2 : Blk w2 w.heap.size 24 #[.int .i64 regs, .slice A l.length cap] := Blk.below (by repeat (first | ((with_reducible refine Blk.new' ?_); exact (by (try simp only [Sz]); first | done | omega | (try simp only [Sz] at *); omega)) | (with_reducible refine Blk.drew ?_) | (with_reducible refine Blk.drewN ?_ _) | (with_reducible refine Blk.alloc ?_ _) | with_reducible assumption)) hb2 (by simp <;> omega); have hQ2 : Blk w2 (w.heap.size + 1) 24 #[.int .i64 0, .slice none 0 0] := Blk.below (by repeat (first | ((with_reducible refine Blk.new' ?_); exact (by (try simp only [Sz]); first | done | omega | (try simp only [Sz] at *); omega)) | (with_reducible refine Blk.drew ?_) | (with_reducible refine Blk.drewN ?_ _) | (with_reducible refine Blk.alloc ?_ _) | with_reducible assumption)) hb2 (by simp <;> omega); have l2 := hP2.lt; have l3 := hQ2.lt; have q0 := hP2.cell 0; have q1 := hP2.cell 1; simp only [Yl] at q0 q1)))
            all_goals (go_wp2_with fail)
            all_goals go_meet
            all_goals go_tidy
            all_goals (first
              | (refine ⟨w2.heap.size, .slice A2 l.length c2, rfl, by omega, (by repeat (first | ((with_reducible refine Blk.new' ?_); exact (by (try simp only [Sz]); first | done | omega | (try simp only [Sz] at *); omega)) | (with_reducible refine Blk.drew ?_) | (with_reducible refine Blk.drewN ?_ _) | (with_reducible refine Blk.alloc ?_ _) | with_reducible assumption)), (hr2.alloc _).mono (by simp <;> omega), hQ2.alloc _, ?_⟩; exact (by (with_reducible repeat first | apply Qa | assumption | apply Qb | apply Qc | apply Qd | apply Qe | refine Qf ?_ (by assumption) ?_); all_goals (try simp only [Sz]); first | done | omega | (try simp only [Sz] at *); omega))
              | (refine ⟨wr.heap.size, .slice A2 l.length c2, rfl, by omega, (hG2.set_ 0 _).set_ 1 _, ((hr2.far (hr2.ne_blk hG2 (by decide)) _).far (hr2.ne_blk hG2 (by decide)) _).mono (by simp <;> omega), (hQ2.far (by simp <;> omega) _).far (by simp <;> omega) _, ?_⟩; exact (by (with_reducible repeat first | apply Qa | assumption | apply Qb | apply Qc | apply Qd | apply Qe | refine Qf ?_ (by assumption) ?_); all_goals (try simp only [Sz]); first | done | omega | (try simp only [Sz] at *); omega))
              | trace_state)
          case rest =>
            clear hP hZ hB lp lz p0 p1 HCl
            obtain ⟨GQ, v, rfl, hGQ, hQ, hN, hZ, hB⟩ := hcut
            go_wp2_with fail
            go_loopg [11, 12, 42] (ns.length) (fun gk a11 a12 i wr => ∃ (k : Nat) (r1 : Int) (l1 : List Nd) (v : Value), k ≤ ns.length ∧ i = .int .i64 k ∧ gk = ns.length - k ∧ Blk wr GQ 24 #[.int .i64 r1, v] ∧ NRow wr w.heap.size 44 v l1 ∧ Blk wr (w.heap.size + 1) 24 #[.int .i64 0, .slice none 0 0] ∧ Below w.heap.size w wr ∧ Right r1 l1 ∧ (∀ c r2 l2, Psq (ns.drop k) r1 l1 c r2 l2 → Psq ns regs l c r2 l2))
            case atStart => exact ⟨0, regs, l, v, by omega, rfl, rfl, hQ, hN, hZ, hB, HR.out, fun c r2 l2 h => h⟩
            case round =>
              clear hQ hN hZ hB
              obtain ⟨k, r1, l1, v, hk, rfl, hgk, hQ, hN, hZ, hB, hR1, hps⟩ := hrel
              have Hgk := hide hgk
              have HR1 := hide hR1
              have Hps := hide hps
              clear hgk hR1 hps
              obtain ⟨A1, c1, rfl, _, _⟩ := hN.shape
              by_cases hlt : k < ns.length
              · obtain ⟨n, hn⟩ : ∃ n, ns[k]? = some n := ⟨_, List.getElem?_eq_getElem hlt⟩
                obtain ⟨b0, o0, hS, hb0, hv0⟩ := hI (by unfold ints; intro h; rw [List.map_eq_nil_iff] at h; rw [h] at hlt; exact absurd hlt (Nat.not_lt_zero _))
                subst hS
                have hck : wr.cell? ⟨b0, o0 + k, none⟩ = some (.int .i64 n) := (hB.cell (p := ⟨b0, o0 + k, none⟩) hb0).trans (hv0 k _ (by unfold ints; rw [List.getElem?_map, hn]; rfl))
                have h14 := Hin.out n (List.mem_of_getElem? hn)
                have HP := hide (fun W => pass_any n (hwf n (List.mem_of_getElem? hn)) W)
                have Hn := hide hn
                have Hv := hide hv0
                have hnd := hN.nodes
                have k0 : (0 : Int) ≤ (k : Int) := by omega
                have k1 : (k : Int) < (ns.length : Int) := by omega
                have q0 := hQ.cell 0
                have q1 := hQ.cell 1
                have lq := hQ.lt
                have hz := hB.size
                simp only [Yl] at q0 q1
                clear hn hv0 hN
                have h14' := hide h14
                clear h14
                rcases n4 h14'.out with rfl | rfl | rfl | rfl
                · skip
                  have HCk := hide (fun W (hb : Below wr.heap.size wr W) => pass_call 1 (by omega) 14 rfl r1 A1 l1 c1 W (hnd.below hb) HR1.out)
                  clear hnd
                  go_upto_region 17 with fail
                  go_region_with (first
                    | (go_at_call 19; refine (HP.out _).mono ?_; rintro e w5 ⟨rfl, hb5⟩; rw [show passV 1 = .func (.func 14) #[] #[] from rfl]; have hb5' : Below wr.heap.size wr w5 := ((Below.refl _ _).drew).trans hb5; have hQ5 := hQ.below hb5' hQ.lt; have q0 := hQ5.cell 0; have q1 := hQ5.cell 1; simp only [Yl] at q0 q1)
                    | (go_at_call 14; refine (HCk.out _ hb5').mono ?_; rintro e w6 ⟨c, r', l', v', rfl, hpi, hN6, hb6⟩; obtain ⟨A6, c6, rfl, _, _⟩ := hN6.shape; have hb6' := hb5'.trans (hb6.mono hb5'.size); have hQ6 := hQ.below hb6' hQ.lt; have q0 := hQ6.cell 0; have q1 := hQ6.cell 1; have qf0 := hQ6.frozen 0; have qf1 := hQ6.frozen 1; simp only [Yl] at q0 q1))
                  all_goals
                    have hZ7 := ((hZ.below hb6' hZ.lt).far (p := ⟨GQ, 0, none⟩) (by simp only; omega) (.int .i64 r')).far (p := ⟨GQ, 1, none⟩) (by simp only; omega) (.slice A6 l'.length c6)
                    have hB7 := ((hB.trans (hb6'.mono hB.size)).setCell (p := ⟨GQ, 0, none⟩) (by simp only; omega) (.int .i64 r')).setCell (p := ⟨GQ, 1, none⟩) (by simp only; omega) (.slice A6 l'.length c6)
                    have hQ7 := (hQ6.set_ 0 (.int .i64 r')).set_ 1 (.slice A6 l'.length c6)
                    have hN7 := hide (((hN6.far (p := ⟨GQ, 0, none⟩) (hN6.ne_blk hQ6 (by decide)) (.int .i64 r')).far (p := ⟨GQ, 1, none⟩) (hN6.ne_blk hQ6 (by decide)) (.slice A6 l'.length c6)).mono (Nat.le_trans hB.size hb5'.size))
                    have Hpi := hide hpi
                    clear hZ hQ6 hN6 hpi q0 q1 qf0 qf1
                    by_cases hc0 : c = 0
                    · subst hc0
                      go_wp2_with fail
                      go_roundg (ns.length - (k + 1))
                      case measure => have := Hgk.out; omega
                      case rel => exact ⟨k + 1, r', l', _, by omega, by go_num, rfl, hQ7, hN7.out, hZ7, hB7, Hpi.out.right HR1.out, fun c r2 l2 h => Hps.out c r2 l2 (drop_next Hn.out Hpi.out h)⟩
                    · have hne : (c != 0) = true := by simp [hc0]
                      have Hc0 := hide hc0
                      clear hc0
                      have z0 := hZ7.cell 0
                      have z1 := hZ7.cell 1
                      have zf0 := hZ7.frozen 0
                      have zf1 := hZ7.frozen 1
                      have lZ := hZ7.lt
                      simp only [Yl] at z0 z1
                      go_wp2_with fail
                      refine bodyPost_ret (v := .tuple #[.agg #[.int .i64 0, .slice none 0 0], .int .i64 c]) (by simp [results, Tryz.results5, go_sem, z0, z1, zf0, zf1, World.cell?_setCell_same, World.cell?_setCell_other]; try rfl) rfl ⟨_, 0, [], _, rfl, ?_, NRow.nil_ _ _ _, ?_⟩
                      rotate_left
                      · exact (hB7.setCell (by simp) _).setCell (by simp) _
                      obtain ⟨e1, e2⟩ := Hpi.out.no Hc0.out
                      exact .inr (.inr (.inr ⟨Hc.out, by omega, Hin.out, Hps.out _ _ _ (drop_bad Hn.out (by have := Hpi.out; rw [e1, e2] at this; exact this) Hc0.out)⟩))
                · skip
                  have HCk := hide (fun W (hb : Below wr.heap.size wr W) => pass_call 2 (by omega) 57 rfl r1 A1 l1 c1 W (hnd.below hb) HR1.out)
                  clear hnd
                  go_upto_region 17 with fail
                  go_region_with (first
                    | (go_at_call 19; refine (HP.out _).mono ?_; rintro e w5 ⟨rfl, hb5⟩; rw [show passV 2 = .func (.func 57) #[] #[] from rfl]; have hb5' : Below wr.heap.size wr w5 := ((Below.refl _ _).drew).trans hb5; have hQ5 := hQ.below hb5' hQ.lt; have q0 := hQ5.cell 0; have q1 := hQ5.cell 1; simp only [Yl] at q0 q1)
                    | (go_at_call 57; refine (HCk.out _ hb5').mono ?_; rintro e w6 ⟨c, r', l', v', rfl, hpi, hN6, hb6⟩; obtain ⟨A6, c6, rfl, _, _⟩ := hN6.shape; have hb6' := hb5'.trans (hb6.mono hb5'.size); have hQ6 := hQ.below hb6' hQ.lt; have q0 := hQ6.cell 0; have q1 := hQ6.cell 1; have qf0 := hQ6.frozen 0; have qf1 := hQ6.frozen 1; simp only [Yl] at q0 q1))
                  all_goals
                    have hZ7 := ((hZ.below hb6' hZ.lt).far (p := ⟨GQ, 0, none⟩) (by simp only; omega) (.int .i64 r')).far (p := ⟨GQ, 1, none⟩) (by simp only; omega) (.slice A6 l'.length c6)
                    have hB7 := ((hB.trans (hb6'.mono hB.size)).setCell (p := ⟨GQ, 0, none⟩) (by simp only; omega) (.int .i64 r')).setCell (p := ⟨GQ, 1, none⟩) (by simp only; omega) (.slice A6 l'.length c6)
                    have hQ7 := (hQ6.set_ 0 (.int .i64 r')).set_ 1 (.slice A6 l'.length c6)
                    have hN7 := hide (((hN6.far (p := ⟨GQ, 0, none⟩) (hN6.ne_blk hQ6 (by decide)) (.int .i64 r')).far (p := ⟨GQ, 1, none⟩) (hN6.ne_blk hQ6 (by decide)) (.slice A6 l'.length c6)).mono (Nat.le_trans hB.size hb5'.size))
                    have Hpi := hide hpi
                    clear hZ hQ6 hN6 hpi q0 q1 qf0 qf1
                    by_cases hc0 : c = 0
                    · subst hc0
                      go_wp2_with fail
                      go_roundg (ns.length - (k + 1))
                      case measure => have := Hgk.out; omega
                      case rel => exact ⟨k + 1, r', l', _, by omega, by go_num, rfl, hQ7, hN7.out, hZ7, hB7, Hpi.out.right HR1.out, fun c r2 l2 h => Hps.out c r2 l2 (drop_next Hn.out Hpi.out h)⟩
                    · have hne : (c != 0) = true := by simp [hc0]
                      have Hc0 := hide hc0
                      clear hc0
                      have z0 := hZ7.cell 0
                      have z1 := hZ7.cell 1
                      have zf0 := hZ7.frozen 0
                      have zf1 := hZ7.frozen 1
                      have lZ := hZ7.lt
                      simp only [Yl] at z0 z1
                      go_wp2_with fail
                      refine bodyPost_ret (v := .tuple #[.agg #[.int .i64 0, .slice none 0 0], .int .i64 c]) (by simp [results, Tryz.results5, go_sem, z0, z1, zf0, zf1, World.cell?_setCell_same, World.cell?_setCell_other]; try rfl) rfl ⟨_, 0, [], _, rfl, ?_, NRow.nil_ _ _ _, ?_⟩
                      rotate_left
                      · exact (hB7.setCell (by simp) _).setCell (by simp) _
                      obtain ⟨e1, e2⟩ := Hpi.out.no Hc0.out
                      exact .inr (.inr (.inr ⟨Hc.out, by omega, Hin.out, Hps.out _ _ _ (drop_bad Hn.out (by have := Hpi.out; rw [e1, e2] at this; exact this) Hc0.out)⟩))
                · skip
                  have HCk := hide (fun W (hb : Below wr.heap.size wr W) => pass_call 3 (by omega) 58 rfl r1 A1 l1 c1 W (hnd.below hb) HR1.out)
                  clear hnd
                  go_upto_region 17 with fail
                  go_region_with (first
                    | (go_at_call 19; refine (HP.out _).mono ?_; rintro e w5 ⟨rfl, hb5⟩; rw [show passV 3 = .func (.func 58) #[] #[] from rfl]; have hb5' : Below wr.heap.size wr w5 := ((Below.refl _ _).drew).trans hb5; have hQ5 := hQ.below hb5' hQ.lt; have q0 := hQ5.cell 0; have q1 := hQ5.cell 1; simp only [Yl] at q0 q1)
                    | (go_at_call 58; refine (HCk.out _ hb5').mono ?_; rintro e w6 ⟨c, r', l', v', rfl, hpi, hN6, hb6⟩; obtain ⟨A6, c6, rfl, _, _⟩ := hN6.shape; have hb6' := hb5'.trans (hb6.mono hb5'.size); have hQ6 := hQ.below hb6' hQ.lt; have q0 := hQ6.cell 0; have q1 := hQ6.cell 1; have qf0 := hQ6.frozen 0; have qf1 := hQ6.frozen 1; simp only [Yl] at q0 q1))
                  all_goals
                    have hZ7 := ((hZ.below hb6' hZ.lt).far (p := ⟨GQ, 0, none⟩) (by simp only; omega) (.int .i64 r')).far (p := ⟨GQ, 1, none⟩) (by simp only; omega) (.slice A6 l'.length c6)
                    have hB7 := ((hB.trans (hb6'.mono hB.size)).setCell (p := ⟨GQ, 0, none⟩) (by simp only; omega) (.int .i64 r')).setCell (p := ⟨GQ, 1, none⟩) (by simp only; omega) (.slice A6 l'.length c6)
                    have hQ7 := (hQ6.set_ 0 (.int .i64 r')).set_ 1 (.slice A6 l'.length c6)
                    have hN7 := hide (((hN6.far (p := ⟨GQ, 0, none⟩) (hN6.ne_blk hQ6 (by decide)) (.int .i64 r')).far (p := ⟨GQ, 1, none⟩) (hN6.ne_blk hQ6 (by decide)) (.slice A6 l'.length c6)).mono (Nat.le_trans hB.size hb5'.size))
                    have Hpi := hide hpi
                    clear hZ hQ6 hN6 hpi q0 q1 qf0 qf1
                    by_cases hc0 : c = 0
                    · subst hc0
                      go_wp2_with fail
                      go_roundg (ns.length - (k + 1))
                      case measure => have := Hgk.out; omega
                      case rel => exact ⟨k + 1, r', l', _, by omega, by go_num, rfl, hQ7, hN7.out, hZ7, hB7, Hpi.out.right HR1.out, fun c r2 l2 h => Hps.out c r2 l2 (drop_next Hn.out Hpi.out h)⟩
                    · have hne : (c != 0) = true := by simp [hc0]
                      have Hc0 := hide hc0
                      clear hc0
                      have z0 := hZ7.cell 0
                      have z1 := hZ7.cell 1
                      have zf0 := hZ7.frozen 0
                      have zf1 := hZ7.frozen 1
                      have lZ := hZ7.lt
                      simp only [Yl] at z0 z1
                      go_wp2_with fail
                      refine bodyPost_ret (v := .tuple #[.agg #[.int .i64 0, .slice none 0 0], .int .i64 c]) (by simp [results, Tryz.results5, go_sem, z0, z1, zf0, zf1, World.cell?_setCell_same, World.cell?_setCell_other]; try rfl) rfl ⟨_, 0, [], _, rfl, ?_, NRow.nil_ _ _ _, ?_⟩
                      rotate_left
                      · exact (hB7.setCell (by simp) _).setCell (by simp) _
                      obtain ⟨e1, e2⟩ := Hpi.out.no Hc0.out
                      exact .inr (.inr (.inr ⟨Hc.out, by omega, Hin.out, Hps.out _ _ _ (drop_bad Hn.out (by have := Hpi.out; rw [e1, e2] at this; exact this) Hc0.out)⟩))
                · skip
                  have HCk := hide (fun W (hb : Below wr.heap.size wr W) => pass_call 4 (by omega) 34 rfl r1 A1 l1 c1 W (hnd.below hb) HR1.out)
                  clear hnd
                  go_upto_region 17 with fail
                  go_region_with (first
                    | (go_at_call 19; refine (HP.out _).mono ?_; rintro e w5 ⟨rfl, hb5⟩; rw [show passV 4 = .func (.func 34) #[] #[] from rfl]; have hb5' : Below wr.heap.size wr w5 := ((Below.refl _ _).drew).trans hb5; have hQ5 := hQ.below hb5' hQ.lt; have q0 := hQ5.cell 0; have q1 := hQ5.cell 1; simp only [Yl] at q0 q1)
                    | (go_at_call 34; refine (HCk.out _ hb5').mono ?_; rintro e w6 ⟨c, r', l', v', rfl, hpi, hN6, hb6⟩; obtain ⟨A6, c6, rfl, _, _⟩ := hN6.shape; have hb6' := hb5'.trans (hb6.mono hb5'.size); have hQ6 := hQ.below hb6' hQ.lt; have q0 := hQ6.cell 0; have q1 := hQ6.cell 1; have qf0 := hQ6.frozen 0; have qf1 := hQ6.frozen 1; simp only [Yl] at q0 q1))
                  all_goals
                    have hZ7 := ((hZ.below hb6' hZ.lt).far (p := ⟨GQ, 0, none⟩) (by simp only; omega) (.int .i64 r')).far (p := ⟨GQ, 1, none⟩) (by simp only; omega) (.slice A6 l'.length c6)
                    have hB7 := ((hB.trans (hb6'.mono hB.size)).setCell (p := ⟨GQ, 0, none⟩) (by simp only; omega) (.int .i64 r')).setCell (p := ⟨GQ, 1, none⟩) (by simp only; omega) (.slice A6 l'.length c6)
                    have hQ7 := (hQ6.set_ 0 (.int .i64 r')).set_ 1 (.slice A6 l'.length c6)
                    have hN7 := hide (((hN6.far (p := ⟨GQ, 0, none⟩) (hN6.ne_blk hQ6 (by decide)) (.int .i64 r')).far (p := ⟨GQ, 1, none⟩) (hN6.ne_blk hQ6 (by decide)) (.slice A6 l'.length c6)).mono (Nat.le_trans hB.size hb5'.size))
                    have Hpi := hide hpi
                    clear hZ hQ6 hN6 hpi q0 q1 qf0 qf1
                    by_cases hc0 : c = 0
                    · subst hc0
                      go_wp2_with fail
                      go_roundg (ns.length - (k + 1))
                      case measure => have := Hgk.out; omega
                      case rel => exact ⟨k + 1, r', l', _, by omega, by go_num, rfl, hQ7, hN7.out, hZ7, hB7, Hpi.out.right HR1.out, fun c r2 l2 h => Hps.out c r2 l2 (drop_next Hn.out Hpi.out h)⟩
                    · have hne : (c != 0) = true := by simp [hc0]
                      have Hc0 := hide hc0
                      clear hc0
                      have z0 := hZ7.cell 0
                      have z1 := hZ7.cell 1
                      have zf0 := hZ7.frozen 0
                      have zf1 := hZ7.frozen 1
                      have lZ := hZ7.lt
                      simp only [Yl] at z0 z1
                      go_wp2_with fail
                      refine bodyPost_ret (v := .tuple #[.agg #[.int .i64 0, .slice none 0 0], .int .i64 c]) (by simp [results, Tryz.results5, go_sem, z0, z1, zf0, zf1, World.cell?_setCell_same, World.cell?_setCell_other]; try rfl) rfl ⟨_, 0, [], _, rfl, ?_, NRow.nil_ _ _ _, ?_⟩
                      rotate_left
                      · exact (hB7.setCell (by simp) _).setCell (by simp) _
                      obtain ⟨e1, e2⟩ := Hpi.out.no Hc0.out
                      exact .inr (.inr (.inr ⟨Hc.out, by omega, Hin.out, Hps.out _ _ _ (drop_bad Hn.out (by have := Hpi.out; rw [e1, e2] at this; exact this) Hc0.out)⟩))
              · obtain rfl : k = ns.length := by omega
                have q0 := hQ.cell 0
                have q1 := hQ.cell 1
                have z0 := hZ.cell 0
                have z1 := hZ.cell 1
                have zf0 := hZ.frozen 0
                have zf1 := hZ.frozen 1
                have lz := hZ.lt
                have hNz := hide (hN.ne_blk hZ (by decide))
                simp only [Yl] at q0 q1 z0 z1
                clear hZ
                go_wp2_with fail
                refine bodyPost_ret (v := .tuple #[.agg #[.int .i64 r1, .slice A1 l1.length c1], .int .i64 0]) (by simp [results, Tryz.results5, go_sem, z0, z1, zf0, zf1, World.cell?_setCell_same, World.cell?_setCell_other]; try rfl) rfl ⟨0, r1, l1, _, rfl, .inr (.inr (.inr ⟨Hc.out, by omega, Hin.out, Hps.out _ _ _ (by rw [List.drop_length]; exact .nil)⟩)), (hN.far hNz.out _).far hNz.out _, (hB.setCell (by simp) _).setCell (by simp) _⟩
  · have hn0 : (chk regs l != 0) = true := by simp [hc]
    have Hc := hide hc
    clear hc
    generalize hgz : chk regs l = cz at *
    have Hgz := hide hgz
    clear hgz
    have z0 := hZ1.cell 0
    have z1 := hZ1.cell 1
    have zf0 := hZ1.frozen 0
    have zf1 := hZ1.frozen 1
    have lZ := hZ1.lt
    simp only [Yl] at z0 z1
    go_wp2_with fail
    refine bodyPost_ret (v := .tuple #[.agg #[.int .i64 0, .slice none 0 0], .int .i64 cz]) (by simp [results, Tryz.results5, go_sem, z0, z1, zf0, zf1, World.cell?_setCell_same, World.cell?_setCell_other]; try rfl) rfl ⟨_, 0, [], _, rfl, ?_, NRow.nil_ _ _ _, ?_⟩
    rotate_left
    · exact (hB1.setCell (by simp) _).setCell (by simp) _
    exact .inl ⟨by rw [Hgz.out]; exact Hc.out, Hgz.out.symm, rfl, rfl⟩
end
section
theorem Doing.hush {r : Int} {l : List Nd} {inp : List Int} {i : Nat} (hR : Right r l) (hd : DeadN l i) : Doing r l r (hushAt l i) inp := by
  refine ⟨id, fun _ => false, Hushed r l inp, ⟨fun h => ?_, fun {s u} h he => ?_, fun {s u} h he e => (h.pos he).symm, fun h he e => ?_, fun {s u} h he e => ⟨h.step hR hd he, fun h11 => ?_⟩, fun {s u} h he => ⟨0, .here rfl⟩⟩, Hushed.start hR⟩
  · exact ⟨h.agree.out, h.agree.ret, h.agree.ended⟩
  · rw [h.pos he]
    have := h.ok.pos
    simpa [hushAt] using this
  · cases e
  · obtain ⟨m, hm, _⟩ := hd
    rw [h.pos he] at h11
    by_cases hi : s.pos = i
    · rw [nd_get (by rw [hi, hushAt_get hm, if_pos rfl] : (hushAt l i)[s.pos]? = some (Proofs.YtmghkonmfbpjcaaGreatDoor.hush m))] at h11
      exact absurd h11 (by simp [Proofs.YtmghkonmfbpjcaaGreatDoor.hush])
    · have hg : l[s.pos]? = some (nd l s.pos) := by rw [nd, List.getD_eq_getElem?_getD, List.getElem?_eq_getElem h.ok.pos]; rfl
      rw [nd_get (by rw [hushAt_get hm, if_neg hi]; exact hg)] at h11
      exact h11
theorem Doing.hushes {r : Int} {inp : List Int} {l l' : List Nd} (h : Hushes l l') : Right r l → Doing r l r l' inp := by
  induction h with
  | nil => exact fun hR => .self hR
  | one l l' i hd h ih =>
    intro hR
    have hd' := hd
    obtain ⟨m, hm, h1, h8, _⟩ := hd'
    exact (Doing.hush hR hd).trans (ih (hR.hush hm (by omega)))
theorem PassIs.doing {n r : Int} {l : List Nd} {r' : Int} {l' : List Nd} {inp : List Int} (h : PassIs n r l 0 r' l') (hR : Right r l) : Doing r l r' l' inp := by
  rcases h with ⟨_, ⟨_, h, _⟩ | ⟨h1, _, rfl, rfl⟩⟩ | ⟨_, ⟨h1, h2, _⟩ | ⟨h1, _, rfl, rfl⟩⟩ | ⟨_, _, rfl, h⟩ | ⟨_, _, rfl, rfl⟩
  · cases h
  · exact Doing.split hR
  · exact absurd h2.symm h1
  · refine All.doing _ hR ?_
    unfold allE at h1
    rw [if_neg (by rw [hR.chk]; simp)] at h1
    exact h1
  · exact Doing.hushes h.1 hR
  · exact Doing.trim hR
theorem Psq.doing {ns : List Int} {r : Int} {l : List Nd} {c r' : Int} {l' : List Nd} {inp : List Int} (h : Psq ns r l c r' l') : c = 0 → Right r l → Doing r l r' l' inp := by
  induction h with
  | nil => exact fun _ hR => .self hR
  | bad h hc => exact fun e _ => absurd e hc
  | next h h2 ih => exact fun e hR => (h.doing hR).trans (ih e (h.right hR))
end
section
open Go.RowKit
section
variable {regs : Int} {t : Tm} {l : List Nd} {inp : List Int}
theorem run_cost (hR : Right regs l) (ht : hasB t.op = true) : ∀ (k : Nat) (s : Rn), s.pos < l.length → (goR l inp k s).ts.count t = s.ts.count t + sumR l inp (costR t l) k s
  | 0, s, _ => by simp [goR, sumR]
  | k + 1, s, hp => by
    by_cases he : s.ended = true
    · rw [goR_ended he, sumR_ended he]; omega
    · have he : s.ended = false := by simpa using he
      have h1 : (stepR l inp s).ts.count t = s.ts.count t + costR t l s.pos := by
        rw [sr_ts]
        unfold costR
        have htm : (hasB (nd l s.pos).op = true ∧ (nd l s.pos).tm = t) ↔ recB t (nd l s.pos) = true := by
          unfold recB Nd.tm
          simp only [Bool.and_eq_true, beq_iff_eq]
          constructor
          · rintro ⟨_, e⟩
            exact ⟨⟨congrArg Tm.op e, congrArg Tm.a e⟩, congrArg Tm.b e⟩
          · rintro ⟨⟨e1, e2⟩, e3⟩
            exact ⟨by rw [e1]; exact ht, by rw [e1, e2, e3]⟩
        by_cases hB : hasB (nd l s.pos).op = true
        · rw [if_pos hB, List.count_append, List.count_singleton]
          by_cases e : (nd l s.pos).tm = t
          · rw [if_pos (by simpa using e), yes1 (htm.1 ⟨hB, e⟩)]
          · rw [if_neg (by simpa using e), yes0 (fun x => e (htm.2 x).2)]
        · rw [if_neg hB, yes0 (fun x => hB (htm.2 x).1)]; rfl
      rw [goR_step he, sumR_step he]
      by_cases h2 : (stepR l inp s).ended = true
      · rw [goR_ended h2, sumR_ended h2, h1]; omega
      · have h2 : (stepR l inp s).ended = false := by simpa using h2
        rw [run_cost hR ht k _ (sr_edge hR hp h2).2.1, h1]; omega
theorem fx_lazyX {F : Fx} {n : Nat} (hn : n < l.length) : yn (lazyX l F) n = (yn F.late n && !yn F.alone n) := by unfold lazyX; rw [yn_mk hn]
theorem fx_lazyY {F : Fx} {n : Nat} (hR : Right regs l) (ht : 3 ≤ t.op ∧ t.op ≤ 8) (hn : n < l.length) : yn (lazyY t l F) n = (recB t (nd l n) && (!yn F.late n || !yn F.alone n)) := by unfold lazyY; rw [yn_mk hn, rkb hR ht hn]
theorem lazy_cost (F : Fx) (h : IsFx t l F) (hR : Right regs l) (hl : Lone l) (ht : 3 ≤ t.op ∧ t.op ≤ 8) (k : Nat) (he : (goR l inp k (startR regs)).ended = true) :
    sumR l inp (costP t l (lazyX l F) (lazyY t l F)) k (startR regs) = sumR l inp (costE F) k (startR regs) := by
  have h1 := late_le_lazy h hR hl ht (pt := lazyX l F) (tk := lazyY t l F) (fun n hn => fx_lazyX hn) (fun n hn => fx_lazyY hR ht hn) k he
  have h2 := lazy_le_late (F := F) (t := t) (inp := inp) hR (pt := lazyX l F) (tk := lazyY t l F) (fun n hn => fx_lazyX hn) (fun n hn => fx_lazyY hR ht hn) k
  have h3 := early_le_late h hR hl ht k he
  have h4 := late_le_early (inp := inp) h hR hl k
  omega
theorem apply_ended {pt tk th : List Bool} (hR : Right regs l) (hT : TmOk regs t) (hH : Held t l pt tk th) (k : Nat) (he : (runR regs l inp k).ended = true) :
    ∃ j, j ≤ 2 * k ∧ (runR (regs + 1) (applyL regs t pt tk l) inp j).ended = true ∧ (runR (regs + 1) (applyL regs t pt tk l) inp j).ts.count t = sumR l inp (costP t l pt tk) k (startR regs) ∧ ∀ v, v ≠ t → (runR regs l inp k).ts.count v = (runR (regs + 1) (applyL regs t pt tk l) inp j).ts.count v := by
  obtain ⟨j, _, h2, h3, h4⟩ := (Mvd.start hR hH).go hR hT hH (inp := inp) k (fun _ => rfl)
  refine ⟨j, h2, ?_, ?_, h3.ts⟩
  · unfold runR; rw [← h3.ended]; exact he
  · unfold runR; rw [h4]; simp [startR]
theorem any_none (h : oneAny t l = false) : (∀ n, yn (oneX t l) n = false) ∧ ∀ n, yn (oneY t l) n = false := by
  unfold oneAny at h
  have hno : ∀ (x : List Bool), (∀ b ∈ x, b = false) → ∀ n, yn x n = false := fun x hx n => by
    unfold yn
    rw [List.getD_eq_getElem?_getD]
    cases e : x[n]? with
    | none => rfl
    | some b => exact hx b (List.mem_of_getElem? e)
  rw [List.any_eq_false] at h
  exact ⟨hno _ fun b hb => by simpa using h b (List.mem_append.2 (.inl hb)), hno _ fun b hb => by simpa using h b (List.mem_append.2 (.inr hb))⟩
theorem one_ended (h : oneE regs l t = 0) {n N : Nat} (ha : (runR regs l inp n).ended = true) (hb : (runR (oneR regs l t) (oneL regs l t) inp N).ended = true) :
    ∃ k, k ≤ 2 * n ∧ (goR (oneQ l) inp k (startR regs)).ended = true ∧ (runR regs l inp n).ts.count t = sumR (oneQ l) inp (costR t (oneQ l)) k (startR regs) ∧
      (runR (oneR regs l t) (oneL regs l t) inp N).ts.count t = sumR (oneQ l) inp (costE (fxOf t (oneQ l))) k (startR regs) ∧ ∀ v, v ≠ t → (runR regs l inp n).ts.count v = (runR (oneR regs l t) (oneL regs l t) inp N).ts.count v := by
  obtain ⟨h0, h1, h2⟩ := oneE_parts h
  have hR := right_of_chk (fxE_chk h0)
  have hQ := oneQ_right (fxE_chk h0) h1
  have hT := fxE_tm h0
  have hl : Lone (oneQ l) := lone_split hR.trim
  have hF := fxOf_is t (oneQ l)
  obtain ⟨k, _, h4, h5⟩ := oneQ_run (inp := inp) hR n
  have hk : (runR regs (oneQ l) inp k).ended = true := by rw [← h5.ended]; exact ha
  have hk' : (goR (oneQ l) inp k (startR regs)).ended = true := hk
  have hlo := hQ.lo
  have hc : (runR regs l inp n).ts.count t = sumR (oneQ l) inp (costR t (oneQ l)) k (startR regs) := by
    rw [h5.ts]
    unfold runR
    rw [run_cost hQ hT.hasB k _ (by show 0 < (oneQ l).length; omega)]
    simp [startR]
  have hz := lazy_cost (inp := inp) (fxOf t (oneQ l)) hF hQ hl hT.op k hk'
  refine ⟨k, h4, hk', hc, ?_⟩
  by_cases hA : oneAny t l = true
  · have e1 : oneR regs l t = regs + 1 := if_pos hA
    have e2 : oneL regs l t = applyL regs t (oneX t l) (oneY t l) (oneQ l) := if_pos hA
    rw [e1, e2] at hb ⊢
    obtain ⟨j, _, j2, j3, j4⟩ := apply_ended hQ hT (lazy_held hF hQ hT.op) k hk
    rw [run_once hb j2]
    exact ⟨j3.trans hz, fun v hv => by rw [h5.ts]; exact j4 v hv⟩
  · have e1 : oneR regs l t = regs := if_neg hA
    have e2 : oneL regs l t = l := if_neg hA
    rw [e1, e2] at hb ⊢
    rw [run_once hb ha]
    obtain ⟨x1, x2⟩ := any_none (yno hA)
    refine ⟨?_, fun v _ => rfl⟩
    rw [hc, ← hz]
    have key : ∀ n, n < (oneQ l).length → costR t (oneQ l) n = costP t (oneQ l) (lazyX (oneQ l) (fxOf t (oneQ l))) (lazyY t (oneQ l) (fxOf t (oneQ l))) n := fun n hn => by
      unfold costR costP
      rw [show yn (lazyX (oneQ l) (fxOf t (oneQ l))) n = false from x1 n, show yn (lazyY t (oneQ l) (fxOf t (oneQ l))) n = false from x2 n]
      simp
    have y1 := sum_mono (inp := inp) hQ (fun n hn => Nat.le_of_eq (key n hn)) k (startR regs) (by show 0 < (oneQ l).length; omega)
    have y2 := sum_mono (inp := inp) hQ (fun n hn => Nat.le_of_eq (key n hn).symm) k (startR regs) (by show 0 < (oneQ l).length; omega)
    omega
theorem one_saves (h : oneE regs l t = 0) (n : Nat) (ha : (runR regs l inp n).ended = true) :
    (runR (oneR regs l t) (oneL regs l t) inp (n * ((oneL regs l t).length + 1))).ended = true ∧ (runR (oneR regs l t) (oneL regs l t) inp (n * ((oneL regs l t).length + 1))).ts.count t ≤ (runR regs l inp n).ts.count t ∧
    ∀ v, v ≠ t → (runR regs l inp n).ts.count v = (runR (oneR regs l t) (oneL regs l t) inp (n * ((oneL regs l t).length + 1))).ts.count v := by
  have hb := (One.doing (inp := inp) h).ends n ha
  obtain ⟨k, _, h1, h2, h3, h4⟩ := one_ended h ha hb
  obtain ⟨h0, h5, _⟩ := oneE_parts h
  have hR := right_of_chk (fxE_chk h0)
  have h6 := early_le_rec (inp := inp) (fxOf_is t (oneQ l)) (oneQ_right (fxE_chk h0) h5) (lone_split hR.trim) (fxE_op h0) k h1
  exact ⟨hb, by omega, h4⟩
end
end
section
def LessW (r : Int) (l : List Nd) (r' : Int) (l' : List Nd) (inp : List Int) : Prop :=
  ∀ n, (runR r l inp n).ended = true → ∃ m, (runR r' l' inp m).ended = true ∧ ∀ v, (runR r' l' inp m).ts.count v ≤ (runR r l inp n).ts.count v
section
variable {r r' r'' : Int} {l l' l'' : List Nd} {inp : List Int}
theorem LessW.self : LessW r l r l inp := fun n he => ⟨n, he, fun v => Nat.le_refl _⟩
theorem LessW.trans (h : LessW r l r' l' inp) (h' : LessW r' l' r'' l'' inp) : LessW r l r'' l'' inp := fun n he => by
  obtain ⟨m, h1, h2⟩ := h n he
  obtain ⟨k, h3, h4⟩ := h' m h1
  exact ⟨k, h3, fun v => Nat.le_trans (h4 v) (h2 v)⟩
theorem LessW.one {t : Tm} (h : oneE r l t = 0) : LessW r l (oneR r l t) (oneL r l t) inp := fun n he => by
  obtain ⟨h1, h2, h3⟩ := one_saves (inp := inp) h n he
  refine ⟨_, h1, fun v => ?_⟩
  by_cases hv : v = t
  · rw [hv]; exact h2
  · rw [h3 v hv]; exact Nat.le_refl _
theorem LessW.all : ∀ (ts : List Tm) {r : Int} {l : List Nd}, (allGo ts r l).1 = 0 → LessW r l (allGo ts r l).2.1 (allGo ts r l).2.2 inp
  | [], r, l, h => LessW.self
  | t :: ts, r, l, h => by
    unfold allGo at h ⊢
    by_cases h0 : oneE r l t = 0
    · rw [if_neg (by simp [h0])] at h ⊢
      exact (LessW.one h0).trans (LessW.all ts h)
    · rw [if_pos h0] at h
      exact absurd h h0
theorem LessW.trim (hR : Right r l) : LessW r l r (trimL l) inp := fun n he => by
  have h := run_trim (inp := inp) hR n
  exact ⟨n, by rw [← h.alike.ended]; exact he, fun v => by rw [h.alike.ts]; exact Nat.le_refl _⟩
theorem LessW.dead (h : Hushes l l') (hR : Right r l) : LessW r l r l' inp := fun n he => by
  obtain ⟨_, _, h1⟩ := run_hush (inp := inp) h hR n
  exact ⟨n, by rw [h1.ended]; exact he, h1.cnt⟩
theorem LessW.split (hR : Right r l) : LessW r l r (splitL l) inp := fun n he => by
  obtain ⟨k, _, _, h3⟩ := (split_sim inp hR).run n (split_start hR)
  change SplitR l (runR r l inp n) (runR r (splitL l) inp k) at h3
  exact ⟨k, by rw [← (SplitR.alike h3).ended]; exact he, fun v => by rw [(SplitR.alike h3).ts]; exact Nat.le_refl _⟩
end
theorem PassIs.less {n r : Int} {l : List Nd} {r' : Int} {l' : List Nd} {inp : List Int} (h : PassIs n r l 0 r' l') (hR : Right r l) : LessW r l r' l' inp := by
  rcases h with ⟨_, ⟨_, h, _⟩ | ⟨h1, _, rfl, rfl⟩⟩ | ⟨_, ⟨h1, h2, _⟩ | ⟨h1, _, rfl, rfl⟩⟩ | ⟨_, _, rfl, h⟩ | ⟨_, _, rfl, rfl⟩
  · cases h
  · exact LessW.split hR
  · exact absurd h2.symm h1
  · refine LessW.all _ ?_
    unfold allE at h1
    rw [if_neg (by rw [hR.chk]; simp)] at h1
    exact h1
  · exact LessW.dead h.1 hR
  · exact LessW.trim hR
theorem Psq.less {ns : List Int} {r : Int} {l : List Nd} {c r' : Int} {l' : List Nd} {inp : List Int} (h : Psq ns r l c r' l') : c = 0 → Right r l → LessW r l r' l' inp := by
  induction h with
  | nil => exact fun _ hR => .self
  | bad h hc => exact fun e _ => absurd e hc
  | next h h2 ih => exact fun e hR => (h.less hR).trans (ih e (h.right hR))
theorem ended_same {r : Int} {l : List Nd} {inp : List Int} {m n : Nat} (hm : (runR r l inp m).ended = true) (hn : (runR r l inp n).ended = true) : runR r l inp m = runR r l inp n := by
  rcases Nat.le_total m n with h | h
  · obtain ⟨d, rfl⟩ : ∃ d, n = m + d := ⟨n - m, by omega⟩
    have e : runR r l inp (m + d) = goR l inp d (runR r l inp m) := by unfold runR; rw [goR_add]
    rw [e, goR_ended hm]
  · obtain ⟨d, rfl⟩ : ∃ d, m = n + d := ⟨m - n, by omega⟩
    have e : runR r l inp (n + d) = goR l inp d (runR r l inp n) := by unfold runR; rw [goR_add]
    rw [e, goR_ended hn]
theorem len_counts : ∀ {a b : List Tm}, (∀ v, b.count v ≤ a.count v) → b.length ≤ a.length := by
  intro a b
  induction b generalizing a with
  | nil => intro _; exact Nat.zero_le _
  | cons x b ih =>
    intro h
    have hx : x ∈ a := List.count_pos_iff.1 (by have := h x; rw [List.count_cons_self] at this; omega)
    have h1 : b.length ≤ (a.erase x).length := ih fun v => by
      have hv := h v
      rw [List.count_erase]
      by_cases e : x = v
      · subst e
        rw [List.count_cons_self] at hv
        simp
        omega
      · rw [List.count_cons_of_ne (by simpa using e)] at hv
        rw [if_neg (by simpa using fun e' => e e')]
        omega
    rw [List.length_erase_of_mem hx] at h1
    have := List.length_pos_of_mem hx
    rw [List.length_cons]
    omega
def totalL (l : List (Tm × Int)) : Int := (l.map Prod.snd).sum
theorem totalL_once : ∀ (l : List (Tm × Int)) (t : Tm), totalL (onceL l t) = totalL l + 1
  | [], t => by simp [onceL, totalL]
  | (u, n) :: l, t => by
    unfold onceL
    have ih := totalL_once l t
    unfold totalL at ih ⊢
    split
    · simp only [List.map_cons, List.sum_cons] at *
      omega
    · split
      · simp only [List.map_cons, List.sum_cons]
        omega
      · simp only [List.map_cons, List.sum_cons]
        omega
theorem totalL_counts (ts : List Tm) : totalL (countsL ts) = ts.length := by
  have h : ∀ (ts : List Tm) (l : List (Tm × Int)), totalL (ts.foldl onceL l) = totalL l + ts.length := fun ts => by
    induction ts with
    | nil => intro l; simp
    | cons t ts ih =>
      intro l
      rw [List.foldl_cons, ih, totalL_once, List.length_cons]
      omega
  rw [countsL, h]
  simp [totalL]
theorem Psq.total {ns : List Int} {r : Int} {l : List Nd} {r' : Int} {l' : List Nd} (inp : List Int) (h : Psq ns r l 0 r' l') (hR : Right r l) (n : Nat) (he : (runR r l inp n).ended = true) :
    (runR r' l' inp (n * (l'.length + 1))).ts.length ≤ (runR r l inp n).ts.length := by
  have h1 := (h.doing (inp := inp) rfl hR).ends n he
  obtain ⟨m, h2, h3⟩ := h.less (inp := inp) rfl hR n he
  rw [ended_same h1 h2]
  exact len_counts h3
end
section
open Go.RowKit
set_option maxHeartbeats 2000000
end
section
open Go.RowKit
set_option maxHeartbeats 4000000
attribute [local irreducible] Row CRow madeCells
abbrev Ct.val (n : Ct) : Value := .agg #[.int .i64 n.1.op, .int .i64 n.1.a, .int .i64 n.1.b, .int .i64 n.2]
theorem cntOf_at : ∀ {cs : List Ct} {k : Nat} {x : Ct} {t : Tm}, cs[k]? = some x → x.1 = t → (∀ j y, j < k → cs[j]? = some y → y.1 ≠ t) → cntOf cs t = x.2
 | [], k, x, t, h, _, _ => by simp at h
 | (u, n) :: cs, 0, x, t, h, ht, _ => by (
 simp at h
 subst h
 rw [cntOf_cons, if_pos ht])
 | (u, n) :: cs, k + 1, x, t, h, ht, hno => by (
 rw [cntOf_cons, if_neg (hno 0 (u, n) (by omega) rfl)]
 exact cntOf_at (by simpa using h) ht fun j y hj hy => hno (j + 1) y (by omega) (by simpa using hy))
theorem cntOf_no {cs : List Ct} {t : Tm} (h : ∀ j y, j < cs.length → cs[j]? = some y → y.1 ≠ t) : cntOf cs t = 0 :=
 cntOf_none fun x hx => by (
 obtain ⟨j, hj, e⟩ := List.getElem_of_mem hx
 exact h j x hj (by rw [List.getElem?_eq_getElem hj, e]))
theorem Times_any (O : Option Addr) (on oc : Nat) (rt : Int) (en : Bool) (st : Int) (C : Option Addr) (cc : Nat) (cs : List Ct) (t : Tm) (w : World) (hC : CtsAt w C cs) (hl : cs.length ≤ maxLen) :
 Calls Tryz.prog 26 #[.agg #[.slice O on oc, .int .i64 rt, .bool en, .int .i64 st, .slice C cs.length cc], .agg #[.int .i64 t.op, .int .i64 t.a, .int .i64 t.b]] w fun e w' => e = .returned (.int .i64 (cntOf cs t)) ∧ Below w.heap.size w w' := by (
 unfold maxLen at hl
 go_enter Tryz.func26, Tryz.ntmps26
 go_wp2_with fail
 go_loopg [10] (cs.length) (fun gk i wr => ∃ k : Nat, k ≤ cs.length ∧ i = .int .i64 k ∧ gk = cs.length - k ∧ (∀ j y, j < k → cs[j]? = some y → y.1 ≠ t) ∧ Blk wr (w.heap.size + 1) 41 #[.int .i64 t.op, .int .i64 t.a, .int .i64 t.b] ∧ Below w.heap.size w wr)
 case atStart => exact ⟨0, Nat.zero_le _, rfl, by omega, fun j y hj => by omega, (by repeat (first | ((with_reducible refine Blk.new' ?_); exact (by (try simp only [Sz]); first | done | omega | (try simp only [Sz] at *); omega)) | (with_reducible refine Blk.drew ?_) | (with_reducible refine Blk.drewN ?_ _) | (with_reducible refine Blk.alloc ?_ _) | with_reducible assumption)), (by (with_reducible repeat first | apply Qa | assumption | apply Qb | apply Qc | apply Qd | apply Qe | refine Qf ?_ (by assumption) ?_); all_goals (try simp only [Sz]); first | done | omega | (try simp only [Sz] at *); omega)⟩
 case round => (
 obtain ⟨k, hk, rfl, hgk, hno, hT, hBl⟩ := hrel
 have Hgk := hide hgk
 have Hno := hide hno
 clear hgk hno
 by_cases hlt : k < cs.length
 · (
 obtain ⟨b, o, x, rfl, hab, hx, hxl⟩ := (hC.below hBl).get hlt
 have Hx := hide hx
 have k0 : (0 : Int) ≤ (k : Int) := by omega
 have k1 : (k : Int) < (cs.length : Int) := by omega
 obtain ⟨c0, c1, c2, c3⟩ := hxl
 have q0 := hT.cell 0
 have q1 := hT.cell 1
 have q2 := hT.cell 2
 have lT := hT.lt
 simp only [Yl] at q0 q1 q2
 have hgd := guardTerm
 have hEq := fun W => run_eq_term x.1 t W
 unfold Tm.val at hEq
 have HT := hide hT
 have HB := hide hBl
 cases hq : (x.1 == t)
 case false => (
 rw [hq] at hEq
 have Hq := hide hq
 clear hC hx hq hT hBl
 go_wp2_with fail
 go_roundg (cs.length - (k + 1))
 case measure => have := Hgk.out; omega
 case rel => (
 have hBl := HB.out
 refine ⟨k + 1, by omega, by go_num, rfl, fun j y hj hy => ?_, HT.out.alloc _, (by (with_reducible repeat first | apply Qa | assumption | apply Qb | apply Qc | apply Qd | apply Qe | refine Qf ?_ (by assumption) ?_); all_goals (try simp only [Sz]); first | done | omega | (try simp only [Sz] at *); omega)⟩
 by_cases hjk : j = k
 · (
 subst hjk
 rw [Hx.out] at hy
 injection hy with hy
 subst hy
 simpa using Hq.out)
 · exact Hno.out j y (by omega) hy))
 case true => (
 rw [hq] at hEq
 have hf : cntOf cs t = x.2 := cntOf_at Hx.out (by simpa using hq) Hno.out
 have Hf := hide hf
 clear hC hx hq hf hT hBl
 go_wp2_with fail
 go_ret
 have hBl := HB.out
 exact ⟨by rw [Hf.out]; rfl, (by (with_reducible repeat first | apply Qa | assumption | apply Qb | apply Qc | apply Qd | apply Qe | refine Qf ?_ (by assumption) ?_); all_goals (try simp only [Sz]); first | done | omega | (try simp only [Sz] at *); omega)⟩))
 · (
 have hf : cntOf cs t = 0 := cntOf_no fun j y hj hy => Hno.out j y (by omega) hy
 have Hf := hide hf
 clear hf hC
 go_wp2_with fail
 go_ret
 exact ⟨by rw [Hf.out]; rfl, hBl⟩)))
end
end Go.Proofs.YtmghkonmfbpjcaaGreatDoor
