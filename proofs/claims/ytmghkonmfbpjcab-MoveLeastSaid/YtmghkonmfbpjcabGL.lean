/- MsO MsZ Lies. -/
import Derived.Test.YtmghkonmfbpjcabGK
import Derived.Test.YtmghkonmfbpjcabMs8
import Derived.Test.YtmghkonmfbpjcabMvX
import Derived.Test.YtmghkonmfbpjcabGD
import Derived.Test.YtmghkonmfbpjcabGA
import Derived.Test.YtmghkonmfbpjcabGI
set_option linter.unusedVariables false
set_option linter.unusedSimpArgs false
namespace Go.Proofs.Ytmghkonmfbpjcab
section
open Go.RowKit
set_option maxHeartbeats 8000000
attribute [local irreducible] Row CRow madeCells NRow
set_option maxRecDepth 100000 in
theorem once_err (regs : Int) (A : Option Addr) (l : List Nd) (cap : Nat) (t : Tm) (w : World) (hA : NodesAt w A l) (hml : l.length ≤ maxLen) (h0 : oneE regs l t ≠ 0) :
 Calls Try.prog 5 #[.agg #[.int .i64 regs, .slice A l.length cap], .agg #[.int .i64 t.op, .int .i64 t.a, .int .i64 t.b]] w fun e w' => e = .returned (.bool true) ∧ Below w.heap.size w w' := by (
 have H0 := hide h0
 have hne : (oneE regs l t != 0) = true := by simpa using h0
 clear h0
 have HOn := hide (fun W (hW : Below w.heap.size w W) => One_any regs A l cap t W hml (hA.below hW))
 clear hA
 go_enter Try.func5, Try.ntmps5
 go_wp2_with fail
 refine (HOn.out _ (by (with_reducible repeat first | apply Qa | assumption | apply Qb | apply Qc | apply Qd | apply Qe | refine Qf ?_ (by assumption) ?_); all_goals (try simp only [Sz]); first | done | omega | (try simp only [Sz] at *); omega)).mono ?_
 rintro e w1 ⟨hb, h1⟩
 have hz1 := hb.size
 simp only [World.size_alloc] at hz1
 have hB : Below w.heap.size w w1 := (by (with_reducible repeat first | apply Qa | assumption | apply Qb | apply Qc | apply Qd | apply Qe | refine Qf ?_ (by assumption) ?_); all_goals (try simp only [Sz]); first | done | omega | (try simp only [Sz] at *); omega)
 have hp : Blk w1 (w.heap.size) 24 #[.int .i64 regs, .slice A l.length cap] := Blk.below (by skip; repeat (first | ((with_reducible refine Blk.new' ?_); exact (by (try simp only [Sz]); first | done | omega | (try simp only [Sz] at *); omega)) | (with_reducible refine Blk.alloc ?_ _))) hb (by simp <;> omega)
 have ht : Blk w1 (w.heap.size + 1) 42 (tmA t) := Blk.below (by unfold tmA; repeat (first | ((with_reducible refine Blk.new' ?_); exact (by (try simp only [Sz]); first | done | omega | (try simp only [Sz] at *); omega)) | (with_reducible refine Blk.alloc ?_ _))) hb (by simp <;> omega)
 clear hb hz1
 obtain ⟨-, rfl⟩ := h1.resolve_right (fun h => H0.out h.1)
 clear h1 H0
 generalize oneE regs l t = er at *
 clear hp ht
 go_wp2_with fail
 refine (moveBegun_any _).mono ?_
 rintro e w3 ⟨rfl, hb3⟩
 have hz3 := hb3.size
 go_wp2_with fail
 go_ret
 exact ⟨rfl, (hB.alloc hB.size _).trans (hb3.mono (by have := hB.size; simp; omega))⟩)
set_option maxRecDepth 100000 in
theorem once_ok (regs : Int) (A : Option Addr) (l : List Nd) (cap : Nat) (t : Tm) (w : World) (hA : NodesAt w A l) (hml : l.length ≤ maxLen) (h0 : oneE regs l t = 0) :
 Calls Try.prog 5 #[.agg #[.int .i64 regs, .slice A l.length cap], .agg #[.int .i64 t.op, .int .i64 t.a, .int .i64 t.b]] w fun e w' => e = .returned (.bool true) ∧ Below w.heap.size w w' := by (
 obtain ⟨k1, k2, k3, k4⟩ := one_again h0
 have hRq := One.right h0
 have HOn := (fun W (hW : Below w.heap.size w W) => (One_any regs A l cap t W hml (hA.below hW)).mono fun _ _ h => OnePost.ok h h0)
 clear h0 hA
 generalize oneL regs l t = qL at *
 generalize oneR regs l t = qR at *
 have hqm : qL.length ≤ maxLen := by have := hRq.hi; unfold maxLen; omega
 have HO2 := hide (fun (W : World) B bc (hN : NodesAt W B qL) => (One_any qR B qL bc t W hqm hN).mono fun _ _ h => by have h := OnePost.ok h k2; rw [k3, k4] at h; exact h)
 have HTr := (fun (W : World) B bc (hN : NodesAt W B qL) => (Trim_any qR B qL bc W hqm hN).mono fun _ _ h => TrimPost.ok h hRq.chk)
 have hRu := hRq.trim
 unfold oneQ at k1
 generalize trimL qL = uL at *
 have hum : uL.length ≤ maxLen := by have := hRu.hi; unfold maxLen; omega
 have HSp := hide (fun (W : World) B bc (hN : NodesAt W B uL) => (Split_any qR B uL bc W hum hN).mono fun _ _ h => SplitGPost.ok h hRu.chk k1)
 have HSm := hide (fun (W : World) B bc C cc (hN : NodesAt W B qL) (hM : NodesAt W C qL) => by
  have h := SameProgs_any qR qR B C qL qL bc cc W hN hM hqm hqm
  rw [show (qR == qR && qL == qL) = true by simp] at h
  exact h)
 generalize splitL uL = sL at *
 have HOn := hide HOn
 have HTr := hide HTr
 clear k1 k2 k3 k4 hRq hRu
 go_enter Try.func5, Try.ntmps5
 go_wp2_with fail
 refine (HOn.out _ (by (with_reducible repeat first | apply Qa | assumption | apply Qb | apply Qc | apply Qd | apply Qe | refine Qf ?_ (by assumption) ?_); all_goals (try simp only [Sz]); first | done | omega | (try simp only [Sz] at *); omega)).mono ?_
 rintro e w1 ⟨hb, v, rfl, hr⟩
 have hz1 := hb.size
 simp only [World.size_alloc] at hz1
 have hB : Below w.heap.size w w1 := (by (with_reducible repeat first | apply Qa | assumption | apply Qb | apply Qc | apply Qd | apply Qe | refine Qf ?_ (by assumption) ?_); all_goals (try simp only [Sz]); first | done | omega | (try simp only [Sz] at *); omega)
 have hp : Blk w1 (w.heap.size) 24 #[.int .i64 regs, .slice A l.length cap] := Blk.below (by skip; repeat (first | ((with_reducible refine Blk.new' ?_); exact (by (try simp only [Sz]); first | done | omega | (try simp only [Sz] at *); omega)) | (with_reducible refine Blk.alloc ?_ _))) hb (by simp <;> omega)
 have ht : Blk w1 (w.heap.size + 1) 42 (tmA t) := Blk.below (by unfold tmA; repeat (first | ((with_reducible refine Blk.new' ?_); exact (by (try simp only [Sz]); first | done | omega | (try simp only [Sz] at *); omega)) | (with_reducible refine Blk.alloc ?_ _))) hb (by simp <;> omega)
 clear hb hz1
 obtain ⟨qA, qc, qe, _, _⟩ := hr.shape
 subst qe
 have qq := hr
 clear hr
 have hT0 := ht.lt
 go_upto_region 2 with fail
 obtain ⟨W1, hW1⟩ : ∃ W : World, W = w1.alloc (.cells #[.int .i64 qR, .slice qA qL.length qc] 24) := ⟨_, rfl⟩
 have hb : Below w1.heap.size w1 W1 := by rw [hW1]; exact (Below.refl _ _).alloc (Nat.le_refl _) _
 have hq : Blk W1 w1.heap.size 24 #[.int .i64 qR, .slice qA qL.length qc] := by rw [hW1]; exact Blk.new' rfl
 rw [← hW1]
 replace hp := hp.below hb hp.lt
 replace ht := ht.below hb ht.lt
 replace qq := qq.below' hb
 replace hB := hB.trans (hb.mono hB.size)
 obtain ⟨gq, hgq⟩ : ∃ b, b = w1.heap.size := ⟨_, rfl⟩
 rw [← hgq] at hq ⊢
 clear hW1 hgq hb hT0
 have q0 := hq.cell 0
 have q1 := hq.cell 1
 simp only [tmA, Yl] at q0 q1
 have lq := hq.lt
 go_wp2_with fail
 refine (HTr.out _ _ _ qq.nodes).mono ?_
 rintro e w2 ⟨hb, v, rfl, hr⟩
 clear q0 q1 lq
 replace hp := hp.below hb hp.lt
 replace ht := ht.below hb ht.lt
 replace hq := hq.below hb hq.lt
 replace qq := qq.below' hb
 replace hB := hB.trans (hb.mono hB.size)
 clear hb
 obtain ⟨uA, uc, ue, _, _⟩ := hr.shape
 subst ue
 have qu := hr
 clear hr
 have hT0 := hq.lt
 go_upto_region 5 with fail
 obtain ⟨W2, hW2⟩ : ∃ W : World, W = w2.alloc (.cells #[.int .i64 qR, .slice uA uL.length uc] 24) := ⟨_, rfl⟩
 have hb : Below w2.heap.size w2 W2 := by rw [hW2]; exact (Below.refl _ _).alloc (Nat.le_refl _) _
 have hu : Blk W2 w2.heap.size 24 #[.int .i64 qR, .slice uA uL.length uc] := by rw [hW2]; exact Blk.new' rfl
 rw [← hW2]
 replace hp := hp.below hb hp.lt
 replace ht := ht.below hb ht.lt
 replace hq := hq.below hb hq.lt
 replace qq := qq.below' hb
 replace qu := qu.below' hb
 replace hB := hB.trans (hb.mono hB.size)
 obtain ⟨gu, hgu⟩ : ∃ b, b = w2.heap.size := ⟨_, rfl⟩
 rw [← hgu] at hu ⊢
 clear hW2 hgu hb hT0
 have u0 := hu.cell 0
 have u1 := hu.cell 1
 simp only [tmA, Yl] at u0 u1
 have lu := hu.lt
 go_wp2_with fail
 refine (HSp.out _ _ _ qu.nodes).mono ?_
 rintro e w3 ⟨hb, v, rfl, hr⟩
 clear u0 u1 lu
 replace hp := hp.below hb hp.lt
 replace ht := ht.below hb ht.lt
 replace hq := hq.below hb hq.lt
 replace hu := hu.below hb hu.lt
 replace qq := qq.below' hb
 replace qu := qu.below' hb
 replace hB := hB.trans (hb.mono hB.size)
 clear hb
 obtain ⟨sA, sc, se, _, _⟩ := hr.shape
 subst se
 have qs := hr
 clear hr
 have hT0 := hu.lt
 go_upto_region 6 with fail
 obtain ⟨W3, hW3⟩ : ∃ W : World, W = w3.alloc (.cells #[.int .i64 qR, .slice sA sL.length sc] 24) := ⟨_, rfl⟩
 have hb : Below w3.heap.size w3 W3 := by rw [hW3]; exact (Below.refl _ _).alloc (Nat.le_refl _) _
 have hs : Blk W3 w3.heap.size 24 #[.int .i64 qR, .slice sA sL.length sc] := by rw [hW3]; exact Blk.new' rfl
 rw [← hW3]
 replace hp := hp.below hb hp.lt
 replace ht := ht.below hb ht.lt
 replace hq := hq.below hb hq.lt
 replace hu := hu.below hb hu.lt
 replace qq := qq.below' hb
 replace qu := qu.below' hb
 replace qs := qs.below' hb
 replace hB := hB.trans (hb.mono hB.size)
 obtain ⟨gs, hgs⟩ : ∃ b, b = w3.heap.size := ⟨_, rfl⟩
 rw [← hgs] at hs ⊢
 clear hW3 hgs hb hT0
 have q0 := hq.cell 0
 have q1 := hq.cell 1
 have t0 := ht.cell 0
 have t1 := ht.cell 1
 have t2 := ht.cell 2
 simp only [tmA, Yl] at q0 q1 t0 t1 t2
 have lq := hq.lt
 have lt := ht.lt
 go_wp2_with fail
 refine (HO2.out _ _ _ qq.nodes).mono ?_
 rintro e w4 ⟨hb, v, rfl, hr⟩
 clear q0 q1 t0 t1 t2 lq lt
 replace hp := hp.below hb hp.lt
 replace ht := ht.below hb ht.lt
 replace hq := hq.below hb hq.lt
 replace hu := hu.below hb hu.lt
 replace hs := hs.below hb hs.lt
 replace qq := qq.below' hb
 replace qu := qu.below' hb
 replace qs := qs.below' hb
 replace hB := hB.trans (hb.mono hB.size)
 clear hb
 obtain ⟨rA, rc, re, _, _⟩ := hr.shape
 subst re
 have qr := hr
 clear hr
 have hT0 := hs.lt
 go_upto_region 7 with fail
 obtain ⟨W4, hW4⟩ : ∃ W : World, W = w4.alloc (.cells #[.int .i64 qR, .slice rA qL.length rc] 24) := ⟨_, rfl⟩
 have hb : Below w4.heap.size w4 W4 := by rw [hW4]; exact (Below.refl _ _).alloc (Nat.le_refl _) _
 have hr : Blk W4 w4.heap.size 24 #[.int .i64 qR, .slice rA qL.length rc] := by rw [hW4]; exact Blk.new' rfl
 rw [← hW4]
 replace hp := hp.below hb hp.lt
 replace ht := ht.below hb ht.lt
 replace hq := hq.below hb hq.lt
 replace hu := hu.below hb hu.lt
 replace hs := hs.below hb hs.lt
 replace qq := qq.below' hb
 replace qu := qu.below' hb
 replace qs := qs.below' hb
 replace qr := qr.below' hb
 replace hB := hB.trans (hb.mono hB.size)
 obtain ⟨gr, hgr⟩ : ∃ b, b = w4.heap.size := ⟨_, rfl⟩
 rw [← hgr] at hr ⊢
 clear hW4 hgr hb hT0
 go_wp2_with fail
 refine (moveBegun_any _).mono ?_
 rintro e w5 ⟨rfl, hb⟩
 replace hp := hp.below hb hp.lt
 replace ht := ht.below hb ht.lt
 replace hq := hq.below hb hq.lt
 replace hu := hu.below hb hu.lt
 replace hs := hs.below hb hs.lt
 replace hr := hr.below hb hr.lt
 replace qq := qq.below' hb
 replace qu := qu.below' hb
 replace qs := qs.below' hb
 replace qr := qr.below' hb
 replace hB := hB.trans (hb.mono hB.size)
 clear hb
 have q0 := hq.cell 0
 have q1 := hq.cell 1
 have r0 := hr.cell 0
 have r1 := hr.cell 1
 simp only [tmA, Yl] at q0 q1 r0 r1
 have lq := hq.lt
 have lr := hr.lt
 go_wp2_with fail
 refine (HSm.out _ _ _ _ _ qr.nodes qq.nodes).mono ?_
 rintro e w6 ⟨rfl, hb⟩
 clear q0 q1 r0 r1 lq lr
 replace hp := hp.below hb hp.lt
 replace ht := ht.below hb ht.lt
 replace hq := hq.below hb hq.lt
 replace hu := hu.below hb hu.lt
 replace hs := hs.below hb hs.lt
 replace hr := hr.below hb hr.lt
 replace qq := qq.below' hb
 replace qu := qu.below' hb
 replace qs := qs.below' hb
 replace qr := qr.below' hb
 replace hB := hB.trans (hb.mono hB.size)
 clear hb
 go_wp2_with fail
 go_ret
 exact ⟨rfl, hB⟩)
theorem MoveOnce_any (regs : Int) (A : Option Addr) (l : List Nd) (cap : Nat) (t : Tm) (w : World) (hA : NodesAt w A l) (hml : l.length ≤ maxLen) :
 Calls Try.prog 5 #[.agg #[.int .i64 regs, .slice A l.length cap], tmV t] w fun e w' => e = .returned (.bool true) ∧ Below w.heap.size w w' := by (
 by_cases h0 : oneE regs l t = 0
 · exact once_ok regs A l cap t w hA hml h0
 · exact once_err regs A l cap t w hA hml h0)
end
section
open Go.RowKit
structure SavesOk (R1 R2 : Rs) (t : Tm) : Prop where
  ended : R2.ended = true
  less : cntOf R2.cts t ≤ cntOf R1.cts t
  one : ∀ x ∈ R1.cts, x.1 ≠ t → cntOf R2.cts x.1 = x.2
  two : ∀ x ∈ R2.cts, x.1 ≠ t → cntOf R1.cts x.1 = x.2
theorem saves_told {regs : Int} {l : List Nd} {t : Tm} (inp : List Int) (h0 : oneE regs l t = 0) (n : Nat) (he : (runR regs l inp n).told.ended = true) :
    SavesOk (runR regs l inp n).told (runR (oneR regs l t) (oneL regs l t) inp (n * ((oneL regs l t).length + 1))).told t := by
  obtain ⟨h1, h2, h3⟩ := one_saves (inp := inp) h0 n he
  have hc : ∀ (s : Rn) (v : Tm), cntOf s.told.cts v = (s.ts.count v : Int) := fun s v => countsL_cnt s.ts v
  have hm : ∀ (s : Rn) (x : Tm × Int), x ∈ s.told.cts → cntOf s.told.cts x.1 = x.2 := fun s x hx => cntOf_mem (countsL_asc s.ts) hx
  refine ⟨h1, by rw [hc, hc]; omega, fun x hx hne => ?_, fun x hx hne => ?_⟩
  · rw [← hm _ x hx, hc, hc, h3 _ hne]
  · rw [← hm _ x hx, hc, hc, h3 _ hne]
end
section
open Go.RowKit
def Lies (W w : World) : Prop := Below W.heap.size W w
theorem Lies.refl (W : World) : Lies W W := Below.refl _ _
theorem Lies.step {W w w' : World} (h : Lies W w) (hb : Below w.heap.size w w') : Lies W w' := Below.trans h (hb.mono h.size)
theorem Lies.drew {W w : World} (h : Lies W w) : Lies W w.drew := Below.drew h
theorem Lies.from_ {w w4 W : World} (h : Below w.heap.size w w4) (hL : Lies w4 W) : Below w.heap.size w W := Below.trans h (Below.mono hL h.size)
theorem Lies.below_ {w4 W : World} (hL : Lies w4 W) : Below w4.heap.size w4 W := hL
end
end Go.Proofs.Ytmghkonmfbpjcab
