/- MsM. -/
import Derived.Test.YtmghkonmfbpjcabGK
import Derived.Test.YtmghkonmfbpjcabGM
import Derived.Test.YtmghkonmfbpjcabMvX
import Derived.Test.YtmghkonmfbpjcabGJ
import Derived.Test.YtmghkonmfbpjcabMvE
import Derived.Test.YtmghkonmfbpjcabGF
import Derived.Deep.DeepCutAuto
import Derived.Test.YtmghkonmfbpjcabGA
set_option linter.unusedVariables false
set_option linter.unusedSimpArgs false
namespace Go.Proofs.Ytmghkonmfbpjcab
section
open Go.RowKit
set_option maxHeartbeats 8000000
attribute [local irreducible] Row CRow madeCells NRow
theorem SplitGPost.some_ {tN : TypeId} {regs : Int} {l : List Nd} {w w' : World} {e : Ending} (h : SplitGPost tN regs l w e w') : Below w.heap.size w w' ∧ ∃ (er r : Int) (v : Value) (ls : List Nd), e = .returned (.tuple #[.agg #[.int .i64 r, v], .int .i64 er]) ∧ NRow w' w.heap.size tN v ls := by
  obtain ⟨hb, ⟨_, rfl⟩ | ⟨_, _, rfl⟩ | ⟨_, _, v, rfl, hr⟩⟩ := h
  · exact ⟨hb, _, _, _, [], rfl, NRow.nil_ _ _ _⟩
  · exact ⟨hb, _, _, _, [], rfl, NRow.nil_ _ _ _⟩
  · exact ⟨hb, _, _, _, _, rfl, hr⟩
set_option maxRecDepth 100000 in
theorem least_chk (regs : Int) (A : Option Addr) (l : List Nd) (cap : Nat) (t : Tm) (X : Option Addr) (x : List Bool) (xc : Nat) (Ai : Option Addr) (inp : List Int) (ci : Nat) (fuel : Int) (w : World) (hA : NodesAt w A l) (hml : l.length ≤ maxLen) (hc : chk regs l ≠ 0) :
    Calls Try.prog 6 #[.agg #[.int .i64 regs, .slice A l.length cap], .agg #[.int .i64 t.op, .int .i64 t.a, .int .i64 t.b], .slice X x.length xc, .slice Ai inp.length ci, .int .i64 fuel] w fun e w' => e = .returned (.bool true) ∧ Below w.heap.size w w' := by
  have Hc := hide hc
  have hne : (chk regs l != 0) = true := by simpa using hc
  clear hc
  have HT := hide (fun W (hW : Below w.heap.size w W) => Trim_any regs A l cap W hml (hA.below hW))
  clear hA
  go_enter Try.func6, Try.ntmps6
  go_wp2_with fail
  refine (HT.out _ (by (with_reducible repeat first | apply Qa | assumption | apply Qb | apply Qc | apply Qd | apply Qe | refine Qf ?_ (by assumption) ?_); all_goals (try simp only [Sz]); first | done | omega | (try simp only [Sz] at *); omega)).mono ?_
  rintro e w1 ⟨hb, h1⟩
  have hz1 := hb.size
  simp only [World.size_alloc] at hz1
  have hB : Below w.heap.size w w1 := (by (with_reducible repeat first | apply Qa | assumption | apply Qb | apply Qc | apply Qd | apply Qe | refine Qf ?_ (by assumption) ?_); all_goals (try simp only [Sz]); first | done | omega | (try simp only [Sz] at *); omega)
  have ho : Blk w1 (w.heap.size) 24 #[.int .i64 regs, .slice A l.length cap] := Blk.below (by skip; repeat (first | ((with_reducible refine Blk.new' ?_); exact (by (try simp only [Sz]); first | done | omega | (try simp only [Sz] at *); omega)) | (with_reducible refine Blk.alloc ?_ _))) hb (by simp <;> omega)
  have ht : Blk w1 (w.heap.size + 1) 42 (tmA t) := Blk.below (by unfold tmA; repeat (first | ((with_reducible refine Blk.new' ?_); exact (by (try simp only [Sz]); first | done | omega | (try simp only [Sz] at *); omega)) | (with_reducible refine Blk.alloc ?_ _))) hb (by simp <;> omega)
  clear hb hz1
  obtain ⟨-, rfl⟩ := h1.resolve_right (fun h => Hc.out h.1)
  clear h1 Hc
  generalize chk regs l = er at *
  clear ho ht
  go_wp2_with fail
  refine (moveBegun_any _).mono ?_
  rintro e w9 ⟨rfl, hb9⟩
  go_wp2_with fail
  go_ret
  exact ⟨rfl, (hB.alloc hB.size _).trans (hb9.mono (by have := hB.size; simp; omega))⟩
set_option maxRecDepth 100000 in
theorem least_one (regs : Int) (A : Option Addr) (l : List Nd) (cap : Nat) (t : Tm) (X : Option Addr) (x : List Bool) (xc : Nat) (Ai : Option Addr) (inp : List Int) (ci : Nat) (fuel : Int) (w : World) (hA : NodesAt w A l) (hml : l.length ≤ maxLen) (hc : chk regs l = 0) (h0 : oneE regs (trimL l) t ≠ 0) :
    Calls Try.prog 6 #[.agg #[.int .i64 regs, .slice A l.length cap], .agg #[.int .i64 t.op, .int .i64 t.a, .int .i64 t.b], .slice X x.length xc, .slice Ai inp.length ci, .int .i64 fuel] w fun e w' => e = .returned (.bool true) ∧ Below w.heap.size w w' := by
  have hR := right_of_chk hc
  have htl := trimL_len l
  have hhi := hR.hi
  have HT := hide (fun W (hW : Below w.heap.size w W) => (Trim_any regs A l cap W hml (hA.below hW)).mono fun _ _ h => TrimPost.ok h hc)
  have Hne := hide h0
  have hne : (oneE regs (trimL l) t != 0) = true := by simpa using h0
  generalize trimL l = pL at *
  have hpm : pL.length ≤ maxLen := by unfold maxLen; omega
  have HOn := hide (fun (W : World) B bc (hN : NodesAt W B pL) => (One_any regs B pL bc t W hpm hN).mono fun _ _ h => OnePost.pg h)
  have HSp := hide (fun (W : World) B bc (hN : NodesAt W B pL) => (Split_any regs B pL bc W hpm hN).mono fun _ _ h => SplitGPost.some_ h)
  generalize oneE regs pL t = er at *
  generalize onR regs pL t = qR at *
  generalize onL regs pL t = qL at *
  clear hA hc hR htl hhi h0 Hne
  go_enter Try.func6, Try.ntmps6
  go_wp2_with fail
  refine (HT.out _ (by (with_reducible repeat first | apply Qa | assumption | apply Qb | apply Qc | apply Qd | apply Qe | refine Qf ?_ (by assumption) ?_); all_goals (try simp only [Sz]); first | done | omega | (try simp only [Sz] at *); omega)).mono ?_
  rintro e w1 ⟨hb, v, rfl, hr⟩
  have hz1 := hb.size
  simp only [World.size_alloc] at hz1
  have hB : Below w.heap.size w w1 := (by (with_reducible repeat first | apply Qa | assumption | apply Qb | apply Qc | apply Qd | apply Qe | refine Qf ?_ (by assumption) ?_); all_goals (try simp only [Sz]); first | done | omega | (try simp only [Sz] at *); omega)
  have ho : Blk w1 (w.heap.size) 24 #[.int .i64 regs, .slice A l.length cap] := Blk.below (by skip; repeat (first | ((with_reducible refine Blk.new' ?_); exact (by (try simp only [Sz]); first | done | omega | (try simp only [Sz] at *); omega)) | (with_reducible refine Blk.alloc ?_ _))) hb (by simp <;> omega)
  have ht : Blk w1 (w.heap.size + 1) 42 (tmA t) := Blk.below (by unfold tmA; repeat (first | ((with_reducible refine Blk.new' ?_); exact (by (try simp only [Sz]); first | done | omega | (try simp only [Sz] at *); omega)) | (with_reducible refine Blk.alloc ?_ _))) hb (by simp <;> omega)
  clear hb hz1
  obtain ⟨pA, pc, pe, _, _⟩ := hr.shape
  subst pe
  have qp := hr
  clear hr
  have hT0 := ht.lt
  go_upto_region 2 with fail
  obtain ⟨W1, hW1⟩ : ∃ W : World, W = w1.alloc (.cells #[.int .i64 regs, .slice pA pL.length pc] 24) := ⟨_, rfl⟩
  have hb : Below w1.heap.size w1 W1 := by rw [hW1]; exact (Below.refl _ _).alloc (Nat.le_refl _) _
  have hp : Blk W1 w1.heap.size 24 #[.int .i64 regs, .slice pA pL.length pc] := by rw [hW1]; exact Blk.new' rfl
  rw [← hW1]
  replace ho := ho.below hb ho.lt
  replace ht := ht.below hb ht.lt
  replace qp := qp.below' hb
  replace hB := hB.trans (hb.mono hB.size)
  obtain ⟨gp, hgp⟩ : ∃ b, b = w1.heap.size := ⟨_, rfl⟩
  rw [← hgp] at hp ⊢
  clear hW1 hgp hb hT0
  have p0 := hp.cell 0
  have p1 := hp.cell 1
  have t0 := ht.cell 0
  have t1 := ht.cell 1
  have t2 := ht.cell 2
  simp only [tmA, Yl] at p0 p1 t0 t1 t2
  have lp := hp.lt
  have lt := ht.lt
  go_wp2_with fail
  refine (HOn.out _ _ _ qp.nodes).mono ?_
  rintro e w2 ⟨hb, v, rfl, hr⟩
  clear p0 p1 t0 t1 t2 lp lt
  replace ho := ho.below hb ho.lt
  replace ht := ht.below hb ht.lt
  replace hp := hp.below hb hp.lt
  replace qp := qp.below' hb
  replace hB := hB.trans (hb.mono hB.size)
  clear hb
  obtain ⟨qA, qc, qe, _, _⟩ := hr.shape
  subst qe
  have qq := hr
  clear hr
  have hT0 := hp.lt
  go_upto_region 5 with fail
  obtain ⟨W2, hW2⟩ : ∃ W : World, W = w2.alloc (.cells #[.int .i64 qR, .slice qA qL.length qc] 24) := ⟨_, rfl⟩
  have hb : Below w2.heap.size w2 W2 := by rw [hW2]; exact (Below.refl _ _).alloc (Nat.le_refl _) _
  have hq : Blk W2 w2.heap.size 24 #[.int .i64 qR, .slice qA qL.length qc] := by rw [hW2]; exact Blk.new' rfl
  rw [← hW2]
  replace ho := ho.below hb ho.lt
  replace ht := ht.below hb ht.lt
  replace hp := hp.below hb hp.lt
  replace qp := qp.below' hb
  replace qq := qq.below' hb
  replace hB := hB.trans (hb.mono hB.size)
  obtain ⟨gq, hgq⟩ : ∃ b, b = w2.heap.size := ⟨_, rfl⟩
  rw [← hgq] at hq ⊢
  clear hW2 hgq hb hT0
  have p0 := hp.cell 0
  have p1 := hp.cell 1
  simp only [tmA, Yl] at p0 p1
  have lp := hp.lt
  go_wp2_with fail
  refine (HSp.out _ _ _ qp.nodes).mono ?_
  rintro e w3 ⟨hb, er2, sR, v, sL, rfl, hr⟩
  clear p0 p1 lp
  replace ho := ho.below hb ho.lt
  replace ht := ht.below hb ht.lt
  replace hp := hp.below hb hp.lt
  replace hq := hq.below hb hq.lt
  replace qp := qp.below' hb
  replace qq := qq.below' hb
  replace hB := hB.trans (hb.mono hB.size)
  clear hb
  obtain ⟨sA, sc, se, _, _⟩ := hr.shape
  subst se
  have qs := hr
  clear hr
  have hT0 := hq.lt
  go_upto_region 6 with fail
  obtain ⟨W3, hW3⟩ : ∃ W : World, W = w3.alloc (.cells #[.int .i64 sR, .slice sA sL.length sc] 24) := ⟨_, rfl⟩
  have hb : Below w3.heap.size w3 W3 := by rw [hW3]; exact (Below.refl _ _).alloc (Nat.le_refl _) _
  have hs : Blk W3 w3.heap.size 24 #[.int .i64 sR, .slice sA sL.length sc] := by rw [hW3]; exact Blk.new' rfl
  rw [← hW3]
  replace ho := ho.below hb ho.lt
  replace ht := ht.below hb ht.lt
  replace hp := hp.below hb hp.lt
  replace hq := hq.below hb hq.lt
  replace qp := qp.below' hb
  replace qq := qq.below' hb
  replace qs := qs.below' hb
  replace hB := hB.trans (hb.mono hB.size)
  obtain ⟨gs, hgs⟩ : ∃ b, b = w3.heap.size := ⟨_, rfl⟩
  rw [← hgs] at hs ⊢
  clear hW3 hgs hb hT0
  clear ho ht hp hq hs
  go_wp2_with fail
  refine (moveBegun_any _).mono ?_
  rintro e w9 ⟨rfl, hb9⟩
  go_wp2_with fail
  go_ret
  exact ⟨rfl, hB.trans (hb9.mono hB.size)⟩
set_option maxRecDepth 100000 in
theorem least_ok (regs : Int) (A : Option Addr) (l : List Nd) (cap : Nat) (t : Tm) (X : Option Addr) (x : List Bool) (xc : Nat) (Ai : Option Addr) (inp : List Int) (ci : Nat) (fuel : Int) (w : World) (hA : NodesAt w A l) (hml : l.length ≤ maxLen) (hX : ValsAt w X (bools x)) (hxc : x.length ≤ xc ∧ xc ≤ maxLen) (hI : ValsAt w Ai (ints inp)) (hic : inp.length ≤ ci ∧ ci ≤ maxLen) (hf : i64ok fuel) (hc : chk regs l = 0) (h0 : oneE regs (trimL l) t = 0) :
    Calls Try.prog 6 #[.agg #[.int .i64 regs, .slice A l.length cap], .agg #[.int .i64 t.op, .int .i64 t.a, .int .i64 t.b], .slice X x.length xc, .slice Ai inp.length ci, .int .i64 fuel] w fun e w' => e = .returned (.bool true) ∧ Below w.heap.size w w' := by
  have hR := right_of_chk hc
  have htl := trimL_len l
  have hhi := hR.hi
  have HT := hide (fun W (hW : Below w.heap.size w W) => (Trim_any regs A l cap W hml (hA.below hW)).mono fun _ _ h => TrimPost.ok h hc)
  have hp := trim_again hR
  generalize trimL l = pL at *
  have hpm : pL.length ≤ maxLen := by unfold maxLen; omega
  obtain ⟨hfs, hRs, hsl⟩ := fxE_split h0 hp
  have hRp := right_of_chk (fxE_chk (oneE_parts h0).1)
  have hRq := One.right h0
  have hcq := hRq.chk
  have hqh := hRq.hi
  have HCh := fun V => hide (choose_any fuel 100 (by omega) (by omega) hf V)
  have hn := chV_in fuel (show (0 : Int) < 100 by omega)
  generalize chV fuel 100 = n at *
  obtain ⟨n', rfl⟩ : ∃ n' : Nat, n = n' := ⟨n.toNat, by omega⟩
  have hn4 : n' ≤ 100 := by omega
  obtain ⟨N, hN⟩ : ∃ N : Nat, N = n' * ((oneL regs pL t).length + 1) := ⟨_, rfl⟩
  have hNN : N ≤ 32768 := by
    have : n' * ((oneL regs pL t).length + 1) ≤ 100 * 257 := Nat.mul_le_mul hn4 (by omega)
    omega
  have HBz := fun pt tk hF ha hM => busy_least2 (inp := fewL inp) hp h0 hNN pt tk hF ha hM
  have HRz := fun x' pt tk hF ha hM => rival_least2 (inp := fewL inp) hp h0 hNN x' pt tk hF ha hM
  have hfi : (fewL inp).length ≤ ci ∧ ci ≤ maxLen := ⟨by have : (fewL inp).length ≤ inp.length := (by unfold fewL; rw [List.length_take]; omega); omega, hic.2⟩
  have hfl := fewL_len inp
  have HF := fun V => hide (few_any Ai inp ci V hic)
  have HOn := hide (fun (W : World) B bc (hN : NodesAt W B pL) => (One_any regs B pL bc t W hpm hN).mono fun _ _ h => OnePost.ok h h0)
  have HSp := hide (fun (W : World) B bc (hN : NodesAt W B pL) => (Split_any regs B pL bc W hpm hN).mono fun _ _ h => SplitGPost.ok h hRp.chk hsl)
  generalize oneL regs pL t = qL at *
  generalize oneR regs pL t = qR at *
  generalize splitL pL = sL at *
  have hqm : qL.length ≤ maxLen := by unfold maxLen; omega
  have hsm : sL.length ≤ maxLen := by unfold maxLen; omega
  have HBu := hide (fun (W : World) B bc (hN : NodesAt W B sL) => (Busy_any regs B sL bc t W hsm hN).mono fun _ _ h => MvPost.ls h hfs)
  have HRi := hide (fun (W : World) B bc (hN : NodesAt W B sL) Y (y : List Bool) yc (hY : ValsAt W Y (bools y)) (hy : y.length = sL.length) => by
    have h := (Rival_any regs B sL bc t Y y yc W hsm hN hY).mono fun _ _ h => RvPost.ls h hfs hy
    rw [hy] at h
    exact h)
  have HAp := hide (fun (W : World) B bc (hN : NodesAt W B sL) Xp Yp pt tk pc kc (hp : ValsAt W Xp (bools pt)) (hk : ValsAt W Yp (bools tk)) => (Apply_any regs B sL bc t Xp Yp pt tk pc kc W hsm hN hp hk).mono fun _ _ h => MaPost.pg h)
  have e1 : IntKind.i64.wrap ((qL.length : Int) + 1) = (qL.length : Int) + 1 := by rw [IntKind.wrap_i64]; omega
  have e2 : IntKind.i64.wrap ((n' : Int) * ((qL.length : Int) + 1)) = (N : Int) := by
    have : (n' : Int) * ((qL.length : Int) + 1) = ((n' * (qL.length + 1) : Nat) : Int) := by simp
    rw [this, ← hN, IntKind.wrap_i64]; omega
  have HRun := hide (fun (V : World) (hV : Below w.heap.size w V) (r : Int) (m : List Nd) B bc (n : Nat) (hM : NodesAt V B m) (hm : m.length ≤ 256) (hc : chk r m = 0) (hn : n ≤ 131072) => Run_got (regs := r) (cap := bc) (n := n) (w := V) (by unfold maxLen; omega) hM ((hI.below hV).few) hfi hc hfl hn)
  have HXV := hide (fun (V : World) (hV : Below w.heap.size w V) => hX.below hV)
  have Hcq := hide hcq
  have hNx : N ≤ 131072 := by omega
  have HBz := hide HBz
  have HRz := hide HRz
  have E1 := hide e1
  have E2 := hide e2
  obtain ⟨ib, hbi, hbz, hbs, hbb⟩ := info_parts infoBoolG
  clear hA hX hI hR hc hRq hcq hn hn4 hfi hfl hf hN hNN e1 e2 htl hhi hp h0 hfs hRs hRp
  go_enter Try.func6, Try.ntmps6
  go_wp2_with fail
  refine (HT.out _ (by (with_reducible repeat first | apply Qa | assumption | apply Qb | apply Qc | apply Qd | apply Qe | refine Qf ?_ (by assumption) ?_); all_goals (try simp only [Sz]); first | done | omega | (try simp only [Sz] at *); omega)).mono ?_
  rintro e w1 ⟨hb, v, rfl, hr⟩
  have hz1 := hb.size
  simp only [World.size_alloc] at hz1
  have hB : Below w.heap.size w w1 := (by (with_reducible repeat first | apply Qa | assumption | apply Qb | apply Qc | apply Qd | apply Qe | refine Qf ?_ (by assumption) ?_); all_goals (try simp only [Sz]); first | done | omega | (try simp only [Sz] at *); omega)
  have ho : Blk w1 (w.heap.size) 24 #[.int .i64 regs, .slice A l.length cap] := Blk.below (by skip; repeat (first | ((with_reducible refine Blk.new' ?_); exact (by (try simp only [Sz]); first | done | omega | (try simp only [Sz] at *); omega)) | (with_reducible refine Blk.alloc ?_ _))) hb (by simp <;> omega)
  have ht : Blk w1 (w.heap.size + 1) 42 (tmA t) := Blk.below (by unfold tmA; repeat (first | ((with_reducible refine Blk.new' ?_); exact (by (try simp only [Sz]); first | done | omega | (try simp only [Sz] at *); omega)) | (with_reducible refine Blk.alloc ?_ _))) hb (by simp <;> omega)
  clear hb hz1
  clear ho
  obtain ⟨pA, pc, pe, _, _⟩ := hr.shape
  subst pe
  have qp := hr
  clear hr
  have hT0 := ht.lt
  go_upto_region 2 with fail
  obtain ⟨W1, hW1⟩ : ∃ W : World, W = w1.alloc (.cells #[.int .i64 regs, .slice pA pL.length pc] 24) := ⟨_, rfl⟩
  have hb : Below w1.heap.size w1 W1 := by rw [hW1]; exact (Below.refl _ _).alloc (Nat.le_refl _) _
  have hp : Blk W1 w1.heap.size 24 #[.int .i64 regs, .slice pA pL.length pc] := by rw [hW1]; exact Blk.new' rfl
  rw [← hW1]
  replace ht := ht.below hb ht.lt
  replace qp := qp.below' hb
  replace hB := hB.trans (hb.mono hB.size)
  obtain ⟨gp, hgp⟩ : ∃ b, b = w1.heap.size := ⟨_, rfl⟩
  rw [← hgp] at hp ⊢
  clear hW1 hgp hb hT0
  have p0 := hp.cell 0
  have p1 := hp.cell 1
  have t0 := ht.cell 0
  have t1 := ht.cell 1
  have t2 := ht.cell 2
  simp only [tmA, Yl] at p0 p1 t0 t1 t2
  have lp := hp.lt
  have lt := ht.lt
  go_wp2_with fail
  refine (HOn.out _ _ _ qp.nodes).mono ?_
  rintro e w2 ⟨hb, v, rfl, hr⟩
  clear p0 p1 t0 t1 t2 lp lt
  replace ht := ht.below hb ht.lt
  replace hp := hp.below hb hp.lt
  replace qp := qp.below' hb
  replace hB := hB.trans (hb.mono hB.size)
  clear hb
  obtain ⟨qA, qc, qe, _, _⟩ := hr.shape
  subst qe
  have qq := hr
  clear hr
  have hT0 := hp.lt
  go_upto_region 5 with fail
  obtain ⟨W2, hW2⟩ : ∃ W : World, W = w2.alloc (.cells #[.int .i64 qR, .slice qA qL.length qc] 24) := ⟨_, rfl⟩
  have hb : Below w2.heap.size w2 W2 := by rw [hW2]; exact (Below.refl _ _).alloc (Nat.le_refl _) _
  have hq : Blk W2 w2.heap.size 24 #[.int .i64 qR, .slice qA qL.length qc] := by rw [hW2]; exact Blk.new' rfl
  rw [← hW2]
  replace ht := ht.below hb ht.lt
  replace hp := hp.below hb hp.lt
  replace qp := qp.below' hb
  replace qq := qq.below' hb
  replace hB := hB.trans (hb.mono hB.size)
  obtain ⟨gq, hgq⟩ : ∃ b, b = w2.heap.size := ⟨_, rfl⟩
  rw [← hgq] at hq ⊢
  clear hW2 hgq hb hT0
  have p0 := hp.cell 0
  have p1 := hp.cell 1
  simp only [tmA, Yl] at p0 p1
  have lp := hp.lt
  go_wp2_with fail
  refine (HSp.out _ _ _ qp.nodes).mono ?_
  rintro e w3 ⟨hb, v, rfl, hr⟩
  clear p0 p1 lp
  replace ht := ht.below hb ht.lt
  replace hp := hp.below hb hp.lt
  replace hq := hq.below hb hq.lt
  replace qp := qp.below' hb
  replace qq := qq.below' hb
  replace hB := hB.trans (hb.mono hB.size)
  clear hb
  obtain ⟨sA, sc, se, _, _⟩ := hr.shape
  subst se
  have qs := hr
  clear hr
  have hT0 := hq.lt
  go_upto_region 6 with fail
  obtain ⟨W3, hW3⟩ : ∃ W : World, W = w3.alloc (.cells #[.int .i64 regs, .slice sA sL.length sc] 24) := ⟨_, rfl⟩
  have hb : Below w3.heap.size w3 W3 := by rw [hW3]; exact (Below.refl _ _).alloc (Nat.le_refl _) _
  have hs : Blk W3 w3.heap.size 24 #[.int .i64 regs, .slice sA sL.length sc] := by rw [hW3]; exact Blk.new' rfl
  rw [← hW3]
  replace ht := ht.below hb ht.lt
  replace hp := hp.below hb hp.lt
  replace hq := hq.below hb hq.lt
  replace qp := qp.below' hb
  replace qq := qq.below' hb
  replace qs := qs.below' hb
  replace hB := hB.trans (hb.mono hB.size)
  obtain ⟨gs, hgs⟩ : ∃ b, b = w3.heap.size := ⟨_, rfl⟩
  rw [← hgs] at hs ⊢
  clear hW3 hgs hb hT0
  clear hp qp HT HOn HSp
  have hz := hB.size
  go_wp2_with (go_at_call 11; refine ((HCh _).out).mono ?_; rintro e w0 ⟨rfl, hw0⟩; rw [hw0]; clear hw0 w0)
  have q0 := hq.cell 0
  have q1 := hq.cell 1
  simp only [tmA, Yl] at q0 q1
  have lq := hq.lt
  have HRa := fun (V : World) (hV : Below W3.heap.size W3 V) => hide (HRun.out V (hB.trans (hV.mono hz)) qR qL qA qc N (qq.nodes.below hV) hqh Hcq.out hNx)
  generalize (runR qR qL (fewL inp) N).told = Ra at *
  have e1 := E1.out
  have e2 := E2.out
  go_upto_region 9 with fail
  go_cut [18, 19] (fun s1 s2 wy => ∃ (b : Nat) (O : Option Addr) (oc : Nat) (C : Option Addr) (cc : Nat), s1 = .pointer (some ⟨b, 0, none⟩) ∧ s2 = .int .i64 0 ∧ ResSt 3 75 33 W3 b O oc C cc Ra wy)
  case first => as_aux_lemma =>
    refine wp_region_held_drew (S := fun w' => w'.cell? ⟨gq, 0, none⟩ = some (.int .i64 qR) ∧ w'.cell? ⟨gq, 1, none⟩ = some (.slice qA qL.length qc)) (by kernel_rfl) ⟨q0, q1⟩ ?_
    intro hH
    have hC0 : Below W3.heap.size W3 W3.drew := (Below.refl _ _).drew
    refine Up (fun _ _ _ _ _ => id) fun hP => ?_
    refine Vi 0 ?_ rfl (by kernel_rfl) hP (by rfl) ?r hH ?_; case r => intro w' h; (try dsimp only at h); (try go_split_ands); go_simp; try with_reducible rfl
    try simp only [Nm]
    refine Vq 1 ?_ rfl (by kernel_rfl) hP (by rfl) ?r hH ?_; case r => intro w'; go_simp; try with_reducible rfl
    try simp only [Nm]
    refine Vq 3 ?_ rfl (by kernel_rfl) hP (by rfl) ?r hH ?_; case r => intro w'; go_simp; try with_reducible rfl
    try simp only [Nm]
    refine Vq 4 ?_ rfl (by kernel_rfl) hP (by rfl) ?r hH ?_; case r => intro w'; go_simp; try with_reducible rfl
    try simp only [Nm]
    refine Vi 5 ?_ rfl (by kernel_rfl) hP (by rfl) ?r hH ?_; case r => intro w' h; (try dsimp only at h); (try go_split_ands); go_simp; try with_reducible rfl
    try simp only [Nm]
    refine Vq 6 ?_ rfl (by kernel_rfl) hP (by rfl) ?r hH ?_; case r => intro w'; go_simp; try with_reducible rfl
    try simp only [Nm]
    refine Vq 7 ?_ rfl (by kernel_rfl) hP (by rfl) ?r hH ?_; case r => intro w'; go_simp; try with_reducible rfl
    try simp only [Nm]
    try simp only [e1]
    refine Vq 8 ?_ rfl (by kernel_rfl) hP (by rfl) ?r hH ?_; case r => intro w'; go_simp; try with_reducible rfl
    try simp only [Nm]
    try simp only [e2]
    refine wpAnyH_ready (rs := [2, 13]) (by kernel_rfl) (by simp) ?_
    refine AllReadyH.cons rfl (fun K hK => ?_) (AllReadyH.cons rfl (fun K hK => ?_) AllReadyH.nil)
    · have HK2 := hide hK
      clear hK
      go_simp
      go_at_call 13
      refine ((HF _).out).mono ?_
      rintro e w0 ⟨rfl, rfl⟩
      refine Shut.out HK2.out _ _ hH (fun _ => ?_)
      try simp only [Nm]
      clear HK2
      refine wpAnyH_ready (rs := [9, 13]) (by kernel_rfl) (by simp) ?_
      refine AllReadyH.cons rfl (fun K hK => ?_) (AllReadyH.cons rfl (fun K hK => ?_) AllReadyH.nil)
      · have HK9 := hide hK
        clear hK
        go_simp
        go_at_call 12
        refine ((HRa _ hC0).out).mono ?_
        rintro e w5 ⟨hc5, O5, oc5, C5, cc5, rfl, hO5⟩
        have hC5 : Below W3.heap.size W3 w5 := hC0.trans (hc5.mono hC0.size)
        clear hH
        have hH : w5.cell? ⟨gq, 0, none⟩ = some (.int .i64 qR) ∧ w5.cell? ⟨gq, 1, none⟩ = some (.slice qA qL.length qc) := ⟨((bcell hC5).1 _ _ lq).trans q0, ((bcell hC5).1 _ _ lq).trans q1⟩
        refine Shut.out HK9.out _ _ hH (fun _ => ?_)
        try simp only [Nm]
        clear HK9
        refine Vq 10 ?_ rfl (by kernel_rfl) hP (by rfl) ?r hH ?_; case r => intro w'; go_simp; try with_reducible rfl
        try simp only [Nm]
        refine Vq 11 ?_ rfl (by kernel_rfl) hP (by rfl) ?r hH ?_; case r => intro w'; go_simp; try with_reducible rfl
        try simp only [Nm]
        refine Vq 12 ?_ rfl (by kernel_rfl) hP (by rfl) ?r hH ?_; case r => intro w'; go_simp; try with_reducible rfl
        try simp only [Nm]
        refine Rd 13 (by kernel_rfl) rfl (fun K hK => ?_)
        have HK13 := hide hK
        clear hK
        go_simp
        obtain ⟨V6, hV6⟩ : ∃ V : World, V = (w5).alloc (.cells #[.slice none 0 0, .int .i64 0, .bool false, .int .i64 0, .slice none 0 0] 33) := ⟨_, rfl⟩
        rw [← hV6]
        have hC6 : Below W3.heap.size W3 V6 := by rw [hV6]; exact Below.alloc hC5 hC5.size _
        have hzV6 : Blk V6 (w5).heap.size 33 #[.slice none 0 0, .int .i64 0, .bool false, .int .i64 0, .slice none 0 0] := by rw [hV6]; exact Blk.new' rfl
        have hbV6 : Below (w5).heap.size (w5) V6 := by rw [hV6]; exact (Below.refl _ _).alloc (Nat.le_refl _) _
        clear hH hV6
        have hH : V6.cell? ⟨gq, 0, none⟩ = some (.int .i64 qR) ∧ V6.cell? ⟨gq, 1, none⟩ = some (.slice qA qL.length qc) := ⟨((bcell hC6).1 _ _ lq).trans q0, ((bcell hC6).1 _ _ lq).trans q1⟩
        refine Shut.out HK13.out _ _ hH (fun _ => ?_)
        try simp only [Nm]
        clear HK13
        have hQz := hzV6
        have rQ := (hO5.mono_ (B' := W3.heap.size) (by have := hC0.size; omega)).below hbV6
        have n2 := hO5.ne (g := w5.heap.size) (.inr (Nat.le_refl _))
        have hwb : W3.heap.size ≤ w5.heap.size := hC5.size
        have nwb : ¬ (gq = w5.heap.size) := by have := hC5.size; have := lq; omega
        have nwb' : ¬ (w5.heap.size = gq) := fun e => nwb e.symm
        have hfin := ResSt.mk5 (R := Ra) hQz rQ n2 hC6 hwb
        obtain ⟨b, hb⟩ : ∃ b, b = w5.heap.size := ⟨_, rfl⟩
        rw [← hb] at hQz hfin nwb nwb' ⊢
        have Hfin := hide hfin
        clear hzV6 hb hbV6 rQ n2 hfin hO5
        refine Rd 14 (by kernel_rfl) rfl (fun K hK => ?_)
        have d0 := hQz.cell 0
        have d1 := hQz.cell 1
        have d2 := hQz.cell 2
        have d3 := hQz.cell 3
        have d4 := hQz.cell 4
        have f0 := hQz.frozen 0
        have f1 := hQz.frozen 1
        have f2 := hQz.frozen 2
        have f3 := hQz.frozen 3
        have f4 := hQz.frozen 4
        simp only [Yl] at d0 d1 d2 d3 d4
        have HK14 := hide hK
        clear hK
        go_simp
        refine Shut.out HK14.out _ _ ?_ (fun hH => ?_)
        · (try dsimp only)
          refine And.intro ?_ ?_
          · rw [set5_cell nwb]; exact hH.1
          · rw [set5_cell nwb]; exact hH.2
        try simp only [Nm]
        clear HK14
        refine Vq 15 ?_ rfl (by kernel_rfl) hP (by rfl) ?r hH ?_; case r => intro w'; go_simp; try with_reducible rfl
        try simp only [Nm]
        refine wpAnyH_done (by kernel_rfl) ?_ _
        go_wp2_with fail
        go_meet
        go_tidy
        exact ⟨b, O5, oc5, C5, cc5, rfl, rfl, Hfin.out⟩
      · have HK13 := hide hK
        clear hK
        go_simp
        obtain ⟨V6, hV6⟩ : ∃ V : World, V = (W3.alloc (.cells #[.slice none 0 0, .int .i64 0, .bool false, .int .i64 0, .slice none 0 0] 33)).drew := ⟨_, rfl⟩
        rw [← hV6]
        have hC6 : Below W3.heap.size W3 V6 := by rw [hV6]; exact Below.drew ((Below.refl _ _).alloc (Nat.le_refl _) _)
        have hzV6 : Blk V6 W3.heap.size 33 #[.slice none 0 0, .int .i64 0, .bool false, .int .i64 0, .slice none 0 0] := by rw [hV6]; exact (Blk.new' rfl).drew
        clear hH hV6
        have hH : V6.cell? ⟨gq, 0, none⟩ = some (.int .i64 qR) ∧ V6.cell? ⟨gq, 1, none⟩ = some (.slice qA qL.length qc) := ⟨((bcell hC6).1 _ _ lq).trans q0, ((bcell hC6).1 _ _ lq).trans q1⟩
        refine Shut.out HK13.out _ _ hH (fun _ => ?_)
        try simp only [Nm]
        clear HK13
        refine Rd 9 (by kernel_rfl) rfl (fun K hK => ?_)
        have HK9 := hide hK
        clear hK
        go_simp
        go_at_call 12
        refine ((HRa _ hC6).out).mono ?_
        rintro e w5 ⟨hc5, O5, oc5, C5, cc5, rfl, hO5⟩
        have hC5 : Below W3.heap.size W3 w5 := hC6.trans (hc5.mono hC6.size)
        clear hH
        have hH : w5.cell? ⟨gq, 0, none⟩ = some (.int .i64 qR) ∧ w5.cell? ⟨gq, 1, none⟩ = some (.slice qA qL.length qc) := ⟨((bcell hC5).1 _ _ lq).trans q0, ((bcell hC5).1 _ _ lq).trans q1⟩
        refine Shut.out HK9.out _ _ hH (fun _ => ?_)
        try simp only [Nm]
        clear HK9
        refine Vq 10 ?_ rfl (by kernel_rfl) hP (by rfl) ?r hH ?_; case r => intro w'; go_simp; try with_reducible rfl
        try simp only [Nm]
        refine Vq 11 ?_ rfl (by kernel_rfl) hP (by rfl) ?r hH ?_; case r => intro w'; go_simp; try with_reducible rfl
        try simp only [Nm]
        refine Vq 12 ?_ rfl (by kernel_rfl) hP (by rfl) ?r hH ?_; case r => intro w'; go_simp; try with_reducible rfl
        try simp only [Nm]
        have hQz := hzV6.below hc5 hzV6.lt
        have rQ := hO5.mono_ (B' := W3.heap.size) (by have := hC6.size; omega)
        have n2 := hO5.ne (g := W3.heap.size) (.inl hzV6.lt)
        have nwb : ¬ (gq = W3.heap.size) := by have := lq; omega
        have nwb' : ¬ (W3.heap.size = gq) := fun e => nwb e.symm
        have hfin := ResSt.mk5 (R := Ra) hQz rQ n2 hC5 (Nat.le_refl _)
        obtain ⟨b, hb⟩ : ∃ b, b = W3.heap.size := ⟨_, rfl⟩
        have hQz : Blk w5 W3.heap.size 33 #[.slice none 0 0, .int .i64 0, .bool false, .int .i64 0, .slice none 0 0] := hQz
        rw [← hb] at hQz hfin nwb nwb'
        try rw [← hb]
        have Hfin := hide hfin
        clear hzV6 hb rQ n2 hfin hO5
        refine Rd 14 (by kernel_rfl) rfl (fun K hK => ?_)
        have d0 := hQz.cell 0
        have d1 := hQz.cell 1
        have d2 := hQz.cell 2
        have d3 := hQz.cell 3
        have d4 := hQz.cell 4
        have f0 := hQz.frozen 0
        have f1 := hQz.frozen 1
        have f2 := hQz.frozen 2
        have f3 := hQz.frozen 3
        have f4 := hQz.frozen 4
        simp only [Yl] at d0 d1 d2 d3 d4
        have HK14 := hide hK
        clear hK
        go_simp
        refine Shut.out HK14.out _ _ ?_ (fun hH => ?_)
        · (try dsimp only)
          refine And.intro ?_ ?_
          · rw [set5_cell nwb]; exact hH.1
          · rw [set5_cell nwb]; exact hH.2
        try simp only [Nm]
        clear HK14
        refine Vq 15 ?_ rfl (by kernel_rfl) hP (by rfl) ?r hH ?_; case r => intro w'; go_simp; try with_reducible rfl
        try simp only [Nm]
        refine wpAnyH_done (by kernel_rfl) ?_ _
        go_wp2_with fail
        go_meet
        go_tidy
        exact ⟨b, O5, oc5, C5, cc5, rfl, rfl, Hfin.out⟩
    · have HK13 := hide hK
      clear hK
      go_simp
      obtain ⟨V6, hV6⟩ : ∃ V : World, V = (W3.alloc (.cells #[.slice none 0 0, .int .i64 0, .bool false, .int .i64 0, .slice none 0 0] 33)).drew := ⟨_, rfl⟩
      rw [← hV6]
      have hC6 : Below W3.heap.size W3 V6 := by rw [hV6]; exact Below.drew ((Below.refl _ _).alloc (Nat.le_refl _) _)
      have hzV6 : Blk V6 W3.heap.size 33 #[.slice none 0 0, .int .i64 0, .bool false, .int .i64 0, .slice none 0 0] := by rw [hV6]; exact (Blk.new' rfl).drew
      clear hH hV6
      have hH : V6.cell? ⟨gq, 0, none⟩ = some (.int .i64 qR) ∧ V6.cell? ⟨gq, 1, none⟩ = some (.slice qA qL.length qc) := ⟨((bcell hC6).1 _ _ lq).trans q0, ((bcell hC6).1 _ _ lq).trans q1⟩
      refine Shut.out HK13.out _ _ hH (fun _ => ?_)
      try simp only [Nm]
      clear HK13
      refine Rd 2 (by kernel_rfl) rfl (fun K hK => ?_)
      have HK2 := hide hK
      clear hK
      go_simp
      go_at_call 13
      refine ((HF _).out).mono ?_
      rintro e w0 ⟨rfl, rfl⟩
      refine Shut.out HK2.out _ _ hH (fun _ => ?_)
      try simp only [Nm]
      clear HK2
      refine Rd 9 (by kernel_rfl) rfl (fun K hK => ?_)
      have HK9 := hide hK
      clear hK
      go_simp
      go_at_call 12
      refine ((HRa _ hC6).out).mono ?_
      rintro e w5 ⟨hc5, O5, oc5, C5, cc5, rfl, hO5⟩
      have hC5 : Below W3.heap.size W3 w5 := hC6.trans (hc5.mono hC6.size)
      clear hH
      have hH : w5.cell? ⟨gq, 0, none⟩ = some (.int .i64 qR) ∧ w5.cell? ⟨gq, 1, none⟩ = some (.slice qA qL.length qc) := ⟨((bcell hC5).1 _ _ lq).trans q0, ((bcell hC5).1 _ _ lq).trans q1⟩
      refine Shut.out HK9.out _ _ hH (fun _ => ?_)
      try simp only [Nm]
      clear HK9
      refine Vq 10 ?_ rfl (by kernel_rfl) hP (by rfl) ?r hH ?_; case r => intro w'; go_simp; try with_reducible rfl
      try simp only [Nm]
      refine Vq 11 ?_ rfl (by kernel_rfl) hP (by rfl) ?r hH ?_; case r => intro w'; go_simp; try with_reducible rfl
      try simp only [Nm]
      refine Vq 12 ?_ rfl (by kernel_rfl) hP (by rfl) ?r hH ?_; case r => intro w'; go_simp; try with_reducible rfl
      try simp only [Nm]
      have hQz := hzV6.below hc5 hzV6.lt
      have rQ := hO5.mono_ (B' := W3.heap.size) (by have := hC6.size; omega)
      have n2 := hO5.ne (g := W3.heap.size) (.inl hzV6.lt)
      have nwb : ¬ (gq = W3.heap.size) := by have := lq; omega
      have nwb' : ¬ (W3.heap.size = gq) := fun e => nwb e.symm
      have hfin := ResSt.mk5 (R := Ra) hQz rQ n2 hC5 (Nat.le_refl _)
      obtain ⟨b, hb⟩ : ∃ b, b = W3.heap.size := ⟨_, rfl⟩
      have hQz : Blk w5 W3.heap.size 33 #[.slice none 0 0, .int .i64 0, .bool false, .int .i64 0, .slice none 0 0] := hQz
      rw [← hb] at hQz hfin nwb nwb'
      try rw [← hb]
      have Hfin := hide hfin
      clear hzV6 hb rQ n2 hfin hO5
      refine Rd 14 (by kernel_rfl) rfl (fun K hK => ?_)
      have d0 := hQz.cell 0
      have d1 := hQz.cell 1
      have d2 := hQz.cell 2
      have d3 := hQz.cell 3
      have d4 := hQz.cell 4
      have f0 := hQz.frozen 0
      have f1 := hQz.frozen 1
      have f2 := hQz.frozen 2
      have f3 := hQz.frozen 3
      have f4 := hQz.frozen 4
      simp only [Yl] at d0 d1 d2 d3 d4
      have HK14 := hide hK
      clear hK
      go_simp
      refine Shut.out HK14.out _ _ ?_ (fun hH => ?_)
      · (try dsimp only)
        refine And.intro ?_ ?_
        · rw [set5_cell nwb]; exact hH.1
        · rw [set5_cell nwb]; exact hH.2
      try simp only [Nm]
      clear HK14
      refine Vq 15 ?_ rfl (by kernel_rfl) hP (by rfl) ?r hH ?_; case r => intro w'; go_simp; try with_reducible rfl
      try simp only [Nm]
      refine wpAnyH_done (by kernel_rfl) ?_ _
      go_wp2_with fail
      go_meet
      go_tidy
      exact ⟨b, O5, oc5, C5, cc5, rfl, rfl, Hfin.out⟩
  case rest =>
    obtain ⟨W4, rfl⟩ : ∃ W : World, W = wc := ⟨_, rfl⟩
    obtain ⟨ga, Oa, oca, Ca, cca, rfl, rfl, hSa⟩ := hcut
    have hb := hSa.below
    clear q0 q1 lq
    replace ht := ht.below hb ht.lt
    replace hq := hq.below hb hq.lt
    replace hs := hs.below hb hs.lt
    replace qq := qq.below' hb
    replace qs := qs.below' hb
    replace hB := hB.trans (hb.mono hB.size)
    clear hb hz HRa e1 e2 E1 E2 hq qq
    have a0 := hSa.box.cell 0
    have a1 := hSa.box.cell 1
    have a2 := hSa.box.cell 2
    have a3 := hSa.box.cell 3
    have a4 := hSa.box.cell 4
    simp only [tmA, Yl] at a0 a1 a2 a3 a4
    have la := hSa.box.lt
    cases hE : Ra.ended
    case false =>
      rw [hE] at a2
      clear hE
      go_wp2_with fail
      refine (moveBegun_any _).mono ?_
      rintro e w9 ⟨rfl, hb9⟩
      go_wp2_with fail
      go_ret
      exact ⟨rfl, hB.trans (hb9.mono hB.size)⟩
    case true =>
      have HBz := hide (fun pt tk h => HBz.out pt tk h hE)
      have HRz := hide (fun x' pt tk h => HRz.out x' pt tk h hE)
      have hSa2 := hSa
      rw [hE] at a2
      have HE := hide hE
      clear hE hSa2
      have s0 := hs.cell 0
      have s1 := hs.cell 1
      have t0 := ht.cell 0
      have t1 := ht.cell 1
      have t2 := ht.cell 2
      simp only [tmA, Yl] at s0 s1 t0 t1 t2
      have ls := hs.lt
      have lt := ht.lt
      go_wp2_with fail
      refine (HBu.out _ _ _ qs.nodes).mono ?_
      rintro e w5 ⟨hb, v1, v2, kX, kY, dk, rfl, hr1, hr2⟩
      clear s0 s1 t0 t1 t2 ls lt
      replace ht := ht.below hb ht.lt
      replace hs := hs.below hb hs.lt
      replace qs := qs.below' hb
      replace hSa := hSa.later hb
      replace hB := hB.trans (hb.mono hB.size)
      clear hb
      obtain ⟨Ak1, ck1, e1, _, _⟩ := hr1.shape
      rw [bools_length] at e1
      subst e1
      have qk1 := hr1
      obtain ⟨Ak2, ck2, e2, _, _⟩ := hr2.shape
      rw [bools_length] at e2
      subst e2
      have qk2 := hr2
      have Dk := hide dk
      clear hr1 hr2 dk
      have hT0 := hs.lt
      go_upto_region 15 with fail
      obtain ⟨W5, hW5⟩ : ∃ W : World, W = w5.alloc (.cells #[.slice Ak1 kX.length ck1, .slice Ak2 kY.length ck2] 50) := ⟨_, rfl⟩
      have hb : Below w5.heap.size w5 W5 := by rw [hW5]; exact (Below.refl _ _).alloc (Nat.le_refl _) _
      have hk : Blk W5 w5.heap.size 50 #[.slice Ak1 kX.length ck1, .slice Ak2 kY.length ck2] := by rw [hW5]; exact Blk.new' rfl
      rw [← hW5]
      replace ht := ht.below hb ht.lt
      replace hs := hs.below hb hs.lt
      replace qs := qs.below' hb
      replace qk1 := qk1.below' hb
      replace qk2 := qk2.below' hb
      replace hSa := hSa.later hb
      replace hB := hB.trans (hb.mono hB.size)
      obtain ⟨gk, hgk⟩ : ∃ b, b = w5.heap.size := ⟨_, rfl⟩
      rw [← hgk] at hk ⊢
      clear hW5 hgk hb hT0
      have s0 := hs.cell 0
      have s1 := hs.cell 1
      have t0 := ht.cell 0
      have t1 := ht.cell 1
      have t2 := ht.cell 2
      have k0 := hk.cell 0
      have k1 := hk.cell 1
      simp only [tmA, Yl] at s0 s1 t0 t1 t2 k0 k1
      have ls := hs.lt
      have lt := ht.lt
      have lk := hk.lt
      go_wp2_with fail
      refine (HAp.out _ _ _ qs.nodes Ak1 Ak2 kX kY ck1 ck2 qk1.vals qk2.vals).mono ?_
      rintro e w6 ⟨hb, v, rfl, hr⟩
      clear s0 s1 t0 t1 t2 k0 k1 ls lt lk
      replace ht := ht.below hb ht.lt
      replace hs := hs.below hb hs.lt
      replace hk := hk.below hb hk.lt
      replace qs := qs.below' hb
      replace qk1 := qk1.below' hb
      replace qk2 := qk2.below' hb
      replace hSa := hSa.later hb
      replace hB := hB.trans (hb.mono hB.size)
      clear hb
      have dj := HBz.out kX kY Dk.out
      generalize maE regs sL t kX kY = jE at *
      generalize maR regs sL t kX kY = jR at *
      generalize maL regs sL t kX kY = jL at *
      have Dj := hide dj
      clear dj
      obtain ⟨jA, jc, je, _, _⟩ := hr.shape
      subst je
      have qj := hr
      clear hr
      have hT0 := hk.lt
      go_upto_region 16 with fail
      obtain ⟨W6, hW6⟩ : ∃ W : World, W = w6.alloc (.cells #[.int .i64 jR, .slice jA jL.length jc] 24) := ⟨_, rfl⟩
      have hb : Below w6.heap.size w6 W6 := by rw [hW6]; exact (Below.refl _ _).alloc (Nat.le_refl _) _
      have hj : Blk W6 w6.heap.size 24 #[.int .i64 jR, .slice jA jL.length jc] := by rw [hW6]; exact Blk.new' rfl
      rw [← hW6]
      replace ht := ht.below hb ht.lt
      replace hs := hs.below hb hs.lt
      replace hk := hk.below hb hk.lt
      replace qs := qs.below' hb
      replace qk1 := qk1.below' hb
      replace qk2 := qk2.below' hb
      replace qj := qj.below' hb
      replace hSa := hSa.later hb
      replace hB := hB.trans (hb.mono hB.size)
      obtain ⟨gj, hgj⟩ : ∃ b, b = w6.heap.size := ⟨_, rfl⟩
      rw [← hgj] at hj ⊢
      clear hW6 hgj hb hT0
      have hz := hj.lt
      go_upto_if 95 with fail
      go_cut [23] (fun s wx => s = .int .i64 jE ∧ Below W6.heap.size W6 wx)
      case first =>
        by_cases hz0 : jE = 0
        · have hd : (jE == 0) = true := by simp [hz0]
          obtain ⟨hL, hcn⟩ := Dj.out hz0
          have HRn := fun (V : World) (hV : Below W6.heap.size W6 V) => hide (HRun.out V (hB.trans (hV.mono hB.size)) jR jL jA jc 131072 (qj.nodes.below hV) hL.len hL.chk (Nat.le_refl _))
          have he := hL.ended
          generalize (runR jR jL (fewL inp) 131072).told = Rj at *
          have He := hide he
          have Hcn := hide hcn
          clear hz0 hL he hcn
          have j0 := hj.cell 0
          have j1 := hj.cell 1
          simp only [tmA, Yl] at j0 j1
          have lj := hj.lt
          go_upto_region 19 with fail
          go_cut [24, 25] (fun s1 s2 wy => ∃ (b : Nat) (O : Option Addr) (oc : Nat) (C : Option Addr) (cc : Nat), s1 = .pointer (some ⟨b, 0, none⟩) ∧ s2 = .int .i64 0 ∧ ResSt 3 75 33 W6 b O oc C cc Rj wy)
          case first => as_aux_lemma =>
            refine wp_region_held_drew (S := fun w' => w'.cell? ⟨gj, 0, none⟩ = some (.int .i64 jR) ∧ w'.cell? ⟨gj, 1, none⟩ = some (.slice jA jL.length jc)) (by kernel_rfl) ⟨j0, j1⟩ ?_
            intro hH
            have hC0 : Below W6.heap.size W6 W6.drew := (Below.refl _ _).drew
            refine Up (fun _ _ _ _ _ => id) fun hP => ?_
            refine Vi 0 ?_ rfl (by kernel_rfl) hP (by rfl) ?r hH ?_; case r => intro w' h; (try dsimp only at h); (try go_split_ands); go_simp; try with_reducible rfl
            try simp only [Nm]
            refine Vq 1 ?_ rfl (by kernel_rfl) hP (by rfl) ?r hH ?_; case r => intro w'; go_simp; try with_reducible rfl
            try simp only [Nm]
            refine wpAnyH_ready (rs := [2, 7]) (by kernel_rfl) (by simp) ?_
            refine AllReadyH.cons rfl (fun K hK => ?_) (AllReadyH.cons rfl (fun K hK => ?_) AllReadyH.nil)
            · have HK2 := hide hK
              clear hK
              go_simp
              go_at_call 13
              refine ((HF _).out).mono ?_
              rintro e w0 ⟨rfl, rfl⟩
              refine Shut.out HK2.out _ _ hH (fun _ => ?_)
              try simp only [Nm]
              clear HK2
              refine wpAnyH_ready (rs := [3, 7]) (by kernel_rfl) (by simp) ?_
              refine AllReadyH.cons rfl (fun K hK => ?_) (AllReadyH.cons rfl (fun K hK => ?_) AllReadyH.nil)
              · have HK3 := hide hK
                clear hK
                go_simp
                go_at_call 12
                refine ((HRn _ hC0).out).mono ?_
                rintro e w5 ⟨hc5, O5, oc5, C5, cc5, rfl, hO5⟩
                have hC5 : Below W6.heap.size W6 w5 := hC0.trans (hc5.mono hC0.size)
                clear hH
                have hH : w5.cell? ⟨gj, 0, none⟩ = some (.int .i64 jR) ∧ w5.cell? ⟨gj, 1, none⟩ = some (.slice jA jL.length jc) := ⟨((bcell hC5).1 _ _ lj).trans j0, ((bcell hC5).1 _ _ lj).trans j1⟩
                refine Shut.out HK3.out _ _ hH (fun _ => ?_)
                try simp only [Nm]
                clear HK3
                refine Vq 4 ?_ rfl (by kernel_rfl) hP (by rfl) ?r hH ?_; case r => intro w'; go_simp; try with_reducible rfl
                try simp only [Nm]
                refine Vq 5 ?_ rfl (by kernel_rfl) hP (by rfl) ?r hH ?_; case r => intro w'; go_simp; try with_reducible rfl
                try simp only [Nm]
                refine Vq 6 ?_ rfl (by kernel_rfl) hP (by rfl) ?r hH ?_; case r => intro w'; go_simp; try with_reducible rfl
                try simp only [Nm]
                refine Rd 7 (by kernel_rfl) rfl (fun K hK => ?_)
                have HK7 := hide hK
                clear hK
                go_simp
                obtain ⟨V6, hV6⟩ : ∃ V : World, V = (w5).alloc (.cells #[.slice none 0 0, .int .i64 0, .bool false, .int .i64 0, .slice none 0 0] 33) := ⟨_, rfl⟩
                rw [← hV6]
                have hC6 : Below W6.heap.size W6 V6 := by rw [hV6]; exact Below.alloc hC5 hC5.size _
                have hzV6 : Blk V6 (w5).heap.size 33 #[.slice none 0 0, .int .i64 0, .bool false, .int .i64 0, .slice none 0 0] := by rw [hV6]; exact Blk.new' rfl
                have hbV6 : Below (w5).heap.size (w5) V6 := by rw [hV6]; exact (Below.refl _ _).alloc (Nat.le_refl _) _
                clear hH hV6
                have hH : V6.cell? ⟨gj, 0, none⟩ = some (.int .i64 jR) ∧ V6.cell? ⟨gj, 1, none⟩ = some (.slice jA jL.length jc) := ⟨((bcell hC6).1 _ _ lj).trans j0, ((bcell hC6).1 _ _ lj).trans j1⟩
                refine Shut.out HK7.out _ _ hH (fun _ => ?_)
                try simp only [Nm]
                clear HK7
                have hQz := hzV6
                have rQ := (hO5.mono_ (B' := W6.heap.size) (by have := hC0.size; omega)).below hbV6
                have n2 := hO5.ne (g := w5.heap.size) (.inr (Nat.le_refl _))
                have hwb : W6.heap.size ≤ w5.heap.size := hC5.size
                have nwb : ¬ (gj = w5.heap.size) := by have := hC5.size; have := lj; omega
                have nwb' : ¬ (w5.heap.size = gj) := fun e => nwb e.symm
                have hfin := ResSt.mk5 (R := Rj) hQz rQ n2 hC6 hwb
                obtain ⟨b, hb⟩ : ∃ b, b = w5.heap.size := ⟨_, rfl⟩
                rw [← hb] at hQz hfin nwb nwb' ⊢
                have Hfin := hide hfin
                clear hzV6 hb hbV6 rQ n2 hfin hO5
                refine Rd 8 (by kernel_rfl) rfl (fun K hK => ?_)
                have d0 := hQz.cell 0
                have d1 := hQz.cell 1
                have d2 := hQz.cell 2
                have d3 := hQz.cell 3
                have d4 := hQz.cell 4
                have f0 := hQz.frozen 0
                have f1 := hQz.frozen 1
                have f2 := hQz.frozen 2
                have f3 := hQz.frozen 3
                have f4 := hQz.frozen 4
                simp only [Yl] at d0 d1 d2 d3 d4
                have HK8 := hide hK
                clear hK
                go_simp
                refine Shut.out HK8.out _ _ ?_ (fun hH => ?_)
                · (try dsimp only)
                  refine And.intro ?_ ?_
                  · rw [set5_cell nwb]; exact hH.1
                  · rw [set5_cell nwb]; exact hH.2
                try simp only [Nm]
                clear HK8
                refine Vq 9 ?_ rfl (by kernel_rfl) hP (by rfl) ?r hH ?_; case r => intro w'; go_simp; try with_reducible rfl
                try simp only [Nm]
                refine wpAnyH_done (by kernel_rfl) ?_ _
                go_wp2_with fail
                go_meet
                go_tidy
                exact ⟨b, O5, oc5, C5, cc5, rfl, rfl, Hfin.out⟩
              · have HK7 := hide hK
                clear hK
                go_simp
                obtain ⟨V6, hV6⟩ : ∃ V : World, V = (W6.alloc (.cells #[.slice none 0 0, .int .i64 0, .bool false, .int .i64 0, .slice none 0 0] 33)).drew := ⟨_, rfl⟩
                rw [← hV6]
                have hC6 : Below W6.heap.size W6 V6 := by rw [hV6]; exact Below.drew ((Below.refl _ _).alloc (Nat.le_refl _) _)
                have hzV6 : Blk V6 W6.heap.size 33 #[.slice none 0 0, .int .i64 0, .bool false, .int .i64 0, .slice none 0 0] := by rw [hV6]; exact (Blk.new' rfl).drew
                clear hH hV6
                have hH : V6.cell? ⟨gj, 0, none⟩ = some (.int .i64 jR) ∧ V6.cell? ⟨gj, 1, none⟩ = some (.slice jA jL.length jc) := ⟨((bcell hC6).1 _ _ lj).trans j0, ((bcell hC6).1 _ _ lj).trans j1⟩
                refine Shut.out HK7.out _ _ hH (fun _ => ?_)
                try simp only [Nm]
                clear HK7
                refine Rd 3 (by kernel_rfl) rfl (fun K hK => ?_)
                have HK3 := hide hK
                clear hK
                go_simp
                go_at_call 12
                refine ((HRn _ hC6).out).mono ?_
                rintro e w5 ⟨hc5, O5, oc5, C5, cc5, rfl, hO5⟩
                have hC5 : Below W6.heap.size W6 w5 := hC6.trans (hc5.mono hC6.size)
                clear hH
                have hH : w5.cell? ⟨gj, 0, none⟩ = some (.int .i64 jR) ∧ w5.cell? ⟨gj, 1, none⟩ = some (.slice jA jL.length jc) := ⟨((bcell hC5).1 _ _ lj).trans j0, ((bcell hC5).1 _ _ lj).trans j1⟩
                refine Shut.out HK3.out _ _ hH (fun _ => ?_)
                try simp only [Nm]
                clear HK3
                refine Vq 4 ?_ rfl (by kernel_rfl) hP (by rfl) ?r hH ?_; case r => intro w'; go_simp; try with_reducible rfl
                try simp only [Nm]
                refine Vq 5 ?_ rfl (by kernel_rfl) hP (by rfl) ?r hH ?_; case r => intro w'; go_simp; try with_reducible rfl
                try simp only [Nm]
                refine Vq 6 ?_ rfl (by kernel_rfl) hP (by rfl) ?r hH ?_; case r => intro w'; go_simp; try with_reducible rfl
                try simp only [Nm]
                have hQz := hzV6.below hc5 hzV6.lt
                have rQ := hO5.mono_ (B' := W6.heap.size) (by have := hC6.size; omega)
                have n2 := hO5.ne (g := W6.heap.size) (.inl hzV6.lt)
                have nwb : ¬ (gj = W6.heap.size) := by have := lj; omega
                have nwb' : ¬ (W6.heap.size = gj) := fun e => nwb e.symm
                have hfin := ResSt.mk5 (R := Rj) hQz rQ n2 hC5 (Nat.le_refl _)
                obtain ⟨b, hb⟩ : ∃ b, b = W6.heap.size := ⟨_, rfl⟩
                have hQz : Blk w5 W6.heap.size 33 #[.slice none 0 0, .int .i64 0, .bool false, .int .i64 0, .slice none 0 0] := hQz
                rw [← hb] at hQz hfin nwb nwb'
                try rw [← hb]
                have Hfin := hide hfin
                clear hzV6 hb rQ n2 hfin hO5
                refine Rd 8 (by kernel_rfl) rfl (fun K hK => ?_)
                have d0 := hQz.cell 0
                have d1 := hQz.cell 1
                have d2 := hQz.cell 2
                have d3 := hQz.cell 3
                have d4 := hQz.cell 4
                have f0 := hQz.frozen 0
                have f1 := hQz.frozen 1
                have f2 := hQz.frozen 2
                have f3 := hQz.frozen 3
                have f4 := hQz.frozen 4
                simp only [Yl] at d0 d1 d2 d3 d4
                have HK8 := hide hK
                clear hK
                go_simp
                refine Shut.out HK8.out _ _ ?_ (fun hH => ?_)
                · (try dsimp only)
                  refine And.intro ?_ ?_
                  · rw [set5_cell nwb]; exact hH.1
                  · rw [set5_cell nwb]; exact hH.2
                try simp only [Nm]
                clear HK8
                refine Vq 9 ?_ rfl (by kernel_rfl) hP (by rfl) ?r hH ?_; case r => intro w'; go_simp; try with_reducible rfl
                try simp only [Nm]
                refine wpAnyH_done (by kernel_rfl) ?_ _
                go_wp2_with fail
                go_meet
                go_tidy
                exact ⟨b, O5, oc5, C5, cc5, rfl, rfl, Hfin.out⟩
            · have HK7 := hide hK
              clear hK
              go_simp
              obtain ⟨V6, hV6⟩ : ∃ V : World, V = (W6.alloc (.cells #[.slice none 0 0, .int .i64 0, .bool false, .int .i64 0, .slice none 0 0] 33)).drew := ⟨_, rfl⟩
              rw [← hV6]
              have hC6 : Below W6.heap.size W6 V6 := by rw [hV6]; exact Below.drew ((Below.refl _ _).alloc (Nat.le_refl _) _)
              have hzV6 : Blk V6 W6.heap.size 33 #[.slice none 0 0, .int .i64 0, .bool false, .int .i64 0, .slice none 0 0] := by rw [hV6]; exact (Blk.new' rfl).drew
              clear hH hV6
              have hH : V6.cell? ⟨gj, 0, none⟩ = some (.int .i64 jR) ∧ V6.cell? ⟨gj, 1, none⟩ = some (.slice jA jL.length jc) := ⟨((bcell hC6).1 _ _ lj).trans j0, ((bcell hC6).1 _ _ lj).trans j1⟩
              refine Shut.out HK7.out _ _ hH (fun _ => ?_)
              try simp only [Nm]
              clear HK7
              refine Rd 2 (by kernel_rfl) rfl (fun K hK => ?_)
              have HK2 := hide hK
              clear hK
              go_simp
              go_at_call 13
              refine ((HF _).out).mono ?_
              rintro e w0 ⟨rfl, rfl⟩
              refine Shut.out HK2.out _ _ hH (fun _ => ?_)
              try simp only [Nm]
              clear HK2
              refine Rd 3 (by kernel_rfl) rfl (fun K hK => ?_)
              have HK3 := hide hK
              clear hK
              go_simp
              go_at_call 12
              refine ((HRn _ hC6).out).mono ?_
              rintro e w5 ⟨hc5, O5, oc5, C5, cc5, rfl, hO5⟩
              have hC5 : Below W6.heap.size W6 w5 := hC6.trans (hc5.mono hC6.size)
              clear hH
              have hH : w5.cell? ⟨gj, 0, none⟩ = some (.int .i64 jR) ∧ w5.cell? ⟨gj, 1, none⟩ = some (.slice jA jL.length jc) := ⟨((bcell hC5).1 _ _ lj).trans j0, ((bcell hC5).1 _ _ lj).trans j1⟩
              refine Shut.out HK3.out _ _ hH (fun _ => ?_)
              try simp only [Nm]
              clear HK3
              refine Vq 4 ?_ rfl (by kernel_rfl) hP (by rfl) ?r hH ?_; case r => intro w'; go_simp; try with_reducible rfl
              try simp only [Nm]
              refine Vq 5 ?_ rfl (by kernel_rfl) hP (by rfl) ?r hH ?_; case r => intro w'; go_simp; try with_reducible rfl
              try simp only [Nm]
              refine Vq 6 ?_ rfl (by kernel_rfl) hP (by rfl) ?r hH ?_; case r => intro w'; go_simp; try with_reducible rfl
              try simp only [Nm]
              have hQz := hzV6.below hc5 hzV6.lt
              have rQ := hO5.mono_ (B' := W6.heap.size) (by have := hC6.size; omega)
              have n2 := hO5.ne (g := W6.heap.size) (.inl hzV6.lt)
              have nwb : ¬ (gj = W6.heap.size) := by have := lj; omega
              have nwb' : ¬ (W6.heap.size = gj) := fun e => nwb e.symm
              have hfin := ResSt.mk5 (R := Rj) hQz rQ n2 hC5 (Nat.le_refl _)
              obtain ⟨b, hb⟩ : ∃ b, b = W6.heap.size := ⟨_, rfl⟩
              have hQz : Blk w5 W6.heap.size 33 #[.slice none 0 0, .int .i64 0, .bool false, .int .i64 0, .slice none 0 0] := hQz
              rw [← hb] at hQz hfin nwb nwb'
              try rw [← hb]
              have Hfin := hide hfin
              clear hzV6 hb rQ n2 hfin hO5
              refine Rd 8 (by kernel_rfl) rfl (fun K hK => ?_)
              have d0 := hQz.cell 0
              have d1 := hQz.cell 1
              have d2 := hQz.cell 2
              have d3 := hQz.cell 3
              have d4 := hQz.cell 4
              have f0 := hQz.frozen 0
              have f1 := hQz.frozen 1
              have f2 := hQz.frozen 2
              have f3 := hQz.frozen 3
              have f4 := hQz.frozen 4
              simp only [Yl] at d0 d1 d2 d3 d4
              have HK8 := hide hK
              clear hK
              go_simp
              refine Shut.out HK8.out _ _ ?_ (fun hH => ?_)
              · (try dsimp only)
                refine And.intro ?_ ?_
                · rw [set5_cell nwb]; exact hH.1
                · rw [set5_cell nwb]; exact hH.2
              try simp only [Nm]
              clear HK8
              refine Vq 9 ?_ rfl (by kernel_rfl) hP (by rfl) ?r hH ?_; case r => intro w'; go_simp; try with_reducible rfl
              try simp only [Nm]
              refine wpAnyH_done (by kernel_rfl) ?_ _
              go_wp2_with fail
              go_meet
              go_tidy
              exact ⟨b, O5, oc5, C5, cc5, rfl, rfl, Hfin.out⟩
          case rest =>
            obtain ⟨W8, rfl⟩ : ∃ W : World, W = wc := ⟨_, rfl⟩
            obtain ⟨gr, Oq, ocq, Cq, ccq, rfl, rfl, hSr⟩ := hcut
            have hb := hSr.below
            clear j0 j1 lj
            have hSa := hSa.later hb
            replace ht := ht.below hb ht.lt
            clear HRn
            have a0 := hSa.box.cell 0
            have a1 := hSa.box.cell 1
            have a2 := hSa.box.cell 2
            have a3 := hSa.box.cell 3
            have a4 := hSa.box.cell 4
            simp only [tmA, Yl] at a0 a1 a2 a3 a4
            have la := hSa.box.lt
            have r0 := hSr.box.cell 0
            have r1 := hSr.box.cell 1
            have r2 := hSr.box.cell 2
            have r3 := hSr.box.cell 3
            have r4 := hSr.box.cell 4
            simp only [tmA, Yl] at r0 r1 r2 r3 r4
            have lr := hSr.box.lt
            have t0 := ht.cell 0
            have t1 := ht.cell 1
            have t2 := ht.cell 2
            simp only [tmA, Yl] at t0 t1 t2
            have lt := ht.lt
            obtain ⟨_, la2⟩ := hSa.row.lens
            obtain ⟨_, lr2⟩ := hSr.row.lens
            have HTr := fun (V : World) (hV : Below W8.heap.size W8 V) => hide (Times_any Oq Rj.out.length ocq Rj.ret Rj.ended (Rj.steps : Int) Cq ccq Rj.cts t V (hSr.row.cts.nodes.below hV) lr2)
            have HTa := fun (V : World) (hV : Below W8.heap.size W8 V) => hide (Times_any Oa Ra.out.length oca Ra.ret Ra.ended (Ra.steps : Int) Ca cca Ra.cts t V (hSa.row.cts.nodes.below hV) la2)
            rw [He.out] at r2 HTr
            rw [HE.out] at a2 HTa
            have hcc : (cntOf Rj.cts t != cntOf Ra.cts t) = false := by rw [Hcn.out]; simp
            clear hSr He Hcn la2 lr2
            go_upto_region 20 with fail
            refine wp_region_held_drew (S := fun w' => w'.cell? ⟨gr, 0, none⟩ = some (.slice Oq Rj.out.length ocq) ∧ w'.cell? ⟨gr, 1, none⟩ = some (.int .i64 Rj.ret) ∧ w'.cell? ⟨gr, 2, none⟩ = some (.bool true) ∧ w'.cell? ⟨gr, 3, none⟩ = some (.int .i64 Rj.steps) ∧ w'.cell? ⟨gr, 4, none⟩ = some (.slice Cq Rj.cts.length ccq) ∧ w'.cell? ⟨ga, 0, none⟩ = some (.slice Oa Ra.out.length oca) ∧ w'.cell? ⟨ga, 1, none⟩ = some (.int .i64 Ra.ret) ∧ w'.cell? ⟨ga, 2, none⟩ = some (.bool true) ∧ w'.cell? ⟨ga, 3, none⟩ = some (.int .i64 Ra.steps) ∧ w'.cell? ⟨ga, 4, none⟩ = some (.slice Ca Ra.cts.length cca) ∧ w'.cell? ⟨w.heap.size + 1, 0, none⟩ = some (.int .i64 t.op) ∧ w'.cell? ⟨w.heap.size + 1, 1, none⟩ = some (.int .i64 t.a) ∧ w'.cell? ⟨w.heap.size + 1, 2, none⟩ = some (.int .i64 t.b)) (by kernel_rfl) ⟨r0, r1, r2, r3, r4, a0, a1, a2, a3, a4, t0, t1, t2⟩ ?_
            intro hH
            have hC0 : Below W8.heap.size W8 W8.drew := (Below.refl _ _).drew
            refine Up (fun _ _ _ _ _ => id) fun hP => ?_
            refine Vq 0 ?_ rfl (by kernel_rfl) hP (by rfl) ?r hH ?_; case r => intro w'; go_simp; try with_reducible rfl
            try simp only [Nm]
            refine Vq 1 ?_ rfl (by kernel_rfl) hP (by rfl) ?r hH ?_; case r => intro w'; go_simp; try with_reducible rfl
            try simp only [Nm]
            refine Vq 2 ?_ rfl (by kernel_rfl) hP (by rfl) ?r hH ?_; case r => intro w'; go_simp; try with_reducible rfl
            try simp only [Nm]
            refine Vq 3 ?_ rfl (by kernel_rfl) hP (by rfl) ?r hH ?_; case r => intro w'; go_simp; try with_reducible rfl
            try simp only [Nm]
            refine Vi 4 ?_ rfl (by kernel_rfl) hP (by rfl) ?r hH ?_; case r => intro w' h; (try dsimp only at h); (try go_split_ands); go_simp; try with_reducible rfl
            try simp only [Nm]
            refine Vq 5 ?_ rfl (by kernel_rfl) hP (by rfl) ?r hH ?_; case r => intro w'; go_simp; try with_reducible rfl
            try simp only [Nm]
            refine Vq 6 ?_ rfl (by kernel_rfl) hP (by rfl) ?r hH ?_; case r => intro w'; go_simp; try with_reducible rfl
            try simp only [Nm]
            refine Vq 7 ?_ rfl (by kernel_rfl) hP (by rfl) ?r hH ?_; case r => intro w'; go_simp; try with_reducible rfl
            try simp only [Nm]
            refine Vi 8 ?_ rfl (by kernel_rfl) hP (by rfl) ?r hH ?_; case r => intro w' h; (try dsimp only at h); (try go_split_ands); go_simp; try with_reducible rfl
            try simp only [Nm]
            refine Vi 9 ?_ rfl (by kernel_rfl) hP (by rfl) ?r hH ?_; case r => intro w' h; (try dsimp only at h); (try go_split_ands); go_simp; try with_reducible rfl
            try simp only [Nm]
            refine Vi 11 ?_ rfl (by kernel_rfl) hP (by rfl) ?r hH ?_; case r => intro w' h; (try dsimp only at h); (try go_split_ands); go_simp; try with_reducible rfl
            try simp only [Nm]
            refine Vi 12 ?_ rfl (by kernel_rfl) hP (by rfl) ?r hH ?_; case r => intro w' h; (try dsimp only at h); (try go_split_ands); go_simp; try with_reducible rfl
            try simp only [Nm]
            refine Rd 10 (by kernel_rfl) rfl (fun K hK => ?_)
            have HK10 := hide hK
            clear hK
            go_simp
            go_at_call 19
            refine ((HTr _ hC0).out).mono ?_
            rintro e V1 ⟨rfl, hbV1⟩
            have hC1 : Below W8.heap.size W8 V1 := hC0.trans (hbV1.mono hC0.size)
            clear hH
            have hH : V1.cell? ⟨gr, 0, none⟩ = some (.slice Oq Rj.out.length ocq) ∧ V1.cell? ⟨gr, 1, none⟩ = some (.int .i64 Rj.ret) ∧ V1.cell? ⟨gr, 2, none⟩ = some (.bool true) ∧ V1.cell? ⟨gr, 3, none⟩ = some (.int .i64 Rj.steps) ∧ V1.cell? ⟨gr, 4, none⟩ = some (.slice Cq Rj.cts.length ccq) ∧ V1.cell? ⟨ga, 0, none⟩ = some (.slice Oa Ra.out.length oca) ∧ V1.cell? ⟨ga, 1, none⟩ = some (.int .i64 Ra.ret) ∧ V1.cell? ⟨ga, 2, none⟩ = some (.bool true) ∧ V1.cell? ⟨ga, 3, none⟩ = some (.int .i64 Ra.steps) ∧ V1.cell? ⟨ga, 4, none⟩ = some (.slice Ca Ra.cts.length cca) ∧ V1.cell? ⟨w.heap.size + 1, 0, none⟩ = some (.int .i64 t.op) ∧ V1.cell? ⟨w.heap.size + 1, 1, none⟩ = some (.int .i64 t.a) ∧ V1.cell? ⟨w.heap.size + 1, 2, none⟩ = some (.int .i64 t.b) := ⟨((bcell hC1).1 _ _ lr).trans r0, ((bcell hC1).1 _ _ lr).trans r1, ((bcell hC1).1 _ _ lr).trans r2, ((bcell hC1).1 _ _ lr).trans r3, ((bcell hC1).1 _ _ lr).trans r4, ((bcell hC1).1 _ _ la).trans a0, ((bcell hC1).1 _ _ la).trans a1, ((bcell hC1).1 _ _ la).trans a2, ((bcell hC1).1 _ _ la).trans a3, ((bcell hC1).1 _ _ la).trans a4, ((bcell hC1).1 _ _ lt).trans t0, ((bcell hC1).1 _ _ lt).trans t1, ((bcell hC1).1 _ _ lt).trans t2⟩
            refine Shut.out HK10.out _ _ hH (fun _ => ?_)
            try simp only [Nm]
            clear HK10
            refine Rd 13 (by kernel_rfl) rfl (fun K hK => ?_)
            have HK13 := hide hK
            clear hK
            go_simp
            go_at_call 19
            refine ((HTa _ hC1).out).mono ?_
            rintro e V2 ⟨rfl, hbV2⟩
            have hC2 : Below W8.heap.size W8 V2 := hC1.trans (hbV2.mono hC1.size)
            clear hH
            have hH : V2.cell? ⟨gr, 0, none⟩ = some (.slice Oq Rj.out.length ocq) ∧ V2.cell? ⟨gr, 1, none⟩ = some (.int .i64 Rj.ret) ∧ V2.cell? ⟨gr, 2, none⟩ = some (.bool true) ∧ V2.cell? ⟨gr, 3, none⟩ = some (.int .i64 Rj.steps) ∧ V2.cell? ⟨gr, 4, none⟩ = some (.slice Cq Rj.cts.length ccq) ∧ V2.cell? ⟨ga, 0, none⟩ = some (.slice Oa Ra.out.length oca) ∧ V2.cell? ⟨ga, 1, none⟩ = some (.int .i64 Ra.ret) ∧ V2.cell? ⟨ga, 2, none⟩ = some (.bool true) ∧ V2.cell? ⟨ga, 3, none⟩ = some (.int .i64 Ra.steps) ∧ V2.cell? ⟨ga, 4, none⟩ = some (.slice Ca Ra.cts.length cca) ∧ V2.cell? ⟨w.heap.size + 1, 0, none⟩ = some (.int .i64 t.op) ∧ V2.cell? ⟨w.heap.size + 1, 1, none⟩ = some (.int .i64 t.a) ∧ V2.cell? ⟨w.heap.size + 1, 2, none⟩ = some (.int .i64 t.b) := ⟨((bcell hC2).1 _ _ lr).trans r0, ((bcell hC2).1 _ _ lr).trans r1, ((bcell hC2).1 _ _ lr).trans r2, ((bcell hC2).1 _ _ lr).trans r3, ((bcell hC2).1 _ _ lr).trans r4, ((bcell hC2).1 _ _ la).trans a0, ((bcell hC2).1 _ _ la).trans a1, ((bcell hC2).1 _ _ la).trans a2, ((bcell hC2).1 _ _ la).trans a3, ((bcell hC2).1 _ _ la).trans a4, ((bcell hC2).1 _ _ lt).trans t0, ((bcell hC2).1 _ _ lt).trans t1, ((bcell hC2).1 _ _ lt).trans t2⟩
            refine Shut.out HK13.out _ _ hH (fun _ => ?_)
            try simp only [Nm]
            clear HK13
            refine Vq 14 ?_ rfl (by kernel_rfl) hP (by rfl) ?r hH ?_; case r => intro w'; go_simp; try with_reducible rfl
            try simp only [Nm]
            try simp only [hcc]
            refine Vq 15 ?_ rfl (by kernel_rfl) hP (by rfl) ?r hH ?_; case r => intro w'; go_simp; try with_reducible rfl
            try simp only [Nm]
            refine wpAnyH_done (by kernel_rfl) ?_ _
            go_wp2_with fail
            go_meet
            go_tidy
            exact ⟨rfl, hb.trans (hC2.mono hb.size)⟩
        · have hd : (jE == 0) = false := by simp [hz0]
          clear hz0
          go_wp2_with fail
          go_meet
          go_tidy
          exact ⟨rfl, Below.refl _ _⟩
      case rest =>
        obtain ⟨W7, rfl⟩ : ∃ W : World, W = wc := ⟨_, rfl⟩
        obtain ⟨rfl, hcb⟩ := hcut
        clear hz hk hj qk1 qk2 qj Dk Dj HBz HBu
        replace ht := ht.below hcb ht.lt
        replace hs := hs.below hcb hs.lt
        replace qs := qs.below' hcb
        replace hSa := hSa.later hcb
        replace hB := hB.trans (hcb.mono hB.size)
        clear hcb
        have hXv := HXV.out _ hB
        obtain ⟨hxc1, hxc2⟩ := hxc
        have Hs := hide hs
        have Ht := hide ht
        have Hsa := hide hSa
        have Hqs := hide qs
        have HB := hide hB
        have s0 := hs.cell 0
        have s1 := hs.cell 1
        simp only [tmA, Yl] at s0 s1
        have ls := hs.lt
        clear hs ht hSa qs
        have hz := hB.size
        clear hB
        go_wp2_with fail
        go_loopg [2] (sL.length - x.length) (fun gk i wr => ∃ (y : List Bool) (Y : Option Addr) (yc : Nat), i = .slice Y y.length yc ∧ ValsAt wr Y (bools y) ∧ y.length ≤ yc ∧ yc ≤ maxLen ∧ gk = sL.length - y.length ∧ Below W7.heap.size W7 wr)
        case atStart => exact ⟨x, X, xc, rfl, hXv, hxc1, hxc2, rfl, Below.refl _ _⟩
        case round =>
          obtain ⟨y, Y, yc, rfl, hY, hy1, hy2, hgk, hL⟩ := hrel
          have Hgk := hide hgk
          have HY := hide hY
          clear hgk hY hXv s0 s1 ls
          have hs := Hs.out.below hL Hs.out.lt
          have s0 := hs.cell 0
          have s1 := hs.cell 1
          simp only [tmA, Yl] at s0 s1
          have ls := hs.lt
          by_cases hlt : y.length < sL.length
          · have hl3 := hL.size
            have m0 : (0 : Int) ≤ (y.length : Int) := by omega
            have H63 : y.length ≤ 256 := by omega
            unfold maxLen at *
            go_wp2_with (first
  | (at_builtin; refine wpList_append_row (v := .slice Y3 y.length c3) rfl (.tmp 127) (.tmp 132) _ rfl ib _ 1 Try.underlying48 hbi hbz hbs hbb rfl rfl (hr3.alloc _) (some ⟨w3.heap.size, 0, none⟩) 1 1 [.bool _] rfl rfl (vals_one _ _ _) (by simp [Value.oneCell']) (by simp [bools_length, maxLen]; omega) (by simp [bools_length]; omega) (by have := hr3s; simp only [World.size_alloc] at this ⊢; omega) ?_; intro v4 w4 hr4 hg4 hat4)
  | (at_builtin; refine wpList_append_row (v := .slice (some ⟨wr.heap.size, 0, none⟩) 0 0) rfl (.tmp 125) (.tmp 126) _ rfl ib _ 1 Try.underlying48 hbi hbz hbs hbb rfl rfl (Row.none_ (base := wr.heap.size) (Nat.le_refl _)) Y y.length yc (bools y) rfl (bools_length y).symm (HY.out.below ((Below.refl wr.heap.size wr).alloc (Nat.le_refl _) _)) (by intro u hu; obtain ⟨b, _, rfl⟩ := List.mem_map.1 hu; rfl) (by simp [bools_length, maxLen]; omega) (by simp [bools_length]; omega) (by simp) ?_; intro v3 w3 hr3 hg3 hat3; have hr3s := hg3.size; simp only [List.nil_append] at hr3; obtain ⟨Y3, c3, e3, _, _⟩ := hr3.shape; rw [bools_length] at e3; subst e3))
            have e9 : ∀ b : Bool, bools y ++ [Value.bool b] = bools (y ++ [b]) := fun b => by simp [bools]
            rw [e9] at hr4
            obtain ⟨y4, hy4, hr4⟩ : ∃ y4 : List Bool, y4.length = y.length + 1 ∧ Row w4 wr.heap.size 4 v4 (bools y4) := ⟨_, by simp, hr4⟩
            obtain ⟨Y4, c4, e4, m1, m2⟩ := hr4.shape
            rw [bools_length] at e4 m1
            subst e4
            have hb4 : Below wr.heap.size wr w4 := ((((Below.refl wr.heap.size wr).alloc (Nat.le_refl _) _).grown hg3 (by simp) (fun q hq => ((Row.none_ (base := wr.heap.size) (e := 4) (Nat.le_refl _)).lt q hq).1)).alloc (by simp only [World.size_alloc] at hr3s; omega) _).grown hg4 (by simp only [World.size_alloc] at hr3s ⊢; omega) (fun q hq => (hr3.lt q hq).1)
            go_roundg (sL.length - (y.length + 1))
            case measure => have := Hgk.out; omega
            case rel => exact ⟨y4, Y4, c4, rfl, hr4.vals, m1, m2, by rw [hy4], hL.trans (hb4.mono hL.size)⟩
          · have hge : sL.length ≤ y.length := by omega
            have hY := HY.out
            have ht := Ht.out.below hL Ht.out.lt
            have hSa := Hsa.out.later hL
            have qs := Hqs.out.below' hL
            have hB := HB.out.trans (hL.mono HB.out.size)
            clear Ht Hsa Hqs HB Hs HY hz Hgk
            have t0 := ht.cell 0
            have t1 := ht.cell 1
            have t2 := ht.cell 2
            simp only [tmA, Yl] at t0 t1 t2
            have lt := ht.lt
            have hlen : (y.take sL.length).length = sL.length := by rw [List.length_take]; omega
            have HRv := fun (V : World) (hV : Below wr.heap.size wr V) => hide (HRi.out V sA sc (qs.nodes.below hV) Y (y.take sL.length) yc ((hY.takeB sL.length).below hV) hlen)
            have u0 : (0 : Int) ≤ (sL.length : Int) := by omega
            have u1 : (sL.length : Int) ≤ (yc : Int) := by omega
            have u2 : (yc : Int) ≤ (yc : Int) := by omega
            go_upto_region 24 with fail
            go_cut [26, 27] (fun s1 s2 wy => ∃ (g : Nat) (A1 : Option Addr) (c1 : Nat) (A2 : Option Addr) (c2 : Nat) (mX mY : List Bool), s1 = .pointer (some ⟨g, 0, none⟩) ∧ s2 = .int .i64 0 ∧ (∃ F th, IsFx t sL F ∧ Great (rivS t sL (rivG sL F (y.take sL.length))) sL.length th ∧ mX = rivG sL F (y.take sL.length) ∧ mY = rivY t sL th) ∧ QlSt 4 50 wr g A1 c1 A2 c2 mX mY wy)
            case first => as_aux_lemma =>
              refine wp_region_held_drew (S := fun w' => w'.cell? ⟨gs, 0, none⟩ = some (.int .i64 regs) ∧ w'.cell? ⟨gs, 1, none⟩ = some (.slice sA sL.length sc) ∧ w'.cell? ⟨w.heap.size + 1, 0, none⟩ = some (.int .i64 t.op) ∧ w'.cell? ⟨w.heap.size + 1, 1, none⟩ = some (.int .i64 t.a) ∧ w'.cell? ⟨w.heap.size + 1, 2, none⟩ = some (.int .i64 t.b)) (by kernel_rfl) ⟨s0, s1, t0, t1, t2⟩ ?_
              intro hH
              have hC0 : Below wr.heap.size wr wr.drew := (Below.refl _ _).drew
              refine Up (fun _ _ _ _ _ => id) fun hP => ?_
              refine Vi 0 ?_ rfl (by kernel_rfl) hP (by rfl) ?r hH ?_; case r => intro w' h; (try dsimp only at h); (try go_split_ands); go_simp; try with_reducible rfl
              try simp only [Nm]
              refine Vi 1 ?_ rfl (by kernel_rfl) hP (by rfl) ?r hH ?_; case r => intro w' h; (try dsimp only at h); (try go_split_ands); go_simp; try with_reducible rfl
              try simp only [Nm]
              refine Vq 2 ?_ rfl (by kernel_rfl) hP (by rfl) ?r hH ?_; case r => intro w'; go_simp; try with_reducible rfl
              try simp only [Nm]
              refine Vq 3 ?_ rfl (by kernel_rfl) hP (by rfl) ?r hH ?_; case r => intro w'; go_simp; try with_reducible rfl
              try simp only [Nm]
              refine Vi 4 ?_ rfl (by kernel_rfl) hP (by rfl) ?r hH ?_; case r => intro w' h; (try dsimp only at h); (try go_split_ands); go_simp; try with_reducible rfl
              try simp only [Nm]
              refine Vq 5 ?_ rfl (by kernel_rfl) hP (by rfl) ?r hH ?_; case r => intro w'; go_simp; try with_reducible rfl
              try simp only [Nm]
              refine Vq 6 ?_ rfl (by kernel_rfl) hP (by rfl) ?r hH ?_; case r => intro w'; go_simp; try with_reducible rfl
              try simp only [Nm]
              refine wpAnyH_ready (rs := [7, 11]) (by kernel_rfl) (by simp) ?_
              refine AllReadyH.cons rfl (fun K hK => ?_) (AllReadyH.cons rfl (fun K hK => ?_) AllReadyH.nil)
              · have HK7 := hide hK
                clear hK
                go_simp
                go_at_call 23
                refine ((HRv _ hC0).out).mono ?_
                rintro e w5 ⟨hc5, v1, v2, mX, mY, dm, rfl, hr1, hr2⟩
                obtain ⟨A1, c1, e1, _, _⟩ := hr1.shape
                rw [bools_length] at e1
                subst e1
                obtain ⟨A2, c2, e2, _, _⟩ := hr2.shape
                rw [bools_length] at e2
                subst e2
                have dm := hide dm
                have hC5 : Below wr.heap.size wr w5 := hC0.trans (hc5.mono hC0.size)
                clear hH
                have hH : w5.cell? ⟨gs, 0, none⟩ = some (.int .i64 regs) ∧ w5.cell? ⟨gs, 1, none⟩ = some (.slice sA sL.length sc) ∧ w5.cell? ⟨w.heap.size + 1, 0, none⟩ = some (.int .i64 t.op) ∧ w5.cell? ⟨w.heap.size + 1, 1, none⟩ = some (.int .i64 t.a) ∧ w5.cell? ⟨w.heap.size + 1, 2, none⟩ = some (.int .i64 t.b) := ⟨((bcell hC5).1 _ _ ls).trans s0, ((bcell hC5).1 _ _ ls).trans s1, ((bcell hC5).1 _ _ lt).trans t0, ((bcell hC5).1 _ _ lt).trans t1, ((bcell hC5).1 _ _ lt).trans t2⟩
                refine Shut.out HK7.out _ _ hH (fun _ => ?_)
                try simp only [Nm]
                clear HK7
                refine Vq 8 ?_ rfl (by kernel_rfl) hP (by rfl) ?r hH ?_; case r => intro w'; go_simp; try with_reducible rfl
                try simp only [Nm]
                refine Vq 9 ?_ rfl (by kernel_rfl) hP (by rfl) ?r hH ?_; case r => intro w'; go_simp; try with_reducible rfl
                try simp only [Nm]
                refine Vq 10 ?_ rfl (by kernel_rfl) hP (by rfl) ?r hH ?_; case r => intro w'; go_simp; try with_reducible rfl
                try simp only [Nm]
                refine Rd 11 (by kernel_rfl) rfl (fun K hK => ?_)
                have HK11 := hide hK
                clear hK
                go_simp
                obtain ⟨V6, hV6⟩ : ∃ V : World, V = (w5).alloc (.cells #[.slice none 0 0, .slice none 0 0] 50) := ⟨_, rfl⟩
                rw [← hV6]
                have hC6 : Below wr.heap.size wr V6 := by rw [hV6]; exact Below.alloc hC5 hC5.size _
                have hzV6 : Blk V6 (w5).heap.size 50 #[.slice none 0 0, .slice none 0 0] := by rw [hV6]; exact Blk.new' rfl
                have hbV6 : Below (w5).heap.size (w5) V6 := by rw [hV6]; exact (Below.refl _ _).alloc (Nat.le_refl _) _
                clear hH hV6
                have hH : V6.cell? ⟨gs, 0, none⟩ = some (.int .i64 regs) ∧ V6.cell? ⟨gs, 1, none⟩ = some (.slice sA sL.length sc) ∧ V6.cell? ⟨w.heap.size + 1, 0, none⟩ = some (.int .i64 t.op) ∧ V6.cell? ⟨w.heap.size + 1, 1, none⟩ = some (.int .i64 t.a) ∧ V6.cell? ⟨w.heap.size + 1, 2, none⟩ = some (.int .i64 t.b) := ⟨((bcell hC6).1 _ _ ls).trans s0, ((bcell hC6).1 _ _ ls).trans s1, ((bcell hC6).1 _ _ lt).trans t0, ((bcell hC6).1 _ _ lt).trans t1, ((bcell hC6).1 _ _ lt).trans t2⟩
                refine Shut.out HK11.out _ _ hH (fun _ => ?_)
                try simp only [Nm]
                clear HK11
                have hQz := hzV6
                have r1 := (hr1.mono (base' := wr.heap.size) (by have := hC0.size; omega)).below' hbV6
                have r2 := (hr2.mono (base' := wr.heap.size) (by have := hC0.size; omega)).below' hbV6
                have n1 := r1.ne_blk hQz (by decide)
                have n2 := r2.ne_blk hQz (by decide)
                have hwb : wr.heap.size ≤ w5.heap.size := hC5.size
                have hfin := QlSt.mk2 hQz r1 r2 n1 n2 hC6 hwb
                obtain ⟨b, hb⟩ : ∃ b, b = w5.heap.size := ⟨_, rfl⟩
                rw [← hb] at hQz hfin hwb ⊢
                have Hfin := hide hfin
                clear hzV6 hb hbV6 r1 r2 n1 n2 hfin hr1 hr2
                refine Rd 12 (by kernel_rfl) rfl (fun K hK => ?_)
                have d0 := hQz.cell 0
                have d1 := hQz.cell 1
                have f0 := hQz.frozen 0
                have f1 := hQz.frozen 1
                simp only [tmA, Yl] at d0 d1
                have HK12 := hide hK
                clear hK
                go_simp
                refine Shut.out HK12.out _ _ ?_ (fun hH => ?_)
                · (try dsimp only)
                  obtain ⟨g0, g1, g2, g3, g4⟩ := hH
                  exact ⟨(set1_cell (by omega) _ _).trans ((set1_cell (by omega) _ _).trans g0), (set1_cell (by omega) _ _).trans ((set1_cell (by omega) _ _).trans g1), (set1_cell (by omega) _ _).trans ((set1_cell (by omega) _ _).trans g2), (set1_cell (by omega) _ _).trans ((set1_cell (by omega) _ _).trans g3), (set1_cell (by omega) _ _).trans ((set1_cell (by omega) _ _).trans g4)⟩
                try simp only [Nm]
                clear HK12
                refine Vq 13 ?_ rfl (by kernel_rfl) hP (by rfl) ?r hH ?_; case r => intro w'; go_simp; try with_reducible rfl
                try simp only [Nm]
                refine wpAnyH_done (by kernel_rfl) ?_ _
                go_wp2_with fail
                go_meet
                go_tidy
                exact ⟨b, A1, c1, A2, c2, mX, mY, rfl, rfl, dm.out, Hfin.out⟩
              · have HK11 := hide hK
                clear hK
                go_simp
                obtain ⟨V6, hV6⟩ : ∃ V : World, V = (wr.alloc (.cells #[.slice none 0 0, .slice none 0 0] 50)).drew := ⟨_, rfl⟩
                rw [← hV6]
                have hC6 : Below wr.heap.size wr V6 := by rw [hV6]; exact Below.drew ((Below.refl _ _).alloc (Nat.le_refl _) _)
                have hzV6 : Blk V6 wr.heap.size 50 #[.slice none 0 0, .slice none 0 0] := by rw [hV6]; exact (Blk.new' rfl).drew
                clear hH hV6
                have hH : V6.cell? ⟨gs, 0, none⟩ = some (.int .i64 regs) ∧ V6.cell? ⟨gs, 1, none⟩ = some (.slice sA sL.length sc) ∧ V6.cell? ⟨w.heap.size + 1, 0, none⟩ = some (.int .i64 t.op) ∧ V6.cell? ⟨w.heap.size + 1, 1, none⟩ = some (.int .i64 t.a) ∧ V6.cell? ⟨w.heap.size + 1, 2, none⟩ = some (.int .i64 t.b) := ⟨((bcell hC6).1 _ _ ls).trans s0, ((bcell hC6).1 _ _ ls).trans s1, ((bcell hC6).1 _ _ lt).trans t0, ((bcell hC6).1 _ _ lt).trans t1, ((bcell hC6).1 _ _ lt).trans t2⟩
                refine Shut.out HK11.out _ _ hH (fun _ => ?_)
                try simp only [Nm]
                clear HK11
                refine Rd 7 (by kernel_rfl) rfl (fun K hK => ?_)
                have HK7 := hide hK
                clear hK
                go_simp
                go_at_call 23
                refine ((HRv _ hC6).out).mono ?_
                rintro e w5 ⟨hc5, v1, v2, mX, mY, dm, rfl, hr1, hr2⟩
                obtain ⟨A1, c1, e1, _, _⟩ := hr1.shape
                rw [bools_length] at e1
                subst e1
                obtain ⟨A2, c2, e2, _, _⟩ := hr2.shape
                rw [bools_length] at e2
                subst e2
                have dm := hide dm
                have hC5 : Below wr.heap.size wr w5 := hC6.trans (hc5.mono hC6.size)
                clear hH
                have hH : w5.cell? ⟨gs, 0, none⟩ = some (.int .i64 regs) ∧ w5.cell? ⟨gs, 1, none⟩ = some (.slice sA sL.length sc) ∧ w5.cell? ⟨w.heap.size + 1, 0, none⟩ = some (.int .i64 t.op) ∧ w5.cell? ⟨w.heap.size + 1, 1, none⟩ = some (.int .i64 t.a) ∧ w5.cell? ⟨w.heap.size + 1, 2, none⟩ = some (.int .i64 t.b) := ⟨((bcell hC5).1 _ _ ls).trans s0, ((bcell hC5).1 _ _ ls).trans s1, ((bcell hC5).1 _ _ lt).trans t0, ((bcell hC5).1 _ _ lt).trans t1, ((bcell hC5).1 _ _ lt).trans t2⟩
                refine Shut.out HK7.out _ _ hH (fun _ => ?_)
                try simp only [Nm]
                clear HK7
                refine Vq 8 ?_ rfl (by kernel_rfl) hP (by rfl) ?r hH ?_; case r => intro w'; go_simp; try with_reducible rfl
                try simp only [Nm]
                refine Vq 9 ?_ rfl (by kernel_rfl) hP (by rfl) ?r hH ?_; case r => intro w'; go_simp; try with_reducible rfl
                try simp only [Nm]
                refine Vq 10 ?_ rfl (by kernel_rfl) hP (by rfl) ?r hH ?_; case r => intro w'; go_simp; try with_reducible rfl
                try simp only [Nm]
                have hQz := hzV6.below hc5 hzV6.lt
                have r1 := hr1.mono (base' := wr.heap.size) (by have := hC6.size; omega)
                have r2 := hr2.mono (base' := wr.heap.size) (by have := hC6.size; omega)
                have n1 := r1.ne_blk hQz (by decide)
                have n2 := r2.ne_blk hQz (by decide)
                have hwb : wr.heap.size ≤ wr.heap.size := Nat.le_refl _
                have hfin := QlSt.mk2 hQz r1 r2 n1 n2 hC5 hwb
                have hQz : Blk w5 wr.heap.size 50 #[.slice none 0 0, .slice none 0 0] := hQz
                have Hfin := hide hfin
                clear hzV6 r1 r2 n1 n2 hfin hr1 hr2
                refine Rd 12 (by kernel_rfl) rfl (fun K hK => ?_)
                have d0 := hQz.cell 0
                have d1 := hQz.cell 1
                have f0 := hQz.frozen 0
                have f1 := hQz.frozen 1
                simp only [tmA, Yl] at d0 d1
                have HK12 := hide hK
                clear hK
                go_simp
                refine Shut.out HK12.out _ _ ?_ (fun hH => ?_)
                · (try dsimp only)
                  obtain ⟨g0, g1, g2, g3, g4⟩ := hH
                  exact ⟨(set1_cell (by omega) _ _).trans ((set1_cell (by omega) _ _).trans g0), (set1_cell (by omega) _ _).trans ((set1_cell (by omega) _ _).trans g1), (set1_cell (by omega) _ _).trans ((set1_cell (by omega) _ _).trans g2), (set1_cell (by omega) _ _).trans ((set1_cell (by omega) _ _).trans g3), (set1_cell (by omega) _ _).trans ((set1_cell (by omega) _ _).trans g4)⟩
                try simp only [Nm]
                clear HK12
                refine Vq 13 ?_ rfl (by kernel_rfl) hP (by rfl) ?r hH ?_; case r => intro w'; go_simp; try with_reducible rfl
                try simp only [Nm]
                refine wpAnyH_done (by kernel_rfl) ?_ _
                go_wp2_with fail
                go_meet
                go_tidy
                exact ⟨wr.heap.size, A1, c1, A2, c2, mX, mY, rfl, rfl, dm.out, Hfin.out⟩
            case rest =>
              obtain ⟨W9, rfl⟩ : ∃ W : World, W = wc := ⟨_, rfl⟩
              obtain ⟨gm, Am1, cm1, Am2, cm2, mX, mY, rfl, rfl, dm, hSm⟩ := hcut
              have Dm := hide dm
              have hcb := hSm.below
              clear t0 t1 t2 lt s0 s1 ls HRv dm
              replace hs := hs.below hcb hs.lt
              replace ht := ht.below hcb ht.lt
              replace qs := qs.below' hcb
              replace hSa := hSa.later hcb
              replace hB := hB.trans (hcb.mono hB.size)
              clear hcb
              have hm := hSm.box
              have qm1 := hSm.r1
              have qm2 := hSm.r2
              clear hSm
              have s0 := hs.cell 0
              have s1 := hs.cell 1
              have t0 := ht.cell 0
              have t1 := ht.cell 1
              have t2 := ht.cell 2
              have m0 := hm.cell 0
              have m1 := hm.cell 1
              simp only [tmA, Yl] at s0 s1 t0 t1 t2 m0 m1
              have ls := hs.lt
              have lt := ht.lt
              have lm := hm.lt
              go_wp2_with fail
              refine (HAp.out _ _ _ qs.nodes Am1 Am2 mX mY cm1 cm2 qm1.vals qm2.vals).mono ?_
              rintro e w10 ⟨hb, v, rfl, hr⟩
              clear s0 s1 t0 t1 t2 m0 m1 ls lt lm
              replace hs := hs.below hb hs.lt
              replace ht := ht.below hb ht.lt
              replace hm := hm.below hb hm.lt
              replace qs := qs.below' hb
              replace qm1 := qm1.below' hb
              replace qm2 := qm2.below' hb
              replace hSa := hSa.later hb
              replace hB := hB.trans (hb.mono hB.size)
              clear hb
              have df := HRz.out (y.take sL.length) mX mY Dm.out
              generalize maE regs sL t mX mY = fE at *
              generalize maR regs sL t mX mY = fR at *
              generalize maL regs sL t mX mY = fL at *
              have Df := hide df
              clear df
              obtain ⟨fA, fc, fe, _, _⟩ := hr.shape
              subst fe
              have qf := hr
              clear hr
              have hT0 := hm.lt
              go_upto_region 26 with fail
              obtain ⟨W10, hW10⟩ : ∃ W : World, W = w10.alloc (.cells #[.int .i64 fR, .slice fA fL.length fc] 24) := ⟨_, rfl⟩
              have hb : Below w10.heap.size w10 W10 := by rw [hW10]; exact (Below.refl _ _).alloc (Nat.le_refl _) _
              have hf : Blk W10 w10.heap.size 24 #[.int .i64 fR, .slice fA fL.length fc] := by rw [hW10]; exact Blk.new' rfl
              rw [← hW10]
              replace hs := hs.below hb hs.lt
              replace ht := ht.below hb ht.lt
              replace hm := hm.below hb hm.lt
              replace qs := qs.below' hb
              replace qm1 := qm1.below' hb
              replace qm2 := qm2.below' hb
              replace qf := qf.below' hb
              replace hSa := hSa.later hb
              replace hB := hB.trans (hb.mono hB.size)
              obtain ⟨gf, hgf⟩ : ∃ b, b = w10.heap.size := ⟨_, rfl⟩
              rw [← hgf] at hf ⊢
              clear hW10 hgf hb hT0
              have hz := hf.lt
              go_upto_if 155 with fail
              go_cut [29] (fun s wx => s = .int .i64 fE ∧ Below W10.heap.size W10 wx)
              case first =>
                by_cases hz0 : fE = 0
                · have hd : (fE == 0) = true := by simp [hz0]
                  obtain ⟨hL, hcn⟩ := Df.out hz0
                  have HRn := fun (V : World) (hV : Below W10.heap.size W10 V) => hide (HRun.out V (hB.trans (hV.mono hB.size)) fR fL fA fc 131072 (qf.nodes.below hV) hL.len hL.chk (Nat.le_refl _))
                  have he := hL.ended
                  generalize (runR fR fL (fewL inp) 131072).told = Rf at *
                  have He := hide he
                  have Hcn := hide hcn
                  clear hz0 hL he hcn
                  have f0 := hf.cell 0
                  have f1 := hf.cell 1
                  simp only [tmA, Yl] at f0 f1
                  have lf := hf.lt
                  go_upto_region 29 with fail
                  go_cut [30, 31] (fun s1 s2 wy => ∃ (b : Nat) (O : Option Addr) (oc : Nat) (C : Option Addr) (cc : Nat), s1 = .pointer (some ⟨b, 0, none⟩) ∧ s2 = .int .i64 0 ∧ ResSt 3 75 33 W10 b O oc C cc Rf wy)
                  case first => as_aux_lemma =>
                    refine wp_region_held_drew (S := fun w' => w'.cell? ⟨gf, 0, none⟩ = some (.int .i64 fR) ∧ w'.cell? ⟨gf, 1, none⟩ = some (.slice fA fL.length fc)) (by kernel_rfl) ⟨f0, f1⟩ ?_
                    intro hH
                    have hC0 : Below W10.heap.size W10 W10.drew := (Below.refl _ _).drew
                    refine Up (fun _ _ _ _ _ => id) fun hP => ?_
                    refine Vi 0 ?_ rfl (by kernel_rfl) hP (by rfl) ?r hH ?_; case r => intro w' h; (try dsimp only at h); (try go_split_ands); go_simp; try with_reducible rfl
                    try simp only [Nm]
                    refine Vq 1 ?_ rfl (by kernel_rfl) hP (by rfl) ?r hH ?_; case r => intro w'; go_simp; try with_reducible rfl
                    try simp only [Nm]
                    refine wpAnyH_ready (rs := [2, 7]) (by kernel_rfl) (by simp) ?_
                    refine AllReadyH.cons rfl (fun K hK => ?_) (AllReadyH.cons rfl (fun K hK => ?_) AllReadyH.nil)
                    · have HK2 := hide hK
                      clear hK
                      go_simp
                      go_at_call 13
                      refine ((HF _).out).mono ?_
                      rintro e w0 ⟨rfl, rfl⟩
                      refine Shut.out HK2.out _ _ hH (fun _ => ?_)
                      try simp only [Nm]
                      clear HK2
                      refine wpAnyH_ready (rs := [3, 7]) (by kernel_rfl) (by simp) ?_
                      refine AllReadyH.cons rfl (fun K hK => ?_) (AllReadyH.cons rfl (fun K hK => ?_) AllReadyH.nil)
                      · have HK3 := hide hK
                        clear hK
                        go_simp
                        go_at_call 12
                        refine ((HRn _ hC0).out).mono ?_
                        rintro e w5 ⟨hc5, O5, oc5, C5, cc5, rfl, hO5⟩
                        have hC5 : Below W10.heap.size W10 w5 := hC0.trans (hc5.mono hC0.size)
                        clear hH
                        have hH : w5.cell? ⟨gf, 0, none⟩ = some (.int .i64 fR) ∧ w5.cell? ⟨gf, 1, none⟩ = some (.slice fA fL.length fc) := ⟨((bcell hC5).1 _ _ lf).trans f0, ((bcell hC5).1 _ _ lf).trans f1⟩
                        refine Shut.out HK3.out _ _ hH (fun _ => ?_)
                        try simp only [Nm]
                        clear HK3
                        refine Vq 4 ?_ rfl (by kernel_rfl) hP (by rfl) ?r hH ?_; case r => intro w'; go_simp; try with_reducible rfl
                        try simp only [Nm]
                        refine Vq 5 ?_ rfl (by kernel_rfl) hP (by rfl) ?r hH ?_; case r => intro w'; go_simp; try with_reducible rfl
                        try simp only [Nm]
                        refine Vq 6 ?_ rfl (by kernel_rfl) hP (by rfl) ?r hH ?_; case r => intro w'; go_simp; try with_reducible rfl
                        try simp only [Nm]
                        refine Rd 7 (by kernel_rfl) rfl (fun K hK => ?_)
                        have HK7 := hide hK
                        clear hK
                        go_simp
                        obtain ⟨V6, hV6⟩ : ∃ V : World, V = (w5).alloc (.cells #[.slice none 0 0, .int .i64 0, .bool false, .int .i64 0, .slice none 0 0] 33) := ⟨_, rfl⟩
                        rw [← hV6]
                        have hC6 : Below W10.heap.size W10 V6 := by rw [hV6]; exact Below.alloc hC5 hC5.size _
                        have hzV6 : Blk V6 (w5).heap.size 33 #[.slice none 0 0, .int .i64 0, .bool false, .int .i64 0, .slice none 0 0] := by rw [hV6]; exact Blk.new' rfl
                        have hbV6 : Below (w5).heap.size (w5) V6 := by rw [hV6]; exact (Below.refl _ _).alloc (Nat.le_refl _) _
                        clear hH hV6
                        have hH : V6.cell? ⟨gf, 0, none⟩ = some (.int .i64 fR) ∧ V6.cell? ⟨gf, 1, none⟩ = some (.slice fA fL.length fc) := ⟨((bcell hC6).1 _ _ lf).trans f0, ((bcell hC6).1 _ _ lf).trans f1⟩
                        refine Shut.out HK7.out _ _ hH (fun _ => ?_)
                        try simp only [Nm]
                        clear HK7
                        have hQz := hzV6
                        have rQ := (hO5.mono_ (B' := W10.heap.size) (by have := hC0.size; omega)).below hbV6
                        have n2 := hO5.ne (g := w5.heap.size) (.inr (Nat.le_refl _))
                        have hwb : W10.heap.size ≤ w5.heap.size := hC5.size
                        have nwb : ¬ (gf = w5.heap.size) := by have := hC5.size; have := lf; omega
                        have nwb' : ¬ (w5.heap.size = gf) := fun e => nwb e.symm
                        have hfin := ResSt.mk5 (R := Rf) hQz rQ n2 hC6 hwb
                        obtain ⟨b, hb⟩ : ∃ b, b = w5.heap.size := ⟨_, rfl⟩
                        rw [← hb] at hQz hfin nwb nwb' ⊢
                        have Hfin := hide hfin
                        clear hzV6 hb hbV6 rQ n2 hfin hO5
                        refine Rd 8 (by kernel_rfl) rfl (fun K hK => ?_)
                        have d0 := hQz.cell 0
                        have d1 := hQz.cell 1
                        have d2 := hQz.cell 2
                        have d3 := hQz.cell 3
                        have d4 := hQz.cell 4
                        have f0 := hQz.frozen 0
                        have f1 := hQz.frozen 1
                        have f2 := hQz.frozen 2
                        have f3 := hQz.frozen 3
                        have f4 := hQz.frozen 4
                        simp only [Yl] at d0 d1 d2 d3 d4
                        have HK8 := hide hK
                        clear hK
                        go_simp
                        refine Shut.out HK8.out _ _ ?_ (fun hH => ?_)
                        · (try dsimp only)
                          refine And.intro ?_ ?_
                          · rw [set5_cell nwb]; exact hH.1
                          · rw [set5_cell nwb]; exact hH.2
                        try simp only [Nm]
                        clear HK8
                        refine Vq 9 ?_ rfl (by kernel_rfl) hP (by rfl) ?r hH ?_; case r => intro w'; go_simp; try with_reducible rfl
                        try simp only [Nm]
                        refine wpAnyH_done (by kernel_rfl) ?_ _
                        go_wp2_with fail
                        go_meet
                        go_tidy
                        exact ⟨b, O5, oc5, C5, cc5, rfl, rfl, Hfin.out⟩
                      · have HK7 := hide hK
                        clear hK
                        go_simp
                        obtain ⟨V6, hV6⟩ : ∃ V : World, V = (W10.alloc (.cells #[.slice none 0 0, .int .i64 0, .bool false, .int .i64 0, .slice none 0 0] 33)).drew := ⟨_, rfl⟩
                        rw [← hV6]
                        have hC6 : Below W10.heap.size W10 V6 := by rw [hV6]; exact Below.drew ((Below.refl _ _).alloc (Nat.le_refl _) _)
                        have hzV6 : Blk V6 W10.heap.size 33 #[.slice none 0 0, .int .i64 0, .bool false, .int .i64 0, .slice none 0 0] := by rw [hV6]; exact (Blk.new' rfl).drew
                        clear hH hV6
                        have hH : V6.cell? ⟨gf, 0, none⟩ = some (.int .i64 fR) ∧ V6.cell? ⟨gf, 1, none⟩ = some (.slice fA fL.length fc) := ⟨((bcell hC6).1 _ _ lf).trans f0, ((bcell hC6).1 _ _ lf).trans f1⟩
                        refine Shut.out HK7.out _ _ hH (fun _ => ?_)
                        try simp only [Nm]
                        clear HK7
                        refine Rd 3 (by kernel_rfl) rfl (fun K hK => ?_)
                        have HK3 := hide hK
                        clear hK
                        go_simp
                        go_at_call 12
                        refine ((HRn _ hC6).out).mono ?_
                        rintro e w5 ⟨hc5, O5, oc5, C5, cc5, rfl, hO5⟩
                        have hC5 : Below W10.heap.size W10 w5 := hC6.trans (hc5.mono hC6.size)
                        clear hH
                        have hH : w5.cell? ⟨gf, 0, none⟩ = some (.int .i64 fR) ∧ w5.cell? ⟨gf, 1, none⟩ = some (.slice fA fL.length fc) := ⟨((bcell hC5).1 _ _ lf).trans f0, ((bcell hC5).1 _ _ lf).trans f1⟩
                        refine Shut.out HK3.out _ _ hH (fun _ => ?_)
                        try simp only [Nm]
                        clear HK3
                        refine Vq 4 ?_ rfl (by kernel_rfl) hP (by rfl) ?r hH ?_; case r => intro w'; go_simp; try with_reducible rfl
                        try simp only [Nm]
                        refine Vq 5 ?_ rfl (by kernel_rfl) hP (by rfl) ?r hH ?_; case r => intro w'; go_simp; try with_reducible rfl
                        try simp only [Nm]
                        refine Vq 6 ?_ rfl (by kernel_rfl) hP (by rfl) ?r hH ?_; case r => intro w'; go_simp; try with_reducible rfl
                        try simp only [Nm]
                        have hQz := hzV6.below hc5 hzV6.lt
                        have rQ := hO5.mono_ (B' := W10.heap.size) (by have := hC6.size; omega)
                        have n2 := hO5.ne (g := W10.heap.size) (.inl hzV6.lt)
                        have nwb : ¬ (gf = W10.heap.size) := by have := lf; omega
                        have nwb' : ¬ (W10.heap.size = gf) := fun e => nwb e.symm
                        have hfin := ResSt.mk5 (R := Rf) hQz rQ n2 hC5 (Nat.le_refl _)
                        obtain ⟨b, hb⟩ : ∃ b, b = W10.heap.size := ⟨_, rfl⟩
                        have hQz : Blk w5 W10.heap.size 33 #[.slice none 0 0, .int .i64 0, .bool false, .int .i64 0, .slice none 0 0] := hQz
                        rw [← hb] at hQz hfin nwb nwb'
                        try rw [← hb]
                        have Hfin := hide hfin
                        clear hzV6 hb rQ n2 hfin hO5
                        refine Rd 8 (by kernel_rfl) rfl (fun K hK => ?_)
                        have d0 := hQz.cell 0
                        have d1 := hQz.cell 1
                        have d2 := hQz.cell 2
                        have d3 := hQz.cell 3
                        have d4 := hQz.cell 4
                        have f0 := hQz.frozen 0
                        have f1 := hQz.frozen 1
                        have f2 := hQz.frozen 2
                        have f3 := hQz.frozen 3
                        have f4 := hQz.frozen 4
                        simp only [Yl] at d0 d1 d2 d3 d4
                        have HK8 := hide hK
                        clear hK
                        go_simp
                        refine Shut.out HK8.out _ _ ?_ (fun hH => ?_)
                        · (try dsimp only)
                          refine And.intro ?_ ?_
                          · rw [set5_cell nwb]; exact hH.1
                          · rw [set5_cell nwb]; exact hH.2
                        try simp only [Nm]
                        clear HK8
                        refine Vq 9 ?_ rfl (by kernel_rfl) hP (by rfl) ?r hH ?_; case r => intro w'; go_simp; try with_reducible rfl
                        try simp only [Nm]
                        refine wpAnyH_done (by kernel_rfl) ?_ _
                        go_wp2_with fail
                        go_meet
                        go_tidy
                        exact ⟨b, O5, oc5, C5, cc5, rfl, rfl, Hfin.out⟩
                    · have HK7 := hide hK
                      clear hK
                      go_simp
                      obtain ⟨V6, hV6⟩ : ∃ V : World, V = (W10.alloc (.cells #[.slice none 0 0, .int .i64 0, .bool false, .int .i64 0, .slice none 0 0] 33)).drew := ⟨_, rfl⟩
                      rw [← hV6]
                      have hC6 : Below W10.heap.size W10 V6 := by rw [hV6]; exact Below.drew ((Below.refl _ _).alloc (Nat.le_refl _) _)
                      have hzV6 : Blk V6 W10.heap.size 33 #[.slice none 0 0, .int .i64 0, .bool false, .int .i64 0, .slice none 0 0] := by rw [hV6]; exact (Blk.new' rfl).drew
                      clear hH hV6
                      have hH : V6.cell? ⟨gf, 0, none⟩ = some (.int .i64 fR) ∧ V6.cell? ⟨gf, 1, none⟩ = some (.slice fA fL.length fc) := ⟨((bcell hC6).1 _ _ lf).trans f0, ((bcell hC6).1 _ _ lf).trans f1⟩
                      refine Shut.out HK7.out _ _ hH (fun _ => ?_)
                      try simp only [Nm]
                      clear HK7
                      refine Rd 2 (by kernel_rfl) rfl (fun K hK => ?_)
                      have HK2 := hide hK
                      clear hK
                      go_simp
                      go_at_call 13
                      refine ((HF _).out).mono ?_
                      rintro e w0 ⟨rfl, rfl⟩
                      refine Shut.out HK2.out _ _ hH (fun _ => ?_)
                      try simp only [Nm]
                      clear HK2
                      refine Rd 3 (by kernel_rfl) rfl (fun K hK => ?_)
                      have HK3 := hide hK
                      clear hK
                      go_simp
                      go_at_call 12
                      refine ((HRn _ hC6).out).mono ?_
                      rintro e w5 ⟨hc5, O5, oc5, C5, cc5, rfl, hO5⟩
                      have hC5 : Below W10.heap.size W10 w5 := hC6.trans (hc5.mono hC6.size)
                      clear hH
                      have hH : w5.cell? ⟨gf, 0, none⟩ = some (.int .i64 fR) ∧ w5.cell? ⟨gf, 1, none⟩ = some (.slice fA fL.length fc) := ⟨((bcell hC5).1 _ _ lf).trans f0, ((bcell hC5).1 _ _ lf).trans f1⟩
                      refine Shut.out HK3.out _ _ hH (fun _ => ?_)
                      try simp only [Nm]
                      clear HK3
                      refine Vq 4 ?_ rfl (by kernel_rfl) hP (by rfl) ?r hH ?_; case r => intro w'; go_simp; try with_reducible rfl
                      try simp only [Nm]
                      refine Vq 5 ?_ rfl (by kernel_rfl) hP (by rfl) ?r hH ?_; case r => intro w'; go_simp; try with_reducible rfl
                      try simp only [Nm]
                      refine Vq 6 ?_ rfl (by kernel_rfl) hP (by rfl) ?r hH ?_; case r => intro w'; go_simp; try with_reducible rfl
                      try simp only [Nm]
                      have hQz := hzV6.below hc5 hzV6.lt
                      have rQ := hO5.mono_ (B' := W10.heap.size) (by have := hC6.size; omega)
                      have n2 := hO5.ne (g := W10.heap.size) (.inl hzV6.lt)
                      have nwb : ¬ (gf = W10.heap.size) := by have := lf; omega
                      have nwb' : ¬ (W10.heap.size = gf) := fun e => nwb e.symm
                      have hfin := ResSt.mk5 (R := Rf) hQz rQ n2 hC5 (Nat.le_refl _)
                      obtain ⟨b, hb⟩ : ∃ b, b = W10.heap.size := ⟨_, rfl⟩
                      have hQz : Blk w5 W10.heap.size 33 #[.slice none 0 0, .int .i64 0, .bool false, .int .i64 0, .slice none 0 0] := hQz
                      rw [← hb] at hQz hfin nwb nwb'
                      try rw [← hb]
                      have Hfin := hide hfin
                      clear hzV6 hb rQ n2 hfin hO5
                      refine Rd 8 (by kernel_rfl) rfl (fun K hK => ?_)
                      have d0 := hQz.cell 0
                      have d1 := hQz.cell 1
                      have d2 := hQz.cell 2
                      have d3 := hQz.cell 3
                      have d4 := hQz.cell 4
                      have f0 := hQz.frozen 0
                      have f1 := hQz.frozen 1
                      have f2 := hQz.frozen 2
                      have f3 := hQz.frozen 3
                      have f4 := hQz.frozen 4
                      simp only [Yl] at d0 d1 d2 d3 d4
                      have HK8 := hide hK
                      clear hK
                      go_simp
                      refine Shut.out HK8.out _ _ ?_ (fun hH => ?_)
                      · (try dsimp only)
                        refine And.intro ?_ ?_
                        · rw [set5_cell nwb]; exact hH.1
                        · rw [set5_cell nwb]; exact hH.2
                      try simp only [Nm]
                      clear HK8
                      refine Vq 9 ?_ rfl (by kernel_rfl) hP (by rfl) ?r hH ?_; case r => intro w'; go_simp; try with_reducible rfl
                      try simp only [Nm]
                      refine wpAnyH_done (by kernel_rfl) ?_ _
                      go_wp2_with fail
                      go_meet
                      go_tidy
                      exact ⟨b, O5, oc5, C5, cc5, rfl, rfl, Hfin.out⟩
                  case rest =>
                    obtain ⟨W8, rfl⟩ : ∃ W : World, W = wc := ⟨_, rfl⟩
                    obtain ⟨gr, Oq, ocq, Cq, ccq, rfl, rfl, hSr⟩ := hcut
                    have hb := hSr.below
                    clear f0 f1 lf
                    have hSa := hSa.later hb
                    replace ht := ht.below hb ht.lt
                    clear HRn
                    have a0 := hSa.box.cell 0
                    have a1 := hSa.box.cell 1
                    have a2 := hSa.box.cell 2
                    have a3 := hSa.box.cell 3
                    have a4 := hSa.box.cell 4
                    simp only [tmA, Yl] at a0 a1 a2 a3 a4
                    have la := hSa.box.lt
                    have r0 := hSr.box.cell 0
                    have r1 := hSr.box.cell 1
                    have r2 := hSr.box.cell 2
                    have r3 := hSr.box.cell 3
                    have r4 := hSr.box.cell 4
                    simp only [tmA, Yl] at r0 r1 r2 r3 r4
                    have lr := hSr.box.lt
                    have t0 := ht.cell 0
                    have t1 := ht.cell 1
                    have t2 := ht.cell 2
                    simp only [tmA, Yl] at t0 t1 t2
                    have lt := ht.lt
                    obtain ⟨_, la2⟩ := hSa.row.lens
                    obtain ⟨_, lr2⟩ := hSr.row.lens
                    have HTr := fun (V : World) (hV : Below W8.heap.size W8 V) => hide (Times_any Oq Rf.out.length ocq Rf.ret Rf.ended (Rf.steps : Int) Cq ccq Rf.cts t V (hSr.row.cts.nodes.below hV) lr2)
                    have HTa := fun (V : World) (hV : Below W8.heap.size W8 V) => hide (Times_any Oa Ra.out.length oca Ra.ret Ra.ended (Ra.steps : Int) Ca cca Ra.cts t V (hSa.row.cts.nodes.below hV) la2)
                    rw [He.out] at r2 HTr
                    rw [HE.out] at a2 HTa
                    have hcc : decide (cntOf Rf.cts t < cntOf Ra.cts t) = false := decide_eq_false (by have := Hcn.out; omega)
                    clear hSr He Hcn la2 lr2
                    go_upto_region 30 with fail
                    refine wp_region_held_drew (S := fun w' => w'.cell? ⟨gr, 0, none⟩ = some (.slice Oq Rf.out.length ocq) ∧ w'.cell? ⟨gr, 1, none⟩ = some (.int .i64 Rf.ret) ∧ w'.cell? ⟨gr, 2, none⟩ = some (.bool true) ∧ w'.cell? ⟨gr, 3, none⟩ = some (.int .i64 Rf.steps) ∧ w'.cell? ⟨gr, 4, none⟩ = some (.slice Cq Rf.cts.length ccq) ∧ w'.cell? ⟨ga, 0, none⟩ = some (.slice Oa Ra.out.length oca) ∧ w'.cell? ⟨ga, 1, none⟩ = some (.int .i64 Ra.ret) ∧ w'.cell? ⟨ga, 2, none⟩ = some (.bool true) ∧ w'.cell? ⟨ga, 3, none⟩ = some (.int .i64 Ra.steps) ∧ w'.cell? ⟨ga, 4, none⟩ = some (.slice Ca Ra.cts.length cca) ∧ w'.cell? ⟨w.heap.size + 1, 0, none⟩ = some (.int .i64 t.op) ∧ w'.cell? ⟨w.heap.size + 1, 1, none⟩ = some (.int .i64 t.a) ∧ w'.cell? ⟨w.heap.size + 1, 2, none⟩ = some (.int .i64 t.b)) (by kernel_rfl) ⟨r0, r1, r2, r3, r4, a0, a1, a2, a3, a4, t0, t1, t2⟩ ?_
                    intro hH
                    have hC0 : Below W8.heap.size W8 W8.drew := (Below.refl _ _).drew
                    refine Up (fun _ _ _ _ _ => id) fun hP => ?_
                    refine Vq 0 ?_ rfl (by kernel_rfl) hP (by rfl) ?r hH ?_; case r => intro w'; go_simp; try with_reducible rfl
                    try simp only [Nm]
                    refine Vq 1 ?_ rfl (by kernel_rfl) hP (by rfl) ?r hH ?_; case r => intro w'; go_simp; try with_reducible rfl
                    try simp only [Nm]
                    refine Vq 2 ?_ rfl (by kernel_rfl) hP (by rfl) ?r hH ?_; case r => intro w'; go_simp; try with_reducible rfl
                    try simp only [Nm]
                    refine Vq 3 ?_ rfl (by kernel_rfl) hP (by rfl) ?r hH ?_; case r => intro w'; go_simp; try with_reducible rfl
                    try simp only [Nm]
                    refine Vi 4 ?_ rfl (by kernel_rfl) hP (by rfl) ?r hH ?_; case r => intro w' h; (try dsimp only at h); (try go_split_ands); go_simp; try with_reducible rfl
                    try simp only [Nm]
                    refine Vq 5 ?_ rfl (by kernel_rfl) hP (by rfl) ?r hH ?_; case r => intro w'; go_simp; try with_reducible rfl
                    try simp only [Nm]
                    refine Vq 6 ?_ rfl (by kernel_rfl) hP (by rfl) ?r hH ?_; case r => intro w'; go_simp; try with_reducible rfl
                    try simp only [Nm]
                    refine Vq 7 ?_ rfl (by kernel_rfl) hP (by rfl) ?r hH ?_; case r => intro w'; go_simp; try with_reducible rfl
                    try simp only [Nm]
                    refine Vi 8 ?_ rfl (by kernel_rfl) hP (by rfl) ?r hH ?_; case r => intro w' h; (try dsimp only at h); (try go_split_ands); go_simp; try with_reducible rfl
                    try simp only [Nm]
                    refine Vi 9 ?_ rfl (by kernel_rfl) hP (by rfl) ?r hH ?_; case r => intro w' h; (try dsimp only at h); (try go_split_ands); go_simp; try with_reducible rfl
                    try simp only [Nm]
                    refine Vi 11 ?_ rfl (by kernel_rfl) hP (by rfl) ?r hH ?_; case r => intro w' h; (try dsimp only at h); (try go_split_ands); go_simp; try with_reducible rfl
                    try simp only [Nm]
                    refine Vi 12 ?_ rfl (by kernel_rfl) hP (by rfl) ?r hH ?_; case r => intro w' h; (try dsimp only at h); (try go_split_ands); go_simp; try with_reducible rfl
                    try simp only [Nm]
                    refine Rd 10 (by kernel_rfl) rfl (fun K hK => ?_)
                    have HK10 := hide hK
                    clear hK
                    go_simp
                    go_at_call 19
                    refine ((HTr _ hC0).out).mono ?_
                    rintro e V1 ⟨rfl, hbV1⟩
                    have hC1 : Below W8.heap.size W8 V1 := hC0.trans (hbV1.mono hC0.size)
                    clear hH
                    have hH : V1.cell? ⟨gr, 0, none⟩ = some (.slice Oq Rf.out.length ocq) ∧ V1.cell? ⟨gr, 1, none⟩ = some (.int .i64 Rf.ret) ∧ V1.cell? ⟨gr, 2, none⟩ = some (.bool true) ∧ V1.cell? ⟨gr, 3, none⟩ = some (.int .i64 Rf.steps) ∧ V1.cell? ⟨gr, 4, none⟩ = some (.slice Cq Rf.cts.length ccq) ∧ V1.cell? ⟨ga, 0, none⟩ = some (.slice Oa Ra.out.length oca) ∧ V1.cell? ⟨ga, 1, none⟩ = some (.int .i64 Ra.ret) ∧ V1.cell? ⟨ga, 2, none⟩ = some (.bool true) ∧ V1.cell? ⟨ga, 3, none⟩ = some (.int .i64 Ra.steps) ∧ V1.cell? ⟨ga, 4, none⟩ = some (.slice Ca Ra.cts.length cca) ∧ V1.cell? ⟨w.heap.size + 1, 0, none⟩ = some (.int .i64 t.op) ∧ V1.cell? ⟨w.heap.size + 1, 1, none⟩ = some (.int .i64 t.a) ∧ V1.cell? ⟨w.heap.size + 1, 2, none⟩ = some (.int .i64 t.b) := ⟨((bcell hC1).1 _ _ lr).trans r0, ((bcell hC1).1 _ _ lr).trans r1, ((bcell hC1).1 _ _ lr).trans r2, ((bcell hC1).1 _ _ lr).trans r3, ((bcell hC1).1 _ _ lr).trans r4, ((bcell hC1).1 _ _ la).trans a0, ((bcell hC1).1 _ _ la).trans a1, ((bcell hC1).1 _ _ la).trans a2, ((bcell hC1).1 _ _ la).trans a3, ((bcell hC1).1 _ _ la).trans a4, ((bcell hC1).1 _ _ lt).trans t0, ((bcell hC1).1 _ _ lt).trans t1, ((bcell hC1).1 _ _ lt).trans t2⟩
                    refine Shut.out HK10.out _ _ hH (fun _ => ?_)
                    try simp only [Nm]
                    clear HK10
                    refine Rd 13 (by kernel_rfl) rfl (fun K hK => ?_)
                    have HK13 := hide hK
                    clear hK
                    go_simp
                    go_at_call 19
                    refine ((HTa _ hC1).out).mono ?_
                    rintro e V2 ⟨rfl, hbV2⟩
                    have hC2 : Below W8.heap.size W8 V2 := hC1.trans (hbV2.mono hC1.size)
                    clear hH
                    have hH : V2.cell? ⟨gr, 0, none⟩ = some (.slice Oq Rf.out.length ocq) ∧ V2.cell? ⟨gr, 1, none⟩ = some (.int .i64 Rf.ret) ∧ V2.cell? ⟨gr, 2, none⟩ = some (.bool true) ∧ V2.cell? ⟨gr, 3, none⟩ = some (.int .i64 Rf.steps) ∧ V2.cell? ⟨gr, 4, none⟩ = some (.slice Cq Rf.cts.length ccq) ∧ V2.cell? ⟨ga, 0, none⟩ = some (.slice Oa Ra.out.length oca) ∧ V2.cell? ⟨ga, 1, none⟩ = some (.int .i64 Ra.ret) ∧ V2.cell? ⟨ga, 2, none⟩ = some (.bool true) ∧ V2.cell? ⟨ga, 3, none⟩ = some (.int .i64 Ra.steps) ∧ V2.cell? ⟨ga, 4, none⟩ = some (.slice Ca Ra.cts.length cca) ∧ V2.cell? ⟨w.heap.size + 1, 0, none⟩ = some (.int .i64 t.op) ∧ V2.cell? ⟨w.heap.size + 1, 1, none⟩ = some (.int .i64 t.a) ∧ V2.cell? ⟨w.heap.size + 1, 2, none⟩ = some (.int .i64 t.b) := ⟨((bcell hC2).1 _ _ lr).trans r0, ((bcell hC2).1 _ _ lr).trans r1, ((bcell hC2).1 _ _ lr).trans r2, ((bcell hC2).1 _ _ lr).trans r3, ((bcell hC2).1 _ _ lr).trans r4, ((bcell hC2).1 _ _ la).trans a0, ((bcell hC2).1 _ _ la).trans a1, ((bcell hC2).1 _ _ la).trans a2, ((bcell hC2).1 _ _ la).trans a3, ((bcell hC2).1 _ _ la).trans a4, ((bcell hC2).1 _ _ lt).trans t0, ((bcell hC2).1 _ _ lt).trans t1, ((bcell hC2).1 _ _ lt).trans t2⟩
                    refine Shut.out HK13.out _ _ hH (fun _ => ?_)
                    try simp only [Nm]
                    clear HK13
                    refine Vq 14 ?_ rfl (by kernel_rfl) hP (by rfl) ?r hH ?_; case r => intro w'; go_simp; try with_reducible rfl
                    try simp only [Nm]
                    try simp only [hcc]
                    refine Vq 15 ?_ rfl (by kernel_rfl) hP (by rfl) ?r hH ?_; case r => intro w'; go_simp; try with_reducible rfl
                    try simp only [Nm]
                    refine wpAnyH_done (by kernel_rfl) ?_ _
                    go_wp2_with fail
                    go_meet
                    go_tidy
                    exact ⟨rfl, hb.trans (hC2.mono hb.size)⟩
                · have hd : (fE == 0) = false := by simp [hz0]
                  clear hz0
                  go_wp2_with fail
                  go_meet
                  go_tidy
                  exact ⟨rfl, Below.refl _ _⟩
              case rest =>
                obtain ⟨W11, rfl⟩ : ∃ W : World, W = wc := ⟨_, rfl⟩
                obtain ⟨rfl, hcb⟩ := hcut
                replace hB := hB.trans (hcb.mono hB.size)
                go_wp2_with fail
                refine (moveBegun_any _).mono ?_
                rintro e w9 ⟨rfl, hb9⟩
                go_wp2_with fail
                go_ret
                exact ⟨rfl, hB.trans (hb9.mono hB.size)⟩
theorem MoveLeast_any (regs : Int) (A : Option Addr) (l : List Nd) (cap : Nat) (t : Tm) (X : Option Addr) (x : List Bool) (xc : Nat) (Ai : Option Addr) (inp : List Int) (ci : Nat) (fuel : Int) (w : World) (hA : NodesAt w A l) (hml : l.length ≤ maxLen) (hX : ValsAt w X (bools x)) (hxc : x.length ≤ xc ∧ xc ≤ maxLen) (hI : ValsAt w Ai (ints inp)) (hic : inp.length ≤ ci ∧ ci ≤ maxLen) (hf : i64ok fuel) :
    Calls Try.prog 6 #[.agg #[.int .i64 regs, .slice A l.length cap], tmV t, .slice X x.length xc, .slice Ai inp.length ci, .int .i64 fuel] w fun e w' => e = .returned (.bool true) ∧ Below w.heap.size w w' := by
  by_cases hc : chk regs l = 0
  · by_cases h0 : oneE regs (trimL l) t = 0
    · exact least_ok regs A l cap t X x xc Ai inp ci fuel w hA hml hX hxc hI hic hf hc h0
    · exact least_one regs A l cap t X x xc Ai inp ci fuel w hA hml hc h0
  · exact least_chk regs A l cap t X x xc Ai inp ci fuel w hA hml hc
end
end Go.Proofs.Ytmghkonmfbpjcab
