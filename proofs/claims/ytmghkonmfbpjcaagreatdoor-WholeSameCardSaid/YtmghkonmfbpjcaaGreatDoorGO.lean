/- WpS WpLaid. -/
import Derived.Test.YtmghkonmfbpjcaaGreatDoorGI
import Derived.Test.YtmghkonmfbpjcaaGreatDoorGJ
import Derived.Test.YtmghkonmfbpjcaaGreatDoorGN
import Derived.Test.YtmghkonmfbpjcaaGreatDoorGA
import Derived.Test.YtmghkonmfbpjcaaGreatDoorRows
import Derived.ProofKit
import Derived.LaidMore
import Derived.OpenShut
import Derived.Stop.Joined
import Derived.Stop.LaidErr
import Derived.Lib.LaidTab
import Derived.Shelf.Vars
import Derived.Deep.DeepWitnessRowRef
set_option linter.unusedVariables false
set_option linter.unusedSimpArgs false
namespace Go.Proofs.YtmghkonmfbpjcaaGreatDoor
section
open Go.RowKit
set_option maxHeartbeats 8000000
attribute [local irreducible] Row CRow madeCells NRow
theorem stepR_ts (l : List Nd) (inp : List Int) (s : Rn) : (stepR l inp s).ts.length ≤ s.ts.length + 1 := by
  unfold stepR
  simp only
  repeat' split
  all_goals simp
theorem goR_ts (l : List Nd) (inp : List Int) : ∀ (k : Nat) (s : Rn), (goR l inp k s).ts.length ≤ s.ts.length + k
  | 0, s => Nat.le_refl _
  | k + 1, s => by
    unfold goR
    split
    · omega
    · have h1 := goR_ts l inp k (stepR l inp s)
      have h2 := stepR_ts l inp s
      omega
theorem run_ts (r : Int) (l : List Nd) (inp : List Int) (n : Nat) : (runR r l inp n).ts.length ≤ n := by
  have := goR_ts l inp n (startR r)
  simpa [runR, startR] using this
theorem totalL_nn : ∀ {cs : List (Tm × Int)}, (∀ x ∈ cs, 0 < x.2) → 0 ≤ totalL cs
  | [], _ => by simp [totalL]
  | x :: cs, h => by
    have h1 := h x (by simp)
    have h2 := totalL_nn (cs := cs) (fun y hy => h y (by simp [hy]))
    unfold totalL at *
    rw [List.map_cons, List.sum_cons]
    omega
theorem totalL_app (a b : List (Tm × Int)) : totalL (a ++ b) = totalL a + totalL b := by
  unfold totalL
  rw [List.map_append, List.sum_append]
theorem totalL_pre (ts : List Tm) (k : Nat) : 0 ≤ totalL ((countsL ts).take k) ∧ totalL ((countsL ts).take k) ≤ ts.length := by
  have hp := countsL_pos ts
  have e : totalL ((countsL ts).take k) + totalL ((countsL ts).drop k) = ts.length := by rw [← totalL_app, List.take_append_drop, totalL_counts]
  have h1 := totalL_nn (cs := (countsL ts).take k) fun x hx => hp x (List.mem_of_mem_take hx)
  have h2 := totalL_nn (cs := (countsL ts).drop k) fun x hx => hp x (List.mem_of_mem_drop hx)
  omega
theorem run_ok (r : Int) (l : List Nd) (inp : List Int) (n : Nat) (hn : n ≤ 131072) : ∀ k, k ≤ (runR r l inp n).told.cts.length → i64ok (totalL ((runR r l inp n).told.cts.take k)) := fun k _ => by
  obtain ⟨h1, h2⟩ := totalL_pre (runR r l inp n).ts k
  have h3 := run_ts r l inp n
  show -9223372036854775808 ≤ totalL ((countsL (runR r l inp n).ts).take k) ∧ totalL ((countsL (runR r l inp n).ts).take k) ≤ 9223372036854775807
  omega
structure WholeOk (r : Int) (l : List Nd) (r' : Int) (l' : List Nd) (inp : List Int) (n : Nat) : Prop where
  chkl : chk r l = 0
  chkm : chk r' l' = 0
  len : l'.length ≤ 256
  does : Does (runR r l inp n).told (runR r' l' inp n).told (runR r' l' inp (n * (l'.length + 1) + l'.length)).told
  less : (runR r l inp n).told.ended = true → totalL (runR r' l' inp (n * (l'.length + 1))).told.cts ≤ totalL (runR r l inp n).told.cts
theorem PassesIs.whole {r : Int} {l : List Nd} {ns : List Int} {r' : Int} {l' : List Nd} (h : PassesIs r l ns 0 r' l') (inp : List Int) (n : Nat) : WholeOk r l r' l' inp n := by
  rcases h with ⟨h1, h2, _⟩ | ⟨_, _, h, _⟩ | ⟨_, _, _, h, _⟩ | ⟨hc, _, _, h⟩
  · exact absurd h2.symm h1
  · cases h
  · cases h
  · have hR := right_of_chk hc
    have hM := h.right rfl hR
    refine ⟨hc, hM.chk, hM.hi, (h.doing rfl hR).does n, fun he => ?_⟩
    have := h.total inp hR n he
    show totalL (countsL _) ≤ totalL (countsL _)
    rw [totalL_counts, totalL_counts]
    omega
set_option maxRecDepth 100000 in
theorem WholeSame_any (regs : Int) (A : Option Addr) (l : List Nd) (cap : Nat) (S : Option Addr) (ns : List Int) (sc : Nat) (Ai : Option Addr) (inp : List Int) (ci : Nat) (fuel : Int) (w : World) (hA : NodesAt w A l) (hml : l.length ≤ maxLen) (hS : ValsAt w S (ints ns)) (hnl : ns.length ≤ maxLen) (hwf : ∀ n ∈ ns, (Lit.int .i64 n).wf = true) (hI : ValsAt w Ai (ints inp)) (hic : inp.length ≤ ci ∧ ci ≤ maxLen) (hf : i64ok fuel) (hT : Tv w) :
    Calls Tryz.prog 3 #[.agg #[.int .i64 regs, .slice A l.length cap], .slice S ns.length sc, .slice Ai inp.length ci, .int .i64 fuel] w fun e w' => e = .returned (.bool true) ∧ Below w.heap.size w w' := by
  have HP := hide (fun W (hW : Below w.heap.size w W) => Passes_any regs A l cap S ns sc W (hA.below hW) hml (hS.below hW) hnl hwf)
  have HCh := fun V => hide (choose_any fuel 300 (by omega) (by omega) hf V)
  have hn := chV_in fuel (show (0 : Int) < 300 by omega)
  generalize chV fuel 300 = n at *
  obtain ⟨n', rfl⟩ : ∃ n' : Nat, n = n' := ⟨n.toNat, by omega⟩
  have hn4 : n' ≤ 400 := by omega
  have hfi : (fewL inp).length ≤ ci ∧ ci ≤ maxLen := ⟨by have : (fewL inp).length ≤ inp.length := (by unfold fewL; rw [List.length_take]; omega); omega, hic.2⟩
  have hfl := fewL_len inp
  have HF := fun V => hide (few_any Ai inp ci V hic)
  have HR0 := hide (fun (V : World) (hV : Below w.heap.size w V) (hc : chk regs l = 0) => Run_got (cap := cap) (n := n') (w := V) hml (hA.below hV) ((hI.below hV).few) hfi hc hfl (by omega))
  have HR2 := hide (fun (V : World) (r : Int) (m : List Nd) B bc (N : Nat) (hM : NodesAt V B m) (hV : Below w.heap.size w V) (hm : m.length ≤ maxLen) (hc : chk r m = 0) (hN : N ≤ 131072) => Run_got (regs := r) (cap := bc) (n := N) (w := V) hm hM ((hI.below hV).few) hfi hc hfl hN)
  have HD0 := hide (fun (V : World) (hV : Below w.heap.size w V) (r : Int) (m : List Nd) B bc (hM : NodesAt V B m) (hO : WholeOk regs l r m (fewL inp) n') => does_any (cap := cap) (mcap := bc) hml hO.len (hA.below hV) hM ((hI.below hV).few) hfi hO.chkl hO.chkm hfl hn4 hO.does)
  have HT := hide (fun (V : World) (hV : Below w.heap.size w V) => wholeBegun_any V (hT.below hV))
  have HN := hide hn4
  clear hA hS hI hf hT hfi hfl hn hn4 hwf
  go_enter Tryz.func3, Tryz.ntmps3
  go_wp2_with fail
  refine (HP.out _ (by (with_reducible repeat first | apply Qa | assumption | apply Qb | apply Qc | apply Qd | apply Qe | refine Qf ?_ (by assumption) ?_); all_goals (try simp only [Sz]); first | done | omega | (try simp only [Sz] at *); omega)).mono ?_
  rintro e w1 ⟨c, qR, qL, v, rfl, hPI, hr, hb⟩
  have hz1 := hb.size
  simp only [World.size_alloc] at hz1
  have hB : Below w.heap.size w w1 := (by (with_reducible repeat first | apply Qa | assumption | apply Qb | apply Qc | apply Qd | apply Qe | refine Qf ?_ (by assumption) ?_); all_goals (try simp only [Sz]); first | done | omega | (try simp only [Sz] at *); omega)
  have hp : Blk w1 (w.heap.size) 24 #[.int .i64 regs, .slice A l.length cap] := Blk.below (by skip; repeat (first | ((with_reducible refine Blk.new' ?_); exact (by (try simp only [Sz]); first | done | omega | (try simp only [Sz] at *); omega)) | (with_reducible refine Blk.alloc ?_ _))) hb (by simp <;> omega)
  clear hb hz1
  replace hr := hr.mono (base' := w.heap.size) (by simp)
  obtain ⟨qA, qc, qe, _, _⟩ := hr.shape
  subst qe
  have qq := hr
  clear hr
  have HPI := hide hPI
  clear hPI
  have hT0 := hp.lt
  go_upto_region 2 with fail
  obtain ⟨W1, hW1⟩ : ∃ W : World, W = w1.alloc (.cells #[.int .i64 qR, .slice qA qL.length qc] 24) := ⟨_, rfl⟩
  have hb : Below w1.heap.size w1 W1 := by rw [hW1]; exact (Below.refl _ _).alloc (Nat.le_refl _) _
  have hq : Blk W1 w1.heap.size 24 #[.int .i64 qR, .slice qA qL.length qc] := by rw [hW1]; exact Blk.new' rfl
  rw [← hW1]
  replace hp := hp.below hb hp.lt
  replace qq := qq.below' hb
  replace hB := hB.trans (hb.mono hB.size)
  obtain ⟨gq, hgq⟩ : ∃ b, b = w1.heap.size := ⟨_, rfl⟩
  rw [← hgq] at hq ⊢
  clear hW1 hgq hb hT0
  by_cases hc : c = 0
  case neg =>
    have hne : (c != 0) = true := by simpa using hc
    clear hc HPI hp hq qq
    go_wp2_with fail
    refine Calls.mono (HT.out _ hB) ?_
    rintro e w9 ⟨rfl, hb9⟩
    go_wp2_with fail
    go_ret
    exact ⟨rfl, hB.trans (hb9.mono hB.size)⟩
  case pos =>
    subst hc
    have hO := HPI.out.whole (fewL inp) n'
    have hn4 := HN.out
    have hqh := hO.len
    have hqm : qL.length ≤ maxLen := by unfold maxLen; omega
    obtain ⟨N, hN⟩ : ∃ N : Nat, N = n' * (qL.length + 1) := ⟨_, rfl⟩
    have hNN : N ≤ 131072 := by
      have : n' * (qL.length + 1) ≤ 400 * 257 := Nat.mul_le_mul hn4 (by omega)
      omega
    have e1 : IntKind.i64.wrap ((qL.length : Int) + 1) = (qL.length : Int) + 1 := by rw [IntKind.wrap_i64]; omega
    have e2 : IntKind.i64.wrap ((n' : Int) * ((qL.length : Int) + 1)) = (N : Int) := by
      have : (n' : Int) * ((qL.length : Int) + 1) = ((n' * (qL.length + 1) : Nat) : Int) := by simp
      rw [this, ← hN, IntKind.wrap_i64]; omega
    have HRa := fun (V : World) (hV : Below W1.heap.size W1 V) => hide (HR0.out V (hB.trans (hV.mono hB.size)) hO.chkl)
    have HRq := hide (fun (V : World) (hM : NodesAt V qA qL) (hV : Below w.heap.size w V) => HR2.out V qR qL qA qc N hM hV hqm hO.chkm hNN)
    have HDo := hide (fun (V : World) (hM : NodesAt V qA qL) (hV : Below w.heap.size w V) => HD0.out V hV qR qL qA qc hM hO)
    have hless := hO.less
    rw [← hN] at hless
    have hok1 := run_ok regs l (fewL inp) n' (by omega)
    have hok2 := run_ok qR qL (fewL inp) N hNN
    generalize (runR regs l (fewL inp) n').told = R1 at *
    generalize (runR qR qL (fewL inp) N).told = R2 at *
    have HL := hide hless
    have HO1 := hide hok1
    have HO2 := hide hok2
    have E1 := hide e1
    have E2 := hide e2
    clear HPI hO hn4 hN hNN e1 e2 hless hok1 hok2 HR0 HR2 HD0 HN HP hqm
    have hz := hB.size
    go_wp2_with (go_at_call 7; refine ((HCh _).out).mono ?_; rintro e w0 ⟨rfl, hw0⟩; rw [hw0]; clear hw0 w0)
    have p0 := hp.cell 0
    have p1 := hp.cell 1
    simp only [tmA, Yl] at p0 p1
    have lp := hp.lt
    go_cut [12, 13] (fun s1 s2 wy => ∃ (b : Nat) (O : Option Addr) (oc : Nat) (C : Option Addr) (cc : Nat), s1 = .pointer (some ⟨b, 0, none⟩) ∧ s2 = .int .i64 0 ∧ ResSt 3 66 33 W1 b O oc C cc R1 wy)
    case first =>
      refine wp_region_held_drew (S := fun w' => w'.cell? ⟨w.heap.size, 0, none⟩ = some (.int .i64 regs) ∧ w'.cell? ⟨w.heap.size, 1, none⟩ = some (.slice A l.length cap)) (by kernel_rfl) ⟨p0, p1⟩ ?_
      intro hH
      have hC0 : Below W1.heap.size W1 W1.drew := (Below.refl _ _).drew
      refine Up (fun _ _ _ _ _ => id) fun hP => ?_
      refine Vi 0 ?_ rfl (by kernel_rfl) hP (by rfl) ?r hH ?_; case r => intro w' h; (try dsimp only at h); (try go_split_ands); go_simp; try with_reducible rfl
      try simp only [Nm]
      refine Vq 1 ?_ rfl (by kernel_rfl) hP (by rfl) ?r hH ?_; case r => intro w'; go_simp; try with_reducible rfl
      try simp only [Nm]
      refine Vq 3 ?_ rfl (by kernel_rfl) hP (by rfl) ?r hH ?_; case r => intro w'; go_simp; try with_reducible rfl
      try simp only [Nm]
      refine wpAnyH_ready (rs := [2, 8]) (by kernel_rfl) (by simp) ?_
      refine AllReadyH.cons rfl (fun K hK => ?_) (AllReadyH.cons rfl (fun K hK => ?_) AllReadyH.nil)
      · have HK2 := hide hK
        clear hK
        go_simp
        go_at_call 9
        refine ((HF _).out).mono ?_
        rintro e w0 ⟨rfl, rfl⟩
        refine Shut.out HK2.out _ _ hH (fun _ => ?_)
        try simp only [Nm]
        clear HK2
        refine wpAnyH_ready (rs := [4, 8]) (by kernel_rfl) (by simp) ?_
        refine AllReadyH.cons rfl (fun K hK => ?_) (AllReadyH.cons rfl (fun K hK => ?_) AllReadyH.nil)
        · have HK4 := hide hK
          clear hK
          go_simp
          go_at_call 8
          refine ((HRa _ hC0).out).mono ?_
          rintro e w5 ⟨hc5, O5, oc5, C5, cc5, rfl, hO5⟩
          have hC5 : Below W1.heap.size W1 w5 := hC0.trans (hc5.mono hC0.size)
          clear hH
          have hH : w5.cell? ⟨w.heap.size, 0, none⟩ = some (.int .i64 regs) ∧ w5.cell? ⟨w.heap.size, 1, none⟩ = some (.slice A l.length cap) := ⟨((bcell hC5).1 _ _ lp).trans p0, ((bcell hC5).1 _ _ lp).trans p1⟩
          refine Shut.out HK4.out _ _ hH (fun _ => ?_)
          try simp only [Nm]
          clear HK4
          refine Vq 5 ?_ rfl (by kernel_rfl) hP (by rfl) ?r hH ?_; case r => intro w'; go_simp; try with_reducible rfl
          try simp only [Nm]
          refine Vq 6 ?_ rfl (by kernel_rfl) hP (by rfl) ?r hH ?_; case r => intro w'; go_simp; try with_reducible rfl
          try simp only [Nm]
          refine Vq 7 ?_ rfl (by kernel_rfl) hP (by rfl) ?r hH ?_; case r => intro w'; go_simp; try with_reducible rfl
          try simp only [Nm]
          refine Rd 8 (by kernel_rfl) rfl (fun K hK => ?_)
          have HK8 := hide hK
          clear hK
          go_simp
          obtain ⟨V6, hV6⟩ : ∃ V : World, V = (w5).alloc (.cells #[.slice none 0 0, .int .i64 0, .bool false, .int .i64 0, .slice none 0 0] 33) := ⟨_, rfl⟩
          rw [← hV6]
          have hC6 : Below W1.heap.size W1 V6 := by rw [hV6]; exact Below.alloc hC5 hC5.size _
          have hzV6 : Blk V6 (w5).heap.size 33 #[.slice none 0 0, .int .i64 0, .bool false, .int .i64 0, .slice none 0 0] := by rw [hV6]; exact Blk.new' rfl
          have hbV6 : Below (w5).heap.size (w5) V6 := by rw [hV6]; exact (Below.refl _ _).alloc (Nat.le_refl _) _
          clear hH hV6
          have hH : V6.cell? ⟨w.heap.size, 0, none⟩ = some (.int .i64 regs) ∧ V6.cell? ⟨w.heap.size, 1, none⟩ = some (.slice A l.length cap) := ⟨((bcell hC6).1 _ _ lp).trans p0, ((bcell hC6).1 _ _ lp).trans p1⟩
          refine Shut.out HK8.out _ _ hH (fun _ => ?_)
          try simp only [Nm]
          clear HK8
          have hQz := hzV6
          have rQ := (hO5.mono_ (B' := W1.heap.size) (by have := hC0.size; omega)).below hbV6
          have n2 := hO5.ne (g := w5.heap.size) (.inr (Nat.le_refl _))
          have hwb : W1.heap.size ≤ w5.heap.size := hC5.size
          have nwb : ¬ (w.heap.size = w5.heap.size) := by have := hC5.size; have := lp; omega
          have nwb' : ¬ (w5.heap.size = w.heap.size) := fun e => nwb e.symm
          have hfin := ResSt.mk5 (R := R1) hQz rQ n2 hC6 hwb
          obtain ⟨b, hb⟩ : ∃ b, b = w5.heap.size := ⟨_, rfl⟩
          rw [← hb] at hQz hfin nwb nwb' ⊢
          have Hfin := hide hfin
          clear hzV6 hb hbV6 rQ n2 hfin hO5
          refine Rd 9 (by kernel_rfl) rfl (fun K hK => ?_)
          have d0 := hQz.cell 0
          have d1 := hQz.cell 1
          have d2 := hQz.cell 2
          have d3 := hQz.cell 3
          have d4 := hQz.cell 4
          have f0 := hQz.frozen 0
          have f1 := hQz.frozen 1
          have f2 := hQz.frozen 2
          have f3 := hQz.frozen 3
          have f4 := hQz.frozen 4
          simp only [Yl] at d0 d1 d2 d3 d4
          have HK9 := hide hK
          clear hK
          go_simp
          refine Shut.out HK9.out _ _ ?_ (fun hH => ?_)
          · (try dsimp only)
            refine And.intro ?_ ?_
            · rw [set5_cell nwb]; exact hH.1
            · rw [set5_cell nwb]; exact hH.2
          try simp only [Nm]
          clear HK9
          refine Vq 10 ?_ rfl (by kernel_rfl) hP (by rfl) ?r hH ?_; case r => intro w'; go_simp; try with_reducible rfl
          try simp only [Nm]
          refine wpAnyH_done (by kernel_rfl) ?_ _
          go_wp2_with fail
          go_meet
          go_tidy
          exact ⟨b, O5, oc5, C5, cc5, rfl, rfl, Hfin.out⟩
        · have HK8 := hide hK
          clear hK
          go_simp
          obtain ⟨V6, hV6⟩ : ∃ V : World, V = (W1.alloc (.cells #[.slice none 0 0, .int .i64 0, .bool false, .int .i64 0, .slice none 0 0] 33)).drew := ⟨_, rfl⟩
          rw [← hV6]
          have hC6 : Below W1.heap.size W1 V6 := by rw [hV6]; exact Below.drew ((Below.refl _ _).alloc (Nat.le_refl _) _)
          have hzV6 : Blk V6 W1.heap.size 33 #[.slice none 0 0, .int .i64 0, .bool false, .int .i64 0, .slice none 0 0] := by rw [hV6]; exact (Blk.new' rfl).drew
          clear hH hV6
          have hH : V6.cell? ⟨w.heap.size, 0, none⟩ = some (.int .i64 regs) ∧ V6.cell? ⟨w.heap.size, 1, none⟩ = some (.slice A l.length cap) := ⟨((bcell hC6).1 _ _ lp).trans p0, ((bcell hC6).1 _ _ lp).trans p1⟩
          refine Shut.out HK8.out _ _ hH (fun _ => ?_)
          try simp only [Nm]
          clear HK8
          refine Rd 4 (by kernel_rfl) rfl (fun K hK => ?_)
          have HK4 := hide hK
          clear hK
          go_simp
          go_at_call 8
          refine ((HRa _ hC6).out).mono ?_
          rintro e w5 ⟨hc5, O5, oc5, C5, cc5, rfl, hO5⟩
          have hC5 : Below W1.heap.size W1 w5 := hC6.trans (hc5.mono hC6.size)
          clear hH
          have hH : w5.cell? ⟨w.heap.size, 0, none⟩ = some (.int .i64 regs) ∧ w5.cell? ⟨w.heap.size, 1, none⟩ = some (.slice A l.length cap) := ⟨((bcell hC5).1 _ _ lp).trans p0, ((bcell hC5).1 _ _ lp).trans p1⟩
          refine Shut.out HK4.out _ _ hH (fun _ => ?_)
          try simp only [Nm]
          clear HK4
          refine Vq 5 ?_ rfl (by kernel_rfl) hP (by rfl) ?r hH ?_; case r => intro w'; go_simp; try with_reducible rfl
          try simp only [Nm]
          refine Vq 6 ?_ rfl (by kernel_rfl) hP (by rfl) ?r hH ?_; case r => intro w'; go_simp; try with_reducible rfl
          try simp only [Nm]
          refine Vq 7 ?_ rfl (by kernel_rfl) hP (by rfl) ?r hH ?_; case r => intro w'; go_simp; try with_reducible rfl
          try simp only [Nm]
          have hQz := hzV6.below hc5 hzV6.lt
          have rQ := hO5.mono_ (B' := W1.heap.size) (by have := hC6.size; omega)
          have n2 := hO5.ne (g := W1.heap.size) (.inl hzV6.lt)
          have nwb : ¬ (w.heap.size = W1.heap.size) := by have := lp; omega
          have nwb' : ¬ (W1.heap.size = w.heap.size) := fun e => nwb e.symm
          have hfin := ResSt.mk5 (R := R1) hQz rQ n2 hC5 (Nat.le_refl _)
          obtain ⟨b, hb⟩ : ∃ b, b = W1.heap.size := ⟨_, rfl⟩
          have hQz : Blk w5 W1.heap.size 33 #[.slice none 0 0, .int .i64 0, .bool false, .int .i64 0, .slice none 0 0] := hQz
          rw [← hb] at hQz hfin nwb nwb'
          try rw [← hb]
          have Hfin := hide hfin
          clear hzV6 hb rQ n2 hfin hO5
          refine Rd 9 (by kernel_rfl) rfl (fun K hK => ?_)
          have d0 := hQz.cell 0
          have d1 := hQz.cell 1
          have d2 := hQz.cell 2
          have d3 := hQz.cell 3
          have d4 := hQz.cell 4
          have f0 := hQz.frozen 0
          have f1 := hQz.frozen 1
          have f2 := hQz.frozen 2
          have f3 := hQz.frozen 3
          have f4 := hQz.frozen 4
          simp only [Yl] at d0 d1 d2 d3 d4
          have HK9 := hide hK
          clear hK
          go_simp
          refine Shut.out HK9.out _ _ ?_ (fun hH => ?_)
          · (try dsimp only)
            refine And.intro ?_ ?_
            · rw [set5_cell nwb]; exact hH.1
            · rw [set5_cell nwb]; exact hH.2
          try simp only [Nm]
          clear HK9
          refine Vq 10 ?_ rfl (by kernel_rfl) hP (by rfl) ?r hH ?_; case r => intro w'; go_simp; try with_reducible rfl
          try simp only [Nm]
          refine wpAnyH_done (by kernel_rfl) ?_ _
          go_wp2_with fail
          go_meet
          go_tidy
          exact ⟨b, O5, oc5, C5, cc5, rfl, rfl, Hfin.out⟩
      · have HK8 := hide hK
        clear hK
        go_simp
        obtain ⟨V6, hV6⟩ : ∃ V : World, V = (W1.alloc (.cells #[.slice none 0 0, .int .i64 0, .bool false, .int .i64 0, .slice none 0 0] 33)).drew := ⟨_, rfl⟩
        rw [← hV6]
        have hC6 : Below W1.heap.size W1 V6 := by rw [hV6]; exact Below.drew ((Below.refl _ _).alloc (Nat.le_refl _) _)
        have hzV6 : Blk V6 W1.heap.size 33 #[.slice none 0 0, .int .i64 0, .bool false, .int .i64 0, .slice none 0 0] := by rw [hV6]; exact (Blk.new' rfl).drew
        clear hH hV6
        have hH : V6.cell? ⟨w.heap.size, 0, none⟩ = some (.int .i64 regs) ∧ V6.cell? ⟨w.heap.size, 1, none⟩ = some (.slice A l.length cap) := ⟨((bcell hC6).1 _ _ lp).trans p0, ((bcell hC6).1 _ _ lp).trans p1⟩
        refine Shut.out HK8.out _ _ hH (fun _ => ?_)
        try simp only [Nm]
        clear HK8
        refine Rd 2 (by kernel_rfl) rfl (fun K hK => ?_)
        have HK2 := hide hK
        clear hK
        go_simp
        go_at_call 9
        refine ((HF _).out).mono ?_
        rintro e w0 ⟨rfl, rfl⟩
        refine Shut.out HK2.out _ _ hH (fun _ => ?_)
        try simp only [Nm]
        clear HK2
        refine Rd 4 (by kernel_rfl) rfl (fun K hK => ?_)
        have HK4 := hide hK
        clear hK
        go_simp
        go_at_call 8
        refine ((HRa _ hC6).out).mono ?_
        rintro e w5 ⟨hc5, O5, oc5, C5, cc5, rfl, hO5⟩
        have hC5 : Below W1.heap.size W1 w5 := hC6.trans (hc5.mono hC6.size)
        clear hH
        have hH : w5.cell? ⟨w.heap.size, 0, none⟩ = some (.int .i64 regs) ∧ w5.cell? ⟨w.heap.size, 1, none⟩ = some (.slice A l.length cap) := ⟨((bcell hC5).1 _ _ lp).trans p0, ((bcell hC5).1 _ _ lp).trans p1⟩
        refine Shut.out HK4.out _ _ hH (fun _ => ?_)
        try simp only [Nm]
        clear HK4
        refine Vq 5 ?_ rfl (by kernel_rfl) hP (by rfl) ?r hH ?_; case r => intro w'; go_simp; try with_reducible rfl
        try simp only [Nm]
        refine Vq 6 ?_ rfl (by kernel_rfl) hP (by rfl) ?r hH ?_; case r => intro w'; go_simp; try with_reducible rfl
        try simp only [Nm]
        refine Vq 7 ?_ rfl (by kernel_rfl) hP (by rfl) ?r hH ?_; case r => intro w'; go_simp; try with_reducible rfl
        try simp only [Nm]
        have hQz := hzV6.below hc5 hzV6.lt
        have rQ := hO5.mono_ (B' := W1.heap.size) (by have := hC6.size; omega)
        have n2 := hO5.ne (g := W1.heap.size) (.inl hzV6.lt)
        have nwb : ¬ (w.heap.size = W1.heap.size) := by have := lp; omega
        have nwb' : ¬ (W1.heap.size = w.heap.size) := fun e => nwb e.symm
        have hfin := ResSt.mk5 (R := R1) hQz rQ n2 hC5 (Nat.le_refl _)
        obtain ⟨b, hb⟩ : ∃ b, b = W1.heap.size := ⟨_, rfl⟩
        have hQz : Blk w5 W1.heap.size 33 #[.slice none 0 0, .int .i64 0, .bool false, .int .i64 0, .slice none 0 0] := hQz
        rw [← hb] at hQz hfin nwb nwb'
        try rw [← hb]
        have Hfin := hide hfin
        clear hzV6 hb rQ n2 hfin hO5
        refine Rd 9 (by kernel_rfl) rfl (fun K hK => ?_)
        have d0 := hQz.cell 0
        have d1 := hQz.cell 1
        have d2 := hQz.cell 2
        have d3 := hQz.cell 3
        have d4 := hQz.cell 4
        have f0 := hQz.frozen 0
        have f1 := hQz.frozen 1
        have f2 := hQz.frozen 2
        have f3 := hQz.frozen 3
        have f4 := hQz.frozen 4
        simp only [Yl] at d0 d1 d2 d3 d4
        have HK9 := hide hK
        clear hK
        go_simp
        refine Shut.out HK9.out _ _ ?_ (fun hH => ?_)
        · (try dsimp only)
          refine And.intro ?_ ?_
          · rw [set5_cell nwb]; exact hH.1
          · rw [set5_cell nwb]; exact hH.2
        try simp only [Nm]
        clear HK9
        refine Vq 10 ?_ rfl (by kernel_rfl) hP (by rfl) ?r hH ?_; case r => intro w'; go_simp; try with_reducible rfl
        try simp only [Nm]
        refine wpAnyH_done (by kernel_rfl) ?_ _
        go_wp2_with fail
        go_meet
        go_tidy
        exact ⟨b, O5, oc5, C5, cc5, rfl, rfl, Hfin.out⟩
    case rest =>
      obtain ⟨W2, rfl⟩ : ∃ W : World, W = wc := ⟨_, rfl⟩
      obtain ⟨ga, Oa, oca, Ca, cca, rfl, rfl, hS1⟩ := hcut
      have hb := hS1.below
      clear p0 p1 lp
      replace hp := hp.below hb hp.lt
      replace hq := hq.below hb hq.lt
      replace qq := qq.below' hb
      replace hB := hB.trans (hb.mono hB.size)
      clear hb hz HRa
      have hz := hB.size
      have q0 := hq.cell 0
      have q1 := hq.cell 1
      simp only [tmA, Yl] at q0 q1
      have lq := hq.lt
      have HRb := fun (V : World) (hV : Below W2.heap.size W2 V) => hide (HRq.out V (qq.nodes.below hV) (hB.trans (hV.mono hz)))
      have HS1 := hide hS1
      clear hS1
      have e1 := E1.out
      have e2 := E2.out
      go_upto_region 6 with fail
      go_cut [14, 15] (fun s1 s2 wy => ∃ (b : Nat) (O : Option Addr) (oc : Nat) (C : Option Addr) (cc : Nat), s1 = .pointer (some ⟨b, 0, none⟩) ∧ s2 = .int .i64 0 ∧ ResSt 3 66 33 W2 b O oc C cc R2 wy)
      case first =>
        refine wp_region_held_drew (S := fun w' => w'.cell? ⟨gq, 0, none⟩ = some (.int .i64 qR) ∧ w'.cell? ⟨gq, 1, none⟩ = some (.slice qA qL.length qc)) (by kernel_rfl) ⟨q0, q1⟩ ?_
        intro hH
        have hC0 : Below W2.heap.size W2 W2.drew := (Below.refl _ _).drew
        refine Up (fun _ _ _ _ _ => id) fun hP => ?_
        refine Vi 0 ?_ rfl (by kernel_rfl) hP (by rfl) ?r hH ?_; case r => intro w' h; (try dsimp only at h); (try go_split_ands); go_simp; try with_reducible rfl
        try simp only [Nm]
        refine Vq 1 ?_ rfl (by kernel_rfl) hP (by rfl) ?r hH ?_; case r => intro w'; go_simp; try with_reducible rfl
        try simp only [Nm]
        refine Vq 3 ?_ rfl (by kernel_rfl) hP (by rfl) ?r hH ?_; case r => intro w'; go_simp; try with_reducible rfl
        try simp only [Nm]
        refine Vq 4 ?_ rfl (by kernel_rfl) hP (by rfl) ?r hH ?_; case r => intro w'; go_simp; try with_reducible rfl
        try simp only [Nm]
        refine Vi 5 ?_ rfl (by kernel_rfl) hP (by rfl) ?r hH ?_; case r => intro w' h; (try dsimp only at h); (try go_split_ands); go_simp; try with_reducible rfl
        try simp only [Nm]
        refine Vq 6 ?_ rfl (by kernel_rfl) hP (by rfl) ?r hH ?_; case r => intro w'; go_simp; try with_reducible rfl
        try simp only [Nm]
        refine Vq 7 ?_ rfl (by kernel_rfl) hP (by rfl) ?r hH ?_; case r => intro w'; go_simp; try with_reducible rfl
        try simp only [Nm]
        try simp only [e1]
        refine Vq 8 ?_ rfl (by kernel_rfl) hP (by rfl) ?r hH ?_; case r => intro w'; go_simp; try with_reducible rfl
        try simp only [Nm]
        try simp only [e2]
        refine wpAnyH_ready (rs := [2, 13]) (by kernel_rfl) (by simp) ?_
        refine AllReadyH.cons rfl (fun K hK => ?_) (AllReadyH.cons rfl (fun K hK => ?_) AllReadyH.nil)
        · have HK2 := hide hK
          clear hK
          go_simp
          go_at_call 9
          refine ((HF _).out).mono ?_
          rintro e w0 ⟨rfl, rfl⟩
          refine Shut.out HK2.out _ _ hH (fun _ => ?_)
          try simp only [Nm]
          clear HK2
          refine wpAnyH_ready (rs := [9, 13]) (by kernel_rfl) (by simp) ?_
          refine AllReadyH.cons rfl (fun K hK => ?_) (AllReadyH.cons rfl (fun K hK => ?_) AllReadyH.nil)
          · have HK9 := hide hK
            clear hK
            go_simp
            go_at_call 8
            refine ((HRb _ hC0).out).mono ?_
            rintro e w5 ⟨hc5, O5, oc5, C5, cc5, rfl, hO5⟩
            have hC5 : Below W2.heap.size W2 w5 := hC0.trans (hc5.mono hC0.size)
            clear hH
            have hH : w5.cell? ⟨gq, 0, none⟩ = some (.int .i64 qR) ∧ w5.cell? ⟨gq, 1, none⟩ = some (.slice qA qL.length qc) := ⟨((bcell hC5).1 _ _ lq).trans q0, ((bcell hC5).1 _ _ lq).trans q1⟩
            refine Shut.out HK9.out _ _ hH (fun _ => ?_)
            try simp only [Nm]
            clear HK9
            refine Vq 10 ?_ rfl (by kernel_rfl) hP (by rfl) ?r hH ?_; case r => intro w'; go_simp; try with_reducible rfl
            try simp only [Nm]
            refine Vq 11 ?_ rfl (by kernel_rfl) hP (by rfl) ?r hH ?_; case r => intro w'; go_simp; try with_reducible rfl
            try simp only [Nm]
            refine Vq 12 ?_ rfl (by kernel_rfl) hP (by rfl) ?r hH ?_; case r => intro w'; go_simp; try with_reducible rfl
            try simp only [Nm]
            refine Rd 13 (by kernel_rfl) rfl (fun K hK => ?_)
            have HK13 := hide hK
            clear hK
            go_simp
            obtain ⟨V6, hV6⟩ : ∃ V : World, V = (w5).alloc (.cells #[.slice none 0 0, .int .i64 0, .bool false, .int .i64 0, .slice none 0 0] 33) := ⟨_, rfl⟩
            rw [← hV6]
            have hC6 : Below W2.heap.size W2 V6 := by rw [hV6]; exact Below.alloc hC5 hC5.size _
            have hzV6 : Blk V6 (w5).heap.size 33 #[.slice none 0 0, .int .i64 0, .bool false, .int .i64 0, .slice none 0 0] := by rw [hV6]; exact Blk.new' rfl
            have hbV6 : Below (w5).heap.size (w5) V6 := by rw [hV6]; exact (Below.refl _ _).alloc (Nat.le_refl _) _
            clear hH hV6
            have hH : V6.cell? ⟨gq, 0, none⟩ = some (.int .i64 qR) ∧ V6.cell? ⟨gq, 1, none⟩ = some (.slice qA qL.length qc) := ⟨((bcell hC6).1 _ _ lq).trans q0, ((bcell hC6).1 _ _ lq).trans q1⟩
            refine Shut.out HK13.out _ _ hH (fun _ => ?_)
            try simp only [Nm]
            clear HK13
            have hQz := hzV6
            have rQ := (hO5.mono_ (B' := W2.heap.size) (by have := hC0.size; omega)).below hbV6
            have n2 := hO5.ne (g := w5.heap.size) (.inr (Nat.le_refl _))
            have hwb : W2.heap.size ≤ w5.heap.size := hC5.size
            have nwb : ¬ (gq = w5.heap.size) := by have := hC5.size; have := lq; omega
            have nwb' : ¬ (w5.heap.size = gq) := fun e => nwb e.symm
            have hfin := ResSt.mk5 (R := R2) hQz rQ n2 hC6 hwb
            obtain ⟨b, hb⟩ : ∃ b, b = w5.heap.size := ⟨_, rfl⟩
            rw [← hb] at hQz hfin nwb nwb' ⊢
            have Hfin := hide hfin
            clear hzV6 hb hbV6 rQ n2 hfin hO5
            refine Rd 14 (by kernel_rfl) rfl (fun K hK => ?_)
            have d0 := hQz.cell 0
            have d1 := hQz.cell 1
            have d2 := hQz.cell 2
            have d3 := hQz.cell 3
            have d4 := hQz.cell 4
            have f0 := hQz.frozen 0
            have f1 := hQz.frozen 1
            have f2 := hQz.frozen 2
            have f3 := hQz.frozen 3
            have f4 := hQz.frozen 4
            simp only [Yl] at d0 d1 d2 d3 d4
            have HK14 := hide hK
            clear hK
            go_simp
            refine Shut.out HK14.out _ _ ?_ (fun hH => ?_)
            · (try dsimp only)
              refine And.intro ?_ ?_
              · rw [set5_cell nwb]; exact hH.1
              · rw [set5_cell nwb]; exact hH.2
            try simp only [Nm]
            clear HK14
            refine Vq 15 ?_ rfl (by kernel_rfl) hP (by rfl) ?r hH ?_; case r => intro w'; go_simp; try with_reducible rfl
            try simp only [Nm]
            refine wpAnyH_done (by kernel_rfl) ?_ _
            go_wp2_with fail
            go_meet
            go_tidy
            exact ⟨b, O5, oc5, C5, cc5, rfl, rfl, Hfin.out⟩
          · have HK13 := hide hK
            clear hK
            go_simp
            obtain ⟨V6, hV6⟩ : ∃ V : World, V = (W2.alloc (.cells #[.slice none 0 0, .int .i64 0, .bool false, .int .i64 0, .slice none 0 0] 33)).drew := ⟨_, rfl⟩
            rw [← hV6]
            have hC6 : Below W2.heap.size W2 V6 := by rw [hV6]; exact Below.drew ((Below.refl _ _).alloc (Nat.le_refl _) _)
            have hzV6 : Blk V6 W2.heap.size 33 #[.slice none 0 0, .int .i64 0, .bool false, .int .i64 0, .slice none 0 0] := by rw [hV6]; exact (Blk.new' rfl).drew
            clear hH hV6
            have hH : V6.cell? ⟨gq, 0, none⟩ = some (.int .i64 qR) ∧ V6.cell? ⟨gq, 1, none⟩ = some (.slice qA qL.length qc) := ⟨((bcell hC6).1 _ _ lq).trans q0, ((bcell hC6).1 _ _ lq).trans q1⟩
            refine Shut.out HK13.out _ _ hH (fun _ => ?_)
            try simp only [Nm]
            clear HK13
            refine Rd 9 (by kernel_rfl) rfl (fun K hK => ?_)
            have HK9 := hide hK
            clear hK
            go_simp
            go_at_call 8
            refine ((HRb _ hC6).out).mono ?_
            rintro e w5 ⟨hc5, O5, oc5, C5, cc5, rfl, hO5⟩
            have hC5 : Below W2.heap.size W2 w5 := hC6.trans (hc5.mono hC6.size)
            clear hH
            have hH : w5.cell? ⟨gq, 0, none⟩ = some (.int .i64 qR) ∧ w5.cell? ⟨gq, 1, none⟩ = some (.slice qA qL.length qc) := ⟨((bcell hC5).1 _ _ lq).trans q0, ((bcell hC5).1 _ _ lq).trans q1⟩
            refine Shut.out HK9.out _ _ hH (fun _ => ?_)
            try simp only [Nm]
            clear HK9
            refine Vq 10 ?_ rfl (by kernel_rfl) hP (by rfl) ?r hH ?_; case r => intro w'; go_simp; try with_reducible rfl
            try simp only [Nm]
            refine Vq 11 ?_ rfl (by kernel_rfl) hP (by rfl) ?r hH ?_; case r => intro w'; go_simp; try with_reducible rfl
            try simp only [Nm]
            refine Vq 12 ?_ rfl (by kernel_rfl) hP (by rfl) ?r hH ?_; case r => intro w'; go_simp; try with_reducible rfl
            try simp only [Nm]
            have hQz := hzV6.below hc5 hzV6.lt
            have rQ := hO5.mono_ (B' := W2.heap.size) (by have := hC6.size; omega)
            have n2 := hO5.ne (g := W2.heap.size) (.inl hzV6.lt)
            have nwb : ¬ (gq = W2.heap.size) := by have := lq; omega
            have nwb' : ¬ (W2.heap.size = gq) := fun e => nwb e.symm
            have hfin := ResSt.mk5 (R := R2) hQz rQ n2 hC5 (Nat.le_refl _)
            obtain ⟨b, hb⟩ : ∃ b, b = W2.heap.size := ⟨_, rfl⟩
            have hQz : Blk w5 W2.heap.size 33 #[.slice none 0 0, .int .i64 0, .bool false, .int .i64 0, .slice none 0 0] := hQz
            rw [← hb] at hQz hfin nwb nwb'
            try rw [← hb]
            have Hfin := hide hfin
            clear hzV6 hb rQ n2 hfin hO5
            refine Rd 14 (by kernel_rfl) rfl (fun K hK => ?_)
            have d0 := hQz.cell 0
            have d1 := hQz.cell 1
            have d2 := hQz.cell 2
            have d3 := hQz.cell 3
            have d4 := hQz.cell 4
            have f0 := hQz.frozen 0
            have f1 := hQz.frozen 1
            have f2 := hQz.frozen 2
            have f3 := hQz.frozen 3
            have f4 := hQz.frozen 4
            simp only [Yl] at d0 d1 d2 d3 d4
            have HK14 := hide hK
            clear hK
            go_simp
            refine Shut.out HK14.out _ _ ?_ (fun hH => ?_)
            · (try dsimp only)
              refine And.intro ?_ ?_
              · rw [set5_cell nwb]; exact hH.1
              · rw [set5_cell nwb]; exact hH.2
            try simp only [Nm]
            clear HK14
            refine Vq 15 ?_ rfl (by kernel_rfl) hP (by rfl) ?r hH ?_; case r => intro w'; go_simp; try with_reducible rfl
            try simp only [Nm]
            refine wpAnyH_done (by kernel_rfl) ?_ _
            go_wp2_with fail
            go_meet
            go_tidy
            exact ⟨b, O5, oc5, C5, cc5, rfl, rfl, Hfin.out⟩
        · have HK13 := hide hK
          clear hK
          go_simp
          obtain ⟨V6, hV6⟩ : ∃ V : World, V = (W2.alloc (.cells #[.slice none 0 0, .int .i64 0, .bool false, .int .i64 0, .slice none 0 0] 33)).drew := ⟨_, rfl⟩
          rw [← hV6]
          have hC6 : Below W2.heap.size W2 V6 := by rw [hV6]; exact Below.drew ((Below.refl _ _).alloc (Nat.le_refl _) _)
          have hzV6 : Blk V6 W2.heap.size 33 #[.slice none 0 0, .int .i64 0, .bool false, .int .i64 0, .slice none 0 0] := by rw [hV6]; exact (Blk.new' rfl).drew
          clear hH hV6
          have hH : V6.cell? ⟨gq, 0, none⟩ = some (.int .i64 qR) ∧ V6.cell? ⟨gq, 1, none⟩ = some (.slice qA qL.length qc) := ⟨((bcell hC6).1 _ _ lq).trans q0, ((bcell hC6).1 _ _ lq).trans q1⟩
          refine Shut.out HK13.out _ _ hH (fun _ => ?_)
          try simp only [Nm]
          clear HK13
          refine Rd 2 (by kernel_rfl) rfl (fun K hK => ?_)
          have HK2 := hide hK
          clear hK
          go_simp
          go_at_call 9
          refine ((HF _).out).mono ?_
          rintro e w0 ⟨rfl, rfl⟩
          refine Shut.out HK2.out _ _ hH (fun _ => ?_)
          try simp only [Nm]
          clear HK2
          refine Rd 9 (by kernel_rfl) rfl (fun K hK => ?_)
          have HK9 := hide hK
          clear hK
          go_simp
          go_at_call 8
          refine ((HRb _ hC6).out).mono ?_
          rintro e w5 ⟨hc5, O5, oc5, C5, cc5, rfl, hO5⟩
          have hC5 : Below W2.heap.size W2 w5 := hC6.trans (hc5.mono hC6.size)
          clear hH
          have hH : w5.cell? ⟨gq, 0, none⟩ = some (.int .i64 qR) ∧ w5.cell? ⟨gq, 1, none⟩ = some (.slice qA qL.length qc) := ⟨((bcell hC5).1 _ _ lq).trans q0, ((bcell hC5).1 _ _ lq).trans q1⟩
          refine Shut.out HK9.out _ _ hH (fun _ => ?_)
          try simp only [Nm]
          clear HK9
          refine Vq 10 ?_ rfl (by kernel_rfl) hP (by rfl) ?r hH ?_; case r => intro w'; go_simp; try with_reducible rfl
          try simp only [Nm]
          refine Vq 11 ?_ rfl (by kernel_rfl) hP (by rfl) ?r hH ?_; case r => intro w'; go_simp; try with_reducible rfl
          try simp only [Nm]
          refine Vq 12 ?_ rfl (by kernel_rfl) hP (by rfl) ?r hH ?_; case r => intro w'; go_simp; try with_reducible rfl
          try simp only [Nm]
          have hQz := hzV6.below hc5 hzV6.lt
          have rQ := hO5.mono_ (B' := W2.heap.size) (by have := hC6.size; omega)
          have n2 := hO5.ne (g := W2.heap.size) (.inl hzV6.lt)
          have nwb : ¬ (gq = W2.heap.size) := by have := lq; omega
          have nwb' : ¬ (W2.heap.size = gq) := fun e => nwb e.symm
          have hfin := ResSt.mk5 (R := R2) hQz rQ n2 hC5 (Nat.le_refl _)
          obtain ⟨b, hb⟩ : ∃ b, b = W2.heap.size := ⟨_, rfl⟩
          have hQz : Blk w5 W2.heap.size 33 #[.slice none 0 0, .int .i64 0, .bool false, .int .i64 0, .slice none 0 0] := hQz
          rw [← hb] at hQz hfin nwb nwb'
          try rw [← hb]
          have Hfin := hide hfin
          clear hzV6 hb rQ n2 hfin hO5
          refine Rd 14 (by kernel_rfl) rfl (fun K hK => ?_)
          have d0 := hQz.cell 0
          have d1 := hQz.cell 1
          have d2 := hQz.cell 2
          have d3 := hQz.cell 3
          have d4 := hQz.cell 4
          have f0 := hQz.frozen 0
          have f1 := hQz.frozen 1
          have f2 := hQz.frozen 2
          have f3 := hQz.frozen 3
          have f4 := hQz.frozen 4
          simp only [Yl] at d0 d1 d2 d3 d4
          have HK14 := hide hK
          clear hK
          go_simp
          refine Shut.out HK14.out _ _ ?_ (fun hH => ?_)
          · (try dsimp only)
            refine And.intro ?_ ?_
            · rw [set5_cell nwb]; exact hH.1
            · rw [set5_cell nwb]; exact hH.2
          try simp only [Nm]
          clear HK14
          refine Vq 15 ?_ rfl (by kernel_rfl) hP (by rfl) ?r hH ?_; case r => intro w'; go_simp; try with_reducible rfl
          try simp only [Nm]
          refine wpAnyH_done (by kernel_rfl) ?_ _
          go_wp2_with fail
          go_meet
          go_tidy
          exact ⟨b, O5, oc5, C5, cc5, rfl, rfl, Hfin.out⟩
      case rest =>
        obtain ⟨W3, rfl⟩ : ∃ W : World, W = wc := ⟨_, rfl⟩
        obtain ⟨gb, Ob, ocb, Cb, ccb, rfl, rfl, hS2⟩ := hcut
        have hb := hS2.below
        have hS1 := HS1.out.later hb
        clear q0 q1 lq
        replace hp := hp.below hb hp.lt
        replace hq := hq.below hb hq.lt
        replace qq := qq.below' hb
        replace hB := hB.trans (hb.mono hB.size)
        clear hb hz HRb HS1 e1 e2 E1 E2
        have hz := hB.size
        obtain ⟨_, la2⟩ := hS1.row.lens
        obtain ⟨_, lb2⟩ := hS2.row.lens
        have a0 := hS1.box.cell 0
        have a1 := hS1.box.cell 1
        have a2 := hS1.box.cell 2
        have a3 := hS1.box.cell 3
        have a4 := hS1.box.cell 4
        simp only [tmA, Yl] at a0 a1 a2 a3 a4
        have la := hS1.box.lt
        have b0 := hS2.box.cell 0
        have b1 := hS2.box.cell 1
        have b2 := hS2.box.cell 2
        have b3 := hS2.box.cell 3
        have b4 := hS2.box.cell 4
        simp only [tmA, Yl] at b0 b1 b2 b3 b4
        have lb := hS2.box.lt
        have HTa := fun (V : World) (hV : Below W3.heap.size W3 V) => hide (reckoned_any Oa R1.out.length oca R1.ret R1.ended (R1.steps : Int) Ca cca R1.cts V (hS1.row.cts.nodes.below hV) la2 HO1.out)
        have HTb := fun (V : World) (hV : Below W3.heap.size W3 V) => hide (reckoned_any Ob R2.out.length ocb R2.ret R2.ended (R2.steps : Int) Cb ccb R2.cts V (hS2.row.cts.nodes.below hV) lb2 HO2.out)
        clear hS1 hS2 la2 lb2 HO1 HO2
        go_upto_region 7 with fail
        have Hp := hide hp
        have Hq := hide hq
        have Hqq := hide qq
        clear hp hq qq
        go_cut [64] (fun s wx => s = .bool false ∧ Below W3.heap.size W3 wx)
        case first =>
          cases hE : R1.ended
          case false =>
            rw [hE] at a2
            clear hE HTa HTb HL
            refine wp_region_held_drew (S := fun w' => w'.cell? ⟨ga, 0, none⟩ = some (.slice Oa R1.out.length oca) ∧ w'.cell? ⟨ga, 1, none⟩ = some (.int .i64 R1.ret) ∧ w'.cell? ⟨ga, 2, none⟩ = some (.bool false) ∧ w'.cell? ⟨ga, 3, none⟩ = some (.int .i64 R1.steps) ∧ w'.cell? ⟨ga, 4, none⟩ = some (.slice Ca R1.cts.length cca) ∧ w'.cell? ⟨gb, 0, none⟩ = some (.slice Ob R2.out.length ocb) ∧ w'.cell? ⟨gb, 1, none⟩ = some (.int .i64 R2.ret) ∧ w'.cell? ⟨gb, 2, none⟩ = some (.bool R2.ended) ∧ w'.cell? ⟨gb, 3, none⟩ = some (.int .i64 R2.steps) ∧ w'.cell? ⟨gb, 4, none⟩ = some (.slice Cb R2.cts.length ccb)) (by kernel_rfl) ⟨a0, a1, a2, a3, a4, b0, b1, b2, b3, b4⟩ ?_
            intro hH
            have hC0 : Below W3.heap.size W3 W3.drew := (Below.refl _ _).drew
            refine Up (fun _ _ _ _ _ => id) fun hP => ?_
            refine Vq 0 ?_ rfl (by kernel_rfl) hP (by rfl) ?r hH ?_; case r => intro w'; go_simp; try with_reducible rfl
            try simp only [Nm]
            refine Vq 1 ?_ rfl (by kernel_rfl) hP (by rfl) ?r hH ?_; case r => intro w'; go_simp; try with_reducible rfl
            try simp only [Nm]
            refine Vq 2 ?_ rfl (by kernel_rfl) hP (by rfl) ?r hH ?_; case r => intro w'; go_simp; try with_reducible rfl
            try simp only [Nm]
            refine Vq 3 ?_ rfl (by kernel_rfl) hP (by rfl) ?r hH ?_; case r => intro w'; go_simp; try with_reducible rfl
            try simp only [Nm]
            refine Vq 4 ?_ rfl (by kernel_rfl) hP (by rfl) ?r hH ?_; case r => intro w'; go_simp; try with_reducible rfl
            try simp only [Nm]
            refine Vq 5 ?_ rfl (by kernel_rfl) hP (by rfl) ?r hH ?_; case r => intro w'; go_simp; try with_reducible rfl
            try simp only [Nm]
            refine Vq 6 ?_ rfl (by kernel_rfl) hP (by rfl) ?r hH ?_; case r => intro w'; go_simp; try with_reducible rfl
            try simp only [Nm]
            refine Vq 7 ?_ rfl (by kernel_rfl) hP (by rfl) ?r hH ?_; case r => intro w'; go_simp; try with_reducible rfl
            try simp only [Nm]
            refine Vi 8 ?_ rfl (by kernel_rfl) hP (by rfl) ?r hH ?_; case r => intro w' h; (try dsimp only at h); (try go_split_ands); go_simp; try with_reducible rfl
            try simp only [Nm]
            refine Vq 9 ?_ rfl (by kernel_rfl) hP (by rfl) ?r hH ?_; case r => intro w'; go_simp; try with_reducible rfl
            try simp only [Nm]
            refine Vn 10 rfl (by kernel_rfl) hP (by rfl) hH ?_
            try simp only [Nm]
            refine Vn 11 rfl (by kernel_rfl) hP (by rfl) hH ?_
            try simp only [Nm]
            refine Vn 12 rfl (by kernel_rfl) hP (by rfl) hH ?_
            try simp only [Nm]
            refine Vn 13 rfl (by kernel_rfl) hP (by rfl) hH ?_
            try simp only [Nm]
            refine Vn 14 rfl (by kernel_rfl) hP (by rfl) hH ?_
            try simp only [Nm]
            refine Vq 15 ?_ rfl (by kernel_rfl) hP (by rfl) ?r hH ?_; case r => intro w'; go_simp; try with_reducible rfl
            try simp only [Nm]
            refine Vq 16 ?_ rfl (by kernel_rfl) hP (by rfl) ?r hH ?_; case r => intro w'; go_simp; try with_reducible rfl
            try simp only [Nm]
            refine wpAnyH_done (by kernel_rfl) ?_ _
            go_wp2_with fail
            go_meet
            go_tidy
            exact ⟨rfl, hC0⟩
          case true =>
            have hgt : decide (totalL R2.cts > totalL R1.cts) = false := decide_eq_false (by have := HL.out hE; omega)
            rw [hE] at a2 HTa
            clear hE HL
            refine wp_region_held_drew (S := fun w' => w'.cell? ⟨ga, 0, none⟩ = some (.slice Oa R1.out.length oca) ∧ w'.cell? ⟨ga, 1, none⟩ = some (.int .i64 R1.ret) ∧ w'.cell? ⟨ga, 2, none⟩ = some (.bool true) ∧ w'.cell? ⟨ga, 3, none⟩ = some (.int .i64 R1.steps) ∧ w'.cell? ⟨ga, 4, none⟩ = some (.slice Ca R1.cts.length cca) ∧ w'.cell? ⟨gb, 0, none⟩ = some (.slice Ob R2.out.length ocb) ∧ w'.cell? ⟨gb, 1, none⟩ = some (.int .i64 R2.ret) ∧ w'.cell? ⟨gb, 2, none⟩ = some (.bool R2.ended) ∧ w'.cell? ⟨gb, 3, none⟩ = some (.int .i64 R2.steps) ∧ w'.cell? ⟨gb, 4, none⟩ = some (.slice Cb R2.cts.length ccb)) (by kernel_rfl) ⟨a0, a1, a2, a3, a4, b0, b1, b2, b3, b4⟩ ?_
            intro hH
            have hC0 : Below W3.heap.size W3 W3.drew := (Below.refl _ _).drew
            refine Up (fun _ _ _ _ _ => id) fun hP => ?_
            refine Vq 0 ?_ rfl (by kernel_rfl) hP (by rfl) ?r hH ?_; case r => intro w'; go_simp; try with_reducible rfl
            try simp only [Nm]
            refine Vq 1 ?_ rfl (by kernel_rfl) hP (by rfl) ?r hH ?_; case r => intro w'; go_simp; try with_reducible rfl
            try simp only [Nm]
            refine Vq 2 ?_ rfl (by kernel_rfl) hP (by rfl) ?r hH ?_; case r => intro w'; go_simp; try with_reducible rfl
            try simp only [Nm]
            refine Vq 3 ?_ rfl (by kernel_rfl) hP (by rfl) ?r hH ?_; case r => intro w'; go_simp; try with_reducible rfl
            try simp only [Nm]
            refine Vq 4 ?_ rfl (by kernel_rfl) hP (by rfl) ?r hH ?_; case r => intro w'; go_simp; try with_reducible rfl
            try simp only [Nm]
            refine Vq 5 ?_ rfl (by kernel_rfl) hP (by rfl) ?r hH ?_; case r => intro w'; go_simp; try with_reducible rfl
            try simp only [Nm]
            refine Vq 6 ?_ rfl (by kernel_rfl) hP (by rfl) ?r hH ?_; case r => intro w'; go_simp; try with_reducible rfl
            try simp only [Nm]
            refine Vq 7 ?_ rfl (by kernel_rfl) hP (by rfl) ?r hH ?_; case r => intro w'; go_simp; try with_reducible rfl
            try simp only [Nm]
            refine Vi 8 ?_ rfl (by kernel_rfl) hP (by rfl) ?r hH ?_; case r => intro w' h; (try dsimp only at h); (try go_split_ands); go_simp; try with_reducible rfl
            try simp only [Nm]
            refine Vq 9 ?_ rfl (by kernel_rfl) hP (by rfl) ?r hH ?_; case r => intro w'; go_simp; try with_reducible rfl
            try simp only [Nm]
            refine Vi 10 ?_ rfl (by kernel_rfl) hP (by rfl) ?r hH ?_; case r => intro w' h; (try dsimp only at h); (try go_split_ands); go_simp; try with_reducible rfl
            try simp only [Nm]
            refine Vi 12 ?_ rfl (by kernel_rfl) hP (by rfl) ?r hH ?_; case r => intro w' h; (try dsimp only at h); (try go_split_ands); go_simp; try with_reducible rfl
            try simp only [Nm]
            refine Rd 11 (by kernel_rfl) rfl (fun K hK => ?_)
            have HK11 := hide hK
            clear hK
            go_simp
            go_at_call 10
            refine ((HTb _ hC0).out).mono ?_
            rintro e V1 ⟨rfl, hbV1⟩
            have hC1 : Below W3.heap.size W3 V1 := hC0.trans (hbV1.mono hC0.size)
            clear hH
            have hH : V1.cell? ⟨ga, 0, none⟩ = some (.slice Oa R1.out.length oca) ∧ V1.cell? ⟨ga, 1, none⟩ = some (.int .i64 R1.ret) ∧ V1.cell? ⟨ga, 2, none⟩ = some (.bool true) ∧ V1.cell? ⟨ga, 3, none⟩ = some (.int .i64 R1.steps) ∧ V1.cell? ⟨ga, 4, none⟩ = some (.slice Ca R1.cts.length cca) ∧ V1.cell? ⟨gb, 0, none⟩ = some (.slice Ob R2.out.length ocb) ∧ V1.cell? ⟨gb, 1, none⟩ = some (.int .i64 R2.ret) ∧ V1.cell? ⟨gb, 2, none⟩ = some (.bool R2.ended) ∧ V1.cell? ⟨gb, 3, none⟩ = some (.int .i64 R2.steps) ∧ V1.cell? ⟨gb, 4, none⟩ = some (.slice Cb R2.cts.length ccb) := ⟨((bcell hC1).1 _ _ la).trans a0, ((bcell hC1).1 _ _ la).trans a1, ((bcell hC1).1 _ _ la).trans a2, ((bcell hC1).1 _ _ la).trans a3, ((bcell hC1).1 _ _ la).trans a4, ((bcell hC1).1 _ _ lb).trans b0, ((bcell hC1).1 _ _ lb).trans b1, ((bcell hC1).1 _ _ lb).trans b2, ((bcell hC1).1 _ _ lb).trans b3, ((bcell hC1).1 _ _ lb).trans b4⟩
            refine Shut.out HK11.out _ _ hH (fun _ => ?_)
            try simp only [Nm]
            clear HK11
            refine Rd 13 (by kernel_rfl) rfl (fun K hK => ?_)
            have HK13 := hide hK
            clear hK
            go_simp
            go_at_call 10
            refine ((HTa _ hC1).out).mono ?_
            rintro e V2 ⟨rfl, hbV2⟩
            have hC2 : Below W3.heap.size W3 V2 := hC1.trans (hbV2.mono hC1.size)
            clear hH
            have hH : V2.cell? ⟨ga, 0, none⟩ = some (.slice Oa R1.out.length oca) ∧ V2.cell? ⟨ga, 1, none⟩ = some (.int .i64 R1.ret) ∧ V2.cell? ⟨ga, 2, none⟩ = some (.bool true) ∧ V2.cell? ⟨ga, 3, none⟩ = some (.int .i64 R1.steps) ∧ V2.cell? ⟨ga, 4, none⟩ = some (.slice Ca R1.cts.length cca) ∧ V2.cell? ⟨gb, 0, none⟩ = some (.slice Ob R2.out.length ocb) ∧ V2.cell? ⟨gb, 1, none⟩ = some (.int .i64 R2.ret) ∧ V2.cell? ⟨gb, 2, none⟩ = some (.bool R2.ended) ∧ V2.cell? ⟨gb, 3, none⟩ = some (.int .i64 R2.steps) ∧ V2.cell? ⟨gb, 4, none⟩ = some (.slice Cb R2.cts.length ccb) := ⟨((bcell hC2).1 _ _ la).trans a0, ((bcell hC2).1 _ _ la).trans a1, ((bcell hC2).1 _ _ la).trans a2, ((bcell hC2).1 _ _ la).trans a3, ((bcell hC2).1 _ _ la).trans a4, ((bcell hC2).1 _ _ lb).trans b0, ((bcell hC2).1 _ _ lb).trans b1, ((bcell hC2).1 _ _ lb).trans b2, ((bcell hC2).1 _ _ lb).trans b3, ((bcell hC2).1 _ _ lb).trans b4⟩
            refine Shut.out HK13.out _ _ hH (fun _ => ?_)
            try simp only [Nm]
            clear HK13
            refine Vq 14 ?_ rfl (by kernel_rfl) hP (by rfl) ?r hH ?_; case r => intro w'; go_simp; try with_reducible rfl
            try simp only [Nm]
            try simp only [hgt]
            refine Vq 15 ?_ rfl (by kernel_rfl) hP (by rfl) ?r hH ?_; case r => intro w'; go_simp; try with_reducible rfl
            try simp only [Nm]
            refine Vq 16 ?_ rfl (by kernel_rfl) hP (by rfl) ?r hH ?_; case r => intro w'; go_simp; try with_reducible rfl
            try simp only [Nm]
            refine wpAnyH_done (by kernel_rfl) ?_ _
            go_wp2_with fail
            go_meet
            go_tidy
            exact ⟨rfl, hC2⟩
        case rest =>
          obtain ⟨W4, rfl⟩ : ∃ W : World, W = wc := ⟨_, rfl⟩
          obtain ⟨rfl, hb⟩ := hcut
          have hp := Hp.out
          have hq := Hq.out
          have qq := Hqq.out
          clear a0 a1 a2 a3 a4 la b0 b1 b2 b3 b4 lb HTa HTb HL Hp Hq Hqq
          replace hp := hp.below hb hp.lt
          replace hq := hq.below hb hq.lt
          replace qq := qq.below' hb
          replace hB := hB.trans (hb.mono hB.size)
          clear hb hz
          have hz := hB.size
          have p0 := hp.cell 0
          have p1 := hp.cell 1
          have q0 := hq.cell 0
          have q1 := hq.cell 1
          simp only [tmA, Yl] at p0 p1 q0 q1
          have lp := hp.lt
          have lq := hq.lt
          have HWb := fun (V : World) (hV : Below W4.heap.size W4 V) => hide (HT.out V (hB.trans (hV.mono hz)))
          have HDd := fun (V : World) (hV : Below W4.heap.size W4 V) => hide (HDo.out V (qq.nodes.below hV) (hB.trans (hV.mono hz)))
          clear hp hq qq HT HDo
          go_upto_region 9 with fail
          refine wp_region_held_drew (S := fun w' => w'.cell? ⟨w.heap.size, 0, none⟩ = some (.int .i64 regs) ∧ w'.cell? ⟨w.heap.size, 1, none⟩ = some (.slice A l.length cap) ∧ w'.cell? ⟨gq, 0, none⟩ = some (.int .i64 qR) ∧ w'.cell? ⟨gq, 1, none⟩ = some (.slice qA qL.length qc)) (by kernel_rfl) ⟨p0, p1, q0, q1⟩ ?_
          intro hH
          have hC0 : Below W4.heap.size W4 W4.drew := (Below.refl _ _).drew
          refine Rd 0 (by kernel_rfl) rfl (fun K hK => ?_)
          have HK0 := hide hK
          clear hK
          go_simp
          go_at_call 6
          refine ((HWb _ hC0).out).mono ?_
          rintro e V1 ⟨rfl, hbV1⟩
          have hC1 : Below W4.heap.size W4 V1 := hC0.trans (hbV1.mono hC0.size)
          clear hH
          have hH : V1.cell? ⟨w.heap.size, 0, none⟩ = some (.int .i64 regs) ∧ V1.cell? ⟨w.heap.size, 1, none⟩ = some (.slice A l.length cap) ∧ V1.cell? ⟨gq, 0, none⟩ = some (.int .i64 qR) ∧ V1.cell? ⟨gq, 1, none⟩ = some (.slice qA qL.length qc) := ⟨((bcell hC1).1 _ _ lp).trans p0, ((bcell hC1).1 _ _ lp).trans p1, ((bcell hC1).1 _ _ lq).trans q0, ((bcell hC1).1 _ _ lq).trans q1⟩
          refine Shut.out HK0.out _ _ hH (fun _ => ?_)
          try simp only [Nm]
          clear HK0
          refine Up (fun _ _ _ _ _ => id) fun hP => ?_
          refine Vq 1 ?_ rfl (by kernel_rfl) hP (by rfl) ?r hH ?_; case r => intro w'; go_simp; try with_reducible rfl
          try simp only [Nm]
          refine Vi 2 ?_ rfl (by kernel_rfl) hP (by rfl) ?r hH ?_; case r => intro w' h; (try dsimp only at h); (try go_split_ands); go_simp; try with_reducible rfl
          try simp only [Nm]
          refine Vi 3 ?_ rfl (by kernel_rfl) hP (by rfl) ?r hH ?_; case r => intro w' h; (try dsimp only at h); (try go_split_ands); go_simp; try with_reducible rfl
          try simp only [Nm]
          refine Vq 4 ?_ rfl (by kernel_rfl) hP (by rfl) ?r hH ?_; case r => intro w'; go_simp; try with_reducible rfl
          try simp only [Nm]
          refine Vq 6 ?_ rfl (by kernel_rfl) hP (by rfl) ?r hH ?_; case r => intro w'; go_simp; try with_reducible rfl
          try simp only [Nm]
          refine Rd 5 (by kernel_rfl) rfl (fun K hK => ?_)
          have HK5 := hide hK
          clear hK
          go_simp
          go_at_call 9
          refine ((HF _).out).mono ?_
          rintro e w0 ⟨rfl, rfl⟩
          refine Shut.out HK5.out _ _ hH (fun _ => ?_)
          try simp only [Nm]
          clear HK5
          refine Rd 7 (by kernel_rfl) rfl (fun K hK => ?_)
          have HK7 := hide hK
          clear hK
          go_simp
          go_at_call 11
          refine ((HDd _ hC1).out).mono ?_
          rintro e V2 ⟨rfl, hbV2⟩
          have hC2 : Below W4.heap.size W4 V2 := hC1.trans (hbV2.mono hC1.size)
          clear hH
          have hH : V2.cell? ⟨w.heap.size, 0, none⟩ = some (.int .i64 regs) ∧ V2.cell? ⟨w.heap.size, 1, none⟩ = some (.slice A l.length cap) ∧ V2.cell? ⟨gq, 0, none⟩ = some (.int .i64 qR) ∧ V2.cell? ⟨gq, 1, none⟩ = some (.slice qA qL.length qc) := ⟨((bcell hC2).1 _ _ lp).trans p0, ((bcell hC2).1 _ _ lp).trans p1, ((bcell hC2).1 _ _ lq).trans q0, ((bcell hC2).1 _ _ lq).trans q1⟩
          refine Shut.out HK7.out _ _ hH (fun _ => ?_)
          try simp only [Nm]
          clear HK7
          refine Vq 8 ?_ rfl (by kernel_rfl) hP (by rfl) ?r hH ?_; case r => intro w'; go_simp; try with_reducible rfl
          try simp only [Nm]
          refine Vq 9 ?_ rfl (by kernel_rfl) hP (by rfl) ?r hH ?_; case r => intro w'; go_simp; try with_reducible rfl
          try simp only [Nm]
          refine wpAnyH_done (by kernel_rfl) ?_ _
          go_wp2_with fail
          go_ret
          exact ⟨rfl, hB.trans (hC2.mono hz)⟩
end
section
open Go.ChangeShapes Go.WideShapes Go.ChangeAt Go.WideMaps Go.WideElems Go.RowKit
theorem Tryz.own : ownKnob Tryz.prog.godebug = none := by kernel_rfl
theorem Tryz.laidOut : laidOutB Tryz.prog = true := by kernel_rfl
theorem gPow : Tryz.prog.globalNamed "internal/strconv.uint64pow10" = some 3 := by kernel_rfl
theorem tPow : (Tryz.prog.globals[3]?).map (·.type) = some 223 := by kernel_rfl
theorem gSyn : Tryz.prog.globalNamed "strconv.ErrSyntax" = some 1 := by kernel_rfl
theorem tSyn : (Tryz.prog.globals[1]?).map (·.type) = some 105 := by kernel_rfl
theorem gRng : Tryz.prog.globalNamed "strconv.ErrRange" = some 2 := by kernel_rfl
theorem tRng : (Tryz.prog.globals[2]?).map (·.type) = some 105 := by kernel_rfl
theorem starErr : "*" ++ "errors.errorString" = "*errors.errorString" := by decide
theorem rowErr (u : TypeId) (h : Tryz.prog.typeName? 3 u = some "*errors.errorString") : u = 229 :=
  typeName_ptr_named (nm := "errors.errorString") (by rw [starErr]; kernel_rfl) (by kernel_rfl) (by decide) u (by rw [starErr]; exact h)
theorem tv_of_laid {W : World} (h : laidMetH Tryz.prog Rows.wholeSameRow.laid W) (hsh : W.ShapedOpen Tryz.prog) : Tv W := by
  rw [MakeChecks.laidMetH_plain _ _ _ (by kernel_rfl)] at h
  have h2 := h.tail.tail
  have h4 := h2.tail.tail
  obtain ⟨a1, s1, hv1, _, _, _⟩ := laid_sentinel h4 gRng tRng Tryz.underlying105 rowErr Tryz.underlying229 Tryz.underlying231 rfl rfl Tryz.underlying9 (by kernel_rfl) (by kernel_rfl)
  obtain ⟨a2, s2, hv2, _, _, _⟩ := laid_sentinel h4.tail gSyn tSyn Tryz.underlying105 rowErr Tryz.underlying229 Tryz.underlying231 rfl rfl Tryz.underlying9 (by kernel_rfl) (by kernel_rfl)
  exact ⟨Lib.tabIs_of_head gPow tPow Tryz.underlying223 Tryz.underlying158 (by kernel_rfl) (by kernel_rfl) h2, ⟨_, _, hv2⟩, ⟨_, _, hv1⟩, cell_of_shapedOpen_int (zero := #[.int .i64 0]) (t := 3) hsh (of_decide_eq_true (by kernel_rfl)) (by kernel_rfl) rfl (by kernel_rfl) (by kernel_rfl) Tryz.underlying3⟩
noncomputable def firstCells : Array Value := ((match (Rows.laid_unicode_utf8_first : DataW Unit) with | .agg l => l.map (fun (d : DataW Unit) => match d with | DataW.lit (Lit.int k n) => Value.int k n | _ => undef) | _ => []).toArray)
noncomputable def txWorld (os : Os) : World :=
  { World.doorLaid Tryz.prog 400 os with heap := (World.doorLaid Tryz.prog 400 os).heap.modify 6 fun
      | .cells _ t frozen => .cells firstCells t frozen
      | o => o }
theorem tx_met (os : Os) : laidMet Tryz.prog Rows.wholeSameRow.laid ((txWorld os).forCall (fun _ _ => 0) ⟨#[], #[.agg #[.int .i64 0, .slice none 0 0], .slice none 0 0, .slice none 0 0, .int .i64 0], []⟩).memory :=
  laidMet_of_run' 8 (by kernel_rfl) (by kernel_rfl)
end
end Go.Proofs.YtmghkonmfbpjcaaGreatDoor
