/- One count more: the reference's onceMore. -/
import Derived.Test.YtmghkonmfbpjcaaRunC
import Derived.Test.YtmghkonmfbpjcaaCRow2
import Derived.Deep.RegionHeld3
import Derived.Deep.QuietTactic
import Derived.Deep.DeepCutAuto
import Derived.BigQuiet
namespace Go.Proofs.Ytmghkonmfbpjcaa
set_option linter.unusedVariables false
set_option linter.unusedSimpArgs false
open Go.RowKit
set_option maxHeartbeats 8000000
attribute [local irreducible] Row CRow madeCells

/-- where a term belongs -/
def posT (cs : List Ct) (t : Tm) : Nat := (cs.takeWhile fun x => ltT x.1 t).length
theorem onceL_at : ∀ (cs : List Ct) (t : Tm) (k : Nat), k ≤ cs.length → (∀ j y, j < k → cs[j]? = some y → ltT y.1 t = true) → (∀ y, cs[k]? = some y → ltT y.1 t = false) →
    onceL cs t = match cs[k]? with
      | some y => if y.1 = t then cs.set k (t, y.2 + 1) else cs.take k ++ (t, 1) :: cs.drop k
      | none => cs ++ [(t, 1)]
  | [], t, k, hk, _, _ => by
    have : k = 0 := by simpa using hk
    subst this
    rfl
  | (u, n) :: cs, t, 0, _, _, h2 => by
    have h := h2 (u, n) rfl
    simp only at h
    simp only [List.getElem?_cons_zero, onceL, h]
    by_cases hu : u = t
    · subst hu
      simp
    · simp [hu]
  | (u, n) :: cs, t, k + 1, hk, h1, h2 => by
    have h := h1 0 (u, n) (by omega) rfl
    simp only at h
    have ih := onceL_at cs t k (by simpa using hk) (fun j y hj hy => h1 (j + 1) y (by omega) (by simpa using hy)) (fun y hy => h2 y (by simpa using hy))
    rw [onceL, if_pos h, ih, List.getElem?_cons_succ]
    cases cs[k]? with
    | none => rfl
    | some y =>
      simp only
      by_cases hy : y.1 = t
      · rw [if_pos hy, if_pos hy]; rfl
      · rw [if_neg hy, if_neg hy]; rfl
theorem infoCount : (Try.prog.info? 123).map (fun i => (i.zero, i.size, i.bytes)) = some (some (.agg #[.int .i64 0, .int .i64 0, .int .i64 0, .int .i64 0]), 4, 32) := by kernel_rfl
theorem grown_c (W : World) (b o : Nat) (u : Value) : W.grownBy (W.setCell ⟨b, o, none⟩ u) (some b) :=
  ⟨rfl, rfl, rfl, by simp, fun k _ hk => Below.heap_setCell W ⟨b, o, none⟩ u k (by rintro rfl; exact hk rfl)⟩
theorem grown_drew1 {w w' : World} {row : Option Nat} (h : w.grownBy w' row) : w.grownBy w'.drew row := ⟨h.os, h.tape, h.output, h.size, h.block⟩
theorem grown_of_below {w w' : World} {row : Option Nat} (h : Below w.heap.size w w') : w.grownBy w' row := ⟨h.os, h.tape, h.output, h.size, fun k hk _ => h.block k hk⟩
theorem grown_drewN (w : World) (n : Nat) (row : Option Nat) : w.grownBy (w.drewN n) row := ⟨rfl, rfl, rfl, Nat.le_refl _, fun _ _ _ => rfl⟩
theorem ins_list (cs : List Ct) (z x : Ct) (k : Nat) (hk : k ≤ cs.length) : ((cs ++ [z]).take (k + 1) ++ ((cs ++ [z]).drop k).take (cs.length + 1 - (k + 1))).set k x = cs.take k ++ x :: cs.drop k := by
  have h1 : (cs ++ [z]).drop k = cs.drop k ++ [z] := List.drop_append_of_le_length hk
  have h2 : (cs.drop k ++ [z]).take (cs.length + 1 - (k + 1)) = cs.drop k := by rw [List.take_append_of_le_length (by simp), List.take_of_length_le (by simp)]
  have hlt : k < (cs ++ [z]).length := by simp; omega
  have h3 : (cs ++ [z]).take (k + 1) = cs.take k ++ [(cs ++ [z])[k]] := by
    rw [List.take_succ_eq_append_getElem hlt, List.take_append_of_le_length hk]
  rw [h1, h2, h3, List.append_assoc, List.set_append, if_neg (by rw [List.length_take]; omega), List.length_take, Nat.min_eq_left hk, Nat.sub_self]
  rfl
/-- onceMore's answer -/
def OncePost (tC : TypeId) (B : Nat) (v : Value) (cs : List Ct) (t : Tm) (w : World) (e : Ending) (w' : World) : Prop :=
  ∃ v', e = .returned v' ∧ CRow w' B tC v' (onceL cs t) ∧ w.grownBy w' v.ownBlock ∧ (v'.ownBlock = v.ownBlock ∨ ∀ k, v'.ownBlock = some k → w.heap.size ≤ k)
set_option maxRecDepth 100000 in
theorem onceMore_any {B : Nat} {v : Value} {cs : List Ct} (t : Tm) {w : World} (hr : CRow w B 123 v cs) (hB : B ≤ w.heap.size) (hl : cs.length ≤ 1000000) (hsm : ∀ y ∈ cs, 0 ≤ y.2 ∧ y.2 ≤ 1000000) :
    Calls Try.prog 94 #[v, .agg #[.int .i64 t.op, .int .i64 t.a, .int .i64 t.b]] w (OncePost 123 B v cs t w) := by
  obtain ⟨A, cap, hv, hc1, hc2⟩ := hr.shape
  subst hv
  have hN := hr.nodes
  have HA := fun (a b : Tm) W => hide (above_any a b W)
  have HR := hide hr
  clear hr
  go_enter Try.func94, Try.ntmps94
  go_wp2_with fail
  go_loopg [5] (cs.length) (fun gk i wr => ∃ k : Nat, k ≤ cs.length ∧ i = .int .i64 k ∧ gk = cs.length - k ∧ (∀ j y, j < k → cs[j]? = some y → ltT y.1 t = true) ∧ Blk wr w.heap.size 47 #[.int .i64 t.op, .int .i64 t.a, .int .i64 t.b] ∧ Below w.heap.size w wr)
  case atStart => exact ⟨0, Nat.zero_le _, rfl, rfl, fun j y hj => by omega, (by repeat (first | ((with_reducible refine Blk.new' ?_); exact (by (try simp only [World.size_alloc, World.size_setCell, World.size_drew, World.heap_drewN]); (first | done | omega | ((try simp only [World.size_alloc, World.size_setCell, World.size_drew, World.heap_drewN] at *); omega)))) | (with_reducible refine Blk.drew ?_) | (with_reducible refine Blk.drewN ?_ _) | (with_reducible refine Blk.alloc ?_ _) | with_reducible assumption)), (by repeat (first | (with_reducible exact Below.refl _ _) | (with_reducible assumption) | (with_reducible refine Below.drew ?_) | (with_reducible refine below_drewN ?_ _) | (with_reducible refine Below.alloc ?_ (by (try simp only [World.size_alloc, World.size_setCell, World.size_drew, World.heap_drewN]); (first | done | omega | ((try simp only [World.size_alloc, World.size_setCell, World.size_drew, World.heap_drewN] at *); omega))) _) | (with_reducible refine Below.setCell ?_ (by (try simp only [World.size_alloc, World.size_setCell, World.size_drew, World.heap_drewN]); (first | done | omega | ((try simp only [World.size_alloc, World.size_setCell, World.size_drew, World.heap_drewN] at *); omega))) _) | (with_reducible refine Below.trans ?_ (Below.mono (by assumption) (by (try simp only [World.size_alloc, World.size_setCell, World.size_drew, World.heap_drewN]); (first | done | omega | ((try simp only [World.size_alloc, World.size_setCell, World.size_drew, World.heap_drewN] at *); omega)))))))⟩
  case round =>
    obtain ⟨k, hk, rfl, hgk, hno, hT, hBl⟩ := hrel
    have Hgk := hide hgk
    have Hno := hide hno
    clear hgk hno
    have q0 := hT.cell 0
    have q1 := hT.cell 1
    have q2 := hT.cell 2
    have lT := hT.lt
    simp only [List.getElem?_toArray, List.getElem?_cons_zero, List.getElem?_cons_succ] at q0 q1 q2
    by_cases hlt : k < cs.length
    · obtain ⟨b, o, x, rfl, hab, hx, hxl⟩ := (hN.below hBl).get hlt
      have Hx := hide hx
      have k0 : (0 : Int) ≤ (k : Int) := by omega
      have k1 : (k : Int) < (cs.length : Int) := by omega
      have hd1 : decide ((k : Int) < (cs.length : Int)) = true := decide_eq_true k1
      obtain ⟨c0, c1, c2, c3⟩ := hxl
      have HT := hide hT
      have HBl := hide hBl
      have HA' := HA t x.1
      have hbw : b < wr.heap.size := hab
      clear hT hBl hx hN
      cases hq : ltT x.1 t
      case true =>
        have Hq := hide hq
        rw [hq] at HA'
        clear hq
        go_upto_region 2 with fail
        go_region_held3 (fun w' => w'.cell? ⟨w.heap.size, 0, none⟩ = some (.int .i64 t.op) ∧ w'.cell? ⟨w.heap.size, 1, none⟩ = some (.int .i64 t.a) ∧ w'.cell? ⟨w.heap.size, 2, none⟩ = some (.int .i64 t.b) ∧ w'.cell? ⟨b, o + k * 4, none⟩ = some (.int .i64 x.1.op) ∧ w'.cell? ⟨b, o + k * 4 + 1, none⟩ = some (.int .i64 x.1.a) ∧ w'.cell? ⟨b, o + k * 4 + 2, none⟩ = some (.int .i64 x.1.b) ∧ Below wr.heap.size wr w')
          (((try go_split_ands); (try dsimp only); (repeat' apply And.intro) <;> (first | assumption | go_keep | (exact Below.refl _ _) | (exact Below.drew (Below.refl _ _)) | (exact Below.drew (by assumption)) | (exact Below.trans (by assumption) (Below.mono (by assumption) (Below.size (by assumption)))) | (rw [hc3 _ _ (Nat.lt_of_lt_of_le lT (Below.size (by assumption : Below wr.heap.size wr _)))]; assumption) | (rw [hc3 _ _ (Nat.lt_of_lt_of_le hbw (Below.size (by assumption : Below wr.heap.size wr _)))]; assumption))))
          (first | (go_at_call 110; refine ((HA' _).out).mono ?_; rintro e w3 ⟨rfl, hb3⟩; obtain ⟨hc3, hf3⟩ := bcell hb3))
        all_goals (try go_split_ands)
        all_goals go_wp2_with fail
        all_goals go_roundg (cs.length - (k + 1))
        all_goals try exact (by have := Hgk.out; omega)
        all_goals exact ⟨k + 1, by omega, by go_num, rfl, fun j y hj hy => (by
          by_cases hjk : j = k
          · subst hjk
            rw [Hx.out] at hy
            injection hy with hy
            subst hy
            exact Hq.out
          · exact Hno.out j y (by omega) hy), HT.out.below (by assumption) lT, (HBl.out).trans (Below.mono (by assumption) (Below.size HBl.out))⟩
      case false =>
        have Hq := hide hq
        rw [hq] at HA'
        clear hq
        go_upto_region 2 with fail
        go_region_held3 (fun w' => w'.cell? ⟨w.heap.size, 0, none⟩ = some (.int .i64 t.op) ∧ w'.cell? ⟨w.heap.size, 1, none⟩ = some (.int .i64 t.a) ∧ w'.cell? ⟨w.heap.size, 2, none⟩ = some (.int .i64 t.b) ∧ w'.cell? ⟨b, o + k * 4, none⟩ = some (.int .i64 x.1.op) ∧ w'.cell? ⟨b, o + k * 4 + 1, none⟩ = some (.int .i64 x.1.a) ∧ w'.cell? ⟨b, o + k * 4 + 2, none⟩ = some (.int .i64 x.1.b) ∧ Below wr.heap.size wr w')
          (((try go_split_ands); (try dsimp only); (repeat' apply And.intro) <;> (first | assumption | go_keep | (exact Below.refl _ _) | (exact Below.drew (Below.refl _ _)) | (exact Below.drew (by assumption)) | (exact Below.trans (by assumption) (Below.mono (by assumption) (Below.size (by assumption)))) | (rw [hc3 _ _ (Nat.lt_of_lt_of_le lT (Below.size (by assumption : Below wr.heap.size wr _)))]; assumption) | (rw [hc3 _ _ (Nat.lt_of_lt_of_le hbw (Below.size (by assumption : Below wr.heap.size wr _)))]; assumption))))
          (first | (go_at_call 110; refine ((HA' _).out).mono ?_; rintro e w3 ⟨rfl, hb3⟩; obtain ⟨hc3, hf3⟩ := bcell hb3))
        all_goals (try go_split_ands)
        case' _ => skip
        rename_i y0 y1 y2 z0 z1 z2 hb3w
        have hBW : Below w.heap.size w w3 := HBl.out.trans (Below.mono hb3w (Below.size HBl.out))
        have hrW := HR.out.below' hBW
        rcases hrW.open with ⟨hv, _⟩ | ⟨g, cap', cur, hv, hgb, hgh, _⟩
        · cases hv
        injection hv with hv1 _ hv2
        injection hv1 with hv1
        injection hv1 with hv1 hv3 _
        subst hv1 hv2 hv3
        have hgd := guardTerm
        have hEq := fun W => run_eq_term x.1 t W
        unfold Tm.val at hEq
        have e0 : ((k : Int) == (cs.length : Int)) = false := by simp; omega
        have z3 : w3.cell? ⟨b, k * 4 + 3, none⟩ = some (.int .i64 x.2) := by
          have := ((hrW.nodes).get hlt)
          obtain ⟨b', o', x', e1, _, e2, e3⟩ := this
          injection e1 with e1
          injection e1 with e1 e4 _
          subst e1 e4
          rw [Hx.out] at e2
          injection e2 with e2
          subst e2
          have := e3.2.2.2
          rwa [Nat.zero_add] at this
        simp only [Nat.zero_add] at z0 z1 z2
        have z3f : w3.frozen? ⟨b, k * 4 + 3, none⟩ = false := by simp [World.frozen?, hgh]
        have hlb := lt_of_heap hgh
        have hx2 := hsm x (List.mem_of_getElem? Hx.out)
        have HrW := hide hrW
        have HBW := hide hBW
        have HT3 := hide (HT.out.below hb3w lT)
        clear hrW hgh hBW hb3w hsm
        by_cases hxt : (x.1 == t) = true
        · rw [hxt] at hEq
          have Hxt := hide hxt
          clear hxt
          go_wp2_with fail
          go_quiet (fail)
          go_wp2_with fail
          go_tidy
          go_ret
          have hon : onceL cs t = cs.set k (t, x.2 + 1) := by
            have h0 := onceL_at cs t k hk Hno.out (fun y hy => by rw [Hx.out] at hy; rw [← Option.some.inj hy]; exact Hq.out)
            rw [Hx.out] at h0
            simp only at h0
            rw [if_pos (by simpa using Hxt.out)] at h0
            exact h0
          have hxt2 : x.1 = t := by simpa using Hxt.out
          refine ⟨_, rfl, ?_, (grown_of_below HBW.out).trans ((grown_drewN w3 nq _).trans (grown_c _ _ _ _)), .inl rfl⟩
          rw [hon, ← hxt2]
          exact (HrW.out.drewN nq).store Hx.out (show 3 < 4 by omega) (x.2 + 1)
        · rw [Bool.not_eq_true] at hxt
          rw [hxt] at hEq
          have Hxt := hide hxt
          clear hxt
          have hon : onceL cs t = cs.take k ++ (t, 1) :: cs.drop k := by
            have h0 := onceL_at cs t k hk Hno.out (fun y hy => by rw [Hx.out] at hy; rw [← Option.some.inj hy]; exact Hq.out)
            rw [Hx.out] at h0
            simp only at h0
            rw [if_neg (by simpa using Hxt.out)] at h0
            exact h0
          have Hon := hide hon
          clear hon
          go_wp2_with fail
          go_quiet (fail)
          have HrV := hide (HrW.out.drewN nq)
          have HBV := hide (below_drewN HBW.out nq)
          have HTV := hide (HT3.out.drewN nq)
          clear y0 y1 y2 z0 z1 z2 z3 z3f hlb hEq hc3 hf3 HrW HBW HT3 HA' hbw lT q0 q1 q2 c0 c1 c2 c3 hab HBl HT
          generalize w3.drewN nq = V at *
          obtain ⟨ic, hci, hcz, hcs', hcb⟩ := info_parts infoCount
          have hs4 : (Try.prog.info? 123).map (·.size) = some 4 := by kernel_rfl
          have hzV := HBV.out.size
          go_upto_region 6 with (at_builtin; refine wpList_append_counts (v := .slice (some ⟨b, 0, none⟩) cs.length cap) rfl (.tmp 34) (.tmp 36) _ rfl ic _ 32 Try.underlying66 hci hcz hcs' hcb rfl rfl (HrV.out.alloc _) (some ⟨V.heap.size, 0, none⟩) 1 1 [((⟨0, 0, 0⟩ : Tm), (0 : Int))] rfl rfl (counts_one' (n := ((⟨0, 0, 0⟩ : Tm), (0 : Int))) rfl) (by simp [maxLen]; omega) (by simp; omega) (by simp; omega) ?_; intro v1 w1 hr1 hg1 hat1)
          rcases hr1.open with ⟨_, hnil⟩ | ⟨g1, cap1, cur1, hv1, hgb1, hgh1, hcl1, hcm1, hcs1, hcc1⟩
          · simp at hnil
          subst hv1
          have hT1 : Blk w1 w.heap.size 47 #[.int .i64 t.op, .int .i64 t.a, .int .i64 t.b] := Blk.grown (HTV.out.alloc _) hg1 (HrV.out.ne_blk HTV.out (by decide))
          have hgt : ¬ (g1 = w.heap.size) := fun e => (hr1.ne_blk hT1 (by decide)) (by rw [e]; rfl)
          have hg1V := hide (((grown_of_below HBV.out).trans (grown_of_below ((Below.refl _ _).alloc (Nat.le_refl _) _))).trans hg1)
          simp only [List.length_append, List.length_singleton] at hr1 hcl1 hcc1 ⊢
          have hfr : ∀ j, w1.frozen? ⟨g1, j, none⟩ = false := fun j => by simp [World.frozen?, hgh1]
          have k0 : (0 : Int) ≤ (k : Int) := by omega
          have k5 : (k : Int) + 1 ≤ (cs.length : Int) + 1 := by omega
          have k6 : (k : Int) ≤ (cs.length : Int) + 1 := by omega
          have k7 : k + 1 ≤ cap1 := by omega
          have k8 : (0 : Int) ≤ (k : Int) + 1 := by omega
          have k9 : (k : Int) < (cs.length : Int) + 1 := by omega
          have hT1 := hide hT1
          have Hat1 := hide hat1
          clear hgh1 hcc1 hcs1 hgb1 hg1 hat1
          have hwr : IntKind.i64.wrap ((k : Int) + 1) = (k : Int) + 1 := by rw [IntKind.wrap_i64]; omega
          have hcp0 : ¬ (cap1 = k) := by omega
          have hln1 : (cs ++ [((⟨0, 0, 0⟩ : Tm), (0 : Int))]).length = cs.length + 1 := by simp
          go_cut [] (fun wx => CRow wx B 123 (.slice (some ⟨g1, 0, none⟩) (cs.length + 1) cap1) ((cs ++ [((⟨0, 0, 0⟩ : Tm), (0 : Int))]).take (k + 1) ++ ((cs ++ [((⟨0, 0, 0⟩ : Tm), (0 : Int))]).drop k).take (cs.length + 1 - (k + 1))) ∧ w1.grownBy wx (some g1))
          case first =>
            by_cases hcp : cap1 = k + 1
            · first
              | (exfalso; omega)
              | (subst hcp
                 obtain ⟨w9, hrun, hr9, hg9⟩ := run_copy_counts (P := Try.prog) 66 3 Try.underlying66 hs4 (hr1.drew) k (by simp <;> omega) (some ⟨g1, 0, none⟩) (fun h => by simp at h; omega) (0) 1
                 rw [hln1] at hrun hr9
                 rw [show cs.length + 1 - (k + 1) = 0 by omega] at hrun
                 have Hr9 := hide hr9
                 have Hg9 := hide hg9
                 clear hr9 hg9 hr1
                 go_region
                 all_goals go_wp2_with fail
                 all_goals go_meet
                 all_goals go_tidy
                 all_goals exact ⟨Hr9.out, ⟨Hg9.out.os, Hg9.out.tape, Hg9.out.output, Hg9.out.size, Hg9.out.block⟩⟩)
            ·
              obtain ⟨w9, hrun, hr9, hg9⟩ := run_copy_counts (P := Try.prog) 66 3 Try.underlying66 hs4 (hr1.drew) k (by simp <;> omega) (some ⟨g1, (k + 1) * 4, none⟩) (fun h => rfl) (cap1 - (k + 1)) (cap1 - k)
              rw [hln1] at hrun hr9
              rw [show cs.length + 1 - (k + 1) = cs.length - k by omega] at hrun
              have Hr9 := hide hr9
              have Hg9 := hide hg9
              clear hr9 hg9 hr1
              go_region
              all_goals go_wp2_with fail
              all_goals go_meet
              all_goals go_tidy
              all_goals exact ⟨Hr9.out, ⟨Hg9.out.os, Hg9.out.tape, Hg9.out.output, Hg9.out.size, Hg9.out.block⟩⟩
          case rest =>
            obtain ⟨hr9, hg9⟩ := hcut
            obtain ⟨w9, rfl⟩ : ∃ w9 : World, w9 = wc := ⟨_, rfl⟩
            obtain ⟨g', cp', y9, e9, _, lg9, hy9, hyl9, hfz9⟩ := hr9.get (k := k) (by simp; omega)
            injection e9 with e9 ea eb
            injection e9 with e9
            injection e9 with e9 ec ed
            subst e9
            clear ea eb ec ed
            have hT9 := hT1.out.grown hg9 (by simpa using hgt)
            have t0 := hT9.cell 0
            have t1 := hT9.cell 1
            have t2 := hT9.cell 2
            have lt9 := hT9.lt
            simp only [List.getElem?_toArray, List.getElem?_cons_zero, List.getElem?_cons_succ] at t0 t1 t2
            obtain ⟨z0, z1, z2, z3⟩ := hyl9
            have hfl : ∀ j, j < 4 → k * 4 + j < ((cs ++ [((⟨0, 0, 0⟩ : Tm), (0 : Int))]).take (k + 1) ++ ((cs ++ [((⟨0, 0, 0⟩ : Tm), (0 : Int))]).drop k).take (cs.length + 1 - (k + 1))).length * 4 := fun j hj => by simp; omega
            have f0 := hfz9 (k * 4) (hfl 0 (by omega))
            have f1 := hfz9 (k * 4 + 1) (hfl 1 (by omega))
            have f2 := hfz9 (k * 4 + 2) (hfl 2 (by omega))
            have f3 := hfz9 (k * 4 + 3) (hfl 3 (by omega))
            have ngt : ¬ (w.heap.size = g1) := fun e => hgt e.symm
            have Hr9 := hide hr9
            have Hg9 := hide hg9
            have Hy9 := hide hy9
            clear hr9 hg9 hy9 hfz9 hfl hT9 hr1
            go_wp2_with fail
            go_tidy
            go_ret
            refine ⟨_, rfl, ?_, ?_, ?_⟩
            · rw [Hon.out, ← ins_list cs ((⟨0, 0, 0⟩ : Tm), (0 : Int)) (t, 1) k hk]
              have h1 := Hr9.out.put4 Hy9.out (t, 0)
              have h2 := h1.store (k := k) (j := 3) (x := (t, 0)) (by rw [List.getElem?_set]; simp; omega) (by omega) 1
              rw [List.set_set] at h2
              exact h2
            · refine hg1V.out.andThen (Hg9.out.trans ((put4_grown w9 g1 k (t, 0)).trans (grown_c _ _ _ _))) fun j hj => ?_
              injection hj with hj
              subst hj
              rcases Hat1.out with e | e
              · exact .inr e.symm
              · exact .inl (by have := e g1 rfl; simp at this; omega)
            · rcases Hat1.out with e | e
              · exact .inl e
              · exact .inr fun j hj => by have := e j hj; simp at this; omega
    · have hd1 : decide ((k : Int) < (cs.length : Int)) = false := decide_eq_false (by omega)
      have k2 : ¬ (k : Int) < (cs.length : Int) := by omega
      have hkl : k = cs.length := by omega
      have hon : onceL cs t = cs.take k ++ (t, 1) :: cs.drop k := by
        have h0 := onceL_at cs t k hk Hno.out (fun y hy => by rw [List.getElem?_eq_none (by omega)] at hy; cases hy)
        rw [List.getElem?_eq_none (by omega)] at h0
        simp only at h0
        rw [h0, hkl, List.take_length, List.drop_length]
      have Hon := hide hon
      have e0 : ((k : Int) == (cs.length : Int)) = true := by simp; omega
      have HT := hide hT
      have HBl := hide hBl
      clear hon hT hBl hN hsm hkl
      go_upto_region 2 with fail
      go_quiet (fail)
      have HrV1 := hide ((HR.out.below' HBl.out).drewN nq)
      have HBV1 := hide (below_drewN HBl.out nq)
      have HTV1 := hide (HT.out.drewN nq)
      clear q0 q1 q2 lT HBl HT
      generalize wr.drewN nq = V1 at *
      go_wp2_with fail
      go_quiet (fail)
      have HrV := hide (HrV1.out.drewN nq)
      have HBV := hide (below_drewN HBV1.out nq)
      have HTV := hide (HTV1.out.drewN nq)
      clear HrV1 HBV1 HTV1 e0 hd1
      generalize V1.drewN nq = V at *
      obtain ⟨ic, hci, hcz, hcs', hcb⟩ := info_parts infoCount
      have hs4 : (Try.prog.info? 123).map (·.size) = some 4 := by kernel_rfl
      have hzV := HBV.out.size
      go_upto_region 6 with (at_builtin; refine wpList_append_counts (v := .slice (A) cs.length cap) rfl (.tmp 34) (.tmp 36) _ rfl ic _ 32 Try.underlying66 hci hcz hcs' hcb rfl rfl (HrV.out.alloc _) (some ⟨V.heap.size, 0, none⟩) 1 1 [((⟨0, 0, 0⟩ : Tm), (0 : Int))] rfl rfl (counts_one' (n := ((⟨0, 0, 0⟩ : Tm), (0 : Int))) rfl) (by simp [maxLen]; omega) (by simp; omega) (by simp; omega) ?_; intro v1 w1 hr1 hg1 hat1)
      rcases hr1.open with ⟨_, hnil⟩ | ⟨g1, cap1, cur1, hv1, hgb1, hgh1, hcl1, hcm1, hcs1, hcc1⟩
      · simp at hnil
      subst hv1
      have hT1 : Blk w1 w.heap.size 47 #[.int .i64 t.op, .int .i64 t.a, .int .i64 t.b] := Blk.grown (HTV.out.alloc _) hg1 (HrV.out.ne_blk HTV.out (by decide))
      have hgt : ¬ (g1 = w.heap.size) := fun e => (hr1.ne_blk hT1 (by decide)) (by rw [e]; rfl)
      have hg1V := hide (((grown_of_below HBV.out).trans (grown_of_below ((Below.refl _ _).alloc (Nat.le_refl _) _))).trans hg1)
      simp only [List.length_append, List.length_singleton] at hr1 hcl1 hcc1 ⊢
      have hfr : ∀ j, w1.frozen? ⟨g1, j, none⟩ = false := fun j => by simp [World.frozen?, hgh1]
      have k0 : (0 : Int) ≤ (k : Int) := by omega
      have k5 : (k : Int) + 1 ≤ (cs.length : Int) + 1 := by omega
      have k6 : (k : Int) ≤ (cs.length : Int) + 1 := by omega
      have k7 : k + 1 ≤ cap1 := by omega
      have k8 : (0 : Int) ≤ (k : Int) + 1 := by omega
      have k9 : (k : Int) < (cs.length : Int) + 1 := by omega
      have hT1 := hide hT1
      have Hat1 := hide hat1
      clear hgh1 hcc1 hcs1 hgb1 hg1 hat1
      have hwr : IntKind.i64.wrap ((k : Int) + 1) = (k : Int) + 1 := by rw [IntKind.wrap_i64]; omega
      have hcp0 : ¬ (cap1 = k) := by omega
      have hln1 : (cs ++ [((⟨0, 0, 0⟩ : Tm), (0 : Int))]).length = cs.length + 1 := by simp
      go_cut [] (fun wx => CRow wx B 123 (.slice (some ⟨g1, 0, none⟩) (cs.length + 1) cap1) ((cs ++ [((⟨0, 0, 0⟩ : Tm), (0 : Int))]).take (k + 1) ++ ((cs ++ [((⟨0, 0, 0⟩ : Tm), (0 : Int))]).drop k).take (cs.length + 1 - (k + 1))) ∧ w1.grownBy wx (some g1))
      case first =>
        by_cases hcp : cap1 = k + 1
        · first
          | (exfalso; omega)
          | (subst hcp
             obtain ⟨w9, hrun, hr9, hg9⟩ := run_copy_counts (P := Try.prog) 66 3 Try.underlying66 hs4 (hr1.drew) k (by simp <;> omega) (some ⟨g1, 0, none⟩) (fun h => by simp at h; omega) (0) 1
             rw [hln1] at hrun hr9
             rw [show cs.length + 1 - (k + 1) = 0 by omega] at hrun
             have Hr9 := hide hr9
             have Hg9 := hide hg9
             clear hr9 hg9 hr1
             go_region
             all_goals go_wp2_with fail
             all_goals go_meet
             all_goals go_tidy
             all_goals exact ⟨Hr9.out, ⟨Hg9.out.os, Hg9.out.tape, Hg9.out.output, Hg9.out.size, Hg9.out.block⟩⟩)
        ·
          obtain ⟨w9, hrun, hr9, hg9⟩ := run_copy_counts (P := Try.prog) 66 3 Try.underlying66 hs4 (hr1.drew) k (by simp <;> omega) (some ⟨g1, (k + 1) * 4, none⟩) (fun h => rfl) (cap1 - (k + 1)) (cap1 - k)
          rw [hln1] at hrun hr9
          rw [show cs.length + 1 - (k + 1) = cs.length - k by omega] at hrun
          have Hr9 := hide hr9
          have Hg9 := hide hg9
          clear hr9 hg9 hr1
          go_region
          all_goals go_wp2_with fail
          all_goals go_meet
          all_goals go_tidy
          all_goals exact ⟨Hr9.out, ⟨Hg9.out.os, Hg9.out.tape, Hg9.out.output, Hg9.out.size, Hg9.out.block⟩⟩
      case rest =>
        obtain ⟨hr9, hg9⟩ := hcut
        obtain ⟨w9, rfl⟩ : ∃ w9 : World, w9 = wc := ⟨_, rfl⟩
        obtain ⟨g', cp', y9, e9, _, lg9, hy9, hyl9, hfz9⟩ := hr9.get (k := k) (by simp; omega)
        injection e9 with e9 ea eb
        injection e9 with e9
        injection e9 with e9 ec ed
        subst e9
        clear ea eb ec ed
        have hT9 := hT1.out.grown hg9 (by simpa using hgt)
        have t0 := hT9.cell 0
        have t1 := hT9.cell 1
        have t2 := hT9.cell 2
        have lt9 := hT9.lt
        simp only [List.getElem?_toArray, List.getElem?_cons_zero, List.getElem?_cons_succ] at t0 t1 t2
        obtain ⟨z0, z1, z2, z3⟩ := hyl9
        have hfl : ∀ j, j < 4 → k * 4 + j < ((cs ++ [((⟨0, 0, 0⟩ : Tm), (0 : Int))]).take (k + 1) ++ ((cs ++ [((⟨0, 0, 0⟩ : Tm), (0 : Int))]).drop k).take (cs.length + 1 - (k + 1))).length * 4 := fun j hj => by simp; omega
        have f0 := hfz9 (k * 4) (hfl 0 (by omega))
        have f1 := hfz9 (k * 4 + 1) (hfl 1 (by omega))
        have f2 := hfz9 (k * 4 + 2) (hfl 2 (by omega))
        have f3 := hfz9 (k * 4 + 3) (hfl 3 (by omega))
        have ngt : ¬ (w.heap.size = g1) := fun e => hgt e.symm
        have Hr9 := hide hr9
        have Hg9 := hide hg9
        have Hy9 := hide hy9
        clear hr9 hg9 hy9 hfz9 hfl hT9 hr1
        go_wp2_with fail
        go_tidy
        go_ret
        refine ⟨_, rfl, ?_, ?_, ?_⟩
        · rw [Hon.out, ← ins_list cs ((⟨0, 0, 0⟩ : Tm), (0 : Int)) (t, 1) k hk]
          have h1 := Hr9.out.put4 Hy9.out (t, 0)
          have h2 := h1.store (k := k) (j := 3) (x := (t, 0)) (by rw [List.getElem?_set]; simp; omega) (by omega) 1
          rw [List.set_set] at h2
          exact h2
        · refine hg1V.out.andThen (Hg9.out.trans ((put4_grown w9 g1 k (t, 0)).trans (grown_c _ _ _ _))) fun j hj => ?_
          injection hj with hj
          subst hj
          rcases Hat1.out with e | e
          · exact .inr e.symm
          · exact .inl (by have := e g1 rfl; simp at this; omega)
        · rcases Hat1.out with e | e
          · exact .inl e
          · exact .inr fun j hj => by have := e j hj; simp at this; omega
end Go.Proofs.Ytmghkonmfbpjcaa
