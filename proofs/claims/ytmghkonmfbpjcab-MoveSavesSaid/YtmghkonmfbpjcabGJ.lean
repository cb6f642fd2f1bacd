/- RunJ RunE RunZ ResS RunW Does MsD MvV MvJ Work MapD Marks Range Ways SplitP TrimR PgT PgN. -/
import Derived.Test.YtmghkonmfbpjcabRunI
import Derived.Test.YtmghkonmfbpjcabGA
import Derived.Test.YtmghkonmfbpjcabGI
import Derived.Test.YtmghkonmfbpjcabGC
import Derived.Test.YtmghkonmfbpjcabGD
import Derived.Test.YtmghkonmfbpjcabGF
import Derived.Test.YtmghkonmfbpjcabGH
import Derived.Shelf.Spec.SlicesGrow
import Derived.Deep.LoopGhost
import Derived.Test.YtmghkonmfbpjcabProg
import Derived.RangeFuncOwn
import Derived.RangeFuncCalls
import Derived.RangeFuncWrites
import Derived.RangeFuncFrom
import Derived.Maps.OwnSet
import Derived.RangeFuncLeaves
import Derived.RangeFuncRecord
import Derived.OwnWalkIn
import Derived.OrdersIn
import Derived.RangeFuncNested
import Derived.RangeFuncBound
import Derived.Shelf.Abstract
import Derived.Shelf.RegionOpen
import Derived.WalkKit
import Derived.TacticsInMore
import Derived.LoopNIn
import Derived.LoopIn
import Derived.Test.YtmghkonmfbpjcabGB
import Derived.Test.YtmghkonmfbpjcabGG
import Derived.Deep.QuietTactic
set_option linter.unusedVariables false
set_option linter.unusedSimpArgs false
namespace Go.Proofs.Ytmghkonmfbpjcab
section
open Go.RowKit
theorem Run_any (regs : Int) (A : Option Addr) (l : List Nd) (cap : Nat) (Ai : Option Addr) (inp : List Int) (ci : Nat) (fuel : Int) (w : World) (hl : l.length ≤ maxLen) (hA : NodesAt w A l) (hI : ValsAt w Ai (ints inp)) (hic : inp.length ≤ ci ∧ ci ≤ maxLen) :
 Calls Try.prog 12 #[.agg #[.int .i64 regs, .slice A l.length cap], .slice Ai inp.length ci, .int .i64 fuel] w (RunPost 3 75 regs l inp fuel w) := by (
 by_cases h0 : chk regs l = 0
 · (
 by_cases h1 : 256 < inp.length
 · exact Run_err2 regs A l cap Ai inp ci fuel w hl hA h0 h1
 · (
 by_cases h2 : fuel < 0
 · exact Run_err3a regs A l cap Ai inp ci fuel w hl hA h0 (by omega) h2
 · (
 by_cases h3 : 131072 < fuel
 · exact Run_err3b regs A l cap Ai inp ci fuel w hl hA h0 (by omega) h3
 · exact Run_ok regs A l cap Ai inp ci fuel w hl hA hI hic h0 (by omega) (by omega) (by omega))))
 · exact Run_err1 regs A l cap Ai inp ci fuel w hl hA h0)
end
section
open Go.RowKit
set_option maxHeartbeats 4000000
attribute [local irreducible] Row CRow madeCells
theorem SameResults_any (r q : Rs) (O P : Option Addr) (oc pc : Nat) (C D : Option Addr) (cc dc : Nat) (w : World) (hO : ValsAt w O (ints r.out)) (hP : ValsAt w P (ints q.out)) (hC : CtsAt w C r.cts) (hD : CtsAt w D q.cts) (h1 : r.out.length ≤ maxLen) (h2 : q.out.length ≤ maxLen) (h3 : r.cts.length ≤ maxLen) (h4 : q.cts.length ≤ maxLen) :
 Calls Try.prog 14 #[.agg #[.slice O r.out.length oc, .int .i64 r.ret, .bool r.ended, .int .i64 r.steps, .slice C r.cts.length cc], .agg #[.slice P q.out.length pc, .int .i64 q.ret, .bool q.ended, .int .i64 q.steps, .slice D q.cts.length dc]] w fun e w' => e = .returned (.bool (decide (r = q))) ∧ Below w.heap.size w w' := by (
 have HI := fun W (hW : Below w.heap.size w W) => hide (SameInts_any O P oc pc r.out q.out W (hO.below hW) (hP.below hW) h1 h2)
 have HC := fun W (hW : Below w.heap.size w W) => hide (SameCounts_any C D cc dc r.cts q.cts W (hC.below hW) (hD.below hW) h3 h4)
 have hs : ∀ a b : Nat, ((a : Int) == (b : Int)) = (a == b) := fun a b => by rw [Bool.eq_iff_iff]; simp; omega
 obtain ⟨ro, rr, re, rs, rc⟩ := r
 obtain ⟨qo, qr, qe, qs, qc⟩ := q
 simp only at *
 clear hO hP hC hD h1 h2 h3 h4
 have hfin : ∀ x, (rr == qr && (re == qe && ((rs : Int) == (qs : Int) && ((ro == qo) && (rc == qc))))) = x → decide ((⟨ro, rr, re, rs, rc⟩ : Rs) = ⟨qo, qr, qe, qs, qc⟩) = x := fun x hx => by (
 rw [← hx, hs, Bool.eq_iff_iff]
 simp only [decide_eq_true_eq, Bool.and_eq_true, beq_iff_eq, Rs.mk.injEq]
 constructor
 · rintro ⟨h1, h2, h3, h4, h5⟩; exact ⟨h2, h3, h4, h1, h5⟩
 · rintro ⟨h2, h3, h4, h1, h5⟩; exact ⟨h1, h2, h3, h4, h5⟩)
 have Hfin := hide hfin
 clear hfin hs
 cases e1 : (rr == qr)
 case false => (
 rw [Hfin.out false (by rw [e1]; rfl)]
 clear Hfin
 go_enter Try.func14, Try.ntmps14
 go_wp2_with (first | (go_at_call 35; refine ((HI _ (by (with_reducible repeat first | apply Qa | assumption | apply Qb | apply Qc | apply Qd | apply Qe | refine Qf ?_ (by assumption) ?_); all_goals (try simp only [Sz]); first | done | omega | (try simp only [Sz] at *); omega)).out).mono ?_; rintro e w1 ⟨rfl, d1, rfl⟩) | (go_at_call 36; refine ((HC _ (by (with_reducible repeat first | apply Qa | assumption | apply Qb | apply Qc | apply Qd | apply Qe | refine Qf ?_ (by assumption) ?_); all_goals (try simp only [Sz]); first | done | omega | (try simp only [Sz] at *); omega)).out).mono ?_; rintro e w2 ⟨rfl, d2, rfl⟩))
 go_ret
 exact ⟨rfl, (by (with_reducible repeat first | apply Qa | assumption | apply Qb | apply Qc | apply Qd | apply Qe | refine Qf ?_ (by assumption) ?_); all_goals (try simp only [Sz]); first | done | omega | (try simp only [Sz] at *); omega)⟩)
 case true => (
 cases e2 : (re == qe)
 case false => (
 rw [Hfin.out false (by rw [e1, e2]; rfl)]
 clear Hfin
 go_enter Try.func14, Try.ntmps14
 go_wp2_with (first | (go_at_call 35; refine ((HI _ (by (with_reducible repeat first | apply Qa | assumption | apply Qb | apply Qc | apply Qd | apply Qe | refine Qf ?_ (by assumption) ?_); all_goals (try simp only [Sz]); first | done | omega | (try simp only [Sz] at *); omega)).out).mono ?_; rintro e w1 ⟨rfl, d1, rfl⟩) | (go_at_call 36; refine ((HC _ (by (with_reducible repeat first | apply Qa | assumption | apply Qb | apply Qc | apply Qd | apply Qe | refine Qf ?_ (by assumption) ?_); all_goals (try simp only [Sz]); first | done | omega | (try simp only [Sz] at *); omega)).out).mono ?_; rintro e w2 ⟨rfl, d2, rfl⟩))
 go_ret
 exact ⟨rfl, (by (with_reducible repeat first | apply Qa | assumption | apply Qb | apply Qc | apply Qd | apply Qe | refine Qf ?_ (by assumption) ?_); all_goals (try simp only [Sz]); first | done | omega | (try simp only [Sz] at *); omega)⟩)
 case true => (
 cases e3 : ((rs : Int) == (qs : Int))
 case false => (
 rw [Hfin.out false (by rw [e1, e2, e3]; rfl)]
 clear Hfin
 go_enter Try.func14, Try.ntmps14
 go_wp2_with (first | (go_at_call 35; refine ((HI _ (by (with_reducible repeat first | apply Qa | assumption | apply Qb | apply Qc | apply Qd | apply Qe | refine Qf ?_ (by assumption) ?_); all_goals (try simp only [Sz]); first | done | omega | (try simp only [Sz] at *); omega)).out).mono ?_; rintro e w1 ⟨rfl, d1, rfl⟩) | (go_at_call 36; refine ((HC _ (by (with_reducible repeat first | apply Qa | assumption | apply Qb | apply Qc | apply Qd | apply Qe | refine Qf ?_ (by assumption) ?_); all_goals (try simp only [Sz]); first | done | omega | (try simp only [Sz] at *); omega)).out).mono ?_; rintro e w2 ⟨rfl, d2, rfl⟩))
 go_ret
 exact ⟨rfl, (by (with_reducible repeat first | apply Qa | assumption | apply Qb | apply Qc | apply Qd | apply Qe | refine Qf ?_ (by assumption) ?_); all_goals (try simp only [Sz]); first | done | omega | (try simp only [Sz] at *); omega)⟩)
 case true => (
 cases e4 : (ro == qo)
 case false => (
 rw [e4] at HI
 rw [Hfin.out false (by rw [e1, e2, e3, e4]; rfl)]
 clear Hfin
 go_enter Try.func14, Try.ntmps14
 go_wp2_with (first | (go_at_call 35; refine ((HI _ (by (with_reducible repeat first | apply Qa | assumption | apply Qb | apply Qc | apply Qd | apply Qe | refine Qf ?_ (by assumption) ?_); all_goals (try simp only [Sz]); first | done | omega | (try simp only [Sz] at *); omega)).out).mono ?_; rintro e w1 ⟨rfl, d1, rfl⟩) | (go_at_call 36; refine ((HC _ (by (with_reducible repeat first | apply Qa | assumption | apply Qb | apply Qc | apply Qd | apply Qe | refine Qf ?_ (by assumption) ?_); all_goals (try simp only [Sz]); first | done | omega | (try simp only [Sz] at *); omega)).out).mono ?_; rintro e w2 ⟨rfl, d2, rfl⟩))
 go_ret
 exact ⟨rfl, (by (with_reducible repeat first | apply Qa | assumption | apply Qb | apply Qc | apply Qd | apply Qe | refine Qf ?_ (by assumption) ?_); all_goals (try simp only [Sz]); first | done | omega | (try simp only [Sz] at *); omega)⟩)
 case true => (
 rw [e4] at HI
 cases e5 : (rc == qc)
 case false => (
 rw [e5] at HC
 rw [Hfin.out false (by rw [e1, e2, e3, e4, e5]; rfl)]
 clear Hfin
 go_enter Try.func14, Try.ntmps14
 go_wp2_with (first | (go_at_call 35; refine ((HI _ (by (with_reducible repeat first | apply Qa | assumption | apply Qb | apply Qc | apply Qd | apply Qe | refine Qf ?_ (by assumption) ?_); all_goals (try simp only [Sz]); first | done | omega | (try simp only [Sz] at *); omega)).out).mono ?_; rintro e w1 ⟨rfl, d1, rfl⟩) | (go_at_call 36; refine ((HC _ (by (with_reducible repeat first | apply Qa | assumption | apply Qb | apply Qc | apply Qd | apply Qe | refine Qf ?_ (by assumption) ?_); all_goals (try simp only [Sz]); first | done | omega | (try simp only [Sz] at *); omega)).out).mono ?_; rintro e w2 ⟨rfl, d2, rfl⟩))
 go_ret
 exact ⟨rfl, (by (with_reducible repeat first | apply Qa | assumption | apply Qb | apply Qc | apply Qd | apply Qe | refine Qf ?_ (by assumption) ?_); all_goals (try simp only [Sz]); first | done | omega | (try simp only [Sz] at *); omega)⟩)
 case true => (
 rw [e5] at HC
 rw [Hfin.out true (by rw [e1, e2, e3, e4, e5]; rfl)]
 clear Hfin
 go_enter Try.func14, Try.ntmps14
 go_wp2_with (first | (go_at_call 35; refine ((HI _ (by (with_reducible repeat first | apply Qa | assumption | apply Qb | apply Qc | apply Qd | apply Qe | refine Qf ?_ (by assumption) ?_); all_goals (try simp only [Sz]); first | done | omega | (try simp only [Sz] at *); omega)).out).mono ?_; rintro e w1 ⟨rfl, d1, rfl⟩) | (go_at_call 36; refine ((HC _ (by (with_reducible repeat first | apply Qa | assumption | apply Qb | apply Qc | apply Qd | apply Qe | refine Qf ?_ (by assumption) ?_); all_goals (try simp only [Sz]); first | done | omega | (try simp only [Sz] at *); omega)).out).mono ?_; rintro e w2 ⟨rfl, d2, rfl⟩))
 go_ret
 exact ⟨rfl, (by (with_reducible repeat first | apply Qa | assumption | apply Qb | apply Qc | apply Qd | apply Qe | refine Qf ?_ (by assumption) ?_); all_goals (try simp only [Sz]); first | done | omega | (try simp only [Sz] at *); omega)⟩))))))
end
section
open Go.RowKit
set_option maxHeartbeats 4000000
structure ResRow (tI tC : TypeId) (B : Nat) (W : World) (O : Option Addr) (oc : Nat) (C : Option Addr) (cc : Nat) (r : Rs) : Prop where
 out : Row W B tI (.slice O r.out.length oc) (ints r.out)
 cts : CRow W B tC (.slice C r.cts.length cc) r.cts
section
variable {tI tC : TypeId} {B : Nat} {W W' : World} {O : Option Addr} {oc : Nat} {C : Option Addr} {cc : Nat} {r : Rs}
theorem ResAt.rows {v : Value} (h : ResAt tI tC B W v r) : ∃ O oc C cc, v = .agg #[.slice O r.out.length oc, .int .i64 r.ret, .bool r.ended, .int .i64 r.steps, .slice C r.cts.length cc] ∧ ResRow tI tC B W O oc C cc r := by (
 obtain ⟨ov, cv, rfl, hO, hC⟩ := h
 obtain ⟨O, oc, hov, h1, h2⟩ := hO.shape
 obtain ⟨C, cc, hcv, h3, h4⟩ := hC.shape
 rw [ints_length] at hov
 subst hov hcv
 exact ⟨O, oc, C, cc, rfl, hO, hC⟩)
theorem ResRow.below (h : ResRow tI tC B W O oc C cc r) (hb : Below W.heap.size W W') : ResRow tI tC B W' O oc C cc r := ⟨h.out.below' hb, h.cts.below' hb⟩
theorem ResRow.far (h : ResRow tI tC B W O oc C cc r) {g : Nat} (h1 : (Value.slice O r.out.length oc).ownBlock ≠ some g) (h2 : (Value.slice C r.cts.length cc).ownBlock ≠ some g) (i : Nat) (u : Value) : ResRow tI tC B (W.setCell ⟨g, i, none⟩ u) O oc C cc r :=
 ⟨h.out.far (p := ⟨g, i, none⟩) h1 u, h.cts.far (p := ⟨g, i, none⟩) h2 u⟩
theorem ResRow.ne (h : ResRow tI tC B W O oc C cc r) {g : Nat} (hg : g < B ∨ W.heap.size ≤ g) : (Value.slice O r.out.length oc).ownBlock ≠ some g ∧ (Value.slice C r.cts.length cc).ownBlock ≠ some g :=
 ⟨fun e => by have := h.out.lt _ e; omega, fun e => by have := h.cts.lt _ e; omega⟩
theorem ResRow.lens (h : ResRow tI tC B W O oc C cc r) : r.out.length ≤ maxLen ∧ r.cts.length ≤ maxLen := by (
 obtain ⟨_, _, e, h1, h2⟩ := h.out.shape
 obtain ⟨_, _, e', h3, h4⟩ := h.cts.shape
 rw [ints_length] at h1
 exact ⟨by omega, by omega⟩)
theorem ResRow.same (h : ResRow tI tC B W O oc C cc r) {O' C' : Option Addr} {oc' cc' B' : Nat} (h' : ResRow tI tC B' W O' oc' C' cc' r) :
 Calls Try.prog 14 #[.agg #[.slice O r.out.length oc, .int .i64 r.ret, .bool r.ended, .int .i64 r.steps, .slice C r.cts.length cc], .agg #[.slice O' r.out.length oc', .int .i64 r.ret, .bool r.ended, .int .i64 r.steps, .slice C' r.cts.length cc']] W fun e w' => e = .returned (.bool true) ∧ Below W.heap.size W w' := by (
 obtain ⟨l1, l2⟩ := h.lens
 have hS := SameResults_any r r O O' oc oc' C C' cc cc' W h.out.vals h'.out.vals h.cts.nodes h'.cts.nodes l1 l1 l2 l2
 simpa using hS)
end
end
section
open Go.RowKit
set_option maxHeartbeats 4000000
attribute [local irreducible] Row CRow madeCells
def fewL (inp : List Int) : List Int := inp.take 256
theorem fewL_len (inp : List Int) : (fewL inp).length ≤ 256 := by simp [fewL]; omega
theorem ValsAt.few {w : World} {A : Option Addr} {inp : List Int} (h : ValsAt w A (ints inp)) : ValsAt w A (ints (fewL inp)) := fun hne => by (
 have h0 : ints inp ≠ [] := by (
 intro e
 apply hne
 have : inp = [] := by simpa [ints] using e
 simp [this, fewL, ints])
 obtain ⟨b, o, e, hb, hc⟩ := h h0
 refine ⟨b, o, e, hb, fun i v hi => hc i v ?_⟩
 rw [ints_get] at hi ⊢
 unfold fewL at hi
 rw [List.getElem?_take] at hi
 split at hi
 · exact hi
 · simp at hi)
theorem few_any (Ai : Option Addr) (inp : List Int) (ci : Nat) (w : World) (hic : inp.length ≤ ci ∧ ci ≤ maxLen) :
 Calls Try.prog 13 #[.slice Ai inp.length ci] w fun e w' => e = .returned (.slice Ai (fewL inp).length ci) ∧ w' = w := by (
 obtain ⟨h1, h2⟩ := hic
 have hlen : (fewL inp).length = if 256 < inp.length then 256 else inp.length := by (
 unfold fewL
 rw [List.length_take]
 split <;> omega)
 rw [hlen]
 generalize inp.length = n at *
 clear hlen
 by_cases h : 256 < n
 · (
 rw [if_pos h]
 have k0 : (256 : Int) < (n : Int) := by omega
 have k1 : (256 : Int) ≤ (ci : Int) := by omega
 unfold maxLen at h2
 go_enter Try.func13, Try.ntmps13
 go_wp2_with fail
 go_ret
 exact ⟨rfl, rfl⟩)
 · (
 rw [if_neg h]
 have k0 : ¬ (256 : Int) < (n : Int) := by omega
 go_enter Try.func13, Try.ntmps13
 go_wp2_with fail
 go_ret
 exact ⟨rfl, rfl⟩))
theorem ResRow.mono_ {tI tC : TypeId} {B B' : Nat} {W : World} {O : Option Addr} {oc : Nat} {C : Option Addr} {cc : Nat} {r : Rs} (h : ResRow tI tC B W O oc C cc r) (hb : B' ≤ B) : ResRow tI tC B' W O oc C cc r := ⟨h.out.mono hb, h.cts.mono hb⟩
theorem set5_cell {V : World} {a b : Nat} (h : ¬ (a = b)) (o : Nat) (u0 u1 u2 u3 u4 : Value) : (((((V.setCell ⟨b, 0, none⟩ u0).setCell ⟨b, 1, none⟩ u1).setCell ⟨b, 2, none⟩ u2).setCell ⟨b, 3, none⟩ u3).setCell ⟨b, 4, none⟩ u4).cell? ⟨a, o, none⟩ = V.cell? ⟨a, o, none⟩ := by (
 have hne : ∀ k : Nat, (⟨a, o, none⟩ : Addr) ≠ ⟨b, k, none⟩ := fun k e => h (by injection e)
 simp [World.cell?_setCell_other, h])
structure ResSt (tI tC tR : TypeId) (w : World) (b : Nat) (O : Option Addr) (oc : Nat) (C : Option Addr) (cc : Nat) (R : Rs) (W : World) : Prop where
 box : Blk W b tR #[.slice O R.out.length oc, .int .i64 R.ret, .bool R.ended, .int .i64 R.steps, .slice C R.cts.length cc]
 row : ResRow tI tC w.heap.size W O oc C cc R
 below : Below w.heap.size w W
 young : w.heap.size ≤ b
theorem ResSt.later {tI tC tR : TypeId} {w : World} {b : Nat} {O : Option Addr} {oc : Nat} {C : Option Addr} {cc : Nat} {R : Rs} {W W' : World} (h : ResSt tI tC tR w b O oc C cc R W) (hb : Below W.heap.size W W') : ResSt tI tC tR w b O oc C cc R W' :=
 ⟨h.box.below hb h.box.lt, h.row.below hb, h.below.trans (hb.mono h.below.size), h.young⟩
theorem ResSt.mk5 {tI tC tR : TypeId} {w : World} {b : Nat} {O : Option Addr} {oc : Nat} {C : Option Addr} {cc : Nat} {R : Rs} {V : World} {z0 z1 z2 z3 z4 : Value}
 (hQ : Blk V b tR #[z0, z1, z2, z3, z4]) (r : ResRow tI tC w.heap.size V O oc C cc R)
 (n : (Value.slice O R.out.length oc).ownBlock ≠ some b ∧ (Value.slice C R.cts.length cc).ownBlock ≠ some b) (hB : Below w.heap.size w V) (hwb : w.heap.size ≤ b) :
 ResSt tI tC tR w b O oc C cc R (((((V.setCell ⟨b, 0, none⟩ (.slice O R.out.length oc)).setCell ⟨b, 1, none⟩ (.int .i64 R.ret)).setCell ⟨b, 2, none⟩ (.bool R.ended)).setCell ⟨b, 3, none⟩ (.int .i64 R.steps)).setCell ⟨b, 4, none⟩ (.slice C R.cts.length cc)) :=
⟨((((hQ.set_ 0 _).set_ 1 _).set_ 2 _).set_ 3 _).set_ 4 _,
 ((((r.far n.1 n.2 0 _).far n.1 n.2 1 _).far n.1 n.2 2 _).far n.1 n.2 3 _).far n.1 n.2 4 _,
 ((((hB.setCell hwb _).setCell hwb _).setCell hwb _).setCell hwb _).setCell hwb _, hwb⟩
def RunGot (tI tC : TypeId) (R : Rs) (w : World) (e : Ending) (w' : World) : Prop :=
 Below w.heap.size w w' ∧ ∃ O oc C cc, e = .returned (.tuple #[.agg #[.slice O R.out.length oc, .int .i64 R.ret, .bool R.ended, .int .i64 R.steps, .slice C R.cts.length cc], .int .i64 0]) ∧ ResRow tI tC w.heap.size w' O oc C cc R
theorem Run_got {regs : Int} {A : Option Addr} {l : List Nd} {cap : Nat} {Ai : Option Addr} {inp : List Int} {ci : Nat} {n : Nat} {w : World} (hl : l.length ≤ maxLen) (hA : NodesAt w A l) (hI : ValsAt w Ai (ints inp)) (hic : inp.length ≤ ci ∧ ci ≤ maxLen)
 (hc : chk regs l = 0) (h2 : inp.length ≤ 256) (h3 : n ≤ 131072) :
 Calls Try.prog 12 #[.agg #[.int .i64 regs, .slice A l.length cap], .slice Ai inp.length ci, .int .i64 (n : Int)] w (RunGot 3 75 (runR regs l inp n).told w) := by (
 have h := Run_any regs A l cap Ai inp ci (n : Int) w hl hA hI hic
 have hE : runE regs l inp (n : Int) = 0 := by unfold runE; rw [if_pos hc, if_neg (by omega), if_neg (by omega)]
 have hS : runS regs l inp (n : Int) = (runR regs l inp n).told := by unfold runS; rw [if_pos hE]; rfl
 refine h.mono ?_
 rintro e w' ⟨hb, v, rfl, hr⟩
 rw [hE, hS] at *
 obtain ⟨O, oc, C, cc, rfl, hO⟩ := hr.rows
 exact ⟨hb, O, oc, C, cc, rfl, hO⟩)
end
section
open Go.RowKit
set_option maxHeartbeats 4000000
theorem choose_any (c n : Int) (hn : 0 < n) (hn2 : n ≤ 1000000) (hc : i64ok c) (w : World) : Calls Try.prog 11 #[.int .i64 c, .int .i64 n] w fun e w' => e = .returned (.int .i64 (chV c n)) ∧ w' = w := by (
 obtain ⟨hc1, hc2⟩ := hc
 have hz : ¬ (n = 0) := by omega
 unfold chV
 by_cases h : c < 0
 · (
 rw [if_pos h]
 have e1 : IntKind.i64.wrap (c + 1) = c + 1 := by rw [IntKind.wrap_i64]; omega
 have e2 : IntKind.i64.wrap (-(c + 1)) = -(c + 1) := by rw [IntKind.wrap_i64]; omega
 go_enter Try.func11, Try.ntmps11
 go_wp2
 go_ret
 have e3 : -(c + 1).tmod n = -(c + 1) % n := by rw [← Int.neg_tmod, Int.tmod_eq_emod_of_nonneg (by omega)]
 exact ⟨ret_int e3, rfl⟩)
 · (
 rw [if_neg h]
 go_enter Try.func11, Try.ntmps11
 go_wp2
 go_ret
 exact ⟨rfl, rfl⟩))
theorem begins_any (X Y : Option Addr) (xc yc : Nat) (y z : List Int) (w : World) (hX : ValsAt w X (ints (y ++ z))) (hY : ValsAt w Y (ints y)) (h1 : (y ++ z).length ≤ xc) (h2 : xc ≤ maxLen) :
 Calls Try.prog 37 #[.slice X (y ++ z).length xc, .slice Y y.length yc] w fun e w' => e = .returned (.bool true) ∧ ∃ d, w' = w.drewN d := by (
 have hl : y.length ≤ (y ++ z).length := by simp
 have hX' : ValsAt w X (ints y) := fun hne => by (
 obtain ⟨b, o, e, hb, hc⟩ := hX (by intro e; apply hne; simp [ints] at e ⊢; exact e.1)
 exact ⟨b, o, e, hb, fun i v hi => hc i v (by
  have hil : i < y.length := by (
 have := (List.getElem?_eq_some_iff.1 hi).1
 rwa [ints_length] at this)
  rw [ints_get] at hi ⊢
  rw [List.getElem?_append_left hil]
  exact hi)⟩)
 have HS := hide (SameInts_any X Y xc yc y y w hX' hY (by unfold maxLen at *; omega) (by unfold maxLen at *; omega))
 generalize (y ++ z).length = n at *
 have hd : decide ((y.length : Int) ≤ (n : Int)) = true := decide_eq_true (by omega)
 have k0 : (0 : Int) ≤ (y.length : Int) := by omega
 have k1 : (y.length : Int) ≤ (xc : Int) := by omega
 clear hX hX' hY
 go_enter Try.func37, Try.ntmps37
 go_wp2_with fail
 refine (HS.out).mono ?_
 rintro e w1 ⟨rfl, d, rfl⟩
 rw [beq_self_eq_true]
 go_wp2_with fail
 go_ret
 exact ⟨rfl, d, rfl⟩)
end
section
open Go.RowKit
set_option maxHeartbeats 8000000
attribute [local irreducible] Row CRow madeCells
def Does (a b c : Rs) : Prop := (b.ended = true → a.ended = true ∧ a.ret = b.ret ∧ a.out = b.out) ∧ (∃ x, a.out = b.out ++ x) ∧ (a.ended = true → c.ended = true ∧ a.ret = c.ret ∧ a.out = c.out) ∧ (∃ x, c.out = a.out ++ x)
theorem Sim.does_ {l m : List Nd} {inp : List Int} {K : Nat} {Rel : Rn → Rn → Prop} (h : Sim l m inp K Rel) {regs regs' : Int} (hr : Rel (startR regs) (startR regs')) (hK : K ≤ m.length + 1) (n : Nat) :
 Does (runR regs l inp n).told (runR regs' m inp n).told (runR regs' m inp (n * (m.length + 1) + m.length)).told := by (
 have hN : K * n ≤ n * (m.length + 1) + m.length := by (
 have := Nat.mul_le_mul_right n hK
 rw [Nat.mul_comm (m.length + 1) n] at this
 omega)
 exact h.does hr n _ hN)
set_option maxRecDepth 100000 in
theorem does_any {regs regs' : Int} {A B : Option Addr} {l m : List Nd} {cap mcap : Nat} {Ai : Option Addr} {inp : List Int} {ci n : Nat} {w : World} (hml : l.length ≤ maxLen) (hmm : m.length ≤ 256) (hA : NodesAt w A l) (hB : NodesAt w B m) (hI : ValsAt w Ai (ints inp)) (hic : inp.length ≤ ci ∧ ci ≤ maxLen)
 (hcl : chk regs l = 0) (hcm : chk regs' m = 0) (hin : inp.length ≤ 256) (hn : n ≤ 400) (hD : Does (runR regs l inp n).told (runR regs' m inp n).told (runR regs' m inp (n * (m.length + 1) + m.length)).told) :
 Calls Try.prog 16 #[.agg #[.int .i64 regs, .slice A l.length cap], .agg #[.int .i64 regs', .slice B m.length mcap], .slice Ai inp.length ci, .int .i64 (n : Int)] w fun e w' => e = .returned (.bool true) ∧ Below w.heap.size w w' := by (
 have hK : n * (m.length + 1) + m.length ≤ 131072 := by (
 have : n * (m.length + 1) ≤ 400 * 257 := Nat.mul_le_mul hn (by omega)
 omega)
 have e1 : IntKind.i64.wrap ((m.length : Int) + 1) = (m.length : Int) + 1 := by rw [IntKind.wrap_i64]; omega
 have e2 : IntKind.i64.wrap ((n : Int) * ((m.length : Int) + 1)) = ((n * (m.length + 1) : Nat) : Int) := by (
 have : (n : Int) * ((m.length : Int) + 1) = ((n * (m.length + 1) : Nat) : Int) := by simp
 rw [this, IntKind.wrap_i64]; omega)
 have e3 : IntKind.i64.wrap (((n * (m.length + 1) : Nat) : Int) + (m.length : Int)) = ((n * (m.length + 1) + m.length : Nat) : Int) := by rw [IntKind.wrap_i64]; omega
 have HR1 := fun (V : World) (hV : Below w.heap.size w V) => hide (Run_got (cap := cap) (n := n) (w := V) hml (hA.below hV) (hI.below hV) hic hcl hin (by omega))
 have HR2 := fun (V : World) (hV : Below w.heap.size w V) => hide (Run_got (cap := mcap) (n := n) (w := V) (by unfold maxLen; omega) (hB.below hV) (hI.below hV) hic hcm hin (by omega))
 have HR3 := fun (V : World) (hV : Below w.heap.size w V) => hide (Run_got (cap := mcap) (n := n * (m.length + 1) + m.length) (w := V) (by unfold maxLen; omega) (hB.below hV) (hI.below hV) hic hcm hin hK)
 generalize (runR regs l inp n).told = R1 at *
 generalize (runR regs' m inp n).told = R2 at *
 generalize (runR regs' m inp (n * (m.length + 1) + m.length)).told = R3 at *
 generalize hKK : n * (m.length + 1) + m.length = K at *
 generalize hNN : n * (m.length + 1) = N at *
 have HD := hide hD
 clear hA hB hI hcl hcm hD hKK hNN
 go_enter Try.func16, Try.ntmps16
 go_wp2_with fail
 refine ((HR1 _ (by (with_reducible repeat first | apply Qa | assumption | apply Qb | apply Qc | apply Qd | apply Qe | refine Qf ?_ (by assumption) ?_); all_goals (try simp only [Sz]); first | done | omega | (try simp only [Sz] at *); omega)).out).mono ?_
 rintro e w1 ⟨hb1, O1, oc1, C1, cc1, rfl, hO1⟩
 have hz1 := hb1.size
 simp only [World.size_alloc] at hz1
 have hQ1 : Blk w1 (w.heap.size + 1) 24 #[.int .i64 regs', .slice B m.length mcap] := Blk.below (Blk.new' (by simp)) hb1 (by simp)
 have hB1 : Below w.heap.size w w1 := (by (with_reducible repeat first | apply Qa | assumption | apply Qb | apply Qc | apply Qd | apply Qe | refine Qf ?_ (by assumption) ?_); all_goals (try simp only [Sz]); first | done | omega | (try simp only [Sz] at *); omega)
 have hO1 := hO1.mono_ (B' := w.heap.size) (by simp; omega)
 have q0 := hQ1.cell 0
 have q1 := hQ1.cell 1
 have lq := hQ1.lt
 simp only [Yl] at q0 q1
 clear hb1
 go_upto_region 2 with fail
 obtain ⟨W1, hW1⟩ : ∃ W1, W1 = w1.alloc (.cells #[.slice O1 R1.out.length oc1, .int .i64 R1.ret, .bool R1.ended, .int .i64 R1.steps, .slice C1 R1.cts.length cc1] 33) := ⟨_, rfl⟩
 have hbx1 : Blk W1 w1.heap.size 33 #[.slice O1 R1.out.length oc1, .int .i64 R1.ret, .bool R1.ended, .int .i64 R1.steps, .slice C1 R1.cts.length cc1] := by rw [hW1]; exact Blk.new' rfl
 have hBW : Below w1.heap.size w1 W1 := by rw [hW1]; exact (Below.refl _ _).alloc (Nat.le_refl _) _
 rw [← hW1]
 have hO1 := hO1.below hBW
 have hB1 := hB1.trans (hBW.mono (by omega))
 have hQ1 := hQ1.below hBW lq
 have q0 := hQ1.cell 0
 have q1 := hQ1.cell 1
 have lq := hQ1.lt
 have hz1 := hB1.size
 simp only [Yl] at q0 q1
 obtain ⟨a1, ha1⟩ : ∃ a, a = w1.heap.size := ⟨_, rfl⟩
 rw [← ha1] at hbx1 ⊢
 clear hW1 hBW ha1
 go_wp2_with fail
 refine ((HR2 _ hB1).out).mono ?_
 rintro e w2 ⟨hb2, O2, oc2, C2, cc2, rfl, hO2⟩
 have hz2 := hb2.size
 have hB2 := hB1.trans (hb2.mono (by omega))
 have hO1 := hO1.below hb2
 have hbx1 := hbx1.below hb2 hbx1.lt
 have hQ2 := hQ1.below hb2 lq
 have hO2 := hO2.mono_ (B' := w.heap.size) (by omega)
 have q0 := hQ2.cell 0
 have q1 := hQ2.cell 1
 have lq := hQ2.lt
 simp only [Yl] at q0 q1
 clear hb2 hQ1
 go_upto_region 3 with fail
 obtain ⟨W2, hW2⟩ : ∃ W2, W2 = w2.alloc (.cells #[.slice O2 R2.out.length oc2, .int .i64 R2.ret, .bool R2.ended, .int .i64 R2.steps, .slice C2 R2.cts.length cc2] 33) := ⟨_, rfl⟩
 have hbx2 : Blk W2 w2.heap.size 33 #[.slice O2 R2.out.length oc2, .int .i64 R2.ret, .bool R2.ended, .int .i64 R2.steps, .slice C2 R2.cts.length cc2] := by rw [hW2]; exact Blk.new' rfl
 have hBW : Below w2.heap.size w2 W2 := by rw [hW2]; exact (Below.refl _ _).alloc (Nat.le_refl _) _
 rw [← hW2]
 have hO1 := hO1.below hBW
 have hO2 := hO2.below hBW
 have hbx1 := hbx1.below hBW hbx1.lt
 have hB2 := hB2.trans (hBW.mono (by omega))
 have hQ2 := hQ2.below hBW lq
 have q0 := hQ2.cell 0
 have q1 := hQ2.cell 1
 have lq := hQ2.lt
 have hz2 := hB2.size
 simp only [Yl] at q0 q1
 obtain ⟨a2, ha2⟩ : ∃ a, a = w2.heap.size := ⟨_, rfl⟩
 rw [← ha2] at hbx2 ⊢
 clear hW2 hBW ha2
 go_wp2_with fail
 refine ((HR3 _ hB2).out).mono ?_
 rintro e w3 ⟨hb3, O3, oc3, C3, cc3, rfl, hO3⟩
 have hz3 := hb3.size
 have hB3 := hB2.trans (hb3.mono (by omega))
 have hO1 := hO1.below hb3
 have hO2 := hO2.below hb3
 have hbx1 := hbx1.below hb3 hbx1.lt
 have hbx2 := hbx2.below hb3 hbx2.lt
 have hO3 := hO3.mono_ (B' := w.heap.size) (by omega)
 clear hb3 hQ2 q0 q1 lq
 go_upto_region 4 with fail
 obtain ⟨W3, hW3⟩ : ∃ W3, W3 = w3.alloc (.cells #[.slice O3 R3.out.length oc3, .int .i64 R3.ret, .bool R3.ended, .int .i64 R3.steps, .slice C3 R3.cts.length cc3] 33) := ⟨_, rfl⟩
 have hbx3 : Blk W3 w3.heap.size 33 #[.slice O3 R3.out.length oc3, .int .i64 R3.ret, .bool R3.ended, .int .i64 R3.steps, .slice C3 R3.cts.length cc3] := by rw [hW3]; exact Blk.new' rfl
 have hBW : Below w3.heap.size w3 W3 := by rw [hW3]; exact (Below.refl _ _).alloc (Nat.le_refl _) _
 rw [← hW3]
 have hO1 := hO1.below hBW
 have hO2 := hO2.below hBW
 have hO3 := hO3.below hBW
 have hbx1 := hbx1.below hBW hbx1.lt
 have hbx2 := hbx2.below hBW hbx2.lt
 have hB3 := hB3.trans (hBW.mono (by omega))
 obtain ⟨a3, ha3⟩ : ∃ a, a = w3.heap.size := ⟨_, rfl⟩
 rw [← ha3] at hbx3 ⊢
 clear hW3 hBW ha3
 have p0 := hbx1.cell 0
 have p1 := hbx1.cell 1
 have p2 := hbx1.cell 2
 have p3 := hbx1.cell 3
 have p4 := hbx1.cell 4
 simp only [Yl] at p0 p1 p2 p3 p4
 have q0 := hbx2.cell 0
 have q1 := hbx2.cell 1
 have q2 := hbx2.cell 2
 have q3 := hbx2.cell 3
 have q4 := hbx2.cell 4
 simp only [Yl] at q0 q1 q2 q3 q4
 have r0 := hbx3.cell 0
 have r1 := hbx3.cell 1
 have r2 := hbx3.cell 2
 have r3 := hbx3.cell 3
 have r4 := hbx3.cell 4
 simp only [Yl] at r0 r1 r2 r3 r4
 obtain ⟨_, _, s1, g1, g2⟩ := hO1.out.shape
 injection s1 with sa sb sc
 subst sc
 clear sa sb
 obtain ⟨_, _, s1, g3, g4⟩ := hO3.out.shape
 injection s1 with sa sb sc
 subst sc
 clear sa sb
 rw [ints_length] at g1 g3
 obtain ⟨D1, ⟨x, D2⟩, D3, ⟨y, D4⟩⟩ := HD.out
 have l1 := hO1.lens.1
 have l2 := hO2.lens.1
 have l3 := hO3.lens.1
 have HS1 := fun (h : R1.out = R2.out) (V : World) (d : Nat) (hV : V = W3.drewN d) => hide (by
  have h0 := SameInts_any O1 O2 oc1 oc2 R1.out R2.out V (by rw [hV]; exact hO1.out.vals) (by rw [hV]; exact hO2.out.vals) l1 l2
  rw [show (R1.out == R2.out) = true by rw [h]; exact beq_self_eq_true _] at h0
  exact h0)
 have HS2 := fun (h : R1.out = R3.out) (V : World) (d : Nat) (hV : V = W3.drewN d) => hide (by
  have h0 := SameInts_any O1 O3 oc1 oc3 R1.out R3.out V (by rw [hV]; exact hO1.out.vals) (by rw [hV]; exact hO3.out.vals) l1 l3
  rw [show (R1.out == R3.out) = true by rw [h]; exact beq_self_eq_true _] at h0
  exact h0)
 have HB1 := fun (V : World) (d : Nat) (hV : V = W3.drewN d) => hide (by
  have h0 := begins_any O1 O2 oc1 oc2 R2.out x V (by rw [← D2, hV]; exact hO1.out.vals) (by rw [hV]; exact hO2.out.vals) (by rw [← D2]; exact g1) g2
  rw [← D2] at h0
  exact h0)
 have HB2 := fun (V : World) (d : Nat) (hV : V = W3.drewN d) => hide (by
  have h0 := begins_any O3 O1 oc3 oc1 R1.out y V (by rw [← D4, hV]; exact hO3.out.vals) (by rw [hV]; exact hO1.out.vals) (by rw [← D4]; exact g3) g4
  rw [← D4] at h0
  exact h0)
 clear HD D2 D4 hO1 hO2 hO3 hbx1 hbx2 hbx3 HR1 HR2 HR3 g1 g2 g3 g4 l1 l2 l3 e1 e2 e3
 have n1 : (R1.ret != R1.ret) = false := by simp
 cases hb : R2.ended
 case true => (
 obtain ⟨f1, f2, f3⟩ := D1 hb
 obtain ⟨k1, k2, k3⟩ := D3 f1
 rw [hb] at q2
 rw [f1] at p2
 rw [k1] at r2
 rw [← f2] at q1
 rw [← k2] at r1
 have HS1 := HS1 f3
 have HS2 := HS2 k3
 clear hb f1 f2 f3 k1 k2 k3 D1 D3
 go_wp2_with fail
 refine ((HS1 _ 0 rfl).out).mono ?_
 rintro e V1 ⟨rfl, d1, rfl⟩
 go_wp2_with fail
 refine ((HB1 _ _ rfl).out).mono ?_
 rintro e V2 ⟨rfl, d2, rfl⟩
 go_wp2_with fail
 refine ((HS2 _ _ rfl).out).mono ?_
 rintro e V3 ⟨rfl, d3, rfl⟩
 go_wp2_with fail
 refine ((HB2 _ _ rfl).out).mono ?_
 rintro e V4 ⟨rfl, d4, rfl⟩
 go_wp2_with fail
 go_ret
 exact ⟨rfl, below_drewN hB3 _⟩)
 case false => (
 cases ha : R1.ended
 case true => (
 obtain ⟨k1, k2, k3⟩ := D3 ha
 rw [hb] at q2
 rw [ha] at p2
 rw [k1] at r2
 rw [← k2] at r1
 have HS2 := HS2 k3
 clear hb ha k1 k2 k3 D1 D3 HS1
 go_wp2_with fail
 refine ((HB1 _ 0 rfl).out).mono ?_
 rintro e V2 ⟨rfl, d2, rfl⟩
 go_wp2_with fail
 refine ((HS2 _ _ rfl).out).mono ?_
 rintro e V3 ⟨rfl, d3, rfl⟩
 go_wp2_with fail
 refine ((HB2 _ _ rfl).out).mono ?_
 rintro e V4 ⟨rfl, d4, rfl⟩
 go_wp2_with fail
 go_ret
 exact ⟨rfl, below_drewN hB3 _⟩)
 case false => (
 rw [hb] at q2
 rw [ha] at p2
 clear hb ha D1 D3 HS1 HS2
 go_wp2_with fail
 refine ((HB1 _ 0 rfl).out).mono ?_
 rintro e V2 ⟨rfl, d2, rfl⟩
 go_wp2_with fail
 refine ((HB2 _ _ rfl).out).mono ?_
 rintro e V4 ⟨rfl, d4, rfl⟩
 go_wp2_with fail
 go_ret
 exact ⟨rfl, below_drewN hB3 _⟩)))
end
section
theorem Doing.does {inp : List Int} {r1 r2 : Int} {l m : List Nd} (h : Doing r1 l r2 m inp) (n : Nat) : Does (runR r1 l inp n).told (runR r2 m inp n).told (runR r2 m inp (n * (m.length + 1) + m.length)).told := by
  obtain ⟨p, th, Rel, h1, h2⟩ := h
  exact h1.sim.does_ h2 (Nat.le_refl _) n
end
section
open Go.RowKit
open Go.Shelf Go.Lib
set_option maxHeartbeats 4000000
attribute [local irreducible] Row
def growB_ren : Go.Shelf.Ren := ⟨fun | 4 => 78 | n => n, fun | 22 => 48 | 25 => 4 | 3 => 3 | 4 => 4 | 9 => 9 | 20 => 20 | 0 => 0 | n => n, fun | n => n⟩
theorem growB : Go.Proofs.Lays8.n4 Try.prog growB_ren := {
 mixed := by kernel_rfl
 f4 := ⟨Try.f78.name, by decide, Try.func78.trans (congrArg some (by kernel_rfl))⟩
 t0 := Try.underlying0
 a0 := Try.isAgg0
 z0 := Try.sizeOf0
 v0 := Try.zeroValue0
 t3 := Try.underlying3
 a3 := Try.isAgg3
 z3 := Try.sizeOf3
 v3 := Try.zeroValue3
 t4 := Try.underlying4
 a4 := Try.isAgg4
 z4 := Try.sizeOf4
 v4 := Try.zeroValue4
 t9 := Try.underlying9
 a9 := Try.isAgg9
 z9 := Try.sizeOf9
 v9 := Try.zeroValue9
 t20 := Try.underlying20
 a20 := Try.isAgg20
 z20 := Try.sizeOf20
 v20 := Try.zeroValue20
 t22 := Try.underlying48
 a22 := Try.isAgg48
 z22 := Try.sizeOf48
 v22 := Try.zeroValue48 }
theorem GrowB_any (ib : TypeInfo) (hbi : Try.prog.info? 4 = some ib) (hbz : ib.zero = some (.bool false)) (hbs : ib.size = 1) (hbb : ib.bytes = 1) (n : Nat) (w : World) (h1 : 1 ≤ n) (h2 : n ≤ 65536) :
 Calls Try.prog 78 #[.slice none 0 0, .int .i64 n] w fun e w' => ∃ G, e = .returned (.slice (some ⟨w.heap.size, 0, none⟩) 0 G) ∧ Row w' w.heap.size 4 (.slice (some ⟨w.heap.size, 0, none⟩) 0 G) (bools []) ∧ Below w.heap.size w w' := by (
 have h := Any8.slices_Grow_grow growB ib (.bool false) hbi hbz (by omega) none 0 0 n [] w (by omega) (by omega) (by rw [hbb]; omega) (by omega) (by simp) (fun _ => rfl) (fun a ha => by cases ha)
 refine h.mono ?_
 rintro e w' ⟨rfl, rfl⟩
 have hge := grownCap_ge w (0 + n) 0 (growB_ren.t 25)
 have hle := grownCap_le_maxLen w (0 + n) 0 (growB_ren.t 25) (by unfold maxLen; omega)
 generalize grownCap w (0 + n) 0 (growB_ren.t 25) = G at hge hle ⊢
 refine ⟨G, rfl, ?_, ?_⟩
 · (
 unfold Row
 refine .inr ⟨w.heap.size, 0, G, [].toArray ++ Builtin.zeroCells (Value.bool false).cells (0 + n - 0) ++ Builtin.zeroCells (Value.bool false).cells (G - (0 + n)), rfl, Nat.le_refl _, ?_, Nat.zero_le _, hle, ?_, fun j x hx => by simp [bools] at hx⟩
 · (
 have hb := Blk.new' (w := w.drew) (g := w.heap.size) (t := 4) (cs := [].toArray ++ Builtin.zeroCells (Value.bool false).cells (0 + n - 0) ++ Builtin.zeroCells (Value.bool false).cells (G - (0 + n))) rfl
 unfold Blk at hb
 exact hb)
 · (
 simp [size_zeroCells, Value.cells]
 omega))
 · exact Below.alloc ((Below.refl _ _).drew) (by simp) _)
set_option maxRecDepth 100000 in
theorem Concat_any (sb : Nat) (X Y : Option Addr) (x y : List Bool) (xc yc : Nat) (w : World) (hs : Blk w sb 48 #[.slice X x.length xc, .slice Y y.length yc]) (hX : ValsAt w X (bools x)) (hY : ValsAt w Y (bools y)) (hx : 1 ≤ x.length ∧ x.length ≤ 256) (hy : 1 ≤ y.length ∧ y.length ≤ 256) :
 Calls Try.prog 41 #[.slice (some ⟨sb, 0, none⟩) 2 2] w fun e w' => ∃ v, e = .returned v ∧ Row w' w.heap.size 4 v (bools (x ++ y)) ∧ Below w.heap.size w w' := by (
 obtain ⟨hx1, hx2⟩ := hx
 obtain ⟨hy1, hy2⟩ := hy
 obtain ⟨ib, hbi, hbz, hbs, hbb⟩ := info_parts infoBoolG
 have HG := hide (fun W => GrowB_any ib hbi hbz hbs hbb (x.length + y.length) W (by omega) (by omega))
 have HX := hide (fun W (hW : Below w.heap.size w W) => hX.below hW)
 have HY := hide (fun W (hW : Below w.heap.size w W) => hY.below hW)
 have HS := hide (fun W (hW : Below w.heap.size w W) => hs.below hW hs.lt)
 have c0 := hs.cell 0
 have c1 := hs.cell 1
 have ls := hs.lt
 simp only [Yl] at c0 c1
 clear hX hY hs
 go_enter Try.func41, Try.ntmps41
 go_wp2_with fail
 go_loopg [3, 11] (2) (fun gk sz i wr => wr = w ∧ ((i = .int .i64 0 ∧ sz = .int .i64 0 ∧ gk = 2) ∨ (i = .int .i64 1 ∧ sz = .int .i64 x.length ∧ gk = 1) ∨ (i = .int .i64 2 ∧ sz = .int .i64 ((x.length : Int) + (y.length : Int)) ∧ gk = 0)))
 case atStart => exact ⟨rfl, .inl ⟨rfl, rfl, rfl⟩⟩
 case round => (
 obtain ⟨rfl, hrel⟩ := hrel
 rcases hrel with ⟨rfl, rfl, rfl⟩ | ⟨rfl, rfl, rfl⟩ | ⟨rfl, rfl, rfl⟩
 · (
 have q : ¬ ((x.length : Int) < 0) := by omega
 go_wp2_with fail
 go_roundg (1)
 case measure => omega
 case rel => exact ⟨rfl, .inr (.inl ⟨rfl, by go_num, rfl⟩)⟩)
 · (
 have q : ¬ ((x.length : Int) + (y.length : Int) < 0) := by omega
 have q2 : wrap64 ((x.length : Int) + (y.length : Int)) = (x.length : Int) + (y.length : Int) := by unfold wrap64; omega
 go_wp2_with fail
 go_roundg (0)
 case measure => omega
 case rel => exact ⟨rfl, .inr (.inr ⟨rfl, by go_num, rfl⟩)⟩)
 · (
 obtain ⟨w0, rfl⟩ : ∃ w0 : World, w0 = wr := ⟨_, rfl⟩
 go_wp2_with fail
 refine (HG.out w0).mono ?_
 rintro e w1 ⟨G, rfl, hr, hb⟩
 have d0 := (HS.out _ hb).cell 0
 have d1 := (HS.out _ hb).cell 1
 have ds := (HS.out _ hb).lt
 simp only [Yl] at d0 d1
 have HR := hide hr
 have HB := hide hb
 clear hr c0 c1 ls hb
 go_wp2_with fail
 go_loopg [6, 27] (2) (fun gk v i wr => Below w0.heap.size w0 wr ∧ ((i = .int .i64 0 ∧ v = .slice (some ⟨w0.heap.size, 0, none⟩) 0 G ∧ Row wr w0.heap.size 4 v (bools []) ∧ gk = 2) ∨ (i = .int .i64 1 ∧ Row wr w0.heap.size 4 v (bools x) ∧ gk = 1) ∨ (i = .int .i64 2 ∧ Row wr w0.heap.size 4 v (bools (x ++ y)) ∧ gk = 0)))
 case atStart => exact ⟨HB.out, .inl ⟨rfl, rfl, HR.out, rfl⟩⟩
 case round => (
 clear HR HB d0 d1 ds
 obtain ⟨hb, hrel⟩ := hrel
 have c0 := (HS.out _ hb).cell 0
 have c1 := (HS.out _ hb).cell 1
 have ls := (HS.out _ hb).lt
 have hz := hb.size
 simp only [Yl] at c0 c1
 have HB := hide hb
 clear hb
 rcases hrel with ⟨rfl, rfl, hr, rfl⟩ | ⟨rfl, hr, rfl⟩ | ⟨rfl, hr, rfl⟩
 · (
 have HR := hide hr
 clear hr
 go_wp2_with (at_builtin; refine wpList_append_row (v := .slice (some ⟨w0.heap.size, 0, none⟩) 0 G) rfl _ _ _ rfl ib _ 1 Try.underlying48 hbi hbz hbs hbb rfl rfl HR.out X x.length xc (bools x) rfl (by rw [bools_length]) (HX.out _ HB.out) (fun u hu => by obtain ⟨b, _, rfl⟩ := List.mem_map.1 hu; rfl) (by simp [bools, maxLen]; omega) (by simp [bools]; omega) (by omega) ?_; intro v5 w5 hr5 hg5 hat5)
 go_roundg (1)
 case measure => omega
 case rel => exact ⟨HB.out.grown hg5 hz (fun q hq => (HR.out.lt q hq).1), .inr (.inl ⟨by go_num, hr5, rfl⟩)⟩)
 · (
 obtain ⟨A4, c4, rfl, _, _⟩ := hr.shape
 have HR := hide hr
 clear hr
 go_wp2_with (at_builtin; refine wpList_append_row (v := .slice A4 (bools x).length c4) rfl _ _ _ rfl ib _ 1 Try.underlying48 hbi hbz hbs hbb rfl rfl HR.out Y y.length yc (bools y) rfl (by rw [bools_length]) (HY.out _ HB.out) (fun u hu => by obtain ⟨b, _, rfl⟩ := List.mem_map.1 hu; rfl) (by simp [bools, maxLen]; omega) (by simp [bools]; omega) (by omega) ?_; intro v5 w5 hr5 hg5 hat5)
 go_roundg (0)
 case measure => omega
 case rel => exact ⟨HB.out.grown hg5 hz (fun q hq => (HR.out.lt q hq).1), .inr (.inr ⟨by go_num, by rw [show bools (x ++ y) = bools x ++ bools y by simp [bools]]; exact hr5, rfl⟩)⟩)
 · (
 obtain ⟨A4, c4, rfl, _, _⟩ := hr.shape
 have HR := hide hr
 clear hr
 go_wp2_with fail
 go_ret
 exact ⟨_, rfl, HR.out, HB.out⟩)))))
end
section
open Go.RowKit
set_option maxHeartbeats 4000000
theorem IndexB_any (x : List Bool) (A : Option Addr) (cap : Nat) (w : World) (h : ValsAt w A (bools x)) (hl : x.length ≤ maxLen) :
 Calls Try.prog 77 #[.slice A x.length cap, .bool true] w fun e w' => (∃ i : Int, e = .returned (.int .i64 i) ∧ decide (0 ≤ i) = x.any id) ∧ w' = w := by (
 unfold maxLen at hl
 go_enter Try.func77, Try.ntmps77
 go_wp2_with fail
 go_loopg [8] (x.length) (fun gk i wr => ∃ k : Nat, k ≤ x.length ∧ i = .int .i64 k ∧ gk = x.length - k ∧ (∀ j, j < k → yn x j = false) ∧ wr = w)
 case atStart => exact ⟨0, Nat.zero_le _, rfl, rfl, fun j hj => by omega, rfl⟩
 case round => (
 obtain ⟨k, hk, rfl, hgk, hno, rfl⟩ := hrel
 have Hgk := hide hgk
 have Hno := hide hno
 clear hgk hno
 by_cases hlt : k < x.length
 · (
 obtain ⟨b, off, rfl, hb, hc⟩ := h.bool hlt
 have u0 : (0 : Int) ≤ (k : Int) := by omega
 have u1 : (k : Int) < (x.length : Int) := by omega
 clear h
 cases hy : yn x k
 case false => (
 rw [hy] at hc
 have Hy := hide hy
 clear hy
 go_wp2_with fail
 go_roundg (x.length - (k + 1))
 case measure => have := Hgk.out; omega
 case rel => (
 refine ⟨k + 1, by omega, by go_num, rfl, ?_, rfl⟩
 intro j hj
 by_cases e : j = k
 · rw [e]; exact Hy.out
 · exact Hno.out j (by omega)))
 case true => (
 rw [hy] at hc
 have ha : x.any id = true := by (
 rw [List.any_eq_true]
 exact ⟨x[k], List.getElem_mem hlt, by simpa [yn, hlt] using hy⟩)
 have Ha := hide ha
 clear hy ha
 go_wp2_with fail
 go_ret
 exact ⟨⟨k, rfl, by rw [Ha.out]; exact decide_eq_true u0⟩, rfl⟩))
 · (
 have ha : x.any id = false := by (
 rw [List.any_eq_false]
 intro z hz
 obtain ⟨i, hi, rfl⟩ := List.getElem_of_mem hz
 have := Hno.out i (by omega)
 simpa [yn, hi] using this)
 have Ha := hide ha
 clear ha
 go_wp2_with fail
 go_ret
 exact ⟨⟨-1, rfl, by rw [Ha.out]; rfl⟩, rfl⟩)))
theorem ContainsB_any (x : List Bool) (A : Option Addr) (cap : Nat) (w : World) (h : ValsAt w A (bools x)) (hl : x.length ≤ maxLen) :
 Calls Try.prog 40 #[.slice A x.length cap, .bool true] w fun e w' => e = .returned (.bool (x.any id)) ∧ w' = w := by (
 have HI := hide (IndexB_any x A cap w h hl)
 clear h
 generalize x.any id = q at *
 go_enter Try.func40, Try.ntmps40
 go_wp2_with (go_at_call 77; refine (HI.out).mono ?_; rintro e w1 ⟨⟨i, rfl, hi⟩, rfl⟩)
 go_ret
 exact ⟨by rw [← hi]; rfl, rfl⟩)
end
section
open Go.RowKit
def natV (l : List Nat) : List Value := l.map fun (j : Nat) => Value.int .i64 (Int.ofNat j)
theorem natV_len (l : List Nat) : (natV l).length = l.length := List.length_map _
theorem natV_snoc (l : List Nat) (m : Nat) : natV (l ++ [m]) = natV l ++ [.int .i64 (m : Int)] := by rw [natV, List.map_append]; rfl
structure Working (l : List Nd) (x : List Bool) (wk : List Nat) : Prop where
  under : Under (reachS l) l.length x
  zero : yn x 0 = true
  mem : ∀ j ∈ wk, yn x j = true
  shut : ∀ j, yn x j = true → j ∈ wk ∨ shutAt l x j
  len : wk.length ≤ cnt x
structure Going (l : List Nd) (x : List Bool) (wk : List Nat) (k : Nat) (n : Nd) (i : Nat) : Prop where
  under : Under (reachS l) l.length x
  zero : yn x 0 = true
  mem : ∀ j ∈ wk, yn x j = true
  self : yn x k = true
  shut : ∀ j, yn x j = true → j ∈ wk ∨ j = k ∨ shutAt l x j
  len : wk.length + 1 ≤ cnt x
  way0 : 1 ≤ i → ∀ m : Nat, n.t = m → yn x m = true
  way1 : 2 ≤ i → ∀ m : Nat, n.e = m → yn x m = true
theorem Working.lt {l : List Nd} {x : List Bool} {wk : List Nat} (h : Working l x wk) {j : Nat} (hj : j ∈ wk) : j < l.length := by
  have h1 := h.mem j hj
  rcases Nat.lt_or_ge j x.length with h2 | h2
  · rw [← h.under.1]; exact h2
  · rw [yn_out h2] at h1; cases h1
theorem Working.start {l : List Nd} (hl : 1 ≤ l.length) : Working l ((List.replicate l.length false).set 0 true) [0] := by
  have h0 : yn ((List.replicate l.length false).set 0 true) 0 = true := by rw [yn_set _ _ _ _ (by simp; omega)]; simp
  refine ⟨under_start l hl, h0, fun j hj => ?_, fun j hj => ?_, ?_⟩
  · simp at hj; subst hj; exact h0
  · rw [yn_set _ _ _ _ (by simp; omega)] at hj
    by_cases hj0 : j = 0
    · subst hj0; exact .inl (by simp)
    · rw [if_neg hj0] at hj
      simp [yn, List.getD_eq_getElem?_getD, List.getElem?_replicate] at hj
      split at hj <;> simp at hj
  · exact cnt_pos h0
theorem Working.done {l : List Nd} {x : List Bool} (h : Working l x []) : x = reachL l := by
  refine closed_under (reachS_mono l) (reach_closed h.under.1 h.zero fun j _ hy => ?_) h.under
  rcases h.shut j hy with h1 | h1
  · cases h1
  · exact h1
theorem Working.take {l : List Nd} {x : List Bool} {wk : List Nat} {k : Nat} (h : Working l x (wk ++ [k])) (n : Nd) : Going l x wk k n 0 := by
  refine ⟨h.under, h.zero, fun j hj => h.mem j (by simp [hj]), h.mem k (by simp), fun j hj => ?_, by have := h.len; simpa using this, fun h => absurd h (by omega), fun h => absurd h (by omega)⟩
  rcases h.shut j hj with h1 | h1
  · simp only [List.mem_append, List.mem_singleton] at h1
    rcases h1 with h1 | h1
    · exact .inl h1
    · exact .inr (.inl h1)
  · exact .inr (.inr h1)
theorem shutAt_mono {l : List Nd} {x : List Bool} {j m : Nat} (hm : m < x.length) (h : shutAt l x j) : shutAt l (x.set m true) j := fun n hn q hq => yn_set_mono hm (h n hn q hq)
theorem Going.old {l : List Nd} {x : List Bool} {wk : List Nat} {k i m : Nat} {n : Nd} (h : Going l x wk k n i) (hy : yn x m = true) (hi : (i = 0 ∧ n.t = m) ∨ (i = 1 ∧ n.e = m)) : Going l x wk k n (i + 1) :=
  ⟨h.under, h.zero, h.mem, h.self, h.shut, h.len, fun _ q hq => by
    rcases hi with ⟨rfl, h1⟩ | ⟨rfl, h1⟩
    · obtain rfl : q = m := by omega
      exact hy
    · exact h.way0 (by omega) q hq, fun h2 q hq => by
    rcases hi with ⟨rfl, h1⟩ | ⟨rfl, h1⟩
    · omega
    · obtain rfl : q = m := by omega
      exact hy⟩
theorem Going.new {l : List Nd} {x : List Bool} {wk : List Nat} {k i m : Nat} {n : Nd} (h : Going l x wk k n i) (hk : l[k]? = some n) (hl : leadsB n m = true) (hm : m < l.length) (hy : yn x m = false) (hi : (i = 0 ∧ n.t = m) ∨ (i = 1 ∧ n.e = m)) :
    Going l (x.set m true) (wk ++ [m]) k n (i + 1) := by
  have hxl : m < x.length := by rw [h.under.1]; exact hm
  have hyy : yn (x.set m true) m = true := by rw [yn_set _ _ _ _ hxl]; simp
  refine ⟨under_add h.under h.self hk hl hm, yn_set_mono hxl h.zero, fun j hj => ?_, yn_set_mono hxl h.self, fun j hj => ?_, ?_, fun _ q hq => ?_, fun h2 q hq => ?_⟩
  · simp only [List.mem_append, List.mem_singleton] at hj
    rcases hj with hj | rfl
    · exact yn_set_mono hxl (h.mem j hj)
    · exact hyy
  · rw [yn_set _ _ _ _ hxl] at hj
    by_cases hjm : j = m
    · exact .inl (by simp [hjm])
    · rw [if_neg hjm] at hj
      rcases h.shut j hj with h1 | h1 | h1
      · exact .inl (by simp [h1])
      · exact .inr (.inl h1)
      · exact .inr (.inr (shutAt_mono hxl h1))
  · rw [cnt_put hxl hy]
    have := h.len
    simp
    omega
  · rcases hi with ⟨rfl, h1⟩ | ⟨rfl, h1⟩
    · obtain rfl : q = m := by omega
      exact hyy
    · exact yn_set_mono hxl (h.way0 (by omega) q hq)
  · rcases hi with ⟨rfl, h1⟩ | ⟨rfl, h1⟩
    · omega
    · obtain rfl : q = m := by omega
      exact hyy
theorem Going.end_ {l : List Nd} {x : List Bool} {wk : List Nat} {k i : Nat} {n : Nd} (h : Going l x wk k n i) (hk : l[k]? = some n) (h0 : n.op ≠ 12 → 1 ≤ i) (h1 : n.op = 11 → 2 ≤ i) : Working l x wk := by
  refine ⟨h.under, h.zero, h.mem, fun j hj => ?_, by have := h.len; omega⟩
  rcases h.shut j hj with h2 | h2 | h2
  · exact .inl h2
  · subst h2
    refine .inr fun n2 hn q hq => ?_
    rw [hk] at hn
    injection hn with hn
    subst hn
    rcases leads_cases hq with ⟨h3, h4⟩ | ⟨h3, h4⟩
    · exact h.way0 (h0 h3) q h4.symm
    · exact h.way1 (h1 h3) q h4.symm
  · exact .inr h2
def todo (l : List Nd) (x : List Bool) (wk : List Nat) : Nat := 2 * (l.length - cnt x) + wk.length
theorem todo_old (l : List Nd) (x : List Bool) (wk : List Nat) (k : Nat) : todo l x wk + 1 = todo l x (wk ++ [k]) := by simp [todo]; omega
theorem Going.todo_new {l : List Nd} {x : List Bool} {wk : List Nat} {k i m : Nat} {n : Nd} (h : Going l x wk k n i) (hm : m < l.length) (hy : yn x m = false) : todo l (x.set m true) (wk ++ [m]) + 1 = todo l x wk := by
  have hxl : m < x.length := by rw [h.under.1]; exact hm
  have h1 := cnt_put hxl hy
  have h2 := cnt_le (x.set m true)
  rw [List.length_set, h.under.1] at h2
  simp only [todo, List.length_append, List.length_singleton]
  omega
theorem Row.pop {w : World} {B : Nat} {e : TypeId} {A : Option Addr} {n c : Nat} {xs : List Value} {u : Value} (h : Row w B e (.slice A n c) (xs ++ [u])) : Row w B e (.slice A xs.length c) xs := by
  rcases h with ⟨_, h⟩ | ⟨g, o, cap, cur, hv, hb, hh, h1, h2, h3, h4⟩
  · simp at h
  · injection hv with hA hn hc
    subst hA hc
    simp only [List.length_append, List.length_singleton] at h1
    refine .inr ⟨g, o, c, cur, rfl, hb, hh, by omega, h2, h3, fun j x hj => h4 j x ?_⟩
    rw [List.getElem?_append_left (List.getElem?_eq_some_iff.1 hj).1]
    exact hj
theorem Row.own {W W' : World} {row : Option Nat} {B : Nat} {e : TypeId} {v : Value} {xs : List Value} (h : Row W B e v xs) (hg : W.grownBy W' row) (hr : ∀ r, row = some r → ∃ o : Obj, W.heap[r]? = some o ∧ o.isCells = false) : Row W' B e v xs :=
  h.kept hg (by
    rcases h with ⟨rfl, _⟩ | ⟨g, o, cap, cur, rfl, _, hh, _⟩
    · exact .inl rfl
    · refine .inr fun e => ?_
      obtain ⟨o2, h2, h3⟩ := hr g (by rw [← e]; rfl)
      rw [hh] at h2
      cases h2
      cases h3)
theorem NRow.own {W W' : World} {row : Option Nat} {B : Nat} {e : TypeId} {v : Value} {xs : List Nd} (h : NRow W B e v xs) (hg : W.grownBy W' row) (hr : ∀ r, row = some r → ∃ o : Obj, W.heap[r]? = some o ∧ o.isCells = false) : NRow W' B e v xs :=
  h.kept hg (by
    rcases h.open with ⟨rfl, _⟩ | ⟨g, cap, cur, rfl, _, hh, _⟩
    · exact .inl rfl
    · refine .inr fun e => ?_
      obtain ⟨o2, h2, h3⟩ := hr g (by rw [← e]; rfl)
      rw [hh] at h2
      cases h2
      cases h3)
theorem Blk.own {W W' : World} {row : Option Nat} {g : Nat} {t : TypeId} {cs : Array Value} (h : Blk W g t cs) (hg : W.grownBy W' row) (hr : ∀ r, row = some r → ∃ o : Obj, W.heap[r]? = some o ∧ o.isCells = false) : Blk W' g t cs :=
  h.grown hg (fun e => by
    obtain ⟨o2, h2, h3⟩ := hr g e
    unfold Blk at h
    rw [h] at h2
    cases h2
    cases h3)
theorem below_own {W W' w : World} {row : Option Nat} {B D : Nat} (h : Below B w W) (hg : W.grownBy W' row) (hB : B ≤ W.heap.size) (hr : ∀ r, row = some r → D ≤ r) (hD : B ≤ D) : Below B w W' := h.grown hg hB fun k hk => by have := hr k hk; omega
theorem Row.keeps {W W' : World} {B : Nat} {e : TypeId} {v : Value} {xs : List Value} (h : Row W B e v xs) (hg : W.grownBy W' v.ownBlock) : KeepsOthers W W' :=
  KeepsOthers.of_grownBy hg fun j o e ho => by
    rcases h with ⟨rfl, _⟩ | ⟨g, o2, cap, cur, rfl, _, hh, _⟩
    · cases e
    · injection e with e
      subst e
      rw [hh] at ho
      cases ho
      rfl
theorem NRow.keeps {W W' : World} {B : Nat} {e : TypeId} {v : Value} {xs : List Nd} (h : NRow W B e v xs) (hg : W.grownBy W' v.ownBlock) : KeepsOthers W W' :=
  KeepsOthers.of_grownBy hg fun j o e ho => by
    rcases h.open with ⟨rfl, _⟩ | ⟨g, cap, cur, rfl, _, hh, _⟩
    · cases e
    · injection e with e
      subst e
      rw [hh] at ho
      cases ho
      rfl
end
section
open Go.RowKit Go.Maps
def keyI (k : Nat) : Lit := .int .i64 (k : Int)
theorem keyI_ne {j k : Nat} (h : j ≠ k) : keyI j ≠ keyI k := by (
 unfold keyI
 intro e
 injection e with e1 e2
 omega)
def mapD (x : List Bool) : Nat → DataW Unit
 | 0 => .map []
 | k + 1 => if yn x k = true then (mapD x k).put (keyI k) (.lit (.int .i64 (rk x k))) else mapD x k
theorem mapD_is (x : List Bool) : ∀ k, IsMap (mapD x k)
 | 0 => isMap_empty
 | k + 1 => by (
 unfold mapD
 split
 · exact (mapD_is x k).put _ _
 · exact mapD_is x k)
theorem mapD_yes {x : List Bool} {k : Nat} (h : yn x k = true) : mapD x (k + 1) = (mapD x k).put (keyI k) (.lit (.int .i64 (rk x k))) := by rw [mapD, if_pos h]
theorem mapD_no {x : List Bool} {k : Nat} (h : yn x k = false) : mapD x (k + 1) = mapD x k := by rw [mapD, if_neg (by rw [h]; simp)]
theorem mapD_has (x : List Bool) : ∀ (k j : Nat), k ≤ j → Maps.has (mapD x k) (keyI j) = false
 | 0, j, _ => rfl
 | k + 1, j, h => by (
 cases hy : yn x k with
 | true => rw [mapD_yes hy, has_put_other (keyI_ne (by omega))]; exact mapD_has x k j (by omega)
 | false => rw [mapD_no hy]; exact mapD_has x k j (by omega))
theorem mapD_at (x : List Bool) (z : DataW Unit) : ∀ (k j : Nat), j < k → yn x j = true → (mapD x k).atKey (keyI j) z = .lit (.int .i64 (rk x j))
 | 0, j, h, _ => absurd h (Nat.not_lt_zero _)
 | k + 1, j, h, hy => by (
 by_cases hjk : j = k
 · (
 subst hjk
 rw [mapD_yes hy]
 exact atKey_put_same (mapD_is x j) (by unfold keyI; trivial) _ _)
 · (
 cases hk : yn x k with
 | true => rw [mapD_yes hk, atKey_put_other (keyI_ne hjk)]; exact mapD_at x z k j (by omega) hy
 | false => rw [mapD_no hk]; exact mapD_at x z k j (by omega) hy))
theorem mapD_size_step {x : List Bool} {k : Nat} (ht : Tidy (mapD x k)) (h : Maps.size (mapD x k) = rk x k) : Maps.size (mapD x (k + 1)) = rk x (k + 1) := by (
 cases hk : yn x k with
 | true => rw [mapD_yes hk, rk_yes hk, size_put ht, h, mapD_has x k k (Nat.le_refl _)]; simp
 | false => rw [mapD_no hk, rk_no hk]; exact h)
theorem ownsMap_own {W W' : World} {row : Option Nat} {P : Program} {k : TypeId} {R : Value → Option (DataW Unit × List MemPlace)} {b m : Nat} {D : DataW Unit} (h : W.ownsMap P k R b m D) (hg : W.grownBy W' row) (hr : row ≠ some b) : W'.ownsMap P k R b m D := by (
 obtain ⟨es, clock, hb, F, r⟩ := h
 exact ⟨es, clock, (hg.block b (lt_of_heap hb) (fun e => hr e.symm)).trans hb, F, r⟩)
theorem ownsMap_below {W W' : World} {P : Program} {k : TypeId} {R : Value → Option (DataW Unit × List MemPlace)} {b m : Nat} {D : DataW Unit} (h : W.ownsMap P k R b m D) (hb : Below W.heap.size W W') : W'.ownsMap P k R b m D := by (
 obtain ⟨es, clock, hh, F, r⟩ := h
 exact ⟨es, clock, (hb.block b (lt_of_heap hh)).trans hh, F, r⟩)
theorem ownsMap_lt {W : World} {P : Program} {k : TypeId} {R : Value → Option (DataW Unit × List MemPlace)} {b m : Nat} {D : DataW Unit} (h : W.ownsMap P k R b m D) : b < W.heap.size := by (
 obtain ⟨es, clock, hh, F, r⟩ := h
 exact lt_of_heap hh)
theorem ownsMap_ne {W : World} {P : Program} {k : TypeId} {R : Value → Option (DataW Unit × List MemPlace)} {b m g : Nat} {D : DataW Unit} {t : TypeId} {cs : Array Value} (h : W.ownsMap P k R b m D) (hg : Blk W g t cs) : b ≠ g := by (
 obtain ⟨es, clock, hh, F, r⟩ := h
 rintro rfl
 unfold Blk at hg
 rw [hh] at hg
 cases hg)
theorem ownsMap_set {W : World} {P : Program} {k : TypeId} {R : Value → Option (DataW Unit × List MemPlace)} {b m : Nat} {D : DataW Unit} (h : W.ownsMap P k R b m D) (p : Addr) (u : Value) : (W.setCell p u).ownsMap P k R b m D := by (
 obtain ⟨es, clock, hh, F, r⟩ := h
 refine ⟨es, clock, (KeepsOthers.setCell W p u).same b _ hh rfl, F, r⟩)
theorem ownsMap_keeps {W W' : World} {P : Program} {k : TypeId} {R : Value → Option (DataW Unit × List MemPlace)} {b m : Nat} {D : DataW Unit} (h : W.ownsMap P k R b m D) (hk : KeepsOthers W W') : W'.ownsMap P k R b m D := by (
 obtain ⟨es, clock, hh, F, r⟩ := h
 exact ⟨es, clock, hk.same b _ hh rfl, F, r⟩)
theorem row_ne_map {W : World} {B g m : Nat} {D : DataW Unit} {P : Program} {k : TypeId} {R : Value → Option (DataW Unit × List MemPlace)} {e : TypeId} {v : Value} {xs : List Value} (h : Row W B e v xs) (hm : W.ownsMap P k R g m D) : v.ownBlock ≠ some g := by (
 rcases h with ⟨rfl, _⟩ | ⟨g', o, cap, cur, rfl, _, hh, _⟩
 · simp [Value.ownBlock]
 · (
 intro he
 simp [Value.ownBlock] at he
 subst he
 exact ownsMap_ne (t := e) (cs := cur) hm (by unfold Blk; exact hh) rfl))
theorem nrow_ne_map {W : World} {B g m : Nat} {D : DataW Unit} {P : Program} {k : TypeId} {R : Value → Option (DataW Unit × List MemPlace)} {e : TypeId} {v : Value} {xs : List Nd} (h : NRow W B e v xs) (hm : W.ownsMap P k R g m D) : v.ownBlock ≠ some g := by (
 rcases h.open with ⟨rfl, _⟩ | ⟨g', cap, cur, rfl, _, hh, _⟩
 · simp [Value.ownBlock]
 · (
 intro he
 simp [Value.ownBlock] at he
 subst he
 exact ownsMap_ne (t := e) (cs := cur) hm (by unfold Blk; exact hh) rfl))
end
section
open Go.RowKit
def Marks (B : Nat) : Nat → List Deferred → World → Prop
 | _, [], _ => True
 | S, d :: ds, w => ∃ D, d = { target := .collected D, args := #[] } ∧ B ≤ D ∧ D < S ∧ w.heap[D]? = some (.deferred (some [])) ∧ Marks B D ds w
theorem Marks.mono {B : Nat} : ∀ {ds : List Deferred} {S S' : Nat} {w : World}, Marks B S ds w → S ≤ S' → Marks B S' ds w
 | [], _, _, _, _, _ => trivial
 | d :: ds, S, S', w, ⟨D, h1, h2, h3, h4, h5⟩, h => ⟨D, h1, h2, Nat.lt_of_lt_of_le h3 h, h4, h5⟩
theorem Marks.of_heap {B : Nat} : ∀ {ds : List Deferred} {S : Nat} {w w' : World}, Marks B S ds w → (∀ k, k < S → w.heap[k]? = some (.deferred (some [])) → w'.heap[k]? = some (.deferred (some []))) → Marks B S ds w'
 | [], _, _, _, _, _ => trivial
 | d :: ds, S, w, w', ⟨D, h1, h2, h3, h4, h5⟩, h => ⟨D, h1, h2, h3, h D h3 h4, h5.of_heap fun k hk => h k (Nat.lt_trans hk h3)⟩
theorem Marks.keeps {B S : Nat} {ds : List Deferred} {w w' : World} (h : Marks B S ds w) (hk : KeepsOthers w w') : Marks B S ds w' := h.of_heap fun k _ e => hk.same k _ e rfl
theorem Marks.below {B S : Nat} {ds : List Deferred} {w w' : World} (h : Marks B S ds w) (hb : Below w.heap.size w w') : Marks B S ds w' := h.of_heap fun k _ e => (hb.block k (lt_of_heap e)).trans e
theorem Marks.own {B S : Nat} {ds : List Deferred} {w w' : World} {row : Option Nat} (h : Marks B S ds w) (hg : w.grownBy w' row) (hr : ∀ r, row = some r → S ≤ r) : Marks B S ds w' :=
 h.of_heap fun k hk e => (hg.block k (lt_of_heap e) fun e2 => by have := hr k e2.symm; omega).trans e
theorem Marks.put {B S D : Nat} {ds : List Deferred} {w : World} (h : Marks B S ds w) (o : Obj) (hD : S ≤ D) : Marks B S ds (w.putObj D o) := h.of_heap fun k hk e => (World.putObj_heap_other (by omega)).trans e
theorem Marks.add {B S D : Nat} {ds : List Deferred} {w : World} (h : Marks B S ds w) (hD : S ≤ D) (hB : B ≤ D) (hd : w.heap[D]? = some (.deferred (some []))) : Marks B w.heap.size ({ target := .collected D, args := #[] } :: ds) w :=
 ⟨D, rfl, hB, lt_of_heap hd, hd, h.mono hD⟩
theorem leaves_marks {P : Program} {n : Nat} {fn : Func} {tmps : Array Value} {R : Ending → World → Prop} {B : Nat} (I : World → Prop)
 (hp : ∀ W D, I W → B ≤ D → W.heap[D]? = some (.deferred (some [])) → I (W.putObj D (.deferred none))) (he : ∀ W, I W → ∃ v, (results fn tmps).run P W = .ok v W ∧ R (.returned v) W) :
 ∀ (ds : List Deferred) (S : Nat) (W : World), Marks B S ds W → I W → LeavesInM Fence.wide n P fn tmps R ds .returning W
| [], S, W, _, hI => he W hI
| d :: ds, S, W, ⟨D, h1, h2, h3, h4, h5⟩, hI => by (
 refine ⟨by simp, .inl ⟨D, W.putObj D (.deferred none), by rw [h1], run_takeDeferred h4, ?_⟩⟩
 exact leaves_marks I hp he ds D _ (h5.put _ (Nat.le_refl _)) (hp W D hI h2 h4))
theorem calls_marks {P : Program} {f : FuncId} {fn : Func} {c : Code} {args : Array Value} {w : World} {R : Ending → World → Prop} (hf : P.funcs[f]? = some fn) (hb : fn.body = some c)
 (h : c.wp P (bodyPostM Fence.wide 4 P fn R) { tmps := args ++ Array.replicate (fn.ntmps - args.size) undef, defers := [] } w) : Calls P f args w R :=
 callsIn_wide.1 (callsIn_of_wp_marks (n:= 4) hf hb trivial (wpIn_wide.2 h))
theorem grown_put {W : World} {D : Nat} (o : Obj) : W.grownBy (W.putObj D o) (some D) := grownBy_putObj' W D o
theorem wpIn_mid {F : Fence} {n : Nat} {P : Program} {c : Code} {Q : Exit → Act → World → Prop} {a : Act} {w : World} (A : Act) (W : World) (h : c.wpIn F n P (fun e a' w' => e = .normal ∧ a' = A ∧ w' = W) a w) (hq : Q .normal A W) : c.wpIn F n P Q a w :=
 wpIn_mono h fun e a' w' ⟨h1, h2, h3⟩ => by subst h1 h2 h3; exact hq
theorem stepIn_append_row {F : Fence} {n : Nat} {P : Program} {e : TypeId} {v : Value} {xs : List Value} {w : World} {base : Nat} {ops : Array Oper} {o : Oper} {a : Act} {K : Act → World → Prop} {Q : Exit → Act → World → Prop} {E : Prop} (hgd : o.guard = none) (s x : Operand) (t : TypeId)
 (ho : o.op = .call { callee := .builtin .append, args := #[s, x], argTypes := #[t, t] })
 (i : TypeInfo) (z : Value) (bytes : Nat) (ht : P.underlying t = some (.slice e)) (hi : P.info? e = some i) (hz : i.zero = some z)
 (hsize : i.size = 1) (hby : i.bytes = bytes) (hzs : z.cells.size = 1) (hs : a.eval s = v) (hr : Row w base e v xs) (A : Option Addr) (m c : Nat) (news : List Value) (hx : a.eval x = .slice A m c)
 (hnl : m = news.length) (hn : ValsAt w A news)
 (h1 : ∀ u ∈ news, u.oneCell' = true) (h63 : xs.length + news.length ≤ maxLen) (hbytes : (xs.length + news.length) * bytes ≤ 140737488355328) (hbase : base ≤ w.heap.size)
 (h : ∀ v' w', Row w' base e v' (xs ++ news) → w.grownBy w' v.ownBlock → (v'.ownBlock = v.ownBlock ∨ ∀ k, v'.ownBlock = some k → w.heap.size ≤ k) → K (a.put o.dst v') w') :
 if Region.wanted o (yielded ops a.tmps) = true then Oper.wpIn F n P o a w K Q else E := by (
 have hw : Region.wanted o (yielded ops a.tmps) = true := by simp [Region.wanted, hgd]
 rw [if_pos hw]
 subst hnl
 obtain ⟨v', w', hrun, h2, h3, h4⟩ := run_append_row (P := P) t o.type i z bytes ht hi hz hsize hby hzs hr A c news hn h1 h63 hbytes hbase
 unfold Oper.wpIn
 refine ⟨?_, ?_⟩
 · simp [Oper.about, ho, resolve, Target.leads, Sem.run_pure]
 · (
 rw [Oper.semAt_eq _ _ _ (by rw [ho]; intro c hc'; cases hc')]
 simp [execOp, ho, resolve, invoke, builtin, hs, hx, hrun, Result.andThen]
 exact h v' w' h2 h3 h4))
theorem stepIn_append_nodes {F : Fence} {n : Nat} {P : Program} {e : TypeId} {v : Value} {l : List Nd} {w : World} {base : Nat} {ops : Array Oper} {o : Oper} {a : Act} {K : Act → World → Prop} {Q : Exit → Act → World → Prop} {E : Prop} (hgd : o.guard = none) (s x : Operand) (t : TypeId)
 (ho : o.op = .call { callee := .builtin .append, args := #[s, x], argTypes := #[t, t] })
 (i : TypeInfo) (z : Value) (bytes : Nat) (ht : P.underlying t = some (.slice e)) (hi : P.info? e = some i) (hz : i.zero = some z)
 (hsize : i.size = 6) (hby : i.bytes = bytes) (hzs : z.cells.size = 6) (hs : a.eval s = v) (hr : NRow w base e v l) (A : Option Addr) (m c : Nat) (news : List Nd) (hx : a.eval x = .slice A m c)
 (hnl : m = news.length) (hn : NodesAt w A news)
 (h63 : l.length + news.length ≤ maxLen) (hbytes : (l.length + news.length) * bytes ≤ 140737488355328) (hbase : base ≤ w.heap.size)
 (h : ∀ v' w', NRow w' base e v' (l ++ news) → w.grownBy w' v.ownBlock → (v'.ownBlock = v.ownBlock ∨ ∀ k, v'.ownBlock = some k → w.heap.size ≤ k) → K (a.put o.dst v') w') :
 if Region.wanted o (yielded ops a.tmps) = true then Oper.wpIn F n P o a w K Q else E := by (
 have hw : Region.wanted o (yielded ops a.tmps) = true := by simp [Region.wanted, hgd]
 rw [if_pos hw]
 subst hnl
 obtain ⟨v', w', hrun, h2, h3, h4⟩ := run_append_nodes (P := P) t o.type i z bytes ht hi hz hsize hby hzs hr A c news hn h63 hbytes hbase
 unfold Oper.wpIn
 refine ⟨?_, ?_⟩
 · simp [Oper.about, ho, resolve, Target.leads, Sem.run_pure]
 · (
 rw [Oper.semAt_eq _ _ _ (by rw [ho]; intro c hc'; cases hc')]
 simp [execOp, ho, resolve, invoke, builtin, hs, hx, hrun, Result.andThen]
 exact h v' w' h2 h3 h4))
def onlyNormal (R : Act → World → Prop) : Exit → Act → World → Prop
 | .normal, a, w => R a w
 | _, _, _ => False
theorem wp_normal {P : Program} {c : Code} {Q : Exit → Act → World → Prop} {a : Act} {w : World} (R : Act → World → Prop) (h : c.wp P (onlyNormal R) a w) (hq : ∀ a' w', R a' w' → Q .normal a' w') : c.wp P Q a w :=
 wp_mono h fun e a' w' hr => by cases e <;> first | exact hq _ _ hr | exact hr.elim
end
section
open Go.RowKit Go.Shelf
set_option maxHeartbeats 1000000
attribute [local go_sem] Oper.semAt_some
def exitN (op : Int) : Nat := if op = 12 then 0 else if op = 11 then 2 else 1
theorem exits_any (p : Option Addr) (w : World) : Calls Try.prog 27 #[.pointer p] w fun e w' => e = .returned (.func (.func 57) #[] #[.pointer (some ⟨w.heap.size, 0, none⟩)]) ∧ w' = w.alloc (.cells #[.pointer p] 63) := by (
 go_enter Try.func27, Try.ntmps27
 go_wp2
 go_ret
 exact ⟨rfl, rfl⟩)
set_option maxRecDepth 100000 in
theorem exits1_in (F : Fence) (n : Nat) (hf : F.fn 57) (hro : F.round = none) (hn : 1 ≤ n) (l gb b : Nat) (op : Int) (J : Nat → World → Prop)
 (hc : ∀ i W, J i W → W.cell? ⟨gb, 0, none⟩ = some (.pointer (some ⟨b, 0, none⟩)) ∧ W.cell? ⟨b, 0, none⟩ = some (.int .i64 op))
 (y0 : op ≠ 12 → ∀ W, J 0 W → YieldAt F (n - 1) Try.prog l #[.pointer (some ⟨b, 4, none⟩)] W fun e W' => e = .returned (.bool true) ∧ J 1 W')
 (y1 : op = 11 → ∀ W, J 1 W → YieldAt F (n - 1) Try.prog l #[.pointer (some ⟨b, 5, none⟩)] W fun e W' => e = .returned (.bool true) ∧ J 2 W')
 (W : World) (h0 : J 0 W) :
 CallsIn F n Try.prog 57 #[.func (.yield l) #[] #[], .pointer (some ⟨gb, 0, none⟩)] W fun e W' => (∃ v, e = .returned v) ∧ J (exitN op) W' := by (
 have hJ := hc 0 W h0
 obtain ⟨c0, c1⟩ := hJ
 refine callsIn_of_wp Try.func57 rfl hf ?_ hro
 simp only [Try.ntmps57, List.size_toArray, List.length_cons, List.length_nil, Nat.reduceAdd, Nat.reduceSub, Array.replicate_succ, Array.replicate_zero, List.push_toArray, List.append_toArray, List.nil_append, List.cons_append]
 by_cases h12 : op = 12
 · (
 have he : exitN op = 0 := by simp [exitN, h12]
 have He : Hid (exitN op = 0) := he
 clear he y0 y1 hc
 have q12 : (op == 12) = true := by simp [h12]
 clear h12
 gi_wp2
 refine ⟨fun _ h => (by cases h), ?_⟩
 gi_wp2
 refine bodyPost_ret (results_none rfl _ _ _) rfl ?_
 exact ⟨⟨_, rfl⟩, by rw [He.out]; exact h0⟩)
 · (
 have q12 : (op == 12) = false := by simp [h12]
 obtain ⟨fn, tmps, assign, body, hy, hR⟩ := y0 h12 W h0
 by_cases h11 : op = 11
 · (
 have q11 : (op == 11) = true := by simp [h11]
 have he : exitN op = 2 := by simp [exitN, h11]
 have He : Hid (exitN op = 2) := he
 have Y1 : Hid (∀ W, J 1 W → YieldAt F (n - 1) Try.prog l #[.pointer (some ⟨b, 5, none⟩)] W fun e W' => e = .returned (.bool true) ∧ J 2 W') := y1 h11
 have Hc : Hid (∀ i W, J i W → W.cell? ⟨gb, 0, none⟩ = some (.pointer (some ⟨b, 0, none⟩)) ∧ W.cell? ⟨b, 0, none⟩ = some (.int .i64 op)) := hc
 clear he h12 h11 y0 y1 hc
 gi_wp2
 refine hR.mono ?_
 rintro e W1 ⟨rfl, hJ1⟩
 obtain ⟨d0, d1⟩ := Hc.out 1 W1 hJ1
 obtain ⟨fn', tmps', assign', body', hy', hR'⟩ := Y1.out W1 hJ1
 clear hy hR c0 c1
 gi_wp2
 refine hR'.mono ?_
 rintro e W2 ⟨rfl, hJ2⟩
 gi_wp2
 go_end0
 exact ⟨⟨_, rfl⟩, by rw [He.out]; exact hJ2⟩)
 · (
 have q11 : (op == 11) = false := by simp [h11]
 have he : exitN op = 1 := by simp [exitN, h12, h11]
 have He : Hid (exitN op = 1) := he
 have Hc : Hid (∀ i W, J i W → W.cell? ⟨gb, 0, none⟩ = some (.pointer (some ⟨b, 0, none⟩)) ∧ W.cell? ⟨b, 0, none⟩ = some (.int .i64 op)) := hc
 clear he h12 h11 y0 y1 hc
 gi_wp2
 refine hR.mono ?_
 rintro e W1 ⟨rfl, hJ1⟩
 obtain ⟨d0, d1⟩ := Hc.out 1 W1 hJ1
 clear hy hR c0 c1
 gi_wp2
 go_end0
 exact ⟨⟨_, rfl⟩, by rw [He.out]; exact hJ1⟩)))
def roundEnd (B : Nat) (J : World → Prop) (W : World) : Exit → Act → World → Prop
 | .normal, _, W' => KeepsFrom B W W' ∧ J W'
 | _, _, _ => False
theorem wp_range_exits {g : Operand} {p : Tmp} {assign body : Code} {Q : Exit → Act → World → Prop} {a : Act} {w : World} (gb b : Nat) (op : Int)
 (hg : a.eval g = .func (.func 57) #[] #[.pointer (some ⟨gb, 0, none⟩)])
 (I : Nat → World → Prop) (hI : OwnFrom w.heap.size I)
 (hc : ∀ i W, I i W → W.cell? ⟨gb, 0, none⟩ = some (.pointer (some ⟨b, 0, none⟩)) ∧ W.cell? ⟨b, 0, none⟩ = some (.int .i64 op))
 (h0 : I 0 w)
 (hbody : ∀ (l i : Nat), (i = 0 ∧ op ≠ 12 ∨ i = 1 ∧ op = 11) → ∃ a₁ : Act, (∀ (W : World) (K : Act → World → Prop), K a₁ W → assign.wpIn (Fence.wide.inRound l) 2 Try.prog (Exit.then K (fun _ _ _ => False)) { tmps := a.tmps.setIfInBounds p (.pointer (some ⟨b, 4 + i, none⟩)), defers := [] } W) ∧
  ∀ W, I i W → body.wpIn (Fence.wide.inRound l) 2 Try.prog (roundEnd w.heap.size (I (i + 1)) W) a₁ W)
 (hdone : ∀ (D : Nat) (W : World), w.heap.size ≤ D → I (exitN op) W → W.heap[D]? = some (.deferred (some [])) → Q .normal { a with defers := { target := .collected D, args := #[] } :: a.defers } W) :
 (Code.rangeFunc g #[p] assign body).wp Try.prog Q a w := by (
 refine (wpIn_wide (n := 4)).1 (wpIn_rangeFunc fun fn hfn => ?_)
 obtain ⟨mk, hmk⟩ : ∃ mk : LoopState → Option Code → Loop, mk = fun st pe => { state := st, pending := pe, fn, tmps := a.tmps, params := #[p], assign, body, defers := w.heap.size } := ⟨_, rfl⟩
 -- the world with the two blocks of the loop's own
 obtain ⟨V, hV⟩ : ∃ V, (w.alloc (.deferred (some []))).alloc (.loop (mk .ready none)) = V := ⟨_, rfl⟩
 have lV : V.heap[w.heap.size + 1]? = some (.loop (mk .ready none)) := by (
 rw [← hV]; have := World.alloc_heap_new (w.alloc (.deferred (some []))) (.loop (mk .ready none)); rwa [World.size_alloc] at this)
 have dV : V.heap[w.heap.size]? = some (.deferred (some [])) := by (
 rw [← hV]; exact (Below.heap_alloc _ _ _ (by simp)).trans (World.alloc_heap_new w _))
 have iV : I 0 V := by rw [← hV]; exact hI.alloc _ (hI.alloc _ h0)
 -- what holds between two rounds
 let J : Nat → World → Prop := fun i W => I i W ∧ W.heap[w.heap.size + 1]? = some (.loop (mk .ready none)) ∧ W.heap[w.heap.size]? = some (.deferred (some []))
 have round : ∀ (i : Nat) (W : World), (i = 0 ∧ op ≠ 12 ∨ i = 1 ∧ op = 11) → J i W → YieldAt Fence.wide 2 Try.prog (w.heap.size + 1) #[.pointer (some ⟨b, 4 + i, none⟩)] W fun e W' => e = .returned (.bool true) ∧ J (i + 1) W' := by (
 rintro i W hi ⟨hw, hl, hd⟩
 have hlt : w.heap.size + 1 < W.heap.size := (Array.getElem?_eq_some_iff.1 hl).1
 have hy := run_yield (P := Try.prog) (args := #[.pointer (some ⟨b, 4 + i, none⟩)]) hl (by rw [hmk]; rfl)
 rw [hmk] at hy
 have hy' : (Instr.yield (w.heap.size + 1) #[.pointer (some ⟨b, 4 + i, none⟩)]).run Try.prog W = .ok (.round (w.heap.size + 1) fn (a.tmps.setIfInBounds p (.pointer (some ⟨b, 4 + i, none⟩))) assign body) W := by (
 have hz : ((#[p] : Array Tmp).zip (#[.pointer (some ⟨b, 4 + i, none⟩)] : Array Value)).foldl (fun tmps (t, v) => tmps.setIfInBounds t v) a.tmps = a.tmps.setIfInBounds p (.pointer (some ⟨b, 4 + i, none⟩)) := by simp
 rw [← hz]
 exact hy)
 obtain ⟨a₁, hassign, hbd⟩ := hbody (w.heap.size + 1) i hi
 refine ⟨fn, _, assign, body, hy', roundIn_of_wpIn hfn (hassign W _ ⟨_, run_beginRound hl (by rw [hmk]), ?_⟩)⟩
 obtain ⟨W1, hW1⟩ : ∃ W1 : World, W1 = W.putObj (w.heap.size + 1) (.loop { mk .ready none with state := .busy }) := ⟨_, rfl⟩
 rw [← hW1]
 have hl1 : W1.heap[w.heap.size + 1]? = some (.loop { mk .ready none with state := .busy }) := by rw [hW1]; exact World.putObj_heap_same hlt
 have hd1 : W1.heap[w.heap.size]? = some (.deferred (some [])) := by rw [hW1]; exact (World.putObj_heap_other (by omega)).trans hd
 have hw1 : I i W1 := by rw [hW1]; exact hI.putObj _ hw (by omega) hl rfl
 refine wpIn_mono (hbd W1 hw1) ?_
 rintro e a3 W3 hp
 cases e with
 | normal =>
  obtain ⟨hk, hn⟩ := hp
  have hl3 := hk.same _ _ (by omega) hl1 rfl
  have hd3 := hk.same _ _ (Nat.le_refl _) hd1 rfl
  have hr := run_endRound (P := Try.prog) none hl3
  refine ⟨_, _, hr, rfl, hI.putObj _ hn (by omega) hl3 rfl, ?_, (World.putObj_heap_other (by omega)).trans hd3⟩
  rw [World.putObj_heap_same (Array.getElem?_eq_some_iff.1 hl3).1, hmk]
  rfl
 | ret => exact hp.elim
 | exit id => exact hp.elim
 | goto t => exact hp.elim
 | panic ch => exact hp.elim
 | outgrown => exact hp.elim)
 refine ⟨w.heap.size + 1, [{ target := .collected w.heap.size, args := #[] }], V, { target := .fn (.func 57) #[.pointer (some ⟨gb, 0, none⟩)], args := #[.func (.yield (w.heap.size + 1)) #[] #[]] }, V, 57,
  #[.func (.yield (w.heap.size + 1)) #[] #[], .pointer (some ⟨gb, 0, none⟩)], V, ?_, ?_, fun _ _ => trivial, ?_, fun _ => by omega, ?_⟩
 · rw [← hV, hmk]; exact run_enterLoop_outer _ _ _ _ _
 · (
 simp only [resolve, hg]
 simp [go_sem])
 · (
 have he := enters_of Try.func57 (by kernel_rfl) rfl
 simp [invoke, go_sem, he])
 · (
 refine (exits1_in Fence.wide 3 trivial rfl (by omega) (w.heap.size + 1) gb b op J (fun i W h => hc i W h.1) (fun h W hj => round 0 W (.inl ⟨rfl, h⟩) hj) (fun h W hj => round 1 W (.inr ⟨rfl, h⟩) hj) V (And.intro iV (And.intro lV dV))).mono ?_
 rintro e W2 ⟨⟨v, rfl⟩, hw, hl, hd⟩
 have hend := run_endLoop (P := Try.prog) hl (by rw [hmk]; simp)
 have hpe : (mk .ready none).pending = none := by rw [hmk]
 rw [hpe] at hend
 refine ⟨none, _, hend, ?_⟩
 exact hdone _ _ (Nat.le_refl _) (hI.putObj _ hw (by omega) hl rfl) ((World.putObj_heap_other (by omega)).trans hd)))
end
section
open Go.RowKit
def wcnt (l : List Nd) (k m : Nat) : Nat := (sel (aheadP l m) k).length
theorem wcnt_zero (l : List Nd) (m : Nat) : wcnt l 0 m = 0 := rfl
theorem wcnt_all (l : List Nd) (m : Nat) : wcnt l l.length m = ways l m := by simp [wcnt, ways]
theorem wcnt_le (l : List Nd) (k m : Nat) : wcnt l k m ≤ k := sel_len _ _
def wmid (n : Nd) (i m : Nat) : Nat := (if 1 ≤ i ∧ n.t = (m : Int) then 1 else 0) + (if 2 ≤ i ∧ n.e = (m : Int) ∧ n.e ≠ n.t then 1 else 0)
theorem wmid_zero (n : Nd) (m : Nat) : wmid n 0 m = 0 := by simp [wmid]
theorem wcnt_succ {l : List Nd} {k : Nat} {n : Nd} (h : l[k]? = some n) (m : Nat) : wcnt l (k + 1) m = wcnt l k m + wmid n (exitN n.op) m := by (
 have hp : aheadP l m k = leadsB n m := aheadP_eq h
 have hw : wmid n (exitN n.op) m = if leadsB n m = true then 1 else 0 := by (
 unfold wmid exitN leadsB
 by_cases h12 : n.op = 12
 · simp [h12]
 · (
 by_cases h11 : n.op = 11
 · (
 by_cases ht : n.t = (m : Int)
 · (
 by_cases he : n.e = (m : Int)
 · simp [h11, ht, he]
 · simp [h11, ht, he])
 · (
 by_cases he : n.e = (m : Int)
 · (
 have : n.e ≠ n.t := by omega
 simp [h11, ht, he]
 omega)
 · simp [h11, ht, he]))
 · (
 by_cases ht : n.t = (m : Int)
 · simp [h12, h11, ht]
 · simp [h12, h11, ht])))
 unfold wcnt
 rw [hw]
 cases hl : leadsB n m with
 | true => rw [sel_succ_true (hp.trans hl)]; simp
 | false => rw [sel_succ_false (hp.trans hl)]; simp)
def lastOf (n : Nd) (i : Nat) : Int := if i = 0 then 0 else if i = 1 then n.t else n.e
theorem wmid_new {n : Nd} {i mm : Nat} (h : (i = 0 ∧ n.t = mm) ∨ (i = 1 ∧ n.e = mm)) (hm : 1 ≤ mm) (hl : (mm : Int) ≠ lastOf n i) (m : Nat) : wmid n (i + 1) m = wmid n i m + (if m = mm then 1 else 0) := by (
 rcases h with ⟨rfl, h⟩ | ⟨rfl, h⟩
 · (
 unfold wmid
 rw [h]
 by_cases hmm : m = mm
 · subst hmm; simp
 · (
 have : ¬ ((mm : Int) = (m : Int)) := by omega
 simp [hmm, this]))
 · (
 unfold wmid lastOf at *
 simp only [Nat.one_ne_zero, ↓reduceIte] at hl
 rw [h]
 by_cases hmm : m = mm
 · (
 subst hmm
 simp [hl])
 · (
 have : ¬ ((mm : Int) = (m : Int)) := by omega
 simp [hmm, this])))
theorem wmid_old {n : Nd} {i mm : Nat} (h : (i = 0 ∧ n.t = mm) ∨ (i = 1 ∧ n.e = mm)) (hm : 1 ≤ mm) (hl : (mm : Int) = lastOf n i) (m : Nat) : wmid n (i + 1) m = wmid n i m := by (
 rcases h with ⟨rfl, h⟩ | ⟨rfl, h⟩
 · (
 unfold lastOf at hl
 simp at hl
 omega)
 · (
 unfold wmid lastOf at *
 simp only [Nat.one_ne_zero, ↓reduceIte] at hl
 have : n.e = n.t := by omega
 simp [this]))
theorem lastOf_succ {n : Nd} {i mm : Nat} (h : (i = 0 ∧ n.t = mm) ∨ (i = 1 ∧ n.e = mm)) : lastOf n (i + 1) = mm := by (
 rcases h with ⟨rfl, h⟩ | ⟨rfl, h⟩ <;> simp [lastOf, h])
theorem wmid_le (n : Nd) (i m : Nat) : wmid n i m ≤ 2 := by unfold wmid; split <;> split <;> omega
end
section
open Go.RowKit
def xmid (l : List Nd) (n : Nd) (N : Nat) : Nat → Nd
 | 0 => n
 | 1 => { n with t := if 2 ≤ ways l n.t then (N : Int) else n.t }
 | _ => { n with t := if 2 ≤ ways l n.t then (N : Int) else n.t, e := if n.e = n.t then (if 2 ≤ ways l n.t then (N : Int) else n.t) else if 2 ≤ ways l n.e then ((N + (skips1 l n).length : Nat) : Int) else n.e }
def smid (l : List Nd) (n : Nd) : Nat → List Nd
 | 0 => []
 | 1 => skips1 l n
 | _ => skips1 l n ++ (if n.e ≠ n.t ∧ 2 ≤ ways l n.e then [skipN n.e] else [])
theorem xmid_op (l : List Nd) (n : Nd) (N i : Nat) : (xmid l n N i).op = n.op := by (
 rcases i with _ | _ | i <;> rfl)
theorem smid_len (l : List Nd) (n : Nd) (i : Nat) : (smid l n i).length ≤ 2 := by (
 have := skips1_len l n
 rcases i with _ | _ | i
 · simp [smid]
 · simp only [smid]; omega
 · simp only [smid, List.length_append]; split <;> simp <;> omega)
theorem mid_end {l : List Nd} {n : Nd} {k : Nat} {out : List Nd} (h0 : n.op ≠ 0) (hk : out[k]? = some n) : splitStep l k n out = out.set k (xmid l n out.length (exitN n.op)) ++ smid l n (exitN n.op) := by (
 have hko : k < out.length := (List.getElem?_eq_some_iff.1 hk).1
 by_cases h12 : n.op = 12
 · (
 rw [splitStep_skip (.inr h12)]
 simp [exitN, h12, xmid, smid, set_self hk])
 · (
 rw [splitStep_once hko h0 h12]
 by_cases h11 : n.op = 11
 · (
 have he : exitN n.op = 2 := by simp [exitN, h11]
 rw [he]
 by_cases hw : 2 ≤ ways l n.t
 · (
 by_cases het : n.e = n.t
 · simp [xmid, smid, split2, split1, elseB, skips2, hw, het, h11]
 · (
 by_cases hwe : 2 ≤ ways l n.e
 · simp [xmid, smid, split2, split1, elseB, skips2, hw, het, h11, hwe]
 · simp [xmid, smid, split2, split1, elseB, skips2, hw, het, h11, hwe]))
 · (
 by_cases het : n.e = n.t
 · (
 rcases n with ⟨op, d, a, b, t, e⟩
 simp only at *
 subst het
 simp [xmid, smid, split2, split1, elseB, skips2, skips1, hw, h11])
 · (
 by_cases hwe : 2 ≤ ways l n.e
 · (
 rcases n with ⟨op, d, a, b, t, e⟩
 simp only at *
 simp [xmid, smid, split2, split1, elseB, skips2, skips1, hw, het, h11, hwe])
 · (
 rcases n with ⟨op, d, a, b, t, e⟩
 simp only at *
 simp [xmid, smid, split2, split1, elseB, skips2, skips1, hw, het, h11, hwe]))))
 · (
 have he : exitN n.op = 1 := by simp [exitN, h12, h11]
 rw [he]
 by_cases hw : 2 ≤ ways l n.t
 · simp [xmid, smid, split2, split1, elseB, skips2, hw, h11]
 · simp [xmid, smid, split2, split1, elseB, skips2, hw, h11])))
theorem mid_t_more {l : List Nd} {n : Nd} {N : Nat} (h : 2 ≤ ways l n.t) : xmid l n N 1 = n.put 4 N ∧ smid l n 1 = smid l n 0 ++ [skipN n.t] := by (
 simp [xmid, smid, skips1, h, Nd.put])
theorem mid_t_one {l : List Nd} {n : Nd} {N : Nat} (h : ¬ 2 ≤ ways l n.t) : xmid l n N 1 = n ∧ smid l n 1 = smid l n 0 := by (
 simp [xmid, smid, skips1, h])
theorem mid_e_same {l : List Nd} {n : Nd} {N : Nat} (h : n.e = n.t) : xmid l n N 2 = (xmid l n N 1).put 5 (xmid l n N 1).t ∧ smid l n 2 = smid l n 1 := by (
 simp [xmid, smid, h, Nd.put])
theorem mid_e_more {l : List Nd} {n : Nd} {N : Nat} (he : n.e ≠ n.t) (h : 2 ≤ ways l n.e) : xmid l n N 2 = (xmid l n N 1).put 5 ((N + (smid l n 1).length : Nat) : Int) ∧ smid l n 2 = smid l n 1 ++ [skipN n.e] := by (
 simp [xmid, smid, he, h, Nd.put])
theorem mid_e_one {l : List Nd} {n : Nd} {N : Nat} (he : n.e ≠ n.t) (h : ¬ 2 ≤ ways l n.e) : xmid l n N 2 = xmid l n N 1 ∧ smid l n 2 = smid l n 1 := by (
 simp [xmid, smid, he, h])
theorem mid_more {l : List Nd} {n : Nd} {N i mm : Nat} (h : (i = 0 ∧ n.t = (mm : Int)) ∨ (i = 1 ∧ n.e = (mm : Int) ∧ n.e ≠ n.t)) (hw : 2 ≤ ways l mm) :
 xmid l n N (i + 1) = (xmid l n N i).put (4 + i) ((N + (smid l n i).length : Nat) : Int) ∧ smid l n (i + 1) = smid l n i ++ [skipN mm] := by (
 rcases h with ⟨rfl, h⟩ | ⟨rfl, h, hne⟩
 · (
 rw [← h] at hw ⊢
 obtain ⟨h1, h2⟩ := mid_t_more (N := N) hw
 exact ⟨h1, h2⟩)
 · (
 rw [← h] at hw ⊢
 exact mid_e_more hne hw))
theorem mid_one {l : List Nd} {n : Nd} {N i mm : Nat} (h : (i = 0 ∧ n.t = (mm : Int)) ∨ (i = 1 ∧ n.e = (mm : Int) ∧ n.e ≠ n.t)) (hw : ¬ 2 ≤ ways l mm) :
 xmid l n N (i + 1) = xmid l n N i ∧ smid l n (i + 1) = smid l n i := by (
 rcases h with ⟨rfl, h⟩ | ⟨rfl, h, hne⟩
 · (
 rw [← h] at hw
 exact mid_t_one hw)
 · (
 rw [← h] at hw
 exact mid_e_one hne hw))
theorem xmid_t (l : List Nd) (n : Nd) (N : Nat) : (xmid l n N 0).t = n.t := rfl
theorem xmid_e (l : List Nd) (n : Nd) (N : Nat) : (xmid l n N 1).e = n.e := rfl
end
section
open Go.RowKit
set_option maxHeartbeats 4000000
attribute [local irreducible] Row madeCells
theorem flip_ne {a b : Option Nat} (h : a = none ∨ a ≠ b) : b = none ∨ b ≠ a := by (
 rcases b with _ | b
 · exact .inl rfl
 · (
 rcases h with h | h
 · exact .inr (by rw [h]; simp)
 · exact .inr h.symm))
theorem map_const_range (z : Value) (n : Nat) : ((List.range n).map fun _ => z) = List.replicate n z := by rw [List.map_const', List.length_range]
end
section
open Go.RowKit
set_option maxHeartbeats 4000000
attribute [local irreducible] Row TRow madeCells
end
section
open Go.RowKit
set_option maxHeartbeats 4000000
attribute [local irreducible] Row madeCells
def nxE (regs : Int) (l : List Nd) (n : Int) : Int := if chk regs l = 0 then (if n < 0 ∨ (l.length : Int) ≤ n then 3 else 0) else chk regs l
def nxLp (regs : Int) (l : List Nd) (n : Int) (p : List Nd → Nat → Nat → Bool) : List Int := if nxE regs l n = 0 then sel (p l n.toNat) l.length else []
def NxPost (tI : TypeId) (regs : Int) (l : List Nd) (n : Int) (p : List Nd → Nat → Nat → Bool) (w : World) (e : Ending) (w' : World) : Prop :=
 Below w.heap.size w w' ∧ ∃ v, e = .returned (.tuple #[v, .int .i64 (nxE regs l n)]) ∧ Row w' w.heap.size tI v (ints (nxLp regs l n p))
end
end Go.Proofs.Ytmghkonmfbpjcab
