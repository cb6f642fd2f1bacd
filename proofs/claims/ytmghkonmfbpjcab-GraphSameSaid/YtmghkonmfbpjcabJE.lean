/- RunJ; RunE; RunZ; ResS: merged texts. -/
import Derived.Test.YtmghkonmfbpjcabRunI
import Derived.Test.YtmghkonmfbpjcabRunH
import Derived.Test.YtmghkonmfbpjcabRunC
import Derived.Test.YtmghkonmfbpjcabJC
/- run.Run, whatever it is handed. -/
namespace Go.Proofs.Ytmghkonmfbpjcab
set_option linter.unusedVariables false
set_option linter.unusedSimpArgs false
open Go.RowKit
theorem Run_any (regs : Int) (A : Option Addr) (l : List Nd) (cap : Nat) (Ai : Option Addr) (inp : List Int) (ci : Nat) (fuel : Int) (w : World) (hl : l.length ≤ maxLen) (hA : NodesAt w A l) (hI : ValsAt w Ai (ints inp)) (hic : inp.length ≤ ci ∧ ci ≤ maxLen) :
    Calls Try.prog 12 #[.agg #[.int .i64 regs, .slice A l.length cap], .slice Ai inp.length ci, .int .i64 fuel] w (RunPost 3 75 regs l inp fuel w) := by
  by_cases h0 : chk regs l = 0
  · by_cases h1 : 256 < inp.length
    · exact Run_err2 regs A l cap Ai inp ci fuel w hl hA h0 h1
    · by_cases h2 : fuel < 0
      · exact Run_err3a regs A l cap Ai inp ci fuel w hl hA h0 (by omega) h2
      · by_cases h3 : 131072 < fuel
        · exact Run_err3b regs A l cap Ai inp ci fuel w hl hA h0 (by omega) h3
        · exact Run_ok regs A l cap Ai inp ci fuel w hl hA hI hic h0 (by omega) (by omega) (by omega)
  · exact Run_err1 regs A l cap Ai inp ci fuel w hl hA h0
end Go.Proofs.Ytmghkonmfbpjcab

/- The reference's RunError and SameResults. -/
namespace Go.Proofs.Ytmghkonmfbpjcab
set_option linter.unusedVariables false
set_option linter.unusedSimpArgs false
open Go.RowKit
set_option maxHeartbeats 4000000
attribute [local irreducible] Row CRow madeCells

/-- two results are the same -/
theorem SameResults_any (r q : Rs) (O P : Option Addr) (oc pc : Nat) (C D : Option Addr) (cc dc : Nat) (w : World) (hO : ValsAt w O (ints r.out)) (hP : ValsAt w P (ints q.out)) (hC : CtsAt w C r.cts) (hD : CtsAt w D q.cts) (h1 : r.out.length ≤ maxLen) (h2 : q.out.length ≤ maxLen) (h3 : r.cts.length ≤ maxLen) (h4 : q.cts.length ≤ maxLen) :
    Calls Try.prog 14 #[.agg #[.slice O r.out.length oc, .int .i64 r.ret, .bool r.ended, .int .i64 r.steps, .slice C r.cts.length cc], .agg #[.slice P q.out.length pc, .int .i64 q.ret, .bool q.ended, .int .i64 q.steps, .slice D q.cts.length dc]] w fun e w' => e = .returned (.bool (decide (r = q))) ∧ Below w.heap.size w w' := by
  have HI := fun W (hW : Below w.heap.size w W) => hide (SameInts_any O P oc pc r.out q.out W (hO.below hW) (hP.below hW) h1 h2)
  have HC := fun W (hW : Below w.heap.size w W) => hide (SameCounts_any C D cc dc r.cts q.cts W (hC.below hW) (hD.below hW) h3 h4)
  have hs : ∀ a b : Nat, ((a : Int) == (b : Int)) = (a == b) := fun a b => by rw [Bool.eq_iff_iff]; simp; omega
  obtain ⟨ro, rr, re, rs, rc⟩ := r
  obtain ⟨qo, qr, qe, qs, qc⟩ := q
  simp only at *
  clear hO hP hC hD h1 h2 h3 h4
  have hfin : ∀ x, (rr == qr && (re == qe && ((rs : Int) == (qs : Int) && ((ro == qo) && (rc == qc))))) = x → decide ((⟨ro, rr, re, rs, rc⟩ : Rs) = ⟨qo, qr, qe, qs, qc⟩) = x := fun x hx => by
    rw [← hx, hs, Bool.eq_iff_iff]
    simp only [decide_eq_true_eq, Bool.and_eq_true, beq_iff_eq, Rs.mk.injEq]
    constructor
    · rintro ⟨h1, h2, h3, h4, h5⟩; exact ⟨h2, h3, h4, h1, h5⟩
    · rintro ⟨h2, h3, h4, h1, h5⟩; exact ⟨h1, h2, h3, h4, h5⟩
  have Hfin := hide hfin
  clear hfin hs
  cases e1 : (rr == qr)
  case false =>
    rw [Hfin.out false (by rw [e1]; rfl)]
    clear Hfin
    go_enter Try.func14, Try.ntmps14
    go_wp2_with (first | (go_at_call 35; refine ((HI _ (by repeat (first | (with_reducible exact Below.refl _ _) | (with_reducible assumption) | (with_reducible refine Below.drew ?_) | (with_reducible refine below_drewN ?_ _) | (with_reducible refine Below.alloc ?_ (by (try simp only [World.size_alloc, World.size_setCell, World.size_drew, World.heap_drewN]); (first | done | omega | ((try simp only [World.size_alloc, World.size_setCell, World.size_drew, World.heap_drewN] at *); omega))) _) | (with_reducible refine Below.setCell ?_ (by (try simp only [World.size_alloc, World.size_setCell, World.size_drew, World.heap_drewN]); (first | done | omega | ((try simp only [World.size_alloc, World.size_setCell, World.size_drew, World.heap_drewN] at *); omega))) _) | (with_reducible refine Below.trans ?_ (Below.mono (by assumption) (by (try simp only [World.size_alloc, World.size_setCell, World.size_drew, World.heap_drewN]); (first | done | omega | ((try simp only [World.size_alloc, World.size_setCell, World.size_drew, World.heap_drewN] at *); omega)))))))).out).mono ?_; rintro e w1 ⟨rfl, d1, rfl⟩) | (go_at_call 36; refine ((HC _ (by repeat (first | (with_reducible exact Below.refl _ _) | (with_reducible assumption) | (with_reducible refine Below.drew ?_) | (with_reducible refine below_drewN ?_ _) | (with_reducible refine Below.alloc ?_ (by (try simp only [World.size_alloc, World.size_setCell, World.size_drew, World.heap_drewN]); (first | done | omega | ((try simp only [World.size_alloc, World.size_setCell, World.size_drew, World.heap_drewN] at *); omega))) _) | (with_reducible refine Below.setCell ?_ (by (try simp only [World.size_alloc, World.size_setCell, World.size_drew, World.heap_drewN]); (first | done | omega | ((try simp only [World.size_alloc, World.size_setCell, World.size_drew, World.heap_drewN] at *); omega))) _) | (with_reducible refine Below.trans ?_ (Below.mono (by assumption) (by (try simp only [World.size_alloc, World.size_setCell, World.size_drew, World.heap_drewN]); (first | done | omega | ((try simp only [World.size_alloc, World.size_setCell, World.size_drew, World.heap_drewN] at *); omega)))))))).out).mono ?_; rintro e w2 ⟨rfl, d2, rfl⟩))
    go_ret
    exact ⟨rfl, (by repeat (first | (with_reducible exact Below.refl _ _) | (with_reducible assumption) | (with_reducible refine Below.drew ?_) | (with_reducible refine below_drewN ?_ _) | (with_reducible refine Below.alloc ?_ (by (try simp only [World.size_alloc, World.size_setCell, World.size_drew, World.heap_drewN]); (first | done | omega | ((try simp only [World.size_alloc, World.size_setCell, World.size_drew, World.heap_drewN] at *); omega))) _) | (with_reducible refine Below.setCell ?_ (by (try simp only [World.size_alloc, World.size_setCell, World.size_drew, World.heap_drewN]); (first | done | omega | ((try simp only [World.size_alloc, World.size_setCell, World.size_drew, World.heap_drewN] at *); omega))) _) | (with_reducible refine Below.trans ?_ (Below.mono (by assumption) (by (try simp only [World.size_alloc, World.size_setCell, World.size_drew, World.heap_drewN]); (first | done | omega | ((try simp only [World.size_alloc, World.size_setCell, World.size_drew, World.heap_drewN] at *); omega)))))))⟩
  case true =>
    cases e2 : (re == qe)
    case false =>
      rw [Hfin.out false (by rw [e1, e2]; rfl)]
      clear Hfin
      go_enter Try.func14, Try.ntmps14
      go_wp2_with (first | (go_at_call 35; refine ((HI _ (by repeat (first | (with_reducible exact Below.refl _ _) | (with_reducible assumption) | (with_reducible refine Below.drew ?_) | (with_reducible refine below_drewN ?_ _) | (with_reducible refine Below.alloc ?_ (by (try simp only [World.size_alloc, World.size_setCell, World.size_drew, World.heap_drewN]); (first | done | omega | ((try simp only [World.size_alloc, World.size_setCell, World.size_drew, World.heap_drewN] at *); omega))) _) | (with_reducible refine Below.setCell ?_ (by (try simp only [World.size_alloc, World.size_setCell, World.size_drew, World.heap_drewN]); (first | done | omega | ((try simp only [World.size_alloc, World.size_setCell, World.size_drew, World.heap_drewN] at *); omega))) _) | (with_reducible refine Below.trans ?_ (Below.mono (by assumption) (by (try simp only [World.size_alloc, World.size_setCell, World.size_drew, World.heap_drewN]); (first | done | omega | ((try simp only [World.size_alloc, World.size_setCell, World.size_drew, World.heap_drewN] at *); omega)))))))).out).mono ?_; rintro e w1 ⟨rfl, d1, rfl⟩) | (go_at_call 36; refine ((HC _ (by repeat (first | (with_reducible exact Below.refl _ _) | (with_reducible assumption) | (with_reducible refine Below.drew ?_) | (with_reducible refine below_drewN ?_ _) | (with_reducible refine Below.alloc ?_ (by (try simp only [World.size_alloc, World.size_setCell, World.size_drew, World.heap_drewN]); (first | done | omega | ((try simp only [World.size_alloc, World.size_setCell, World.size_drew, World.heap_drewN] at *); omega))) _) | (with_reducible refine Below.setCell ?_ (by (try simp only [World.size_alloc, World.size_setCell, World.size_drew, World.heap_drewN]); (first | done | omega | ((try simp only [World.size_alloc, World.size_setCell, World.size_drew, World.heap_drewN] at *); omega))) _) | (with_reducible refine Below.trans ?_ (Below.mono (by assumption) (by (try simp only [World.size_alloc, World.size_setCell, World.size_drew, World.heap_drewN]); (first | done | omega | ((try simp only [World.size_alloc, World.size_setCell, World.size_drew, World.heap_drewN] at *); omega)))))))).out).mono ?_; rintro e w2 ⟨rfl, d2, rfl⟩))
      go_ret
      exact ⟨rfl, (by repeat (first | (with_reducible exact Below.refl _ _) | (with_reducible assumption) | (with_reducible refine Below.drew ?_) | (with_reducible refine below_drewN ?_ _) | (with_reducible refine Below.alloc ?_ (by (try simp only [World.size_alloc, World.size_setCell, World.size_drew, World.heap_drewN]); (first | done | omega | ((try simp only [World.size_alloc, World.size_setCell, World.size_drew, World.heap_drewN] at *); omega))) _) | (with_reducible refine Below.setCell ?_ (by (try simp only [World.size_alloc, World.size_setCell, World.size_drew, World.heap_drewN]); (first | done | omega | ((try simp only [World.size_alloc, World.size_setCell, World.size_drew, World.heap_drewN] at *); omega))) _) | (with_reducible refine Below.trans ?_ (Below.mono (by assumption) (by (try simp only [World.size_alloc, World.size_setCell, World.size_drew, World.heap_drewN]); (first | done | omega | ((try simp only [World.size_alloc, World.size_setCell, World.size_drew, World.heap_drewN] at *); omega)))))))⟩
    case true =>
      cases e3 : ((rs : Int) == (qs : Int))
      case false =>
        rw [Hfin.out false (by rw [e1, e2, e3]; rfl)]
        clear Hfin
        go_enter Try.func14, Try.ntmps14
        go_wp2_with (first | (go_at_call 35; refine ((HI _ (by repeat (first | (with_reducible exact Below.refl _ _) | (with_reducible assumption) | (with_reducible refine Below.drew ?_) | (with_reducible refine below_drewN ?_ _) | (with_reducible refine Below.alloc ?_ (by (try simp only [World.size_alloc, World.size_setCell, World.size_drew, World.heap_drewN]); (first | done | omega | ((try simp only [World.size_alloc, World.size_setCell, World.size_drew, World.heap_drewN] at *); omega))) _) | (with_reducible refine Below.setCell ?_ (by (try simp only [World.size_alloc, World.size_setCell, World.size_drew, World.heap_drewN]); (first | done | omega | ((try simp only [World.size_alloc, World.size_setCell, World.size_drew, World.heap_drewN] at *); omega))) _) | (with_reducible refine Below.trans ?_ (Below.mono (by assumption) (by (try simp only [World.size_alloc, World.size_setCell, World.size_drew, World.heap_drewN]); (first | done | omega | ((try simp only [World.size_alloc, World.size_setCell, World.size_drew, World.heap_drewN] at *); omega)))))))).out).mono ?_; rintro e w1 ⟨rfl, d1, rfl⟩) | (go_at_call 36; refine ((HC _ (by repeat (first | (with_reducible exact Below.refl _ _) | (with_reducible assumption) | (with_reducible refine Below.drew ?_) | (with_reducible refine below_drewN ?_ _) | (with_reducible refine Below.alloc ?_ (by (try simp only [World.size_alloc, World.size_setCell, World.size_drew, World.heap_drewN]); (first | done | omega | ((try simp only [World.size_alloc, World.size_setCell, World.size_drew, World.heap_drewN] at *); omega))) _) | (with_reducible refine Below.setCell ?_ (by (try simp only [World.size_alloc, World.size_setCell, World.size_drew, World.heap_drewN]); (first | done | omega | ((try simp only [World.size_alloc, World.size_setCell, World.size_drew, World.heap_drewN] at *); omega))) _) | (with_reducible refine Below.trans ?_ (Below.mono (by assumption) (by (try simp only [World.size_alloc, World.size_setCell, World.size_drew, World.heap_drewN]); (first | done | omega | ((try simp only [World.size_alloc, World.size_setCell, World.size_drew, World.heap_drewN] at *); omega)))))))).out).mono ?_; rintro e w2 ⟨rfl, d2, rfl⟩))
        go_ret
        exact ⟨rfl, (by repeat (first | (with_reducible exact Below.refl _ _) | (with_reducible assumption) | (with_reducible refine Below.drew ?_) | (with_reducible refine below_drewN ?_ _) | (with_reducible refine Below.alloc ?_ (by (try simp only [World.size_alloc, World.size_setCell, World.size_drew, World.heap_drewN]); (first | done | omega | ((try simp only [World.size_alloc, World.size_setCell, World.size_drew, World.heap_drewN] at *); omega))) _) | (with_reducible refine Below.setCell ?_ (by (try simp only [World.size_alloc, World.size_setCell, World.size_drew, World.heap_drewN]); (first | done | omega | ((try simp only [World.size_alloc, World.size_setCell, World.size_drew, World.heap_drewN] at *); omega))) _) | (with_reducible refine Below.trans ?_ (Below.mono (by assumption) (by (try simp only [World.size_alloc, World.size_setCell, World.size_drew, World.heap_drewN]); (first | done | omega | ((try simp only [World.size_alloc, World.size_setCell, World.size_drew, World.heap_drewN] at *); omega)))))))⟩
      case true =>
        cases e4 : (ro == qo)
        case false =>
          rw [e4] at HI
          rw [Hfin.out false (by rw [e1, e2, e3, e4]; rfl)]
          clear Hfin
          go_enter Try.func14, Try.ntmps14
          go_wp2_with (first | (go_at_call 35; refine ((HI _ (by repeat (first | (with_reducible exact Below.refl _ _) | (with_reducible assumption) | (with_reducible refine Below.drew ?_) | (with_reducible refine below_drewN ?_ _) | (with_reducible refine Below.alloc ?_ (by (try simp only [World.size_alloc, World.size_setCell, World.size_drew, World.heap_drewN]); (first | done | omega | ((try simp only [World.size_alloc, World.size_setCell, World.size_drew, World.heap_drewN] at *); omega))) _) | (with_reducible refine Below.setCell ?_ (by (try simp only [World.size_alloc, World.size_setCell, World.size_drew, World.heap_drewN]); (first | done | omega | ((try simp only [World.size_alloc, World.size_setCell, World.size_drew, World.heap_drewN] at *); omega))) _) | (with_reducible refine Below.trans ?_ (Below.mono (by assumption) (by (try simp only [World.size_alloc, World.size_setCell, World.size_drew, World.heap_drewN]); (first | done | omega | ((try simp only [World.size_alloc, World.size_setCell, World.size_drew, World.heap_drewN] at *); omega)))))))).out).mono ?_; rintro e w1 ⟨rfl, d1, rfl⟩) | (go_at_call 36; refine ((HC _ (by repeat (first | (with_reducible exact Below.refl _ _) | (with_reducible assumption) | (with_reducible refine Below.drew ?_) | (with_reducible refine below_drewN ?_ _) | (with_reducible refine Below.alloc ?_ (by (try simp only [World.size_alloc, World.size_setCell, World.size_drew, World.heap_drewN]); (first | done | omega | ((try simp only [World.size_alloc, World.size_setCell, World.size_drew, World.heap_drewN] at *); omega))) _) | (with_reducible refine Below.setCell ?_ (by (try simp only [World.size_alloc, World.size_setCell, World.size_drew, World.heap_drewN]); (first | done | omega | ((try simp only [World.size_alloc, World.size_setCell, World.size_drew, World.heap_drewN] at *); omega))) _) | (with_reducible refine Below.trans ?_ (Below.mono (by assumption) (by (try simp only [World.size_alloc, World.size_setCell, World.size_drew, World.heap_drewN]); (first | done | omega | ((try simp only [World.size_alloc, World.size_setCell, World.size_drew, World.heap_drewN] at *); omega)))))))).out).mono ?_; rintro e w2 ⟨rfl, d2, rfl⟩))
          go_ret
          exact ⟨rfl, (by repeat (first | (with_reducible exact Below.refl _ _) | (with_reducible assumption) | (with_reducible refine Below.drew ?_) | (with_reducible refine below_drewN ?_ _) | (with_reducible refine Below.alloc ?_ (by (try simp only [World.size_alloc, World.size_setCell, World.size_drew, World.heap_drewN]); (first | done | omega | ((try simp only [World.size_alloc, World.size_setCell, World.size_drew, World.heap_drewN] at *); omega))) _) | (with_reducible refine Below.setCell ?_ (by (try simp only [World.size_alloc, World.size_setCell, World.size_drew, World.heap_drewN]); (first | done | omega | ((try simp only [World.size_alloc, World.size_setCell, World.size_drew, World.heap_drewN] at *); omega))) _) | (with_reducible refine Below.trans ?_ (Below.mono (by assumption) (by (try simp only [World.size_alloc, World.size_setCell, World.size_drew, World.heap_drewN]); (first | done | omega | ((try simp only [World.size_alloc, World.size_setCell, World.size_drew, World.heap_drewN] at *); omega)))))))⟩
        case true =>
          rw [e4] at HI
          cases e5 : (rc == qc)
          case false =>
            rw [e5] at HC
            rw [Hfin.out false (by rw [e1, e2, e3, e4, e5]; rfl)]
            clear Hfin
            go_enter Try.func14, Try.ntmps14
            go_wp2_with (first | (go_at_call 35; refine ((HI _ (by repeat (first | (with_reducible exact Below.refl _ _) | (with_reducible assumption) | (with_reducible refine Below.drew ?_) | (with_reducible refine below_drewN ?_ _) | (with_reducible refine Below.alloc ?_ (by (try simp only [World.size_alloc, World.size_setCell, World.size_drew, World.heap_drewN]); (first | done | omega | ((try simp only [World.size_alloc, World.size_setCell, World.size_drew, World.heap_drewN] at *); omega))) _) | (with_reducible refine Below.setCell ?_ (by (try simp only [World.size_alloc, World.size_setCell, World.size_drew, World.heap_drewN]); (first | done | omega | ((try simp only [World.size_alloc, World.size_setCell, World.size_drew, World.heap_drewN] at *); omega))) _) | (with_reducible refine Below.trans ?_ (Below.mono (by assumption) (by (try simp only [World.size_alloc, World.size_setCell, World.size_drew, World.heap_drewN]); (first | done | omega | ((try simp only [World.size_alloc, World.size_setCell, World.size_drew, World.heap_drewN] at *); omega)))))))).out).mono ?_; rintro e w1 ⟨rfl, d1, rfl⟩) | (go_at_call 36; refine ((HC _ (by repeat (first | (with_reducible exact Below.refl _ _) | (with_reducible assumption) | (with_reducible refine Below.drew ?_) | (with_reducible refine below_drewN ?_ _) | (with_reducible refine Below.alloc ?_ (by (try simp only [World.size_alloc, World.size_setCell, World.size_drew, World.heap_drewN]); (first | done | omega | ((try simp only [World.size_alloc, World.size_setCell, World.size_drew, World.heap_drewN] at *); omega))) _) | (with_reducible refine Below.setCell ?_ (by (try simp only [World.size_alloc, World.size_setCell, World.size_drew, World.heap_drewN]); (first | done | omega | ((try simp only [World.size_alloc, World.size_setCell, World.size_drew, World.heap_drewN] at *); omega))) _) | (with_reducible refine Below.trans ?_ (Below.mono (by assumption) (by (try simp only [World.size_alloc, World.size_setCell, World.size_drew, World.heap_drewN]); (first | done | omega | ((try simp only [World.size_alloc, World.size_setCell, World.size_drew, World.heap_drewN] at *); omega)))))))).out).mono ?_; rintro e w2 ⟨rfl, d2, rfl⟩))
            go_ret
            exact ⟨rfl, (by repeat (first | (with_reducible exact Below.refl _ _) | (with_reducible assumption) | (with_reducible refine Below.drew ?_) | (with_reducible refine below_drewN ?_ _) | (with_reducible refine Below.alloc ?_ (by (try simp only [World.size_alloc, World.size_setCell, World.size_drew, World.heap_drewN]); (first | done | omega | ((try simp only [World.size_alloc, World.size_setCell, World.size_drew, World.heap_drewN] at *); omega))) _) | (with_reducible refine Below.setCell ?_ (by (try simp only [World.size_alloc, World.size_setCell, World.size_drew, World.heap_drewN]); (first | done | omega | ((try simp only [World.size_alloc, World.size_setCell, World.size_drew, World.heap_drewN] at *); omega))) _) | (with_reducible refine Below.trans ?_ (Below.mono (by assumption) (by (try simp only [World.size_alloc, World.size_setCell, World.size_drew, World.heap_drewN]); (first | done | omega | ((try simp only [World.size_alloc, World.size_setCell, World.size_drew, World.heap_drewN] at *); omega)))))))⟩
          case true =>
            rw [e5] at HC
            rw [Hfin.out true (by rw [e1, e2, e3, e4, e5]; rfl)]
            clear Hfin
            go_enter Try.func14, Try.ntmps14
            go_wp2_with (first | (go_at_call 35; refine ((HI _ (by repeat (first | (with_reducible exact Below.refl _ _) | (with_reducible assumption) | (with_reducible refine Below.drew ?_) | (with_reducible refine below_drewN ?_ _) | (with_reducible refine Below.alloc ?_ (by (try simp only [World.size_alloc, World.size_setCell, World.size_drew, World.heap_drewN]); (first | done | omega | ((try simp only [World.size_alloc, World.size_setCell, World.size_drew, World.heap_drewN] at *); omega))) _) | (with_reducible refine Below.setCell ?_ (by (try simp only [World.size_alloc, World.size_setCell, World.size_drew, World.heap_drewN]); (first | done | omega | ((try simp only [World.size_alloc, World.size_setCell, World.size_drew, World.heap_drewN] at *); omega))) _) | (with_reducible refine Below.trans ?_ (Below.mono (by assumption) (by (try simp only [World.size_alloc, World.size_setCell, World.size_drew, World.heap_drewN]); (first | done | omega | ((try simp only [World.size_alloc, World.size_setCell, World.size_drew, World.heap_drewN] at *); omega)))))))).out).mono ?_; rintro e w1 ⟨rfl, d1, rfl⟩) | (go_at_call 36; refine ((HC _ (by repeat (first | (with_reducible exact Below.refl _ _) | (with_reducible assumption) | (with_reducible refine Below.drew ?_) | (with_reducible refine below_drewN ?_ _) | (with_reducible refine Below.alloc ?_ (by (try simp only [World.size_alloc, World.size_setCell, World.size_drew, World.heap_drewN]); (first | done | omega | ((try simp only [World.size_alloc, World.size_setCell, World.size_drew, World.heap_drewN] at *); omega))) _) | (with_reducible refine Below.setCell ?_ (by (try simp only [World.size_alloc, World.size_setCell, World.size_drew, World.heap_drewN]); (first | done | omega | ((try simp only [World.size_alloc, World.size_setCell, World.size_drew, World.heap_drewN] at *); omega))) _) | (with_reducible refine Below.trans ?_ (Below.mono (by assumption) (by (try simp only [World.size_alloc, World.size_setCell, World.size_drew, World.heap_drewN]); (first | done | omega | ((try simp only [World.size_alloc, World.size_setCell, World.size_drew, World.heap_drewN] at *); omega)))))))).out).mono ?_; rintro e w2 ⟨rfl, d2, rfl⟩))
            go_ret
            exact ⟨rfl, (by repeat (first | (with_reducible exact Below.refl _ _) | (with_reducible assumption) | (with_reducible refine Below.drew ?_) | (with_reducible refine below_drewN ?_ _) | (with_reducible refine Below.alloc ?_ (by (try simp only [World.size_alloc, World.size_setCell, World.size_drew, World.heap_drewN]); (first | done | omega | ((try simp only [World.size_alloc, World.size_setCell, World.size_drew, World.heap_drewN] at *); omega))) _) | (with_reducible refine Below.setCell ?_ (by (try simp only [World.size_alloc, World.size_setCell, World.size_drew, World.heap_drewN]); (first | done | omega | ((try simp only [World.size_alloc, World.size_setCell, World.size_drew, World.heap_drewN] at *); omega))) _) | (with_reducible refine Below.trans ?_ (Below.mono (by assumption) (by (try simp only [World.size_alloc, World.size_setCell, World.size_drew, World.heap_drewN]); (first | done | omega | ((try simp only [World.size_alloc, World.size_setCell, World.size_drew, World.heap_drewN] at *); omega)))))))⟩
end Go.Proofs.Ytmghkonmfbpjcab

/- A result whose rows are the call's own. -/
namespace Go.Proofs.Ytmghkonmfbpjcab
set_option linter.unusedVariables false
set_option linter.unusedSimpArgs false
open Go.RowKit
set_option maxHeartbeats 4000000

/-- a result whose rows are the call's own -/
structure ResRow (tI tC : TypeId) (B : Nat) (W : World) (O : Option Addr) (oc : Nat) (C : Option Addr) (cc : Nat) (r : Rs) : Prop where
  out : Row W B tI (.slice O r.out.length oc) (ints r.out)
  cts : CRow W B tC (.slice C r.cts.length cc) r.cts
section
variable {tI tC : TypeId} {B : Nat} {W W' : World} {O : Option Addr} {oc : Nat} {C : Option Addr} {cc : Nat} {r : Rs}
theorem ResAt.rows {v : Value} (h : ResAt tI tC B W v r) : ∃ O oc C cc, v = .agg #[.slice O r.out.length oc, .int .i64 r.ret, .bool r.ended, .int .i64 r.steps, .slice C r.cts.length cc] ∧ ResRow tI tC B W O oc C cc r := by
  obtain ⟨ov, cv, rfl, hO, hC⟩ := h
  obtain ⟨O, oc, hov, h1, h2⟩ := hO.shape
  obtain ⟨C, cc, hcv, h3, h4⟩ := hC.shape
  rw [ints_length] at hov
  subst hov hcv
  exact ⟨O, oc, C, cc, rfl, hO, hC⟩
theorem ResRow.below (h : ResRow tI tC B W O oc C cc r) (hb : Below W.heap.size W W') : ResRow tI tC B W' O oc C cc r := ⟨h.out.below' hb, h.cts.below' hb⟩
theorem ResRow.far (h : ResRow tI tC B W O oc C cc r) {g : Nat} (h1 : (Value.slice O r.out.length oc).ownBlock ≠ some g) (h2 : (Value.slice C r.cts.length cc).ownBlock ≠ some g) (i : Nat) (u : Value) : ResRow tI tC B (W.setCell ⟨g, i, none⟩ u) O oc C cc r :=
  ⟨h.out.far (p := ⟨g, i, none⟩) h1 u, h.cts.far (p := ⟨g, i, none⟩) h2 u⟩
theorem ResRow.ne (h : ResRow tI tC B W O oc C cc r) {g : Nat} (hg : g < B ∨ W.heap.size ≤ g) : (Value.slice O r.out.length oc).ownBlock ≠ some g ∧ (Value.slice C r.cts.length cc).ownBlock ≠ some g :=
  ⟨fun e => by have := h.out.lt _ e; omega, fun e => by have := h.cts.lt _ e; omega⟩
theorem ResRow.lens (h : ResRow tI tC B W O oc C cc r) : r.out.length ≤ maxLen ∧ r.cts.length ≤ maxLen := by
  obtain ⟨_, _, e, h1, h2⟩ := h.out.shape
  obtain ⟨_, _, e', h3, h4⟩ := h.cts.shape
  rw [ints_length] at h1
  exact ⟨by omega, by omega⟩
theorem ResRow.same (h : ResRow tI tC B W O oc C cc r) {O' C' : Option Addr} {oc' cc' B' : Nat} (h' : ResRow tI tC B' W O' oc' C' cc' r) :
    Calls Try.prog 14 #[.agg #[.slice O r.out.length oc, .int .i64 r.ret, .bool r.ended, .int .i64 r.steps, .slice C r.cts.length cc], .agg #[.slice O' r.out.length oc', .int .i64 r.ret, .bool r.ended, .int .i64 r.steps, .slice C' r.cts.length cc']] W fun e w' => e = .returned (.bool true) ∧ Below W.heap.size W w' := by
  obtain ⟨l1, l2⟩ := h.lens
  have hS := SameResults_any r r O O' oc oc' C C' cc cc' W h.out.vals h'.out.vals h.cts.nodes h'.cts.nodes l1 l1 l2 l2
  simpa using hS
end
end Go.Proofs.Ytmghkonmfbpjcab

/- A run's result in a box of the law's own; few. -/
namespace Go.Proofs.Ytmghkonmfbpjcab
set_option linter.unusedVariables false
set_option linter.unusedSimpArgs false
open Go.RowKit
set_option maxHeartbeats 4000000
attribute [local irreducible] Row CRow madeCells

/-- at most so many numbers that come in -/
def fewL (inp : List Int) : List Int := inp.take 256
theorem fewL_len (inp : List Int) : (fewL inp).length ≤ 256 := by simp [fewL]; omega
theorem ValsAt.few {w : World} {A : Option Addr} {inp : List Int} (h : ValsAt w A (ints inp)) : ValsAt w A (ints (fewL inp)) := fun hne => by
  have h0 : ints inp ≠ [] := by
    intro e
    apply hne
    have : inp = [] := by simpa [ints] using e
    simp [this, fewL, ints]
  obtain ⟨b, o, e, hb, hc⟩ := h h0
  refine ⟨b, o, e, hb, fun i v hi => hc i v ?_⟩
  rw [ints_get] at hi ⊢
  unfold fewL at hi
  rw [List.getElem?_take] at hi
  split at hi
  · exact hi
  · simp at hi
theorem few_any (Ai : Option Addr) (inp : List Int) (ci : Nat) (w : World) (hic : inp.length ≤ ci ∧ ci ≤ maxLen) :
    Calls Try.prog 13 #[.slice Ai inp.length ci] w fun e w' => e = .returned (.slice Ai (fewL inp).length ci) ∧ w' = w := by
  obtain ⟨h1, h2⟩ := hic
  have hlen : (fewL inp).length = if 256 < inp.length then 256 else inp.length := by
    unfold fewL
    rw [List.length_take]
    split <;> omega
  rw [hlen]
  generalize inp.length = n at *
  clear hlen
  by_cases h : 256 < n
  · rw [if_pos h]
    have k0 : (256 : Int) < (n : Int) := by omega
    have k1 : (256 : Int) ≤ (ci : Int) := by omega
    unfold maxLen at h2
    go_enter Try.func13, Try.ntmps13
    go_wp2_with fail
    go_ret
    exact ⟨rfl, rfl⟩
  · rw [if_neg h]
    have k0 : ¬ (256 : Int) < (n : Int) := by omega
    go_enter Try.func13, Try.ntmps13
    go_wp2_with fail
    go_ret
    exact ⟨rfl, rfl⟩

theorem ResRow.mono_ {tI tC : TypeId} {B B' : Nat} {W : World} {O : Option Addr} {oc : Nat} {C : Option Addr} {cc : Nat} {r : Rs} (h : ResRow tI tC B W O oc C cc r) (hb : B' ≤ B) : ResRow tI tC B' W O oc C cc r := ⟨h.out.mono hb, h.cts.mono hb⟩
theorem set5_cell {V : World} {a b : Nat} (h : ¬ (a = b)) (o : Nat) (u0 u1 u2 u3 u4 : Value) : (((((V.setCell ⟨b, 0, none⟩ u0).setCell ⟨b, 1, none⟩ u1).setCell ⟨b, 2, none⟩ u2).setCell ⟨b, 3, none⟩ u3).setCell ⟨b, 4, none⟩ u4).cell? ⟨a, o, none⟩ = V.cell? ⟨a, o, none⟩ := by
  have hne : ∀ k : Nat, (⟨a, o, none⟩ : Addr) ≠ ⟨b, k, none⟩ := fun k e => h (by injection e)
  simp [World.cell?_setCell_other, h]
/-- a result in a box, both younger than a world -/
structure ResSt (tI tC tR : TypeId) (w : World) (b : Nat) (O : Option Addr) (oc : Nat) (C : Option Addr) (cc : Nat) (R : Rs) (W : World) : Prop where
  box : Blk W b tR #[.slice O R.out.length oc, .int .i64 R.ret, .bool R.ended, .int .i64 R.steps, .slice C R.cts.length cc]
  row : ResRow tI tC w.heap.size W O oc C cc R
  below : Below w.heap.size w W
  young : w.heap.size ≤ b
theorem ResSt.later {tI tC tR : TypeId} {w : World} {b : Nat} {O : Option Addr} {oc : Nat} {C : Option Addr} {cc : Nat} {R : Rs} {W W' : World} (h : ResSt tI tC tR w b O oc C cc R W) (hb : Below W.heap.size W W') : ResSt tI tC tR w b O oc C cc R W' :=
  ⟨h.box.below hb h.box.lt, h.row.below hb, h.below.trans (hb.mono h.below.size), h.young⟩
theorem ResSt.mk5 {tI tC tR : TypeId} {w : World} {b : Nat} {O : Option Addr} {oc : Nat} {C : Option Addr} {cc : Nat} {R : Rs} {V : World} {z0 z1 z2 z3 z4 : Value}
    (hQ : Blk V b tR #[z0, z1, z2, z3, z4]) (r : ResRow tI tC w.heap.size V O oc C cc R)
    (n : (Value.slice O R.out.length oc).ownBlock ≠ some b ∧ (Value.slice C R.cts.length cc).ownBlock ≠ some b) (hB : Below w.heap.size w V) (hwb : w.heap.size ≤ b) :
    ResSt tI tC tR w b O oc C cc R (((((V.setCell ⟨b, 0, none⟩ (.slice O R.out.length oc)).setCell ⟨b, 1, none⟩ (.int .i64 R.ret)).setCell ⟨b, 2, none⟩ (.bool R.ended)).setCell ⟨b, 3, none⟩ (.int .i64 R.steps)).setCell ⟨b, 4, none⟩ (.slice C R.cts.length cc)) :=
  ⟨((((hQ.set_ 0 _).set_ 1 _).set_ 2 _).set_ 3 _).set_ 4 _,
   ((((r.far n.1 n.2 0 _).far n.1 n.2 1 _).far n.1 n.2 2 _).far n.1 n.2 3 _).far n.1 n.2 4 _,
   ((((hB.setCell hwb _).setCell hwb _).setCell hwb _).setCell hwb _).setCell hwb _, hwb⟩
/-- what a run with a right program and so much fuel leaves -/
def RunGot (tI tC : TypeId) (R : Rs) (w : World) (e : Ending) (w' : World) : Prop :=
  Below w.heap.size w w' ∧ ∃ O oc C cc, e = .returned (.tuple #[.agg #[.slice O R.out.length oc, .int .i64 R.ret, .bool R.ended, .int .i64 R.steps, .slice C R.cts.length cc], .int .i64 0]) ∧ ResRow tI tC w.heap.size w' O oc C cc R
theorem Run_got {regs : Int} {A : Option Addr} {l : List Nd} {cap : Nat} {Ai : Option Addr} {inp : List Int} {ci : Nat} {n : Nat} {w : World} (hl : l.length ≤ maxLen) (hA : NodesAt w A l) (hI : ValsAt w Ai (ints inp)) (hic : inp.length ≤ ci ∧ ci ≤ maxLen)
    (hc : chk regs l = 0) (h2 : inp.length ≤ 256) (h3 : n ≤ 131072) :
    Calls Try.prog 12 #[.agg #[.int .i64 regs, .slice A l.length cap], .slice Ai inp.length ci, .int .i64 (n : Int)] w (RunGot 3 75 (runR regs l inp n).told w) := by
  have h := Run_any regs A l cap Ai inp ci (n : Int) w hl hA hI hic
  have hE : runE regs l inp (n : Int) = 0 := by unfold runE; rw [if_pos hc, if_neg (by omega), if_neg (by omega)]
  have hS : runS regs l inp (n : Int) = (runR regs l inp n).told := by unfold runS; rw [if_pos hE]; rfl
  refine h.mono ?_
  rintro e w' ⟨hb, v, rfl, hr⟩
  rw [hE, hS] at *
  obtain ⟨O, oc, C, cc, rfl, hO⟩ := hr.rows
  exact ⟨hb, O, oc, C, cc, rfl, hO⟩
end Go.Proofs.Ytmghkonmfbpjcab
