/- The reference's says. -/
import Derived.Test.YtmghkonmfbpjcaaRefG
import Derived.Test.YtmghkonmfbpjcaaFlowS
import Derived.Deep.QuietTactic
import Derived.BigQuiet
import Derived.Deep.CutRange
import Derived.Deep.DeepCutAuto
namespace Go.Proofs.Ytmghkonmfbpjcaa
set_option linter.unusedVariables false
set_option linter.unusedSimpArgs false
open Go.RowKit
set_option maxHeartbeats 2000000

def edgesOf (bk : Bool) (l : List Nd) (n : Nat) : List Int := sel (if bk then nextP l n else aheadP l n) l.length

def allB (em : Bool) (plus lt x : List Bool) (rs : List Int) (k : Nat) : Bool := (decide (0 < rs.length) || em) && (rs.take k).all fun r => askOne plus lt x r.toNat
theorem allB_succ_false {em : Bool} {plus lt x : List Bool} {rs : List Int} {k : Nat} (h : allB em plus lt x rs k = false) : allB em plus lt x rs (k + 1) = false := by
  unfold allB at *
  rw [List.take_add_one, List.all_append, ← Bool.and_assoc, h, Bool.false_and]
theorem allB_succ_true {em : Bool} {plus lt x : List Bool} {rs : List Int} {k : Nat} {r : Int} {b : Bool} (h : allB em plus lt x rs k = true) (hr : rs[k]? = some r) (hb : askOne plus lt x r.toNat = b) : allB em plus lt x rs (k + 1) = b := by
  unfold allB at *
  rw [List.take_add_one, List.all_append, ← Bool.and_assoc, h, hr]
  simpa using hb
theorem saysB_allB (em : Bool) (gen pass plus lt x : List Bool) (rs : List Int) (n : Nat) : (yn gen n || yn pass n && allB em plus lt x rs rs.length) = saysB em gen pass plus lt x rs n := by
  unfold saysB allB
  rw [List.take_length]
  cases yn gen n <;> cases yn pass n <;> simp
  by_cases h : rs.length = 0
  · have : rs = [] := List.eq_nil_of_length_eq_zero h
    subst this
    simp
  · have h0 : 0 < rs.length := by omega
    have : rs ≠ [] := fun e => h (by simp [e])
    simp [this, h0]

set_option maxRecDepth 100000 in
theorem rsays_loop (regs : Int) (A : Option Addr) (l : List Nd) (cap : Nat) (bk em : Bool) (G P Q T X : Option Addr) (g p q t xn gc pc qc tc xc : Nat) (gen pass plus lt x : List Bool) (n : Nat) (w : World)
    (hA : NodesAt w A l) (hl : 1 ≤ l.length ∧ l.length ≤ 256) (hn : n < l.length)
    (hG : ValsAt w G (bools gen)) (hP : ValsAt w P (bools pass)) (hQ : ValsAt w Q (bools plus)) (hT : ValsAt w T (bools lt)) (hX : ValsAt w X (bools x))
    (hg : gen.length = g) (hp : pass.length = p) (hq : plus.length = q) (ht : lt.length = t) (hx : x.length = xn)
    (eg : g = l.length) (ep : p = l.length) (eq_ : q = l.length) (et : t = l.length) (ex : xn = l.length) :
    Calls Try.prog 53 #[.agg #[.int .i64 regs, .slice A l.length cap], .agg #[.bool bk, .bool em, .slice G g gc, .slice P p pc, .slice Q q qc, .slice T t tc], .slice X xn xc, .int .i64 n] w
      fun e w' => e = .returned (.bool (saysB em gen pass plus lt x (edgesOf bk l n) n)) ∧ Below w.heap.size w w' := by
  obtain ⟨hl1, hl2⟩ := hl
  subst hg hp hq ht hx
  obtain ⟨gb_, go_, rfl, hgl, cg⟩ := hG.bool (k := n) (by omega)
  obtain ⟨pb_, po_, rfl, hpl, cp⟩ := hP.bool (k := n) (by omega)
  have Hd := hide (And.intro eg (And.intro ep (And.intro eq_ (And.intro et ex))))
  have i1 : n < gen.length := by omega
  have i2 : n < pass.length := by omega
  have i3 : gen.length ≤ 256 := by omega
  have i4 : pass.length ≤ 256 := by omega
  clear eg ep eq_ et ex
  rw [← saysB_allB]
  have hsel : ∀ r ∈ edgesOf bk l n, 0 ≤ r ∧ r < l.length := fun r hr => by
    obtain ⟨i, h1, _, rfl⟩ := mem_sel.1 hr
    omega
  have hlen : (edgesOf bk l n).length ≤ 256 := Nat.le_trans (sel_len _ _) hl2
  have hcA : ∀ W, Below w.heap.size w W → Calls Try.prog 37 #[.agg #[.int .i64 regs, .slice A l.length cap], .int .i64 n] W (RowPost W.heap.size 3 (ints (edgesOf false l n)) W) :=
    fun W hW => AheadOf_any regs A l cap W n hn hl2 (hA.below hW)
  have hcN : ∀ W, Below w.heap.size w W → Calls Try.prog 36 #[.agg #[.int .i64 regs, .slice A l.length cap], .int .i64 n] W (RowPost W.heap.size 3 (ints (edgesOf true l n)) W) :=
    fun W hW => NextOf_any regs A l cap W n hn hl2 (hA.below hW)
  have g1 := Nat.lt_succ_of_lt hgl
  have p1 := Nat.lt_succ_of_lt hpl
  simp only [Nat.succ_eq_add_one] at g1 p1
  cases bk
  case false =>
    generalize edgesOf false l n = rs at *
    have HcA := hide hcA
    clear hcA hcN
    go_enter Try.func53, Try.ntmps53
    go_upto_region 4 with (go_at_call 37; refine (HcA.out _ (by repeat (first | (with_reducible exact Below.refl _ _) | (with_reducible assumption) | (with_reducible refine Below.drew ?_) | (with_reducible refine below_drewN ?_ _) | (with_reducible refine Below.alloc ?_ (by (try simp only [World.size_alloc, World.size_setCell, World.size_drew, World.heap_drewN]); (first | done | omega | ((try simp only [World.size_alloc, World.size_setCell, World.size_drew, World.heap_drewN] at *); omega))) _) | (with_reducible refine Below.setCell ?_ (by (try simp only [World.size_alloc, World.size_setCell, World.size_drew, World.heap_drewN]); (first | done | omega | ((try simp only [World.size_alloc, World.size_setCell, World.size_drew, World.heap_drewN] at *); omega))) _) | (with_reducible refine Below.trans ?_ (Below.mono (by assumption) (by (try simp only [World.size_alloc, World.size_setCell, World.size_drew, World.heap_drewN]); (first | done | omega | ((try simp only [World.size_alloc, World.size_setCell, World.size_drew, World.heap_drewN] at *); omega)))))))).mono ?_; rintro e w1 ⟨v1, rfl, hr1, hb1⟩; obtain ⟨R1, rc1, rfl, _, _⟩ := hr1.shape; rw [ints_length] at *; have hz1 := hb1.size; simp only [World.size_alloc] at hz1; have hF : Blk w1 (w.heap.size + 1) 27 _ := Blk.below (Blk.new' (by simp)) hb1 (by simp); have f0 := hF.cell 0; simp only [List.getElem?_toArray, List.getElem?_cons_zero, List.getElem?_cons_succ] at f0; have hB1 : Below w.heap.size w w1 := (by repeat (first | (with_reducible exact Below.refl _ _) | (with_reducible assumption) | (with_reducible refine Below.drew ?_) | (with_reducible refine below_drewN ?_ _) | (with_reducible refine Below.alloc ?_ (by (try simp only [World.size_alloc, World.size_setCell, World.size_drew, World.heap_drewN]); (first | done | omega | ((try simp only [World.size_alloc, World.size_setCell, World.size_drew, World.heap_drewN] at *); omega))) _) | (with_reducible refine Below.setCell ?_ (by (try simp only [World.size_alloc, World.size_setCell, World.size_drew, World.heap_drewN]); (first | done | omega | ((try simp only [World.size_alloc, World.size_setCell, World.size_drew, World.heap_drewN] at *); omega))) _) | (with_reducible refine Below.trans ?_ (Below.mono (by assumption) (by (try simp only [World.size_alloc, World.size_setCell, World.size_drew, World.heap_drewN]); (first | done | omega | ((try simp only [World.size_alloc, World.size_setCell, World.size_drew, World.heap_drewN] at *); omega))))))); clear hb1)
    have f1 := hF.cell 1
    have f2 := hF.cell 2
    have f3 := hF.cell 3
    have f4 := hF.cell 4
    have f5 := hF.cell 5
    simp only [List.getElem?_toArray, List.getElem?_cons_zero, List.getElem?_cons_succ] at f1 f2 f3 f4 f5
    have hFl := hF.lt
    go_cut [10] (fun s10 wx => s10 = .bool (allB em plus lt x rs 0) ∧ wx = w1)
    case first =>
      clear hr1
      cases hd : decide (0 < rs.length)
      all_goals (go_wp2_with fail)
      all_goals go_meet
      all_goals go_tidy
      all_goals simp_all [allB]
    case rest =>
      obtain ⟨rfl, rfl⟩ := hcut
      obtain ⟨w2, rfl⟩ : ∃ w2 : World, w2 = wc := ⟨_, rfl⟩
      go_wp2_with fail
      go_loopw [10, 11] (fun a i wr => ∃ k : Nat, k ≤ rs.length ∧ i = .int .i64 k ∧ (∃ d, wr = w2.drewN d) ∧ a = .bool (allB em plus lt x rs k)) (fun _ i _ => rs.length - (intOf i).toNat)
      case atStart => exact ⟨0, Nat.zero_le _, rfl, ⟨0, rfl⟩, rfl⟩
      case round =>
        obtain ⟨k, hk, rfl, hwr, rfl⟩ := hrel
        obtain ⟨d, rfl⟩ := hwr
        by_cases hlt : k < rs.length
        · obtain ⟨rb, ro, v, rfl, hrb, hkn, hcr⟩ := hr1.vals.get (k := k) (by rw [ints_length]; exact hlt)
          rw [ints_get] at hkn
          obtain ⟨r, hr, rfl⟩ : ∃ r, rs[k]? = some r ∧ .int .i64 r = v := by simpa using hkn
          have hrr := hsel r (List.mem_of_getElem? hr)
          obtain ⟨m, rfl⟩ := Int.eq_ofNat_of_zero_le hrr.1
          obtain ⟨e1, e2, e3, e4, e5⟩ := Hd.out
          obtain ⟨qb, qo, rfl, hql, cq⟩ := hQ.bool (k := m) (by omega)
          obtain ⟨tb, to_, rfl, htl, ct⟩ := hT.bool (k := m) (by omega)
          obtain ⟨xb, xo, rfl, hxl, cx⟩ := hX.bool (k := m) (by omega)
          have cq' := ((bcell hB1).1 _ _ hql).trans cq
          have ct' := ((bcell hB1).1 _ _ htl).trans ct
          have cx' := ((bcell hB1).1 _ _ hxl).trans cx
          have m0 : (0 : Int) ≤ (m : Int) := by omega
          have m1 : (m : Int) < (plus.length : Int) := by omega
          have m2 : (m : Int) < (lt.length : Int) := by omega
          have m3 : (m : Int) < (x.length : Int) := by omega
          have n1 : m < plus.length := by omega
          have n2 : m < lt.length := by omega
          have n3 : m < x.length := by omega
          have k0 : (0 : Int) ≤ (k : Int) := by omega
          have k1 : (k : Int) < (rs.length : Int) := by omega
          have Hr := hide hr
          clear e1 e2 e3 e4 e5 cq ct cx hkn hr hrr hr1 hF
          cases ha : allB em plus lt x rs k
          case false =>
            have ha' := allB_succ_false ha
            have Ha := hide ha'
            clear ha ha'
            go_upto_region 8 with fail
            go_quiet (fail)
            go_wp2_with fail
            go_roundw
            case rel => exact ⟨k + 1, by omega, by go_num, ⟨_, rfl⟩, by rw [Ha.out]⟩
            case measure => simp [intOf]; omega
          case true =>
            cases h1 : yn plus m
            case true =>
              rw [h1] at cq'
              have hn' : allB em plus lt x rs (k + 1) = true := allB_succ_true ha Hr.out (by simp [askOne, h1])
              have Ha := hide hn'
              clear hn' ha h1
              go_upto_region 8 with fail
              go_quiet (fail)
              go_wp2_with fail
              go_roundw
              case rel => exact ⟨k + 1, by omega, by go_num, ⟨_, rfl⟩, by rw [Ha.out]⟩
              case measure => simp [intOf]; omega
            case false =>
              rw [h1] at cq'
              cases h2 : yn lt m
              case false =>
                rw [h2] at ct'
                have hn' : allB em plus lt x rs (k + 1) = false := allB_succ_true ha Hr.out (by simp [askOne, h1, h2])
                have Ha := hide hn'
                clear hn' ha h1 h2
                go_upto_region 8 with fail
                go_quiet (fail)
                go_wp2_with fail
                go_roundw
                case rel => exact ⟨k + 1, by omega, by go_num, ⟨_, rfl⟩, by rw [Ha.out]⟩
                case measure => simp [intOf]; omega
              case true =>
                rw [h2] at ct'
                have hn' : allB em plus lt x rs (k + 1) = yn x m := allB_succ_true ha Hr.out (by simp [askOne, h1, h2])
                have Ha := hide hn'
                clear hn' ha h1 h2
                go_upto_region 8 with fail
                go_quiet (fail)
                go_wp2_with fail
                go_roundw
                case rel => exact ⟨k + 1, by omega, by go_num, ⟨_, rfl⟩, by rw [Ha.out]⟩
                case measure => simp [intOf]; omega
        · have hkk : k = rs.length := by omega
          have Hkk := hide hkk
          clear hkk
          have cg' := ((bcell hB1).1 _ _ hgl).trans cg
          have cp' := ((bcell hB1).1 _ _ hpl).trans cp
          go_wp2_with fail
          all_goals go_tidy
          all_goals go_ret
          all_goals refine ⟨?_, (by repeat (first | (with_reducible exact Below.refl _ _) | (with_reducible assumption) | (with_reducible refine Below.drew ?_) | (with_reducible refine below_drewN ?_ _) | (with_reducible refine Below.alloc ?_ (by (try simp only [World.size_alloc, World.size_setCell, World.size_drew, World.heap_drewN]); (first | done | omega | ((try simp only [World.size_alloc, World.size_setCell, World.size_drew, World.heap_drewN] at *); omega))) _) | (with_reducible refine Below.setCell ?_ (by (try simp only [World.size_alloc, World.size_setCell, World.size_drew, World.heap_drewN]); (first | done | omega | ((try simp only [World.size_alloc, World.size_setCell, World.size_drew, World.heap_drewN] at *); omega))) _) | (with_reducible refine Below.trans ?_ (Below.mono (by assumption) (by (try simp only [World.size_alloc, World.size_setCell, World.size_drew, World.heap_drewN]); (first | done | omega | ((try simp only [World.size_alloc, World.size_setCell, World.size_drew, World.heap_drewN] at *); omega)))))))⟩
          all_goals rw [← Hkk.out]
          all_goals simp_all
  case true =>
    have hcA' : ∀ W, Below w.heap.size w W → Calls Try.prog 37 #[.agg #[.int .i64 regs, .slice A l.length cap], .int .i64 n] W (RowPost W.heap.size 3 (ints (edgesOf false l n)) W) := hcA
    generalize edgesOf true l n = rs at *
    generalize edgesOf false l n = ra at *
    have HcA := hide hcA
    have HcN := hide hcN
    clear hcA hcN hcA'
    go_enter Try.func53, Try.ntmps53
    go_upto_region 4 with (first
      | (go_at_call 37; refine (HcA.out _ (by repeat (first | (with_reducible exact Below.refl _ _) | (with_reducible assumption) | (with_reducible refine Below.drew ?_) | (with_reducible refine below_drewN ?_ _) | (with_reducible refine Below.alloc ?_ (by (try simp only [World.size_alloc, World.size_setCell, World.size_drew, World.heap_drewN]); (first | done | omega | ((try simp only [World.size_alloc, World.size_setCell, World.size_drew, World.heap_drewN] at *); omega))) _) | (with_reducible refine Below.setCell ?_ (by (try simp only [World.size_alloc, World.size_setCell, World.size_drew, World.heap_drewN]); (first | done | omega | ((try simp only [World.size_alloc, World.size_setCell, World.size_drew, World.heap_drewN] at *); omega))) _) | (with_reducible refine Below.trans ?_ (Below.mono (by assumption) (by (try simp only [World.size_alloc, World.size_setCell, World.size_drew, World.heap_drewN]); (first | done | omega | ((try simp only [World.size_alloc, World.size_setCell, World.size_drew, World.heap_drewN] at *); omega)))))))).mono ?_; rintro e w0 ⟨v1, rfl, hr1, hb1⟩; have hz0 := hb1.size; simp only [World.size_alloc] at hz0; have hP0 : Blk w0 w.heap.size 24 #[.int .i64 regs, .slice A l.length cap] := Blk.below (Blk.alloc (Blk.new' rfl) _) hb1 (by (try simp only [World.size_alloc, World.size_setCell, World.size_drew, World.heap_drewN]); (first | done | omega | ((try simp only [World.size_alloc, World.size_setCell, World.size_drew, World.heap_drewN] at *); omega))); have hF0 : Blk w0 (w.heap.size + 1) 27 _ := Blk.below (Blk.new' (by simp)) hb1 (by simp); have f0 := hF0.cell 0; have p0 := hP0.cell 0; have p1' := hP0.cell 1; simp only [List.getElem?_toArray, List.getElem?_cons_zero, List.getElem?_cons_succ] at f0 p0 p1'; have hB0 : Below w.heap.size w w0 := (by repeat (first | (with_reducible exact Below.refl _ _) | (with_reducible assumption) | (with_reducible refine Below.drew ?_) | (with_reducible refine below_drewN ?_ _) | (with_reducible refine Below.alloc ?_ (by (try simp only [World.size_alloc, World.size_setCell, World.size_drew, World.heap_drewN]); (first | done | omega | ((try simp only [World.size_alloc, World.size_setCell, World.size_drew, World.heap_drewN] at *); omega))) _) | (with_reducible refine Below.setCell ?_ (by (try simp only [World.size_alloc, World.size_setCell, World.size_drew, World.heap_drewN]); (first | done | omega | ((try simp only [World.size_alloc, World.size_setCell, World.size_drew, World.heap_drewN] at *); omega))) _) | (with_reducible refine Below.trans ?_ (Below.mono (by assumption) (by (try simp only [World.size_alloc, World.size_setCell, World.size_drew, World.heap_drewN]); (first | done | omega | ((try simp only [World.size_alloc, World.size_setCell, World.size_drew, World.heap_drewN] at *); omega))))))); clear hb1 hr1)
      | (go_at_call 36; refine (HcN.out _ hB0).mono ?_; rintro e w1 ⟨v1, rfl, hr1, hb1⟩; obtain ⟨R1, rc1, rfl, _, _⟩ := hr1.shape; rw [ints_length] at *; have hz1 := hb1.size; have hF : Blk w1 (w.heap.size + 1) 27 _ := Blk.below hF0 hb1 hF0.lt; have hB1 : Below w.heap.size w w1 := (by repeat (first | (with_reducible exact Below.refl _ _) | (with_reducible assumption) | (with_reducible refine Below.drew ?_) | (with_reducible refine below_drewN ?_ _) | (with_reducible refine Below.alloc ?_ (by (try simp only [World.size_alloc, World.size_setCell, World.size_drew, World.heap_drewN]); (first | done | omega | ((try simp only [World.size_alloc, World.size_setCell, World.size_drew, World.heap_drewN] at *); omega))) _) | (with_reducible refine Below.setCell ?_ (by (try simp only [World.size_alloc, World.size_setCell, World.size_drew, World.heap_drewN]); (first | done | omega | ((try simp only [World.size_alloc, World.size_setCell, World.size_drew, World.heap_drewN] at *); omega))) _) | (with_reducible refine Below.trans ?_ (Below.mono (by assumption) (by (try simp only [World.size_alloc, World.size_setCell, World.size_drew, World.heap_drewN]); (first | done | omega | ((try simp only [World.size_alloc, World.size_setCell, World.size_drew, World.heap_drewN] at *); omega))))))); clear hb1 p0 p1' f0))
    have f1 := hF.cell 1
    have f2 := hF.cell 2
    have f3 := hF.cell 3
    have f4 := hF.cell 4
    have f5 := hF.cell 5
    simp only [List.getElem?_toArray, List.getElem?_cons_zero, List.getElem?_cons_succ] at f1 f2 f3 f4 f5
    have hFl := hF.lt
    go_cut [10] (fun s10 wx => s10 = .bool (allB em plus lt x rs 0) ∧ wx = w1)
    case first =>
      clear hr1
      cases hd : decide (0 < rs.length)
      all_goals (go_wp2_with fail)
      all_goals go_meet
      all_goals go_tidy
      all_goals simp_all [allB]
    case rest =>
      obtain ⟨rfl, rfl⟩ := hcut
      obtain ⟨w2, rfl⟩ : ∃ w2 : World, w2 = wc := ⟨_, rfl⟩
      go_wp2_with fail
      go_loopw [10, 11] (fun a i wr => ∃ k : Nat, k ≤ rs.length ∧ i = .int .i64 k ∧ (∃ d, wr = w2.drewN d) ∧ a = .bool (allB em plus lt x rs k)) (fun _ i _ => rs.length - (intOf i).toNat)
      case atStart => exact ⟨0, Nat.zero_le _, rfl, ⟨0, rfl⟩, rfl⟩
      case round =>
        obtain ⟨k, hk, rfl, hwr, rfl⟩ := hrel
        obtain ⟨d, rfl⟩ := hwr
        by_cases hlt : k < rs.length
        · obtain ⟨rb, ro, v, rfl, hrb, hkn, hcr⟩ := hr1.vals.get (k := k) (by rw [ints_length]; exact hlt)
          rw [ints_get] at hkn
          obtain ⟨r, hr, rfl⟩ : ∃ r, rs[k]? = some r ∧ .int .i64 r = v := by simpa using hkn
          have hrr := hsel r (List.mem_of_getElem? hr)
          obtain ⟨m, rfl⟩ := Int.eq_ofNat_of_zero_le hrr.1
          obtain ⟨e1, e2, e3, e4, e5⟩ := Hd.out
          obtain ⟨qb, qo, rfl, hql, cq⟩ := hQ.bool (k := m) (by omega)
          obtain ⟨tb, to_, rfl, htl, ct⟩ := hT.bool (k := m) (by omega)
          obtain ⟨xb, xo, rfl, hxl, cx⟩ := hX.bool (k := m) (by omega)
          have cq' := ((bcell hB1).1 _ _ hql).trans cq
          have ct' := ((bcell hB1).1 _ _ htl).trans ct
          have cx' := ((bcell hB1).1 _ _ hxl).trans cx
          have m0 : (0 : Int) ≤ (m : Int) := by omega
          have m1 : (m : Int) < (plus.length : Int) := by omega
          have m2 : (m : Int) < (lt.length : Int) := by omega
          have m3 : (m : Int) < (x.length : Int) := by omega
          have n1 : m < plus.length := by omega
          have n2 : m < lt.length := by omega
          have n3 : m < x.length := by omega
          have k0 : (0 : Int) ≤ (k : Int) := by omega
          have k1 : (k : Int) < (rs.length : Int) := by omega
          have Hr := hide hr
          clear e1 e2 e3 e4 e5 cq ct cx hkn hr hrr hr1 hF
          cases ha : allB em plus lt x rs k
          case false =>
            have ha' := allB_succ_false ha
            have Ha := hide ha'
            clear ha ha'
            go_upto_region 8 with fail
            go_quiet (fail)
            go_wp2_with fail
            go_roundw
            case rel => exact ⟨k + 1, by omega, by go_num, ⟨_, rfl⟩, by rw [Ha.out]⟩
            case measure => simp [intOf]; omega
          case true =>
            cases h1 : yn plus m
            case true =>
              rw [h1] at cq'
              have hn' : allB em plus lt x rs (k + 1) = true := allB_succ_true ha Hr.out (by simp [askOne, h1])
              have Ha := hide hn'
              clear hn' ha h1
              go_upto_region 8 with fail
              go_quiet (fail)
              go_wp2_with fail
              go_roundw
              case rel => exact ⟨k + 1, by omega, by go_num, ⟨_, rfl⟩, by rw [Ha.out]⟩
              case measure => simp [intOf]; omega
            case false =>
              rw [h1] at cq'
              cases h2 : yn lt m
              case false =>
                rw [h2] at ct'
                have hn' : allB em plus lt x rs (k + 1) = false := allB_succ_true ha Hr.out (by simp [askOne, h1, h2])
                have Ha := hide hn'
                clear hn' ha h1 h2
                go_upto_region 8 with fail
                go_quiet (fail)
                go_wp2_with fail
                go_roundw
                case rel => exact ⟨k + 1, by omega, by go_num, ⟨_, rfl⟩, by rw [Ha.out]⟩
                case measure => simp [intOf]; omega
              case true =>
                rw [h2] at ct'
                have hn' : allB em plus lt x rs (k + 1) = yn x m := allB_succ_true ha Hr.out (by simp [askOne, h1, h2])
                have Ha := hide hn'
                clear hn' ha h1 h2
                go_upto_region 8 with fail
                go_quiet (fail)
                go_wp2_with fail
                go_roundw
                case rel => exact ⟨k + 1, by omega, by go_num, ⟨_, rfl⟩, by rw [Ha.out]⟩
                case measure => simp [intOf]; omega
        · have hkk : k = rs.length := by omega
          have Hkk := hide hkk
          clear hkk
          have cg' := ((bcell hB1).1 _ _ hgl).trans cg
          have cp' := ((bcell hB1).1 _ _ hpl).trans cp
          go_wp2_with fail
          all_goals go_tidy
          all_goals go_ret
          all_goals refine ⟨?_, (by repeat (first | (with_reducible exact Below.refl _ _) | (with_reducible assumption) | (with_reducible refine Below.drew ?_) | (with_reducible refine below_drewN ?_ _) | (with_reducible refine Below.alloc ?_ (by (try simp only [World.size_alloc, World.size_setCell, World.size_drew, World.heap_drewN]); (first | done | omega | ((try simp only [World.size_alloc, World.size_setCell, World.size_drew, World.heap_drewN] at *); omega))) _) | (with_reducible refine Below.setCell ?_ (by (try simp only [World.size_alloc, World.size_setCell, World.size_drew, World.heap_drewN]); (first | done | omega | ((try simp only [World.size_alloc, World.size_setCell, World.size_drew, World.heap_drewN] at *); omega))) _) | (with_reducible refine Below.trans ?_ (Below.mono (by assumption) (by (try simp only [World.size_alloc, World.size_setCell, World.size_drew, World.heap_drewN]); (first | done | omega | ((try simp only [World.size_alloc, World.size_setCell, World.size_drew, World.heap_drewN] at *); omega)))))))⟩
          all_goals rw [← Hkk.out]
          all_goals simp_all
end Go.Proofs.Ytmghkonmfbpjcaa
