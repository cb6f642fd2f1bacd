/- flow.says: what is asked of a node; with the closure and the generic function that it hands on. -/
import Derived.Test.YtmghkonmfbpjcaaYes
import Derived.Test.YtmghkonmfbpjcaaCheck2
namespace Go.Proofs.Ytmghkonmfbpjcaa
set_option linter.unusedVariables false
set_option linter.unusedSimpArgs false
open Go.RowKit
set_option maxHeartbeats 2000000

/-- what the closure in says asks of one node -/
def askOne (plus lt x : List Bool) (m : Nat) : Bool := yn plus m || yn lt m && yn x m

theorem says1_any (bk em : Bool) (G P Q T X : Option Addr) (g p q t xn gc pc qc tc xc : Nat) (plus lt x : List Bool) (f h : Nat) (m : Nat) (w : World)
    (hQ : ValsAt w Q (bools plus)) (hT : ValsAt w T (bools lt)) (hX : ValsAt w X (bools x)) (hq : plus.length = q) (ht : lt.length = t) (hx : x.length = xn)
    (hF : Blk w f 27 #[.bool bk, .bool em, .slice G g gc, .slice P p pc, .slice Q q qc, .slice T t tc]) (hH : Blk w h 25 #[.slice X xn xc])
    (m1 : m < q) (m2 : m < t) (m3 : m < xn) (hbig : q ≤ 65536 ∧ t ≤ 65536 ∧ xn ≤ 65536) :
    Calls Try.prog 97 #[.int .i64 m, .pointer (some ⟨f, 0, none⟩), .pointer (some ⟨h, 0, none⟩)] w fun e w' => e = .returned (.bool (askOne plus lt x m)) ∧ w = w' := by
  obtain ⟨b1, b2, b3⟩ := hbig
  obtain ⟨qb, qo, rfl, _, cq⟩ := hQ.bool (k := m) (by omega)
  obtain ⟨tb, to_, rfl, _, ct⟩ := hT.bool (k := m) (by omega)
  obtain ⟨xb, xo, rfl, _, cx⟩ := hX.bool (k := m) (by omega)
  have f4 := hF.cell 4
  have f5 := hF.cell 5
  have h0 := hH.cell 0
  simp only [List.getElem?_toArray, List.getElem?_cons_zero, List.getElem?_cons_succ] at f4 f5 h0
  clear hF hH hQ hT hX hq ht hx
  unfold askOne
  cases h1 : yn plus m <;> cases h2 : yn lt m <;> cases h3 : yn x m <;> rw [h1] at cq <;> rw [h2] at ct <;> rw [h3] at cx <;> go_enter Try.func97, Try.ntmps97 <;> go_wp2
  all_goals go_tidy
  all_goals go_ret
  all_goals exact ⟨rfl, rfl⟩

theorem all_take_succ {α : Type} (p : α → Bool) (l : List α) (k : Nat) (x : α) (h : l[k]? = some x) : (l.take (k + 1)).all p = ((l.take k).all p && p x) := by
  rw [List.take_add_one, h]; simp
theorem all_of_take {α : Type} (p : α → Bool) (l : List α) (k : Nat) (x : α) (h : l[k]? = some x) (hp : p x = false) : l.all p = false :=
  List.all_eq_false.2 ⟨x, List.mem_of_getElem? h, by simp [hp]⟩
theorem all_take_all {α : Type} (p : α → Bool) (l : List α) (k : Nat) (h : ¬ k < l.length) : (l.take k).all p = l.all p := by
  rw [List.take_of_length_le (by omega)]

theorem all_any (bk em : Bool) (G P Q T X R : Option Addr) (g p q t xn gc pc qc tc xc rc : Nat) (plus lt x : List Bool) (f h : Nat) (rs : List Int) (w : World)
    (hQ : ValsAt w Q (bools plus)) (hT : ValsAt w T (bools lt)) (hX : ValsAt w X (bools x)) (hq : plus.length = q) (ht : lt.length = t) (hx : x.length = xn)
    (hF : Blk w f 27 #[.bool bk, .bool em, .slice G g gc, .slice P p pc, .slice Q q qc, .slice T t tc]) (hH : Blk w h 25 #[.slice X xn xc])
    (hR : ValsAt w R (ints rs)) (hrs : ∀ r ∈ rs, 0 ≤ r ∧ r < q ∧ r < t ∧ r < xn) (hbig : q ≤ 65536 ∧ t ≤ 65536 ∧ xn ≤ 65536) (hrl : rs.length ≤ 65536) :
    Calls Try.prog 96 #[.slice R rs.length rc, .func (.func 97) #[] #[.pointer (some ⟨f, 0, none⟩), .pointer (some ⟨h, 0, none⟩)]] w
      fun e w' => e = .returned (.bool (rs.all fun r => askOne plus lt x r.toNat)) ∧ w = w' := by
  have hone := fun (m : Nat) (m1 : m < q) (m2 : m < t) (m3 : m < xn) => says1_any bk em G P Q T X g p q t xn gc pc qc tc xc plus lt x f h m w hQ hT hX hq ht hx hF hH m1 m2 m3 hbig
  have Hone := hide hone
  clear hone hQ hT hX hq ht hx hF hH hbig
  go_enter Try.func96, Try.ntmps96
  go_wp2
  go_loop [9] (fun i => ∃ k : Nat, k ≤ rs.length ∧ i = .int .i64 k ∧ (rs.take k).all (fun r => askOne plus lt x r.toNat) = true) (fun i => rs.length - (intOf i).toNat)
  case atStart => exact ⟨0, Nat.zero_le _, rfl, by simp⟩
  case round =>
    obtain ⟨k, hk, rfl, hno⟩ := hrel
    have Hno := hide hno
    clear hno
    by_cases hlt : k < rs.length
    · obtain ⟨b, off, v, rfl, hbl, hkn, hn⟩ := hR.get (k := k) (by rw [ints_length]; exact hlt)
      rw [ints_get] at hkn
      obtain ⟨r, hr, rfl⟩ : ∃ r, rs[k]? = some r ∧ .int .i64 r = v := by simpa using hkn
      have hrr := hrs r (List.mem_of_getElem? hr)
      obtain ⟨m, rfl⟩ := Int.eq_ofNat_of_zero_le hrr.1
      have Hr := hide hr
      clear hkn hr
      have hp := Hone.out m (by omega) (by omega) (by omega)
      have Hp := hide hp
      clear hp
      cases ho : askOne plus lt x m
      · rw [ho] at Hp
        go_wp2_with (go_at_call 97; refine (Hp.out).mono ?_; rintro e w1 ⟨rfl, rfl⟩)
        go_ret
        exact ⟨by rw [all_of_take _ rs k m Hr.out (by simpa using ho)]; rfl, rfl⟩
      · rw [ho] at Hp
        go_wp2_with (go_at_call 97; refine (Hp.out).mono ?_; rintro e w1 ⟨rfl, rfl⟩)
        go_round
        case rel => exact ⟨k + 1, by omega, by go_num, by rw [all_take_succ _ rs k m Hr.out, Hno.out]; simpa using ho⟩
        case measure => simp [intOf]; omega
    · go_wp2
      go_ret
      exact ⟨by rw [← all_take_all _ rs k hlt, Hno.out]; rfl, rfl⟩

/-- what says answers -/
def saysB (em : Bool) (gen pass plus lt x : List Bool) (rs : List Int) (n : Nat) : Bool :=
  if yn gen n then true else if yn pass n then (if rs.length = 0 then em else rs.all fun r => askOne plus lt x r.toNat) else false

theorem says_any (bk em : Bool) (G P Q T X R GB : Option Addr) (g p q t xn gc pc qc tc xc rc gb gbc : Nat) (gen pass plus lt x : List Bool) (rs : List Int) (GA nn n : Nat) (w : World)
    (hG : ValsAt w G (bools gen)) (hP : ValsAt w P (bools pass)) (hQ : ValsAt w Q (bools plus)) (hT : ValsAt w T (bools lt)) (hX : ValsAt w X (bools x))
    (hg : gen.length = g) (hp : pass.length = p) (hq : plus.length = q) (ht : lt.length = t) (hx : x.length = xn)
    (hA : w.cell? ⟨GA, n, none⟩ = some (.slice R rs.length rc)) (hAl : GA < w.heap.size) (hn1 : n < nn) (hn2 : n < g) (hn3 : n < p)
    (hR : ValsAt w R (ints rs)) (hrs : ∀ r ∈ rs, 0 ≤ r ∧ r < q ∧ r < t ∧ r < xn) (hbig : q ≤ 65536 ∧ t ≤ 65536 ∧ xn ≤ 65536) (hbig2 : g ≤ 65536 ∧ p ≤ 65536 ∧ nn ≤ 65536) (hrl : rs.length ≤ 65536) :
    Calls Try.prog 52 #[.agg #[.slice (some ⟨GA, 0, none⟩) nn nn, .slice GB gb gbc], .agg #[.bool bk, .bool em, .slice G g gc, .slice P p pc, .slice Q q qc, .slice T t tc], .slice X xn xc, .int .i64 n] w
      fun e w' => e = .returned (.bool (saysB em gen pass plus lt x rs n)) ∧ Below w.heap.size w w' := by
  obtain ⟨b1, b2, b3⟩ := hbig
  obtain ⟨b4, b5, b6⟩ := hbig2
  obtain ⟨gb_, go_, rfl, hgl, cg⟩ := hG.bool (k := n) (by omega)
  obtain ⟨pb_, po_, rfl, hpl, cp⟩ := hP.bool (k := n) (by omega)
  have Hg := hide hg
  have Hp := hide hp
  have Hq := hide hq
  have Ht := hide ht
  have Hx := hide hx
  clear hg hp hq ht hx
  have g1 := Nat.lt_succ_of_lt hgl
  have g2 := Nat.lt_succ_of_lt g1
  have p1 := Nat.lt_succ_of_lt hpl
  have p2 := Nat.lt_succ_of_lt p1
  have a1 := Nat.lt_succ_of_lt hAl
  have a2 := Nat.lt_succ_of_lt a1
  simp only [Nat.succ_eq_add_one] at g1 g2 p1 p2 a1 a2
  unfold saysB
  cases h1 : yn gen n
  case true =>
    rw [h1] at cg
    go_enter Try.func52, Try.ntmps52
    go_wp2
    go_ret
    exact ⟨rfl, (by repeat (first | (with_reducible exact Below.refl _ _) | (with_reducible assumption) | (with_reducible refine Below.drew ?_) | (with_reducible refine below_drewN ?_ _) | (with_reducible refine Below.alloc ?_ (by (try simp only [World.size_alloc, World.size_setCell, World.size_drew, World.heap_drewN]); (first | done | omega | ((try simp only [World.size_alloc, World.size_setCell, World.size_drew, World.heap_drewN] at *); omega))) _) | (with_reducible refine Below.setCell ?_ (by (try simp only [World.size_alloc, World.size_setCell, World.size_drew, World.heap_drewN]); (first | done | omega | ((try simp only [World.size_alloc, World.size_setCell, World.size_drew, World.heap_drewN] at *); omega))) _) | (with_reducible refine Below.trans ?_ (Below.mono (by assumption) (by (try simp only [World.size_alloc, World.size_setCell, World.size_drew, World.heap_drewN]); (first | done | omega | ((try simp only [World.size_alloc, World.size_setCell, World.size_drew, World.heap_drewN] at *); omega)))))))⟩
  case false =>
    rw [h1] at cg
    cases h2 : yn pass n
    case false =>
      rw [h2] at cp
      go_enter Try.func52, Try.ntmps52
      go_wp2
      go_ret
      exact ⟨rfl, (by repeat (first | (with_reducible exact Below.refl _ _) | (with_reducible assumption) | (with_reducible refine Below.drew ?_) | (with_reducible refine below_drewN ?_ _) | (with_reducible refine Below.alloc ?_ (by (try simp only [World.size_alloc, World.size_setCell, World.size_drew, World.heap_drewN]); (first | done | omega | ((try simp only [World.size_alloc, World.size_setCell, World.size_drew, World.heap_drewN] at *); omega))) _) | (with_reducible refine Below.setCell ?_ (by (try simp only [World.size_alloc, World.size_setCell, World.size_drew, World.heap_drewN]); (first | done | omega | ((try simp only [World.size_alloc, World.size_setCell, World.size_drew, World.heap_drewN] at *); omega))) _) | (with_reducible refine Below.trans ?_ (Below.mono (by assumption) (by (try simp only [World.size_alloc, World.size_setCell, World.size_drew, World.heap_drewN]); (first | done | omega | ((try simp only [World.size_alloc, World.size_setCell, World.size_drew, World.heap_drewN] at *); omega)))))))⟩
    case true =>
      rw [h2] at cp
      by_cases h3 : rs.length = 0
      · have h3' : rs = [] := List.eq_nil_of_length_eq_zero h3
        subst h3'
        clear h3
        simp only [List.length_nil] at hA
        go_enter Try.func52, Try.ntmps52
        go_wp2
        go_ret
        exact ⟨rfl, (by repeat (first | (with_reducible exact Below.refl _ _) | (with_reducible assumption) | (with_reducible refine Below.drew ?_) | (with_reducible refine below_drewN ?_ _) | (with_reducible refine Below.alloc ?_ (by (try simp only [World.size_alloc, World.size_setCell, World.size_drew, World.heap_drewN]); (first | done | omega | ((try simp only [World.size_alloc, World.size_setCell, World.size_drew, World.heap_drewN] at *); omega))) _) | (with_reducible refine Below.setCell ?_ (by (try simp only [World.size_alloc, World.size_setCell, World.size_drew, World.heap_drewN]); (first | done | omega | ((try simp only [World.size_alloc, World.size_setCell, World.size_drew, World.heap_drewN] at *); omega))) _) | (with_reducible refine Below.trans ?_ (Below.mono (by assumption) (by (try simp only [World.size_alloc, World.size_setCell, World.size_drew, World.heap_drewN]); (first | done | omega | ((try simp only [World.size_alloc, World.size_setCell, World.size_drew, World.heap_drewN] at *); omega)))))))⟩
      · have h3' : ((rs.length : Int) == 0) = false := beq_eq_false_iff_ne.2 (by omega)
        rw [if_neg h3]
        clear h3
        go_enter Try.func52, Try.ntmps52
        go_wp2_with (go_at_call 96; refine (all_any bk em _ _ Q T X R g p q t xn gc pc qc tc xc rc plus lt x (w.heap.size + 1) (w.heap.size + 2) rs _ (hQ.below (by repeat (first | (with_reducible exact Below.refl _ _) | (with_reducible assumption) | (with_reducible refine Below.drew ?_) | (with_reducible refine below_drewN ?_ _) | (with_reducible refine Below.alloc ?_ (by (try simp only [World.size_alloc, World.size_setCell, World.size_drew, World.heap_drewN]); (first | done | omega | ((try simp only [World.size_alloc, World.size_setCell, World.size_drew, World.heap_drewN] at *); omega))) _) | (with_reducible refine Below.setCell ?_ (by (try simp only [World.size_alloc, World.size_setCell, World.size_drew, World.heap_drewN]); (first | done | omega | ((try simp only [World.size_alloc, World.size_setCell, World.size_drew, World.heap_drewN] at *); omega))) _) | (with_reducible refine Below.trans ?_ (Below.mono (by assumption) (by (try simp only [World.size_alloc, World.size_setCell, World.size_drew, World.heap_drewN]); (first | done | omega | ((try simp only [World.size_alloc, World.size_setCell, World.size_drew, World.heap_drewN] at *); omega)))))))) (hT.below (by repeat (first | (with_reducible exact Below.refl _ _) | (with_reducible assumption) | (with_reducible refine Below.drew ?_) | (with_reducible refine below_drewN ?_ _) | (with_reducible refine Below.alloc ?_ (by (try simp only [World.size_alloc, World.size_setCell, World.size_drew, World.heap_drewN]); (first | done | omega | ((try simp only [World.size_alloc, World.size_setCell, World.size_drew, World.heap_drewN] at *); omega))) _) | (with_reducible refine Below.setCell ?_ (by (try simp only [World.size_alloc, World.size_setCell, World.size_drew, World.heap_drewN]); (first | done | omega | ((try simp only [World.size_alloc, World.size_setCell, World.size_drew, World.heap_drewN] at *); omega))) _) | (with_reducible refine Below.trans ?_ (Below.mono (by assumption) (by (try simp only [World.size_alloc, World.size_setCell, World.size_drew, World.heap_drewN]); (first | done | omega | ((try simp only [World.size_alloc, World.size_setCell, World.size_drew, World.heap_drewN] at *); omega)))))))) (hX.below (by repeat (first | (with_reducible exact Below.refl _ _) | (with_reducible assumption) | (with_reducible refine Below.drew ?_) | (with_reducible refine below_drewN ?_ _) | (with_reducible refine Below.alloc ?_ (by (try simp only [World.size_alloc, World.size_setCell, World.size_drew, World.heap_drewN]); (first | done | omega | ((try simp only [World.size_alloc, World.size_setCell, World.size_drew, World.heap_drewN] at *); omega))) _) | (with_reducible refine Below.setCell ?_ (by (try simp only [World.size_alloc, World.size_setCell, World.size_drew, World.heap_drewN]); (first | done | omega | ((try simp only [World.size_alloc, World.size_setCell, World.size_drew, World.heap_drewN] at *); omega))) _) | (with_reducible refine Below.trans ?_ (Below.mono (by assumption) (by (try simp only [World.size_alloc, World.size_setCell, World.size_drew, World.heap_drewN]); (first | done | omega | ((try simp only [World.size_alloc, World.size_setCell, World.size_drew, World.heap_drewN] at *); omega)))))))) Hq.out Ht.out Hx.out (by repeat (first | ((with_reducible refine Blk.new' ?_); exact (by (try simp only [World.size_alloc, World.size_setCell, World.size_drew, World.heap_drewN]); (first | done | omega | ((try simp only [World.size_alloc, World.size_setCell, World.size_drew, World.heap_drewN] at *); omega)))) | (with_reducible refine Blk.drew ?_) | (with_reducible refine Blk.drewN ?_ _) | (with_reducible refine Blk.alloc ?_ _) | with_reducible assumption)) (by repeat (first | ((with_reducible refine Blk.new' ?_); exact (by (try simp only [World.size_alloc, World.size_setCell, World.size_drew, World.heap_drewN]); (first | done | omega | ((try simp only [World.size_alloc, World.size_setCell, World.size_drew, World.heap_drewN] at *); omega)))) | (with_reducible refine Blk.drew ?_) | (with_reducible refine Blk.drewN ?_ _) | (with_reducible refine Blk.alloc ?_ _) | with_reducible assumption)) (hR.below (by repeat (first | (with_reducible exact Below.refl _ _) | (with_reducible assumption) | (with_reducible refine Below.drew ?_) | (with_reducible refine below_drewN ?_ _) | (with_reducible refine Below.alloc ?_ (by (try simp only [World.size_alloc, World.size_setCell, World.size_drew, World.heap_drewN]); (first | done | omega | ((try simp only [World.size_alloc, World.size_setCell, World.size_drew, World.heap_drewN] at *); omega))) _) | (with_reducible refine Below.setCell ?_ (by (try simp only [World.size_alloc, World.size_setCell, World.size_drew, World.heap_drewN]); (first | done | omega | ((try simp only [World.size_alloc, World.size_setCell, World.size_drew, World.heap_drewN] at *); omega))) _) | (with_reducible refine Below.trans ?_ (Below.mono (by assumption) (by (try simp only [World.size_alloc, World.size_setCell, World.size_drew, World.heap_drewN]); (first | done | omega | ((try simp only [World.size_alloc, World.size_setCell, World.size_drew, World.heap_drewN] at *); omega)))))))) hrs ⟨b1, b2, b3⟩ hrl).mono ?_; rintro e w' ⟨rfl, rfl⟩)
        go_ret
        exact ⟨rfl, (by repeat (first | (with_reducible exact Below.refl _ _) | (with_reducible assumption) | (with_reducible refine Below.drew ?_) | (with_reducible refine below_drewN ?_ _) | (with_reducible refine Below.alloc ?_ (by (try simp only [World.size_alloc, World.size_setCell, World.size_drew, World.heap_drewN]); (first | done | omega | ((try simp only [World.size_alloc, World.size_setCell, World.size_drew, World.heap_drewN] at *); omega))) _) | (with_reducible refine Below.setCell ?_ (by (try simp only [World.size_alloc, World.size_setCell, World.size_drew, World.heap_drewN]); (first | done | omega | ((try simp only [World.size_alloc, World.size_setCell, World.size_drew, World.heap_drewN] at *); omega))) _) | (with_reducible refine Below.trans ?_ (Below.mono (by assumption) (by (try simp only [World.size_alloc, World.size_setCell, World.size_drew, World.heap_drewN]); (first | done | omega | ((try simp only [World.size_alloc, World.size_setCell, World.size_drew, World.heap_drewN] at *); omega)))))))⟩
end Go.Proofs.Ytmghkonmfbpjcaa
