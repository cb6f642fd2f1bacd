/- The functions that facts.Of hands on: what each says of a node. -/
import Derived.Test.YtmghkonmfbpjcaaEach
import Derived.Test.YtmghkonmfbpjcaaFactQ
namespace Go.Proofs.Ytmghkonmfbpjcaa
set_option linter.unusedVariables false
set_option linter.unusedSimpArgs false
open Go.RowKit
set_option maxHeartbeats 2000000
attribute [local irreducible] Row madeCells

def tmA (t : Tm) : Array Value := #[.int .i64 t.op, .int .i64 t.a, .int .i64 t.b]
theorem of1_says (regs : Int) (A : Option Addr) (l : List Nd) (cap P T : Nat) (t : Tm) (w : World) (hP : Blk w P 24 #[.int .i64 regs, .slice A l.length cap]) (hT : Blk w T 47 (tmA t)) (hA : NodesAt w A l) {k : Nat} (hk : k < l.length) :
    SaysAt Try.prog 65 #[.pointer (some ⟨P, 0, none⟩), .pointer (some ⟨T, 0, none⟩)] w k (recB t (nd l k)) := by
  intro W hW
  obtain ⟨b, off, n, rfl, hb, hn, hl⟩ := (hA.below hW).get hk
  rw [nd_get hn]
  obtain ⟨c0, c1, c2, c3, c4, c5⟩ := hl
  have hP' := hP.below hW hP.lt
  have hT' := hT.below hW hT.lt
  have p1 := hP'.cell 1
  have t0 := hT'.cell 0
  have t1 := hT'.cell 1
  have t2 := hT'.cell 2
  have lp := hP'.lt
  have lt := hT'.lt
  simp only [tmA, List.getElem?_toArray, List.getElem?_cons_zero, List.getElem?_cons_succ] at p1 t0 t1 t2
  have u0 : (0 : Int) ≤ (k : Int) := by omega
  have u1 : (k : Int) < (l.length : Int) := by omega
  clear hP hT hP' hT' hA hn hW
  show Calls Try.prog 65 #[.int .i64 k, .pointer (some ⟨P, 0, none⟩), .pointer (some ⟨T, 0, none⟩)] W _
  unfold recB
  cases h1 : (n.op == t.op)
  · go_enter Try.func65, Try.ntmps65
    go_wp2_with fail
    go_quiet (fail)
    go_wp2_with fail
    go_ret
    exact ⟨rfl, below_drewN (Below.refl _ _) _⟩
  · cases h2 : (n.a == t.a)
    · go_enter Try.func65, Try.ntmps65
      go_wp2_with fail
      go_quiet (fail)
      go_wp2_with fail
      go_ret
      exact ⟨rfl, below_drewN (Below.refl _ _) _⟩
    · go_enter Try.func65, Try.ntmps65
      go_wp2_with fail
      go_quiet (fail)
      go_wp2_with fail
      go_ret
      exact ⟨by simp, below_drewN (Below.refl _ _) _⟩
theorem of2_says (regs : Int) (A : Option Addr) (l : List Nd) (cap P T : Nat) (t : Tm) (w : World) (hP : Blk w P 24 #[.int .i64 regs, .slice A l.length cap]) (hT : Blk w T 47 (tmA t)) (hA : NodesAt w A l) {k : Nat} (hk : k < l.length) :
    SaysAt Try.prog 66 #[.pointer (some ⟨P, 0, none⟩), .pointer (some ⟨T, 0, none⟩)] w k (keepB t (nd l k)) := by
  intro W hW
  obtain ⟨b, off, n, rfl, hb, hn, hl⟩ := (hA.below hW).get hk
  rw [nd_get hn]
  obtain ⟨c0, c1, c2, c3, c4, c5⟩ := hl
  have hP' := hP.below hW hP.lt
  have hT' := hT.below hW hT.lt
  have p1 := hP'.cell 1
  have t0 := hT'.cell 0
  have t1 := hT'.cell 1
  have t2 := hT'.cell 2
  have lp := hP'.lt
  have lt := hT'.lt
  simp only [tmA, List.getElem?_toArray, List.getElem?_cons_zero, List.getElem?_cons_succ] at p1 t0 t1 t2
  have u0 : (0 : Int) ≤ (k : Int) := by omega
  have u1 : (k : Int) < (l.length : Int) := by omega
  have hd : hasD n.op = !(decide (n.op < 1) || decide (9 < n.op)) := by
    unfold hasD inB
    rw [Bool.eq_iff_iff]
    simp <;> omega
  have Hd := hide hd
  clear hP hT hP' hT' hA hn hW hd
  show Calls Try.prog 66 #[.int .i64 k, .pointer (some ⟨P, 0, none⟩), .pointer (some ⟨T, 0, none⟩)] W _
  unfold keepB
  rw [Hd.out]
  by_cases h1 : n.op < 1
  · have d1 : decide (n.op < 1) = true := by simp [h1]
    rw [d1]
    clear h1
    go_enter Try.func66, Try.ntmps66
    go_wp2
    go_ret
    exact ⟨rfl, (by repeat (first | (with_reducible exact Below.refl _ _) | (with_reducible assumption) | (with_reducible refine Below.drew ?_) | (with_reducible refine below_drewN ?_ _) | (with_reducible refine Below.alloc ?_ (by (try simp only [World.size_alloc, World.size_setCell, World.size_drew, World.heap_drewN]); (first | done | omega | ((try simp only [World.size_alloc, World.size_setCell, World.size_drew, World.heap_drewN] at *); omega))) _) | (with_reducible refine Below.setCell ?_ (by (try simp only [World.size_alloc, World.size_setCell, World.size_drew, World.heap_drewN]); (first | done | omega | ((try simp only [World.size_alloc, World.size_setCell, World.size_drew, World.heap_drewN] at *); omega))) _) | (with_reducible refine Below.trans ?_ (Below.mono (by assumption) (by (try simp only [World.size_alloc, World.size_setCell, World.size_drew, World.heap_drewN]); (first | done | omega | ((try simp only [World.size_alloc, World.size_setCell, World.size_drew, World.heap_drewN] at *); omega)))))))⟩
  · have d1 : decide (n.op < 1) = false := by simp [h1]
    rw [d1]
    clear h1
    by_cases h2 : 9 < n.op
    · have d2 : decide (9 < n.op) = true := by simp [h2]
      have d3 : decide (n.op > 9) = true := d2
      rw [d2]
      clear h2
      go_enter Try.func66, Try.ntmps66
      go_wp2
      go_ret
      exact ⟨rfl, (by repeat (first | (with_reducible exact Below.refl _ _) | (with_reducible assumption) | (with_reducible refine Below.drew ?_) | (with_reducible refine below_drewN ?_ _) | (with_reducible refine Below.alloc ?_ (by (try simp only [World.size_alloc, World.size_setCell, World.size_drew, World.heap_drewN]); (first | done | omega | ((try simp only [World.size_alloc, World.size_setCell, World.size_drew, World.heap_drewN] at *); omega))) _) | (with_reducible refine Below.setCell ?_ (by (try simp only [World.size_alloc, World.size_setCell, World.size_drew, World.heap_drewN]); (first | done | omega | ((try simp only [World.size_alloc, World.size_setCell, World.size_drew, World.heap_drewN] at *); omega))) _) | (with_reducible refine Below.trans ?_ (Below.mono (by assumption) (by (try simp only [World.size_alloc, World.size_setCell, World.size_drew, World.heap_drewN]); (first | done | omega | ((try simp only [World.size_alloc, World.size_setCell, World.size_drew, World.heap_drewN] at *); omega)))))))⟩
    · have d2 : decide (9 < n.op) = false := by simp [h2]
      have d3 : decide (n.op > 9) = false := d2
      rw [d2]
      clear h2
      cases h3 : (n.d != t.a)
      · go_enter Try.func66, Try.ntmps66
        go_wp2
        go_ret
        exact ⟨rfl, (by repeat (first | (with_reducible exact Below.refl _ _) | (with_reducible assumption) | (with_reducible refine Below.drew ?_) | (with_reducible refine below_drewN ?_ _) | (with_reducible refine Below.alloc ?_ (by (try simp only [World.size_alloc, World.size_setCell, World.size_drew, World.heap_drewN]); (first | done | omega | ((try simp only [World.size_alloc, World.size_setCell, World.size_drew, World.heap_drewN] at *); omega))) _) | (with_reducible refine Below.setCell ?_ (by (try simp only [World.size_alloc, World.size_setCell, World.size_drew, World.heap_drewN]); (first | done | omega | ((try simp only [World.size_alloc, World.size_setCell, World.size_drew, World.heap_drewN] at *); omega))) _) | (with_reducible refine Below.trans ?_ (Below.mono (by assumption) (by (try simp only [World.size_alloc, World.size_setCell, World.size_drew, World.heap_drewN]); (first | done | omega | ((try simp only [World.size_alloc, World.size_setCell, World.size_drew, World.heap_drewN] at *); omega)))))))⟩
      · go_enter Try.func66, Try.ntmps66
        go_wp2
        go_ret
        exact ⟨by simp, (by repeat (first | (with_reducible exact Below.refl _ _) | (with_reducible assumption) | (with_reducible refine Below.drew ?_) | (with_reducible refine below_drewN ?_ _) | (with_reducible refine Below.alloc ?_ (by (try simp only [World.size_alloc, World.size_setCell, World.size_drew, World.heap_drewN]); (first | done | omega | ((try simp only [World.size_alloc, World.size_setCell, World.size_drew, World.heap_drewN] at *); omega))) _) | (with_reducible refine Below.setCell ?_ (by (try simp only [World.size_alloc, World.size_setCell, World.size_drew, World.heap_drewN]); (first | done | omega | ((try simp only [World.size_alloc, World.size_setCell, World.size_drew, World.heap_drewN] at *); omega))) _) | (with_reducible refine Below.trans ?_ (Below.mono (by assumption) (by (try simp only [World.size_alloc, World.size_setCell, World.size_drew, World.heap_drewN]); (first | done | omega | ((try simp only [World.size_alloc, World.size_setCell, World.size_drew, World.heap_drewN] at *); omega)))))))⟩
theorem of31_says (L : Option Addr) (x : List Bool) (c g : Nat) (w : World) (hG : Blk w g 25 #[.slice L x.length c]) (hL : ValsAt w L (bools x)) {k : Nat} (hk : k < x.length) :
    SaysAt Try.prog 68 #[.pointer (some ⟨g, 0, none⟩)] w k (!yn x k) := by
  intro W hW
  obtain ⟨b, off, rfl, hb, hc⟩ := (hL.below hW).bool hk
  have hG' := hG.below hW hG.lt
  have g0 := hG'.cell 0
  have lg := hG'.lt
  simp only [List.getElem?_toArray, List.getElem?_cons_zero] at g0
  have u0 : (0 : Int) ≤ (k : Int) := by omega
  have u1 : (k : Int) < (x.length : Int) := by omega
  clear hG hG' hL hW
  show Calls Try.prog 68 #[.int .i64 k, .pointer (some ⟨g, 0, none⟩)] W _
  go_enter Try.func68, Try.ntmps68
  go_wp2
  go_ret
  exact ⟨rfl, Below.refl _ _⟩
theorem enter31 (W : World) (args : Array Value) : (callFunc 68 args).run Try.prog W = .ok (.enter 68 args) W := by kernel_rfl
theorem enter1 (W : World) (args : Array Value) : (callFunc 65 args).run Try.prog W = .ok (.enter 65 args) W := by kernel_rfl
theorem enter2 (W : World) (args : Array Value) : (callFunc 66 args).run Try.prog W = .ok (.enter 66 args) W := by kernel_rfl
theorem enter4 (W : World) (args : Array Value) : (callFunc 69 args).run Try.prog W = .ok (.enter 69 args) W := by kernel_rfl
theorem enter5 (W : World) (args : Array Value) : (callFunc 70 args).run Try.prog W = .ok (.enter 70 args) W := by kernel_rfl
theorem enter6 (W : World) (args : Array Value) : (callFunc 73 args).run Try.prog W = .ok (.enter 73 args) W := by kernel_rfl
/-- facts.Of's not -/
theorem of3_any (regs : Int) (A : Option Addr) (n cap P : Nat) (L : Option Addr) (x : List Bool) (c : Nat) (w : World) (hn : n ≤ 65536) (hx : x.length = n) (hP : Blk w P 24 #[.int .i64 regs, .slice A n cap]) (hL : ValsAt w L (bools x)) :
    Calls Try.prog 67 #[.slice L n c, .pointer (some ⟨P, 0, none⟩)] w (BoolPost 4 (notL x) w) := by
  subst hx
  have hE := fun (W : World) (hW : Below w.heap.size w W) (hb : Blk W w.heap.size 25 #[.slice L x.length c]) => each_any 68 #[.pointer (some ⟨w.heap.size, 0, none⟩)] (fun k => !yn x k) regs A x.length cap W hn enter31 (fun k hk => of31_says L x c w.heap.size W hb (hL.below hW) hk)
  have HE := hide hE
  have p0 := hP.cell 0
  have p1 := hP.cell 1
  have lp := hP.lt
  simp only [List.getElem?_toArray, List.getElem?_cons_zero, List.getElem?_cons_succ] at p0 p1
  clear hE hP hL
  go_enter Try.func67, Try.ntmps67
  go_wp2_with (go_at_call 64; refine (HE.out _ (by repeat (first | (with_reducible exact Below.refl _ _) | (with_reducible assumption) | (with_reducible refine Below.drew ?_) | (with_reducible refine below_drewN ?_ _) | (with_reducible refine Below.alloc ?_ (by (try simp only [World.size_alloc, World.size_setCell, World.size_drew, World.heap_drewN]); (first | done | omega | ((try simp only [World.size_alloc, World.size_setCell, World.size_drew, World.heap_drewN] at *); omega))) _) | (with_reducible refine Below.setCell ?_ (by (try simp only [World.size_alloc, World.size_setCell, World.size_drew, World.heap_drewN]); (first | done | omega | ((try simp only [World.size_alloc, World.size_setCell, World.size_drew, World.heap_drewN] at *); omega))) _) | (with_reducible refine Below.trans ?_ (Below.mono (by assumption) (by (try simp only [World.size_alloc, World.size_setCell, World.size_drew, World.heap_drewN]); (first | done | omega | ((try simp only [World.size_alloc, World.size_setCell, World.size_drew, World.heap_drewN] at *); omega))))))) (by repeat (first | ((with_reducible refine Blk.new' ?_); exact (by (try simp only [World.size_alloc, World.size_setCell, World.size_drew, World.heap_drewN]); (first | done | omega | ((try simp only [World.size_alloc, World.size_setCell, World.size_drew, World.heap_drewN] at *); omega)))) | (with_reducible refine Blk.drew ?_) | (with_reducible refine Blk.drewN ?_ _) | (with_reducible refine Blk.alloc ?_ _) | with_reducible assumption))).mono ?_; rintro e w1 ⟨v, rfl, hr, hb⟩)
  go_ret
  exact ⟨_, rfl, hr.mono (by simp), (by repeat (first | (with_reducible exact Below.refl _ _) | (with_reducible assumption) | (with_reducible refine Below.drew ?_) | (with_reducible refine below_drewN ?_ _) | (with_reducible refine Below.alloc ?_ (by (try simp only [World.size_alloc, World.size_setCell, World.size_drew, World.heap_drewN]); (first | done | omega | ((try simp only [World.size_alloc, World.size_setCell, World.size_drew, World.heap_drewN] at *); omega))) _) | (with_reducible refine Below.setCell ?_ (by (try simp only [World.size_alloc, World.size_setCell, World.size_drew, World.heap_drewN]); (first | done | omega | ((try simp only [World.size_alloc, World.size_setCell, World.size_drew, World.heap_drewN] at *); omega))) _) | (with_reducible refine Below.trans ?_ (Below.mono (by assumption) (by (try simp only [World.size_alloc, World.size_setCell, World.size_drew, World.heap_drewN]); (first | done | omega | ((try simp only [World.size_alloc, World.size_setCell, World.size_drew, World.heap_drewN] at *); omega)))))))⟩
theorem of4_says (K R : Option Addr) (x y : List Bool) (c d g h : Nat) (w : World) (hG : Blk w g 25 #[.slice K x.length c]) (hH : Blk w h 25 #[.slice R y.length d]) (hK : ValsAt w K (bools x)) (hR : ValsAt w R (bools y)) {k : Nat} (hk : k < x.length) (hk2 : k < y.length) :
    SaysAt Try.prog 69 #[.pointer (some ⟨g, 0, none⟩), .pointer (some ⟨h, 0, none⟩)] w k (yn x k && yn y k) := by
  intro W hW
  obtain ⟨b, off, rfl, hb, hc⟩ := (hK.below hW).bool hk
  obtain ⟨b2, off2, rfl, hb2, hc2⟩ := (hR.below hW).bool hk2
  have hG' := hG.below hW hG.lt
  have hH' := hH.below hW hH.lt
  have g0 := hG'.cell 0
  have h0 := hH'.cell 0
  have lg := hG'.lt
  have lh := hH'.lt
  simp only [List.getElem?_toArray, List.getElem?_cons_zero] at g0 h0
  have u0 : (0 : Int) ≤ (k : Int) := by omega
  have u1 : (k : Int) < (x.length : Int) := by omega
  have u2 : (k : Int) < (y.length : Int) := by omega
  clear hG hG' hH hH' hK hR hW
  show Calls Try.prog 69 #[.int .i64 k, .pointer (some ⟨g, 0, none⟩), .pointer (some ⟨h, 0, none⟩)] W _
  cases h1 : yn x k
  · rw [h1] at hc
    go_enter Try.func69, Try.ntmps69
    go_wp2
    go_ret
    exact ⟨rfl, Below.refl _ _⟩
  · rw [h1] at hc
    go_enter Try.func69, Try.ntmps69
    go_wp2
    go_ret
    exact ⟨rfl, Below.refl _ _⟩
/-- a table of edges behind a box: in whatever order -/
def EdgeTab (w : World) (t : TypeId) (g GA n : Nat) (E : Nat → List Int) : Prop :=
  Blk w g t #[.slice (some ⟨GA, 0, none⟩) n n] ∧ GA < w.heap.size ∧ ∀ k, k < n → ∃ (R : Option Addr) (es : List Int) (c : Nat), w.cell? ⟨GA, k, none⟩ = some (.slice R es.length c) ∧ ValsAt w R (ints es) ∧ es.length ≤ 65536 ∧ ∀ m, m ∈ es ↔ m ∈ E k
theorem EdgeTab.below {w w' : World} {t : TypeId} {g GA n : Nat} {E : Nat → List Int} (h : EdgeTab w t g GA n E) (hb : Below w.heap.size w w') : EdgeTab w' t g GA n E := by
  obtain ⟨h1, h2, h3⟩ := h
  refine ⟨h1.below hb h1.lt, Nat.lt_of_lt_of_le h2 hb.size, fun k hk => ?_⟩
  obtain ⟨R, es, c, c1, c2, c3⟩ := h3 k hk
  exact ⟨R, es, c, ((bcell hb).1 _ _ h2).trans c1, c2.below hb, c3⟩
theorem any_same {es es' : List Int} {p : Int → Bool} (h : ∀ m, m ∈ es ↔ m ∈ es') : es.any p = es'.any p := by
  rw [Bool.eq_iff_iff, List.any_eq_true, List.any_eq_true]
  simp only [h]
theorem len0_same {es es' : List Int} (h : ∀ m, m ∈ es ↔ m ∈ es') : (es.length == 0) = (es'.length == 0) := by
  rw [Bool.eq_iff_iff]
  simp only [beq_iff_eq, List.length_eq_zero_iff, List.eq_nil_iff_forall_not_mem, h]
theorem of51_says (K D U : Option Addr) (x d u : List Bool) (kc dc uc g f : Nat) (cs : Array Value) (w : World) (hG : Blk w g 25 #[.slice K x.length kc]) (hF : Blk w f 49 cs) (f0 : cs[0]? = some (.slice D d.length dc)) (f1 : cs[1]? = some (.slice U u.length uc))
    (hK : ValsAt w K (bools x)) (hD : ValsAt w D (bools d)) (hU : ValsAt w U (bools u)) {m : Nat} (h1 : m < x.length) (h2 : m < d.length) (h3 : m < u.length) :
    SaysAt Try.prog 72 #[.pointer (some ⟨g, 0, none⟩), .pointer (some ⟨f, 0, none⟩)] w m (!yn x m || !yn d m && !yn u m) := by
  intro W hW
  obtain ⟨b, off, rfl, hb, hc⟩ := (hK.below hW).bool h1
  obtain ⟨b2, off2, rfl, hb2, hc2⟩ := (hD.below hW).bool h2
  obtain ⟨b3, off3, rfl, hb3, hc3⟩ := (hU.below hW).bool h3
  have hG' := hG.below hW hG.lt
  have hF' := hF.below hW hF.lt
  have g0 := hG'.cell 0
  have q0 := (hF'.cell 0).trans f0
  have q1 := (hF'.cell 1).trans f1
  have lg := hG'.lt
  have lf := hF'.lt
  simp only [List.getElem?_toArray, List.getElem?_cons_zero] at g0
  have u0 : (0 : Int) ≤ (m : Int) := by omega
  have u1 : (m : Int) < (x.length : Int) := by omega
  have u2 : (m : Int) < (d.length : Int) := by omega
  have u3 : (m : Int) < (u.length : Int) := by omega
  clear hG hG' hF hF' hK hD hU hW f0 f1
  show Calls Try.prog 72 #[.int .i64 m, .pointer (some ⟨g, 0, none⟩), .pointer (some ⟨f, 0, none⟩)] W _
  cases e1 : yn x m
  · rw [e1] at hc
    go_enter Try.func72, Try.ntmps72
    go_wp2
    go_ret
    exact ⟨rfl, Below.refl _ _⟩
  · rw [e1] at hc
    cases e2 : yn d m
    · rw [e2] at hc2
      go_enter Try.func72, Try.ntmps72
      go_wp2
      go_ret
      exact ⟨rfl, Below.refl _ _⟩
    · rw [e2] at hc2
      go_enter Try.func72, Try.ntmps72
      go_wp2
      go_ret
      exact ⟨rfl, Below.refl _ _⟩
theorem of61_says (D : Option Addr) (d : List Bool) (dc f : Nat) (cs : Array Value) (w : World) (hF : Blk w f 49 cs) (f3 : cs[3]? = some (.slice D d.length dc)) (hD : ValsAt w D (bools d)) {m : Nat} (h2 : m < d.length) :
    SaysAt Try.prog 74 #[.pointer (some ⟨f, 0, none⟩)] w m (!yn d m) := by
  intro W hW
  obtain ⟨b2, off2, rfl, hb2, hc2⟩ := (hD.below hW).bool h2
  have hF' := hF.below hW hF.lt
  have q0 := (hF'.cell 3).trans f3
  have lf := hF'.lt
  have u0 : (0 : Int) ≤ (m : Int) := by omega
  have u2 : (m : Int) < (d.length : Int) := by omega
  clear hF hF' hD hW f3
  show Calls Try.prog 74 #[.int .i64 m, .pointer (some ⟨f, 0, none⟩)] W _
  go_enter Try.func74, Try.ntmps74
  go_wp2
  go_ret
  exact ⟨rfl, Below.refl _ _⟩
theorem enter51 (W : World) (args : Array Value) : (callFunc 72 args).run Try.prog W = .ok (.enter 72 args) W := by kernel_rfl
theorem enter61 (W : World) (args : Array Value) : (callFunc 74 args).run Try.prog W = .ok (.enter 74 args) W := by kernel_rfl
theorem of5_says (K D U : Option Addr) (x d u : List Bool) (kc dc uc g f a GA n : Nat) (E : Nat → List Int) (cs : Array Value) (w : World) (hG : Blk w g 25 #[.slice K x.length kc]) (hF : Blk w f 49 cs) (f0 : cs[0]? = some (.slice D d.length dc)) (f1 : cs[1]? = some (.slice U u.length uc))
    (hA : EdgeTab w 79 a GA n E) (hK : ValsAt w K (bools x)) (hD : ValsAt w D (bools d)) (hU : ValsAt w U (bools u)) (h1 : x.length = n) (h2 : d.length = n) (h3 : u.length = n) (hE : ∀ k m, m ∈ E k → 0 ≤ m ∧ m < (n : Int)) {k : Nat} (hk : k < n) :
    SaysAt Try.prog 70 #[.pointer (some ⟨f, 0, none⟩), .pointer (some ⟨a, 0, none⟩), .pointer (some ⟨g, 0, none⟩)] w k (yn d k && ((E k).length == 0 || (E k).any fun m => !yn x m.toNat || !yn d m.toNat && !yn u m.toNat)) := by
  intro W hW
  obtain ⟨hB, hGA, hT⟩ := hA.below hW
  obtain ⟨R, es, c, hc, hR, hes, hsame⟩ := hT k hk
  have HD := hide (hD.below hW)
  obtain ⟨b2, off2, eD, hb2, hc2⟩ := HD.out.bool (k := k) (by omega)
  subst eD
  have hG' := hG.below hW hG.lt
  have hF' := hF.below hW hF.lt
  have q0 := (hF'.cell 0).trans f0
  have a0 := hB.cell 0
  have lf := hF'.lt
  have la := hB.lt
  simp only [List.getElem?_toArray, List.getElem?_cons_zero] at a0
  have u0 : (0 : Int) ≤ (k : Int) := by omega
  have u1 : (k : Int) < (n : Int) := by omega
  have u2 : (k : Int) < (d.length : Int) := by omega
  rw [← any_same hsame, ← len0_same hsame]
  have hS := some_any 72 #[.pointer (some ⟨g, 0, none⟩), .pointer (some ⟨f, 0, none⟩)] (fun m => !yn x m.toNat || !yn d m.toNat && !yn u m.toNat) R es c W (by unfold maxLen; omega) hR enter51 (fun m hm => by
    obtain ⟨m0, m1⟩ := hE k m ((hsame m).1 hm)
    obtain ⟨q, rfl⟩ := Int.eq_ofNat_of_zero_le m0
    exact of51_says K _ U x d u kc dc uc g f cs W hG' hF' f0 f1 (hK.below hW) HD.out (hU.below hW) (by omega) (by omega) (by omega))
  have HS := hide hS
  generalize (es.any fun m => !yn x m.toNat || !yn d m.toNat && !yn u m.toNat) = q at *
  clear hG hG' hF hF' hK hU hW f0 f1 hT hA hsame hB hS hD HD hE hR
  show Calls Try.prog 70 #[.int .i64 k, .pointer (some ⟨f, 0, none⟩), .pointer (some ⟨a, 0, none⟩), .pointer (some ⟨g, 0, none⟩)] W _
  cases e2 : yn d k
  · rw [e2] at hc2
    go_enter Try.func70, Try.ntmps70
    go_wp2_with fail
    go_ret
    exact ⟨rfl, Below.refl _ _⟩
  · rw [e2] at hc2
    cases e3 : ((es.length : Int) == 0)
    · have e4 : (es.length == 0) = false := by simp at e3 ⊢; exact e3
      rw [e4]
      go_enter Try.func70, Try.ntmps70
      go_wp2_with (go_at_call 71; refine (HS.out).mono ?_; rintro e w1 ⟨rfl, hb1⟩)
      go_ret
      exact ⟨by simp, hb1⟩
    · have e4 : (es.length == 0) = true := by simp at e3 ⊢; exact e3
      rw [e4]
      go_enter Try.func70, Try.ntmps70
      go_wp2_with fail
      go_ret
      exact ⟨rfl, Below.refl _ _⟩
theorem of6_says (D R0 : Option Addr) (d y : List Bool) (dc yc h f a GA n : Nat) (E : Nat → List Int) (cs : Array Value) (w : World) (hH : Blk w h 25 #[.slice R0 y.length yc]) (hF : Blk w f 49 cs) (f3 : cs[3]? = some (.slice D d.length dc))
    (hA : EdgeTab w 79 a GA n E) (hY : ValsAt w R0 (bools y)) (hD : ValsAt w D (bools d)) (h1 : y.length = n) (h2 : d.length = n) (hE : ∀ k m, m ∈ E k → 0 ≤ m ∧ m < (n : Int)) {k : Nat} (hk : k < n) :
    SaysAt Try.prog 73 #[.pointer (some ⟨f, 0, none⟩), .pointer (some ⟨h, 0, none⟩), .pointer (some ⟨a, 0, none⟩)] w k (yn d k && (yn y k || (E k).any fun m => !yn d m.toNat)) := by
  intro W hW
  obtain ⟨hB, hGA, hT⟩ := hA.below hW
  obtain ⟨R, es, c, hc, hR, hes, hsame⟩ := hT k hk
  have HD := hide (hD.below hW)
  obtain ⟨b2, off2, eD, hb2, hc2⟩ := HD.out.bool (k := k) (by omega)
  subst eD
  obtain ⟨b3, off3, rfl, hb3, hc3⟩ := (hY.below hW).bool (k := k) (by omega)
  have hH' := hH.below hW hH.lt
  have hF' := hF.below hW hF.lt
  have q0 := (hF'.cell 3).trans f3
  have a0 := hB.cell 0
  have h0 := hH'.cell 0
  have lf := hF'.lt
  have la := hB.lt
  have lh := hH'.lt
  simp only [List.getElem?_toArray, List.getElem?_cons_zero] at a0 h0
  have u0 : (0 : Int) ≤ (k : Int) := by omega
  have u1 : (k : Int) < (n : Int) := by omega
  have u2 : (k : Int) < (d.length : Int) := by omega
  have u3 : (k : Int) < (y.length : Int) := by omega
  rw [← any_same hsame]
  have hS := some_any 74 #[.pointer (some ⟨f, 0, none⟩)] (fun m => !yn d m.toNat) R es c W (by unfold maxLen; omega) hR enter61 (fun m hm => by
    obtain ⟨m0, m1⟩ := hE k m ((hsame m).1 hm)
    obtain ⟨q, rfl⟩ := Int.eq_ofNat_of_zero_le m0
    exact of61_says _ d dc f cs W hF' f3 HD.out (by omega))
  have HS := hide hS
  generalize (es.any fun m => !yn d m.toNat) = q at *
  clear hF hF' hH hH' hW f3 hT hA hsame hB hS hD HD hE hR hY
  show Calls Try.prog 73 #[.int .i64 k, .pointer (some ⟨f, 0, none⟩), .pointer (some ⟨h, 0, none⟩), .pointer (some ⟨a, 0, none⟩)] W _
  cases e2 : yn d k
  · rw [e2] at hc2
    go_enter Try.func73, Try.ntmps73
    go_wp2_with fail
    go_ret
    exact ⟨rfl, Below.refl _ _⟩
  · rw [e2] at hc2
    cases e3 : yn y k
    · rw [e3] at hc3
      go_enter Try.func73, Try.ntmps73
      go_wp2_with (go_at_call 71; refine (HS.out).mono ?_; rintro e w1 ⟨rfl, hb1⟩)
      go_ret
      exact ⟨by simp, hb1⟩
    · rw [e3] at hc3
      go_enter Try.func73, Try.ntmps73
      go_wp2_with fail
      go_ret
      exact ⟨rfl, Below.refl _ _⟩
end Go.Proofs.Ytmghkonmfbpjcaa
