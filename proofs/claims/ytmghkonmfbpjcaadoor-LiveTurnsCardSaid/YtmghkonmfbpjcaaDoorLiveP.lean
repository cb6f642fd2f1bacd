/- Plain law: the least answer, found by turns; registers that are live; what is dead. No program in sight. -/
import Derived.Test.YtmghkonmfbpjcaaDoorYes
namespace Go.Proofs.YtmghkonmfbpjcaaDoor
set_option linter.unusedVariables false
set_option linter.unusedSimpArgs false
open Go.RowKit

section
variable (S : List Bool → Nat → Bool) (n : Nat)
/-- it says yes wherever it must -/
def Closed (x : List Bool) : Prop := x.length = n ∧ ∀ i, i < n → S x i = true → yn x i = true
/-- below all that say yes wherever they must -/
def Under (x : List Bool) : Prop := x.length = n ∧ ∀ z, Closed S n z → leB x z
/-- the least answer -/
def Least (x : List Bool) : Prop := Ans S n x ∧ Under S n x
variable {S n}
theorem Under.start {x : List Bool} (hl : x.length = n) (h : ∀ i, yn x i = false) : Under S n x := ⟨hl, fun z hz i hi => by rw [h i] at hi; cases hi⟩
theorem Under.put (hm : Mono S) {x : List Bool} (h : Under S n x) {k : Nat} (hk : k < n) : Under S n (x.set k (S x k)) := by
  refine ⟨by simpa using h.1, fun z hz i hi => ?_⟩
  rw [yn_set _ _ _ _ (by rw [h.1]; exact hk)] at hi
  by_cases hik : i = k
  · subst hik
    rw [if_pos rfl] at hi
    exact hz.2 i hk (hm x z i (h.2 z hz) hi)
  · rw [if_neg hik] at hi
    exact h.2 z hz i hi
theorem leB_put {x : List Bool} {k : Nat} (hk : k < x.length) (hp : yn x k = true → S x k = true) : leB x (x.set k (S x k)) := fun i hi => by
  rw [yn_set _ _ _ _ hk]
  split
  · rename_i h; subst h; exact hp hi
  · exact hi
theorem Post.put (hm : Mono S) {x : List Bool} (h : Post S n x) {k : Nat} (hk : k < n) : Post S n (x.set k (S x k)) := by
  have hkx : k < x.length := by rw [h.1]; exact hk
  have hle := leB_put (S := S) hkx (h.2 k hk)
  refine ⟨by simpa using h.1, fun i hi hs => ?_⟩
  rw [yn_set _ _ _ _ hkx] at hs
  by_cases hik : i = k
  · subst hik
    rw [if_pos rfl] at hs
    exact hm _ _ _ hle hs
  · rw [if_neg hik] at hs
    exact hm _ _ _ hle (h.2 i hi hs)
theorem cnt_put {x : List Bool} {k : Nat} (hk : k < x.length) (h0 : yn x k = false) : cnt (x.set k true) = cnt x + 1 := by
  unfold cnt
  rw [List.count_set hk]
  have h1 : x[k] = false := by simpa [yn, hk] using h0
  simp [h1]
theorem Least.unique {x y : List Bool} (hx : Least S n x) (hy : Least S n y) : x = y := by
  refine ext_yn (hx.1.1.trans hy.1.1.symm) fun i hi => ?_
  rw [Bool.eq_iff_iff]
  exact ⟨hx.2.2 y ⟨hy.1.1, fun j hj h => by rw [hy.1.2 j hj]; exact h⟩ i, hy.2.2 x ⟨hx.1.1, fun j hj h => by rw [hx.1.2 j hj]; exact h⟩ i⟩

/-- in the midst of a turn: something was added, or what was reckoned is right, or it is an answer -/
def Turning (S : List Bool → Nat → Bool) (n c k : Nat) (x : List Bool) : Prop := Post S n x ∧ Under S n x ∧ (c < cnt x ∨ (c ≤ cnt x ∧ ∀ i, k ≤ i → i < n → yn x i = S x i) ∨ Ans S n x)
theorem set_yn {x : List Bool} {k : Nat} {b : Bool} (hk : k < x.length) (h : yn x k = b) : x.set k b = x := ext_yn (by simp) fun i _ => by
  rw [yn_set _ _ _ _ hk]
  split
  · rename_i h'; subst h'; exact h.symm
  · rfl
theorem Turning.step (hm : Mono S) {c k : Nat} {x : List Bool} (h : Turning S n c (k + 1) x) (hk : k < n) : Turning S n c k (x.set k (S x k)) := by
  obtain ⟨hp, hu, hr⟩ := h
  have hkx : k < x.length := by rw [hp.1]; exact hk
  refine ⟨hp.put hm hk, hu.put hm hk, ?_⟩
  by_cases he : yn x k = S x k
  · rw [set_yn hkx he]
    refine hr.imp id fun h => h.imp (fun ⟨hc, h⟩ => ⟨hc, fun i hi hin => ?_⟩) id
    rcases Nat.lt_or_ge k i with hlt | hge
    · exact h i hlt hin
    · obtain rfl : i = k := by omega
      exact he
  · cases hx : yn x k with
    | true => exact absurd (hx.trans (hp.2 k hk hx).symm) he
    | false =>
      cases hs : S x k with
      | false => exact absurd (hx.trans hs.symm) he
      | true =>
        rw [cnt_put hkx hx]
        rcases hr with hc | ⟨hc, _⟩ | ha
        · exact .inl (by omega)
        · exact .inl (by omega)
        · exact absurd (ha.2 k hk) he
/-- behind so many turns: an answer, or so many yeses -/
def Turned (S : List Bool → Nat → Bool) (n c : Nat) (x : List Bool) : Prop := Post S n x ∧ Under S n x ∧ (c ≤ cnt x ∨ Ans S n x)
theorem Turned.start {x : List Bool} (hl : x.length = n) (h : ∀ i, yn x i = false) : Turned S n 0 x := ⟨⟨hl, fun i _ hi => by rw [h i] at hi; cases hi⟩, Under.start hl h, .inl (Nat.zero_le _)⟩
theorem Turned.begin_ {c : Nat} {x : List Bool} (h : Turned S n c x) : Turning S n c n x := ⟨h.1, h.2.1, h.2.2.elim (fun h => .inr (.inl ⟨h, fun i hi hin => absurd hin (by omega)⟩)) fun h => .inr (.inr h)⟩
theorem Turning.end_ {c : Nat} {x : List Bool} (h : Turning S n c 0 x) : Turned S n (c + 1) x :=
  ⟨h.1, h.2.1, h.2.2.elim (fun h => .inl (by omega)) fun h => .inr (h.elim (fun h => ⟨‹Turning S n c 0 x›.1.1, fun i hi => h.2 i (Nat.zero_le _) hi⟩) id)⟩
theorem Turned.least {x : List Bool} (h : Turned S n (n + 1) x) : Least S n x := by
  refine ⟨h.2.2.resolve_left fun hc => ?_, h.2.1⟩
  have := cnt_le x
  rw [h.1.1] at this
  omega
end

/-- a node that has gone silent -/
def hush (n : Nd) : Nd := ⟨0, 0, 0, 0, n.t, 0⟩
/-- a register is live at a node -/
inductive Lv (l : List Nd) (r : Int) : Int → Prop
  | use (i : Nat) (n : Nd) (hn : l[i]? = some n) (hu : ((hasA n.op && n.a == r) || (hasB n.op && n.b == r)) = true) : Lv l r i
  | then_ (i : Nat) (n : Nd) (hn : l[i]? = some n) (hs : (hasD n.op && n.d == r) = false) (hop : n.op ≠ 12) (h : Lv l r n.t) : Lv l r i
  | else_ (i : Nat) (n : Nd) (hn : l[i]? = some n) (hs : (hasD n.op && n.d == r) = false) (hop : n.op = 11) (h : Lv l r n.e) : Lv l r i
/-- a node is dead -/
def DeadN (l : List Nd) (i : Nat) : Prop := ∃ n, l[i]? = some n ∧ 1 ≤ n.op ∧ n.op ≤ 8 ∧ ¬ Lv l n.d n.t
def hushAt (l : List Nd) (i : Nat) : List Nd := l.set i (hush (l.getD i default))
theorem hushAt_get {l : List Nd} {i j : Nat} {n : Nd} (hn : l[i]? = some n) : (hushAt l i)[j]? = if j = i then some (hush n) else l[j]? := by
  have hlt : i < l.length := (List.getElem?_eq_some_iff.1 hn).1
  have hg : l.getD i default = n := by rw [List.getD_eq_getElem?_getD, hn]; rfl
  unfold hushAt
  rw [hg, List.getElem?_set]
  by_cases h : i = j
  · subst h; simp [hlt]
  · rw [if_neg h, if_neg (fun e => h e.symm)]
theorem Lv.of_hush {l : List Nd} {i : Nat} {r j : Int} (hd : DeadN l i) (h : Lv (hushAt l i) r j) : Lv l r j := by
  obtain ⟨n, hn, h1, h8, hlv⟩ := hd
  induction h with
  | use k m hm hu =>
    rw [hushAt_get hn] at hm
    by_cases hk : k = i
    · rw [if_pos hk] at hm
      cases hm
      simp [hush, hasA, hasB, inB] at hu
    · rw [if_neg hk] at hm
      exact .use k m hm hu
  | then_ k m hm hs hop _ ih =>
    rw [hushAt_get hn] at hm
    by_cases hk : k = i
    · rw [if_pos hk] at hm
      cases hm
      subst hk
      have ih' : Lv l r n.t := ih
      have hs' : (hasD n.op && n.d == r) = false := by
        cases hq : (hasD n.op && n.d == r) with
        | false => rfl
        | true =>
          have : n.d = r := beq_iff_eq.1 (Bool.and_eq_true_iff.1 hq).2
          rw [this] at hlv
          exact absurd ih' hlv
      exact .then_ k n hn hs' (by omega) ih'
    · rw [if_neg hk] at hm
      exact .then_ k m hm hs hop ih
  | else_ k m hm hs hop _ ih =>
    rw [hushAt_get hn] at hm
    by_cases hk : k = i
    · rw [if_pos hk] at hm
      cases hm
      simp [hush] at hop
    · rw [if_neg hk] at hm
      exact .else_ k m hm hs hop ih
theorem DeadN.still {l : List Nd} {i j : Nat} (hi : DeadN l i) (hj : DeadN l j) (hne : j ≠ i) : DeadN (hushAt l i) j := by
  obtain ⟨m, hm, h1, h8, hlv⟩ := hj
  obtain ⟨n, hn, _⟩ := id hi
  exact ⟨m, by rw [hushAt_get hn, if_neg hne]; exact hm, h1, h8, fun h => hlv (h.of_hush hi)⟩
theorem hushAt_comm {l : List Nd} {i j : Nat} (hi : DeadN l i) (hj : DeadN l j) : hushAt (hushAt l i) j = hushAt (hushAt l j) i := by
  by_cases h : i = j
  · subst h; rfl
  · obtain ⟨n, hn, _⟩ := hi
    obtain ⟨m, hm, _⟩ := hj
    refine List.ext_getElem? fun k => ?_
    rw [hushAt_get (n := m) (by rw [hushAt_get hn, if_neg (fun e => h e.symm)]; exact hm), hushAt_get hn, hushAt_get (l := hushAt l j) (n := n) (by rw [hushAt_get hm, if_neg h]; exact hn), hushAt_get hm]
    by_cases h1 : k = j <;> by_cases h2 : k = i <;> simp [h1, h2] <;> omega
/-- dead nodes gone silent, one by one -/
inductive Hushes : List Nd → List Nd → Prop
  | nil (l : List Nd) : Hushes l l
  | one (l l' : List Nd) (i : Nat) (hd : DeadN l i) (h : Hushes (hushAt l i) l') : Hushes l l'
theorem Hushes.snoc {l l' : List Nd} (h : Hushes l l') {i : Nat} (hd : DeadN l' i) : Hushes l (hushAt l' i) := by
  induction h with
  | nil l => exact .one _ _ i hd (.nil _)
  | one l l' j hj _ ih => exact .one _ _ j hj (ih hd)
theorem Hushes.past {l l2 : List Nd} (h : Hushes l l2) (hn : ∀ i, ¬ DeadN l2 i) {i : Nat} (hi : DeadN l i) : Hushes (hushAt l i) l2 := by
  induction h generalizing i with
  | nil l => exact absurd hi (hn i)
  | one l l' j hj h' ih =>
    by_cases hij : i = j
    · subst hij; exact h'
    · have := ih hn (hj.still hi hij)
      rw [hushAt_comm hj hi] at this
      exact .one _ _ j (hi.still hj (fun e => hij e.symm)) this
theorem Hushes.unique {l l1 l2 : List Nd} (h1 : Hushes l l1) (n1 : ∀ i, ¬ DeadN l1 i) (h2 : Hushes l l2) (n2 : ∀ i, ¬ DeadN l2 i) : l1 = l2 := by
  induction h1 with
  | nil l =>
    cases h2 with
    | nil => rfl
    | one _ _ i hd _ => exact absurd hd (n1 i)
  | one l l' j hj h' ih => exact ih n1 (h2.past n2 hj)

def usesB (n : Nd) (r : Int) : Bool := (hasA n.op && n.a == r) || (hasB n.op && n.b == r)
def makesB (n : Nd) (r : Int) : Bool := hasD n.op && n.d == r
def behindB (n : Nd) (x : List Bool) : Bool := (n.op != 12 && yn x n.t.toNat) || (n.op == 11 && yn x n.e.toNat)
/-- what is asked of a register at a node -/
def liveS (l : List Nd) (r : Int) (x : List Bool) (i : Nat) : Bool := usesB (l.getD i default) r || (!makesB (l.getD i default) r && behindB (l.getD i default) x)
theorem liveS_mono (l : List Nd) (r : Int) : Mono (liveS l r) := fun x y i h hs => by
  unfold liveS behindB at *
  simp only [Bool.or_eq_true, Bool.and_eq_true] at *
  exact hs.imp id fun ⟨h1, h2⟩ => ⟨h1, h2.imp (fun ⟨a, b⟩ => ⟨a, h _ b⟩) fun ⟨a, b⟩ => ⟨a, h _ b⟩⟩
/-- the ways of a node lead to nodes -/
def Ways (l : List Nd) : Prop := ∀ (i : Nat) (n : Nd), l[i]? = some n → (n.op ≠ 12 → 0 ≤ n.t ∧ n.t < l.length) ∧ (n.op = 11 → 0 ≤ n.e ∧ n.e < l.length)
theorem Least.lv {l : List Nd} {r : Int} {x : List Bool} (h : Least (liveS l r) l.length x) (hw : Ways l) {i : Nat} (hi : i < l.length) : yn x i = true ↔ Lv l r i := by
  constructor
  · intro hx
    classical
    let z : List Bool := (List.range l.length).map fun j => decide (Lv l r (j : Nat))
    have hz : ∀ j : Nat, j < l.length → yn z j = decide (Lv l r (j : Int)) := fun j hj => by simp [z, yn, hj]
    have hc : Closed (liveS l r) l.length z := ⟨by simp [z], fun j hj hs => by
      rw [hz j hj, decide_eq_true_iff]
      have hn : l[j]? = some l[j] := List.getElem?_eq_getElem hj
      have hg : l.getD j default = l[j] := by rw [List.getD_eq_getElem?_getD, hn]; rfl
      unfold liveS at hs
      rw [hg] at hs
      obtain ⟨w1, w2⟩ := hw j _ hn
      simp only [Bool.or_eq_true, Bool.and_eq_true, Bool.not_eq_true', behindB, bne_iff_ne, beq_iff_eq] at hs
      rcases hs with hu | ⟨hm, ⟨ho, ht⟩ | ⟨ho, he⟩⟩
      · exact .use j _ hn hu
      · obtain ⟨a, b⟩ := w1 ho
        rw [hz _ (by omega), decide_eq_true_iff, Int.toNat_of_nonneg a] at ht
        exact .then_ j _ hn hm ho ht
      · obtain ⟨a, b⟩ := w2 ho
        rw [hz _ (by omega), decide_eq_true_iff, Int.toNat_of_nonneg a] at he
        exact .else_ j _ hn hm ho he⟩
    have := h.2.2 z hc i hx
    rwa [hz i hi, decide_eq_true_iff] at this
  · intro hl
    have key : ∀ j : Int, Lv l r j → yn x j.toNat = true := by
      intro j hj
      induction hj with
      | use k m hm hu =>
        have hk : k < l.length := (List.getElem?_eq_some_iff.1 hm).1
        have hg : l.getD k default = m := by rw [List.getD_eq_getElem?_getD, hm]; rfl
        have := h.1.2 k hk
        rw [show ((k : Int)).toNat = k by omega, this]
        unfold liveS usesB
        rw [hg, hu]; rfl
      | then_ k m hm hs hop _ ih =>
        have hk : k < l.length := (List.getElem?_eq_some_iff.1 hm).1
        have hg : l.getD k default = m := by rw [List.getD_eq_getElem?_getD, hm]; rfl
        have := h.1.2 k hk
        rw [show ((k : Int)).toNat = k by omega, this]
        unfold liveS makesB behindB
        rw [hg, hs, ih]
        simp [hop]
      | else_ k m hm hs hop _ ih =>
        have hk : k < l.length := (List.getElem?_eq_some_iff.1 hm).1
        have hg : l.getD k default = m := by rw [List.getD_eq_getElem?_getD, hm]; rfl
        have := h.1.2 k hk
        rw [show ((k : Int)).toNat = k by omega, this]
        unfold liveS makesB behindB
        rw [hg, hs, ih]
        simp [hop]
    have := key i hl
    rwa [show ((i : Int)).toNat = i by omega] at this

/-! Sets of registers, a bit each. -/
def bitsAt (r : Nat) (ats : List Nat) : List Bool := ats.map fun z => z.testBit r
theorem bitsAt_set (r k z : Nat) (ats : List Nat) : bitsAt r (ats.set k z) = (bitsAt r ats).set k (z.testBit r) := List.map_set
theorem yn_bitsAt (r k : Nat) (ats : List Nat) : yn (bitsAt r ats) k = (ats.getD k 0).testBit r := by
  unfold yn bitsAt
  rw [List.getD_eq_getElem?_getD, List.getD_eq_getElem?_getD, List.getElem?_map]
  cases ats[k]? <;> simp
theorem nat_le_of_bits {a b : Nat} (h : ∀ r, a.testBit r = true → b.testBit r = true) : a ≤ b := by
  have : a &&& b = a := Nat.eq_of_testBit_eq fun r => by
    rw [Nat.testBit_and]
    cases ha : a.testBit r with
    | true => rw [h r ha]; rfl
    | false => rfl
  rw [← this]
  exact Nat.and_le_right
/-- the sets so far: each register's answer is below all that must be -/
def Bits (l : List Nd) (ats : List Nat) : Prop := ats.length = l.length ∧ (∀ z ∈ ats, z < 2 ^ 64) ∧ ∀ r : Nat, r < 64 → Post (liveS l r) l.length (bitsAt r ats) ∧ Under (liveS l r) l.length (bitsAt r ats)
theorem Bits.start (l : List Nd) : Bits l (List.replicate l.length 0) := by
  have h0 : ∀ r i, yn (bitsAt r (List.replicate l.length 0)) i = false := fun r i => by
    rw [yn_bitsAt]
    simp [List.getD_eq_getElem?_getD, List.getElem?_replicate]
    split <;> simp
  refine ⟨by simp, fun z hz => by rw [List.eq_of_mem_replicate hz]; decide, fun r _ => ?_⟩
  have := Turned.start (S := liveS l r) (n := l.length) (x := bitsAt r (List.replicate l.length 0)) (by simp [bitsAt]) (h0 r)
  exact ⟨this.1, this.2.1⟩
theorem Bits.put {l : List Nd} {ats : List Nat} (h : Bits l ats) {k z : Nat} (hk : k < l.length) (hz : z < 2 ^ 64) (hb : ∀ r : Nat, r < 64 → z.testBit r = liveS l r (bitsAt r ats) k) :
    Bits l (ats.set k z) ∧ ats.getD k 0 ≤ z := by
  obtain ⟨hl, hlt, hr⟩ := h
  refine ⟨⟨by simpa using hl, fun y hy => ?_, fun r h64 => ?_⟩, nat_le_of_bits fun r ht => ?_⟩
  · rcases List.mem_or_eq_of_mem_set hy with h | rfl
    · exact hlt y h
    · exact hz
  · rw [bitsAt_set, hb r h64]
    exact ⟨(hr r h64).1.put (liveS_mono l r) hk, (hr r h64).2.put (liveS_mono l r) hk⟩
  · by_cases h64 : r < 64
    · rw [hb r h64]
      exact (hr r h64).1.2 k hk (by rw [yn_bitsAt]; exact ht)
    · have hk' : k < ats.length := by omega
      have : ats.getD k 0 < 2 ^ r := Nat.lt_of_lt_of_le (by rw [List.getD_eq_getElem?_getD, List.getElem?_eq_getElem hk']; exact hlt _ (List.getElem_mem hk')) (Nat.pow_le_pow_right (by omega) (by omega))
      rw [Nat.testBit_lt_two_pow this] at ht
      cases ht
theorem Bits.done {l : List Nd} {ats : List Nat} (h : Bits l ats) (he : ∀ k r : Nat, k < l.length → r < 64 → (ats.getD k 0).testBit r = liveS l r (bitsAt r ats) k) {r : Nat} (h64 : r < 64) : Least (liveS l r) l.length (bitsAt r ats) :=
  ⟨⟨(h.2.2 r h64).1.1, fun i hi => by rw [yn_bitsAt]; exact he i r hi h64⟩, (h.2.2 r h64).2⟩

theorem sum_set {ats : List Nat} {k z : Nat} (hk : k < ats.length) : (ats.set k z).sum + ats.getD k 0 = ats.sum + z := by
  induction ats generalizing k with
  | nil => simp at hk
  | cons a ats ih =>
    cases k with
    | zero => simp; omega
    | succ k =>
      have := ih (k := k) (by simpa using hk)
      simp only [List.set_cons_succ, List.sum_cons, List.getD_cons_succ]
      omega
theorem sum_le {ats : List Nat} {b : Nat} (h : ∀ z ∈ ats, z ≤ b) : ats.sum ≤ ats.length * b := by
  induction ats with
  | nil => simp
  | cons a ats ih =>
    have h1 := h a (by simp)
    have h2 := ih fun z hz => h z (by simp [hz])
    simp only [List.sum_cons, List.length_cons, Nat.succ_mul]
    omega
end Go.Proofs.YtmghkonmfbpjcaaDoor
