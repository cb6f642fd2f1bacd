/- Least; LiveP; Bits; LiveQ; LiveR; LiveE: merged texts. -/
import Derived.Test.YtmghkonmfbpjcabDoorJB
import Derived.Lib.TrailingZeros
/- Plain law: the least answer, found by turns. No program in sight. -/
namespace Go.Proofs.YtmghkonmfbpjcabDoor
set_option linter.unusedVariables false
set_option linter.unusedSimpArgs false
open Go.RowKit

section
variable (S : List Bool → Nat → Bool) (n : Nat)
/-- it says yes wherever it must -/
def Closed (x : List Bool) : Prop := x.length = n ∧ ∀ i, i < n → S x i = true → yn x i = true
/-- below all that say yes wherever they must -/
def Under (x : List Bool) : Prop := x.length = n ∧ ∀ z, Closed S n z → leB x z
/-- the least answer -/
def Least (x : List Bool) : Prop := Ans S n x ∧ Under S n x
variable {S n}
theorem Under.start {x : List Bool} (hl : x.length = n) (h : ∀ i, yn x i = false) : Under S n x := ⟨hl, fun z hz i hi => by rw [h i] at hi; cases hi⟩
theorem Under.put (hm : Mono S) {x : List Bool} (h : Under S n x) {k : Nat} (hk : k < n) : Under S n (x.set k (S x k)) := by
  refine ⟨by simpa using h.1, fun z hz i hi => ?_⟩
  rw [yn_set _ _ _ _ (by rw [h.1]; exact hk)] at hi
  by_cases hik : i = k
  · subst hik
    rw [if_pos rfl] at hi
    exact hz.2 i hk (hm x z i (h.2 z hz) hi)
  · rw [if_neg hik] at hi
    exact h.2 z hz i hi
theorem leB_put {x : List Bool} {k : Nat} (hk : k < x.length) (hp : yn x k = true → S x k = true) : leB x (x.set k (S x k)) := fun i hi => by
  rw [yn_set _ _ _ _ hk]
  split
  · rename_i h; subst h; exact hp hi
  · exact hi
theorem Post.put (hm : Mono S) {x : List Bool} (h : Post S n x) {k : Nat} (hk : k < n) : Post S n (x.set k (S x k)) := by
  have hkx : k < x.length := by rw [h.1]; exact hk
  have hle := leB_put (S := S) hkx (h.2 k hk)
  refine ⟨by simpa using h.1, fun i hi hs => ?_⟩
  rw [yn_set _ _ _ _ hkx] at hs
  by_cases hik : i = k
  · subst hik
    rw [if_pos rfl] at hs
    exact hm _ _ _ hle hs
  · rw [if_neg hik] at hs
    exact hm _ _ _ hle (h.2 i hi hs)
theorem cnt_put {x : List Bool} {k : Nat} (hk : k < x.length) (h0 : yn x k = false) : cnt (x.set k true) = cnt x + 1 := by
  unfold cnt
  rw [List.count_set hk]
  have h1 : x[k] = false := by simpa [yn, hk] using h0
  simp [h1]
theorem Least.unique {x y : List Bool} (hx : Least S n x) (hy : Least S n y) : x = y := by
  refine ext_yn (hx.1.1.trans hy.1.1.symm) fun i hi => ?_
  rw [Bool.eq_iff_iff]
  exact ⟨hx.2.2 y ⟨hy.1.1, fun j hj h => by rw [hy.1.2 j hj]; exact h⟩ i, hy.2.2 x ⟨hx.1.1, fun j hj h => by rw [hx.1.2 j hj]; exact h⟩ i⟩

/-- in the midst of a turn: something was added, or what was reckoned is right, or it is an answer -/
def Turning (S : List Bool → Nat → Bool) (n c k : Nat) (x : List Bool) : Prop := Post S n x ∧ Under S n x ∧ (c < cnt x ∨ (c ≤ cnt x ∧ ∀ i, k ≤ i → i < n → yn x i = S x i) ∨ Ans S n x)
theorem set_yn {x : List Bool} {k : Nat} {b : Bool} (hk : k < x.length) (h : yn x k = b) : x.set k b = x := ext_yn (by simp) fun i _ => by
  rw [yn_set _ _ _ _ hk]
  split
  · rename_i h'; subst h'; exact h.symm
  · rfl
theorem Turning.step (hm : Mono S) {c k : Nat} {x : List Bool} (h : Turning S n c (k + 1) x) (hk : k < n) : Turning S n c k (x.set k (S x k)) := by
  obtain ⟨hp, hu, hr⟩ := h
  have hkx : k < x.length := by rw [hp.1]; exact hk
  refine ⟨hp.put hm hk, hu.put hm hk, ?_⟩
  by_cases he : yn x k = S x k
  · rw [set_yn hkx he]
    refine hr.imp id fun h => h.imp (fun ⟨hc, h⟩ => ⟨hc, fun i hi hin => ?_⟩) id
    rcases Nat.lt_or_ge k i with hlt | hge
    · exact h i hlt hin
    · obtain rfl : i = k := by omega
      exact he
  · cases hx : yn x k with
    | true => exact absurd (hx.trans (hp.2 k hk hx).symm) he
    | false =>
      cases hs : S x k with
      | false => exact absurd (hx.trans hs.symm) he
      | true =>
        rw [cnt_put hkx hx]
        rcases hr with hc | ⟨hc, _⟩ | ha
        · exact .inl (by omega)
        · exact .inl (by omega)
        · exact absurd (ha.2 k hk) he
/-- behind so many turns: an answer, or so many yeses -/
def Turned (S : List Bool → Nat → Bool) (n c : Nat) (x : List Bool) : Prop := Post S n x ∧ Under S n x ∧ (c ≤ cnt x ∨ Ans S n x)
theorem Turned.start {x : List Bool} (hl : x.length = n) (h : ∀ i, yn x i = false) : Turned S n 0 x := ⟨⟨hl, fun i _ hi => by rw [h i] at hi; cases hi⟩, Under.start hl h, .inl (Nat.zero_le _)⟩
theorem Turned.begin_ {c : Nat} {x : List Bool} (h : Turned S n c x) : Turning S n c n x := ⟨h.1, h.2.1, h.2.2.elim (fun h => .inr (.inl ⟨h, fun i hi hin => absurd hin (by omega)⟩)) fun h => .inr (.inr h)⟩
theorem Turning.end_ {c : Nat} {x : List Bool} (h : Turning S n c 0 x) : Turned S n (c + 1) x :=
  ⟨h.1, h.2.1, h.2.2.elim (fun h => .inl (by omega)) fun h => .inr (h.elim (fun h => ⟨‹Turning S n c 0 x›.1.1, fun i hi => h.2 i (Nat.zero_le _) hi⟩) id)⟩
theorem Turned.least {x : List Bool} (h : Turned S n (n + 1) x) : Least S n x := by
  refine ⟨h.2.2.resolve_left fun hc => ?_, h.2.1⟩
  have := cnt_le x
  rw [h.1.1] at this
  omega
end

/-- one turn, from the last one to the first -/
def sweep (S : List Bool → Nat → Bool) : Nat → List Bool → List Bool
  | 0, x => x
  | k + 1, x => sweep S k (x.set k (S x k))
def sweeps (S : List Bool → Nat → Bool) (n : Nat) : Nat → List Bool
  | 0 => List.replicate n false
  | c + 1 => sweep S n (sweeps S n c)
theorem Turning.sweep {S : List Bool → Nat → Bool} (hm : Mono S) {n c : Nat} : ∀ (k : Nat) (x : List Bool), k ≤ n → Turning S n c k x → Turning S n c 0 (sweep S k x)
  | 0, x, _, h => h
  | k + 1, x, hk, h => Turning.sweep hm k _ (by omega) (h.step hm (by omega))
theorem sweeps_turned {S : List Bool → Nat → Bool} (hm : Mono S) (n : Nat) : ∀ c, Turned S n c (sweeps S n c)
  | 0 => Turned.start (by simp [sweeps]) (fun i => by simp [sweeps, yn, List.getD_eq_getElem?_getD, List.getElem?_replicate]; split <;> simp)
  | c + 1 => (Turning.sweep hm n _ (Nat.le_refl _) (sweeps_turned hm n c).begin_).end_
def leastL (S : List Bool → Nat → Bool) (n : Nat) : List Bool := sweeps S n (n + 1)
theorem leastL_least {S : List Bool → Nat → Bool} (hm : Mono S) (n : Nat) : Least S n (leastL S n) := (sweeps_turned hm n (n + 1)).least

theorem closed_under {S : List Bool → Nat → Bool} (hm : Mono S) {n : Nat} {x : List Bool} (hc : Closed S n x) (hu : Under S n x) : x = leastL S n := by
  have hl := leastL_least hm n
  refine ext_yn (hc.1.trans hl.1.1.symm) fun i hi => ?_
  rw [Bool.eq_iff_iff]
  exact ⟨hu.2 _ ⟨hl.1.1, fun j hj h => by rw [hl.1.2 j hj]; exact h⟩ i, hl.2.2 x hc i⟩
end Go.Proofs.YtmghkonmfbpjcabDoor

/- Plain law: the least answer, found by turns; registers that are live; what is dead. No program in sight. -/
namespace Go.Proofs.YtmghkonmfbpjcabDoor
set_option linter.unusedVariables false
set_option linter.unusedSimpArgs false
open Go.RowKit

/-- a node that has gone silent -/
def hush (n : Nd) : Nd := ⟨0, 0, 0, 0, n.t, 0⟩
/-- a register is live at a node -/
inductive Lv (l : List Nd) (r : Int) : Int → Prop
  | use (i : Nat) (n : Nd) (hn : l[i]? = some n) (hu : ((hasA n.op && n.a == r) || (hasB n.op && n.b == r)) = true) : Lv l r i
  | then_ (i : Nat) (n : Nd) (hn : l[i]? = some n) (hs : (hasD n.op && n.d == r) = false) (hop : n.op ≠ 12) (h : Lv l r n.t) : Lv l r i
  | else_ (i : Nat) (n : Nd) (hn : l[i]? = some n) (hs : (hasD n.op && n.d == r) = false) (hop : n.op = 11) (h : Lv l r n.e) : Lv l r i
/-- a node is dead -/
def DeadN (l : List Nd) (i : Nat) : Prop := ∃ n, l[i]? = some n ∧ 1 ≤ n.op ∧ n.op ≤ 8 ∧ ¬ Lv l n.d n.t
def hushAt (l : List Nd) (i : Nat) : List Nd := l.set i (hush (l.getD i default))
theorem hushAt_get {l : List Nd} {i j : Nat} {n : Nd} (hn : l[i]? = some n) : (hushAt l i)[j]? = if j = i then some (hush n) else l[j]? := by
  have hlt : i < l.length := (List.getElem?_eq_some_iff.1 hn).1
  have hg : l.getD i default = n := by rw [List.getD_eq_getElem?_getD, hn]; rfl
  unfold hushAt
  rw [hg, List.getElem?_set]
  by_cases h : i = j
  · subst h; simp [hlt]
  · rw [if_neg h, if_neg (fun e => h e.symm)]
theorem Lv.of_hush {l : List Nd} {i : Nat} {r j : Int} (hd : DeadN l i) (h : Lv (hushAt l i) r j) : Lv l r j := by
  obtain ⟨n, hn, h1, h8, hlv⟩ := hd
  induction h with
  | use k m hm hu =>
    rw [hushAt_get hn] at hm
    by_cases hk : k = i
    · rw [if_pos hk] at hm
      cases hm
      simp [hush, hasA, hasB, inB] at hu
    · rw [if_neg hk] at hm
      exact .use k m hm hu
  | then_ k m hm hs hop _ ih =>
    rw [hushAt_get hn] at hm
    by_cases hk : k = i
    · rw [if_pos hk] at hm
      cases hm
      subst hk
      have ih' : Lv l r n.t := ih
      have hs' : (hasD n.op && n.d == r) = false := by
        cases hq : (hasD n.op && n.d == r) with
        | false => rfl
        | true =>
          have : n.d = r := beq_iff_eq.1 (Bool.and_eq_true_iff.1 hq).2
          rw [this] at hlv
          exact absurd ih' hlv
      exact .then_ k n hn hs' (by omega) ih'
    · rw [if_neg hk] at hm
      exact .then_ k m hm hs hop ih
  | else_ k m hm hs hop _ ih =>
    rw [hushAt_get hn] at hm
    by_cases hk : k = i
    · rw [if_pos hk] at hm
      cases hm
      simp [hush] at hop
    · rw [if_neg hk] at hm
      exact .else_ k m hm hs hop ih
theorem DeadN.still {l : List Nd} {i j : Nat} (hi : DeadN l i) (hj : DeadN l j) (hne : j ≠ i) : DeadN (hushAt l i) j := by
  obtain ⟨m, hm, h1, h8, hlv⟩ := hj
  obtain ⟨n, hn, _⟩ := id hi
  exact ⟨m, by rw [hushAt_get hn, if_neg hne]; exact hm, h1, h8, fun h => hlv (h.of_hush hi)⟩
theorem hushAt_comm {l : List Nd} {i j : Nat} (hi : DeadN l i) (hj : DeadN l j) : hushAt (hushAt l i) j = hushAt (hushAt l j) i := by
  by_cases h : i = j
  · subst h; rfl
  · obtain ⟨n, hn, _⟩ := hi
    obtain ⟨m, hm, _⟩ := hj
    refine List.ext_getElem? fun k => ?_
    rw [hushAt_get (n := m) (by rw [hushAt_get hn, if_neg (fun e => h e.symm)]; exact hm), hushAt_get hn, hushAt_get (l := hushAt l j) (n := n) (by rw [hushAt_get hm, if_neg h]; exact hn), hushAt_get hm]
    by_cases h1 : k = j <;> by_cases h2 : k = i <;> simp [h1, h2] <;> omega
/-- dead nodes gone silent, one by one -/
inductive Hushes : List Nd → List Nd → Prop
  | nil (l : List Nd) : Hushes l l
  | one (l l' : List Nd) (i : Nat) (hd : DeadN l i) (h : Hushes (hushAt l i) l') : Hushes l l'
theorem Hushes.snoc {l l' : List Nd} (h : Hushes l l') {i : Nat} (hd : DeadN l' i) : Hushes l (hushAt l' i) := by
  induction h with
  | nil l => exact .one _ _ i hd (.nil _)
  | one l l' j hj _ ih => exact .one _ _ j hj (ih hd)
theorem Hushes.past {l l2 : List Nd} (h : Hushes l l2) (hn : ∀ i, ¬ DeadN l2 i) {i : Nat} (hi : DeadN l i) : Hushes (hushAt l i) l2 := by
  induction h generalizing i with
  | nil l => exact absurd hi (hn i)
  | one l l' j hj h' ih =>
    by_cases hij : i = j
    · subst hij; exact h'
    · have := ih hn (hj.still hi hij)
      rw [hushAt_comm hj hi] at this
      exact .one _ _ j (hi.still hj (fun e => hij e.symm)) this
theorem Hushes.unique {l l1 l2 : List Nd} (h1 : Hushes l l1) (n1 : ∀ i, ¬ DeadN l1 i) (h2 : Hushes l l2) (n2 : ∀ i, ¬ DeadN l2 i) : l1 = l2 := by
  induction h1 with
  | nil l =>
    cases h2 with
    | nil => rfl
    | one _ _ i hd _ => exact absurd hd (n1 i)
  | one l l' j hj h' ih => exact ih n1 (h2.past n2 hj)

def usesB (n : Nd) (r : Int) : Bool := (hasA n.op && n.a == r) || (hasB n.op && n.b == r)
def makesB (n : Nd) (r : Int) : Bool := hasD n.op && n.d == r
def behindB (n : Nd) (x : List Bool) : Bool := (n.op != 12 && yn x n.t.toNat) || (n.op == 11 && yn x n.e.toNat)
/-- what is asked of a register at a node -/
def liveS (l : List Nd) (r : Int) (x : List Bool) (i : Nat) : Bool := usesB (l.getD i default) r || (!makesB (l.getD i default) r && behindB (l.getD i default) x)
theorem liveS_mono (l : List Nd) (r : Int) : Mono (liveS l r) := fun x y i h hs => by
  unfold liveS behindB at *
  simp only [Bool.or_eq_true, Bool.and_eq_true] at *
  exact hs.imp id fun ⟨h1, h2⟩ => ⟨h1, h2.imp (fun ⟨a, b⟩ => ⟨a, h _ b⟩) fun ⟨a, b⟩ => ⟨a, h _ b⟩⟩
/-- the ways of a node lead to nodes -/
def Ways (l : List Nd) : Prop := ∀ (i : Nat) (n : Nd), l[i]? = some n → (n.op ≠ 12 → 0 ≤ n.t ∧ n.t < l.length) ∧ (n.op = 11 → 0 ≤ n.e ∧ n.e < l.length)
theorem Least.lv {l : List Nd} {r : Int} {x : List Bool} (h : Least (liveS l r) l.length x) (hw : Ways l) {i : Nat} (hi : i < l.length) : yn x i = true ↔ Lv l r i := by
  constructor
  · intro hx
    classical
    let z : List Bool := (List.range l.length).map fun j => decide (Lv l r (j : Nat))
    have hz : ∀ j : Nat, j < l.length → yn z j = decide (Lv l r (j : Int)) := fun j hj => by simp [z, yn, hj]
    have hc : Closed (liveS l r) l.length z := ⟨by simp [z], fun j hj hs => by
      rw [hz j hj, decide_eq_true_iff]
      have hn : l[j]? = some l[j] := List.getElem?_eq_getElem hj
      have hg : l.getD j default = l[j] := by rw [List.getD_eq_getElem?_getD, hn]; rfl
      unfold liveS at hs
      rw [hg] at hs
      obtain ⟨w1, w2⟩ := hw j _ hn
      simp only [Bool.or_eq_true, Bool.and_eq_true, Bool.not_eq_true', behindB, bne_iff_ne, beq_iff_eq] at hs
      rcases hs with hu | ⟨hm, ⟨ho, ht⟩ | ⟨ho, he⟩⟩
      · exact .use j _ hn hu
      · obtain ⟨a, b⟩ := w1 ho
        rw [hz _ (by omega), decide_eq_true_iff, Int.toNat_of_nonneg a] at ht
        exact .then_ j _ hn hm ho ht
      · obtain ⟨a, b⟩ := w2 ho
        rw [hz _ (by omega), decide_eq_true_iff, Int.toNat_of_nonneg a] at he
        exact .else_ j _ hn hm ho he⟩
    have := h.2.2 z hc i hx
    rwa [hz i hi, decide_eq_true_iff] at this
  · intro hl
    have key : ∀ j : Int, Lv l r j → yn x j.toNat = true := by
      intro j hj
      induction hj with
      | use k m hm hu =>
        have hk : k < l.length := (List.getElem?_eq_some_iff.1 hm).1
        have hg : l.getD k default = m := by rw [List.getD_eq_getElem?_getD, hm]; rfl
        have := h.1.2 k hk
        rw [show ((k : Int)).toNat = k by omega, this]
        unfold liveS usesB
        rw [hg, hu]; rfl
      | then_ k m hm hs hop _ ih =>
        have hk : k < l.length := (List.getElem?_eq_some_iff.1 hm).1
        have hg : l.getD k default = m := by rw [List.getD_eq_getElem?_getD, hm]; rfl
        have := h.1.2 k hk
        rw [show ((k : Int)).toNat = k by omega, this]
        unfold liveS makesB behindB
        rw [hg, hs, ih]
        simp [hop]
      | else_ k m hm hs hop _ ih =>
        have hk : k < l.length := (List.getElem?_eq_some_iff.1 hm).1
        have hg : l.getD k default = m := by rw [List.getD_eq_getElem?_getD, hm]; rfl
        have := h.1.2 k hk
        rw [show ((k : Int)).toNat = k by omega, this]
        unfold liveS makesB behindB
        rw [hg, hs, ih]
        simp [hop]
    have := key i hl
    rwa [show ((i : Int)).toNat = i by omega] at this

/-! Sets of registers, a bit each. -/
def bitsAt (r : Nat) (ats : List Nat) : List Bool := ats.map fun z => z.testBit r
theorem bitsAt_set (r k z : Nat) (ats : List Nat) : bitsAt r (ats.set k z) = (bitsAt r ats).set k (z.testBit r) := List.map_set
theorem yn_bitsAt (r k : Nat) (ats : List Nat) : yn (bitsAt r ats) k = (ats.getD k 0).testBit r := by
  unfold yn bitsAt
  rw [List.getD_eq_getElem?_getD, List.getD_eq_getElem?_getD, List.getElem?_map]
  cases ats[k]? <;> simp
theorem nat_le_of_bits {a b : Nat} (h : ∀ r, a.testBit r = true → b.testBit r = true) : a ≤ b := by
  have : a &&& b = a := Nat.eq_of_testBit_eq fun r => by
    rw [Nat.testBit_and]
    cases ha : a.testBit r with
    | true => rw [h r ha]; rfl
    | false => rfl
  rw [← this]
  exact Nat.and_le_right
/-- the sets so far: each register's answer is below all that must be -/
def Bits (l : List Nd) (ats : List Nat) : Prop := ats.length = l.length ∧ (∀ z ∈ ats, z < 2 ^ 64) ∧ ∀ r : Nat, r < 64 → Post (liveS l r) l.length (bitsAt r ats) ∧ Under (liveS l r) l.length (bitsAt r ats)
theorem Bits.start (l : List Nd) : Bits l (List.replicate l.length 0) := by
  have h0 : ∀ r i, yn (bitsAt r (List.replicate l.length 0)) i = false := fun r i => by
    rw [yn_bitsAt]
    simp [List.getD_eq_getElem?_getD, List.getElem?_replicate]
    split <;> simp
  refine ⟨by simp, fun z hz => by rw [List.eq_of_mem_replicate hz]; decide, fun r _ => ?_⟩
  have := Turned.start (S := liveS l r) (n := l.length) (x := bitsAt r (List.replicate l.length 0)) (by simp [bitsAt]) (h0 r)
  exact ⟨this.1, this.2.1⟩
theorem Bits.put {l : List Nd} {ats : List Nat} (h : Bits l ats) {k z : Nat} (hk : k < l.length) (hz : z < 2 ^ 64) (hb : ∀ r : Nat, r < 64 → z.testBit r = liveS l r (bitsAt r ats) k) :
    Bits l (ats.set k z) ∧ ats.getD k 0 ≤ z := by
  obtain ⟨hl, hlt, hr⟩ := h
  refine ⟨⟨by simpa using hl, fun y hy => ?_, fun r h64 => ?_⟩, nat_le_of_bits fun r ht => ?_⟩
  · rcases List.mem_or_eq_of_mem_set hy with h | rfl
    · exact hlt y h
    · exact hz
  · rw [bitsAt_set, hb r h64]
    exact ⟨(hr r h64).1.put (liveS_mono l r) hk, (hr r h64).2.put (liveS_mono l r) hk⟩
  · by_cases h64 : r < 64
    · rw [hb r h64]
      exact (hr r h64).1.2 k hk (by rw [yn_bitsAt]; exact ht)
    · have hk' : k < ats.length := by omega
      have : ats.getD k 0 < 2 ^ r := Nat.lt_of_lt_of_le (by rw [List.getD_eq_getElem?_getD, List.getElem?_eq_getElem hk']; exact hlt _ (List.getElem_mem hk')) (Nat.pow_le_pow_right (by omega) (by omega))
      rw [Nat.testBit_lt_two_pow this] at ht
      cases ht
theorem Bits.done {l : List Nd} {ats : List Nat} (h : Bits l ats) (he : ∀ k r : Nat, k < l.length → r < 64 → (ats.getD k 0).testBit r = liveS l r (bitsAt r ats) k) {r : Nat} (h64 : r < 64) : Least (liveS l r) l.length (bitsAt r ats) :=
  ⟨⟨(h.2.2 r h64).1.1, fun i hi => by rw [yn_bitsAt]; exact he i r hi h64⟩, (h.2.2 r h64).2⟩

theorem sum_set {ats : List Nat} {k z : Nat} (hk : k < ats.length) : (ats.set k z).sum + ats.getD k 0 = ats.sum + z := by
  induction ats generalizing k with
  | nil => simp at hk
  | cons a ats ih =>
    cases k with
    | zero => simp; omega
    | succ k =>
      have := ih (k := k) (by simpa using hk)
      simp only [List.set_cons_succ, List.sum_cons, List.getD_cons_succ]
      omega
theorem sum_le {ats : List Nat} {b : Nat} (h : ∀ z ∈ ats, z ≤ b) : ats.sum ≤ ats.length * b := by
  induction ats with
  | nil => simp
  | cons a ats ih =>
    have h1 := h a (by simp)
    have h2 := ih fun z hz => h z (by simp [hz])
    simp only [List.sum_cons, List.length_cons, Nat.succ_mul]
    omega
end Go.Proofs.YtmghkonmfbpjcabDoor

/- Sets of registers as numbers of 64 bits: what is left of one without another, one register's set. No program in sight. -/
namespace Go.Proofs.YtmghkonmfbpjcabDoor
set_option linter.unusedVariables false
set_option linter.unusedSimpArgs false
open Go.RowKit

theorem u64_without (a b : Nat) (ha : a < 18446744073709551616) (hb : b < 18446744073709551616) : bits .andNot .u64 (a : Int) (b : Int) = ((a &&& (18446744073709551615 - b) : Nat) : Int) := by
  have e : ∀ c : Nat, c < 18446744073709551616 → (BitVec.ofInt 64 (c : Int)).toNat = c := fun c hc => by
    rw [BitVec.ofInt_natCast, BitVec.toNat_ofNat]; exact Nat.mod_eq_of_lt hc
  have hx : a &&& (18446744073709551615 - b) ≤ a := Nat.and_le_left
  show IntKind.u64.wrap ((BitVec.ofInt 64 (a : Int) &&& ~~~ BitVec.ofInt 64 (b : Int)).toNat : Int) = _
  rw [BitVec.toNat_and, BitVec.toNat_not, e a ha, e b hb, IntKind.wrap_u64]
  have : 2 ^ 64 - 1 - b = 18446744073709551615 - b := by omega
  rw [this]
  omega
theorem bit_without {b r : Nat} (hb : b < 18446744073709551616) (hr : r < 64) : (18446744073709551615 - b).testBit r = !b.testBit r := by
  have := Nat.testBit_two_pow_sub_succ (n := 64) (x := b) (by omega) r
  rw [show 2 ^ 64 - (b + 1) = 18446744073709551615 - b by omega] at this
  rw [this]
  simp [hr]
theorem bit_one (k r : Nat) : (2 ^ k).testBit r = decide (k = r) := Nat.testBit_two_pow
end Go.Proofs.YtmghkonmfbpjcabDoor

/- Plain law: the set of registers that a node asks for. No program in sight. -/
namespace Go.Proofs.YtmghkonmfbpjcabDoor
set_option linter.unusedVariables false
set_option linter.unusedSimpArgs false
open Go.RowKit

/-- the registers that a node uses -/
def usedN (n : Nd) : Nat := if hasB n.op = true then 2 ^ n.a.toNat ||| 2 ^ n.b.toNat else if hasA n.op = true then 2 ^ n.a.toNat else 0
def madeN (n : Nd) : Nat := if hasD n.op = true then 2 ^ n.d.toNat else 0
def behindN (n : Nd) (ats : List Nat) : Nat := if n.op = 12 then 0 else if n.op = 11 then ats.getD n.t.toNat 0 ||| ats.getD n.e.toNat 0 else ats.getD n.t.toNat 0
def newN (n : Nd) (ats : List Nat) : Nat := usedN n ||| (behindN n ats &&& (18446744073709551615 - madeN n))

/-- the registers of a node lie in their bounds -/
def Regs64 (n : Nd) : Prop := (hasD n.op = true → 0 ≤ n.d ∧ n.d < 64) ∧ (hasA n.op = true → 0 ≤ n.a ∧ n.a < 64) ∧ (hasB n.op = true → 0 ≤ n.b ∧ n.b < 64)
theorem Right.regs64 {regs : Int} {l : List Nd} (h : Right regs l) {n : Nd} (hn : n ∈ l) : Regs64 n := by
  have h1 := h.rng n hn
  have hr := h.rhi
  simp only [badR, Bool.or_eq_false_iff, Bool.not_eq_false'] at h1
  obtain ⟨⟨⟨⟨h2, h3⟩, h4⟩, _⟩, _⟩ := h1
  refine ⟨fun hh => ?_, fun hh => ?_, fun hh => ?_⟩
  · simp [okR, hh] at h2; omega
  · simp [okR, hh] at h3; omega
  · simp [okR, hh] at h4; omega

theorem two_pow_lt {k : Nat} (h : k < 64) : 2 ^ k < 18446744073709551616 := by
  have : 2 ^ k < 2 ^ 64 := Nat.pow_lt_pow_right (by omega) h
  simpa using this
theorem or_lt {a b : Nat} (ha : a < 18446744073709551616) (hb : b < 18446744073709551616) : a ||| b < 18446744073709551616 := by
  have := Nat.or_lt_two_pow (x := a) (y := b) (n := 64) (by simpa using ha) (by simpa using hb)
  simpa using this
theorem usedN_lt {n : Nd} (h : Regs64 n) : usedN n < 18446744073709551616 := by
  obtain ⟨_, h2, h3⟩ := h
  unfold usedN
  split
  · rename_i hb
    have ha : hasA n.op = true := by simp [hasB, hasA, inB] at *; omega
    exact or_lt (two_pow_lt (by have := h2 ha; omega)) (two_pow_lt (by have := h3 hb; omega))
  · split
    · rename_i ha
      exact two_pow_lt (by have := h2 ha; omega)
    · omega
theorem madeN_lt {n : Nd} (h : Regs64 n) : madeN n < 18446744073709551616 := by
  unfold madeN
  split
  · rename_i hd; exact two_pow_lt (by have := h.1 hd; omega)
  · omega
theorem getD_lt {ats : List Nat} (h : ∀ z ∈ ats, z < 2 ^ 64) (k : Nat) : ats.getD k 0 < 18446744073709551616 := by
  rw [List.getD_eq_getElem?_getD]
  rcases hk : ats[k]? with _ | z
  · simp
  · have := h z (List.mem_of_getElem? hk)
    simpa using this
theorem behindN_lt {n : Nd} {ats : List Nat} (h : ∀ z ∈ ats, z < 2 ^ 64) : behindN n ats < 18446744073709551616 := by
  unfold behindN
  split
  · omega
  · split
    · exact or_lt (getD_lt h _) (getD_lt h _)
    · exact getD_lt h _
theorem newN_lt {n : Nd} {ats : List Nat} (hn : Regs64 n) (h : ∀ z ∈ ats, z < 2 ^ 64) : newN n ats < 18446744073709551616 :=
  or_lt (usedN_lt hn) (Nat.lt_of_le_of_lt Nat.and_le_left (behindN_lt h))
theorem bit_of {z : Int} {r : Nat} (h : 0 ≤ z) : (2 ^ z.toNat).testBit r = (z == (r : Int)) := by
  rw [bit_one, Bool.eq_iff_iff, decide_eq_true_iff, beq_iff_eq]
  omega
theorem newN_bit {n : Nd} {ats : List Nat} (hn : Regs64 n) {r : Nat} (hr : r < 64) :
    (newN n ats).testBit r = (usesB n r || (!makesB n r && behindB n (bitsAt r ats))) := by
  have hu : (usedN n).testBit r = usesB n r := by
    obtain ⟨_, h2, h3⟩ := hn
    unfold usedN usesB
    split
    · rename_i hb
      have ha : hasA n.op = true := by simp [hasB, hasA, inB] at *; omega
      rw [Nat.testBit_or, bit_of (h2 ha).1, bit_of (h3 hb).1, ha, hb]
      simp
    · rename_i hb
      have hb' : hasB n.op = false := by simpa using hb
      split
      · rename_i ha
        rw [bit_of (h2 ha).1, ha, hb']
        simp
      · rename_i ha
        have ha' : hasA n.op = false := by simpa using ha
        rw [ha', hb']
        simp
  have hm : (madeN n).testBit r = makesB n r := by
    unfold madeN makesB
    split
    · rename_i hd
      rw [bit_of (hn.1 hd).1, hd]
      simp
    · rename_i hd
      have hd' : hasD n.op = false := by simpa using hd
      rw [hd']
      simp
  have hb : (behindN n ats).testBit r = behindB n (bitsAt r ats) := by
    unfold behindN behindB
    by_cases h12 : n.op = 12
    · simp [h12]
    · rw [if_neg h12]
      by_cases h11 : n.op = 11
      · rw [if_pos h11, Nat.testBit_or, yn_bitsAt, yn_bitsAt]
        simp [h11]
      · have e1 : (n.op != 12) = true := by simp [h12]
        have e2 : (n.op == 11) = false := by simp [h11]
        rw [if_neg h11, yn_bitsAt, e1, e2]
        simp
  unfold newN
  rw [Nat.testBit_or, Nat.testBit_and, hu, hb, bit_without (madeN_lt hn) hr, hm]
  cases usesB n r <;> cases makesB n r <;> cases behindB n (bitsAt r ats) <;> rfl

def u64s (l : List Nat) : List Value := l.map fun (z : Nat) => .int .u64 (z : Int)
theorem u64s_length (l : List Nat) : (u64s l).length = l.length := List.length_map _
theorem u64s_get (a : List Nat) (k : Nat) : (u64s a)[k]? = a[k]?.map fun (z : Nat) => .int .u64 (z : Int) := List.getElem?_map
theorem u64s_set (x : List Nat) (k z : Nat) : (u64s x).set k (.int .u64 (z : Int)) = u64s (x.set k z) := (List.map_set).symm
theorem ValsAt.u64 {w : World} {A : Option Addr} {l : List Nat} (h : ValsAt w A (u64s l)) {k : Nat} (hk : k < l.length) :
    ∃ b off, A = some ⟨b, off, none⟩ ∧ b < w.heap.size ∧ w.cell? ⟨b, off + k, none⟩ = some (.int .u64 ((l.getD k 0 : Nat) : Int)) := by
  obtain ⟨b, off, v, e, hb, hv, hc⟩ := h.get (k := k) (by rw [u64s_length]; exact hk)
  rw [u64s_get, List.getElem?_eq_getElem hk] at hv
  simp at hv
  subst hv
  exact ⟨b, off, e, hb, by rw [hc]; simp [hk]⟩
theorem Row.u64 {w : World} {B : Nat} {e : TypeId} {v : Value} {x : List Nat} (h : Row w B e v (u64s x)) {k : Nat} (hk : k < x.length) :
    ∃ g o cap, v = .slice (some ⟨g, o, none⟩) x.length cap ∧ B ≤ g ∧ g < w.heap.size ∧ w.cell? ⟨g, o + k, none⟩ = some (.int .u64 ((x.getD k 0 : Nat) : Int)) ∧ w.frozen? ⟨g, o + k, none⟩ = false := by
  obtain ⟨g, o, cap, u, e1, hb, hl, hu, hc, hf⟩ := h.get (k := k) (by rw [u64s_length]; exact hk)
  rw [u64s_get, List.getElem?_eq_getElem hk] at hu
  simp at hu
  subst hu
  rw [u64s_length] at e1
  exact ⟨g, o, cap, e1, hb, hl, by rw [hc]; simp [hk], hf⟩
end Go.Proofs.YtmghkonmfbpjcabDoor

/- Plain law: the least answer reckoned; a set of registers as a list; the lists of what is live. No program in sight. -/
namespace Go.Proofs.YtmghkonmfbpjcabDoor
set_option linter.unusedVariables false
set_option linter.unusedSimpArgs false
open Go.RowKit

/-- where a register is live -/
def lvx (l : List Nd) (r : Nat) : List Bool := leastL (liveS l r) l.length
theorem lvx_least (l : List Nd) (r : Nat) : Least (liveS l r) l.length (lvx l r) := leastL_least (liveS_mono l r) l.length
/-- the registers that are live at a node -/
def liveL (regs : Nat) (l : List Nd) (i : Nat) : List Int := sel (fun r => yn (lvx l r) i) regs

theorem sel_none {p : Nat → Bool} {k : Nat} (h : ∀ r, r < k → p r = false) : sel p k = [] := by
  induction k with
  | zero => rfl
  | succ k ih => rw [sel_succ_false (h k (by omega)), ih fun r hr => h r (by omega)]
theorem sel_congr {p q : Nat → Bool} {k : Nat} (h : ∀ r, r < k → p r = q r) : sel p k = sel q k := by
  induction k with
  | zero => rfl
  | succ k ih =>
    have hk := h k (by omega)
    cases hp : p k
    · rw [sel_succ_false hp, sel_succ_false (by rw [← hk]; exact hp), ih fun r hr => h r (by omega)]
    · rw [sel_succ_true hp, sel_succ_true (by rw [← hk]; exact hp), ih fun r hr => h r (by omega)]
theorem sel_stop {p : Nat → Bool} {m : Nat} : ∀ K, m ≤ K → (∀ r, m ≤ r → r < K → p r = false) → sel p K = sel p m
  | 0, h, _ => by rw [show m = 0 by omega]
  | K + 1, h, hp => by
    by_cases hm : m = K + 1
    · rw [hm]
    · rw [sel_succ_false (hp K (by omega) (by omega))]
      exact sel_stop K (by omega) fun r h1 h2 => hp r h1 (by omega)
theorem sel_first {p q : Nat → Bool} {k : Nat} (h0 : ∀ r, r < k → p r = false) (h1 : p k = true) (hq : ∀ r, q r = (p r && r != k)) : ∀ K, k < K → sel p K = (k : Int) :: sel q K
  | 0, h => absurd h (by omega)
  | K + 1, h => by
    by_cases hk : k = K
    · subst hk
      rw [sel_succ_true h1, sel_none h0, sel_succ_false (by rw [hq]; simp), sel_none fun r hr => by rw [hq, h0 r hr]; rfl]
      rfl
    · have ih := sel_first h0 h1 hq K (by omega)
      have hqK : q K = p K := by rw [hq]; simp; omega
      cases hp : p K
      · rw [sel_succ_false hp, sel_succ_false (by rw [hqK]; exact hp), ih]
      · rw [sel_succ_true hp, sel_succ_true (by rw [hqK]; exact hp), ih]
        rfl

def regsOf (z : Nat) : List Int := sel (fun r => z.testBit r) 64
theorem regsOf_zero : regsOf 0 = [] := sel_none fun r _ => by simp
theorem bit_low {k m r : Nat} : (2 ^ k * (2 * m + 1)).testBit r = if r < k then false else if r = k then true else m.testBit (r - k - 1) := by
  have h := Nat.testBit_two_pow_mul_add (2 * m + 1) (i := k) (b := 0) (by exact Nat.two_pow_pos k) r
  rw [Nat.add_zero] at h
  rw [h]
  split
  · simp
  · rename_i h1
    by_cases h2 : r = k
    · subst h2; simp
    · rw [if_neg h2, show r - k = (r - k - 1) + 1 by omega, Nat.testBit_succ, show (2 * m + 1) / 2 = m by omega]
      simp
theorem bit_lower {k m r : Nat} : (2 ^ k * (2 * m + 1) - 1).testBit r = if r < k then true else if r = k then false else m.testBit (r - k - 1) := by
  have hp := Nat.two_pow_pos k
  have e : 2 ^ k * (2 * m + 1) - 1 = 2 ^ k * (2 * m) + (2 ^ k - 1) := by
    rw [Nat.mul_add, Nat.mul_one]
    omega
  have h := Nat.testBit_two_pow_mul_add (2 * m) (i := k) (b := 2 ^ k - 1) (by omega) r
  rw [e, h]
  split
  · rename_i h1
    rw [Nat.testBit_two_pow_sub_one]
    simp [h1]
  · rename_i h1
    by_cases h2 : r = k
    · subst h2; simp
    · rw [if_neg h2, show r - k = (r - k - 1) + 1 by omega, Nat.testBit_succ, show (2 * m) / 2 = m by omega]
      simp
theorem regsOf_cons {z : Nat} (h0 : z ≠ 0) (h : z < 2 ^ 64) : regsOf z = (Lib.ctz 64 z : Int) :: regsOf (z &&& (z - 1)) ∧ Lib.ctz 64 z < 64 ∧ z &&& (z - 1) < z := by
  obtain ⟨m, hz, hk⟩ := Lib.ctzFrom_spec 64 z (by omega) h
  have hc : Lib.ctz 64 z = Lib.ctzFrom 64 z := by simp [Lib.ctz, h0]
  rw [hc]
  generalize Lib.ctzFrom 64 z = k at *
  refine ⟨sel_first (fun r hr => ?_) ?_ (fun r => ?_) 64 hk, hk, ?_⟩
  · rw [hz, bit_low, if_pos hr]
  · rw [hz, bit_low]; simp
  · rw [Nat.testBit_and, hz, bit_low, bit_lower]
    by_cases h1 : r < k
    · simp [h1]
    · by_cases h2 : r = k
      · subst h2; simp
      · simp [h1, h2]
  · have : z &&& (z - 1) ≤ z - 1 := Nat.and_le_right
    omega
theorem regsOf_len (z : Nat) : (regsOf z).length ≤ 64 := sel_len _ _

/-- a register beyond the program's is live nowhere -/
theorem lvx_beyond {regs : Int} {l : List Nd} (hR : Right regs l) {r : Nat} (hr : regs ≤ r) (i : Nat) : yn (lvx l r) i = false := by
  have hl := lvx_least l r
  have hc : Closed (liveS l r) l.length (List.replicate l.length false) := by
    refine ⟨by simp, fun j hj hs => ?_⟩
    have hn : l[j]? = some l[j] := List.getElem?_eq_getElem hj
    have hg : l.getD j default = l[j] := by rw [List.getD_eq_getElem?_getD, hn]; rfl
    have hno : ∀ q, yn (List.replicate l.length false) q = false := fun q => by simp [yn, List.getD_eq_getElem?_getD, List.getElem?_replicate]; split <;> simp
    have hrng := hR.rng l[j] (List.getElem_mem hj)
    simp only [badR, Bool.or_eq_false_iff, Bool.not_eq_false'] at hrng
    obtain ⟨⟨⟨⟨_, h3⟩, h4⟩, _⟩, _⟩ := hrng
    unfold liveS at hs
    rw [hg] at hs
    simp only [behindB, hno, Bool.and_false, Bool.or_false, Bool.and_false] at hs
    unfold usesB at hs
    simp only [Bool.or_eq_true, Bool.and_eq_true, beq_iff_eq] at hs
    rcases hs with ⟨h5, h6⟩ | ⟨h5, h6⟩
    · simp [okR, h5] at h3; omega
    · simp [okR, h5] at h4; omega
  by_cases hi : yn (lvx l r) i = true
  · have := hl.2.2 _ hc i hi
    simp [yn, List.getD_eq_getElem?_getD, List.getElem?_replicate] at this
    split at this <;> simp at this
  · simpa using hi
/-- what the sets of bits say is live -/
theorem regsOf_live {regs : Int} {l : List Nd} (hR : Right regs l) {ats : List Nat} (h : ∀ r : Nat, r < 64 → Least (liveS l r) l.length (bitsAt r ats)) (i : Nat) : regsOf (ats.getD i 0) = liveL regs.toNat l i := by
  have hlo := hR.rlo
  have hhi := hR.rhi
  unfold regsOf liveL
  have hb : ∀ r, r < 64 → (ats.getD i 0).testBit r = yn (lvx l r) i := fun r hr => by
    rw [← Least.unique (h r hr) (lvx_least l r), yn_bitsAt]
  rw [sel_congr hb]
  exact sel_stop 64 (by omega) fun r h1 h2 => lvx_beyond hR (by omega) i
end Go.Proofs.YtmghkonmfbpjcabDoor

/- Plain law: dead nodes, one by one. No program in sight. -/
namespace Go.Proofs.YtmghkonmfbpjcabDoor
set_option linter.unusedVariables false
set_option linter.unusedSimpArgs false
open Go.RowKit

theorem Right.ways {regs : Int} {l : List Nd} (h : Right regs l) : Ways l := fun i n hn =>
  ⟨fun h12 => by have := h.then_ (List.mem_of_getElem? hn) h12; omega, fun h11 => by have := h.else_ (List.mem_of_getElem? hn) h11; omega⟩
theorem Right.set {regs : Int} {l : List Nd} (h : Right regs l) (i : Nat) {n : Nd} (h1 : opOk n.op = true) (h2 : badR regs l.length n = false) (h3 : badF n = false) : Right regs (l.set i n) := by
  refine ⟨by simpa using h.lo, by simpa using h.hi, h.rlo, h.rhi, fun m hm => ?_, fun m hm => ?_, fun m hm => ?_⟩
  · rcases List.mem_or_eq_of_mem_set hm with h' | rfl
    · exact h.ok m h'
    · exact h1
  · rw [List.length_set]
    rcases List.mem_or_eq_of_mem_set hm with h' | rfl
    · exact h.rng m h'
    · exact h2
  · rcases List.mem_or_eq_of_mem_set hm with h' | rfl
    · exact h.frm m h'
    · exact h3
theorem hushAt_eq {l : List Nd} {i : Nat} {n : Nd} (hn : l[i]? = some n) : hushAt l i = l.set i (hush n) := by
  unfold hushAt
  rw [List.getD_eq_getElem?_getD, hn]
  rfl
theorem Right.hush {regs : Int} {l : List Nd} (h : Right regs l) {i : Nat} {n : Nd} (hn : l[i]? = some n) (h12 : n.op ≠ 12) : Right regs (hushAt l i) := by
  rw [hushAt_eq hn]
  have ht := h.then_ (List.mem_of_getElem? hn) h12
  refine h.set i (by simp [Go.Proofs.YtmghkonmfbpjcabDoor.hush, opOk, inB]) ?_ ?_
  · simp [badR, Go.Proofs.YtmghkonmfbpjcabDoor.hush, okR, okN, hasD, hasA, hasB, hasE, shT, opOk, inB]
    exact ⟨decide_eq_true (by omega), decide_eq_true (by omega)⟩
  · simp [badF, Go.Proofs.YtmghkonmfbpjcabDoor.hush, okF, shT, opOk, inB]
/-- how many nodes are no skips -/
def busyN (l : List Nd) : Nat := l.countP fun n => n.op != 0
theorem busyN_hush {l : List Nd} {i : Nat} {n : Nd} (hn : l[i]? = some n) (h0 : n.op ≠ 0) : busyN (hushAt l i) < busyN l := by
  rw [hushAt_eq hn]
  have hi : i < l.length := (List.getElem?_eq_some_iff.1 hn).1
  have he : l[i] = n := (List.getElem?_eq_some_iff.1 hn).2
  unfold busyN
  rw [List.countP_set (h := hi)]
  have h1 : (l[i].op != 0) = true := by rw [he]; simpa using h0
  have h2 : 0 < l.countP fun n => n.op != 0 := List.countP_pos_iff.2 ⟨l[i], List.getElem_mem hi, h1⟩
  have h3 : ((Go.Proofs.YtmghkonmfbpjcabDoor.hush n).op != 0) = false := by simp [Go.Proofs.YtmghkonmfbpjcabDoor.hush]
  simp only [h1, h3]
  simp
  omega
theorem hushAt_len (l : List Nd) (i : Nat) : (hushAt l i).length = l.length := by simp [hushAt]

theorem bit_zero_iff {x d : Nat} : (((x &&& 2 ^ d : Nat) : Int) == 0) = !x.testBit d := by
  rw [Bool.eq_iff_iff]
  simp only [beq_iff_eq, Bool.not_eq_true', Int.natCast_eq_zero]
  constructor
  · intro h
    have := congrArg (fun z => z.testBit d) h
    simpa [Nat.testBit_and, bit_one] using this
  · intro h
    refine Nat.eq_of_testBit_eq fun r => ?_
    rw [Nat.testBit_and, bit_one, Nat.zero_testBit]
    by_cases hr : d = r
    · subst hr; simp [h]
    · simp [hr]
/-- a node's register is not live behind it -/
def deadX (l : List Nd) (n : Nd) : Bool := (decide (1 ≤ n.op) && decide (n.op ≤ 8)) && !yn (lvx l n.d.toNat) n.t.toNat
theorem deadX_iff {regs : Int} {l : List Nd} (hR : Right regs l) {i : Nat} {n : Nd} (hn : l[i]? = some n) : deadX l n = true ↔ DeadN l i := by
  have hm := List.mem_of_getElem? hn
  have hreg := hR.regs64 hm
  unfold deadX
  simp only [Bool.and_eq_true, decide_eq_true_iff, Bool.not_eq_true']
  constructor
  · rintro ⟨⟨h1, h8⟩, hy⟩
    refine ⟨n, hn, h1, h8, fun hlv => ?_⟩
    have hd := hreg.1 (by simp [hasD, inB]; omega)
    have ht := hR.then_ hm (by omega)
    have := (Least.lv (lvx_least l n.d.toNat) hR.ways (i := n.t.toNat) (by omega)).2 (by rw [Int.toNat_of_nonneg hd.1, Int.toNat_of_nonneg (by omega)]; exact hlv)
    rw [hy] at this
    cases this
  · rintro ⟨m, hm', h1, h8, hlv⟩
    rw [hn] at hm'
    injection hm' with hm'
    subst hm'
    have hd := hreg.1 (by simp [hasD, inB]; omega)
    have ht := hR.then_ hm (by omega)
    refine ⟨⟨h1, h8⟩, ?_⟩
    cases hy : yn (lvx l n.d.toNat) n.t.toNat with
    | false => rfl
    | true =>
      have := (Least.lv (lvx_least l n.d.toNat) hR.ways (i := n.t.toNat) (by omega)).1 hy
      rw [Int.toNat_of_nonneg hd.1, Int.toNat_of_nonneg (by omega)] at this
      exact absurd this hlv
/-- what is left when the dead nodes have gone silent -/
def DeadIs (l l' : List Nd) : Prop := Hushes l l' ∧ ∀ i, ¬ DeadN l' i
theorem DeadIs.unique {l a b : List Nd} (ha : DeadIs l a) (hb : DeadIs l b) : a = b := Hushes.unique ha.1 ha.2 hb.1 hb.2
theorem not_dead {regs : Int} {l : List Nd} (hR : Right regs l) (h : ∀ n ∈ l, deadX l n = false) (i : Nat) : ¬ DeadN l i := fun hd => by
  obtain ⟨n, hn, _⟩ := id hd
  have := (deadX_iff hR hn).2 hd
  rw [h n (List.mem_of_getElem? hn)] at this
  cases this

/-- in the midst of a turn of DeadOf: what was dead when it began goes silent, one by one -/
structure Hushing (regs : Int) (l l0 l1 : List Nd) (n : Nat) (c : Bool) : Prop where
  right : Right regs l1
  len : l1.length = l.length
  hush : Hushes l l1
  same : ∀ j, n ≤ j → l1[j]? = l0[j]?
  dead : ∀ j, n ≤ j → DeadN l0 j → DeadN l1 j
  idle : c = false → l1 = l0 ∧ ∀ j, j < n → ¬ DeadN l0 j
  busy : c = true → busyN l1 < busyN l0
  le : busyN l1 ≤ busyN l0
theorem Hushing.start {regs : Int} {l l0 : List Nd} (h : Right regs l0) (hl : l0.length = l.length) (hh : Hushes l l0) : Hushing regs l l0 l0 0 false :=
  ⟨h, hl, hh, fun _ _ => rfl, fun _ _ h => h, fun _ => ⟨rfl, fun j hj => absurd hj (by omega)⟩, fun h => (by cases h), Nat.le_refl _⟩
theorem Hushing.pass {regs : Int} {l l0 l1 : List Nd} {n : Nat} {c : Bool} (h : Hushing regs l l0 l1 n c) (hd : ¬ DeadN l0 n) : Hushing regs l l0 l1 (n + 1) c :=
  ⟨h.right, h.len, h.hush, fun j hj => h.same j (by omega), fun j hj => h.dead j (by omega), fun hc => ⟨(h.idle hc).1, fun j hj => by
    by_cases hjn : j = n
    · subst hjn; exact hd
    · exact (h.idle hc).2 j (by omega)⟩, h.busy, h.le⟩
theorem Hushing.step {regs : Int} {l l0 l1 : List Nd} {n : Nat} {c : Bool} (h : Hushing regs l l0 l1 n c) (hd : DeadN l0 n) : Hushing regs l l0 (hushAt l1 n) (n + 1) true := by
  have hd1 := h.dead n (Nat.le_refl _) hd
  obtain ⟨x, hx, h1, h8, _⟩ := id hd1
  have hb := busyN_hush hx (by omega)
  refine ⟨h.right.hush hx (by omega), by rw [hushAt_len]; exact h.len, h.hush.snoc hd1, fun j hj => ?_, fun j hj hdj => hd1.still (h.dead j (by omega) hdj) (by omega), fun hc => (by cases hc), fun _ => Nat.lt_of_lt_of_le hb h.le, Nat.le_trans (Nat.le_of_lt hb) h.le⟩
  rw [hushAt_get hx, if_neg (by omega)]
  exact h.same j (by omega)
theorem any_live {regs : Nat} {l : List Nd} {i : Nat} {d : Int} (h0 : 0 ≤ d) (h1 : d < regs) : (liveL regs l i).any (fun z => z == d) = yn (lvx l d.toNat) i := by
  rw [Bool.eq_iff_iff, List.any_eq_true]
  constructor
  · rintro ⟨z, hz, hzd⟩
    rw [beq_iff_eq] at hzd
    subst hzd
    obtain ⟨r, hr, hp, rfl⟩ := mem_sel.1 hz
    exact hp
  · intro hy
    exact ⟨d, mem_sel.2 ⟨d.toNat, by omega, hy, by omega⟩, by simp⟩
end Go.Proofs.YtmghkonmfbpjcabDoor
