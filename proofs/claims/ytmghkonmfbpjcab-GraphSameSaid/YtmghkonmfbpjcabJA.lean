/- Words; Node; Tm; Info; Range; Lies: merged texts. -/
import Derived.WalkKit
import Derived.Below
import Derived.Laws.OwnMore
import Derived.Deep.Draws
import Derived.Test.YtmghkonmfbpjcabProg
import Derived.RangeFuncNested
import Derived.RangeFuncBound
import Derived.RangeFuncCalls
import Derived.RangeFuncLeaves
import Derived.Shelf.Abstract
import Derived.Shelf.RegionOpen
import Derived.OwnWalkIn
import Derived.TacticsInMore
import Derived.LoopNIn
import Derived.LoopIn
/- Words of ours: nodes, how slices lie in memory, small facts on worlds. No program in sight. -/
namespace Go.Proofs.Ytmghkonmfbpjcab
set_option linter.unusedVariables false
set_option linter.unusedSimpArgs false
open Go.RowKit

structure Nd where
  op : Int
  d : Int
  a : Int
  b : Int
  t : Int
  e : Int
deriving DecidableEq, Inhabited

def Nd.cells (n : Nd) : List Value := [.int .i64 n.op, .int .i64 n.d, .int .i64 n.a, .int .i64 n.b, .int .i64 n.t, .int .i64 n.e]

def Nd.lies (n : Nd) (w : World) (b off : Nat) : Prop :=
  w.cell? ⟨b, off, none⟩ = some (.int .i64 n.op) ∧ w.cell? ⟨b, off + 1, none⟩ = some (.int .i64 n.d) ∧ w.cell? ⟨b, off + 2, none⟩ = some (.int .i64 n.a) ∧
  w.cell? ⟨b, off + 3, none⟩ = some (.int .i64 n.b) ∧ w.cell? ⟨b, off + 4, none⟩ = some (.int .i64 n.t) ∧ w.cell? ⟨b, off + 5, none⟩ = some (.int .i64 n.e)

/-- the nodes of a slice -/
def NodesAt (w : World) (A : Option Addr) (l : List Nd) : Prop :=
  l ≠ [] → ∃ b off, A = some ⟨b, off, none⟩ ∧ b < w.heap.size ∧ ∀ (i : Nat) (n : Nd), l[i]? = some n → n.lies w b (off + i * 6)
/-- the one-cell elements of a slice -/
def ValsAt (w : World) (A : Option Addr) (l : List Value) : Prop :=
  l ≠ [] → ∃ b off, A = some ⟨b, off, none⟩ ∧ b < w.heap.size ∧ ∀ (i : Nat) (v : Value), l[i]? = some v → w.cell? ⟨b, off + i, none⟩ = some v

theorem bcell {B : Nat} {W w1 : World} (hb : Below B W w1) : (∀ b o, b < B → w1.cell? ⟨b, o, none⟩ = W.cell? ⟨b, o, none⟩) ∧ (∀ b o, b < B → w1.frozen? ⟨b, o, none⟩ = W.frozen? ⟨b, o, none⟩) :=
  ⟨fun b o h => hb.cell (p := ⟨b, o, none⟩) h, fun b o h => hb.frozen (p := ⟨b, o, none⟩) h⟩

theorem Nd.lies.below {n : Nd} {B : Nat} {w w' : World} {b off : Nat} (h : n.lies w b off) (hb : Below B w w') (hl : b < B) : n.lies w' b off := by
  obtain ⟨hc, _⟩ := bcell hb
  obtain ⟨h0, h1, h2, h3, h4, h5⟩ := h
  exact ⟨(hc _ _ hl).trans h0, (hc _ _ hl).trans h1, (hc _ _ hl).trans h2, (hc _ _ hl).trans h3, (hc _ _ hl).trans h4, (hc _ _ hl).trans h5⟩
theorem NodesAt.below {w w' : World} {A : Option Addr} {l : List Nd} (h : NodesAt w A l) (hb : Below w.heap.size w w') : NodesAt w' A l := fun hn => by
  obtain ⟨b, off, e, hl, hc⟩ := h hn
  exact ⟨b, off, e, Nat.lt_of_lt_of_le hl hb.size, fun i n hi => (hc i n hi).below hb hl⟩
theorem ValsAt.below {w w' : World} {A : Option Addr} {l : List Value} (h : ValsAt w A l) (hb : Below w.heap.size w w') : ValsAt w' A l := fun hn => by
  obtain ⟨b, off, e, hl, hc⟩ := h hn
  exact ⟨b, off, e, Nat.lt_of_lt_of_le hl hb.size, fun i v hi => ((bcell hb).1 _ _ hl).trans (hc i v hi)⟩
theorem NodesAt.mk {w : World} {b off : Nat} {l : List Nd} (hb : b < w.heap.size) (h : ∀ (i : Nat) (n : Nd), l[i]? = some n → n.lies w b (off + i * 6)) : NodesAt w (some ⟨b, off, none⟩) l :=
  fun _ => ⟨b, off, rfl, hb, h⟩
theorem ValsAt.mk {w : World} {b off : Nat} {l : List Value} (hb : b < w.heap.size) (h : ∀ (i : Nat) (v : Value), l[i]? = some v → w.cell? ⟨b, off + i, none⟩ = some v) : ValsAt w (some ⟨b, off, none⟩) l :=
  fun _ => ⟨b, off, rfl, hb, h⟩

theorem cpast {w : World} {o : Obj} {b i : Nat} (h : b < w.heap.size) : (w.alloc o).cell? ⟨b, i, none⟩ = w.cell? ⟨b, i, none⟩ := World.cell?_of_block (Below.heap_alloc w o b h)
theorem fpast {w : World} {o : Obj} {b i : Nat} (h : b < w.heap.size) : (w.alloc o).frozen? ⟨b, i, none⟩ = w.frozen? ⟨b, i, none⟩ := World.frozen?_of_block (Below.heap_alloc w o b h)
theorem hide {p : Prop} (h : p) : Hid p := h
theorem below_drewN {B : Nat} {a w : World} (h : Below B a w) (n : Nat) : Below B a (w.drewN n) := ⟨h.os, h.tape, h.output, h.size, h.block⟩
theorem ret_val {a b : Value} (h : a = b) : Ending.returned a = .returned b := by rw [h]
theorem ret_int {k : IntKind} {a b : Int} (h : a = b) : Ending.returned (.int k a) = .returned (.int k b) := by rw [h]
theorem ret_bool {a b : Bool} (h : a = b) : Ending.returned (.bool a) = .returned (.bool b) := by rw [h]

/-- 64 bit numbers -/
def i64ok (n : Int) : Prop := -9223372036854775808 ≤ n ∧ n ≤ 9223372036854775807

theorem any_take_succ {α : Type} (p : α → Bool) (l : List α) (k : Nat) (x : α) (h : l[k]? = some x) : (l.take (k + 1)).any p = ((l.take k).any p || p x) := by
  rw [List.take_add_one, h]; simp
theorem any_of_take {α : Type} (p : α → Bool) (l : List α) (k : Nat) (x : α) (h : l[k]? = some x) (hp : p x = true) : l.any p = true :=
  List.any_eq_true.2 ⟨x, List.mem_of_getElem? h, hp⟩
theorem any_take_all {α : Type} (p : α → Bool) (l : List α) (k : Nat) (h : ¬ k < l.length) : (l.take k).any p = l.any p := by
  rw [List.take_of_length_le (by omega)]
theorem NodesAt.get {w : World} {A : Option Addr} {l : List Nd} (h : NodesAt w A l) {k : Nat} (hk : k < l.length) :
    ∃ b off n, A = some ⟨b, off, none⟩ ∧ b < w.heap.size ∧ l[k]? = some n ∧ n.lies w b (off + k * 6) := by
  obtain ⟨b, off, e, hb, hc⟩ := h (by intro h0; subst h0; simp at hk)
  exact ⟨b, off, l[k], e, hb, List.getElem?_eq_getElem hk, hc k _ (List.getElem?_eq_getElem hk)⟩
theorem ValsAt.get {w : World} {A : Option Addr} {l : List Value} (h : ValsAt w A l) {k : Nat} (hk : k < l.length) :
    ∃ b off v, A = some ⟨b, off, none⟩ ∧ b < w.heap.size ∧ l[k]? = some v ∧ w.cell? ⟨b, off + k, none⟩ = some v := by
  obtain ⟨b, off, e, hb, hc⟩ := h (by intro h0; subst h0; simp at hk)
  exact ⟨b, off, l[k], e, hb, List.getElem?_eq_getElem hk, hc k _ (List.getElem?_eq_getElem hk)⟩

end Go.Proofs.Ytmghkonmfbpjcab

/- Plain law: operations, checked programs, where nodes lead. No program in sight. -/
namespace Go.Proofs.Ytmghkonmfbpjcab
set_option linter.unusedVariables false
set_option linter.unusedSimpArgs false
open Go.RowKit

def inB (n lo hi : Int) : Bool := decide (lo ≤ n) && decide (n ≤ hi)
def opOk (op : Int) : Bool := inB op 0 12
def hasD (op : Int) : Bool := inB op 1 9
def hasA (op : Int) : Bool := inB op 2 8 || inB op 10 12
def hasB (op : Int) : Bool := inB op 3 8
def isSet (op : Int) : Bool := op == 1
def hasT (op : Int) : Bool := op != 12
def hasE (op : Int) : Bool := op == 11
def shT (op : Int) : Bool := opOk op && op != 12


/-- where a node goes on -/
def exitsL (n : Nd) : List Int := if n.op = 12 then [] else if n.op = 11 ∧ n.e ≠ n.t then [n.t, n.e] else [n.t]

theorem exitsL_len (n : Nd) : (exitsL n).length ≤ 2 := by
  unfold exitsL
  split
  · simp
  · split <;> simp


def okR (regs n : Int) (has : Bool) : Bool := !has || (decide (0 ≤ n) && decide (n < regs))
def okN (len n : Int) (has : Bool) : Bool := !has || (decide (1 ≤ n) && decide (n < len))
def okF (n : Int) (has : Bool) : Bool := has || n == 0


def badR (regs len : Int) (n : Nd) : Bool := !okR regs n.d (hasD n.op) || !okR regs n.a (hasA n.op) || !okR regs n.b (hasB n.op) || !okN len n.t (shT n.op) || !okN len n.e (hasE n.op)
def badF (n : Nd) : Bool := !okF n.d (hasD n.op) || !okF n.a (hasA n.op || isSet n.op) || !okF n.b (hasB n.op) || !okF n.t (shT n.op) || !okF n.e (hasE n.op)
def chk (regs : Int) (l : List Nd) : Int :=
  if (l.length : Int) < 1 ∨ 256 < (l.length : Int) ∨ regs < 1 ∨ 64 < regs then 2
  else if (l.any fun n => !opOk n.op) = true then 4
  else if (l.any (badR regs l.length)) = true then 3
  else if (l.any badF) = true then 1
  else 0


def leadsB (n : Nd) (m : Int) : Bool := n.op != 12 && n.t == m || n.op == 11 && n.e == m

/-- the numbers below k of which it is so -/
def sel (p : Nat → Bool) (k : Nat) : List Int := ((List.range k).filter p).map Int.ofNat
theorem sel_succ_true {p : Nat → Bool} {k : Nat} (h : p k = true) : sel p (k + 1) = sel p k ++ [(k : Int)] := by
  simp [sel, List.range_succ, List.filter_append, h]
theorem sel_succ_false {p : Nat → Bool} {k : Nat} (h : p k = false) : sel p (k + 1) = sel p k := by
  simp [sel, List.range_succ, List.filter_append, h]
theorem sel_len (p : Nat → Bool) (k : Nat) : (sel p k).length ≤ k := by
  unfold sel
  rw [List.length_map]
  have := List.length_filter_le p (List.range k)
  simpa using this
theorem mem_sel {p : Nat → Bool} {k : Nat} {m : Int} : m ∈ sel p k ↔ ∃ i : Nat, i < k ∧ p i = true ∧ m = i := by
  unfold sel
  simp only [List.mem_map, List.mem_filter, List.mem_range]
  constructor
  · rintro ⟨i, ⟨h1, h2⟩, rfl⟩; exact ⟨i, h1, h2, rfl⟩
  · rintro ⟨i, h1, h2, rfl⟩; exact ⟨i, ⟨h1, h2⟩, rfl⟩

def nextP (l : List Nd) (n : Nat) (m : Nat) : Bool := match l[n]? with | some x => leadsB x m | none => false
def aheadP (l : List Nd) (n : Nat) (m : Nat) : Bool := match l[m]? with | some x => leadsB x n | none => false
theorem nextP_eq {l : List Nd} {n : Nat} {x : Nd} (h : l[n]? = some x) (m : Nat) : nextP l n m = leadsB x m := by simp [nextP, h]
theorem aheadP_eq {l : List Nd} {n m : Nat} {x : Nd} (h : l[m]? = some x) : aheadP l n m = leadsB x n := by simp [aheadP, h]


structure Right (regs : Int) (l : List Nd) : Prop where
  lo : 1 ≤ l.length
  hi : l.length ≤ 256
  rlo : 1 ≤ regs
  rhi : regs ≤ 64
  ok : ∀ n ∈ l, opOk n.op = true
  rng : ∀ n ∈ l, badR regs l.length n = false
  frm : ∀ n ∈ l, badF n = false
theorem right_of_chk {regs : Int} {l : List Nd} (h : chk regs l = 0) : Right regs l := by
  unfold chk at h
  split at h
  · cases h
  · rename_i h1
    split at h
    · cases h
    · rename_i h2
      split at h
      · cases h
      · rename_i h3
        split at h
        · cases h
        · rename_i h4
          refine ⟨by omega, by omega, by omega, by omega, fun n hn => ?_, fun n hn => ?_, fun n hn => ?_⟩
          · have := List.any_eq_false.1 (Bool.not_eq_true _ ▸ h2) n hn
            simpa using this
          · have := List.any_eq_false.1 (Bool.not_eq_true _ ▸ h3) n hn
            simpa using this
          · have := List.any_eq_false.1 (Bool.not_eq_true _ ▸ h4) n hn
            simpa using this
theorem Right.then_ {regs : Int} {l : List Nd} (h : Right regs l) {n : Nd} (hn : n ∈ l) (h12 : n.op ≠ 12) : 1 ≤ n.t ∧ n.t < l.length := by
  have h1 := h.rng n hn
  have h2 := h.ok n hn
  simp only [badR, Bool.or_eq_false_iff, Bool.not_eq_false'] at h1
  have h3 := h1.1.2
  have h4 : shT n.op = true := by simp [shT, h2, h12]
  simpa [okN, h4] using h3
theorem Right.else_ {regs : Int} {l : List Nd} (h : Right regs l) {n : Nd} (hn : n ∈ l) (h11 : n.op = 11) : 1 ≤ n.e ∧ n.e < l.length := by
  have h1 := h.rng n hn
  simp only [badR, Bool.or_eq_false_iff, Bool.not_eq_false'] at h1
  have h3 := h1.2
  have h4 : hasE n.op = true := by simp [hasE, h11]
  simpa [okN, h4] using h3
theorem mem_exitsL {n : Nd} {m : Int} : m ∈ exitsL n ↔ leadsB n m = true := by
  unfold exitsL leadsB
  simp only [Bool.or_eq_true, Bool.and_eq_true, bne_iff_ne, beq_iff_eq, ne_eq]
  split
  · constructor
    · intro h; cases h
    · omega
  · split
    · simp only [List.mem_cons, List.not_mem_nil, or_false]
      omega
    · simp only [List.mem_cons, List.not_mem_nil, or_false]
      omega
theorem Right.exits {regs : Int} {l : List Nd} (h : Right regs l) (k : Nat) (n : Nd) (hk : l[k]? = some n) : ∀ m ∈ exitsL n, 0 ≤ m ∧ m < l.length := by
  have hn := List.mem_of_getElem? hk
  intro m hm
  rw [mem_exitsL] at hm
  simp only [leadsB, Bool.or_eq_true, Bool.and_eq_true, bne_iff_ne, beq_iff_eq, ne_eq] at hm
  rcases hm with ⟨h1, h2⟩ | ⟨h1, h2⟩
  · have := h.then_ hn h1; omega
  · have := h.else_ hn h1; omega


end Go.Proofs.Ytmghkonmfbpjcab

/- A term: an operation and its operands; the node at a place. No program in sight. -/
namespace Go.Proofs.Ytmghkonmfbpjcab
set_option linter.unusedVariables false
set_option linter.unusedSimpArgs false

/-- a term: operation, operands -/
structure Tm where
  op : Int
  a : Int
  b : Int
def recB (t : Tm) (n : Nd) : Bool := n.op == t.op && n.a == t.a && n.b == t.b
def keepB (t : Tm) (n : Nd) : Bool := !hasD n.op || n.d != t.a && n.d != t.b
def nd (l : List Nd) (k : Nat) : Nd := l.getD k ⟨0, 0, 0, 0, 0, 0⟩
theorem nd_get {l : List Nd} {k : Nat} {n : Nd} (h : l[k]? = some n) : nd l k = n := by simp [nd, List.getD_eq_getElem?_getD, h]
/-- the term that a node reckons -/
def Nd.tm (n : Nd) : Tm := ⟨n.op, n.a, n.b⟩
end Go.Proofs.Ytmghkonmfbpjcab

/- How an int is laid. -/
namespace Go.Proofs.Ytmghkonmfbpjcab
theorem infoInt : (Try.prog.info? 3).map (fun i => (i.zero, i.size, i.bytes)) = some (some (.int .i64 0), 1, 8) := by kernel_rfl
end Go.Proofs.Ytmghkonmfbpjcab

/- graph.exits: the function that it hands back, and a loop over it: at most two rounds. -/
namespace Go.Proofs.Ytmghkonmfbpjcab
set_option linter.unusedVariables false
set_option linter.unusedSimpArgs false
open Go.RowKit Go.Shelf
set_option maxHeartbeats 1000000
attribute [local go_sem] Oper.semAt_some

/-- how many ways lead out of a node -/
def exitN (op : Int) : Nat := if op = 12 then 0 else if op = 11 then 2 else 1

theorem exits_any (p : Option Addr) (w : World) : Calls Try.prog 27 #[.pointer p] w fun e w' => e = .returned (.func (.func 57) #[] #[.pointer (some ⟨w.heap.size, 0, none⟩)]) ∧ w' = w.alloc (.cells #[.pointer p] 63) := by
  go_enter Try.func27, Try.ntmps27
  go_wp2
  go_ret
  exact ⟨rfl, rfl⟩

set_option maxRecDepth 100000 in
/-- the iterator, whatever the loop's rounds do to the node's ways -/
theorem exits1_in (F : Fence) (n : Nat) (hf : F.fn 57) (hro : F.round = none) (hn : 1 ≤ n) (l gb b : Nat) (op : Int) (J : Nat → World → Prop)
    (hc : ∀ i W, J i W → W.cell? ⟨gb, 0, none⟩ = some (.pointer (some ⟨b, 0, none⟩)) ∧ W.cell? ⟨b, 0, none⟩ = some (.int .i64 op))
    (y0 : op ≠ 12 → ∀ W, J 0 W → YieldAt F (n - 1) Try.prog l #[.pointer (some ⟨b, 4, none⟩)] W fun e W' => e = .returned (.bool true) ∧ J 1 W')
    (y1 : op = 11 → ∀ W, J 1 W → YieldAt F (n - 1) Try.prog l #[.pointer (some ⟨b, 5, none⟩)] W fun e W' => e = .returned (.bool true) ∧ J 2 W')
    (W : World) (h0 : J 0 W) :
    CallsIn F n Try.prog 57 #[.func (.yield l) #[] #[], .pointer (some ⟨gb, 0, none⟩)] W fun e W' => (∃ v, e = .returned v) ∧ J (exitN op) W' := by
  have hJ := hc 0 W h0
  obtain ⟨c0, c1⟩ := hJ
  refine callsIn_of_wp Try.func57 rfl hf ?_ hro
  simp only [Try.ntmps57, List.size_toArray, List.length_cons, List.length_nil, Nat.reduceAdd, Nat.reduceSub, Array.replicate_succ, Array.replicate_zero, List.push_toArray, List.append_toArray, List.nil_append, List.cons_append]
  by_cases h12 : op = 12
  · have he : exitN op = 0 := by simp [exitN, h12]
    have He : Hid (exitN op = 0) := he
    clear he y0 y1 hc
    have q12 : (op == 12) = true := by simp [h12]
    clear h12
    gi_wp2
    refine ⟨fun _ h => (by cases h), ?_⟩
    gi_wp2
    refine bodyPost_ret (results_none rfl _ _ _) rfl ?_
    exact ⟨⟨_, rfl⟩, by rw [He.out]; exact h0⟩
  · have q12 : (op == 12) = false := by simp [h12]
    obtain ⟨fn, tmps, assign, body, hy, hR⟩ := y0 h12 W h0
    by_cases h11 : op = 11
    · have q11 : (op == 11) = true := by simp [h11]
      have he : exitN op = 2 := by simp [exitN, h11]
      have He : Hid (exitN op = 2) := he
      have Y1 : Hid (∀ W, J 1 W → YieldAt F (n - 1) Try.prog l #[.pointer (some ⟨b, 5, none⟩)] W fun e W' => e = .returned (.bool true) ∧ J 2 W') := y1 h11
      have Hc : Hid (∀ i W, J i W → W.cell? ⟨gb, 0, none⟩ = some (.pointer (some ⟨b, 0, none⟩)) ∧ W.cell? ⟨b, 0, none⟩ = some (.int .i64 op)) := hc
      clear he h12 h11 y0 y1 hc
      gi_wp2
      refine hR.mono ?_
      rintro e W1 ⟨rfl, hJ1⟩
      obtain ⟨d0, d1⟩ := Hc.out 1 W1 hJ1
      obtain ⟨fn', tmps', assign', body', hy', hR'⟩ := Y1.out W1 hJ1
      clear hy hR c0 c1
      gi_wp2
      refine hR'.mono ?_
      rintro e W2 ⟨rfl, hJ2⟩
      gi_wp2
      go_end0
      exact ⟨⟨_, rfl⟩, by rw [He.out]; exact hJ2⟩
    · have q11 : (op == 11) = false := by simp [h11]
      have he : exitN op = 1 := by simp [exitN, h12, h11]
      have He : Hid (exitN op = 1) := he
      have Hc : Hid (∀ i W, J i W → W.cell? ⟨gb, 0, none⟩ = some (.pointer (some ⟨b, 0, none⟩)) ∧ W.cell? ⟨b, 0, none⟩ = some (.int .i64 op)) := hc
      clear he h12 h11 y0 y1 hc
      gi_wp2
      refine hR.mono ?_
      rintro e W1 ⟨rfl, hJ1⟩
      obtain ⟨d0, d1⟩ := Hc.out 1 W1 hJ1
      clear hy hR c0 c1
      gi_wp2
      go_end0
      exact ⟨⟨_, rfl⟩, by rw [He.out]; exact hJ1⟩

/-- how the body of a round is left: it goes on -/
def roundEnd (B : Nat) (J : World → Prop) (W : World) : Exit → Act → World → Prop
  | .normal, _, W' => KeepsFrom B W W' ∧ J W'
  | _, _, _ => False

/-- a loop over the ways of the node that lies at block b -/
theorem wp_range_exits {g : Operand} {p : Tmp} {assign body : Code} {Q : Exit → Act → World → Prop} {a : Act} {w : World} (gb b : Nat) (op : Int)
    (hg : a.eval g = .func (.func 57) #[] #[.pointer (some ⟨gb, 0, none⟩)])
    (I : Nat → World → Prop) (hI : OwnFrom w.heap.size I)
    (hc : ∀ i W, I i W → W.cell? ⟨gb, 0, none⟩ = some (.pointer (some ⟨b, 0, none⟩)) ∧ W.cell? ⟨b, 0, none⟩ = some (.int .i64 op))
    (h0 : I 0 w)
    (hbody : ∀ (l i : Nat), (i = 0 ∧ op ≠ 12 ∨ i = 1 ∧ op = 11) → ∃ a₁ : Act, (∀ (W : World) (K : Act → World → Prop), K a₁ W → assign.wpIn (Fence.wide.inRound l) 2 Try.prog (Exit.then K (fun _ _ _ => False)) { tmps := a.tmps.setIfInBounds p (.pointer (some ⟨b, 4 + i, none⟩)), defers := [] } W) ∧
      ∀ W, I i W → body.wpIn (Fence.wide.inRound l) 2 Try.prog (roundEnd w.heap.size (I (i + 1)) W) a₁ W)
    (hdone : ∀ (D : Nat) (W : World), w.heap.size ≤ D → I (exitN op) W → W.heap[D]? = some (.deferred (some [])) → Q .normal { a with defers := { target := .collected D, args := #[] } :: a.defers } W) :
    (Code.rangeFunc g #[p] assign body).wp Try.prog Q a w := by
  refine (wpIn_wide (n := 4)).1 (wpIn_rangeFunc fun fn hfn => ?_)
  obtain ⟨mk, hmk⟩ : ∃ mk : LoopState → Option Code → Loop, mk = fun st pe => { state := st, pending := pe, fn, tmps := a.tmps, params := #[p], assign, body, defers := w.heap.size } := ⟨_, rfl⟩
  -- the world with the two blocks of the loop's own
  obtain ⟨V, hV⟩ : ∃ V, (w.alloc (.deferred (some []))).alloc (.loop (mk .ready none)) = V := ⟨_, rfl⟩
  have lV : V.heap[w.heap.size + 1]? = some (.loop (mk .ready none)) := by
    rw [← hV]; have := World.alloc_heap_new (w.alloc (.deferred (some []))) (.loop (mk .ready none)); rwa [World.size_alloc] at this
  have dV : V.heap[w.heap.size]? = some (.deferred (some [])) := by
    rw [← hV]; exact (Below.heap_alloc _ _ _ (by simp)).trans (World.alloc_heap_new w _)
  have iV : I 0 V := by rw [← hV]; exact hI.alloc _ (hI.alloc _ h0)
  -- what holds between two rounds
  let J : Nat → World → Prop := fun i W => I i W ∧ W.heap[w.heap.size + 1]? = some (.loop (mk .ready none)) ∧ W.heap[w.heap.size]? = some (.deferred (some []))
  have round : ∀ (i : Nat) (W : World), (i = 0 ∧ op ≠ 12 ∨ i = 1 ∧ op = 11) → J i W → YieldAt Fence.wide 2 Try.prog (w.heap.size + 1) #[.pointer (some ⟨b, 4 + i, none⟩)] W fun e W' => e = .returned (.bool true) ∧ J (i + 1) W' := by
    rintro i W hi ⟨hw, hl, hd⟩
    have hlt : w.heap.size + 1 < W.heap.size := (Array.getElem?_eq_some_iff.1 hl).1
    have hy := run_yield (P := Try.prog) (args := #[.pointer (some ⟨b, 4 + i, none⟩)]) hl (by rw [hmk]; rfl)
    rw [hmk] at hy
    have hy' : (Instr.yield (w.heap.size + 1) #[.pointer (some ⟨b, 4 + i, none⟩)]).run Try.prog W = .ok (.round (w.heap.size + 1) fn (a.tmps.setIfInBounds p (.pointer (some ⟨b, 4 + i, none⟩))) assign body) W := by
      have hz : ((#[p] : Array Tmp).zip (#[.pointer (some ⟨b, 4 + i, none⟩)] : Array Value)).foldl (fun tmps (t, v) => tmps.setIfInBounds t v) a.tmps = a.tmps.setIfInBounds p (.pointer (some ⟨b, 4 + i, none⟩)) := by simp
      rw [← hz]
      exact hy
    obtain ⟨a₁, hassign, hbd⟩ := hbody (w.heap.size + 1) i hi
    refine ⟨fn, _, assign, body, hy', roundIn_of_wpIn hfn (hassign W _ ⟨_, run_beginRound hl (by rw [hmk]), ?_⟩)⟩
    obtain ⟨W1, hW1⟩ : ∃ W1 : World, W1 = W.putObj (w.heap.size + 1) (.loop { mk .ready none with state := .busy }) := ⟨_, rfl⟩
    rw [← hW1]
    have hl1 : W1.heap[w.heap.size + 1]? = some (.loop { mk .ready none with state := .busy }) := by rw [hW1]; exact World.putObj_heap_same hlt
    have hd1 : W1.heap[w.heap.size]? = some (.deferred (some [])) := by rw [hW1]; exact (World.putObj_heap_other (by omega)).trans hd
    have hw1 : I i W1 := by rw [hW1]; exact hI.putObj _ hw (by omega) hl rfl
    refine wpIn_mono (hbd W1 hw1) ?_
    rintro e a3 W3 hp
    cases e with
    | normal =>
      obtain ⟨hk, hn⟩ := hp
      have hl3 := hk.same _ _ (by omega) hl1 rfl
      have hd3 := hk.same _ _ (Nat.le_refl _) hd1 rfl
      have hr := run_endRound (P := Try.prog) none hl3
      refine ⟨_, _, hr, rfl, hI.putObj _ hn (by omega) hl3 rfl, ?_, (World.putObj_heap_other (by omega)).trans hd3⟩
      rw [World.putObj_heap_same (Array.getElem?_eq_some_iff.1 hl3).1, hmk]
      rfl
    | ret => exact hp.elim
    | exit id => exact hp.elim
    | goto t => exact hp.elim
    | panic ch => exact hp.elim
    | outgrown => exact hp.elim
  refine ⟨w.heap.size + 1, [{ target := .collected w.heap.size, args := #[] }], V, { target := .fn (.func 57) #[.pointer (some ⟨gb, 0, none⟩)], args := #[.func (.yield (w.heap.size + 1)) #[] #[]] }, V, 57,
    #[.func (.yield (w.heap.size + 1)) #[] #[], .pointer (some ⟨gb, 0, none⟩)], V, ?_, ?_, fun _ _ => trivial, ?_, fun _ => by omega, ?_⟩
  · rw [← hV, hmk]; exact run_enterLoop_outer _ _ _ _ _
  · simp only [resolve, hg]
    simp [go_sem]
  · have he := enters_of Try.func57 (by kernel_rfl) rfl
    simp [invoke, go_sem, he]
  · refine (exits1_in Fence.wide 3 trivial rfl (by omega) (w.heap.size + 1) gb b op J (fun i W h => hc i W h.1) (fun h W hj => round 0 W (.inl ⟨rfl, h⟩) hj) (fun h W hj => round 1 W (.inr ⟨rfl, h⟩) hj) V (And.intro iV (And.intro lV dV))).mono ?_
    rintro e W2 ⟨⟨v, rfl⟩, hw, hl, hd⟩
    have hend := run_endLoop (P := Try.prog) hl (by rw [hmk]; simp)
    have hpe : (mk .ready none).pending = none := by rw [hmk]
    rw [hpe] at hend
    refine ⟨none, _, hend, ?_⟩
    exact hdone _ _ (Nat.le_refl _) (hI.putObj _ hw (by omega) hl rfl) ((World.putObj_heap_other (by omega)).trans hd)
end Go.Proofs.Ytmghkonmfbpjcab

/- What lay before still lies: memory that has only grown. No program in sight. -/
namespace Go.Proofs.Ytmghkonmfbpjcab
set_option linter.unusedVariables false
open Go.RowKit
def Lies (W w : World) : Prop := Below W.heap.size W w
theorem Lies.refl (W : World) : Lies W W := Below.refl _ _
theorem Lies.step {W w w' : World} (h : Lies W w) (hb : Below w.heap.size w w') : Lies W w' := Below.trans h (hb.mono h.size)
theorem Lies.drew {W w : World} (h : Lies W w) : Lies W w.drew := Below.drew h
theorem Lies.from_ {w w4 W : World} (h : Below w.heap.size w w4) (hL : Lies w4 W) : Below w.heap.size w W := Below.trans h (Below.mono hL h.size)
theorem Lies.below_ {w4 W : World} (hL : Lies w4 W) : Below w4.heap.size w4 W := hL
end Go.Proofs.Ytmghkonmfbpjcab
