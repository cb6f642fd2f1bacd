/- Parts. -/
import Derived.Test.YtmghkonmfbpjcaaGreatDoorGA
import Derived.ProofKit
import Derived.Deep.Fields
import Derived.Test.YtmghkonmfbpjcaaGreatDoorChecked
import Derived.SizedLaws
set_option linter.unusedVariables false
set_option linter.unusedSimpArgs false
set_option maxRecDepth 100000
namespace Go.Proofs.YtmghkonmfbpjcaaGreatDoor
open Go.Proofs.Tryz
section
open Go.RowKit
def inB (n lo hi : Int) : Bool := decide (lo ≤ n) && decide (n ≤ hi)
def gH (op : Int) : Bool := inB op 0 12
def dI (op : Int) : Bool := inB op 1 9
def dD (op : Int) : Bool := inB op 2 8 || inB op 10 12
def cF (op : Int) : Bool := inB op 3 8
def oD (op : Int) : Bool := op == 1
def pE (op : Int) : Bool := op != 12
def fN (op : Int) : Bool := op == 11
def shT (op : Int) : Bool := gH op && op != 12
def bT (n : Nd) : List Int := if n.op = 12 then [] else if n.op = 11 ∧ n.e ≠ n.t then [n.t, n.e] else [n.t]
theorem rC (n : Nd) : (bT n).length ≤ 2 := by (
 unfold bT
 split
 · simp
 · split <;> simp)
def okR (regs n : Int) (has : Bool) : Bool := !has || (decide (0 ≤ n) && decide (n < regs))
def okN (len n : Int) (has : Bool) : Bool := !has || (decide (1 ≤ n) && decide (n < len))
def okF (n : Int) (has : Bool) : Bool := has || n == 0
def jU (regs len : Int) (n : Nd) : Bool := !okR regs n.d (dI n.op) || !okR regs n.a (dD n.op) || !okR regs n.b (cF n.op) || !okN len n.t (shT n.op) || !okN len n.e (fN n.op)
def badF (n : Nd) : Bool := !okF n.d (dI n.op) || !okF n.a (dD n.op || oD n.op) || !okF n.b (cF n.op) || !okF n.t (shT n.op) || !okF n.e (fN n.op)
def chk (regs : Int) (l : List Nd) : Int :=
 if (l.length : Int) < 1 ∨ 256 < (l.length : Int) ∨ regs < 1 ∨ 64 < regs then 2
 else if (l.any fun n => !gH n.op) = true then 4
 else if (l.any (jU regs l.length)) = true then 3
 else if (l.any badF) = true then 1
 else 0
def bU (n : Nd) (m : Int) : Bool := n.op != 12 && n.t == m || n.op == 11 && n.e == m
def sel (p : Nat → Bool) (k : Nat) : List Int := ((List.range k).filter p).map Int.ofNat
theorem gY {p : Nat → Bool} {k : Nat} (h : p k = true) : sel p (k + 1) = sel p k ++ [(k : Int)] := by (
 simp [sel, List.range_succ, List.filter_append, h])
theorem gG {p : Nat → Bool} {k : Nat} (h : p k = false) : sel p (k + 1) = sel p k := by (
 simp [sel, List.range_succ, List.filter_append, h])
theorem kB (p : Nat → Bool) (k : Nat) : (sel p k).length ≤ k := by (
 unfold sel
 rw [V9]
 have := List.length_filter_le p (List.range k)
 simpa using this)
theorem jK {p : Nat → Bool} {k : Nat} {m : Int} : m ∈ sel p k ↔ ∃ i : Nat, i < k ∧ p i = true ∧ m = i := by (
 unfold sel
 simp only [List.mem_map, List.mem_filter, List.mem_range]
 constructor
 · rintro ⟨i, ⟨h1, h2⟩, rfl⟩; exact ⟨i, h1, h2, rfl⟩
 · rintro ⟨i, h1, h2, rfl⟩; exact ⟨i, ⟨h1, h2⟩, rfl⟩)
def qL (l : List Nd) (n : Nat) (m : Nat) : Bool := match l[n]? with | some x => bU x m | none => false
def fM (l : List Nd) (n : Nat) (m : Nat) : Bool := match l[m]? with | some x => bU x n | none => false
theorem mV {l : List Nd} {n : Nat} {x : Nd} (h : l[n]? = some x) (m : Nat) : qL l n m = bU x m := by simp [qL, h]
theorem kG {l : List Nd} {n m : Nat} {x : Nd} (h : l[m]? = some x) : fM l n m = bU x n := by simp [fM, h]
structure bN (regs : Int) (l : List Nd) : Prop where
 lo : 1 ≤ l.length
 hi : l.length ≤ 256
 rlo : 1 ≤ regs
 rhi : regs ≤ 64
 ok : ∀ n ∈ l, gH n.op = true
 rng : ∀ n ∈ l, jU regs l.length n = false
 frm : ∀ n ∈ l, badF n = false
theorem bS {regs : Int} {l : List Nd} (h : chk regs l = 0) : bN regs l := by (
 unfold chk at h
 split at h
 · cases h
 · (
 rename_i h1
 split at h
 · cases h
 · (
 rename_i h2
 split at h
 · cases h
 · (
 rename_i h3
 split at h
 · cases h
 · (
 rename_i h4
 refine ⟨Zb, Zb, Zb, Zb, fun n hn => ?_, fun n hn => ?_, fun n hn => ?_⟩
 · (
 have := List.any_eq_false.1 (Bool.not_eq_true _ ▸ h2) n hn
 simpa using this)
 · (
 have := List.any_eq_false.1 (Bool.not_eq_true _ ▸ h3) n hn
 simpa using this)
 · (
 have := List.any_eq_false.1 (Bool.not_eq_true _ ▸ h4) n hn
 simpa using this))))))
theorem bN.then_ {regs : Int} {l : List Nd} (h : bN regs l) {n : Nd} (hn : n ∈ l) (h12 : n.op ≠ 12) : 1 ≤ n.t ∧ n.t < l.length := by (
 have h1 := h.rng n hn
 have h2 := h.ok n hn
 simp only [jU, V6, Bool.not_eq_false'] at h1
 have h3 := h1.1.2
 have h4 : shT n.op = true := by simp [shT, h2, h12]
 simpa [okN, h4] using h3)
theorem bN.else_ {regs : Int} {l : List Nd} (h : bN regs l) {n : Nd} (hn : n ∈ l) (h11 : n.op = 11) : 1 ≤ n.e ∧ n.e < l.length := by (
 have h1 := h.rng n hn
 simp only [jU, V6, Bool.not_eq_false'] at h1
 have h3 := h1.2
 have h4 : fN n.op = true := by simp [fN, h11]
 simpa [okN, h4] using h3)
theorem kX {n : Nd} {m : Int} : m ∈ bT n ↔ bU n m = true := by (
 unfold bT bU
 simp only [Bool.or_eq_true, V4, bne_iff_ne, beq_iff_eq, ne_eq]
 split
 · (
 constructor
 · intro h; cases h
 · omega)
 · (
 split
 · (
 simp only [Uh, List.not_mem_nil, or_false]
 omega)
 · (
 simp only [Uh, List.not_mem_nil, or_false]
 omega)))
theorem bN.exits {regs : Int} {l : List Nd} (h : bN regs l) (k : Nat) (n : Nd) (hk : l[k]? = some n) : ∀ m ∈ bT n, 0 ≤ m ∧ m < l.length := by (
 have hn := Vv hk
 intro m hm
 rw [kX] at hm
 simp only [bU, Bool.or_eq_true, V4, bne_iff_ne, beq_iff_eq, ne_eq] at hm
 rcases hm with ⟨h1, h2⟩ | ⟨h1, h2⟩
 · have := h.then_ hn h1; omega
 · have := h.else_ hn h1; omega)
end
section
open Go.RowKit
def Blk (w : World) (g : Nat) (t : TypeId) (cs : Array Value) : Prop := w.heap[g]? = some (.cells cs t (0, 0))
section
variable {w w' : World} {g : Nat} {t : TypeId} {cs : Array Value}
theorem Blk.lt (h : Blk w g t cs) : g < w.heap.size := bW h
theorem Blk.cell (h : Blk w g t cs) (i : Nat) : w.cell? ⟨g, i, none⟩ = cs[i]? := by unfold Blk at h; simp [World.cell?, h]
theorem Blk.frozen (h : Blk w g t cs) (i : Nat) : w.frozen? ⟨g, i, none⟩ = false := by unfold Blk at h; simp [World.frozen?, h]
theorem Blk.new (w : World) (t : TypeId) (cs : Array Value) : Blk (w.alloc (.cells cs t)) w.heap.size t cs := heap_alloc_new w _
theorem Blk.alloc (h : Blk w g t cs) (o : Obj) : Blk (w.alloc o) g t cs := (Below.heap_alloc w o g h.lt).trans h
theorem Blk.drewN (h : Blk w g t cs) (n : Nat) : Blk (w.drewN n) g t cs := h
theorem Blk.drew (h : Blk w g t cs) : Blk w.drew g t cs := h
theorem Blk.set_ (h : Blk w g t cs) (i : Nat) (u : Value) : Blk (w.setCell ⟨g, i, none⟩ u) g t (cs.setIfInBounds i u) := gP h u
theorem Blk.far (h : Blk w g t cs) {p : Addr} (hp : g ≠ p.block) (u : Value) : Blk (w.setCell p u) g t cs := (Below.heap_setCell w p u g hp).trans h
theorem Blk.below {B : Nat} (h : Blk w g t cs) (hb : Below B w w') (hg : g < B) : Blk w' g t cs := (hb.block g hg).trans h
theorem Blk.grown {row : Option Nat} (h : Blk w g t cs) (hb : w.grownBy w' row) (hg : row ≠ some g) : Blk w' g t cs := (hb.block g h.lt (fun e => hg e.symm)).trans h
theorem Blk.ne_ {g' : Nat} {t' : TypeId} {cs' : Array Value} (h : Blk w g t cs) (h' : Blk w g' t' cs') (hne : t ≠ t') : g ≠ g' := by (
 rintro rfl
 unfold Blk at h h'
 rw [h] at h'
 injection h' with h'
 injection h' with _ ht
 exact hne ht)
theorem Row.ne_blk {base : Nat} {e : TypeId} {v : Value} {xs : List Value} (h : Row w base e v xs) (hg : Blk w g t cs) (hne : e ≠ t) : v.ownBlock ≠ some g := by (
 rcases h with ⟨rfl, _⟩ | ⟨g', o, cap, cur, rfl, _, hh, _⟩
 · exact Je
 · (
 intro he
 simp [Value.ownBlock] at he
 subst he
 exact Blk.ne_ (t := e) hh hg hne rfl))
theorem Row.ne_row {base base' : Nat} {e e' : TypeId} {v u : Value} {xs ys : List Value} (h : Row w base e v xs) (h' : Row w base' e' u ys) (hne : e ≠ e') : v.ownBlock = none ∨ v.ownBlock ≠ u.ownBlock := by (
 rcases h' with ⟨rfl, _⟩ | ⟨g', o, cap, cur, rfl, _, hh, _⟩
 · (
 rcases hv : v.ownBlock with _ | k
 · exact Jf
 · exact .inr Xv)
 · exact .inr (h.ne_blk (cs := cur) hh hne))
theorem Row.blk {base : Nat} {e : TypeId} {g o n cap : Nat} {xs : List Value} (h : Row w base e (.slice (some ⟨g, o, none⟩) n cap) xs) : ∃ cs, Blk w g e cs := by (
 rcases h with ⟨h, _⟩ | ⟨g', o', cap', cur, hv, _, hh, _⟩
 · cases h
 · (
 injection hv with hA
 injection hA with hA
 injection hA with hg
 subst hg
 exact ⟨cur, hh⟩))
end
def upd {α : Type} (f : Nat → α) (i : Nat) (x : α) : Nat → α := fun j => if j = i then x else f j
theorem bI {α : Type} (f : Nat → α) (i : Nat) (x : α) : upd f i x i = x := by simp [upd]
theorem bC {α : Type} (f : Nat → α) {i j : Nat} (x : α) (h : j ≠ i) : upd f i x j = f j := by simp [upd, h]
def Tab (w : World) (base : Nat) (e : TypeId) (N : Nat) (vs : Nat → Value) (xs : Nat → List Value) : Prop :=
 (∀ i, i < N → Row w base e (vs i) (xs i)) ∧ ∀ i j, i < N → j < N → i ≠ j → (vs i).ownBlock = none ∨ (vs i).ownBlock ≠ (vs j).ownBlock
section
variable {w w' : World} {base N : Nat} {e : TypeId} {vs : Nat → Value} {xs : Nat → List Value}
theorem Tab.of_blocks (h : Tab w base e N vs xs) (hk : ∀ i k, i < N → (vs i).ownBlock = some k → w'.heap[k]? = w.heap[k]?) : Tab w' base e N vs xs :=
 ⟨fun i hi => (h.1 i hi).of_block fun k hv => hk i k hi hv, h.2⟩
theorem Tab.below (h : Tab w base e N vs xs) (hb : Below w.heap.size w w') : Tab w' base e N vs xs := ⟨fun i hi => (h.1 i hi).below' hb, h.2⟩
theorem Tab.alloc (h : Tab w base e N vs xs) (o : Obj) : Tab (w.alloc o) base e N vs xs := ⟨fun i hi => (h.1 i hi).alloc o, h.2⟩
theorem Tab.drew (h : Tab w base e N vs xs) : Tab w.drew base e N vs xs := h
theorem Tab.drewN (h : Tab w base e N vs xs) (n : Nat) : Tab (w.drewN n) base e N vs xs := h
theorem Tab.far (h : Tab w base e N vs xs) {p : Addr} {t : TypeId} {cs : Array Value} (hp : Blk w p.block t cs) (hne : e ≠ t) (u : Value) : Tab (w.setCell p u) base e N vs xs :=
 ⟨fun i hi => (h.1 i hi).far ((h.1 i hi).ne_blk hp hne) u, h.2⟩
theorem Tab.nils (w : World) (base : Nat) (e : TypeId) (N : Nat) : Tab w base e N (fun _ => .slice none 0 0) (fun _ => []) := ⟨fun _ _ => Row.nil_ w base e, fun _ _ _ _ _ => .inl rfl⟩
theorem Tab.put (h : Tab w base e N vs xs) {i : Nat} (hi : i < N) {v' : Value} {ys : List Value} (hr : Row w' base e v' ys) (hg : w.grownBy w' (vs i).ownBlock)
 (hb : v'.ownBlock = (vs i).ownBlock ∨ ∀ k, v'.ownBlock = some k → w.heap.size ≤ k) : Tab w' base e N (upd vs i v') (upd xs i ys) := by (
 refine ⟨fun j hj => ?_, fun j k hj hk hne => ?_⟩
 · (
 by_cases hji : j = i
 · subst hji; rw [bI, bI]; exact hr
 · (
 rw [bC _ _ hji, bC _ _ hji]
 exact (h.1 j hj).kept hg (h.2 j i hj hi hji)))
 · (
 by_cases hji : j = i
 · (
 subst hji
 rw [bI, bC _ _ (Ne.symm hne)]
 rcases hv : v'.ownBlock with _ | b
 · exact Jf
 · (
 refine .inr fun he => ?_
 rcases hb with hb | hb
 · (
 rw [hv] at hb
 rcases h.2 j k hj hk hne with h0 | h0
 · rw [h0] at hb; cases hb
 · exact h0 (hb.symm.trans he))
 · (
 have := hb b hv
 have := ((h.1 k hk).lt b he.symm).2
 omega)))
 · (
 rw [bC _ _ hji]
 by_cases hki : k = i
 · (
 subst hki
 rw [bI]
 rcases hb with hb | hb
 · rw [hb]; exact h.2 j k hj hk hne
 · (
 rcases hv : (vs j).ownBlock with _ | b
 · exact Jf
 · (
 refine .inr fun he => ?_
 have := hb b he.symm
 have := ((h.1 j hj).lt b hv).2
 omega)))
 · (
 rw [bC _ _ hki]
 exact h.2 j k hj hk hne))))
end
def bO (l : List Int) : List Value := l.map (Value.int .i64)
theorem eE (a b : List Int) : bO (a ++ b) = bO a ++ bO b := List.map_append
theorem bJ (a : List Int) : (bO a).length = a.length := V9 _
theorem jP (a : List Int) (k : Nat) : (bO a)[k]? = a[k]?.map (Value.int .i64) := List.getElem?_map
def fst (back : Bool) (i : Nat) (m : Int) : Int := if back then (i : Int) else m
def snd (back : Bool) (i : Nat) (m : Int) : Int := if back then m else (i : Int)
structure oJ (back : Bool) (n : Nat) (PE : Nat → Int → Prop) (xs : Nat → List Int) : Prop where
 asks : ∀ a, a < n → ∀ b : Int, b ∈ xs a ↔ ∃ i m, PE i m ∧ (a : Int) = fst back i m ∧ b = snd back i m
 asked : ∀ b, b < n → ∀ a : Int, a ∈ xs (n + b) ↔ ∃ i m, PE i m ∧ a = fst back i m ∧ (b : Int) = snd back i m
theorem oJ.start (back : Bool) (n : Nat) : oJ back n (fun _ _ => False) (fun _ => []) :=
 ⟨fun a _ b => by
  constructor
  · intro h; cases h
  · rintro ⟨_, _, h, _⟩; exact h.elim, fun a _ b => by
  constructor
  · intro h; cases h
  · rintro ⟨_, _, h, _⟩; exact h.elim⟩
theorem oJ.congr {back : Bool} {n : Nat} {PE PE' : Nat → Int → Prop} {xs : Nat → List Int} (h : oJ back n PE xs) (he : ∀ i m, PE i m ↔ PE' i m) : oJ back n PE' xs :=
 ⟨fun a ha b => (h.asks a ha b).trans ⟨fun ⟨i, m, hp, r⟩ => ⟨i, m, (he i m).1 hp, r⟩, fun ⟨i, m, hp, r⟩ => ⟨i, m, (he i m).2 hp, r⟩⟩,
  fun a ha b => (h.asked a ha b).trans ⟨fun ⟨i, m, hp, r⟩ => ⟨i, m, (he i m).1 hp, r⟩, fun ⟨i, m, hp, r⟩ => ⟨i, m, (he i m).2 hp, r⟩⟩⟩
theorem oJ.step {back : Bool} {n : Nat} {PE : Nat → Int → Prop} {xs : Nat → List Int} (h : oJ back n PE xs) (k : Nat) (m : Int) (a b : Nat) (ha : a < n) (hb : b < n)
 (hfa : (a : Int) = fst back k m) (hfb : (b : Int) = snd back k m) :
 oJ back n (fun i m' => PE i m' ∨ (i = k ∧ m' = m)) (upd (upd xs a (xs a ++ [(b : Int)])) (n + b) (xs (n + b) ++ [(a : Int)])) := by (
 refine ⟨fun a' ha' b' => ?_, fun b' hb' a' => ?_⟩
 · (
 rw [bC _ _ (show a' ≠ n + b by omega)]
 by_cases he : a' = a
 · (
 subst he
 rw [bI, Ug, h.asks a' ha' b', List.mem_singleton]
 constructor
 · (
 rintro (⟨i, m', hp, r⟩ | rfl)
 · exact ⟨i, m', .inl hp, r⟩
 · exact ⟨k, m, .inr ⟨rfl, rfl⟩, hfa, hfb⟩)
 · (
 rintro ⟨i, m', hp | ⟨rfl, rfl⟩, r1, r2⟩
 · exact .inl ⟨i, m', hp, r1, r2⟩
 · exact .inr (r2.trans hfb.symm)))
 · (
 rw [bC _ _ he, h.asks a' ha' b']
 constructor
 · rintro ⟨i, m', hp, r⟩; exact ⟨i, m', .inl hp, r⟩
 · (
 rintro ⟨i, m', hp | ⟨rfl, rfl⟩, r1, r2⟩
 · exact ⟨i, m', hp, r1, r2⟩
 · exact absurd (by have := r1.trans hfa.symm; omega) he)))
 · (
 by_cases he : b' = b
 · (
 subst he
 rw [bI, Ug, h.asked b' hb' a', List.mem_singleton]
 constructor
 · (
 rintro (⟨i, m', hp, r⟩ | rfl)
 · exact ⟨i, m', .inl hp, r⟩
 · exact ⟨k, m, .inr ⟨rfl, rfl⟩, hfa, hfb⟩)
 · (
 rintro ⟨i, m', hp | ⟨rfl, rfl⟩, r1, r2⟩
 · exact .inl ⟨i, m', hp, r1, r2⟩
 · exact .inr (r1.trans hfa.symm)))
 · (
 rw [bC _ _ (show n + b' ≠ n + b by omega), bC _ _ (show n + b' ≠ a by omega), h.asked b' hb' a']
 constructor
 · rintro ⟨i, m', hp, r⟩; exact ⟨i, m', .inl hp, r⟩
 · (
 rintro ⟨i, m', hp | ⟨rfl, rfl⟩, r1, r2⟩
 · exact ⟨i, m', hp, r1, r2⟩
 · exact absurd (by have := r2.trans hfb.symm; omega) he))))
theorem dK {P : Program} (t e : TypeId) (i : TypeInfo) (z : Value) (bytes : Nat) (ht : P.underlying t = some (.slice e)) (hi : P.info? e = some i) (hz : i.zero = some z) (hsize : i.size = 1) (hby : i.bytes = bytes)
 (hb : bytes ≤ 64) (hzc : z.cells = #[z]) (n : Nat) (hn : n ≤ 65536) (w : World) :
 (Instr.makeSlice t (.int .i64 (n : Int)) (.int .i64 (n : Int))).run P w = .ok (.slice (some ⟨w.heap.size, 0, none⟩) n n) (w.alloc (.cells (madeCells #[z] n) e)) := by (
 have hbb : (i.bytes : Int) * (n : Int) ≤ 281474976710656 := by (
 have h : i.bytes * n ≤ 64 * 65536 := Nat.mul_le_mul Zb hn
 have h' : ((i.bytes * n : Nat) : Int) ≤ 281474976710656 := Zb
 rwa [Int.natCast_mul] at h')
 have h := run_make (P := P) w t e i z ht hi hz .i64 .i64 (n : Int) (n : Int) Zb (Int.le_refl _) hbb Zb
 simpa [hsize, hzc] using h)
theorem Row.made1 {w : World} {base : Nat} {e : TypeId} {z : Value} {n : Nat} (hb : base ≤ w.heap.size) (hm : n ≤ 65536) :
 Row (w.alloc (.cells (madeCells #[z] n) e)) base e (.slice (some ⟨w.heap.size, 0, none⟩) n n) (List.replicate n z) := by (
 have h := Row.made (w := w) (base := base) (e := e) (cs := madeCells #[z] n) (n := n) hb (by simp [size_madeCells]) Zw
 rwa [toList_madeCells_one] at h)
theorem Blk.new' {w : World} {g : Nat} {t : TypeId} {cs : Array Value} (h : g = w.heap.size) : Blk (w.alloc (.cells cs t)) g t cs := by (
 subst h
 exact Blk.new w t cs)
theorem Row.made1' {w : World} {base g : Nat} {e : TypeId} {z : Value} {n : Nat} (h : g = w.heap.size) (hb : base ≤ w.heap.size) (hm : n ≤ 65536) :
 Row (w.alloc (.cells (madeCells #[z] n) e)) base e (.slice (some ⟨g, 0, none⟩) n n) (List.replicate n z) := by (
 subst h
 exact Row.made1 hb hm)
theorem Tab.sub {w : World} {base N M : Nat} {e : TypeId} {vs : Nat → Value} {xs : Nat → List Value} (h : Tab w base e N vs xs) (hM : M ≤ N) : Tab w base e M vs xs :=
 ⟨fun i hi => h.1 i Zb, fun i j hi hj => h.2 i j Zb Zb⟩
theorem Tab.row {w : World} {base N : Nat} {e : TypeId} {vs : Nat → Value} {xs : Nat → List Value} (h : Tab w base e N vs xs) {i : Nat} (hi : i < N) : Row w base e (vs i) (xs i) := h.1 i hi
theorem Tab.add {w w' : World} {base N : Nat} {e : TypeId} {vs : Nat → Value} {xs : Nat → List Value} (h : Tab w base e N vs xs) (hb : Below w.heap.size w w') {v : Value} {ys : List Value}
 (hr : Row w' base e v ys) (hn : ∀ k, v.ownBlock = some k → w.heap.size ≤ k) : Tab w' base e (N + 1) (upd vs N v) (upd xs N ys) := by (
 have hold := h.below hb
 refine ⟨fun i hi => ?_, fun i j hi hj hne => ?_⟩
 · (
 by_cases hiN : i = N
 · subst hiN; rw [bI, bI]; exact hr
 · rw [bC _ _ hiN, bC _ _ hiN]; exact hold.1 i Zb)
 · (
 by_cases hiN : i = N
 · (
 subst hiN
 rw [bI, bC _ _ (show j ≠ i by omega)]
 rcases hv : v.ownBlock with _ | b
 · exact Jf
 · (
 refine .inr fun he => ?_
 have := hn b hv
 have := ((h.1 j Zb).lt b he.symm).2
 omega))
 · (
 rw [bC _ _ hiN]
 by_cases hjN : j = N
 · (
 subst hjN
 rw [bI]
 rcases hv : (vs i).ownBlock with _ | b
 · exact Jf
 · (
 refine .inr fun he => ?_
 have := hn b he.symm
 have := ((h.1 i Zb).lt b hv).2
 omega))
 · (
 rw [bC _ _ hjN]
 exact h.2 i j Zb Zb hne))))
structure jH (tG tS tI : TypeId) (B : Nat) (w : World) (G5 GA GB : Nat) (bk : Bool) (n M : Nat) (PE : Nat → Int → Prop) (cnt : Nat) (wr : World) (vs : Nat → Value) (ys : Nat → List Value) (xs : Nat → List Int) : Prop where
 g5 : Blk wr G5 tG #[.slice (some ⟨GA, 0, none⟩) n n, .slice (some ⟨GB, 0, none⟩) n n]
 ra : Row wr B tS (.slice (some ⟨GA, 0, none⟩) n n) ((List.range n).map vs)
 rb : Row wr B tS (.slice (some ⟨GB, 0, none⟩) n n) ((List.range n).map fun i => vs (n + i))
 tab : Tab wr B tI M vs ys
 ysx : ∀ i, i < 2 * n → ys i = bO (xs i)
 edges : oJ bk n PE xs
 len : ∀ i, i < 2 * n → (xs i).length ≤ cnt
 r4 : Blk wr (B + 1) tG #[.slice none 0 0, .slice none 0 0]
 below : Below B w wr
section
variable {tG tS tI : TypeId} {B : Nat} {w : World} {G5 GA GB : Nat} {bk : Bool} {n M : Nat} {PE : Nat → Int → Prop} {cnt : Nat} {wr : World} {vs : Nat → Value} {ys : Nat → List Value} {xs : Nat → List Int}
theorem jH.alloc (h : jH tG tS tI B w G5 GA GB bk n M PE cnt wr vs ys xs) (hB : B ≤ wr.heap.size) (o : Obj) : jH tG tS tI B w G5 GA GB bk n M PE cnt (wr.alloc o) vs ys xs :=
 ⟨h.g5.alloc o, h.ra.alloc o, h.rb.alloc o, h.tab.alloc o, h.ysx, h.edges, h.len, h.r4.alloc o, h.below.alloc hB o⟩
theorem jH.congr {PE' : Nat → Int → Prop} {cnt' : Nat} (h : jH tG tS tI B w G5 GA GB bk n M PE cnt wr vs ys xs) (he : ∀ i m, PE i m ↔ PE' i m) (hc : cnt ≤ cnt') : jH tG tS tI B w G5 GA GB bk n M PE' cnt' wr vs ys xs :=
 ⟨h.g5, h.ra, h.rb, h.tab, h.ysx, h.edges.congr he, fun i hi => Nat.le_trans (h.len i hi) hc, h.r4, h.below⟩
theorem jH.sub {M' : Nat} (h : jH tG tS tI B w G5 GA GB bk n M PE cnt wr vs ys xs) (hM : M' ≤ M) : jH tG tS tI B w G5 GA GB bk n M' PE cnt wr vs ys xs :=
 ⟨h.g5, h.ra, h.rb, h.tab.sub hM, h.ysx, h.edges, h.len, h.r4, h.below⟩
end
theorem jH.add {tG tS tI : TypeId} {B : Nat} {w : World} {G5 GA GB : Nat} {bk : Bool} {n : Nat} {PE : Nat → Int → Prop} {cnt : Nat} {wr w' : World} {vs : Nat → Value} {ys : Nat → List Value} {xs : Nat → List Int}
 (h : jH tG tS tI B w G5 GA GB bk n (2 * n) PE cnt wr vs ys xs) (hB : B ≤ wr.heap.size) (hb : Below wr.heap.size wr w') {v : Value} {zs : List Value} (hr : Row w' B tI v zs) (hn : ∀ k, v.ownBlock = some k → wr.heap.size ≤ k) :
 jH tG tS tI B w G5 GA GB bk n (2 * n + 1) PE cnt w' (upd vs (2 * n) v) (upd ys (2 * n) zs) xs :=
⟨h.g5.below hb h.g5.lt, by
 have := h.ra.below' hb
 rwa [show (List.range n).map (upd vs (2 * n) v) = (List.range n).map vs from List.map_congr_left fun i hi => bC _ _ (by have := List.mem_range.1 hi; omega)], by
 have := h.rb.below' hb
 rwa [show ((List.range n).map fun i => upd vs (2 * n) v (n + i)) = (List.range n).map fun i => vs (n + i) from List.map_congr_left fun i hi => bC _ _ (by have := List.mem_range.1 hi; omega)],
 h.tab.add hb hr hn, fun i hi=> by rw [bC _ _ Zb]; exact h.ysx i hi, h.edges, h.len, h.r4.below hb h.r4.lt, h.below.trans (hb.mono hB)⟩
theorem eZ {w : World} {B g n : Nat} {e : TypeId} {vs : Nat → Value} {i : Nat} (h : Row w B e (.slice (some ⟨g, 0, none⟩) n n) ((List.range n).map vs)) (hi : i < n) : w.cell? ⟨g, i, none⟩ = some (vs i) := by (
 obtain ⟨b, off, e, _, hc⟩ := h.vals (by intro h0; have := congrArg List.length h0; simp at this; omega)
 injection e with e
 injection e with e1 e2
 subst e1 e2
 have := hc i (vs i) (by simp [hi])
 rwa [Nat.zero_add] at this)
theorem jJ {w : World} {B g n : Nat} {e : TypeId} {vs : Nat → Value} {i : Nat} (h : Row w B e (.slice (some ⟨g, 0, none⟩) n n) ((List.range n).map vs)) (hi : i < n) : w.frozen? ⟨g, i, none⟩ = false := by (
 obtain ⟨b, off, cap, x, e, _, _, _, _, hf⟩ := h.get (k := i) (by simpa using hi)
 injection e with e
 injection e with e
 injection e with e1 e2
 subst e1 e2
 rwa [Nat.zero_add] at hf)
theorem cU {w : World} {B g o n c : Nat} {e : TypeId} {xs : List Value} (h : Row w B e (.slice (some ⟨g, o, none⟩) n c) xs) : g < w.heap.size := (h.lt g rfl).2
theorem qI {w : World} {B g o n c : Nat} {e : TypeId} {xs : List Value} (h : Row w B e (.slice (some ⟨g, o, none⟩) n c) xs) : B ≤ g := (h.lt g rfl).1
theorem fY {α : Type} (vs : Nat → α) (x : α) {n i : Nat} (_hi : i < n) : ((List.range n).map vs).set i x = (List.range n).map (upd vs i x) := by (
 apply List.ext_getElem?
 intro j
 rw [List.getElem?_set]
 simp only [List.getElem?_map, V9, List.length_range]
 by_cases hij : i = j
 · (
 subst hij
 simp [_hi, upd])
 · (
 rw [if_neg hij]
 by_cases hj : j < n
 · simp [hj, bC _ _ (Ne.symm hij)]
 · simp [hj]))
theorem oZ {α : Type} (vs : Nat → α) (x : α) {n i : Nat} (hi : i < n) : ((List.range n).map fun j => vs (n + j)).set i x = (List.range n).map fun j => upd vs (n + i) x (n + j) := by (
 rw [fY (fun j => vs (n + j)) x hi]
 refine List.map_congr_left fun j _ => ?_
 unfold upd
 by_cases h : j = i
 · simp [h]
 · rw [if_neg h, if_neg Zb])
structure rG (tG tS tI : TypeId) (B : Nat) (w : World) (G5 GA GB : Nat) (n M : Nat) (wr : World) (vs : Nat → Value) (ys : Nat → List Value) : Prop where
 g5 : Blk wr G5 tG #[.slice (some ⟨GA, 0, none⟩) n n, .slice (some ⟨GB, 0, none⟩) n n]
 ra : Row wr B tS (.slice (some ⟨GA, 0, none⟩) n n) ((List.range n).map vs)
 rb : Row wr B tS (.slice (some ⟨GB, 0, none⟩) n n) ((List.range n).map fun i => vs (n + i))
 tab : Tab wr B tI M vs ys
 r4 : Blk wr (B + 1) tG #[.slice none 0 0, .slice none 0 0]
 below : Below B w wr
section
variable {tG tS tI : TypeId} {B : Nat} {w : World} {G5 GA GB : Nat} {bk : Bool} {n M : Nat} {PE : Nat → Int → Prop} {cnt : Nat} {wr wr1 w2 : World} {vs : Nat → Value} {ys : Nat → List Value} {xs : Nat → List Int} {v1 : Value} {zs : List Value}
theorem jH.gt (h : jH tG tS tI B w G5 GA GB bk n M PE cnt wr vs ys xs) : rG tG tS tI B w G5 GA GB n M wr vs ys := ⟨h.g5, h.ra, h.rb, h.tab, h.r4, h.below⟩
theorem rG.inv (h : rG tG tS tI B w G5 GA GB n M wr vs ys) (hy : ∀ i, i < 2 * n → ys i = bO (xs i)) (he : oJ bk n PE xs) (hl : ∀ i, i < 2 * n → (xs i).length ≤ cnt) :
 jH tG tS tI B w G5 GA GB bk n M PE cnt wr vs ys xs := ⟨h.g5, h.ra, h.rb, h.tab, hy, he, hl, h.r4, h.below⟩
theorem rG.later (h : rG tG tS tI B w G5 GA GB n M wr vs ys) (hB : B ≤ wr.heap.size) (hb : Below wr.heap.size wr wr1) : rG tG tS tI B w G5 GA GB n M wr1 vs ys :=
 ⟨h.g5.below hb h.g5.lt, h.ra.below' hb, h.rb.below' hb, h.tab.below hb, h.r4.below hb h.r4.lt, h.below.trans (hb.mono hB)⟩
theorem rG.putA (h : rG tG tS tI B w G5 GA GB n M wr vs ys) (n1 : tI ≠ tG) (n2 : tI ≠ tS) (n3 : tS ≠ tG) (hAB : GA ≠ GB) (hM : 2 * n ≤ M) {i : Nat} (hi : i < n)
 (hB0 : B ≤ wr.heap.size) (hr : Row w2 B tI v1 zs) (hg : wr.grownBy w2 (vs i).ownBlock) (hat : v1.ownBlock = (vs i).ownBlock ∨ ∀ k, v1.ownBlock = some k → wr.heap.size ≤ k) :
 rG tG tS tI B w G5 GA GB n M (w2.setCell ⟨GA, i, none⟩ v1) (upd vs i v1) (upd ys i zs) := by (
 have hri := h.tab.row (i := i) Zb
 have a1 : (vs i).ownBlock ≠ some G5 := hri.ne_blk h.g5 n1
 have a2 : (vs i).ownBlock ≠ some (B + 1) := hri.ne_blk h.r4 n1
 obtain ⟨ca, hca⟩ := h.ra.blk
 obtain ⟨cb, hcb⟩ := h.rb.blk
 have a3 : (vs i).ownBlock ≠ some GA := hri.ne_blk hca n2
 have a4 : (vs i).ownBlock ≠ some GB := hri.ne_blk hcb n2
 have g5' := h.g5.grown hg a1
 have r4' := h.r4.grown hg a2
 have ca' := hca.grown hg a3
 have ra' := h.ra.kept hg (.inr Xg)
 have rb' := h.rb.kept hg (.inr Xh)
 have tab' := h.tab.put Zb hr hg hat
 have hB := qI h.ra
 refine ⟨g5'.far (Blk.ne_ g5' ca' (Ne.symm n3)) _, ?_, ?_, tab'.far (p := ⟨GA, i, none⟩) ca' n2 _, r4'.far (Blk.ne_ r4' ca' (Ne.symm n3)) _, ?_⟩
 · (
 have := ra'.store i v1
 rw [Nat.zero_add] at this
 rwa [fY _ _ hi] at this)
 · (
 have := rb'.far (p := ⟨GA, i, none⟩) (by simp [Value.ownBlock]; exact fun e => hAB e.symm) v1
 rwa [show ((List.range n).map fun j => upd vs i v1 (n + j)) = (List.range n).map fun j => vs (n + j) from List.map_congr_left fun j hj => bC _ _ Zb])
 · exact (h.below.grown hg hB0 fun k hk => (hri.lt k hk).1).setCell hB _)
theorem rG.putB (h : rG tG tS tI B w G5 GA GB n M wr vs ys) (n1 : tI ≠ tG) (n2 : tI ≠ tS) (n3 : tS ≠ tG) (hAB : GA ≠ GB) (hM : 2 * n ≤ M) {i : Nat} (hi : i < n)
 (hB0 : B ≤ wr.heap.size) (hr : Row w2 B tI v1 zs) (hg : wr.grownBy w2 (vs (n + i)).ownBlock) (hat : v1.ownBlock = (vs (n + i)).ownBlock ∨ ∀ k, v1.ownBlock = some k → wr.heap.size ≤ k) :
 rG tG tS tI B w G5 GA GB n M (w2.setCell ⟨GB, i, none⟩ v1) (upd vs (n + i) v1) (upd ys (n + i) zs) := by (
 have hri := h.tab.row (i := n + i) Zb
 have a1 : (vs (n + i)).ownBlock ≠ some G5 := hri.ne_blk h.g5 n1
 have a2 : (vs (n + i)).ownBlock ≠ some (B + 1) := hri.ne_blk h.r4 n1
 obtain ⟨ca, hca⟩ := h.ra.blk
 obtain ⟨cb, hcb⟩ := h.rb.blk
 have a3 : (vs (n + i)).ownBlock ≠ some GA := hri.ne_blk hca n2
 have a4 : (vs (n + i)).ownBlock ≠ some GB := hri.ne_blk hcb n2
 have g5' := h.g5.grown hg a1
 have r4' := h.r4.grown hg a2
 have cb' := hcb.grown hg a4
 have ra' := h.ra.kept hg (.inr Xg)
 have rb' := h.rb.kept hg (.inr Xh)
 have tab' := h.tab.put Zb hr hg hat
 have hB := qI h.rb
 refine ⟨g5'.far (Blk.ne_ g5' cb' (Ne.symm n3)) _, ?_, ?_, tab'.far (p := ⟨GB, i, none⟩) cb' n2 _, r4'.far (Blk.ne_ r4' cb' (Ne.symm n3)) _, ?_⟩
 · (
 have := ra'.far (p := ⟨GB, i, none⟩) (by simp [Value.ownBlock]; exact hAB) v1
 rwa [show (List.range n).map (upd vs (n + i) v1) = (List.range n).map vs from List.map_congr_left fun j hj => bC _ _ (by have := List.mem_range.1 hj; omega)])
 · (
 have := rb'.store i v1
 rw [Nat.zero_add] at this
 rwa [oZ _ _ hi] at this)
 · exact (h.below.grown hg hB0 fun k hk => (hri.lt k hk).1).setCell hB _)
theorem jH.done (h : jH tG tS tI B w G5 GA GB bk n M PE cnt wr vs ys xs) {k : Nat} {m : Int} {a b : Nat} {vs' : Nat → Value}
 (hT : rG tG tS tI B w G5 GA GB n M w2 vs' (upd (upd ys a (ys a ++ [.int .i64 (b : Int)])) (n + b) (upd ys a (ys a ++ [.int .i64 (b : Int)]) (n + b) ++ [.int .i64 (a : Int)])))
 (ha : a < n) (hb : b < n) (hfa : (a : Int) = fst bk k m) (hfb : (b : Int) = snd bk k m) :
 jH tG tS tI B w G5 GA GB bk n M (fun i m' => PE i m' ∨ (i = k ∧ m' = m)) (cnt + 1) w2 vs' (upd (upd ys a (ys a ++ [.int .i64 (b : Int)])) (n + b) (upd ys a (ys a ++ [.int .i64 (b : Int)]) (n + b) ++ [.int .i64 (a : Int)]))
  (upd (upd xs a (xs a ++ [(b : Int)])) (n + b) (xs (n + b) ++ [(a : Int)])) := by (
 refine hT.inv (fun i hi => ?_) (h.edges.step k m a b ha hb hfa hfb) (fun i hi => ?_)
 · (
 by_cases h1 : i = n + b
 · (
 subst h1
 rw [bI, bI, bC _ _ Zb, h.ysx _ hi, eE]
 rfl)
 · (
 rw [bC _ _ h1, bC _ _ h1]
 by_cases h2 : i = a
 · (
 subst h2
 rw [bI, bI, h.ysx _ hi, eE]
 rfl)
 · (
 rw [bC _ _ h2, bC _ _ h2]
 exact h.ysx i hi)))
 · (
 by_cases h1 : i = n + b
 · (
 subst h1
 rw [bI, Vu]
 have := h.len _ hi
 simp
 omega)
 · (
 rw [bC _ _ h1]
 by_cases h2 : i = a
 · (
 subst h2
 rw [bI, Vu]
 have := h.len _ hi
 simp
 omega)
 · (
 rw [bC _ _ h2]
 have := h.len _ hi
 omega))))
end
structure wW (tS tI : TypeId) (B : Nat) (GA GB : Nat) (bk : Bool) (n : Nat) (PE : Nat → Int → Prop) (wr : World) (vs : Nat → Value) (xs : Nat → List Int) : Prop where
 ra : Row wr B tS (.slice (some ⟨GA, 0, none⟩) n n) ((List.range n).map vs)
 rb : Row wr B tS (.slice (some ⟨GB, 0, none⟩) n n) ((List.range n).map fun i => vs (n + i))
 tab : Tab wr B tI (2 * n) vs (fun i => bO (xs i))
 edges : oJ bk n PE xs
 len : ∀ i, i < 2 * n → (xs i).length ≤ 2 * n
theorem jH.out {tG tS tI : TypeId} {B : Nat} {w : World} {G5 GA GB : Nat} {bk : Bool} {n : Nat} {PE : Nat → Int → Prop} {wr : World} {vs : Nat → Value} {ys : Nat → List Value} {xs : Nat → List Int}
 (h : jH tG tS tI B w G5 GA GB bk n (2 * n) PE (2 * n) wr vs ys xs) (n1 : tI ≠ tG) (n3 : tS ≠ tG) (u v : Value) :
 wW tS tI B GA GB bk n PE ((wr.setCell ⟨B + 1, 0, none⟩ u).setCell ⟨B + 1, 1, none⟩ v) vs xs ∧ Below B w ((wr.setCell ⟨B + 1, 0, none⟩ u).setCell ⟨B + 1, 1, none⟩ v) := by (
 obtain ⟨ca, hca⟩ := h.ra.blk
 obtain ⟨cb, hcb⟩ := h.rb.blk
 have e1 : GA ≠ B + 1 := Blk.ne_ hca h.r4 n3
 have e2 : GB ≠ B + 1 := Blk.ne_ hcb h.r4 n3
 have q := h.r4.set_ 0 u
 have t1 := (h.tab.far (p := ⟨B + 1, 0, none⟩) h.r4 n1 u).far (p := ⟨B + 1, 1, none⟩) q n1 v
 refine ⟨⟨(h.ra.far (by simp [Value.ownBlock]; exact e1) u).far (by simp [Value.ownBlock]; exact e1) v, (h.rb.far (by simp [Value.ownBlock]; exact e2) u).far (by simp [Value.ownBlock]; exact e2) v, ?_, h.edges, h.len⟩,
  (h.below.setCell Zf u).setCell Zf v⟩
 exact ⟨fun i hi => by have := t1.row hi; rw [h.ysx i hi] at this; exact this, fun i j hi hj hne => t1.2 i j hi hj hne⟩)
attribute [irreducible] Blk Tab
end
section
open Go.RowKit
def bE (l : List Bool) : List Value := l.map Value.bool
theorem bD (a : List Bool) : (bE a).length = a.length := V9 _
theorem yZ (a : List Bool) (k : Nat) : (bE a)[k]? = a[k]?.map Value.bool := List.getElem?_map
def yn (l : List Bool) (k : Nat) : Bool := l.getD k false
theorem bH.bool {w : World} {A : Option Addr} {l : List Bool} (h : bH w A (bE l)) {k : Nat} (hk : k < l.length) :
 ∃ b off, A = some ⟨b, off, none⟩ ∧ b < w.heap.size ∧ w.cell? ⟨b, off + k, none⟩ = some (.bool (yn l k)) := by (
 obtain ⟨b, off, v, e, hb, hv, hc⟩ := h.get (k := k) (by rw [bD]; exact hk)
 rw [yZ, Vs hk] at hv
 simp at hv
 subst hv
 exact ⟨b, off, e, hb, by rw [hc]; simp [yn, hk]⟩)
theorem cI (x : List Bool) (k i : Nat) (b : Bool) (hk : k < x.length) : yn (x.set k b) i = if i = k then b else yn x i := by (
 unfold yn
 rw [Vt, Vt, List.getElem?_set]
 by_cases h : i = k
 · subst h; simp [hk]
 · rw [if_neg (fun e => h e.symm), if_neg h])
theorem zI {x : List Bool} {i : Nat} (h : x.length ≤ i) : yn x i = false := by simp [yn, h]
theorem nJ {x y : List Bool} (hl : x.length = y.length) (h : ∀ i, i < x.length → yn x i = yn y i) : x = y := by (
 apply List.ext_getElem hl
 intro i h1 h2
 have := h i h1
 simpa [yn, h1, h2] using this)
def leB (x y : List Bool) : Prop := ∀ i, yn x i = true → yn y i = true
section
variable (S : List Bool → Nat → Bool) (n : Nat)
def bEJ (x : List Bool) : Prop := x.length = n ∧ ∀ i, i < n → yn x i = true → S x i = true
def Ans (x : List Bool) : Prop := x.length = n ∧ ∀ i, i < n → yn x i = S x i
def mC (x : List Bool) : Prop := x.length = n ∧ ∀ z, bEJ S n z → leB z x
def eT (x : List Bool) : Prop := Ans S n x ∧ mC S n x
def jG : Prop := ∀ x y i, leB x y → S x i = true → S y i = true
variable {S n}
theorem mC.start {x : List Bool} (hl : x.length = n) (h : ∀ i, i < n → yn x i = true) : mC S n x := ⟨hl, fun z hz i hi => by
 by_cases hin : i < n
 · exact h i hin
 · rw [zI (by rw [hz.1]; omega)] at hi; cases hi⟩
theorem mC.drop (hm : jG S) {x : List Bool} (h : mC S n x) {k : Nat} (hk : k < n) (hs : S x k = false) : mC S n (x.set k false) := by (
 refine ⟨by simpa using h.1, fun z hz i hi => ?_⟩
 rw [cI _ _ _ _ (by rw [h.1]; exact hk)]
 by_cases hik : i = k
 · (
 subst hik
 have := hm z x i (h.2 z hz) (hz.2 i hk hi)
 rw [hs] at this
 cases this)
 · (
 rw [if_neg hik]
 exact h.2 z hz i hi))
theorem mC.great (hm : jG S) {x : List Bool} (h : mC S n x) (hp : ∀ i, i < n → yn x i = true → S x i = true) : eT S n x := by (
 refine ⟨⟨h.1, fun i hi => ?_⟩, h⟩
 rw [Bool.eq_iff_iff]
 refine ⟨hp i hi, fun hs => ?_⟩
 by_cases hx : yn x i = true
 · exact hx
 · (
 have hle : leB x (x.set i true) := fun j hj => by (
 rw [cI _ _ _ _ (by rw [h.1]; exact hi)]
 split
 · rfl
 · exact hj)
 have hz : bEJ S n (x.set i true) := by (
 refine ⟨by simpa using h.1, fun j hj hjz => ?_⟩
 rw [cI _ _ _ _ (by rw [h.1]; exact hi)] at hjz
 by_cases hji : j = i
 · (
 subst hji
 exact hm _ _ _ hle hs)
 · (
 rw [if_neg hji] at hjz
 exact hm _ _ _ hle (hp j hj hjz)))
 exact h.2 _ hz i (by rw [cI _ _ _ _ (by rw [h.1]; exact hi), if_pos rfl])))
theorem eT.unique {x y : List Bool} (hx : eT S n x) (hy : eT S n y) : x = y := by (
 refine nJ (hx.1.1.trans hy.1.1.symm) fun i hi => ?_
 rw [hx.1.1] at hi
 rw [Bool.eq_iff_iff]
 exact ⟨hy.2.2 x ⟨hx.1.1, fun j hj h => by rw [← hx.1.2 j hj]; exact h⟩ i, hx.2.2 y ⟨hy.1.1, fun j hj h => by rw [← hy.1.2 j hj]; exact h⟩ i⟩)
end
def cnt (x : List Bool) : Nat := x.count true
theorem bOT {x : List Bool} {k : Nat} (hk : k < x.length) (hx : yn x k = true) : cnt (x.set k false) + 1 = cnt x := by (
 unfold cnt
 rw [List.count_set hk]
 have h1 : x[k] = true := by simpa [yn, hk] using hx
 have h2 : 0 < x.count true := List.count_pos_iff.2 (by rw [← h1]; exact List.getElem_mem hk)
 simp [h1]
 omega)
theorem sY (x : List Bool) : cnt x ≤ x.length := List.count_le_length
theorem sZ (x : List Bool) (k : Nat) (b : Bool) : (bE x).set k (.bool b) = bE (x.set k b) := (List.map_set).symm
theorem Row.bool {w : World} {B : Nat} {e : TypeId} {v : Value} {x : List Bool} (h : Row w B e v (bE x)) {k : Nat} (hk : k < x.length) :
 ∃ g o cap, v = .slice (some ⟨g, o, none⟩) x.length cap ∧ B ≤ g ∧ g < w.heap.size ∧ w.cell? ⟨g, o + k, none⟩ = some (.bool (yn x k)) ∧ w.frozen? ⟨g, o + k, none⟩ = false := by (
 obtain ⟨g, o, cap, u, e1, hb, hl, hu, hc, hf⟩ := h.get (k := k) (by rw [bD]; exact hk)
 rw [yZ, Vs hk] at hu
 simp at hu
 subst hu
 rw [bD] at e1
 exact ⟨g, o, cap, e1, hb, hl, by rw [hc]; simp [yn, hk], hf⟩)
theorem Row.setb {w : World} {B : Nat} {e : TypeId} {g o n cap : Nat} {x : List Bool} (h : Row w B e (.slice (some ⟨g, o, none⟩) n cap) (bE x)) (k : Nat) (b : Bool) :
 Row (w.setCell ⟨g, o + k, none⟩ (.bool b)) B e (.slice (some ⟨g, o, none⟩) n cap) (bE (x.set k b)) := by (
 rw [← sZ]
 exact h.store k _)
end
section
open Go.RowKit Go.ChangeShapes Go.WideShapes Go.Deep
section
variable {H : Type} {enc : TypeId × Value → H} {P : Program} {w : World} {base : Nat} {spare : Nat → Bool} {held : Bool}
theorem fF (b off k : Nat) : (Addr.mk b off none).add k = ⟨b, off + k, none⟩ := by (
 unfold Addr.add
 split
 · rename_i h; subst h; rfl
 · rfl)
theorem zD {r : Reach} {b0 : Nat} {t : TypeId} {fs : Array Field} {v : Value} {d : DataW H} {p : List MemPlace} (hs : P.underlying t = some (.struct fs)) (hone : oneCellFields P fs = true) (hC : P.cellsOf t = fs.size)
 (hv : Value.okWide P w r b0 t v) (h : DataW.Trod enc P w base spare held t v d p) :
 ∃ cs : Array Value, v = .agg cs ∧ cs.size = fs.size ∧ ∃ n, ∀ (i : Nat) (f : Field), fs[i]? = some f → ∃ (c : Value) (y : DataW H × List MemPlace), cs[i]? = some c ∧ DataW.trod enc P w base spare held n f.type [c] = some y := by (
 obtain ⟨cs, rfl, hsz⟩ := okWide_struct hs hv
 obtain ⟨fuel, hf⟩ := h
 obtain ⟨xs, n, _, _, hl, hlen, hx⟩ := DataW.trod_struct hs hf
 refine ⟨cs, rfl, hsz.trans hC, n, fun i f hi => ?_⟩
 have hlt : i < fs.size := (Array.getElem?_eq_some_iff.1 hi).1
 obtain ⟨ho, hc⟩ := hone_of hone i f hi
 have hx := hx i f hi
 rw [ho, hc] at hx
 have hic : i < cs.size := Zb
 refine ⟨cs[i], xs[i], Array.getElem?_eq_getElem hic, ?_⟩
 rw [Vs Zb] at hx
 have hcell : ((Value.agg cs).cells.toList.drop i).take 1 = [cs[i]] := by (
 have hl : i < cs.toList.length := by simpa using hic
 show (cs.toList.drop i).take 1 = _
 rw [List.drop_eq_getElem_cons hl]
 simp)
 rw [hcell] at hx
 exact hx)
theorem bIY {fuel : Nat} {t : TypeId} {cs : List Value} {o : Nat} {y : Option (DataW H × List MemPlace)} (ht : P.underlying t = some (.int .i64)) (hy : y.isSome = true)
 (h : DataW.trod enc P w base spare held fuel t ((cs.drop o).take 1) = y) : ∃ z, cs[o]? = some (.int .i64 z) := by (
 obtain ⟨y, rfl⟩ := Option.isSome_iff_exists.1 hy
 obtain ⟨z, hz, _⟩ := DataW.trod_int ht h
 refine ⟨z, ?_⟩
 rcases Nat.lt_or_ge o cs.length with hlt | hge
 · (
 rw [List.drop_eq_getElem_cons hlt] at hz
 rw [List.take_succ_cons] at hz
 rw [Vs hlt, (List.cons.inj hz).1])
 · (
 rw [List.drop_of_length_le hge] at hz
 simp at hz))
theorem bFJ {t e : TypeId} {f0 f1 f2 f3 f4 f5 : Field} {fuel : Nat} {cs : List Value} {x : DataW H × List MemPlace} (ht : P.underlying t = some (.slice e)) (he : P.underlying e = some (.struct #[f0, f1, f2, f3, f4, f5]))
 (hone : oneCellFields P #[f0, f1, f2, f3, f4, f5] = true) (hC : P.cellsOf e = 6) (hint : ∀ f ∈ [f0, f1, f2, f3, f4, f5], P.underlying f.type = some (.int .i64))
 (h : DataW.trod enc P w base spare held fuel t cs = some x) :
 ∃ (A : Option Addr) (c : Nat) (l : List Nd), cs = [.slice A l.length c] ∧ l.length ≤ maxLen ∧ bG w A l := by (
 rcases open_slice ht h with ⟨rfl, _⟩ | ⟨a, len, cap, m, n, D, Pl, rfl, _, hl, hm, hmm, _, hx⟩
 · exact ⟨none, 0, [], rfl, Zf, fun h => absurd rfl h⟩
 have hlm : len ≤ m := by rw [hmm]; split <;> omega
 rw [hC] at hx
 obtain ⟨Z, hZ⟩ := choose_lt (α := Nd) (n := len) (p := fun i z => ∀ j, j < 6 → w.cell? ((a.add (i * 6)).add j) = z.cells[j]?) (fun i hi => by
  obtain ⟨cs', h1, h2⟩ := hx i Zb
  obtain ⟨_, hlen, hcell⟩ := World.cells?_some h1
  obtain ⟨xs, k, _, _, _, hxl, hf⟩ := DataW.trod_struct he h2
  have hxl : xs.length = 6 := hxl
  have one : ∀ (o : Nat) (f : Field), #[f0, f1, f2, f3, f4, f5][o]? = some f → f ∈ [f0, f1, f2, f3, f4, f5] → ∃ z, cs'[o]? = some (.int .i64 z) := by (
 intro o f ho hm
 have hlt : o < 6 := (Array.getElem?_eq_some_iff.1 ho).1
 obtain ⟨h3, h4⟩ := hone_of hone o f ho
 have := hf o f ho
 rw [h3, h4] at this
 exact bIY (hint f hm) (by rw [Vs Zb]; rfl) this)
  obtain ⟨z0, e0⟩ := one 0 f0 rfl Zf
  obtain ⟨z1, e1⟩ := one 1 f1 rfl Zf
  obtain ⟨z2, e2⟩ := one 2 f2 rfl Zf
  obtain ⟨z3, e3⟩ := one 3 f3 rfl Zf
  obtain ⟨z4, e4⟩ := one 4 f4 rfl Zf
  obtain ⟨z5, e5⟩ := one 5 f5 rfl Zf
  refine ⟨⟨z0, z1, z2, z3, z4, z5⟩, fun j hj => ?_⟩
  rw [hcell j hj]
  match j, hj with
  | 0, _ => exact e0
  | 1, _ => exact e1
  | 2, _ => exact e2
  | 3, _ => exact e3
  | 4, _ => exact e4
  | 5, _ => exact e5)
 have hll : ((List.range len).map Z).length = len := Zf
 refine ⟨some a, cap, (List.range len).map Z, by rw [hll], Zb, ?_⟩
 intro hn
 have hpos : 0 < len := by (
 rcases Nat.eq_zero_or_pos len with h0 | h0
 · subst h0; exact absurd rfl hn
 · exact h0)
 have h0 := hZ 0 hpos 0 Zb
 have hsp : a.spot = none := World.cell?_spot (a := a) (v := .int .i64 (Z 0).op) (by simpa [Addr.add, Nd.cells] using h0)
 obtain ⟨b, off, sp⟩ := a
 simp only at hsp
 subst hsp
 refine ⟨b, off, rfl, World.block_lt_of_cell? w ⟨b, off, none⟩ (u := .int .i64 (Z 0).op) (by simpa [Addr.add, Nd.cells] using h0), fun i v hi => ?_⟩
 by_cases hil : i < len
 · (
 simp [hil] at hi
 subst hi
 have hz := hZ i hil
 refine ⟨?_, ?_, ?_, ?_, ?_, ?_⟩
 · have := hz 0 Zb; rw [fF, fF] at this; exact this
 · have := hz 1 Zb; rw [fF, fF] at this; exact this
 · have := hz 2 Zb; rw [fF, fF] at this; exact this
 · have := hz 3 Zb; rw [fF, fF] at this; exact this
 · have := hz 4 Zb; rw [fF, fF] at this; exact this
 · have := hz 5 Zb; rw [fF, fF] at this; exact this)
 · simp [hil] at hi)
end
theorem arr2 {α : Type} {cs : Array α} (h : cs.size = 2) : ∃ a b, cs = #[a, b] := by (
 obtain ⟨l⟩ := cs
 match l, h with
 | [a, b], _ => exact ⟨a, b, rfl⟩)
section
variable {H : Type} {enc : TypeId × Value → H} {P : Program}
theorem bLQ {f : Func} {s : ChangeSpec} {apart fresh handsOn again : Bool} {W W' : World} {args : Array Value} {v : Value} {ds gs : List (DataW H)} {before pa pv : List MemPlace}
 (hW : DataW.Whole enc P f.params.toList s.vars apart W args.toList ds gs before)
 (hres : ∀ (b : Nat) (sp : Nat → Bool) (hd : Bool), DataW.TrodAll enc P W' b sp hd f.resultTypes.toList (v.resultList f.resultTypes.size) (s.fn H (ds ++ gs)).results [])
 (hargs : ∀ sp : Nat → Bool, (∀ p ∈ before, sp p.block = true) → DataW.TrodAll enc P W' 0 sp true f.params.toList args.toList (s.fn H (ds ++ gs)).args pa)
 (hvars : ∀ sp : Nat → Bool, (∀ p ∈ before, sp p.block = true) → DataW.TrodVars enc P W' sp s.vars (s.fn H (ds ++ gs)).vars pv)
 (hps : before = pa ++ pv) (hb : Below W.heap.size W W')
 (hok : ∀ (j : Nat) (t : TypeId) (r : Value), f.resultTypes[j]? = some t → (v.resultList f.resultTypes.size)[j]? = some r → Value.okWide P W' .any 0 t r) :
 s.post enc P f apart fresh handsOn again W args v W' := by (
 have low : ∀ p ∈ before, p.block < W.heap.size := fun p hp => hW.lt p hp
 have old : ∀ p ∈ before, (fun b => decide (b < W.heap.size)) p.block = true := fun p hp => by simpa using low p hp
 subst hps
 refine ⟨ds, gs, _, [], pa, pv, hW, hres _ _ _, hargs _ old, hvars _ old, World.keptBut_mono (fun p hp => ⟨hp, Or.inr (by simpa using hp)⟩) (hb.frame (· ∈ pa ++ pv)), fun _ => ?_⟩
 obtain ⟨_, _, _, _, _, hz, hn⟩ := hW
 refine ⟨hok, _, _, ([] ++ pa) ++ pv, ⟨[] ++ pa, pv, trodAll_append (hargs _ (fun _ _ => rfl)) (hres _ _ _), hvars _ (fun _ _ => rfl), rfl, ?_, ?_⟩, ?_⟩
 · (
 intro b off hp
 have hin : MemPlace.cell b off ∈ pa ++ pv := by simpa using hp
 rw [hb.frozen (low _ hin)]
 exact hz b off hin)
 · (
 intro ha
 simpa using hn ha)
 · (
 intro p hp _
 simpa using hp))
end
end
section
open Go.RowKit Go.ChangeShapes Go.WideShapes Go.Deep
section
variable {H : Type} {enc : TypeId × Value → H} {w : World} {base : Nat} {spare : Nat → Bool} {held : Bool} {r : Reach} {b0 : Nat} {v : Value} {d : DataW H} {p : List MemPlace}
theorem bOA (hv : Value.okWide prog w r b0 24 v) (h : DataW.Trod enc prog w base spare held 24 v d p) :
 ∃ (regs : Int) (A : Option Addr) (l : List Nd) (cap : Nat), v = .agg #[.int .i64 regs, .slice A l.length cap] ∧ l.length ≤ maxLen ∧ bG w A l := by (
 obtain ⟨cs, rfl, hsz, n, hf⟩ := zD underlying24 Zc Zc hv h
 obtain ⟨c0, c1, rfl⟩ := arr2 hsz
 obtain ⟨_, y0, e0, h0⟩ := hf 0 _ rfl
 obtain ⟨_, y1, e1, h1⟩ := hf 1 _ rfl
 simp at e0 e1
 subst e0; subst e1
 obtain ⟨z, hz, _⟩ := DataW.trod_int underlying3 h0
 obtain ⟨A, c, l, hl, hm, hA⟩ := bFJ underlying22 underlying44 Zc Zc (by simp [underlying3]) h1
 simp at hz hl
 subst hz; subst hl
 exact ⟨z, A, l, c, rfl, hm, hA⟩)
end
end
structure Tm where
 op : Int
 a : Int
 b : Int
def fJ (t : Tm) (n : Nd) : Bool := n.op == t.op && n.a == t.a && n.b == t.b
def kZ (t : Tm) (n : Nd) : Bool := !dI n.op || n.d != t.a && n.d != t.b
def nd (l : List Nd) (k : Nat) : Nd := l.getD k ⟨0, 0, 0, 0, 0, 0⟩
theorem dH {l : List Nd} {k : Nat} {n : Nd} (h : l[k]? = some n) : nd l k = n := by simp [nd, Vt, h]
def Nd.tm (n : Nd) : Tm := ⟨n.op, n.a, n.b⟩
section
open Go.RowKit Go.ChangeShapes Go.WideShapes Go.Deep
theorem arr3 {α : Type} {cs : Array α} (h : cs.size = 3) : ∃ a b c, cs = #[a, b, c] := by (
 obtain ⟨l⟩ := cs
 simp at h
 match l, h with
 | [a, b, c], _ => exact ⟨a, b, c, rfl⟩)
section
variable {H : Type} {enc : TypeId × Value → H} {w : World} {base : Nat} {spare : Nat → Bool} {held : Bool} {r : Reach} {b0 : Nat} {v : Value} {d : DataW H} {p : List MemPlace}
theorem bNV (hv : Value.okWide prog w r b0 41 v) (h : DataW.Trod enc prog w base spare held 41 v d p) :
 ∃ t : Tm, v = .agg #[.int .i64 t.op, .int .i64 t.a, .int .i64 t.b] := by (
 obtain ⟨cs, rfl, hsz, n, hf⟩ := zD underlying41 Zc Zc hv h
 obtain ⟨c0, c1, c2, rfl⟩ := arr3 hsz
 obtain ⟨_, y0, e0, h0⟩ := hf 0 _ rfl
 obtain ⟨_, y1, e1, h1⟩ := hf 1 _ rfl
 obtain ⟨_, y2, e2, h2⟩ := hf 2 _ rfl
 simp at e0 e1 e2
 subst e0; subst e1; subst e2
 obtain ⟨z0, hz0, _⟩ := DataW.trod_int underlying3 h0
 obtain ⟨z1, hz1, _⟩ := DataW.trod_int underlying3 h1
 obtain ⟨z2, hz2, _⟩ := DataW.trod_int underlying3 h2
 simp at hz0 hz1 hz2
 subst hz0; subst hz1; subst hz2
 exact ⟨⟨z0, z1, z2⟩, rfl⟩)
end
end
section
open Go.RowKit
deriving instance DecidableEq for Tm
def Tm.cells (n : Tm) : List Value := [.int .i64 n.op, .int .i64 n.a, .int .i64 n.b]
def Tm.lies (n : Tm) (w : World) (b off : Nat) : Prop :=
 w.cell? ⟨b, off, none⟩ = some (.int .i64 n.op) ∧ w.cell? ⟨b, off + 1, none⟩ = some (.int .i64 n.a) ∧ w.cell? ⟨b, off + 2, none⟩ = some (.int .i64 n.b)
def kA (w : World) (A : Option Addr) (l : List Tm) : Prop :=
 l ≠ [] → ∃ b off, A = some ⟨b, off, none⟩ ∧ b < w.heap.size ∧ ∀ (i : Nat) (n : Tm), l[i]? = some n → n.lies w b (off + i * 3)
theorem Tm.lies.below {n : Tm} {B : Nat} {w w' : World} {b off : Nat} (h : n.lies w b off) (hb : Below B w w') (hl : b < B) : n.lies w' b off := by (
 obtain ⟨hc, _⟩ := bB hb
 obtain ⟨h0, h1, h2⟩ := h
 exact ⟨(hc _ _ hl).trans h0, (hc _ _ hl).trans h1, (hc _ _ hl).trans h2⟩)
theorem kA.below {w w' : World} {A : Option Addr} {l : List Tm} (h : kA w A l) (hb : Below w.heap.size w w') : kA w' A l := fun hn => by (
 obtain ⟨b, off, e, hl, hc⟩ := h hn
 exact ⟨b, off, e, Vx hl hb.size, fun i n hi => (hc i n hi).below hb hl⟩)
theorem kA.mk {w : World} {b off : Nat} {l : List Tm} (hb : b < w.heap.size) (h : ∀ (i : Nat) (n : Tm), l[i]? = some n → n.lies w b (off + i * 3)) : kA w (some ⟨b, off, none⟩) l :=
 fun _ => ⟨b, off, rfl, hb, h⟩
theorem kA.get {w : World} {A : Option Addr} {l : List Tm} (h : kA w A l) {k : Nat} (hk : k < l.length) :
 ∃ b off n, A = some ⟨b, off, none⟩ ∧ b < w.heap.size ∧ l[k]? = some n ∧ n.lies w b (off + k * 3) := by (
 obtain ⟨b, off, e, hb, hc⟩ := h Xo
 exact ⟨b, off, l[k], e, hb, Vs hk, hc k _ (Vs hk)⟩)
def fI : List Tm → List Value
 | [] => []
 | n :: l => n.cells ++ fI l
theorem Tm.cells_len (n : Tm) : n.cells.length = 3 := rfl
theorem uZ (l : List Tm) : (fI l).length = l.length * 3 := by (
 induction l with
 | nil => rfl
 | cons n l ih => simp only [fI, Vu, Tm.cells_len, ih, List.length_cons]; omega)
theorem xC (a b : List Tm) : fI (a ++ b) = fI a ++ fI b := by (
 induction a with
 | nil => rfl
 | cons n a ih => simp only [List.cons_append, fI, ih, List.append_assoc])
theorem qO : ∀ (l : List Tm) (i j : Nat), j < 3 → (fI l)[i * 3 + j]? = (l[i]?).bind fun n => n.cells[j]?
 | [], i, j, hj => by simp [fI]
 | n :: l, 0, j, hj => by (
 simp only [fI, Nat.zero_mul, Nat.zero_add, List.getElem?_cons_zero, Option.bind_some]
 rw [Ue (by rw [Tm.cells_len]; exact hj)])
 | n :: l, i + 1, j, hj => by (
 simp only [fI, List.getElem?_cons_succ]
 rw [Uf (by rw [Tm.cells_len]; omega), Tm.cells_len, show (i + 1) * 3 + j - 3 = i * 3 + j by omega]
 exact qO l i j hj)
theorem bET (l : List Tm) : ∀ u ∈ fI l, u.oneCell' = true := by (
 induction l with
 | nil => intro u hu; cases hu
 | cons n l ih =>
  intro u hu
  simp only [fI, Ug] at hu
  rcases hu with hu | hu
  · (
 simp only [Tm.cells, Uh, List.not_mem_nil, or_false] at hu
 rcases hu with rfl | rfl | rfl <;> rfl)
  · exact ih u hu)
theorem yB {n : Tm} {w : World} {b off : Nat} : n.lies w b off ↔ ∀ j, j < 3 → w.cell? ⟨b, off + j, none⟩ = n.cells[j]? := by (
 constructor
 · (
 rintro ⟨h0, h1, h2⟩ j hj
 match j, hj with
 | 0, _ => exact h0
 | 1, _ => exact h1
 | 2, _ => exact h2)
 · (
 intro h
 exact ⟨h 0 Zb, h 1 Zb, h 2 Zb⟩))
theorem kA.cell {w : World} {b off : Nat} {l : List Tm} (h : kA w (some ⟨b, off, none⟩) l) (k : Nat) (hk : k < l.length * 3) : w.cell? ⟨b, off + k, none⟩ = (fI l)[k]? := by (
 have hd : k / 3 < l.length := Zb
 obtain ⟨b', off', n, e, _, hn, hl⟩ := h.get hd
 injection e with e
 injection e with e1 e2
 subst e1 e2
 have h3' : k % 3 < 3 := Nat.mod_lt _ Zb
 have := yB.1 hl (k % 3) h3'
 rw [show off + k / 3 * 3 + k % 3 = off + k by omega] at this
 have hg := qO l (k / 3) (k % 3) h3'
 rw [show k / 3 * 3 + k % 3 = k by omega, hn] at hg
 rw [this, hg]
 rfl)
def cZ (w : World) (base : Nat) (e : TypeId) (v : Value) (l : List Tm) : Prop := w.ownsRow base e 3 v l.length (fI l)
section
variable {w w' : World} {base : Nat} {e : TypeId} {v : Value} {l : List Tm}
theorem cZ.nil_ (w : World) (base : Nat) (e : TypeId) : cZ w base e (.slice none 0 0) [] := ⟨rfl, .inl ⟨rfl, rfl⟩⟩
theorem cZ.open (h : cZ w base e v l) : (v = .slice none 0 0 ∧ l = []) ∨ ∃ g cap cur, v = .slice (some ⟨g, 0, none⟩) l.length cap ∧ base ≤ g ∧ w.heap[g]? = some (.cells cur e (0, 0)) ∧ l.length ≤ cap ∧ cap ≤ maxLen ∧ cur.size = cap * 3 ∧
 ∀ k, k < l.length * 3 → cur[k]? = (fI l)[k]? := by (
 obtain ⟨hl, ⟨hv, hn⟩ | ⟨g, cap, cur, hv, hb, hh, h1, h2, h3, h4⟩⟩ := h
 · exact Jg
 · (
 refine .inr ⟨g, cap, cur, hv, hb, hh, h1, h2, h3, fun k hk => ?_⟩
 rw [← h4, List.getElem?_take, if_pos hk, Array.getElem?_toList]))
theorem cZ.lt (h : cZ w base e v l) : ∀ k, v.ownBlock = some k → base ≤ k ∧ k < w.heap.size := by (
 rintro k hk
 rcases h.open with ⟨rfl, _⟩ | ⟨g, cap, cur, rfl, hb, hh, _⟩
 · simp [Value.ownBlock] at hk
 · (
 simp [Value.ownBlock] at hk
 subst hk
 exact ⟨hb, bW hh⟩))
theorem cZ.of_block (h : cZ w base e v l) (hk : ∀ k, v.ownBlock = some k → w'.heap[k]? = w.heap[k]?) : cZ w' base e v l := by (
 obtain ⟨hl, ⟨hv, hn⟩ | ⟨g, cap, cur, hv, hb, hh, r⟩⟩ := h
 · exact ⟨hl, .inl ⟨hv, hn⟩⟩
 · exact ⟨hl, .inr ⟨g, cap, cur, hv, hb, (hk g (by rw [hv]; rfl)).trans hh, r⟩⟩)
theorem cZ.kept {row : Option Nat} (h : cZ w base e v l) (hg : w.grownBy w' row) (hne : v.ownBlock = none ∨ v.ownBlock ≠ row) : cZ w' base e v l :=
 h.of_block fun k hk => hg.block k (h.lt k hk).2 (by
  rcases hne with hn | hn
  · rw [hn] at hk; cases hk
  · rw [← hk]; exact hn)
theorem cZ.below {B : Nat} (h : cZ w base e v l) (hb : Below B w w') (hB : ∀ k, v.ownBlock = some k → k < B) : cZ w' base e v l := h.of_block fun k hk => hb.block k (hB k hk)
theorem cZ.below' (h : cZ w base e v l) (hb : Below w.heap.size w w') : cZ w' base e v l := h.of_block fun k hk => hb.block k (h.lt k hk).2
theorem cZ.alloc (h : cZ w base e v l) (o : Obj) : cZ (w.alloc o) base e v l := h.of_block fun k hk => Below.heap_alloc w o k (h.lt k hk).2
theorem cZ.drew (h : cZ w base e v l) : cZ w.drew base e v l := h
theorem cZ.drewN (h : cZ w base e v l) (n : Nat) : cZ (w.drewN n) base e v l := h
theorem cZ.mono {base' : Nat} (h : cZ w base e v l) (hb : base' ≤ base) : cZ w base' e v l := by (
 obtain ⟨hl, h | ⟨g, cap, cur, hv, hg, r⟩⟩ := h
 · exact ⟨hl, .inl h⟩
 · exact ⟨hl, .inr ⟨g, cap, cur, hv, Nat.le_trans hb hg, r⟩⟩)
theorem cZ.shape (h : cZ w base e v l) : ∃ A cap, v = .slice A l.length cap ∧ l.length ≤ cap ∧ cap ≤ maxLen := by (
 rcases h.open with ⟨rfl, rfl⟩ | ⟨g, cap, cur, rfl, _, _, hc, hm, _⟩
 · exact Jd
 · exact ⟨_, cap, rfl, hc, hm⟩)
theorem cZ.nodes {A : Option Addr} {n cap : Nat} (h : cZ w base e (.slice A n cap) l) : kA w A l := fun hn => by (
 rcases h.open with ⟨_, rfl⟩ | ⟨g, cap, cur, hv, hb, hh, _, _, _, hc⟩
 · exact absurd rfl hn
 · (
 injection hv with hA
 subst hA
 refine ⟨g, 0, rfl, bW hh, fun i n hi => yB.2 fun j hj => ?_⟩
 have hlt : i < l.length := (List.getElem?_eq_some_iff.1 hi).1
 have := hc (i * 3 + j) Zb
 rw [qO l i j hj, hi] at this
 rw [Nat.zero_add]
 simp only [World.cell?, hh, this]
 simp))
theorem cZ.get (h : cZ w base e v l) {k : Nat} (hk : k < l.length) :
 ∃ g cap n, v = .slice (some ⟨g, 0, none⟩) l.length cap ∧ base ≤ g ∧ g < w.heap.size ∧ l[k]? = some n ∧ n.lies w g (k * 3) ∧ ∀ j, j < l.length * 3 → w.frozen? ⟨g, j, none⟩ = false := by (
 have hN := h.shape
 rcases h.open with ⟨_, rfl⟩ | ⟨g, cap, cur, rfl, hb, hh, hcl, hcm, hcs, hc⟩
 · simp at hk
 · (
 have hn := (h.nodes).get hk
 obtain ⟨b, off, n, e1, _, hn, hl⟩ := hn
 injection e1 with e1
 injection e1 with e1 e2
 subst e1 e2
 rw [Nat.zero_add] at hl
 exact ⟨g, cap, n, rfl, hb, bW hh, hn, hl, fun j hj => by simp [World.frozen?, hh]⟩))
theorem cZ.ne_blk {g : Nat} {t : TypeId} {cs : Array Value} (h : cZ w base e v l) (hg : Blk w g t cs) (hne : e ≠ t) : v.ownBlock ≠ some g := by (
 rcases h.open with ⟨rfl, _⟩ | ⟨g', cap, cur, rfl, _, hh, _⟩
 · exact Je
 · (
 intro he
 simp [Value.ownBlock] at he
 subst he
 have hB : Blk w g' e cur := by unfold Blk; exact hh
 exact hB.ne_ hg hne rfl))
theorem sP {P : Program} (t ty : TypeId) (i : TypeInfo) (z : Value) (bytes : Nat) (ht : P.underlying t = some (.slice e)) (hi : P.info? e = some i) (hz : i.zero = some z)
 (hsize : i.size = 3) (hby : i.bytes = bytes) (hzs : z.cells.size = 3) (hr : cZ w base e v l) (A : Option Addr) (c : Nat) (news : List Tm) (hn : kA w A news)
 (h3'3 : l.length + news.length ≤ maxLen) (hbytes : (l.length + news.length) * bytes ≤ 140737488355328) (hbase : base ≤ w.heap.size) :
 ∃ v' w', (Builtin.append_ #[t, t] ty #[v, .slice A news.length c]).run P w = .ok v' w' ∧ cZ w' base e v' (l ++ news) ∧ w.grownBy w' v.ownBlock ∧ (v'.ownBlock = v.ownBlock ∨ ∀ k, v'.ownBlock = some k → w.heap.size ≤ k) := by (
 by_cases hne : news = []
 · (
 subst hne
 refine ⟨v, w, ?_, by simpa using hr, World.grownBy.refl w _, .inl rfl⟩
 rcases hr.open with ⟨rfl, rfl⟩ | ⟨g, cap, cur, rfl, _, _, hnc, _⟩
 · exact Jh
 · rcases A with _ | A <;> simp [Builtin.append_, run_underlying ht, sizeOf, typeInfo, hi, hsize, Builtin.lenOf, Builtin.firstCells, loadCells, loadCellsFrom, hnc, storeCells])
 · (
 obtain ⟨b, off, rfl, hb, hcell⟩ := hn hne
 have hnews : ∀ j u, (fI news)[j]? = some u → w.cell? ((⟨b, off, none⟩ : Addr).add j) = some u := fun j u hj => by (
 rw [Addr.add_lit, ← hj]
 exact kA.cell hn j (by rw [← uZ]; exact (List.getElem?_eq_some_iff.1 hj).1))
 obtain ⟨v', w', hrun, h2, h3, h4, h5⟩ := run_append_own_at (P := P) w base t ty e i z 3 bytes ht hi hz hsize hby hzs Zb v l.length (fI l) hr ⟨b, off, none⟩ news.length c (fI news) (uZ _) hnews (bET _) h3'3 hbytes hbase
 refine ⟨v', w', hrun, ?_, h3, h5.imp id fun h k hk => by rw [h] at hk; injection hk with hk; omega⟩
 show w'.ownsRow base e 3 v' (l ++ news).length (fI (l ++ news))
 rw [Vu, xC]
 exact h2))
theorem uK {P : Program} {o : Oper} {a : Act} {K : Act → World → Prop} {Q : Exit → Act → World → Prop} (s x : Operand) (t : TypeId)
 (ho : o.op = .call { callee := .builtin .append, args := #[s, x], argTypes := #[t, t] })
 (i : TypeInfo) (z : Value) (bytes : Nat) (ht : P.underlying t = some (.slice e)) (hi : P.info? e = some i) (hz : i.zero = some z)
 (hsize : i.size = 3) (hby : i.bytes = bytes) (hzs : z.cells.size = 3) (hs : a.eval s = v) (hr : cZ w base e v l) (A : Option Addr) (n c : Nat) (news : List Tm) (hx : a.eval x = .slice A n c)
 (hnl : n = news.length) (hn : kA w A news)
 (h3'3 : l.length + news.length ≤ maxLen) (hbytes : (l.length + news.length) * bytes ≤ 140737488355328) (hbase : base ≤ w.heap.size)
 (h : ∀ v' w', cZ w' base e v' (l ++ news) → w.grownBy w' v.ownBlock → (v'.ownBlock = v.ownBlock ∨ ∀ k, v'.ownBlock = some k → w.heap.size ≤ k) → K (a.put o.dst v') w') : o.wp P a w K Q := by (
 subst hnl
 obtain ⟨v', w', hrun, h2, h3, h4⟩ := sP (P := P) t o.type i z bytes ht hi hz hsize hby hzs hr A c news hn h3'3 hbytes hbase
 unfold Oper.wp execOp
 simp only [ho, resolve, invoke, builtin, Sem.run_bind, Sem.run_pure, Result.andThen_ok, List.map_toArray, List.map_cons, List.map_nil, hs, hx, hrun]
 exact h v' w' h2 h3 h4)
theorem gS {P : Program} {ops : Array Oper} {rest : List Oper} {o : Oper} {a : Act} {Q : Exit → Act → World → Prop} (hgd : o.guard = none) (s x : Operand) (t : TypeId)
 (ho : o.op = .call { callee := .builtin .append, args := #[s, x], argTypes := #[t, t] })
 (i : TypeInfo) (z : Value) (bytes : Nat) (ht : P.underlying t = some (.slice e)) (hi : P.info? e = some i) (hz : i.zero = some z)
 (hsize : i.size = 3) (hby : i.bytes = bytes) (hzs : z.cells.size = 3) (hs : a.eval s = v) (hr : cZ w base e v l) (A : Option Addr) (n c : Nat) (news : List Tm) (hx : a.eval x = .slice A n c)
 (hnl : n = news.length) (hn : kA w A news)
 (h3'3 : l.length + news.length ≤ maxLen) (hbytes : (l.length + news.length) * bytes ≤ 140737488355328) (hbase : base ≤ w.heap.size)
 (h : ∀ v' w', cZ w' base e v' (l ++ news) → w.grownBy w' v.ownBlock → (v'.ownBlock = v.ownBlock ∨ ∀ k, v'.ownBlock = some k → w.heap.size ≤ k) → wpList P ops Q rest (a.put o.dst v') w') :
 wpList P ops Q (o :: rest) a w :=
 wpList_plain hgd fun _ hK => uK s x t ho i z bytes ht hi hz hsize hby hzs hs hr A n c news hx hnl hn h3'3 hbytes hbase fun v' w' h2 h3 h4=> hK _ _ (h v' w' h2 h3 h4)
theorem qN {w : World} {n : Tm} {t : TypeId} {g : Nat} (h : g = w.heap.size) : kA (w.alloc (.cells #[.int .i64 n.op, .int .i64 n.a, .int .i64 n.b] t)) (some ⟨g, 0, none⟩) [n] := by (
 subst h
 refine kA.mk Zf fun i m hi => ?_
 rcases i with _ | i
 · (
 simp at hi
 subst hi
 simp [Tm.lies])
 · simp at hi)
end
end
section
open Go.RowKit
def ltT (a b : Tm) : Bool := decide (a.op < b.op ∨ a.op = b.op ∧ (a.a < b.a ∨ a.a = b.a ∧ a.b < b.b))
theorem vT (a : Tm) : ltT a a = false := by simp [ltT]
theorem mW {a b c : Tm} (h1 : ltT a b = true) (h2 : ltT b c = true) : ltT a c = true := by (
 simp only [ltT, decide_eq_true_eq] at *
 omega)
theorem pT {a b : Tm} (h : a ≠ b) : ltT a b = true ∨ ltT b a = true := by (
 obtain ⟨a0, a1, a2⟩ := a
 obtain ⟨b0, b1, b2⟩ := b
 simp only [ltT, decide_eq_true_eq]
 by_cases h0 : a0 = b0
 · (
 by_cases h1 : a1 = b1
 · (
 have h2 : a2 ≠ b2 := fun h2 => h (by rw [h0, h1, h2])
 omega)
 · omega)
 · omega)
theorem qX {a b : Tm} (h : ltT a b = true) : a ≠ b := fun e => by rw [e, vT] at h; cases h
def jN : List (Tm × Int) → Tm → List (Tm × Int)
 | [], t => [(t, 1)]
 | (u, n) :: l, t => if ltT u t then (u, n) :: jN l t else if u = t then (u, n + 1) :: l else (t, 1) :: (u, n) :: l
def lY (ts : List Tm) : List (Tm × Int) := ts.foldl jN []
def Asc (l : List (Tm × Int)) : Prop := l.Pairwise fun x y => ltT x.1 y.1 = true
theorem yM : ∀ (l : List (Tm × Int)) (t : Tm) (x : Tm × Int), x ∈ jN l t → x.1 = t ∨ x ∈ l
 | [], t, x, h => by simp [jN] at h; exact .inl (by rw [h])
 | (u, n) :: l, t, x, h => by (
 unfold jN at h
 split at h
 · (
 rcases List.mem_cons.1 h with h | h
 · exact .inr (by simp [h])
 · exact (yM l t x h).imp id fun h => by simp [h])
 · (
 split at h
 · (
 rename_i hu
 rcases List.mem_cons.1 h with h | h
 · exact .inl (by rw [h]; exact hu)
 · exact .inr (by simp [h]))
 · (
 rcases List.mem_cons.1 h with h | h
 · exact .inl (by rw [h])
 · exact .inr h)))
theorem sT : ∀ (l : List (Tm × Int)) (t : Tm), Asc l → Asc (jN l t)
 | [], t, _ => by simp [jN, Asc]
 | (u, n) :: l, t, h => by (
 obtain ⟨h1, h2⟩ := List.pairwise_cons.1 h
 unfold jN
 split
 · (
 rename_i hu
 refine List.pairwise_cons.2 ⟨fun y hy => ?_, sT l t h2⟩
 rcases yM l t y hy with e | e
 · rw [e]; exact hu
 · exact h1 y e)
 · (
 rename_i hu
 split
 · exact List.pairwise_cons.2 ⟨h1, h2⟩
 · (
 rename_i hne
 have htu : ltT t u = true := (pT hne).resolve_left (by simpa using hu)
 exact List.pairwise_cons.2 ⟨fun y hy => by
  rcases List.mem_cons.1 hy with e | e
  · rw [e]; exact htu
  · exact mW htu (h1 y e), h⟩)))
theorem bDJ (ts : List Tm) : Asc (lY ts) := by (
 have : ∀ (ts : List Tm) (l : List (Tm × Int)), Asc l → Asc (ts.foldl jN l) := fun ts => by (
 induction ts with
 | nil => exact fun l h => h
 | cons t ts ih => exact fun l h => ih _ (sT l t h))
 exact this ts [] (by simp [Asc]))
def fO (l : List (Tm × Int)) (t : Tm) : Int := match l.find? (fun x => x.1 == t) with | some x => x.2 | none => 0
theorem cK (u : Tm) (n : Int) (l : List (Tm × Int)) (t : Tm) : fO ((u, n) :: l) t = if u = t then n else fO l t := by (
 unfold fO
 rw [List.find?_cons]
 by_cases h : u = t
 · simp [h]
 · (
 have : (u == t) = false := by simpa using h
 simp [this, h]))
theorem yN : ∀ (l : List (Tm × Int)) (t v : Tm), Asc l → fO (jN l t) v = if v = t then fO l v + 1 else fO l v
 | [], t, v, _ => by (
 rw [jN, cK]
 by_cases h : t = v
 · subst h; simp [fO]
 · rw [if_neg h, if_neg (Ne.symm h)])
 | (u, n) :: l, t, v, h => by (
 obtain ⟨h1, h2⟩ := List.pairwise_cons.1 h
 have ih := yN l t v h2
 unfold jN
 split
 · (
 rename_i hu
 rw [cK, cK, ih]
 by_cases huv : u = v
 · (
 subst huv
 rw [if_pos rfl, if_pos rfl, if_neg (qX hu)])
 · rw [if_neg huv, if_neg huv])
 · (
 rename_i hu
 split
 · (
 rename_i hut
 subst hut
 rw [cK, cK]
 by_cases huv : u = v
 · subst huv; simp
 · rw [if_neg huv, if_neg huv, if_neg (Ne.symm huv)])
 · (
 rename_i hne
 have htu : ltT t u = true := (pT hne).resolve_left (by simpa using hu)
 rw [cK]
 by_cases htv : t = v
 · (
 subst htv
 rw [if_pos rfl, if_pos rfl]
 have h0 : fO ((u, n) :: l) t = 0 := by (
 unfold fO
 rw [List.find?_eq_none.2]
 intro y hy
 have hy2 : ltT t y.1 = true := by (
 rcases List.mem_cons.1 hy with e | e
 · rw [e]; exact htu
 · exact mW htu (h1 y e))
 have := qX hy2
 simpa using Ne.symm this)
 rw [h0]; rfl)
 · rw [if_neg htv, if_neg (Ne.symm htv)])))
theorem bDI (ts : List Tm) (v : Tm) : fO (lY ts) v = (ts.count v : Int) := by (
 have h : ∀ (ts : List Tm) (l : List (Tm × Int)), Asc l → fO (ts.foldl jN l) v = fO l v + (ts.count v : Int) := fun ts => by (
 induction ts with
 | nil => intro l _; simp
 | cons t ts ih =>
  intro l hl
  rw [List.foldl_cons, ih _ (sT l t hl), yN l t v hl, List.count_cons]
  by_cases h : v = t
  · subst h; simp; omega
  · (
 have : (t == v) = false := by simpa using Ne.symm h
 rw [if_neg h, this]; simp))
 rw [lY, h ts [] (by simp [Asc])]
 simp [fO])
theorem yL : ∀ (l : List (Tm × Int)) (t : Tm), (∀ x ∈ l, 0 < x.2) → ∀ x ∈ jN l t, 0 < x.2
 | [], t, _, x, hx => by simp [jN] at hx; rw [hx]; show (0 : Int) < 1; decide
 | (u, n) :: l, t, h, x, hx => by (
 have hn : 0 < n := h (u, n) Zf
 have hl : ∀ y ∈ l, 0 < y.2 := fun y hy => h y (by simp [hy])
 unfold jN at hx
 split at hx
 · (
 rcases List.mem_cons.1 hx with e | e
 · rw [e]; exact hn
 · exact yL l t hl x e)
 · (
 split at hx
 · (
 rcases List.mem_cons.1 hx with e | e
 · rw [e]; show 0 < n + 1; omega
 · exact hl x e)
 · (
 rcases List.mem_cons.1 hx with e | e
 · rw [e]; show (0 : Int) < 1; omega
 · exact h x e)))
theorem bDH (ts : List Tm) : ∀ x ∈ lY ts, 0 < x.2 := by (
 have : ∀ (ts : List Tm) (l : List (Tm × Int)), (∀ x ∈ l, 0 < x.2) → ∀ x ∈ ts.foldl jN l, 0 < x.2 := fun ts => by (
 induction ts with
 | nil => exact fun l h => h
 | cons t ts ih => exact fun l h => ih _ (yL l t h))
 exact this ts [] Zf)
theorem bJR {l : List (Tm × Int)} (h : Asc l) {x : Tm × Int} (hx : x ∈ l) : fO l x.1 = x.2 := by (
 induction l with
 | nil => cases hx
 | cons y l ih =>
  obtain ⟨h1, h2⟩ := List.pairwise_cons.1 h
  obtain ⟨u, n⟩ := y
  rw [cK]
  rcases List.mem_cons.1 hx with e | e
  · subst e; simp
  · rw [if_neg (qX (h1 x e)), ih h2 e])
theorem jD {l : List (Tm × Int)} {t : Tm} (h : ∀ x ∈ l, x.1 ≠ t) : fO l t = 0 := by (
 unfold fO
 rw [List.find?_eq_none.2 fun x hx => by simpa using h x hx])
theorem wN : ∀ (l m : List (Tm × Int)), Asc l → Asc m → (∀ x ∈ l, 0 < x.2) → (∀ x ∈ m, 0 < x.2) → (∀ t, fO l t = fO m t) → l = m
 | [], [], _, _, _, _, _ => rfl
 | [], (u, n) :: m, _, _, _, hp, h => by (
 have := h u
 rw [cK, if_pos rfl] at this
 have hn := hp (u, n) Zf
 simp [fO] at this
 simp only at hn
 omega)
 | (u, n) :: l, [], _, _, hp, _, h => by (
 have := h u
 rw [cK, if_pos rfl] at this
 have hn := hp (u, n) Zf
 simp [fO] at this
 simp only at hn
 omega)
 | (u, n) :: l, (v, k) :: m, hl, hm, hpl, hpm, h => by (
 obtain ⟨hl1, hl2⟩ := List.pairwise_cons.1 hl
 obtain ⟨hm1, hm2⟩ := List.pairwise_cons.1 hm
 have hn : 0 < n := hpl (u, n) Zf
 have hk : 0 < k := hpm (v, k) Zf
 have huv : u = v := by (
 by_cases e : u = v
 · exact e
 · (
 rcases pT e with e1 | e1
 · (
 have := h u
 rw [cK, if_pos rfl, jD (fun x hx => ?_)] at this
 · omega
 · (
 rcases List.mem_cons.1 hx with e2 | e2
 · rw [e2]; exact Ne.symm e
 · exact Ne.symm (qX (mW e1 (hm1 x e2)))))
 · (
 have := h v
 rw [jD (l := (u, n) :: l) (fun x hx => ?_), cK, if_pos rfl] at this
 · omega
 · (
 rcases List.mem_cons.1 hx with e2 | e2
 · rw [e2]; exact e
 · exact Ne.symm (qX (mW e1 (hl1 x e2)))))))
 subst huv
 have hnk : n = k := by (
 have := h u
 rwa [cK, cK, if_pos rfl, if_pos rfl] at this)
 subst hnk
 rw [wN l m hl2 hm2 (fun x hx => hpl x (by simp [hx])) (fun x hx => hpm x (by simp [hx])) fun t => ?_]
 have := h t
 rw [cK, cK] at this
 by_cases e : u = t
 · (
 subst e
 rw [jD fun x hx => Ne.symm (qX (hl1 x hx)), jD fun x hx => Ne.symm (qX (hm1 x hx))])
 · rwa [if_neg e, if_neg e] at this)
end
section
open Go.RowKit
abbrev Ct := Tm × Int
def Ct.cells (n : Ct) : List Value := [.int .i64 n.1.op, .int .i64 n.1.a, .int .i64 n.1.b, .int .i64 n.2]
def Ct.lies (n : Ct) (w : World) (b off : Nat) : Prop :=
 w.cell? ⟨b, off, none⟩ = some (.int .i64 n.1.op) ∧ w.cell? ⟨b, off + 1, none⟩ = some (.int .i64 n.1.a) ∧ w.cell? ⟨b, off + 2, none⟩ = some (.int .i64 n.1.b) ∧ w.cell? ⟨b, off + 3, none⟩ = some (.int .i64 n.2)
def jT (w : World) (A : Option Addr) (l : List Ct) : Prop :=
 l ≠ [] → ∃ b off, A = some ⟨b, off, none⟩ ∧ b < w.heap.size ∧ ∀ (i : Nat) (n : Ct), l[i]? = some n → n.lies w b (off + i * 4)
theorem Ct.lies.below {n : Ct} {B : Nat} {w w' : World} {b off : Nat} (h : n.lies w b off) (hb : Below B w w') (hl : b < B) : n.lies w' b off := by (
 obtain ⟨hc, _⟩ := bB hb
 obtain ⟨h0, h1, h2, h3⟩ := h
 exact ⟨(hc _ _ hl).trans h0, (hc _ _ hl).trans h1, (hc _ _ hl).trans h2, (hc _ _ hl).trans h3⟩)
theorem jT.below {w w' : World} {A : Option Addr} {l : List Ct} (h : jT w A l) (hb : Below w.heap.size w w') : jT w' A l := fun hn => by (
 obtain ⟨b, off, e, hl, hc⟩ := h hn
 exact ⟨b, off, e, Vx hl hb.size, fun i n hi => (hc i n hi).below hb hl⟩)
theorem jT.mk {w : World} {b off : Nat} {l : List Ct} (hb : b < w.heap.size) (h : ∀ (i : Nat) (n : Ct), l[i]? = some n → n.lies w b (off + i * 4)) : jT w (some ⟨b, off, none⟩) l :=
 fun _ => ⟨b, off, rfl, hb, h⟩
theorem jT.get {w : World} {A : Option Addr} {l : List Ct} (h : jT w A l) {k : Nat} (hk : k < l.length) :
 ∃ b off n, A = some ⟨b, off, none⟩ ∧ b < w.heap.size ∧ l[k]? = some n ∧ n.lies w b (off + k * 4) := by (
 obtain ⟨b, off, e, hb, hc⟩ := h Xo
 exact ⟨b, off, l[k], e, hb, Vs hk, hc k _ (Vs hk)⟩)
def eA : List Ct → List Value
 | [] => []
 | n :: l => n.cells ++ eA l
theorem Ct.cells_len (n : Ct) : n.cells.length = 4 := rfl
theorem jE (l : List Ct) : (eA l).length = l.length * 4 := by (
 induction l with
 | nil => rfl
 | cons n l ih => simp only [eA, Vu, Ct.cells_len, ih, List.length_cons]; omega)
theorem xN (a b : List Ct) : eA (a ++ b) = eA a ++ eA b := by (
 induction a with
 | nil => rfl
 | cons n a ih => simp only [List.cons_append, eA, ih, List.append_assoc])
theorem nQ : ∀ (l : List Ct) (i j : Nat), j < 4 → (eA l)[i * 4 + j]? = (l[i]?).bind fun n => n.cells[j]?
 | [], i, j, hj => by simp [eA]
 | n :: l, 0, j, hj => by (
 simp only [eA, Nat.zero_mul, Nat.zero_add, List.getElem?_cons_zero, Option.bind_some]
 rw [Ue (by rw [Ct.cells_len]; exact hj)])
 | n :: l, i + 1, j, hj => by (
 simp only [eA, List.getElem?_cons_succ]
 rw [Uf (by rw [Ct.cells_len]; omega), Ct.cells_len, show (i + 1) * 4 + j - 4 = i * 4 + j by omega]
 exact nQ l i j hj)
theorem bGQ (l : List Ct) : ∀ u ∈ eA l, u.oneCell' = true := by (
 induction l with
 | nil => intro u hu; cases hu
 | cons n l ih =>
  intro u hu
  simp only [eA, Ug] at hu
  rcases hu with hu | hu
  · (
 simp only [Ct.cells, Uh, List.not_mem_nil, or_false] at hu
 rcases hu with rfl | rfl | rfl | rfl <;> rfl)
  · exact ih u hu)
theorem yY {n : Ct} {w : World} {b off : Nat} : n.lies w b off ↔ ∀ j, j < 4 → w.cell? ⟨b, off + j, none⟩ = n.cells[j]? := by (
 constructor
 · (
 rintro ⟨h0, h1, h2, h3⟩ j hj
 match j, hj with
 | 0, _ => exact h0
 | 1, _ => exact h1
 | 2, _ => exact h2
 | 3, _ => exact h3)
 · (
 intro h
 exact ⟨h 0 Zb, h 1 Zb, h 2 Zb, h 3 Zb⟩))
theorem jT.cell {w : World} {b off : Nat} {l : List Ct} (h : jT w (some ⟨b, off, none⟩) l) (k : Nat) (hk : k < l.length * 4) : w.cell? ⟨b, off + k, none⟩ = (eA l)[k]? := by (
 have hd : k / 4 < l.length := Zb
 obtain ⟨b', off', n, e, _, hn, hl⟩ := h.get hd
 injection e with e
 injection e with e1 e2
 subst e1 e2
 have h3' : k % 4 < 4 := Nat.mod_lt _ Zb
 have := yY.1 hl (k % 4) h3'
 rw [show off + k / 4 * 4 + k % 4 = off + k by omega] at this
 have hg := nQ l (k / 4) (k % 4) h3'
 rw [show k / 4 * 4 + k % 4 = k by omega, hn] at hg
 rw [this, hg]
 rfl)
def cX (w : World) (base : Nat) (e : TypeId) (v : Value) (l : List Ct) : Prop := w.ownsRow base e 4 v l.length (eA l)
section
variable {w w' : World} {base : Nat} {e : TypeId} {v : Value} {l : List Ct}
theorem cX.nil_ (w : World) (base : Nat) (e : TypeId) : cX w base e (.slice none 0 0) [] := ⟨rfl, .inl ⟨rfl, rfl⟩⟩
theorem cX.open (h : cX w base e v l) : (v = .slice none 0 0 ∧ l = []) ∨ ∃ g cap cur, v = .slice (some ⟨g, 0, none⟩) l.length cap ∧ base ≤ g ∧ w.heap[g]? = some (.cells cur e (0, 0)) ∧ l.length ≤ cap ∧ cap ≤ maxLen ∧ cur.size = cap * 4 ∧
 ∀ k, k < l.length * 4 → cur[k]? = (eA l)[k]? := by (
 obtain ⟨hl, ⟨hv, hn⟩ | ⟨g, cap, cur, hv, hb, hh, h1, h2, h3, h4⟩⟩ := h
 · exact Jg
 · (
 refine .inr ⟨g, cap, cur, hv, hb, hh, h1, h2, h3, fun k hk => ?_⟩
 rw [← h4, List.getElem?_take, if_pos hk, Array.getElem?_toList]))
theorem cX.close {g cap : Nat} {cur : Array Value} (hb : base ≤ g) (hh : w.heap[g]? = some (.cells cur e (0, 0))) (h1 : l.length ≤ cap) (h2 : cap ≤ maxLen) (h3 : cur.size = cap * 4)
 (h4 : ∀ k, k < l.length * 4 → cur[k]? = (eA l)[k]?) : cX w base e (.slice (some ⟨g, 0, none⟩) l.length cap) l := by (
 refine ⟨jE l, .inr ⟨g, cap, cur, rfl, hb, hh, h1, h2, h3, ?_⟩⟩
 refine List.ext_getElem? fun k => ?_
 rw [List.getElem?_take]
 split
 · (
 rename_i hk
 rw [Array.getElem?_toList]
 exact h4 k hk)
 · (
 rename_i hk
 rw [List.getElem?_eq_none (by rw [jE]; omega)]))
theorem cX.lt (h : cX w base e v l) : ∀ k, v.ownBlock = some k → base ≤ k ∧ k < w.heap.size := by (
 rintro k hk
 rcases h.open with ⟨rfl, _⟩ | ⟨g, cap, cur, rfl, hb, hh, _⟩
 · simp [Value.ownBlock] at hk
 · (
 simp [Value.ownBlock] at hk
 subst hk
 exact ⟨hb, bW hh⟩))
theorem cX.of_block (h : cX w base e v l) (hk : ∀ k, v.ownBlock = some k → w'.heap[k]? = w.heap[k]?) : cX w' base e v l := by (
 obtain ⟨hl, ⟨hv, hn⟩ | ⟨g, cap, cur, hv, hb, hh, r⟩⟩ := h
 · exact ⟨hl, .inl ⟨hv, hn⟩⟩
 · exact ⟨hl, .inr ⟨g, cap, cur, hv, hb, (hk g (by rw [hv]; rfl)).trans hh, r⟩⟩)
theorem cX.kept {row : Option Nat} (h : cX w base e v l) (hg : w.grownBy w' row) (hne : v.ownBlock = none ∨ v.ownBlock ≠ row) : cX w' base e v l :=
 h.of_block fun k hk => hg.block k (h.lt k hk).2 (by
  rcases hne with hn | hn
  · rw [hn] at hk; cases hk
  · rw [← hk]; exact hn)
theorem cX.below' (h : cX w base e v l) (hb : Below w.heap.size w w') : cX w' base e v l := h.of_block fun k hk => hb.block k (h.lt k hk).2
theorem cX.alloc (h : cX w base e v l) (o : Obj) : cX (w.alloc o) base e v l := h.of_block fun k hk => Below.heap_alloc w o k (h.lt k hk).2
theorem cX.drew (h : cX w base e v l) : cX w.drew base e v l := h
theorem cX.far (h : cX w base e v l) {p : Addr} (hp : v.ownBlock ≠ some p.block) (u : Value) : cX (w.setCell p u) base e v l :=
 h.of_block fun k hk => Below.heap_setCell w p u k (by rintro rfl; exact hp hk)
theorem cX.mono {base' : Nat} (h : cX w base e v l) (hb : base' ≤ base) : cX w base' e v l := by (
 obtain ⟨hl, h | ⟨g, cap, cur, hv, hg, r⟩⟩ := h
 · exact ⟨hl, .inl h⟩
 · exact ⟨hl, .inr ⟨g, cap, cur, hv, Nat.le_trans hb hg, r⟩⟩)
theorem cX.shape (h : cX w base e v l) : ∃ A cap, v = .slice A l.length cap ∧ l.length ≤ cap ∧ cap ≤ maxLen := by (
 rcases h.open with ⟨rfl, rfl⟩ | ⟨g, cap, cur, rfl, _, _, hc, hm, _⟩
 · exact Jd
 · exact ⟨_, cap, rfl, hc, hm⟩)
theorem cX.nodes {A : Option Addr} {n cap : Nat} (h : cX w base e (.slice A n cap) l) : jT w A l := fun hn => by (
 rcases h.open with ⟨_, rfl⟩ | ⟨g, cap, cur, hv, hb, hh, _, _, _, hc⟩
 · exact absurd rfl hn
 · (
 injection hv with hA
 subst hA
 refine ⟨g, 0, rfl, bW hh, fun i n hi => yY.2 fun j hj => ?_⟩
 have hlt : i < l.length := (List.getElem?_eq_some_iff.1 hi).1
 have := hc (i * 4 + j) Zb
 rw [nQ l i j hj, hi] at this
 rw [Nat.zero_add]
 simp only [World.cell?, hh, this]
 simp))
theorem cX.ne_blk {g : Nat} {t : TypeId} {cs : Array Value} (h : cX w base e v l) (hg : Blk w g t cs) (hne : e ≠ t) : v.ownBlock ≠ some g := by (
 rcases h.open with ⟨rfl, _⟩ | ⟨g', cap, cur, rfl, _, hh, _⟩
 · exact Je
 · (
 intro he
 simp [Value.ownBlock] at he
 subst he
 have hB : Blk w g' e cur := by unfold Blk; exact hh
 exact hB.ne_ hg hne rfl))
theorem cX.ne_row {base' : Nat} {e' : TypeId} {u : Value} {ys : List Value} (h : cX w base e v l) (h' : Row w base' e' u ys) (hne : e ≠ e') : v.ownBlock = none ∨ v.ownBlock ≠ u.ownBlock := by (
 rcases h' with ⟨rfl, _⟩ | ⟨g', o, cap, cur, rfl, _, hh, _⟩
 · (
 rcases hv : v.ownBlock with _ | k
 · exact Jf
 · exact .inr Xv)
 · exact .inr (h.ne_blk (cs := cur) (t := e') Xj hne))
theorem rM {P : Program} (t ty : TypeId) (i : TypeInfo) (z : Value) (bytes : Nat) (ht : P.underlying t = some (.slice e)) (hi : P.info? e = some i) (hz : i.zero = some z)
 (hsize : i.size = 4) (hby : i.bytes = bytes) (hzs : z.cells.size = 4) (hr : cX w base e v l) (A : Option Addr) (c : Nat) (news : List Ct) (hn : jT w A news)
 (h3'3 : l.length + news.length ≤ maxLen) (hbytes : (l.length + news.length) * bytes ≤ 140737488355328) (hbase : base ≤ w.heap.size) :
 ∃ v' w', (Builtin.append_ #[t, t] ty #[v, .slice A news.length c]).run P w = .ok v' w' ∧ cX w' base e v' (l ++ news) ∧ w.grownBy w' v.ownBlock ∧ (v'.ownBlock = v.ownBlock ∨ ∀ k, v'.ownBlock = some k → w.heap.size ≤ k) := by (
 by_cases hne : news = []
 · (
 subst hne
 refine ⟨v, w, ?_, by simpa using hr, World.grownBy.refl w _, .inl rfl⟩
 rcases hr.open with ⟨rfl, rfl⟩ | ⟨g, cap, cur, rfl, _, _, hnc, _⟩
 · exact Jh
 · rcases A with _ | A <;> simp [Builtin.append_, run_underlying ht, sizeOf, typeInfo, hi, hsize, Builtin.lenOf, Builtin.firstCells, loadCells, loadCellsFrom, hnc, storeCells])
 · (
 obtain ⟨b, off, rfl, hb, hcell⟩ := hn hne
 have hnews : ∀ j u, (eA news)[j]? = some u → w.cell? ((⟨b, off, none⟩ : Addr).add j) = some u := fun j u hj => by (
 rw [Addr.add_lit, ← hj]
 exact jT.cell hn j (by rw [← jE]; exact (List.getElem?_eq_some_iff.1 hj).1))
 obtain ⟨v', w', hrun, h2, h3, h4, h5⟩ := run_append_own_at (P := P) w base t ty e i z 4 bytes ht hi hz hsize hby hzs Zb v l.length (eA l) hr ⟨b, off, none⟩ news.length c (eA news) (jE _) hnews (bGQ _) h3'3 hbytes hbase
 refine ⟨v', w', hrun, ?_, h3, h5.imp id fun h k hk => by rw [h] at hk; injection hk with hk; omega⟩
 show w'.ownsRow base e 4 v' (l ++ news).length (eA (l ++ news))
 rw [Vu, xN]
 exact h2))
theorem sF {P : Program} {o : Oper} {a : Act} {K : Act → World → Prop} {Q : Exit → Act → World → Prop} (s x : Operand) (t : TypeId)
 (ho : o.op = .call { callee := .builtin .append, args := #[s, x], argTypes := #[t, t] })
 (i : TypeInfo) (z : Value) (bytes : Nat) (ht : P.underlying t = some (.slice e)) (hi : P.info? e = some i) (hz : i.zero = some z)
 (hsize : i.size = 4) (hby : i.bytes = bytes) (hzs : z.cells.size = 4) (hs : a.eval s = v) (hr : cX w base e v l) (A : Option Addr) (n c : Nat) (news : List Ct) (hx : a.eval x = .slice A n c)
 (hnl : n = news.length) (hn : jT w A news)
 (h3'3 : l.length + news.length ≤ maxLen) (hbytes : (l.length + news.length) * bytes ≤ 140737488355328) (hbase : base ≤ w.heap.size)
 (h : ∀ v' w', cX w' base e v' (l ++ news) → w.grownBy w' v.ownBlock → (v'.ownBlock = v.ownBlock ∨ ∀ k, v'.ownBlock = some k → w.heap.size ≤ k) → K (a.put o.dst v') w') : o.wp P a w K Q := by (
 subst hnl
 obtain ⟨v', w', hrun, h2, h3, h4⟩ := rM (P := P) t o.type i z bytes ht hi hz hsize hby hzs hr A c news hn h3'3 hbytes hbase
 unfold Oper.wp execOp
 simp only [ho, resolve, invoke, builtin, Sem.run_bind, Sem.run_pure, Result.andThen_ok, List.map_toArray, List.map_cons, List.map_nil, hs, hx, hrun]
 exact h v' w' h2 h3 h4)
theorem qQ {P : Program} {ops : Array Oper} {o : Oper} {a : Act} {K : Act → World → Prop} {Q : Exit → Act → World → Prop} {E : Prop} (hgd : o.guard = none) (s x : Operand) (t : TypeId)
 (ho : o.op = .call { callee := .builtin .append, args := #[s, x], argTypes := #[t, t] })
 (i : TypeInfo) (z : Value) (bytes : Nat) (ht : P.underlying t = some (.slice e)) (hi : P.info? e = some i) (hz : i.zero = some z)
 (hsize : i.size = 4) (hby : i.bytes = bytes) (hzs : z.cells.size = 4) (hs : a.eval s = v) (hr : cX w base e v l) (A : Option Addr) (n c : Nat) (news : List Ct) (hx : a.eval x = .slice A n c)
 (hnl : n = news.length) (hn : jT w A news)
 (h3'3 : l.length + news.length ≤ maxLen) (hbytes : (l.length + news.length) * bytes ≤ 140737488355328) (hbase : base ≤ w.heap.size)
 (h : ∀ v' w', cX w' base e v' (l ++ news) → w.grownBy w' v.ownBlock → (v'.ownBlock = v.ownBlock ∨ ∀ k, v'.ownBlock = some k → w.heap.size ≤ k) → K (a.put o.dst v') w') :
 if Region.wanted o (yielded ops a.tmps) = true then Oper.wp P o a w K Q else E := by (
 have hw : Region.wanted o (yielded ops a.tmps) = true := by simp [Region.wanted, hgd]
 rw [if_pos hw]
 exact sF s x t ho i z bytes ht hi hz hsize hby hzs hs hr A n c news hx hnl hn h3'3 hbytes hbase h)
theorem bDG {w : World} {n : Ct} {t : TypeId} {g : Nat} (h : g = w.heap.size) : jT (w.alloc (.cells #[.int .i64 n.1.op, .int .i64 n.1.a, .int .i64 n.1.b, .int .i64 n.2] t)) (some ⟨g, 0, none⟩) [n] := by (
 subst h
 refine jT.mk Zf fun i m hi => ?_
 rcases i with _ | i
 · (
 simp at hi
 subst hi
 simp [Ct.lies])
 · simp at hi)
end
end
section
open Go.RowKit Go.ChangeShapes Go.WideShapes Go.Deep
section
variable {H : Type} {enc : TypeId × Value → H} {P : Program} {w : World} {base : Nat} {spare : Nat → Bool} {held : Bool}
end
section
variable {H : Type} {enc : TypeId × Value → H} {w : World} {base : Nat} {spare : Nat → Bool} {held : Bool} {r : Reach} {b0 : Nat} {v : Value} {d : DataW H} {p : List MemPlace}
end
end
section
open Go.RowKit Go.ChangeShapes Go.WideShapes Go.Deep
section
variable {H : Type} {enc : TypeId × Value → H} {P : Program} {w : World} {base : Nat} {spare : Nat → Bool} {held : Bool}
theorem zO {t e : TypeId} {fuel : Nat} {cs : List Value} {x : DataW H × List MemPlace} (ht : P.underlying t = some (.slice e)) (he : P.underlying e = some (.int .i64)) (hc : P.cellsOf e = 1)
  (h : DataW.trod enc P w base spare held fuel t cs = some x) :
  ∃ (S : Option Addr) (c : Nat) (l : List Int), cs = [.slice S l.length c] ∧ l.length ≤ c ∧ c ≤ maxLen ∧ bH w S (bO l) ∧ ∀ n ∈ l, (Lit.int .i64 n).wf = true := by
 rcases open_slice1 ht hc h with ⟨rfl, _⟩ | ⟨a, len, cap, m, n, V, D, Pl, rfl, _, hl, hm, hmm, _, hx⟩
 ·exact ⟨none, 0, [], rfl, Nat.le_refl _, Zf, bH.nil, fun n hn => by cases hn⟩
 have hlm : len ≤ m := by rw [hmm]; split <;> omega
 obtain ⟨Z, hZ⟩ := choose_lt (α := Int) (n := len) (p := fun i z => w.cell? (a.add i) = some (.int .i64 z) ∧ (Lit.int .i64 z).wf = true) (fun i hi => by
  obtain ⟨h1, h2⟩ := hx i Zb
  obtain ⟨z, hz, hw⟩ := DataW.trod_int he h2
  simp at hz
  exact ⟨z, hz ▸ h1, hw.2⟩)
 refine ⟨some a, cap, (List.range len).map Z, Zf, by simpa using hl, hm, ?_, ?_⟩
 rotate_left
 ·intro n hn
  obtain ⟨k, hk, rfl⟩ := List.mem_map.1 hn
  exact (hZ k Yb).2
 intro hn
 have hpos : 0 < len := by
  rcases Nat.eq_zero_or_pos len with h0 | h0
  ·subst h0; exact absurd rfl hn
  ·exact h0
 have h0 := (hZ 0 hpos).1
 have hsp : a.spot = none := World.cell?_spot (a := a) (by simpa [Addr.add] using h0)
 obtain ⟨b, off, sp⟩ := a
 simp only at hsp
 subst hsp
 refine ⟨b, off, rfl, World.block_lt_of_cell? w ⟨b, off + 0, none⟩ (by rw [fF] at h0; exact h0), fun i v hi => ?_⟩
 rw [jP] at hi
 by_cases hil : i < len
 ·simp [hil] at hi
  subst hi
  have := (hZ i hil).1
  rwa [fF] at this
 ·simp [hil] at hi
end
section
variable {H : Type} {enc : TypeId × Value → H} {w : World} {base : Nat} {spare : Nat → Bool} {held : Bool} {r : Reach} {b0 : Nat} {v : Value} {d : DataW H} {p : List MemPlace}
theorem bFZ (hv : Value.okWide prog w r b0 25 v) (h : DataW.Trod enc prog w base spare held 25 v d p) :
  ∃ (S : Option Addr) (c : Nat) (l : List Int), v = .slice S l.length c ∧ l.length ≤ c ∧ c ≤ maxLen ∧ bH w S (bO l) ∧ ∀ n ∈ l, (Lit.int .i64 n).wf = true := by
 obtain ⟨a, len, cap, rfl⟩ := okWide_slice underlying25 hv
 obtain ⟨fuel, hf⟩ := h
 obtain ⟨S, c, l, e, hx⟩ := zO underlying25 underlying3 Zc hf
 simp [Value.cells] at e
 obtain ⟨rfl, rfl, rfl⟩ := e
 exact ⟨_, _, l, rfl, hx⟩
end
end
section
open Go.RowKit Go.ChangeShapes Go.WideShapes Go.Deep
section
variable {H : Type} {enc : TypeId × Value → H} {w : World} {base : Nat} {spare : Nat → Bool} {held : Bool} {d : DataW H} {p : List MemPlace}
theorem bIZ : prog.bytesOf 44 = 48 := Zc
theorem bFH {r : Int} {A : Option Addr} {n c : Nat} (h : DataW.Trod enc prog w base spare held 24 (.agg #[.int .i64 r, .slice A n c]) d p)
 (hw : ∀ k ∈ DataW.weights prog 24 d, k ≤ reachBytes) : n * 48 ≤ 140737488355328 := by (
 obtain ⟨fuel, hf⟩ := h
 obtain ⟨xs, m, _, hd, _, hlen, hx⟩ := DataW.trod_struct underlying24 hf
 obtain ⟨hd, _⟩ := Prod.mk.inj hd
 subst hd
 have hx1 := hx 1 _ rfl
 obtain ⟨y0, y1, rfl⟩ : ∃ y0 y1, xs = [y0, y1] := by (
 match xs, hlen with
 | [y0, y1], _ => exact ⟨y0, y1, rfl⟩)
 have hx2 : DataW.trod enc prog w base spare held m 22 [.slice A n c] = some y1 := hx1
 rcases open_slice underlying22 hx2 with ⟨e, _⟩ | ⟨a, len, cap, m', k, D, Pl, e, _, _, _, _, e2, _⟩
 · (
 cases e
 simp)
 · (
 cases e
 have hm := hw ((((List.range n).map D).length + ((List.range (m' - n)).map fun j => D (n + j)).length) * prog.bytesOf 44) (by
  show _ ∈ DataW.weights prog 24 (.agg [y0.1, y1.1])
  simp only [DataW.weights]
  rw [underlying24]
  refine DataW.weights_mem_each (j := 1) (t := 22) rfl rfl _ ?_
  rw [e2]
  simp only [DataW.weights]
  rw [underlying22]
  exact List.mem_cons_self ..)
 rw [bIZ, V9, List.length_range] at hm
 unfold reachBytes at hm
 have : n * 48 ≤ (n + (List.map (fun j => D (n + j)) (List.range (m' - n))).length) * 48 := Nat.mul_le_mul_right _ (Nat.le_add_right _ _)
 omega))
end
end
end Go.Proofs.YtmghkonmfbpjcaaGreatDoor
