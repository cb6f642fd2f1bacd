/- Tables of rows that lie apart; the edges of a graph as two tables hold them. No program in sight. -/
import Derived.Test.YtmghkonmfbpjcabDoorRow
import Derived.Test.YtmghkonmfbpjcabDoorNode
import Derived.Laws.MakeOwn
namespace Go.Proofs.YtmghkonmfbpjcabDoor
set_option linter.unusedVariables false
set_option linter.unusedSimpArgs false
open Go.RowKit

/-- a block that is known whole -/
def Blk (w : World) (g : Nat) (t : TypeId) (cs : Array Value) : Prop := w.heap[g]? = some (.cells cs t (0, 0))
section
variable {w w' : World} {g : Nat} {t : TypeId} {cs : Array Value}
theorem Blk.lt (h : Blk w g t cs) : g < w.heap.size := lt_of_heap h
theorem Blk.cell (h : Blk w g t cs) (i : Nat) : w.cell? ⟨g, i, none⟩ = cs[i]? := by unfold Blk at h; simp [World.cell?, h]
theorem Blk.frozen (h : Blk w g t cs) (i : Nat) : w.frozen? ⟨g, i, none⟩ = false := by unfold Blk at h; simp [World.frozen?, h]
theorem Blk.new (w : World) (t : TypeId) (cs : Array Value) : Blk (w.alloc (.cells cs t)) w.heap.size t cs := heap_alloc_new w _
theorem Blk.alloc (h : Blk w g t cs) (o : Obj) : Blk (w.alloc o) g t cs := (Below.heap_alloc w o g h.lt).trans h
theorem Blk.drewN (h : Blk w g t cs) (n : Nat) : Blk (w.drewN n) g t cs := h
theorem Blk.drew (h : Blk w g t cs) : Blk w.drew g t cs := h
theorem Blk.set_ (h : Blk w g t cs) (i : Nat) (u : Value) : Blk (w.setCell ⟨g, i, none⟩ u) g t (cs.setIfInBounds i u) := heap_setCell_own h u
theorem Blk.far (h : Blk w g t cs) {p : Addr} (hp : g ≠ p.block) (u : Value) : Blk (w.setCell p u) g t cs := (Below.heap_setCell w p u g hp).trans h
theorem Blk.below {B : Nat} (h : Blk w g t cs) (hb : Below B w w') (hg : g < B) : Blk w' g t cs := (hb.block g hg).trans h
theorem Blk.grown {row : Option Nat} (h : Blk w g t cs) (hb : w.grownBy w' row) (hg : row ≠ some g) : Blk w' g t cs := (hb.block g h.lt (fun e => hg e.symm)).trans h
theorem Blk.ne_ {g' : Nat} {t' : TypeId} {cs' : Array Value} (h : Blk w g t cs) (h' : Blk w g' t' cs') (hne : t ≠ t') : g ≠ g' := by
  rintro rfl
  unfold Blk at h h'
  rw [h] at h'
  injection h' with h'
  injection h' with _ ht
  exact hne ht
theorem Row.ne_blk {base : Nat} {e : TypeId} {v : Value} {xs : List Value} (h : Row w base e v xs) (hg : Blk w g t cs) (hne : e ≠ t) : v.ownBlock ≠ some g := by
  rcases h with ⟨rfl, _⟩ | ⟨g', o, cap, cur, rfl, _, hh, _⟩
  · simp [Value.ownBlock]
  · intro he
    simp [Value.ownBlock] at he
    subst he
    exact Blk.ne_ (t := e) hh hg hne rfl
theorem Row.ne_row {base base' : Nat} {e e' : TypeId} {v u : Value} {xs ys : List Value} (h : Row w base e v xs) (h' : Row w base' e' u ys) (hne : e ≠ e') : v.ownBlock = none ∨ v.ownBlock ≠ u.ownBlock := by
  rcases h' with ⟨rfl, _⟩ | ⟨g', o, cap, cur, rfl, _, hh, _⟩
  · rcases hv : v.ownBlock with _ | k
    · exact .inl rfl
    · exact .inr (by simp [Value.ownBlock])
  · exact .inr (h.ne_blk (cs := cur) hh hne)
theorem Row.blk {base : Nat} {e : TypeId} {g o n cap : Nat} {xs : List Value} (h : Row w base e (.slice (some ⟨g, o, none⟩) n cap) xs) : ∃ cs, Blk w g e cs := by
  rcases h with ⟨h, _⟩ | ⟨g', o', cap', cur, hv, _, hh, _⟩
  · cases h
  · injection hv with hA
    injection hA with hA
    injection hA with hg
    subst hg
    exact ⟨cur, hh⟩
end

def upd {α : Type} (f : Nat → α) (i : Nat) (x : α) : Nat → α := fun j => if j = i then x else f j
theorem upd_same {α : Type} (f : Nat → α) (i : Nat) (x : α) : upd f i x i = x := by simp [upd]
theorem upd_other {α : Type} (f : Nat → α) {i j : Nat} (x : α) (h : j ≠ i) : upd f i x j = f j := by simp [upd, h]

/-- rows that lie apart -/
def Tab (w : World) (base : Nat) (e : TypeId) (N : Nat) (vs : Nat → Value) (xs : Nat → List Value) : Prop :=
  (∀ i, i < N → Row w base e (vs i) (xs i)) ∧ ∀ i j, i < N → j < N → i ≠ j → (vs i).ownBlock = none ∨ (vs i).ownBlock ≠ (vs j).ownBlock

section
variable {w w' : World} {base N : Nat} {e : TypeId} {vs : Nat → Value} {xs : Nat → List Value}
theorem Tab.of_blocks (h : Tab w base e N vs xs) (hk : ∀ i k, i < N → (vs i).ownBlock = some k → w'.heap[k]? = w.heap[k]?) : Tab w' base e N vs xs :=
  ⟨fun i hi => (h.1 i hi).of_block fun k hv => hk i k hi hv, h.2⟩
theorem Tab.below (h : Tab w base e N vs xs) (hb : Below w.heap.size w w') : Tab w' base e N vs xs := ⟨fun i hi => (h.1 i hi).below' hb, h.2⟩
theorem Tab.alloc (h : Tab w base e N vs xs) (o : Obj) : Tab (w.alloc o) base e N vs xs := ⟨fun i hi => (h.1 i hi).alloc o, h.2⟩
theorem Tab.drew (h : Tab w base e N vs xs) : Tab w.drew base e N vs xs := h
theorem Tab.drewN (h : Tab w base e N vs xs) (n : Nat) : Tab (w.drewN n) base e N vs xs := h
theorem Tab.far (h : Tab w base e N vs xs) {p : Addr} {t : TypeId} {cs : Array Value} (hp : Blk w p.block t cs) (hne : e ≠ t) (u : Value) : Tab (w.setCell p u) base e N vs xs :=
  ⟨fun i hi => (h.1 i hi).far ((h.1 i hi).ne_blk hp hne) u, h.2⟩
theorem Tab.nils (w : World) (base : Nat) (e : TypeId) (N : Nat) : Tab w base e N (fun _ => .slice none 0 0) (fun _ => []) := ⟨fun _ _ => Row.nil_ w base e, fun _ _ _ _ _ => .inl rfl⟩
theorem Tab.put (h : Tab w base e N vs xs) {i : Nat} (hi : i < N) {v' : Value} {ys : List Value} (hr : Row w' base e v' ys) (hg : w.grownBy w' (vs i).ownBlock)
    (hb : v'.ownBlock = (vs i).ownBlock ∨ ∀ k, v'.ownBlock = some k → w.heap.size ≤ k) : Tab w' base e N (upd vs i v') (upd xs i ys) := by
  refine ⟨fun j hj => ?_, fun j k hj hk hne => ?_⟩
  · by_cases hji : j = i
    · subst hji; rw [upd_same, upd_same]; exact hr
    · rw [upd_other _ _ hji, upd_other _ _ hji]
      exact (h.1 j hj).kept hg (h.2 j i hj hi hji)
  · by_cases hji : j = i
    · subst hji
      rw [upd_same, upd_other _ _ (Ne.symm hne)]
      rcases hv : v'.ownBlock with _ | b
      · exact .inl rfl
      · refine .inr fun he => ?_
        rcases hb with hb | hb
        · rw [hv] at hb
          rcases h.2 j k hj hk hne with h0 | h0
          · rw [h0] at hb; cases hb
          · exact h0 (hb.symm.trans he)
        · have := hb b hv
          have := ((h.1 k hk).lt b he.symm).2
          omega
    · rw [upd_other _ _ hji]
      by_cases hki : k = i
      · subst hki
        rw [upd_same]
        rcases hb with hb | hb
        · rw [hb]; exact h.2 j k hj hk hne
        · rcases hv : (vs j).ownBlock with _ | b
          · exact .inl rfl
          · refine .inr fun he => ?_
            have := hb b he.symm
            have := ((h.1 j hj).lt b hv).2
            omega
      · rw [upd_other _ _ hki]
        exact h.2 j k hj hk hne
end

def ints (l : List Int) : List Value := l.map (Value.int .i64)
theorem ints_append (a b : List Int) : ints (a ++ b) = ints a ++ ints b := List.map_append
theorem ints_length (a : List Int) : (ints a).length = a.length := List.length_map _
theorem ints_get (a : List Int) (k : Nat) : (ints a)[k]? = a[k]?.map (Value.int .i64) := List.getElem?_map

/-- the pairs that have been entered: who asks, whom -/
def fst (back : Bool) (i : Nat) (m : Int) : Int := if back then (i : Int) else m
def snd (back : Bool) (i : Nat) (m : Int) : Int := if back then m else (i : Int)
structure Edges (back : Bool) (n : Nat) (PE : Nat → Int → Prop) (xs : Nat → List Int) : Prop where
  asks : ∀ a, a < n → ∀ b : Int, b ∈ xs a ↔ ∃ i m, PE i m ∧ (a : Int) = fst back i m ∧ b = snd back i m
  asked : ∀ b, b < n → ∀ a : Int, a ∈ xs (n + b) ↔ ∃ i m, PE i m ∧ a = fst back i m ∧ (b : Int) = snd back i m

theorem Edges.start (back : Bool) (n : Nat) : Edges back n (fun _ _ => False) (fun _ => []) :=
  ⟨fun a _ b => by
    constructor
    · intro h; cases h
    · rintro ⟨_, _, h, _⟩; exact h.elim, fun a _ b => by
    constructor
    · intro h; cases h
    · rintro ⟨_, _, h, _⟩; exact h.elim⟩
theorem Edges.congr {back : Bool} {n : Nat} {PE PE' : Nat → Int → Prop} {xs : Nat → List Int} (h : Edges back n PE xs) (he : ∀ i m, PE i m ↔ PE' i m) : Edges back n PE' xs :=
  ⟨fun a ha b => (h.asks a ha b).trans ⟨fun ⟨i, m, hp, r⟩ => ⟨i, m, (he i m).1 hp, r⟩, fun ⟨i, m, hp, r⟩ => ⟨i, m, (he i m).2 hp, r⟩⟩,
   fun a ha b => (h.asked a ha b).trans ⟨fun ⟨i, m, hp, r⟩ => ⟨i, m, (he i m).1 hp, r⟩, fun ⟨i, m, hp, r⟩ => ⟨i, m, (he i m).2 hp, r⟩⟩⟩
theorem Edges.step {back : Bool} {n : Nat} {PE : Nat → Int → Prop} {xs : Nat → List Int} (h : Edges back n PE xs) (k : Nat) (m : Int) (a b : Nat) (ha : a < n) (hb : b < n)
    (hfa : (a : Int) = fst back k m) (hfb : (b : Int) = snd back k m) :
    Edges back n (fun i m' => PE i m' ∨ (i = k ∧ m' = m)) (upd (upd xs a (xs a ++ [(b : Int)])) (n + b) (xs (n + b) ++ [(a : Int)])) := by
  refine ⟨fun a' ha' b' => ?_, fun b' hb' a' => ?_⟩
  · rw [upd_other _ _ (show a' ≠ n + b by omega)]
    by_cases he : a' = a
    · subst he
      rw [upd_same, List.mem_append, h.asks a' ha' b', List.mem_singleton]
      constructor
      · rintro (⟨i, m', hp, r⟩ | rfl)
        · exact ⟨i, m', .inl hp, r⟩
        · exact ⟨k, m, .inr ⟨rfl, rfl⟩, hfa, hfb⟩
      · rintro ⟨i, m', hp | ⟨rfl, rfl⟩, r1, r2⟩
        · exact .inl ⟨i, m', hp, r1, r2⟩
        · exact .inr (r2.trans hfb.symm)
    · rw [upd_other _ _ he, h.asks a' ha' b']
      constructor
      · rintro ⟨i, m', hp, r⟩; exact ⟨i, m', .inl hp, r⟩
      · rintro ⟨i, m', hp | ⟨rfl, rfl⟩, r1, r2⟩
        · exact ⟨i, m', hp, r1, r2⟩
        · exact absurd (by have := r1.trans hfa.symm; omega) he
  · by_cases he : b' = b
    · subst he
      rw [upd_same, List.mem_append, h.asked b' hb' a', List.mem_singleton]
      constructor
      · rintro (⟨i, m', hp, r⟩ | rfl)
        · exact ⟨i, m', .inl hp, r⟩
        · exact ⟨k, m, .inr ⟨rfl, rfl⟩, hfa, hfb⟩
      · rintro ⟨i, m', hp | ⟨rfl, rfl⟩, r1, r2⟩
        · exact .inl ⟨i, m', hp, r1, r2⟩
        · exact .inr (r1.trans hfa.symm)
    · rw [upd_other _ _ (show n + b' ≠ n + b by omega), upd_other _ _ (show n + b' ≠ a by omega), h.asked b' hb' a']
      constructor
      · rintro ⟨i, m', hp, r⟩; exact ⟨i, m', .inl hp, r⟩
      · rintro ⟨i, m', hp | ⟨rfl, rfl⟩, r1, r2⟩
        · exact ⟨i, m', hp, r1, r2⟩
        · exact absurd (by have := r2.trans hfb.symm; omega) he

/-- make of n elements of one cell -/
theorem run_make1 {P : Program} (t e : TypeId) (i : TypeInfo) (z : Value) (bytes : Nat) (ht : P.underlying t = some (.slice e)) (hi : P.info? e = some i) (hz : i.zero = some z) (hsize : i.size = 1) (hby : i.bytes = bytes)
    (hb : bytes ≤ 64) (hzc : z.cells = #[z]) (n : Nat) (hn : n ≤ 65536) (w : World) :
    (Instr.makeSlice t (.int .i64 (n : Int)) (.int .i64 (n : Int))).run P w = .ok (.slice (some ⟨w.heap.size, 0, none⟩) n n) (w.alloc (.cells (madeCells #[z] n) e)) := by
  have hbb : (i.bytes : Int) * (n : Int) ≤ 281474976710656 := by
    have h : i.bytes * n ≤ 64 * 65536 := Nat.mul_le_mul (by omega) hn
    have h' : ((i.bytes * n : Nat) : Int) ≤ 281474976710656 := by omega
    rwa [Int.natCast_mul] at h'
  have h := run_make (P := P) w t e i z ht hi hz .i64 .i64 (n : Int) (n : Int) (by omega) (Int.le_refl _) hbb (by omega)
  simpa [hsize, hzc] using h
theorem Row.made1 {w : World} {base : Nat} {e : TypeId} {z : Value} {n : Nat} (hb : base ≤ w.heap.size) (hm : n ≤ 65536) :
    Row (w.alloc (.cells (madeCells #[z] n) e)) base e (.slice (some ⟨w.heap.size, 0, none⟩) n n) (List.replicate n z) := by
  have h := Row.made (w := w) (base := base) (e := e) (cs := madeCells #[z] n) (n := n) hb (by simp [size_madeCells]) (by unfold maxLen; omega)
  rwa [toList_madeCells_one] at h
theorem Blk.new' {w : World} {g : Nat} {t : TypeId} {cs : Array Value} (h : g = w.heap.size) : Blk (w.alloc (.cells cs t)) g t cs := by
  subst h
  exact Blk.new w t cs
theorem Row.made1' {w : World} {base g : Nat} {e : TypeId} {z : Value} {n : Nat} (h : g = w.heap.size) (hb : base ≤ w.heap.size) (hm : n ≤ 65536) :
    Row (w.alloc (.cells (madeCells #[z] n) e)) base e (.slice (some ⟨g, 0, none⟩) n n) (List.replicate n z) := by
  subst h
  exact Row.made1 hb hm
theorem Row.below_in {w w' : World} {B : Nat} {e : TypeId} {v : Value} {xs : List Value} {base : Nat} (h : Row w base e v xs) (hb : Below B w w') (hB : w.heap.size ≤ B) : Row w' base e v xs :=
  h.below hb fun k hk => Nat.lt_of_lt_of_le (h.lt k hk).2 hB
theorem Tab.sub {w : World} {base N M : Nat} {e : TypeId} {vs : Nat → Value} {xs : Nat → List Value} (h : Tab w base e N vs xs) (hM : M ≤ N) : Tab w base e M vs xs :=
  ⟨fun i hi => h.1 i (by omega), fun i j hi hj => h.2 i j (by omega) (by omega)⟩
theorem Tab.row {w : World} {base N : Nat} {e : TypeId} {vs : Nat → Value} {xs : Nat → List Value} (h : Tab w base e N vs xs) {i : Nat} (hi : i < N) : Row w base e (vs i) (xs i) := h.1 i hi
/-- one row more, in a block that is new -/
theorem Tab.add {w w' : World} {base N : Nat} {e : TypeId} {vs : Nat → Value} {xs : Nat → List Value} (h : Tab w base e N vs xs) (hb : Below w.heap.size w w') {v : Value} {ys : List Value}
    (hr : Row w' base e v ys) (hn : ∀ k, v.ownBlock = some k → w.heap.size ≤ k) : Tab w' base e (N + 1) (upd vs N v) (upd xs N ys) := by
  have hold := h.below hb
  refine ⟨fun i hi => ?_, fun i j hi hj hne => ?_⟩
  · by_cases hiN : i = N
    · subst hiN; rw [upd_same, upd_same]; exact hr
    · rw [upd_other _ _ hiN, upd_other _ _ hiN]; exact hold.1 i (by omega)
  · by_cases hiN : i = N
    · subst hiN
      rw [upd_same, upd_other _ _ (show j ≠ i by omega)]
      rcases hv : v.ownBlock with _ | b
      · exact .inl rfl
      · refine .inr fun he => ?_
        have := hn b hv
        have := ((h.1 j (by omega)).lt b he.symm).2
        omega
    · rw [upd_other _ _ hiN]
      by_cases hjN : j = N
      · subst hjN
        rw [upd_same]
        rcases hv : (vs i).ownBlock with _ | b
        · exact .inl rfl
        · refine .inr fun he => ?_
          have := hn b he.symm
          have := ((h.1 i (by omega)).lt b hv).2
          omega
      · rw [upd_other _ _ hjN]
        exact h.2 i j (by omega) (by omega) hne

/-- what is so of a graph that is being made: the two tables, and which pairs are in -/
structure GInv (tG tS tI : TypeId) (B : Nat) (w : World) (G5 GA GB : Nat) (bk : Bool) (n M : Nat) (PE : Nat → Int → Prop) (cnt : Nat) (wr : World) (vs : Nat → Value) (ys : Nat → List Value) (xs : Nat → List Int) : Prop where
  g5 : Blk wr G5 tG #[.slice (some ⟨GA, 0, none⟩) n n, .slice (some ⟨GB, 0, none⟩) n n]
  ra : Row wr B tS (.slice (some ⟨GA, 0, none⟩) n n) ((List.range n).map vs)
  rb : Row wr B tS (.slice (some ⟨GB, 0, none⟩) n n) ((List.range n).map fun i => vs (n + i))
  tab : Tab wr B tI M vs ys
  ysx : ∀ i, i < 2 * n → ys i = ints (xs i)
  edges : Edges bk n PE xs
  len : ∀ i, i < 2 * n → (xs i).length ≤ cnt
  r4 : Blk wr (B + 1) tG #[.slice none 0 0, .slice none 0 0]
  below : Below B w wr

section
variable {tG tS tI : TypeId} {B : Nat} {w : World} {G5 GA GB : Nat} {bk : Bool} {n M : Nat} {PE : Nat → Int → Prop} {cnt : Nat} {wr : World} {vs : Nat → Value} {ys : Nat → List Value} {xs : Nat → List Int}
theorem GInv.alloc (h : GInv tG tS tI B w G5 GA GB bk n M PE cnt wr vs ys xs) (hB : B ≤ wr.heap.size) (o : Obj) : GInv tG tS tI B w G5 GA GB bk n M PE cnt (wr.alloc o) vs ys xs :=
  ⟨h.g5.alloc o, h.ra.alloc o, h.rb.alloc o, h.tab.alloc o, h.ysx, h.edges, h.len, h.r4.alloc o, h.below.alloc hB o⟩
theorem GInv.drew (h : GInv tG tS tI B w G5 GA GB bk n M PE cnt wr vs ys xs) : GInv tG tS tI B w G5 GA GB bk n M PE cnt wr.drew vs ys xs :=
  ⟨h.g5.drew, h.ra.drew, h.rb.drew, h.tab.drew, h.ysx, h.edges, h.len, h.r4.drew, h.below.drew⟩
theorem GInv.congr {PE' : Nat → Int → Prop} {cnt' : Nat} (h : GInv tG tS tI B w G5 GA GB bk n M PE cnt wr vs ys xs) (he : ∀ i m, PE i m ↔ PE' i m) (hc : cnt ≤ cnt') : GInv tG tS tI B w G5 GA GB bk n M PE' cnt' wr vs ys xs :=
  ⟨h.g5, h.ra, h.rb, h.tab, h.ysx, h.edges.congr he, fun i hi => Nat.le_trans (h.len i hi) hc, h.r4, h.below⟩
theorem GInv.sub {M' : Nat} (h : GInv tG tS tI B w G5 GA GB bk n M PE cnt wr vs ys xs) (hM : M' ≤ M) : GInv tG tS tI B w G5 GA GB bk n M' PE cnt wr vs ys xs :=
  ⟨h.g5, h.ra, h.rb, h.tab.sub hM, h.ysx, h.edges, h.len, h.r4, h.below⟩
end

/-- a row more in a new block beside the tables -/
theorem GInv.add {tG tS tI : TypeId} {B : Nat} {w : World} {G5 GA GB : Nat} {bk : Bool} {n : Nat} {PE : Nat → Int → Prop} {cnt : Nat} {wr w' : World} {vs : Nat → Value} {ys : Nat → List Value} {xs : Nat → List Int}
    (h : GInv tG tS tI B w G5 GA GB bk n (2 * n) PE cnt wr vs ys xs) (hB : B ≤ wr.heap.size) (hb : Below wr.heap.size wr w') {v : Value} {zs : List Value} (hr : Row w' B tI v zs) (hn : ∀ k, v.ownBlock = some k → wr.heap.size ≤ k) :
    GInv tG tS tI B w G5 GA GB bk n (2 * n + 1) PE cnt w' (upd vs (2 * n) v) (upd ys (2 * n) zs) xs :=
  ⟨h.g5.below hb h.g5.lt, by
      have := h.ra.below' hb
      rwa [show (List.range n).map (upd vs (2 * n) v) = (List.range n).map vs from List.map_congr_left fun i hi => upd_other _ _ (by have := List.mem_range.1 hi; omega)], by
      have := h.rb.below' hb
      rwa [show ((List.range n).map fun i => upd vs (2 * n) v (n + i)) = (List.range n).map fun i => vs (n + i) from List.map_congr_left fun i hi => upd_other _ _ (by have := List.mem_range.1 hi; omega)],
    h.tab.add hb hr hn, fun i hi => by rw [upd_other _ _ (by omega)]; exact h.ysx i hi, h.edges, h.len, h.r4.below hb h.r4.lt, h.below.trans (hb.mono hB)⟩

theorem tabcell {w : World} {B g n : Nat} {e : TypeId} {vs : Nat → Value} {i : Nat} (h : Row w B e (.slice (some ⟨g, 0, none⟩) n n) ((List.range n).map vs)) (hi : i < n) : w.cell? ⟨g, i, none⟩ = some (vs i) := by
  obtain ⟨b, off, e, _, hc⟩ := h.vals (by intro h0; have := congrArg List.length h0; simp at this; omega)
  injection e with e
  injection e with e1 e2
  subst e1 e2
  have := hc i (vs i) (by simp [hi])
  rwa [Nat.zero_add] at this
theorem tabfree {w : World} {B g n : Nat} {e : TypeId} {vs : Nat → Value} {i : Nat} (h : Row w B e (.slice (some ⟨g, 0, none⟩) n n) ((List.range n).map vs)) (hi : i < n) : w.frozen? ⟨g, i, none⟩ = false := by
  obtain ⟨b, off, cap, x, e, _, _, _, _, hf⟩ := h.get (k := i) (by simpa using hi)
  injection e with e
  injection e with e
  injection e with e1 e2
  subst e1 e2
  rwa [Nat.zero_add] at hf
theorem rowlt {w : World} {B g o n c : Nat} {e : TypeId} {xs : List Value} (h : Row w B e (.slice (some ⟨g, o, none⟩) n c) xs) : g < w.heap.size := (h.lt g rfl).2
theorem rowge {w : World} {B g o n c : Nat} {e : TypeId} {xs : List Value} (h : Row w B e (.slice (some ⟨g, o, none⟩) n c) xs) : B ≤ g := (h.lt g rfl).1

theorem map_range_set {α : Type} (vs : Nat → α) (x : α) {n i : Nat} (_hi : i < n) : ((List.range n).map vs).set i x = (List.range n).map (upd vs i x) := by
  apply List.ext_getElem?
  intro j
  rw [List.getElem?_set]
  simp only [List.getElem?_map, List.length_map, List.length_range]
  by_cases hij : i = j
  · subst hij
    simp [_hi, upd]
  · rw [if_neg hij]
    by_cases hj : j < n
    · simp [hj, upd_other _ _ (Ne.symm hij)]
    · simp [hj]
theorem map_range_set' {α : Type} (vs : Nat → α) (x : α) {n i : Nat} (hi : i < n) : ((List.range n).map fun j => vs (n + j)).set i x = (List.range n).map fun j => upd vs (n + i) x (n + j) := by
  rw [map_range_set (fun j => vs (n + j)) x hi]
  refine List.map_congr_left fun j _ => ?_
  unfold upd
  by_cases h : j = i
  · simp [h]
  · rw [if_neg h, if_neg (by omega)]
/-- the two tables alone -/
structure GTab (tG tS tI : TypeId) (B : Nat) (w : World) (G5 GA GB : Nat) (n M : Nat) (wr : World) (vs : Nat → Value) (ys : Nat → List Value) : Prop where
  g5 : Blk wr G5 tG #[.slice (some ⟨GA, 0, none⟩) n n, .slice (some ⟨GB, 0, none⟩) n n]
  ra : Row wr B tS (.slice (some ⟨GA, 0, none⟩) n n) ((List.range n).map vs)
  rb : Row wr B tS (.slice (some ⟨GB, 0, none⟩) n n) ((List.range n).map fun i => vs (n + i))
  tab : Tab wr B tI M vs ys
  r4 : Blk wr (B + 1) tG #[.slice none 0 0, .slice none 0 0]
  below : Below B w wr
section
variable {tG tS tI : TypeId} {B : Nat} {w : World} {G5 GA GB : Nat} {bk : Bool} {n M : Nat} {PE : Nat → Int → Prop} {cnt : Nat} {wr wr1 w2 : World} {vs : Nat → Value} {ys : Nat → List Value} {xs : Nat → List Int} {v1 : Value} {zs : List Value}
theorem GInv.gt (h : GInv tG tS tI B w G5 GA GB bk n M PE cnt wr vs ys xs) : GTab tG tS tI B w G5 GA GB n M wr vs ys := ⟨h.g5, h.ra, h.rb, h.tab, h.r4, h.below⟩
theorem GTab.inv (h : GTab tG tS tI B w G5 GA GB n M wr vs ys) (hy : ∀ i, i < 2 * n → ys i = ints (xs i)) (he : Edges bk n PE xs) (hl : ∀ i, i < 2 * n → (xs i).length ≤ cnt) :
    GInv tG tS tI B w G5 GA GB bk n M PE cnt wr vs ys xs := ⟨h.g5, h.ra, h.rb, h.tab, hy, he, hl, h.r4, h.below⟩
theorem GTab.later (h : GTab tG tS tI B w G5 GA GB n M wr vs ys) (hB : B ≤ wr.heap.size) (hb : Below wr.heap.size wr wr1) : GTab tG tS tI B w G5 GA GB n M wr1 vs ys :=
  ⟨h.g5.below hb h.g5.lt, h.ra.below' hb, h.rb.below' hb, h.tab.below hb, h.r4.below hb h.r4.lt, h.below.trans (hb.mono hB)⟩
theorem GTab.putA (h : GTab tG tS tI B w G5 GA GB n M wr vs ys) (n1 : tI ≠ tG) (n2 : tI ≠ tS) (n3 : tS ≠ tG) (hAB : GA ≠ GB) (hM : 2 * n ≤ M) {i : Nat} (hi : i < n)
    (hB0 : B ≤ wr.heap.size) (hr : Row w2 B tI v1 zs) (hg : wr.grownBy w2 (vs i).ownBlock) (hat : v1.ownBlock = (vs i).ownBlock ∨ ∀ k, v1.ownBlock = some k → wr.heap.size ≤ k) :
    GTab tG tS tI B w G5 GA GB n M (w2.setCell ⟨GA, i, none⟩ v1) (upd vs i v1) (upd ys i zs) := by
  have hri := h.tab.row (i := i) (by omega)
  have a1 : (vs i).ownBlock ≠ some G5 := hri.ne_blk h.g5 n1
  have a2 : (vs i).ownBlock ≠ some (B + 1) := hri.ne_blk h.r4 n1
  obtain ⟨ca, hca⟩ := h.ra.blk
  obtain ⟨cb, hcb⟩ := h.rb.blk
  have a3 : (vs i).ownBlock ≠ some GA := hri.ne_blk hca n2
  have a4 : (vs i).ownBlock ≠ some GB := hri.ne_blk hcb n2
  have g5' := h.g5.grown hg a1
  have r4' := h.r4.grown hg a2
  have ca' := hca.grown hg a3
  have ra' := h.ra.kept hg (.inr (by simp [Value.ownBlock]; exact fun e => a3 e.symm))
  have rb' := h.rb.kept hg (.inr (by simp [Value.ownBlock]; exact fun e => a4 e.symm))
  have tab' := h.tab.put (by omega) hr hg hat
  have hB := rowge h.ra
  refine ⟨g5'.far (Blk.ne_ g5' ca' (Ne.symm n3)) _, ?_, ?_, tab'.far (p := ⟨GA, i, none⟩) ca' n2 _, r4'.far (Blk.ne_ r4' ca' (Ne.symm n3)) _, ?_⟩
  · have := ra'.store i v1
    rw [Nat.zero_add] at this
    rwa [map_range_set _ _ hi] at this
  · have := rb'.far (p := ⟨GA, i, none⟩) (by simp [Value.ownBlock]; exact fun e => hAB e.symm) v1
    rwa [show ((List.range n).map fun j => upd vs i v1 (n + j)) = (List.range n).map fun j => vs (n + j) from List.map_congr_left fun j hj => upd_other _ _ (by omega)]
  · exact (h.below.grown hg hB0 fun k hk => (hri.lt k hk).1).setCell hB _
theorem GTab.putB (h : GTab tG tS tI B w G5 GA GB n M wr vs ys) (n1 : tI ≠ tG) (n2 : tI ≠ tS) (n3 : tS ≠ tG) (hAB : GA ≠ GB) (hM : 2 * n ≤ M) {i : Nat} (hi : i < n)
    (hB0 : B ≤ wr.heap.size) (hr : Row w2 B tI v1 zs) (hg : wr.grownBy w2 (vs (n + i)).ownBlock) (hat : v1.ownBlock = (vs (n + i)).ownBlock ∨ ∀ k, v1.ownBlock = some k → wr.heap.size ≤ k) :
    GTab tG tS tI B w G5 GA GB n M (w2.setCell ⟨GB, i, none⟩ v1) (upd vs (n + i) v1) (upd ys (n + i) zs) := by
  have hri := h.tab.row (i := n + i) (by omega)
  have a1 : (vs (n + i)).ownBlock ≠ some G5 := hri.ne_blk h.g5 n1
  have a2 : (vs (n + i)).ownBlock ≠ some (B + 1) := hri.ne_blk h.r4 n1
  obtain ⟨ca, hca⟩ := h.ra.blk
  obtain ⟨cb, hcb⟩ := h.rb.blk
  have a3 : (vs (n + i)).ownBlock ≠ some GA := hri.ne_blk hca n2
  have a4 : (vs (n + i)).ownBlock ≠ some GB := hri.ne_blk hcb n2
  have g5' := h.g5.grown hg a1
  have r4' := h.r4.grown hg a2
  have cb' := hcb.grown hg a4
  have ra' := h.ra.kept hg (.inr (by simp [Value.ownBlock]; exact fun e => a3 e.symm))
  have rb' := h.rb.kept hg (.inr (by simp [Value.ownBlock]; exact fun e => a4 e.symm))
  have tab' := h.tab.put (by omega) hr hg hat
  have hB := rowge h.rb
  refine ⟨g5'.far (Blk.ne_ g5' cb' (Ne.symm n3)) _, ?_, ?_, tab'.far (p := ⟨GB, i, none⟩) cb' n2 _, r4'.far (Blk.ne_ r4' cb' (Ne.symm n3)) _, ?_⟩
  · have := ra'.far (p := ⟨GB, i, none⟩) (by simp [Value.ownBlock]; exact hAB) v1
    rwa [show (List.range n).map (upd vs (n + i) v1) = (List.range n).map vs from List.map_congr_left fun j hj => upd_other _ _ (by have := List.mem_range.1 hj; omega)]
  · have := rb'.store i v1
    rw [Nat.zero_add] at this
    rwa [map_range_set' _ _ hi] at this
  · exact (h.below.grown hg hB0 fun k hk => (hri.lt k hk).1).setCell hB _
theorem GInv.done (h : GInv tG tS tI B w G5 GA GB bk n M PE cnt wr vs ys xs) {k : Nat} {m : Int} {a b : Nat} {vs' : Nat → Value}
    (hT : GTab tG tS tI B w G5 GA GB n M w2 vs' (upd (upd ys a (ys a ++ [.int .i64 (b : Int)])) (n + b) (upd ys a (ys a ++ [.int .i64 (b : Int)]) (n + b) ++ [.int .i64 (a : Int)])))
    (ha : a < n) (hb : b < n) (hfa : (a : Int) = fst bk k m) (hfb : (b : Int) = snd bk k m) :
    GInv tG tS tI B w G5 GA GB bk n M (fun i m' => PE i m' ∨ (i = k ∧ m' = m)) (cnt + 1) w2 vs' (upd (upd ys a (ys a ++ [.int .i64 (b : Int)])) (n + b) (upd ys a (ys a ++ [.int .i64 (b : Int)]) (n + b) ++ [.int .i64 (a : Int)]))
      (upd (upd xs a (xs a ++ [(b : Int)])) (n + b) (xs (n + b) ++ [(a : Int)])) := by
  refine hT.inv (fun i hi => ?_) (h.edges.step k m a b ha hb hfa hfb) (fun i hi => ?_)
  · by_cases h1 : i = n + b
    · subst h1
      rw [upd_same, upd_same, upd_other _ _ (by omega), h.ysx _ hi, ints_append]
      rfl
    · rw [upd_other _ _ h1, upd_other _ _ h1]
      by_cases h2 : i = a
      · subst h2
        rw [upd_same, upd_same, h.ysx _ hi, ints_append]
        rfl
      · rw [upd_other _ _ h2, upd_other _ _ h2]
        exact h.ysx i hi
  · by_cases h1 : i = n + b
    · subst h1
      rw [upd_same, List.length_append]
      have := h.len _ hi
      simp
      omega
    · rw [upd_other _ _ h1]
      by_cases h2 : i = a
      · subst h2
        rw [upd_same, List.length_append]
        have := h.len _ hi
        simp
        omega
      · rw [upd_other _ _ h2]
        have := h.len _ hi
        omega
end

/-- a graph, made -/
structure Graph (tS tI : TypeId) (B : Nat) (GA GB : Nat) (bk : Bool) (n : Nat) (PE : Nat → Int → Prop) (wr : World) (vs : Nat → Value) (xs : Nat → List Int) : Prop where
  ra : Row wr B tS (.slice (some ⟨GA, 0, none⟩) n n) ((List.range n).map vs)
  rb : Row wr B tS (.slice (some ⟨GB, 0, none⟩) n n) ((List.range n).map fun i => vs (n + i))
  tab : Tab wr B tI (2 * n) vs (fun i => ints (xs i))
  edges : Edges bk n PE xs
  len : ∀ i, i < 2 * n → (xs i).length ≤ 2 * n
theorem GInv.out {tG tS tI : TypeId} {B : Nat} {w : World} {G5 GA GB : Nat} {bk : Bool} {n : Nat} {PE : Nat → Int → Prop} {wr : World} {vs : Nat → Value} {ys : Nat → List Value} {xs : Nat → List Int}
    (h : GInv tG tS tI B w G5 GA GB bk n (2 * n) PE (2 * n) wr vs ys xs) (n1 : tI ≠ tG) (n3 : tS ≠ tG) (u v : Value) :
    Graph tS tI B GA GB bk n PE ((wr.setCell ⟨B + 1, 0, none⟩ u).setCell ⟨B + 1, 1, none⟩ v) vs xs ∧ Below B w ((wr.setCell ⟨B + 1, 0, none⟩ u).setCell ⟨B + 1, 1, none⟩ v) := by
  obtain ⟨ca, hca⟩ := h.ra.blk
  obtain ⟨cb, hcb⟩ := h.rb.blk
  have e1 : GA ≠ B + 1 := Blk.ne_ hca h.r4 n3
  have e2 : GB ≠ B + 1 := Blk.ne_ hcb h.r4 n3
  have q := h.r4.set_ 0 u
  have t1 := (h.tab.far (p := ⟨B + 1, 0, none⟩) h.r4 n1 u).far (p := ⟨B + 1, 1, none⟩) q n1 v
  refine ⟨⟨(h.ra.far (by simp [Value.ownBlock]; exact e1) u).far (by simp [Value.ownBlock]; exact e1) v, (h.rb.far (by simp [Value.ownBlock]; exact e2) u).far (by simp [Value.ownBlock]; exact e2) v, ?_, h.edges, h.len⟩,
    (h.below.setCell (by simp) u).setCell (by simp) v⟩
  exact ⟨fun i hi => by have := t1.row hi; rw [h.ysx i hi] at this; exact this, fun i j hi hj hne => t1.2 i j hi hj hne⟩

attribute [irreducible] Blk Tab
end Go.Proofs.YtmghkonmfbpjcabDoor
