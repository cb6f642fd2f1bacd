/- ArgC MsL. -/
import Derived.Test.YtmghkonmfbpjcabGB
import Derived.Test.YtmghkonmfbpjcabGA
import Derived.Test.YtmghkonmfbpjcabGL
import Derived.Test.YtmghkonmfbpjcabGK
import Derived.Test.YtmghkonmfbpjcabGJ
set_option linter.unusedVariables false
set_option linter.unusedSimpArgs false
namespace Go.Proofs.Ytmghkonmfbpjcab
section
open Go.RowKit Go.ChangeShapes Go.WideShapes Go.Deep
section
variable {H : Type} {enc : TypeId × Value → H} {w : World} {base : Nat} {spare : Nat → Bool} {held : Bool} {r : Reach} {b0 : Nat} {v : Value} {d : DataW H} {p : List MemPlace}
set_option maxRecDepth 100000 in
theorem bools_in2 (hv : Value.okWide Try.prog w r b0 48 v) (h : DataW.Trod enc Try.prog w base spare held 48 v d p) :
    ∃ (S : Option Addr) (c : Nat) (x : List Bool), v = .slice S x.length c ∧ x.length ≤ c ∧ c ≤ maxLen ∧ ValsAt w S (bools x) := by
  obtain ⟨S, c, x, rfl, hm, hx⟩ := bools_in hv h
  obtain ⟨fuel, hf⟩ := h
  refine ⟨S, c, x, rfl, ?_, ?_, hx⟩
  · rcases open_slice1 Try.underlying48 (by kernel_rfl) hf with ⟨e, _⟩ | ⟨a, len, cap, m, n, V, D, Pl, e, _, hl, hm2, _⟩
    · simp [Value.cells] at e
      simp [e.2.1]
    · simp [Value.cells] at e
      omega
  · rcases open_slice1 Try.underlying48 (by kernel_rfl) hf with ⟨e, _⟩ | ⟨a, len, cap, m, n, V, D, Pl, e, _, hl, hm2, _⟩
    · simp [Value.cells] at e
      rw [e.2.2]; simp
    · simp [Value.cells] at e
      omega
end
end
section
open Go.RowKit
structure LeastAt (r : Int) (m : List Nd) (R : Rs) : Prop where
  chk : chk r m = 0
  len : m.length ≤ 256
  ended : R.ended = true
theorem told_cnt (s : Rn) (v : Tm) : cntOf s.told.cts v = (s.ts.count v : Int) := countsL_cnt s.ts v
section
variable {regs : Int} {p : List Nd} {t : Tm} {inp : List Int}
theorem fxE_split (h : oneE regs p t = 0) (hp : trimL p = p) : fxE regs (splitL p) t = 0 ∧ Right regs (splitL p) ∧ (splitL p).length ≤ 256 := by
  obtain ⟨h0, h5, _⟩ := oneE_parts h
  have hq : oneQ p = splitL p := by unfold oneQ; rw [hp]
  rw [hq] at h5
  have hQ : Right regs (splitL p) := (right_of_chk (fxE_chk h0)).split h5
  exact ⟨fxE_q h0 hQ, hQ, h5⟩
theorem busy_least (hp : trimL p = p) (h : oneE regs p t = 0) {n : Nat} (hn : n ≤ 32768) (ha : (runR (oneR regs p t) (oneL regs p t) inp n).told.ended = true) {F : Fx} (hF : IsFx t (splitL p) F)
    (hM : maE regs (splitL p) t (busyX (splitL p) F) (busyY t (splitL p)) = 0) :
    LeastAt (maR regs (splitL p) t (busyX (splitL p) F) (busyY t (splitL p))) (maL regs (splitL p) t (busyX (splitL p) F) (busyY t (splitL p))) (runR (maR regs (splitL p) t (busyX (splitL p) F) (busyY t (splitL p))) (maL regs (splitL p) t (busyX (splitL p) F) (busyY t (splitL p))) inp 131072).told ∧
      cntOf (runR (maR regs (splitL p) t (busyX (splitL p) F) (busyY t (splitL p))) (maL regs (splitL p) t (busyX (splitL p) F) (busyY t (splitL p))) inp 131072).told.cts t = cntOf (runR (oneR regs p t) (oneL regs p t) inp n).told.cts t := by
  obtain ⟨h1, h2⟩ := one_busy (inp := inp) hp h hn ha F hF
  have hR := apply_right (fxE_split h hp).2.1 hM
  have e1 : maR regs (splitL p) t (busyX (splitL p) F) (busyY t (splitL p)) = regs + 1 := if_pos hM
  have e2 : maL regs (splitL p) t (busyX (splitL p) F) (busyY t (splitL p)) = applyL regs t (busyX (splitL p) F) (busyY t (splitL p)) (splitL p) := if_pos hM
  rw [e1, e2]
  exact ⟨⟨hR.chk, hR.hi, h1⟩, by rw [told_cnt, told_cnt, h2]⟩
theorem rival_least (hp : trimL p = p) (h : oneE regs p t = 0) {n : Nat} (hn : n ≤ 32768) (ha : (runR (oneR regs p t) (oneL regs p t) inp n).told.ended = true) {F : Fx} (hF : IsFx t (splitL p) F) {x th : List Bool} (hth : Great (rivS t (splitL p) (rivG (splitL p) F x)) (splitL p).length th)
    (hM : maE regs (splitL p) t (rivG (splitL p) F x) (rivY t (splitL p) th) = 0) :
    LeastAt (maR regs (splitL p) t (rivG (splitL p) F x) (rivY t (splitL p) th)) (maL regs (splitL p) t (rivG (splitL p) F x) (rivY t (splitL p) th)) (runR (maR regs (splitL p) t (rivG (splitL p) F x) (rivY t (splitL p) th)) (maL regs (splitL p) t (rivG (splitL p) F x) (rivY t (splitL p) th)) inp 131072).told ∧
      cntOf (runR (oneR regs p t) (oneL regs p t) inp n).told.cts t ≤ cntOf (runR (maR regs (splitL p) t (rivG (splitL p) F x) (rivY t (splitL p) th)) (maL regs (splitL p) t (rivG (splitL p) F x) (rivY t (splitL p) th)) inp 131072).told.cts t := by
  obtain ⟨h1, h2⟩ := one_rival (inp := inp) hp h hn ha F hF hth
  have hR := apply_right (fxE_split h hp).2.1 hM
  have e1 : maR regs (splitL p) t (rivG (splitL p) F x) (rivY t (splitL p) th) = regs + 1 := if_pos hM
  have e2 : maL regs (splitL p) t (rivG (splitL p) F x) (rivY t (splitL p) th) = applyL regs t (rivG (splitL p) F x) (rivY t (splitL p) th) (splitL p) := if_pos hM
  rw [e1, e2]
  exact ⟨⟨hR.chk, hR.hi, h1⟩, by rw [told_cnt, told_cnt]; omega⟩
theorem busy_least2 (hp : trimL p = p) (h : oneE regs p t = 0) {n : Nat} (hn : n ≤ 32768) (pt tk : List Bool) (hF : ∃ F, IsFx t (splitL p) F ∧ pt = busyX (splitL p) F ∧ tk = busyY t (splitL p)) (ha : (runR (oneR regs p t) (oneL regs p t) inp n).told.ended = true) (hM : maE regs (splitL p) t pt tk = 0) :
    LeastAt (maR regs (splitL p) t pt tk) (maL regs (splitL p) t pt tk) (runR (maR regs (splitL p) t pt tk) (maL regs (splitL p) t pt tk) inp 131072).told ∧ cntOf (runR (maR regs (splitL p) t pt tk) (maL regs (splitL p) t pt tk) inp 131072).told.cts t = cntOf (runR (oneR regs p t) (oneL regs p t) inp n).told.cts t := by
  obtain ⟨F, hF, rfl, rfl⟩ := hF
  exact busy_least hp h hn ha hF hM
theorem rival_least2 (hp : trimL p = p) (h : oneE regs p t = 0) {n : Nat} (hn : n ≤ 32768) (x pt tk : List Bool) (hF : ∃ F th, IsFx t (splitL p) F ∧ Great (rivS t (splitL p) (rivG (splitL p) F x)) (splitL p).length th ∧ pt = rivG (splitL p) F x ∧ tk = rivY t (splitL p) th) (ha : (runR (oneR regs p t) (oneL regs p t) inp n).told.ended = true) (hM : maE regs (splitL p) t pt tk = 0) :
    LeastAt (maR regs (splitL p) t pt tk) (maL regs (splitL p) t pt tk) (runR (maR regs (splitL p) t pt tk) (maL regs (splitL p) t pt tk) inp 131072).told ∧ cntOf (runR (oneR regs p t) (oneL regs p t) inp n).told.cts t ≤ cntOf (runR (maR regs (splitL p) t pt tk) (maL regs (splitL p) t pt tk) inp 131072).told.cts t := by
  obtain ⟨F, th, hF, hG, rfl, rfl⟩ := hF
  exact rival_least hp h hn ha hF hG hM
end
theorem Row.none_ {w : World} {base : Nat} {e : TypeId} (hb : base ≤ w.heap.size) : Row (w.alloc (.cells #[] e)) base e (.slice (some ⟨w.heap.size, 0, none⟩) 0 0) [] :=
  Or.inr ⟨w.heap.size, 0, 0, #[], rfl, hb, heap_alloc_new w _, by simp, by simp, by simp, fun j x hx => by simp at hx⟩
def LsPost (tB : TypeId) (C : List Bool → List Bool → Prop) (w : World) (e : Ending) (w' : World) : Prop :=
  Below w.heap.size w w' ∧ ∃ v1 v2 pt tk, C pt tk ∧ e = .returned (.tuple #[.agg #[v1, v2], .int .i64 0]) ∧ Row w' w.heap.size tB v1 (bools pt) ∧ Row w' w.heap.size tB v2 (bools tk)
theorem MvPost.ls {tB : TypeId} {regs : Int} {l : List Nd} {t : Tm} {w w' : World} {e : Ending} (h : MvPost tB regs l t (busyX l) (fun _ => busyY t l) w e w') (h0 : fxE regs l t = 0) : LsPost tB (fun pt tk => ∃ F, IsFx t l F ∧ pt = busyX l F ∧ tk = busyY t l) w e w' := by
  obtain ⟨hb, ⟨h1, _⟩ | ⟨_, F, v1, v2, hF, rfl, r1, r2, _⟩⟩ := h
  · exact absurd h0 h1
  · exact ⟨hb, v1, v2, _, _, ⟨F, hF, rfl, rfl⟩, rfl, r1, r2⟩
theorem RvPost.ls {tB : TypeId} {regs : Int} {l : List Nd} {t : Tm} {x : List Bool} {w w' : World} {e : Ending} (h : RvPost tB regs l t x w e w') (h0 : fxE regs l t = 0) (hx : x.length = l.length) : LsPost tB (fun pt tk => ∃ F th, IsFx t l F ∧ Great (rivS t l (rivG l F x)) l.length th ∧ pt = rivG l F x ∧ tk = rivY t l th) w e w' := by
  obtain ⟨hb, ⟨h1, _⟩ | ⟨_, h1, _⟩ | ⟨_, _, F, th, v1, v2, hF, hG, rfl, r1, r2, _⟩⟩ := h
  · exact absurd h0 h1
  · exact absurd hx h1
  · exact ⟨hb, v1, v2, _, _, ⟨F, th, hF, hG, rfl, rfl⟩, rfl, r1, r2⟩
structure QlSt (tB tP : TypeId) (w : World) (b : Nat) (A1 : Option Addr) (c1 : Nat) (A2 : Option Addr) (c2 : Nat) (x y : List Bool) (W : World) : Prop where
  box : Blk W b tP #[.slice A1 x.length c1, .slice A2 y.length c2]
  r1 : Row W w.heap.size tB (.slice A1 x.length c1) (bools x)
  r2 : Row W w.heap.size tB (.slice A2 y.length c2) (bools y)
  below : Below w.heap.size w W
  young : w.heap.size ≤ b
theorem QlSt.mk2 {tB tP : TypeId} {w : World} {b : Nat} {A1 : Option Addr} {c1 : Nat} {A2 : Option Addr} {c2 : Nat} {x y : List Bool} {V : World} {z0 z1 : Value} (hQ : Blk V b tP #[z0, z1])
    (r1 : Row V w.heap.size tB (.slice A1 x.length c1) (bools x)) (r2 : Row V w.heap.size tB (.slice A2 y.length c2) (bools y)) (n1 : (Value.slice A1 x.length c1).ownBlock ≠ some b) (n2 : (Value.slice A2 y.length c2).ownBlock ≠ some b)
    (hB : Below w.heap.size w V) (hwb : w.heap.size ≤ b) : QlSt tB tP w b A1 c1 A2 c2 x y ((V.setCell ⟨b, 0, none⟩ (.slice A1 x.length c1)).setCell ⟨b, 1, none⟩ (.slice A2 y.length c2)) :=
  ⟨(hQ.set_ 0 _).set_ 1 _, (r1.far (p := ⟨b, 0, none⟩) n1 _).far (p := ⟨b, 1, none⟩) n1 _, (r2.far (p := ⟨b, 0, none⟩) n2 _).far (p := ⟨b, 1, none⟩) n2 _, (hB.setCell hwb _).setCell hwb _, hwb⟩
theorem QlSt.later {tB tP : TypeId} {w : World} {b : Nat} {A1 : Option Addr} {c1 : Nat} {A2 : Option Addr} {c2 : Nat} {x y : List Bool} {W W' : World} (h : QlSt tB tP w b A1 c1 A2 c2 x y W) (hb : Below W.heap.size W W') : QlSt tB tP w b A1 c1 A2 c2 x y W' :=
  ⟨h.box.below hb h.box.lt, h.r1.below' hb, h.r2.below' hb, h.below.trans (hb.mono h.below.size), h.young⟩
theorem ValsAt.takeB {w : World} {X : Option Addr} {x : List Bool} (h : ValsAt w X (bools x)) (k : Nat) : ValsAt w X (bools (x.take k)) := by
  intro hne
  have h0 : bools x ≠ [] := fun e => hne (by
    have : x = [] := by simpa [bools] using e
    simp [this, bools])
  obtain ⟨b, off, e, hb, hv⟩ := h h0
  refine ⟨b, off, e, hb, fun i v hi => hv i v ?_⟩
  rw [bools_get] at hi ⊢
  rw [List.getElem?_take] at hi
  split at hi
  · exact hi
  · simp at hi
end
end Go.Proofs.Ytmghkonmfbpjcab
