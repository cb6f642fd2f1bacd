/- Mt Ms6 LiveP Bits LiveQ LiveR LiveE LessP HushP WpP LiveW LiveW2 LiveB Lies Goto LiveS LiveZ LiveL. -/
import Derived.Test.YtmghkonmfbpjcaaGreatDoorMvO
import Derived.Test.YtmghkonmfbpjcaaGreatDoorGF
import Derived.Test.YtmghkonmfbpjcaaGreatDoorGA
import Derived.Test.YtmghkonmfbpjcaaGreatDoorGB
import Derived.Lib.TrailingZeros
import Derived.Test.YtmghkonmfbpjcaaGreatDoorGC
import Derived.Laws.Bits64b
import Derived.BigQuiet
import Derived.Deep.QuietTactic
import Derived.ScopeJumps
import Derived.WalkMore
import Derived.Deep.LoopGhost
import Derived.Deep.RegionHeld3
import Derived.Deep.DeepCutAuto
import Derived.Shelf.Spec.TrailingZeros
set_option linter.unusedVariables false
set_option linter.unusedSimpArgs false
namespace Go.Proofs.YtmghkonmfbpjcaaGreatDoor
section
open Go.RowKit
def allGo : List Tm → Int → List Nd → Int × Int × List Nd
 | [], r, l => (0, r, l)
 | t :: ts, r, l => if oneE r l t ≠ 0 then (oneE r l t, 0, []) else allGo ts (oneR r l t) (oneL r l t)
theorem allGo_drop {ts : List Tm} {k : Nat} {t : Tm} (h : ts[k]? = some t) (r : Int) (l : List Nd) :
 allGo (ts.drop k) r l = if oneE r l t ≠ 0 then (oneE r l t, 0, []) else allGo (ts.drop (k + 1)) (oneR r l t) (oneL r l t) := by (
 obtain ⟨hk, rfl⟩ := List.getElem?_eq_some_iff.1 h
 rw [List.drop_eq_getElem_cons hk]
 rfl)
def allT (l : List Nd) : List Tm := tmsOf l l.length
def allE (regs : Int) (l : List Nd) : Int := if chk regs l ≠ 0 then chk regs l else (allGo (allT l) regs l).1
def AllPost (tN : TypeId) (regs : Int) (l : List Nd) (w : World) (e : Ending) (w' : World) : Prop :=
 Below w.heap.size w w' ∧ ((allE regs l ≠ 0 ∧ e = .returned (.tuple #[.agg #[.int .i64 0, .slice none 0 0], .int .i64 (allE regs l)])) ∨
  (allE regs l = 0 ∧ ∃ v, e = .returned (.tuple #[.agg #[.int .i64 (allGo (allT l) regs l).2.1, v], .int .i64 0]) ∧ NRow w' w.heap.size tN v (allGo (allT l) regs l).2.2))
structure AlSt (W0 : World) (B qb : Nat) (r : Int) (v : Value) (ls : List Nd) (W : World) : Prop where
 box : Blk W qb 24 #[.int .i64 r, v]
 row : NRow W B 44 v ls
 below : Below W0.heap.size W0 W
 low : W0.heap.size ≤ qb
section
variable {W0 : World} {B qb : Nat} {r r' : Int} {v v' : Value} {ls ls' : List Nd} {W : World}
theorem AlSt.later {W' : World} (h : AlSt W0 B qb r v ls W) (hb : Below W.heap.size W W') : AlSt W0 B qb r v ls W' := ⟨h.box.below hb h.box.lt, h.row.below' hb, h.below.trans (hb.mono h.below.size), h.low⟩
theorem AlSt.put {V : World} (h : AlSt W0 B qb r v ls W) (hb : Below W.heap.size W V) (hr : NRow V B 44 v' ls') :
 AlSt W0 B qb r' v' ls' ((V.setCell ⟨qb, 0, none⟩ (.int .i64 r')).setCell ⟨qb, 1, none⟩ v') := by (
 have hx := h.box.below hb h.box.lt
 have hn := hr.ne_blk hx (by decide)
 exact ⟨(hx.set_ 0 _).set_ 1 _, (hr.far (p := ⟨qb, 0, none⟩) hn _).far (p := ⟨qb, 1, none⟩) hn _, ((h.later hb).below.setCell h.low _).setCell h.low _, h.low⟩)
end
end
section
open Go.RowKit
section
variable {regs : Int} {t : Tm} {l : List Nd} {pt tk th : List Bool} {inp : List Int}
theorem applyL_size (h : Int) (t : Tm) (pt tk : List Bool) (l : List Nd) : (applyL h t pt tk l).length = l.length + rk pt l.length := applyL_len h t pt tk l
theorem Doing.apply (hR : Right regs l) (hT : TmOk regs t) (hH : Held t l pt tk th) : Doing regs l (regs + 1) (applyL regs t pt tk l) inp := by
  have hlo := hR.lo
  refine ⟨fun j => if j < l.length then j else ((List.range l.length).find? fun i => yn pt i && l.length + rk pt i == j).getD 0, fun j => decide (j < l.length) && yn pt j, Mvd regs t l pt th,
    ⟨fun h => ⟨h.out, h.ret, h.ended⟩, fun {s u} h he => ?_, fun {s u} h he e => ?_, fun {s u} h he e => ?_, fun {s u} h he e => ?_, fun {s u} h he => ?_⟩, Mvd.start hR hH⟩
  · have hl := h.lt he
    rw [applyL_size]
    rcases h.at_ he with ⟨h1, _⟩ | ⟨h1, h2, _⟩
    · omega
    · have := rk_lt hl h1; omega
  · have hl := h.lt he
    rcases h.at_ he with ⟨h1, _⟩ | ⟨h1, h2, _⟩
    · rw [h1, if_pos hl]
    · rw [h2, if_neg (by omega)]
      refine (find_one hl (by simp [h1]) fun i hi hq => ?_).symm
      simp only [Bool.and_eq_true, beq_iff_eq] at hq
      exact rk_inj hq.1 h1 (by omega)
  · have hl := h.lt he
    simp only [Bool.and_eq_true, decide_eq_true_eq] at e
    rcases h.at_ he with ⟨h1, _⟩ | ⟨h1, h2, _⟩
    · rw [h1] at e
      refine ⟨(h.put hT he h1 e.2).1, ?_⟩
      rw [h1, applyL_at hl, if_pos e.2]
      have := hT.op
      show t.op ≠ 11
      omega
    · omega
  · have hl := h.lt he
    have hu : (u.pos = s.pos ∧ yn pt s.pos = false) ∨ (yn pt s.pos = true ∧ u.pos ≠ s.pos) := by
      rcases h.at_ he with ⟨h1, _⟩ | ⟨h1, h2, _⟩
      · rw [h1, Bool.and_eq_false_iff] at e
        exact .inl ⟨h1, e.resolve_left (by simp; omega)⟩
      · exact .inr ⟨h1, by omega⟩
    obtain ⟨h1, _, _, h4⟩ := h.take hR hT hH he hu (inp := inp)
    exact ⟨h1, h4⟩
  · have hl := h.lt he
    rcases h.at_ he with ⟨h1, _⟩ | ⟨h1, h2, _⟩
    · by_cases e : yn pt s.pos = true
      · refine ⟨1, .next (by rw [h1, e]; simp [hl]) (.here ?_)⟩
        rw [(h.put hT he h1 e).2.1, decide_eq_false (by omega)]
        rfl
      · exact ⟨0, .here (by rw [h1, yno e]; simp)⟩
    · exact ⟨0, .here (by rw [h2, decide_eq_false (by omega)]; rfl)⟩
theorem Doing.ends {r1 r2 : Int} {l m : List Nd} (h : Doing r1 l r2 m inp) (n : Nat) (he : (runR r1 l inp n).ended = true) : (runR r2 m inp (n * (m.length + 1))).ended = true := by
  obtain ⟨p, th, Rel, h1, h2⟩ := h
  have := (h1.sim.does h2 n (n * (m.length + 1)) (by rw [Nat.mul_comm]; exact Nat.le_refl _)).2.2.1 he
  exact this.1
theorem run_once {r : Int} {m : List Nd} {k j : Nat} (hk : (runR r m inp k).ended = true) (hj : (runR r m inp j).ended = true) : runR r m inp k = runR r m inp j := by
  have key : ∀ {k j : Nat}, k ≤ j → (runR r m inp k).ended = true → runR r m inp j = runR r m inp k := fun {k j} h hk => by
    unfold runR at *
    rw [show j = k + (j - k) by omega, goR_add, goR_ended hk]
  rcases Nat.le_total k j with h | h
  · exact (key h hk).symm
  · exact key h hj
theorem oneQ_run (hR : Right regs l) (n : Nat) : ∃ k, n ≤ k ∧ k ≤ 2 * n ∧ Alike (runR regs l inp n) (runR regs (oneQ l) inp k) := by
  have h1 := run_trim (inp := inp) hR n
  obtain ⟨k, a1, a2, a3⟩ := (split_sim inp hR.trim).run n (split_start hR.trim)
  have h2 := h1.alike
  have h3 := a3.alike
  exact ⟨k, a1, a2, ⟨h2.regs.trans h3.regs, h2.read.trans h3.read, h2.out.trans h3.out, h2.ret.trans h3.ret, h2.ended.trans h3.ended, h2.ts.trans h3.ts⟩⟩
theorem lone_split {regs : Int} {l : List Nd} (hR : Right regs l) : Lone (splitL l) := by
  intro n m he h0 k hk
  by_cases hw : 2 ≤ ways (splitL l) (m : Int)
  · exfalso
    exact split_lone hR (nd_some he.1) h0 he.2.2 hw
  · refine sel_two (p := aheadP (splitL l) m) (K := (splitL l).length) (by simpa [ways] using hw) hk.1 he.1 ?_ ?_
    · rw [aheadP_eq (nd_some hk.1)]; exact hk.2.2
    · rw [aheadP_eq (nd_some he.1)]; exact he.2.2
theorem oneE_parts (h : oneE regs l t = 0) : fxE regs l t = 0 ∧ (oneQ l).length ≤ 256 ∧ (oneAny t l = true → maE regs (oneQ l) t (oneX t l) (oneY t l) = 0) := by
  unfold oneE at h
  by_cases h0 : fxE regs l t = 0
  · rw [if_neg (by simp [h0])] at h
    by_cases h1 : 256 < (oneQ l).length
    · rw [if_pos h1] at h; cases h
    · rw [if_neg h1] at h
      refine ⟨h0, by omega, fun h2 => ?_⟩
      rwa [if_pos h2] at h
  · rw [if_pos h0] at h
    exact absurd h h0
theorem One.doing (h : oneE regs l t = 0) : Doing regs l (oneR regs l t) (oneL regs l t) inp := by
  obtain ⟨h0, h1, h2⟩ := oneE_parts h
  have hR := right_of_chk (fxE_chk h0)
  unfold oneR oneL
  by_cases ha : oneAny t l = true
  · rw [if_pos ha, if_pos ha]
    have hQ := oneQ_right (fxE_chk h0) h1
    have hT := fxE_tm h0
    exact (Doing.trim hR).trans ((Doing.split hR.trim).trans (Doing.apply hQ hT (lazy_held (fxOf_is t (oneQ l)) hQ hT.op)))
  · rw [if_neg ha, if_neg ha]
    exact Doing.self hR
theorem maE_parts (h : maE regs l t pt tk = 0) : fxE regs l t = 0 ∧ pt.length = l.length ∧ tk.length = l.length ∧ (∀ k, k < l.length → yn tk k = true → rkB t (nd l k) = true) ∧ (applyL regs t pt tk l).length ≤ 256 ∧ regs + 1 ≤ 64 := by
  unfold maE at h
  by_cases h0 : fxE regs l t = 0
  · rw [if_neg (by simp [h0])] at h
    split at h
    · cases h
    · rename_i h1
      split at h
      · cases h
      · rename_i h2
        split at h
        · cases h
        · rename_i h3
          refine ⟨h0, by omega, by omega, fun k hk e => ?_, by omega, by omega⟩
          have h4 : badTake t tk l = false := yno h2
          unfold badTake at h4
          rw [List.any_eq_false] at h4
          have := h4 k (List.mem_range.2 hk)
          simpa [e] using this
  · rw [if_pos h0] at h
    exact absurd h h0
theorem applyL_mem {h : Int} {n : Nd} (hn : n ∈ applyL h t pt tk l) : ∃ i, i < l.length ∧ ((yn pt i = true ∧ n = putN h t (l.length + rk pt i)) ∨ n = takeN h tk l i) := by
  rw [applyL_front] at hn
  rcases List.mem_append.1 hn with h1 | h1
  · unfold frontL at h1
    obtain ⟨i, hi, rfl⟩ := List.mem_map.1 h1
    refine ⟨i, List.mem_range.1 hi, ?_⟩
    by_cases e : yn pt i = true
    · rw [if_pos e]; exact .inl ⟨e, rfl⟩
    · rw [if_neg e]; exact .inr rfl
  · unfold backL at h1
    obtain ⟨i, hi, rfl⟩ := List.mem_map.1 h1
    exact ⟨i, List.mem_range.1 (List.mem_filter.1 hi).1, .inr rfl⟩
theorem apply_right (hR : Right regs l) (h : maE regs l t pt tk = 0) : Right (regs + 1) (applyL regs t pt tk l) := by
  obtain ⟨h0, h1, h2, h3, h4, h5⟩ := maE_parts h
  have hT := fxE_tm h0
  have hlo := hR.lo
  have hr := hR.rlo
  have hlen := applyL_size regs t pt tk l
  have hB := hT.hasB
  have hop := hT.op
  have hta := hT.a
  have htb := hT.b
  have hold : ∀ {i : Nat}, i < l.length → opOk (nd l i).op = true ∧ badR (regs + 1) (applyL regs t pt tk l).length (nd l i) = false ∧ badF (nd l i) = false := fun {i} hi => by
    have hm := nd_mem hi
    refine ⟨hR.ok _ hm, ?_, hR.frm _ hm⟩
    have hb := hR.rng _ hm
    have e1 : ∀ (x : Int) (b : Bool), okR regs x b = true → okR (regs + 1) x b = true := fun x b e => by
      cases b
      · rfl
      · simp only [okR, Bool.not_true, Bool.false_or, Bool.and_eq_true, decide_eq_true_eq] at *
        omega
    have e2 : ∀ (x : Int) (b : Bool), okN l.length x b = true → okN (applyL regs t pt tk l).length x b = true := fun x b e => by
      cases b
      · rfl
      · simp only [okN, Bool.not_true, Bool.false_or, Bool.and_eq_true, decide_eq_true_eq] at *
        omega
    simp only [badR, Bool.or_eq_false_iff, Bool.not_eq_false'] at hb ⊢
    obtain ⟨⟨⟨⟨b1, b2⟩, b3⟩, b4⟩, b5⟩ := hb
    exact ⟨⟨⟨⟨e1 _ _ b1, e1 _ _ b2⟩, e1 _ _ b3⟩, e2 _ _ b4⟩, e2 _ _ b5⟩
  have hall : ∀ n ∈ applyL regs t pt tk l, opOk n.op = true ∧ badR (regs + 1) (applyL regs t pt tk l).length n = false ∧ badF n = false := fun n hn => by
    obtain ⟨i, hi, ⟨hp, rfl⟩ | rfl⟩ := applyL_mem hn
    · have := rk_lt hi hp
      have o1 : hasD t.op = true := (hasB_A hB).2.1
      have o2 : hasA t.op = true := (hasB_A hB).1
      have o3 : opOk t.op = true := by simp [opOk, inB]; omega
      have o4 : shT t.op = true := by simp [shT, o3]; omega
      have o5 : hasE t.op = false := by simp [hasE]; omega
      refine ⟨o3, ?_, ?_⟩
      · have a1 : ∀ x : Int, 0 ≤ x → x < regs + 1 → okR (regs + 1) x true = true := fun x g1 g2 => by simp only [okR, Bool.not_true, Bool.false_or, Bool.and_eq_true, decide_eq_true_eq]; omega
        have a2 : okN (applyL regs t pt tk l).length ((l.length + rk pt i : Nat) : Int) true = true := by simp only [okN, Bool.not_true, Bool.false_or, Bool.and_eq_true, decide_eq_true_eq]; omega
        show (!okR (regs + 1) regs (hasD t.op) || !okR (regs + 1) t.a (hasA t.op) || !okR (regs + 1) t.b (Go.Proofs.YtmghkonmfbpjcaaGreatDoor.hasB t.op) || !okN _ _ (shT t.op) || !okN _ 0 (hasE t.op)) = false
        rw [o1, o2, hB, o4, o5, a1 regs (by omega) (by omega), a1 t.a (by omega) (by omega), a1 t.b (by omega) (by omega)]
        rw [show okN ((applyL regs t pt tk l).length : Int) (putN regs t (l.length + rk pt i)).t true = true from a2]
        rfl
      · simp [badF, putN, okF, o1, o2, hB, o4, o5]
    · unfold takeN
      by_cases e : yn tk i = true
      · rw [if_pos e]
        have hk := h3 i hi e
        rw [rkb hR hop hi] at hk
        unfold recB at hk
        simp only [Bool.and_eq_true, beq_iff_eq] at hk
        have hm := nd_mem hi
        have hd := (hR.regA hm).1 (by rw [hk.1.1]; exact (hasB_A hB).2.1)
        have ht := hR.then_ hm (by omega)
        refine ⟨rfl, ?_, ?_⟩
        · have a1 : okR (regs + 1) (nd l i).d true = true := by simp only [okR, Bool.not_true, Bool.false_or, Bool.and_eq_true, decide_eq_true_eq]; omega
          have a2 : okR (regs + 1) regs true = true := by simp only [okR, Bool.not_true, Bool.false_or, Bool.and_eq_true, decide_eq_true_eq]; omega
          have a3 : okN (applyL regs t pt tk l).length (nd l i).t true = true := by simp only [okN, Bool.not_true, Bool.false_or, Bool.and_eq_true, decide_eq_true_eq]; omega
          show (!okR (regs + 1) (nd l i).d true || !okR (regs + 1) regs true || !okR (regs + 1) 0 false || !okN _ (nd l i).t true || !okN _ 0 false) = false
          rw [a1, a2, a3]
          rfl
        · rfl
      · rw [if_neg e]
        exact hold hi
  exact ⟨by omega, h4, by omega, h5, fun n hn => (hall n hn).1, fun n hn => (hall n hn).2.1, fun n hn => (hall n hn).2.2⟩
theorem One.right (h : oneE regs l t = 0) : Right (oneR regs l t) (oneL regs l t) := by
  obtain ⟨h0, h1, h2⟩ := oneE_parts h
  unfold oneR oneL
  by_cases ha : oneAny t l = true
  · rw [if_pos ha, if_pos ha]
    exact apply_right (oneQ_right (fxE_chk h0) h1) (h2 ha)
  · rw [if_neg ha, if_neg ha]
    exact right_of_chk (fxE_chk h0)
theorem All.doing : ∀ (ts : List Tm) {r : Int} {l : List Nd}, Right r l → (allGo ts r l).1 = 0 → Doing r l (allGo ts r l).2.1 (allGo ts r l).2.2 inp
  | [], r, l, hR, h => Doing.self hR
  | t :: ts, r, l, hR, h => by
    unfold allGo at h ⊢
    by_cases h0 : oneE r l t = 0
    · rw [if_neg (by simp [h0])] at h ⊢
      exact (One.doing h0).trans (All.doing ts (One.right h0) h)
    · rw [if_pos h0] at h
      exact absurd h h0
end
end
section
open Go.RowKit
def hush (n : Nd) : Nd := ⟨0, 0, 0, 0, n.t, 0⟩
inductive Lv (l : List Nd) (r : Int) : Int → Prop
  | use (i : Nat) (n : Nd) (hn : l[i]? = some n) (hu : ((hasA n.op && n.a == r) || (hasB n.op && n.b == r)) = true) : Lv l r i
  | then_ (i : Nat) (n : Nd) (hn : l[i]? = some n) (hs : (hasD n.op && n.d == r) = false) (hop : n.op ≠ 12) (h : Lv l r n.t) : Lv l r i
  | else_ (i : Nat) (n : Nd) (hn : l[i]? = some n) (hs : (hasD n.op && n.d == r) = false) (hop : n.op = 11) (h : Lv l r n.e) : Lv l r i
def DeadN (l : List Nd) (i : Nat) : Prop := ∃ n, l[i]? = some n ∧ 1 ≤ n.op ∧ n.op ≤ 8 ∧ ¬ Lv l n.d n.t
def hushAt (l : List Nd) (i : Nat) : List Nd := l.set i (hush (l.getD i default))
theorem hushAt_get {l : List Nd} {i j : Nat} {n : Nd} (hn : l[i]? = some n) : (hushAt l i)[j]? = if j = i then some (hush n) else l[j]? := by
  have hlt : i < l.length := (List.getElem?_eq_some_iff.1 hn).1
  have hg : l.getD i default = n := by rw [List.getD_eq_getElem?_getD, hn]; rfl
  unfold hushAt
  rw [hg, List.getElem?_set]
  by_cases h : i = j
  · subst h; simp [hlt]
  · rw [if_neg h, if_neg (fun e => h e.symm)]
theorem Lv.of_hush {l : List Nd} {i : Nat} {r j : Int} (hd : DeadN l i) (h : Lv (hushAt l i) r j) : Lv l r j := by
  obtain ⟨n, hn, h1, h8, hlv⟩ := hd
  induction h with
  | use k m hm hu =>
    rw [hushAt_get hn] at hm
    by_cases hk : k = i
    · rw [if_pos hk] at hm
      cases hm
      simp [hush, hasA, hasB, inB] at hu
    · rw [if_neg hk] at hm
      exact .use k m hm hu
  | then_ k m hm hs hop _ ih =>
    rw [hushAt_get hn] at hm
    by_cases hk : k = i
    · rw [if_pos hk] at hm
      cases hm
      subst hk
      have ih' : Lv l r n.t := ih
      have hs' : (hasD n.op && n.d == r) = false := by
        cases hq : (hasD n.op && n.d == r) with
        | false => rfl
        | true =>
          have : n.d = r := beq_iff_eq.1 (Bool.and_eq_true_iff.1 hq).2
          rw [this] at hlv
          exact absurd ih' hlv
      exact .then_ k n hn hs' (by omega) ih'
    · rw [if_neg hk] at hm
      exact .then_ k m hm hs hop ih
  | else_ k m hm hs hop _ ih =>
    rw [hushAt_get hn] at hm
    by_cases hk : k = i
    · rw [if_pos hk] at hm
      cases hm
      simp [hush] at hop
    · rw [if_neg hk] at hm
      exact .else_ k m hm hs hop ih
theorem DeadN.still {l : List Nd} {i j : Nat} (hi : DeadN l i) (hj : DeadN l j) (hne : j ≠ i) : DeadN (hushAt l i) j := by
  obtain ⟨m, hm, h1, h8, hlv⟩ := hj
  obtain ⟨n, hn, _⟩ := id hi
  exact ⟨m, by rw [hushAt_get hn, if_neg hne]; exact hm, h1, h8, fun h => hlv (h.of_hush hi)⟩
theorem hushAt_comm {l : List Nd} {i j : Nat} (hi : DeadN l i) (hj : DeadN l j) : hushAt (hushAt l i) j = hushAt (hushAt l j) i := by
  by_cases h : i = j
  · subst h; rfl
  · obtain ⟨n, hn, _⟩ := hi
    obtain ⟨m, hm, _⟩ := hj
    refine List.ext_getElem? fun k => ?_
    rw [hushAt_get (n := m) (by rw [hushAt_get hn, if_neg (fun e => h e.symm)]; exact hm), hushAt_get hn, hushAt_get (l := hushAt l j) (n := n) (by rw [hushAt_get hm, if_neg h]; exact hn), hushAt_get hm]
    by_cases h1 : k = j <;> by_cases h2 : k = i <;> simp [h1, h2] <;> omega
inductive Hushes : List Nd → List Nd → Prop
  | nil (l : List Nd) : Hushes l l
  | one (l l' : List Nd) (i : Nat) (hd : DeadN l i) (h : Hushes (hushAt l i) l') : Hushes l l'
theorem Hushes.snoc {l l' : List Nd} (h : Hushes l l') {i : Nat} (hd : DeadN l' i) : Hushes l (hushAt l' i) := by
  induction h with
  | nil l => exact .one _ _ i hd (.nil _)
  | one l l' j hj _ ih => exact .one _ _ j hj (ih hd)
theorem Hushes.past {l l2 : List Nd} (h : Hushes l l2) (hn : ∀ i, ¬ DeadN l2 i) {i : Nat} (hi : DeadN l i) : Hushes (hushAt l i) l2 := by
  induction h generalizing i with
  | nil l => exact absurd hi (hn i)
  | one l l' j hj h' ih =>
    by_cases hij : i = j
    · subst hij; exact h'
    · have := ih hn (hj.still hi hij)
      rw [hushAt_comm hj hi] at this
      exact .one _ _ j (hi.still hj (fun e => hij e.symm)) this
theorem Hushes.unique {l l1 l2 : List Nd} (h1 : Hushes l l1) (n1 : ∀ i, ¬ DeadN l1 i) (h2 : Hushes l l2) (n2 : ∀ i, ¬ DeadN l2 i) : l1 = l2 := by
  induction h1 with
  | nil l =>
    cases h2 with
    | nil => rfl
    | one _ _ i hd _ => exact absurd hd (n1 i)
  | one l l' j hj h' ih => exact ih n1 (h2.past n2 hj)
def usesB (n : Nd) (r : Int) : Bool := (hasA n.op && n.a == r) || (hasB n.op && n.b == r)
def makesB (n : Nd) (r : Int) : Bool := hasD n.op && n.d == r
def behindB (n : Nd) (x : List Bool) : Bool := (n.op != 12 && yn x n.t.toNat) || (n.op == 11 && yn x n.e.toNat)
def liveS (l : List Nd) (r : Int) (x : List Bool) (i : Nat) : Bool := usesB (l.getD i default) r || (!makesB (l.getD i default) r && behindB (l.getD i default) x)
theorem liveS_mono (l : List Nd) (r : Int) : Mono (liveS l r) := fun x y i h hs => by
  unfold liveS behindB at *
  simp only [Bool.or_eq_true, Bool.and_eq_true] at *
  exact hs.imp id fun ⟨h1, h2⟩ => ⟨h1, h2.imp (fun ⟨a, b⟩ => ⟨a, h _ b⟩) fun ⟨a, b⟩ => ⟨a, h _ b⟩⟩
def Ways (l : List Nd) : Prop := ∀ (i : Nat) (n : Nd), l[i]? = some n → (n.op ≠ 12 → 0 ≤ n.t ∧ n.t < l.length) ∧ (n.op = 11 → 0 ≤ n.e ∧ n.e < l.length)
theorem Least.lv {l : List Nd} {r : Int} {x : List Bool} (h : Least (liveS l r) l.length x) (hw : Ways l) {i : Nat} (hi : i < l.length) : yn x i = true ↔ Lv l r i := by
  constructor
  · intro hx
    classical
    let z : List Bool := (List.range l.length).map fun j => decide (Lv l r (j : Nat))
    have hz : ∀ j : Nat, j < l.length → yn z j = decide (Lv l r (j : Int)) := fun j hj => by simp [z, yn, hj]
    have hc : Closed (liveS l r) l.length z := ⟨by simp [z], fun j hj hs => by
      rw [hz j hj, decide_eq_true_iff]
      have hn : l[j]? = some l[j] := List.getElem?_eq_getElem hj
      have hg : l.getD j default = l[j] := by rw [List.getD_eq_getElem?_getD, hn]; rfl
      unfold liveS at hs
      rw [hg] at hs
      obtain ⟨w1, w2⟩ := hw j _ hn
      simp only [Bool.or_eq_true, Bool.and_eq_true, Bool.not_eq_true', behindB, bne_iff_ne, beq_iff_eq] at hs
      rcases hs with hu | ⟨hm, ⟨ho, ht⟩ | ⟨ho, he⟩⟩
      · exact .use j _ hn hu
      · obtain ⟨a, b⟩ := w1 ho
        rw [hz _ (by omega), decide_eq_true_iff, Int.toNat_of_nonneg a] at ht
        exact .then_ j _ hn hm ho ht
      · obtain ⟨a, b⟩ := w2 ho
        rw [hz _ (by omega), decide_eq_true_iff, Int.toNat_of_nonneg a] at he
        exact .else_ j _ hn hm ho he⟩
    have := h.2.2 z hc i hx
    rwa [hz i hi, decide_eq_true_iff] at this
  · intro hl
    have key : ∀ j : Int, Lv l r j → yn x j.toNat = true := by
      intro j hj
      induction hj with
      | use k m hm hu =>
        have hk : k < l.length := (List.getElem?_eq_some_iff.1 hm).1
        have hg : l.getD k default = m := by rw [List.getD_eq_getElem?_getD, hm]; rfl
        have := h.1.2 k hk
        rw [show ((k : Int)).toNat = k by omega, this]
        unfold liveS usesB
        rw [hg, hu]; rfl
      | then_ k m hm hs hop _ ih =>
        have hk : k < l.length := (List.getElem?_eq_some_iff.1 hm).1
        have hg : l.getD k default = m := by rw [List.getD_eq_getElem?_getD, hm]; rfl
        have := h.1.2 k hk
        rw [show ((k : Int)).toNat = k by omega, this]
        unfold liveS makesB behindB
        rw [hg, hs, ih]
        simp [hop]
      | else_ k m hm hs hop _ ih =>
        have hk : k < l.length := (List.getElem?_eq_some_iff.1 hm).1
        have hg : l.getD k default = m := by rw [List.getD_eq_getElem?_getD, hm]; rfl
        have := h.1.2 k hk
        rw [show ((k : Int)).toNat = k by omega, this]
        unfold liveS makesB behindB
        rw [hg, hs, ih]
        simp [hop]
    have := key i hl
    rwa [show ((i : Int)).toNat = i by omega] at this
/-! Sets of registers, a bit each. -/
def bitsAt (r : Nat) (ats : List Nat) : List Bool := ats.map fun z => z.testBit r
theorem bitsAt_set (r k z : Nat) (ats : List Nat) : bitsAt r (ats.set k z) = (bitsAt r ats).set k (z.testBit r) := List.map_set
theorem yn_bitsAt (r k : Nat) (ats : List Nat) : yn (bitsAt r ats) k = (ats.getD k 0).testBit r := by
  unfold yn bitsAt
  rw [List.getD_eq_getElem?_getD, List.getD_eq_getElem?_getD, List.getElem?_map]
  cases ats[k]? <;> simp
theorem nat_le_of_bits {a b : Nat} (h : ∀ r, a.testBit r = true → b.testBit r = true) : a ≤ b := by
  have : a &&& b = a := Nat.eq_of_testBit_eq fun r => by
    rw [Nat.testBit_and]
    cases ha : a.testBit r with
    | true => rw [h r ha]; rfl
    | false => rfl
  rw [← this]
  exact Nat.and_le_right
def Bits (l : List Nd) (ats : List Nat) : Prop := ats.length = l.length ∧ (∀ z ∈ ats, z < 2 ^ 64) ∧ ∀ r : Nat, r < 64 → Post (liveS l r) l.length (bitsAt r ats) ∧ Under (liveS l r) l.length (bitsAt r ats)
theorem Bits.start (l : List Nd) : Bits l (List.replicate l.length 0) := by
  have h0 : ∀ r i, yn (bitsAt r (List.replicate l.length 0)) i = false := fun r i => by
    rw [yn_bitsAt]
    simp [List.getD_eq_getElem?_getD, List.getElem?_replicate]
    split <;> simp
  refine ⟨by simp, fun z hz => by rw [List.eq_of_mem_replicate hz]; decide, fun r _ => ?_⟩
  have := Turned.start (S := liveS l r) (n := l.length) (x := bitsAt r (List.replicate l.length 0)) (by simp [bitsAt]) (h0 r)
  exact ⟨this.1, this.2.1⟩
theorem Bits.put {l : List Nd} {ats : List Nat} (h : Bits l ats) {k z : Nat} (hk : k < l.length) (hz : z < 2 ^ 64) (hb : ∀ r : Nat, r < 64 → z.testBit r = liveS l r (bitsAt r ats) k) :
    Bits l (ats.set k z) ∧ ats.getD k 0 ≤ z := by
  obtain ⟨hl, hlt, hr⟩ := h
  refine ⟨⟨by simpa using hl, fun y hy => ?_, fun r h64 => ?_⟩, nat_le_of_bits fun r ht => ?_⟩
  · rcases List.mem_or_eq_of_mem_set hy with h | rfl
    · exact hlt y h
    · exact hz
  · rw [bitsAt_set, hb r h64]
    exact ⟨(hr r h64).1.put (liveS_mono l r) hk, (hr r h64).2.put (liveS_mono l r) hk⟩
  · by_cases h64 : r < 64
    · rw [hb r h64]
      exact (hr r h64).1.2 k hk (by rw [yn_bitsAt]; exact ht)
    · have hk' : k < ats.length := by omega
      have : ats.getD k 0 < 2 ^ r := Nat.lt_of_lt_of_le (by rw [List.getD_eq_getElem?_getD, List.getElem?_eq_getElem hk']; exact hlt _ (List.getElem_mem hk')) (Nat.pow_le_pow_right (by omega) (by omega))
      rw [Nat.testBit_lt_two_pow this] at ht
      cases ht
theorem Bits.done {l : List Nd} {ats : List Nat} (h : Bits l ats) (he : ∀ k r : Nat, k < l.length → r < 64 → (ats.getD k 0).testBit r = liveS l r (bitsAt r ats) k) {r : Nat} (h64 : r < 64) : Least (liveS l r) l.length (bitsAt r ats) :=
  ⟨⟨(h.2.2 r h64).1.1, fun i hi => by rw [yn_bitsAt]; exact he i r hi h64⟩, (h.2.2 r h64).2⟩
theorem sum_set {ats : List Nat} {k z : Nat} (hk : k < ats.length) : (ats.set k z).sum + ats.getD k 0 = ats.sum + z := by
  induction ats generalizing k with
  | nil => simp at hk
  | cons a ats ih =>
    cases k with
    | zero => simp; omega
    | succ k =>
      have := ih (k := k) (by simpa using hk)
      simp only [List.set_cons_succ, List.sum_cons, List.getD_cons_succ]
      omega
theorem sum_le {ats : List Nat} {b : Nat} (h : ∀ z ∈ ats, z ≤ b) : ats.sum ≤ ats.length * b := by
  induction ats with
  | nil => simp
  | cons a ats ih =>
    have h1 := h a (by simp)
    have h2 := ih fun z hz => h z (by simp [hz])
    simp only [List.sum_cons, List.length_cons, Nat.succ_mul]
    omega
end
section
open Go.RowKit
theorem u64_without (a b : Nat) (ha : a < 18446744073709551616) (hb : b < 18446744073709551616) : bits .andNot .u64 (a : Int) (b : Int) = ((a &&& (18446744073709551615 - b) : Nat) : Int) := by (
 have e : ∀ c : Nat, c < 18446744073709551616 → (BitVec.ofInt 64 (c : Int)).toNat = c := fun c hc => by (
 rw [BitVec.ofInt_natCast, BitVec.toNat_ofNat]; exact Nat.mod_eq_of_lt hc)
 have hx : a &&& (18446744073709551615 - b) ≤ a := Nat.and_le_left
 show IntKind.u64.wrap ((BitVec.ofInt 64 (a : Int) &&& ~~~ BitVec.ofInt 64 (b : Int)).toNat : Int) = _
 rw [BitVec.toNat_and, BitVec.toNat_not, e a ha, e b hb, IntKind.wrap_u64]
 have : 2 ^ 64 - 1 - b = 18446744073709551615 - b := by omega
 rw [this]
 omega)
theorem bit_without {b r : Nat} (hb : b < 18446744073709551616) (hr : r < 64) : (18446744073709551615 - b).testBit r = !b.testBit r := by (
 have := Nat.testBit_two_pow_sub_succ (n := 64) (x := b) (by omega) r
 rw [show 2 ^ 64 - (b + 1) = 18446744073709551615 - b by omega] at this
 rw [this]
 simp [hr])
theorem bit_one (k r : Nat) : (2 ^ k).testBit r = decide (k = r) := Nat.testBit_two_pow
end
section
open Go.RowKit
def usedN (n : Nd) : Nat := if hasB n.op = true then 2 ^ n.a.toNat ||| 2 ^ n.b.toNat else if hasA n.op = true then 2 ^ n.a.toNat else 0
def madeN (n : Nd) : Nat := if hasD n.op = true then 2 ^ n.d.toNat else 0
def behindN (n : Nd) (ats : List Nat) : Nat := if n.op = 12 then 0 else if n.op = 11 then ats.getD n.t.toNat 0 ||| ats.getD n.e.toNat 0 else ats.getD n.t.toNat 0
def newN (n : Nd) (ats : List Nat) : Nat := usedN n ||| (behindN n ats &&& (18446744073709551615 - madeN n))
def Regs64 (n : Nd) : Prop := (hasD n.op = true → 0 ≤ n.d ∧ n.d < 64) ∧ (hasA n.op = true → 0 ≤ n.a ∧ n.a < 64) ∧ (hasB n.op = true → 0 ≤ n.b ∧ n.b < 64)
theorem Right.regs64 {regs : Int} {l : List Nd} (h : Right regs l) {n : Nd} (hn : n ∈ l) : Regs64 n := by
  have h1 := h.rng n hn
  have hr := h.rhi
  simp only [badR, Bool.or_eq_false_iff, Bool.not_eq_false'] at h1
  obtain ⟨⟨⟨⟨h2, h3⟩, h4⟩, _⟩, _⟩ := h1
  refine ⟨fun hh => ?_, fun hh => ?_, fun hh => ?_⟩
  · simp [okR, hh] at h2; omega
  · simp [okR, hh] at h3; omega
  · simp [okR, hh] at h4; omega
theorem two_pow_lt {k : Nat} (h : k < 64) : 2 ^ k < 18446744073709551616 := by
  have : 2 ^ k < 2 ^ 64 := Nat.pow_lt_pow_right (by omega) h
  simpa using this
theorem or_lt {a b : Nat} (ha : a < 18446744073709551616) (hb : b < 18446744073709551616) : a ||| b < 18446744073709551616 := by
  have := Nat.or_lt_two_pow (x := a) (y := b) (n := 64) (by simpa using ha) (by simpa using hb)
  simpa using this
theorem usedN_lt {n : Nd} (h : Regs64 n) : usedN n < 18446744073709551616 := by
  obtain ⟨_, h2, h3⟩ := h
  unfold usedN
  split
  · rename_i hb
    have ha : hasA n.op = true := by simp [hasB, hasA, inB] at *; omega
    exact or_lt (two_pow_lt (by have := h2 ha; omega)) (two_pow_lt (by have := h3 hb; omega))
  · split
    · rename_i ha
      exact two_pow_lt (by have := h2 ha; omega)
    · omega
theorem madeN_lt {n : Nd} (h : Regs64 n) : madeN n < 18446744073709551616 := by
  unfold madeN
  split
  · rename_i hd; exact two_pow_lt (by have := h.1 hd; omega)
  · omega
theorem getD_lt {ats : List Nat} (h : ∀ z ∈ ats, z < 2 ^ 64) (k : Nat) : ats.getD k 0 < 18446744073709551616 := by
  rw [List.getD_eq_getElem?_getD]
  rcases hk : ats[k]? with _ | z
  · simp
  · have := h z (List.mem_of_getElem? hk)
    simpa using this
theorem behindN_lt {n : Nd} {ats : List Nat} (h : ∀ z ∈ ats, z < 2 ^ 64) : behindN n ats < 18446744073709551616 := by
  unfold behindN
  split
  · omega
  · split
    · exact or_lt (getD_lt h _) (getD_lt h _)
    · exact getD_lt h _
theorem newN_lt {n : Nd} {ats : List Nat} (hn : Regs64 n) (h : ∀ z ∈ ats, z < 2 ^ 64) : newN n ats < 18446744073709551616 :=
  or_lt (usedN_lt hn) (Nat.lt_of_le_of_lt Nat.and_le_left (behindN_lt h))
theorem bit_of {z : Int} {r : Nat} (h : 0 ≤ z) : (2 ^ z.toNat).testBit r = (z == (r : Int)) := by
  rw [bit_one, Bool.eq_iff_iff, decide_eq_true_iff, beq_iff_eq]
  omega
theorem newN_bit {n : Nd} {ats : List Nat} (hn : Regs64 n) {r : Nat} (hr : r < 64) :
    (newN n ats).testBit r = (usesB n r || (!makesB n r && behindB n (bitsAt r ats))) := by
  have hu : (usedN n).testBit r = usesB n r := by
    obtain ⟨_, h2, h3⟩ := hn
    unfold usedN usesB
    split
    · rename_i hb
      have ha : hasA n.op = true := by simp [hasB, hasA, inB] at *; omega
      rw [Nat.testBit_or, bit_of (h2 ha).1, bit_of (h3 hb).1, ha, hb]
      simp
    · rename_i hb
      have hb' : hasB n.op = false := by simpa using hb
      split
      · rename_i ha
        rw [bit_of (h2 ha).1, ha, hb']
        simp
      · rename_i ha
        have ha' : hasA n.op = false := by simpa using ha
        rw [ha', hb']
        simp
  have hm : (madeN n).testBit r = makesB n r := by
    unfold madeN makesB
    split
    · rename_i hd
      rw [bit_of (hn.1 hd).1, hd]
      simp
    · rename_i hd
      have hd' : hasD n.op = false := by simpa using hd
      rw [hd']
      simp
  have hb : (behindN n ats).testBit r = behindB n (bitsAt r ats) := by
    unfold behindN behindB
    by_cases h12 : n.op = 12
    · simp [h12]
    · rw [if_neg h12]
      by_cases h11 : n.op = 11
      · rw [if_pos h11, Nat.testBit_or, yn_bitsAt, yn_bitsAt]
        simp [h11]
      · have e1 : (n.op != 12) = true := by simp [h12]
        have e2 : (n.op == 11) = false := by simp [h11]
        rw [if_neg h11, yn_bitsAt, e1, e2]
        simp
  unfold newN
  rw [Nat.testBit_or, Nat.testBit_and, hu, hb, bit_without (madeN_lt hn) hr, hm]
  cases usesB n r <;> cases makesB n r <;> cases behindB n (bitsAt r ats) <;> rfl
def u64s (l : List Nat) : List Value := l.map fun (z : Nat) => .int .u64 (z : Int)
theorem u64s_length (l : List Nat) : (u64s l).length = l.length := List.length_map _
theorem u64s_get (a : List Nat) (k : Nat) : (u64s a)[k]? = a[k]?.map fun (z : Nat) => .int .u64 (z : Int) := List.getElem?_map
theorem u64s_set (x : List Nat) (k z : Nat) : (u64s x).set k (.int .u64 (z : Int)) = u64s (x.set k z) := (List.map_set).symm
theorem ValsAt.u64 {w : World} {A : Option Addr} {l : List Nat} (h : ValsAt w A (u64s l)) {k : Nat} (hk : k < l.length) :
    ∃ b off, A = some ⟨b, off, none⟩ ∧ b < w.heap.size ∧ w.cell? ⟨b, off + k, none⟩ = some (.int .u64 ((l.getD k 0 : Nat) : Int)) := by
  obtain ⟨b, off, v, e, hb, hv, hc⟩ := h.get (k := k) (by rw [u64s_length]; exact hk)
  rw [u64s_get, List.getElem?_eq_getElem hk] at hv
  simp at hv
  subst hv
  exact ⟨b, off, e, hb, by rw [hc]; simp [hk]⟩
theorem Row.u64 {w : World} {B : Nat} {e : TypeId} {v : Value} {x : List Nat} (h : Row w B e v (u64s x)) {k : Nat} (hk : k < x.length) :
    ∃ g o cap, v = .slice (some ⟨g, o, none⟩) x.length cap ∧ B ≤ g ∧ g < w.heap.size ∧ w.cell? ⟨g, o + k, none⟩ = some (.int .u64 ((x.getD k 0 : Nat) : Int)) ∧ w.frozen? ⟨g, o + k, none⟩ = false := by
  obtain ⟨g, o, cap, u, e1, hb, hl, hu, hc, hf⟩ := h.get (k := k) (by rw [u64s_length]; exact hk)
  rw [u64s_get, List.getElem?_eq_getElem hk] at hu
  simp at hu
  subst hu
  rw [u64s_length] at e1
  exact ⟨g, o, cap, e1, hb, hl, by rw [hc]; simp [hk], hf⟩
end
section
open Go.RowKit
def lvx (l : List Nd) (r : Nat) : List Bool := leastL (liveS l r) l.length
theorem lvx_least (l : List Nd) (r : Nat) : Least (liveS l r) l.length (lvx l r) := leastL_least (liveS_mono l r) l.length
def liveL (regs : Nat) (l : List Nd) (i : Nat) : List Int := sel (fun r => yn (lvx l r) i) regs
def regsOf (z : Nat) : List Int := sel (fun r => z.testBit r) 64
end
section
open Go.RowKit
theorem Right.ways {regs : Int} {l : List Nd} (h : Right regs l) : Ways l := fun i n hn =>
  ⟨fun h12 => by have := h.then_ (List.mem_of_getElem? hn) h12; omega, fun h11 => by have := h.else_ (List.mem_of_getElem? hn) h11; omega⟩
theorem Right.set {regs : Int} {l : List Nd} (h : Right regs l) (i : Nat) {n : Nd} (h1 : opOk n.op = true) (h2 : badR regs l.length n = false) (h3 : badF n = false) : Right regs (l.set i n) := by
  refine ⟨by simpa using h.lo, by simpa using h.hi, h.rlo, h.rhi, fun m hm => ?_, fun m hm => ?_, fun m hm => ?_⟩
  · rcases List.mem_or_eq_of_mem_set hm with h' | rfl
    · exact h.ok m h'
    · exact h1
  · rw [List.length_set]
    rcases List.mem_or_eq_of_mem_set hm with h' | rfl
    · exact h.rng m h'
    · exact h2
  · rcases List.mem_or_eq_of_mem_set hm with h' | rfl
    · exact h.frm m h'
    · exact h3
theorem hushAt_eq {l : List Nd} {i : Nat} {n : Nd} (hn : l[i]? = some n) : hushAt l i = l.set i (hush n) := by
  unfold hushAt
  rw [List.getD_eq_getElem?_getD, hn]
  rfl
theorem Right.hush {regs : Int} {l : List Nd} (h : Right regs l) {i : Nat} {n : Nd} (hn : l[i]? = some n) (h12 : n.op ≠ 12) : Right regs (hushAt l i) := by
  rw [hushAt_eq hn]
  have ht := h.then_ (List.mem_of_getElem? hn) h12
  refine h.set i (by simp [Go.Proofs.YtmghkonmfbpjcaaGreatDoor.hush, opOk, inB]) ?_ ?_
  · simp [badR, Go.Proofs.YtmghkonmfbpjcaaGreatDoor.hush, okR, okN, hasD, hasA, hasB, hasE, shT, opOk, inB]
    exact ⟨decide_eq_true (by omega), decide_eq_true (by omega)⟩
  · simp [badF, Go.Proofs.YtmghkonmfbpjcaaGreatDoor.hush, okF, shT, opOk, inB]
def busyN (l : List Nd) : Nat := l.countP fun n => n.op != 0
theorem busyN_hush {l : List Nd} {i : Nat} {n : Nd} (hn : l[i]? = some n) (h0 : n.op ≠ 0) : busyN (hushAt l i) < busyN l := by
  rw [hushAt_eq hn]
  have hi : i < l.length := (List.getElem?_eq_some_iff.1 hn).1
  have he : l[i] = n := (List.getElem?_eq_some_iff.1 hn).2
  unfold busyN
  rw [List.countP_set (h := hi)]
  have h1 : (l[i].op != 0) = true := by rw [he]; simpa using h0
  have h2 : 0 < l.countP fun n => n.op != 0 := List.countP_pos_iff.2 ⟨l[i], List.getElem_mem hi, h1⟩
  have h3 : ((Go.Proofs.YtmghkonmfbpjcaaGreatDoor.hush n).op != 0) = false := by simp [Go.Proofs.YtmghkonmfbpjcaaGreatDoor.hush]
  simp only [h1, h3]
  simp
  omega
theorem hushAt_len (l : List Nd) (i : Nat) : (hushAt l i).length = l.length := by simp [hushAt]
theorem bit_zero_iff {x d : Nat} : (((x &&& 2 ^ d : Nat) : Int) == 0) = !x.testBit d := by
  rw [Bool.eq_iff_iff]
  simp only [beq_iff_eq, Bool.not_eq_true', Int.natCast_eq_zero]
  constructor
  · intro h
    have := congrArg (fun z => z.testBit d) h
    simpa [Nat.testBit_and, bit_one] using this
  · intro h
    refine Nat.eq_of_testBit_eq fun r => ?_
    rw [Nat.testBit_and, bit_one, Nat.zero_testBit]
    by_cases hr : d = r
    · subst hr; simp [h]
    · simp [hr]
def deadX (l : List Nd) (n : Nd) : Bool := (decide (1 ≤ n.op) && decide (n.op ≤ 8)) && !yn (lvx l n.d.toNat) n.t.toNat
theorem deadX_iff {regs : Int} {l : List Nd} (hR : Right regs l) {i : Nat} {n : Nd} (hn : l[i]? = some n) : deadX l n = true ↔ DeadN l i := by
  have hm := List.mem_of_getElem? hn
  have hreg := hR.regs64 hm
  unfold deadX
  simp only [Bool.and_eq_true, decide_eq_true_iff, Bool.not_eq_true']
  constructor
  · rintro ⟨⟨h1, h8⟩, hy⟩
    refine ⟨n, hn, h1, h8, fun hlv => ?_⟩
    have hd := hreg.1 (by simp [hasD, inB]; omega)
    have ht := hR.then_ hm (by omega)
    have := (Least.lv (lvx_least l n.d.toNat) hR.ways (i := n.t.toNat) (by omega)).2 (by rw [Int.toNat_of_nonneg hd.1, Int.toNat_of_nonneg (by omega)]; exact hlv)
    rw [hy] at this
    cases this
  · rintro ⟨m, hm', h1, h8, hlv⟩
    rw [hn] at hm'
    injection hm' with hm'
    subst hm'
    have hd := hreg.1 (by simp [hasD, inB]; omega)
    have ht := hR.then_ hm (by omega)
    refine ⟨⟨h1, h8⟩, ?_⟩
    cases hy : yn (lvx l n.d.toNat) n.t.toNat with
    | false => rfl
    | true =>
      have := (Least.lv (lvx_least l n.d.toNat) hR.ways (i := n.t.toNat) (by omega)).1 hy
      rw [Int.toNat_of_nonneg hd.1, Int.toNat_of_nonneg (by omega)] at this
      exact absurd this hlv
def DeadIs (l l' : List Nd) : Prop := Hushes l l' ∧ ∀ i, ¬ DeadN l' i
theorem DeadIs.unique {l a b : List Nd} (ha : DeadIs l a) (hb : DeadIs l b) : a = b := Hushes.unique ha.1 ha.2 hb.1 hb.2
theorem not_dead {regs : Int} {l : List Nd} (hR : Right regs l) (h : ∀ n ∈ l, deadX l n = false) (i : Nat) : ¬ DeadN l i := fun hd => by
  obtain ⟨n, hn, _⟩ := id hd
  have := (deadX_iff hR hn).2 hd
  rw [h n (List.mem_of_getElem? hn)] at this
  cases this
structure Hushing (regs : Int) (l l0 l1 : List Nd) (n : Nat) (c : Bool) : Prop where
  right : Right regs l1
  len : l1.length = l.length
  hush : Hushes l l1
  same : ∀ j, n ≤ j → l1[j]? = l0[j]?
  dead : ∀ j, n ≤ j → DeadN l0 j → DeadN l1 j
  idle : c = false → l1 = l0 ∧ ∀ j, j < n → ¬ DeadN l0 j
  busy : c = true → busyN l1 < busyN l0
  le : busyN l1 ≤ busyN l0
end
section
open Go.RowKit
theorem rg_set {r : List Int} {N d k v : Int} (hl : r.length = N.toNat) (hd : 0 ≤ d ∧ d < N) (hk : 0 ≤ k) : rg (r.set d.toNat v) k = if k = d then v else rg r k := by
  have h1 : d.toNat < r.length := by omega
  unfold rg
  rw [List.getD_eq_getElem?_getD, List.getElem?_set, List.getD_eq_getElem?_getD]
  by_cases h : k = d
  · subst h; simp [h1]
  · rw [if_neg (by omega), if_neg h]
structure Agree (regs : Int) (l : List Nd) (s t : Rn) : Prop where
  sl : s.regs.length = regs.toNat
  tl : t.regs.length = regs.toNat
  read : s.read = t.read
  out : s.out = t.out
  ret : s.ret = t.ret
  ended : s.ended = t.ended
  rgs : s.ended = false → ∀ k : Int, 0 ≤ k → k < regs → Lv l k s.pos → rg s.regs k = rg t.regs k
theorem Right.d_in {regs : Int} {l : List Nd} (h : Right regs l) {n : Nd} (hn : n ∈ l) (hd : hasD n.op = true) : 0 ≤ n.d ∧ n.d < regs := by
  have h1 := h.rng n hn
  simp only [badR, Bool.or_eq_false_iff, Bool.not_eq_false'] at h1
  simpa [okR, hd] using h1.1.1.1.1
theorem Right.a_in {regs : Int} {l : List Nd} (h : Right regs l) {n : Nd} (hn : n ∈ l) (ha : hasA n.op = true) : 0 ≤ n.a ∧ n.a < regs := by
  have h1 := h.rng n hn
  simp only [badR, Bool.or_eq_false_iff, Bool.not_eq_false'] at h1
  simpa [okR, ha] using h1.1.1.1.2
theorem Right.b_in {regs : Int} {l : List Nd} (h : Right regs l) {n : Nd} (hn : n ∈ l) (hb : hasB n.op = true) : 0 ≤ n.b ∧ n.b < regs := by
  have h1 := h.rng n hn
  simp only [badR, Bool.or_eq_false_iff, Bool.not_eq_false'] at h1
  simpa [okR, hb] using h1.1.1.2
theorem Agree.step {regs : Int} {l m : List Nd} {inp : List Int} {s t : Rn} {n : Nd} (hR : Right regs l) (h : Agree regs l s t) (hn : l[s.pos]? = some n) (hm : nd m t.pos = n) (he : s.ended = false) :
    Agree regs l (stepR l inp s) (stepR m inp t) ∧ (stepR l inp s).pos = (stepR m inp t).pos ∧ ∃ x, (stepR l inp s).ts = s.ts ++ x ∧ (stepR m inp t).ts = t.ts ++ x := by
  have hmem := List.mem_of_getElem? hn
  have hnd : nd l s.pos = n := nd_get hn
  have rgs := h.rgs he
  have ua : hasA n.op = true → rg t.regs n.a = rg s.regs n.a := fun ha => by
    obtain ⟨a0, a1⟩ := hR.a_in hmem ha
    exact (rgs n.a a0 a1 (.use s.pos n hn (by simp [ha]))).symm
  have ub : hasB n.op = true → rg t.regs n.b = rg s.regs n.b := fun hb => by
    obtain ⟨a0, a1⟩ := hR.b_in hmem hb
    exact (rgs n.b a0 a1 (.use s.pos n hn (by simp [hb]))).symm
  have ht : n.op ≠ 12 → ((n.t.toNat : Nat) : Int) = n.t := fun h12 => by have := hR.then_ hmem h12; omega
  have hput : hasD n.op = true → ∀ v k : Int, 0 ≤ k → k < regs → Lv l k (n.t.toNat : Nat) → rg (s.regs.set n.d.toNat v) k = rg (t.regs.set n.d.toNat v) k := fun hd v k h0 h1 hl => by
    have hdi := hR.d_in hmem hd
    have h12 : n.op ≠ 12 := fun e => by rw [e] at hd; exact absurd hd (by decide)
    rw [rg_set h.sl hdi h0, rg_set h.tl hdi h0]
    by_cases hk : k = n.d
    · rw [if_pos hk, if_pos hk]
    · rw [if_neg hk, if_neg hk]
      rw [ht h12] at hl
      exact rgs k h0 h1 (.then_ s.pos n hn (by rw [beq_eq_false_iff_ne.2 (fun e => hk e.symm), Bool.and_false]) h12 hl)
  have hkeep : hasD n.op = false → n.op ≠ 12 → ∀ k : Int, 0 ≤ k → k < regs → Lv l k (n.t.toNat : Nat) → rg s.regs k = rg t.regs k := fun hd h12 k h0 h1 hl => by
    rw [ht h12] at hl
    exact rgs k h0 h1 (.then_ s.pos n hn (by rw [hd, Bool.false_and]) h12 hl)
  have helse : n.op = 11 → ∀ k : Int, 0 ≤ k → k < regs → Lv l k (n.e.toNat : Nat) → rg s.regs k = rg t.regs k := fun h11 k h0 h1 hl => by
    have := hR.else_ hmem h11
    rw [show ((n.e.toNat : Nat) : Int) = n.e by omega] at hl
    exact rgs k h0 h1 (.else_ s.pos n hn (by rw [h11]; rfl) h11 hl)
  unfold stepR
  simp only [hnd, hm, ← h.read]
  split
  · rename_i h1
    exact ⟨⟨by simpa using h.sl, by simpa using h.tl, rfl, h.out, h.ret, h.ended, fun _ => hput (by rw [h1]; rfl) _⟩, rfl, [], by simp, by simp⟩
  split
  · rename_i h1
    rw [ua (by rw [h1]; rfl)]
    exact ⟨⟨by simpa using h.sl, by simpa using h.tl, rfl, h.out, h.ret, h.ended, fun _ => hput (by rw [h1]; rfl) _⟩, rfl, [], by simp, by simp⟩
  split
  · rename_i hB
    have hb : inB n.op 3 8 = true := hB
    have hA : hasA n.op = true := by simp [hasA, inB] at hb ⊢; omega
    have hD : hasD n.op = true := by simp [hasD, inB] at hb ⊢; omega
    rw [ua hA, ub hB]
    exact ⟨⟨by simpa using h.sl, by simpa using h.tl, rfl, h.out, h.ret, h.ended, fun _ => hput hD _⟩, rfl, [n.tm], rfl, rfl⟩
  split
  · rename_i h9
    have hD : hasD n.op = true := by rw [h9]; rfl
    split
    · exact ⟨⟨by simpa using h.sl, by simpa using h.tl, rfl, h.out, h.ret, h.ended, fun _ => hput hD _⟩, rfl, [], by simp, by simp⟩
    · exact ⟨⟨by simpa using h.sl, by simpa using h.tl, rfl, h.out, h.ret, h.ended, fun _ => hput hD _⟩, rfl, [], by simp, by simp⟩
  split
  · rename_i h10
    rw [ua (by rw [h10]; rfl)]
    exact ⟨⟨h.sl, h.tl, rfl, by show s.out ++ _ = t.out ++ _; rw [h.out], h.ret, h.ended, fun _ => hkeep (by rw [h10]; rfl) (by omega)⟩, rfl, [], by simp, by simp⟩
  split
  · rename_i h11
    rw [ua (by rw [h11]; rfl)]
    split
    · exact ⟨⟨h.sl, h.tl, rfl, h.out, h.ret, h.ended, fun _ => helse h11⟩, rfl, [], by simp, by simp⟩
    · exact ⟨⟨h.sl, h.tl, rfl, h.out, h.ret, h.ended, fun _ => hkeep (by rw [h11]; rfl) (by omega)⟩, rfl, [], by simp, by simp⟩
  split
  · rename_i h12
    rw [ua (by rw [h12]; rfl)]
    exact ⟨⟨h.sl, h.tl, rfl, h.out, rfl, rfl, fun e => absurd e (by simp)⟩, rfl, [], by simp, by simp⟩
  · rename_i h1 h2 hB h9 h10 h11 h12
    have hD : hasD n.op = false := by
      have : ¬ (3 ≤ n.op ∧ n.op ≤ 8) := fun e => hB (by show inB n.op 3 8 = true; simp [inB]; exact e)
      simp [hasD, inB]; omega
    exact ⟨⟨h.sl, h.tl, rfl, h.out, h.ret, h.ended, fun _ => hkeep hD h12⟩, rfl, [], by simp, by simp⟩
def lessL (l : List Nd) (r v : Int) : List Nd := (l ++ [nd l 0]).set 0 ⟨1, r, v, 0, (l.length : Int), 0⟩
structure Less (regs : Int) (l : List Nd) (inp : List Int) (s t : Rn) : Prop where
  agree : Agree regs l s t
  ts : s.ts = t.ts
  ok : RnOk regs l inp s
  pos : s.ended = false → t.pos = s.pos ∧ 0 < s.pos ∨ s.pos = 0 ∧ t.pos = l.length
end
section
open Go.RowKit
structure Hushed (regs : Int) (l : List Nd) (inp : List Int) (s t : Rn) : Prop where
  agree : Agree regs l s t
  pos : s.ended = false → t.pos = s.pos
  steps : s.steps = t.steps
  cnt : ∀ v, t.ts.count v ≤ s.ts.count v
  ok : RnOk regs l inp s
theorem Hushed.step {regs : Int} {l : List Nd} {inp : List Int} {i : Nat} {s t : Rn} (hR : Right regs l) (hd : DeadN l i) (h : Hushed regs l inp s t) (he : s.ended = false) : Hushed regs l inp (stepR l inp s) (stepR (hushAt l i) inp t) := by
  have hp := h.ok.pos
  have htp := h.pos he
  obtain ⟨m, hm, h1, h8, hlv⟩ := hd
  have hg : l[s.pos]? = some (nd l s.pos) := by rw [nd, List.getD_eq_getElem?_getD, List.getElem?_eq_getElem hp]; rfl
  by_cases hi : s.pos = i
  · rw [hi, hm] at hg
    injection hg with hg
    have hmem := List.mem_of_getElem? hm
    have hD : hasD m.op = true := by simp [hasD, inB]; omega
    have h12 : m.op ≠ 12 := by omega
    have hdi := hR.d_in hmem hD
    have hT := hR.then_ hmem h12
    have ht : nd (hushAt l i) t.pos = ⟨0, 0, 0, 0, m.t, 0⟩ := nd_get (by rw [htp, hi, hushAt_get hm, if_pos rfl]; rfl)
    have hst : stepR (hushAt l i) inp t = { t with steps := t.steps + 1, pos := m.t.toNat } := by
      unfold stepR
      rw [ht]
      rfl
    have hss : ∃ v x, stepR l inp s = { s with steps := s.steps + 1, pos := m.t.toNat, regs := s.regs.set m.d.toNat v, ts := s.ts ++ x } := by
      unfold stepR
      simp only [hi, ← hg]
      have h3 : m.op = 1 ∨ m.op = 2 ∨ hasB m.op = true := by simp [hasB, inB]; omega
      rcases h3 with h3 | h3 | h3
      · rw [if_pos h3]; exact ⟨m.a, [], by simp⟩
      · rw [if_neg (by omega), if_pos h3]; exact ⟨rg s.regs m.a, [], by simp⟩
      · have hb : inB m.op 3 8 = true := h3
        simp only [inB, Bool.and_eq_true, decide_eq_true_eq] at hb
        rw [if_neg (by omega), if_neg (by omega), if_pos h3]; exact ⟨_, [m.tm], rfl⟩
    have hok := h.ok.step (inp := inp) hR
    obtain ⟨v, x, hss⟩ := hss
    rw [hss] at hok ⊢
    rw [hst]
    refine ⟨⟨by simpa using h.agree.sl, h.agree.tl, h.agree.read, h.agree.out, h.agree.ret, h.agree.ended, fun _ k h0 hk hl => ?_⟩, fun _ => rfl, by show s.steps + 1 = t.steps + 1; rw [h.steps], fun u => ?_, hok⟩
    · have hl : Lv l k ((m.t.toNat : Nat) : Int) := hl
      rw [Int.toNat_of_nonneg (by omega)] at hl
      have hne : k ≠ m.d := fun e => hlv (e ▸ hl)
      show rg (s.regs.set m.d.toNat v) k = rg t.regs k
      rw [rg_set h.agree.sl hdi h0, if_neg hne]
      exact h.agree.rgs he k h0 hk (by rw [hi]; exact .then_ i m hm (by rw [beq_eq_false_iff_ne.2 (fun e => hne e.symm), Bool.and_false]) h12 hl)
    · show t.ts.count u ≤ (s.ts ++ x).count u
      have := h.cnt u
      rw [List.count_append]
      omega
  · have hmn : nd (hushAt l i) t.pos = nd l s.pos := nd_get (by rw [htp, hushAt_get hm, if_neg hi]; exact hg)
    obtain ⟨a1, a2, x, a3, a4⟩ := h.agree.step (inp := inp) hR hg hmn he
    exact ⟨a1, fun _ => a2.symm, by rw [stepR_steps, stepR_steps, h.steps], fun u => by rw [a3, a4, List.count_append, List.count_append]; have := h.cnt u; omega, h.ok.step hR⟩
theorem Hushed.go {regs : Int} {l : List Nd} {inp : List Int} {i : Nat} (hR : Right regs l) (hd : DeadN l i) : ∀ (k : Nat) {s t : Rn}, Hushed regs l inp s t → Hushed regs l inp (goR l inp k s) (goR (hushAt l i) inp k t)
  | 0, s, t, h => h
  | k + 1, s, t, h => by
    by_cases he : s.ended = true
    · rw [goR_ended he, goR_ended (by rw [← h.agree.ended]; exact he)]
      exact h
    · have he : s.ended = false := by simpa using he
      rw [goR_step he, goR_step (by rw [← h.agree.ended]; exact he)]
      exact Hushed.go hR hd k (h.step hR hd he)
theorem Hushed.start {regs : Int} {l : List Nd} {inp : List Int} (hR : Right regs l) : Hushed regs l inp (startR regs) (startR regs) :=
  ⟨⟨by simp [startR], by simp [startR], rfl, rfl, rfl, rfl, fun _ _ _ _ _ => rfl⟩, fun _ => rfl, rfl, fun _ => Nat.le_refl _, RnOk.start hR⟩
structure HushRun (a b : Rn) : Prop where
  out : b.out = a.out
  ret : b.ret = a.ret
  ended : b.ended = a.ended
  steps : b.steps = a.steps
  cnt : ∀ v, b.ts.count v ≤ a.ts.count v
theorem run_hush {regs : Int} {inp : List Int} {l l' : List Nd} (h : Hushes l l') (hR : Right regs l) (n : Nat) : Right regs l' ∧ l'.length = l.length ∧ HushRun (runR regs l inp n) (runR regs l' inp n) := by
  induction h with
  | nil l => exact ⟨hR, rfl, rfl, rfl, rfl, rfl, fun v => Nat.le_refl _⟩
  | one l l' i hd _ ih =>
    obtain ⟨m, hm, h1, h8, _⟩ := id hd
    obtain ⟨a, b, c⟩ := ih (hR.hush hm (by omega))
    have h := Hushed.go (inp := inp) hR hd n (Hushed.start hR)
    exact ⟨a, b.trans (hushAt_len l i), c.out.trans h.agree.out.symm, c.ret.trans h.agree.ret.symm, c.ended.trans h.agree.ended.symm, c.steps.trans h.steps.symm, fun v => Nat.le_trans (c.cnt v) (h.cnt v)⟩
end
section
theorem allGo_right : ∀ (ts : List Tm) {r : Int} {l : List Nd}, Right r l → (allGo ts r l).1 = 0 → Right (allGo ts r l).2.1 (allGo ts r l).2.2
  | [], r, l, hR, h => hR
  | t :: ts, r, l, hR, h => by
    unfold allGo at h ⊢
    by_cases h0 : oneE r l t = 0
    · rw [if_neg (by simp [h0])] at h ⊢
      exact allGo_right ts (One.right h0) h
    · rw [if_pos h0] at h
      exact absurd h h0
def PassIs (n r : Int) (l : List Nd) (c r' : Int) (l' : List Nd) : Prop :=
  (n = 1 ∧ ((256 < (splitL l).length ∧ c = 2 ∧ r' = 0 ∧ l' = []) ∨ ((splitL l).length ≤ 256 ∧ c = 0 ∧ r' = r ∧ l' = splitL l))) ∨
  (n = 2 ∧ ((allE r l ≠ 0 ∧ c = allE r l ∧ r' = 0 ∧ l' = []) ∨ (allE r l = 0 ∧ c = 0 ∧ r' = (allGo (allT l) r l).2.1 ∧ l' = (allGo (allT l) r l).2.2))) ∨
  (n = 3 ∧ c = 0 ∧ r' = r ∧ DeadIs l l') ∨ (n = 4 ∧ c = 0 ∧ r' = r ∧ l' = trimL l)
theorem PassIs.right {n r : Int} {l : List Nd} {r' : Int} {l' : List Nd} (h : PassIs n r l 0 r' l') (hR : Right r l) : Right r' l' := by
  rcases h with ⟨_, ⟨_, h, _⟩ | ⟨h1, _, rfl, rfl⟩⟩ | ⟨_, ⟨h1, h2, _⟩ | ⟨h1, _, rfl, rfl⟩⟩ | ⟨_, _, rfl, h⟩ | ⟨_, _, rfl, rfl⟩
  · cases h
  · exact hR.split h1
  · exact absurd h2.symm h1
  · refine allGo_right _ hR ?_
    unfold allE at h1
    rw [if_neg (by rw [hR.chk]; simp)] at h1
    exact h1
  · exact (run_hush (inp := []) h.1 hR 0).1
  · exact hR.trim
theorem PassIs.same {n r : Int} {l : List Nd} {c1 r1 c2 r2 : Int} {l1 l2 : List Nd} (h : PassIs n r l c1 r1 l1) (h' : PassIs n r l c2 r2 l2) : c1 = c2 ∧ r1 = r2 ∧ l1 = l2 := by
  rcases h with ⟨e, h⟩ | ⟨e, h⟩ | ⟨e, h1, h2, h3⟩ | ⟨e, h1, h2, h3⟩ <;> rcases h' with ⟨e', h'⟩ | ⟨e', h'⟩ | ⟨e', h1', h2', h3'⟩ | ⟨e', h1', h2', h3'⟩ <;> try (exfalso; omega)
  · rcases h with ⟨a, b, c, d⟩ | ⟨a, b, c, d⟩ <;> rcases h' with ⟨a', b', c', d'⟩ | ⟨a', b', c', d'⟩
    · exact ⟨b.trans b'.symm, c.trans c'.symm, d.trans d'.symm⟩
    · omega
    · omega
    · exact ⟨b.trans b'.symm, c.trans c'.symm, d.trans d'.symm⟩
  · rcases h with ⟨a, b, c, d⟩ | ⟨a, b, c, d⟩ <;> rcases h' with ⟨a', b', c', d'⟩ | ⟨a', b', c', d'⟩
    · exact ⟨b.trans b'.symm, c.trans c'.symm, d.trans d'.symm⟩
    · exact absurd a' a
    · exact absurd a a'
    · exact ⟨b.trans b'.symm, c.trans c'.symm, d.trans d'.symm⟩
  · exact ⟨h1.trans h1'.symm, h2.trans h2'.symm, h3.unique h3'⟩
  · exact ⟨h1.trans h1'.symm, h2.trans h2'.symm, h3.trans h3'.symm⟩
theorem PassIs.no {n r : Int} {l : List Nd} {c r' : Int} {l' : List Nd} (h : PassIs n r l c r' l') (hc : c ≠ 0) : r' = 0 ∧ l' = [] := by
  rcases h with ⟨e, ⟨_, _, h1, h2⟩ | ⟨_, h, _⟩⟩ | ⟨e, ⟨_, _, h1, h2⟩ | ⟨_, h, _⟩⟩ | ⟨e, h, _⟩ | ⟨e, h, _⟩
  · exact ⟨h1, h2⟩
  · exact absurd h hc
  · exact ⟨h1, h2⟩
  · exact absurd h hc
  · exact absurd h hc
  · exact absurd h hc
inductive Psq : List Int → Int → List Nd → Int → Int → List Nd → Prop
  | nil {r : Int} {l : List Nd} : Psq [] r l 0 r l
  | bad {n : Int} {ns : List Int} {r : Int} {l : List Nd} {c : Int} : PassIs n r l c 0 [] → c ≠ 0 → Psq (n :: ns) r l c 0 []
  | next {n : Int} {ns : List Int} {r : Int} {l : List Nd} {r1 : Int} {l1 : List Nd} {c r2 : Int} {l2 : List Nd} : PassIs n r l 0 r1 l1 → Psq ns r1 l1 c r2 l2 → Psq (n :: ns) r l c r2 l2
theorem Psq.same {ns : List Int} {r : Int} {l : List Nd} {c1 r1 c2 r2 : Int} {l1 l2 : List Nd} (h : Psq ns r l c1 r1 l1) : Psq ns r l c2 r2 l2 → c1 = c2 ∧ r1 = r2 ∧ l1 = l2 := by
  induction h generalizing c2 r2 l2 with
  | nil => intro h; cases h; exact ⟨rfl, rfl, rfl⟩
  | bad h hc =>
    intro h'
    cases h' with
    | bad h1 hc1 => exact h.same h1
    | next h1 h2 => exact absurd (h.same h1).1 hc
  | next h h2 ih =>
    intro h'
    cases h' with
    | bad h1 hc1 => exact absurd (h1.same h).1 hc1
    | next h1 h3 =>
      obtain ⟨_, e1, e2⟩ := h.same h1
      subst e1 e2
      exact ih h3
theorem Psq.right {ns : List Int} {r : Int} {l : List Nd} {c r' : Int} {l' : List Nd} (h : Psq ns r l c r' l') : c = 0 → Right r l → Right r' l' := by
  induction h with
  | nil => exact fun _ h => h
  | bad h hc => exact fun e _ => absurd e hc
  | next h h2 ih => exact fun e hR => ih e (h.right hR)
def PassesIs (r : Int) (l : List Nd) (ns : List Int) (c r' : Int) (l' : List Nd) : Prop :=
  (chk r l ≠ 0 ∧ c = chk r l ∧ r' = 0 ∧ l' = []) ∨ (chk r l = 0 ∧ 16 < ns.length ∧ c = 2 ∧ r' = 0 ∧ l' = []) ∨
  (chk r l = 0 ∧ ns.length ≤ 16 ∧ (∃ n ∈ ns, ¬ (1 ≤ n ∧ n ≤ 4)) ∧ c = 4 ∧ r' = 0 ∧ l' = []) ∨ (chk r l = 0 ∧ ns.length ≤ 16 ∧ (∀ n ∈ ns, 1 ≤ n ∧ n ≤ 4) ∧ Psq ns r l c r' l')
theorem PassesIs.same {r : Int} {l : List Nd} {ns : List Int} {c1 r1 c2 r2 : Int} {l1 l2 : List Nd} (h : PassesIs r l ns c1 r1 l1) (h' : PassesIs r l ns c2 r2 l2) : c1 = c2 ∧ r1 = r2 ∧ l1 = l2 := by
  rcases h with ⟨a, b, c, d⟩ | ⟨a, a2, b, c, d⟩ | ⟨a, a2, ⟨n, hn, a3⟩, b, c, d⟩ | ⟨a, a2, a3, b⟩ <;> rcases h' with ⟨a', b', c', d'⟩ | ⟨a', a2', b', c', d'⟩ | ⟨a', a2', ⟨n', hn', a3'⟩, b', c', d'⟩ | ⟨a', a2', a3', b'⟩
  all_goals first
    | exact ⟨b.trans b'.symm, c.trans c'.symm, d.trans d'.symm⟩
    | exact absurd a' a
    | exact absurd a a'
    | (exfalso; omega)
    | exact absurd (a3' n hn) a3
    | exact absurd (a3 n' hn') a3'
    | exact b.same b'
end
section
open Go.RowKit
theorem one_any (k : Nat) (hk : k < 64) (w : World) :
    Calls Tryz.prog 107 #[.int .i64 k] w fun e w' => e = .returned (.int .u64 ((2 ^ k : Nat) : Int)) ∧ w' = w := by
  have hw : IntKind.u64.wrap (2 ^ k) = ((2 ^ k : Nat) : Int) := by
    have h1 : (2 : Int) ^ k = ((2 ^ k : Nat) : Int) := by simp
    have h2 : 2 ^ k < 2 ^ 64 := Nat.pow_lt_pow_right (by omega) hk
    rw [h1, IntKind.wrap_u64]
    generalize (2 ^ k : Nat) = z at h2
    omega
  have Hw := hide hw
  clear hw
  go_enter Tryz.func107, Tryz.ntmps107
  go_wp2
  all_goals go_ret
  all_goals exact ⟨by rw [← Hw.out]; rfl, rfl⟩
theorem made_any (n : Nd) (w : World) (hd : hasD n.op = true → 0 ≤ n.d ∧ n.d < 64) :
    Calls Tryz.prog 138 #[.agg #[.int .i64 n.op, .int .i64 n.d, .int .i64 n.a, .int .i64 n.b, .int .i64 n.t, .int .i64 n.e]] w
      fun e w' => e = .returned (.int .u64 (madeN n : Int)) ∧ Below w.heap.size w w' := by
  cases h : hasD n.op with
  | true =>
    obtain ⟨d0, d1⟩ := hd h
    have hone := fun W => one_any n.d.toNat (by omega) W
    rw [Int.toNat_of_nonneg d0] at hone
    have hm : madeN n = 2 ^ n.d.toNat := by simp [madeN, h]
    rw [hm]
    generalize (2 ^ n.d.toNat : Nat) = z at *
    have o1 : 1 ≤ n.op := by simp [hasD, inB] at h; omega
    have o2 : n.op ≤ 9 := by simp [hasD, inB] at h; omega
    have H1 := hide hone
    clear hone hm hd h
    go_enter Tryz.func138, Tryz.ntmps138
    go_wp2_with (go_at_call 107; refine (H1.out _).mono ?_; rintro e w1 ⟨rfl, rfl⟩)
    all_goals go_tidy
    all_goals go_ret
    all_goals exact ⟨rfl, (by (with_reducible repeat first | apply Qa | assumption | apply Qb | apply Qc | apply Qd | apply Qe | refine Qf ?_ (by assumption) ?_); all_goals (try simp only [Sz]); first | done | omega | (try simp only [Sz] at *); omega)⟩
  | false =>
    have hm : madeN n = 0 := by simp [madeN, h]
    rw [hm]
    have o1 : ¬ (1 ≤ n.op ∧ n.op ≤ 9) := by simp [hasD, inB] at h; omega
    clear hm hd h
    by_cases o2 : 1 ≤ n.op
    · have o3 : ¬ n.op ≤ 9 := by omega
      clear o1
      go_enter Tryz.func138, Tryz.ntmps138
      go_wp2
      all_goals go_tidy
      all_goals go_ret
      all_goals exact ⟨rfl, (by (with_reducible repeat first | apply Qa | assumption | apply Qb | apply Qc | apply Qd | apply Qe | refine Qf ?_ (by assumption) ?_); all_goals (try simp only [Sz]); first | done | omega | (try simp only [Sz] at *); omega)⟩
    · clear o1
      go_enter Tryz.func138, Tryz.ntmps138
      go_wp2
      all_goals go_tidy
      all_goals go_ret
      all_goals exact ⟨rfl, (by (with_reducible repeat first | apply Qa | assumption | apply Qb | apply Qc | apply Qd | apply Qe | refine Qf ?_ (by assumption) ?_); all_goals (try simp only [Sz]); first | done | omega | (try simp only [Sz] at *); omega)⟩
end
section
open Go.RowKit
set_option maxRecDepth 100000 in
theorem used_any (n : Nd) (w : World) (h1 : hasA n.op = true → 0 ≤ n.a ∧ n.a < 64) (h2 : hasB n.op = true → 0 ≤ n.b ∧ n.b < 64) :
    Calls Tryz.prog 136 #[.agg #[.int .i64 n.op, .int .i64 n.d, .int .i64 n.a, .int .i64 n.b, .int .i64 n.t, .int .i64 n.e]] w
      fun e w' => e = .returned (.int .u64 (usedN n : Int)) ∧ Below w.heap.size w w' := by
  cases hb : hasB n.op with
  | true =>
    have ho : 3 ≤ n.op ∧ n.op ≤ 8 := by simp [hasB, inB] at hb; omega
    obtain ⟨o1, o2⟩ := ho
    obtain ⟨a0, a1⟩ := h1 (by simp [hasA, inB]; omega)
    obtain ⟨b0, b1⟩ := h2 hb
    have ca := fun W => one_any n.a.toNat (by omega) W
    have cb := fun W => one_any n.b.toNat (by omega) W
    rw [Int.toNat_of_nonneg a0] at ca
    rw [Int.toNat_of_nonneg b0] at cb
    have hm : usedN n = 2 ^ n.a.toNat ||| 2 ^ n.b.toNat := by simp [usedN, hb]
    have hx : 2 ^ n.a.toNat < 2 ^ 64 := Nat.pow_lt_pow_right (by omega) (by omega)
    have hy : 2 ^ n.b.toNat < 2 ^ 64 := Nat.pow_lt_pow_right (by omega) (by omega)
    rw [hm]
    generalize (2 ^ n.a.toNat : Nat) = x at *
    generalize (2 ^ n.b.toNat : Nat) = y at *
    have hor := bits_or_u64_nat x y (by omega) (by omega)
    have CA := hide ca
    have CB := hide cb
    have HO := hide hor
    clear ca cb hor hm hb h1 h2 hx hy
    go_enter Tryz.func136, Tryz.ntmps136
    go_wp2_with fail
    go_quiet ((go_at_call 107; first | exact Calls.quiet_of_same (CA.out _) | exact Calls.quiet_of_same (CB.out _)))
    go_wp2_with fail
    go_ret
    exact ⟨by rw [← HO.out]; rfl, (by (with_reducible repeat first | apply Qa | assumption | apply Qb | apply Qc | apply Qd | apply Qe | refine Qf ?_ (by assumption) ?_); all_goals (try simp only [Sz]); first | done | omega | (try simp only [Sz] at *); omega)⟩
  | false =>
    have hn : ¬ (3 ≤ n.op ∧ n.op ≤ 8) := by simp [hasB, inB] at hb; omega
    cases ha : hasA n.op with
    | true =>
      obtain ⟨a0, a1⟩ := h1 ha
      have ca := fun W => one_any n.a.toNat (by omega) W
      rw [Int.toNat_of_nonneg a0] at ca
      have hm : usedN n = 2 ^ n.a.toNat := by simp [usedN, hb, ha]
      rw [hm]
      generalize (2 ^ n.a.toNat : Nat) = x at *
      have CA := hide ca
      have ho : n.op = 2 ∨ n.op = 10 ∨ n.op = 11 ∨ n.op = 12 := by simp [hasA, inB] at ha; omega
      obtain ⟨op, d, a, b, t, e⟩ := n
      simp only at *
      clear ca hm hb ha h1 h2 hn
      rcases ho with rfl | rfl | rfl | rfl <;>
      · go_enter Tryz.func136, Tryz.ntmps136
        go_wp2_with (go_at_call 107; refine (CA.out _).mono ?_; rintro e w1 ⟨rfl, rfl⟩)
        all_goals go_tidy
        all_goals go_ret
        all_goals exact ⟨rfl, (by (with_reducible repeat first | apply Qa | assumption | apply Qb | apply Qc | apply Qd | apply Qe | refine Qf ?_ (by assumption) ?_); all_goals (try simp only [Sz]); first | done | omega | (try simp only [Sz] at *); omega)⟩
    | false =>
      have hm : usedN n = 0 := by simp [usedN, hb, ha]
      rw [hm]
      have q2 : (n.op == 2) = false := by simp [hasA, inB] at ha; simp; omega
      have q10 : (n.op == 10) = false := by simp [hasA, inB] at ha; simp; omega
      have q11 : (n.op == 11) = false := by simp [hasA, inB] at ha; simp; omega
      have q12 : (n.op == 12) = false := by simp [hasA, inB] at ha; simp; omega
      have q3 : (decide (3 ≤ n.op) && decide (n.op ≤ 8)) = false := by simp; omega
      clear hm hb ha h1 h2 
      by_cases h3 : 3 ≤ n.op
      · have h8 : ¬ n.op ≤ 8 := by omega
        clear hn q3
        go_enter Tryz.func136, Tryz.ntmps136
        go_wp2
        all_goals go_tidy
        all_goals go_ret
        all_goals exact ⟨rfl, (by (with_reducible repeat first | apply Qa | assumption | apply Qb | apply Qc | apply Qd | apply Qe | refine Qf ?_ (by assumption) ?_); all_goals (try simp only [Sz]); first | done | omega | (try simp only [Sz] at *); omega)⟩
      · clear hn q3
        go_enter Tryz.func136, Tryz.ntmps136
        go_wp2
        all_goals go_tidy
        all_goals go_ret
        all_goals exact ⟨rfl, (by (with_reducible repeat first | apply Qa | assumption | apply Qb | apply Qc | apply Qd | apply Qe | refine Qf ?_ (by assumption) ?_); all_goals (try simp only [Sz]); first | done | omega | (try simp only [Sz] at *); omega)⟩
end
section
open Go.RowKit
set_option maxHeartbeats 1000000
theorem behind_any (n : Nd) (S : Option Addr) (ats : List Nat) (cap : Nat) (w : World) (hS : ValsAt w S (u64s ats)) (hl : ats.length ≤ 256) (hz : ∀ z ∈ ats, z < 2 ^ 64)
    (ht : n.op ≠ 12 → 0 ≤ n.t ∧ n.t < ats.length) (he : n.op = 11 → 0 ≤ n.e ∧ n.e < ats.length) :
    Calls Tryz.prog 137 #[.agg #[.int .i64 n.op, .int .i64 n.d, .int .i64 n.a, .int .i64 n.b, .int .i64 n.t, .int .i64 n.e], .slice S ats.length cap] w
      fun e w' => e = .returned (.int .u64 (behindN n ats : Int)) ∧ Below w.heap.size w w' := by
  by_cases h12 : n.op = 12
  · have hm : behindN n ats = 0 := by simp [behindN, h12]
    have q12 : (n.op == 12) = true := by simp [h12]
    rw [hm]
    clear hm h12 ht he
    go_enter Tryz.func137, Tryz.ntmps137
    go_wp2
    all_goals go_tidy
    all_goals go_ret
    all_goals exact ⟨rfl, (by (with_reducible repeat first | apply Qa | assumption | apply Qb | apply Qc | apply Qd | apply Qe | refine Qf ?_ (by assumption) ?_); all_goals (try simp only [Sz]); first | done | omega | (try simp only [Sz] at *); omega)⟩
  · obtain ⟨t0, t1⟩ := ht h12
    obtain ⟨tt, htt⟩ := Int.eq_ofNat_of_zero_le t0
    obtain ⟨b, off, rfl, hb, ct⟩ := hS.u64 (k := tt) (by omega)
    have q12 : (n.op == 12) = false := by simp [h12]
    have xt := getD_lt hz tt
    by_cases h11 : n.op = 11
    · obtain ⟨e0, e1⟩ := he h11
      obtain ⟨ee, hee⟩ := Int.eq_ofNat_of_zero_le e0
      obtain ⟨b', off', e', _, ce⟩ := hS.u64 (k := ee) (by omega)
      injection e' with e'
      injection e' with e1' e2'
      subst e1' e2'
      have q11 : (n.op == 11) = true := by simp [h11]
      have xe := getD_lt hz ee
      have hm : behindN n ats = ats.getD tt 0 ||| ats.getD ee 0 := by simp [behindN, h11, htt, hee]
      rw [hm]
      generalize ats.getD tt 0 = x at *
      generalize ats.getD ee 0 = y at *
      have hor := bits_or_u64_nat x y xt xe
      obtain ⟨op, d, a, b0, t, e⟩ := n
      simp only at *
      subst htt hee
      have HO := hide hor
      clear hor hm h12 h11 ht he hz hS xt xe
      go_enter Tryz.func137, Tryz.ntmps137
      go_wp2_with fail
      go_quiet (fail)
      go_wp2_with fail
      go_ret
      exact ⟨by rw [← HO.out]; rfl, (by (with_reducible repeat first | apply Qa | assumption | apply Qb | apply Qc | apply Qd | apply Qe | refine Qf ?_ (by assumption) ?_); all_goals (try simp only [Sz]); first | done | omega | (try simp only [Sz] at *); omega)⟩
    · have q11 : (n.op == 11) = false := by simp [h11]
      have hm : behindN n ats = ats.getD tt 0 := by simp [behindN, h11, h12, htt]
      rw [hm]
      generalize ats.getD tt 0 = x at *
      obtain ⟨op, d, a, b0, t, e⟩ := n
      simp only at *
      subst htt
      clear hm h12 h11 ht he hz hS xt
      go_enter Tryz.func137, Tryz.ntmps137
      go_wp2
      all_goals go_tidy
      all_goals go_ret
      all_goals exact ⟨rfl, (by (with_reducible repeat first | apply Qa | assumption | apply Qb | apply Qc | apply Qd | apply Qe | refine Qf ?_ (by assumption) ?_); all_goals (try simp only [Sz]); first | done | omega | (try simp only [Sz] at *); omega)⟩
end
section
open Go.RowKit
def Lies (W w : World) : Prop := Below W.heap.size W w
theorem Lies.refl (W : World) : Lies W W := Below.refl _ _
theorem Lies.step {W w w' : World} (h : Lies W w) (hb : Below w.heap.size w w') : Lies W w' := Below.trans h (hb.mono h.size)
theorem Lies.drew {W w : World} (h : Lies W w) : Lies W w.drew := Below.drew h
end
section
theorem wp_scope_again {P : Program} {a : Act} {w : World} {Q : Exit → Act → World → Prop} {c rest : Code} (l : Nat) (I : Nat → Act → World → Prop) (hf : findLabel c l = some (Code.skip.seq rest))
 (pass : ∀ n a w, I n a w → rest.wp P (Exit.jump l (fun a' w' => ∃ k, k < n ∧ I k a' w') Q) a w)
 (first : (∀ n a w, I n a w → rest.wp P (Exit.jump l (fun a' w' => ∃ k, I k a' w') Q) a w) → c.wp P (Exit.jump l (fun a' w' => ∃ k, I k a' w') Q) a w) : (Code.scope c).wp P Q a w := by (
 refine wp_scope_jumps l (fun a w => ∃ n, I n a w) (fun a w => leastOf (fun n => I n a w)) hf (first fun n a w h => wp_mono (pass n a w h) ?_) ?_
 · (
 intro e a' w' hq
 cases e with
 | goto t => exact ⟨hq.1, hq.2.elim fun k h => ⟨k, h.2⟩⟩
 | normal => exact hq
 | exit id => exact hq
 | ret => exact hq
 | panic ch => exact hq
 | outgrown => exact hq)
 · (
 intro a w hI
 refine wp_seq (wp_skip ?_)
 refine wp_mono (pass _ a w (leastOf_spec hI).1) ?_
 intro e a' w' hq
 cases e with
 | goto t =>
  obtain ⟨h1, k, hlt, hk⟩ := hq
  exact ⟨h1, ⟨k, hk⟩, Nat.lt_of_le_of_lt ((leastOf_spec ⟨k, hk⟩).2 k hk) hlt⟩
 | normal => exact hq
 | exit id => exact hq
 | ret => exact hq
 | panic ch => exact hq
 | outgrown => exact hq))
end
section
open Go.RowKit
set_option maxHeartbeats 4000000
attribute [local irreducible] Row madeCells
theorem infoSet : (Tryz.prog.info? 159).map (fun i => (i.zero, i.size, i.bytes)) = some (some (.int .u64 0), 1, 8) := by kernel_rfl
def gauge (n : Nat) (ats : List Nat) : Nat := n * 2 ^ 64 - ats.sum
theorem gauge_lt {l : List Nd} {ats : List Nat} (h : Bits l ats) {k z : Nat} (hk : k < l.length) (hz : z < 2 ^ 64) (hle : ats.getD k 0 ≤ z) (hne : ats.getD k 0 ≠ z) (hb : Bits l (ats.set k z)) :
    gauge l.length (ats.set k z) < gauge l.length ats := by
  have h1 := sum_set (ats := ats) (k := k) (z := z) (by rw [h.1]; exact hk)
  have h2 := sum_le (ats := ats.set k z) (b := 2 ^ 64) (fun y hy => Nat.le_of_lt (hb.2.1 y hy))
  rw [hb.1] at h2
  unfold gauge
  generalize l.length * 2 ^ 64 = q at *
  omega
def SetsPost (l : List Nd) (B : Nat) (t : TypeId) (w : World) (e : Ending) (w' : World) : Prop :=
  ∃ ats v, (ats.length = l.length ∧ (∀ z ∈ ats, z < 2 ^ 64) ∧ ∀ r : Nat, r < 64 → Least (liveS l r) l.length (bitsAt r ats)) ∧ e = .returned v ∧ Row w' B t v (u64s ats) ∧ Below w.heap.size w w'
theorem sets_at {l : List Nd} {ats : List Nat} {k : Nat} {x : Nd} (hx : l[k]? = some x) (hr : Regs64 x) (r : Nat) (h64 : r < 64) : (newN x ats).testBit r = liveS l r (bitsAt r ats) k := by
  have hg : l.getD k default = x := by rw [List.getD_eq_getElem?_getD, hx]; rfl
  rw [newN_bit hr h64]
  unfold liveS
  rw [hg]
set_option maxRecDepth 100000 in
theorem sets_run (regs : Int) (A : Option Addr) (l : List Nd) (cap : Nat) (w : World) (hA : NodesAt w A l) (hR : Right regs l) :
    Calls Tryz.prog 105 #[.agg #[.int .i64 regs, .slice A l.length cap]] w (SetsPost l w.heap.size 159 w) := by
  have hlo := hR.lo
  have hhi := hR.hi
  have HRr := hide hR
  clear hR
  obtain ⟨ib, hbi, hbz, hbs, hbb⟩ := info_parts infoSet
  have hmk := run_make1 (P := Tryz.prog) 156 159 ib _ 8 Tryz.underlying156 hbi hbz hbs hbb (by omega) rfl l.length (by omega)
  go_enter Tryz.func105, Tryz.ntmps105
  go_wp2_with fail
  refine wp_scope_again 0 (fun g a' w' => ∃ (ats : List Nat) (u4 u5 u6 u11 u12 u13 u14 u15 u16 u17 u18 u19 u20 u21 u22 u23 u24 u25 u26 u27 u28 u29 u30 u31 u32 u33 u34 u35 u36 u37 u38 u39 u40 u41 u42 : Value), a' = { tmps := #[.agg #[.int .i64 regs, .slice A l.length cap], .pointer (some ⟨w.heap.size, 0, none⟩), .slice none 0 0, .slice (some ⟨w.heap.size + 1, 0, none⟩) l.length l.length, u4, u5, u6, .pointer (some ⟨w.heap.size, 1, none⟩), .slice A l.length cap, .int .i64 l.length, .slice (some ⟨w.heap.size + 1, 0, none⟩) l.length l.length, u11, u12, u13, u14, u15, u16, u17, u18, u19, u20, u21, u22, u23, u24, u25, u26, u27, u28, u29, u30, u31, u32, u33, u34, u35, u36, u37, u38, u39, u40, u41, u42], defers := [] } ∧ g = gauge l.length ats ∧ Bits l ats ∧
    Row w' w.heap.size 159 (.slice (some ⟨w.heap.size + 1, 0, none⟩) l.length l.length) (u64s ats) ∧ Blk w' w.heap.size 24 #[.int .i64 regs, .slice A l.length cap] ∧ Below w.heap.size w w') rfl ?pass ?first
  case first =>
    intro again
    have Again := hide again
    clear again
    go_wp2_with fail
    go_step3
    rename_i K hK
    refine hK _ _ ?_
    refine Again.out _ _ _ ⟨List.replicate l.length 0, _, _, _, _, _, _, _, _, _, _, _, _, _, _, _, _, _, _, _, _, _, _, _, _, _, _, _, _, _, _, _, _, _, _, _, rfl, rfl, Bits.start l, ?_, (by repeat (first | ((with_reducible refine Blk.new' ?_); exact (by (try simp only [Sz]); first | done | omega | (try simp only [Sz] at *); omega)) | (with_reducible refine Blk.drew ?_) | (with_reducible refine Blk.drewN ?_ _) | (with_reducible refine Blk.alloc ?_ _) | with_reducible assumption)), (by (with_reducible repeat first | apply Qa | assumption | apply Qb | apply Qc | apply Qd | apply Qe | refine Qf ?_ (by assumption) ?_); all_goals (try simp only [Sz]); first | done | omega | (try simp only [Sz] at *); omega)⟩
    rw [u64s, List.map_replicate]
    show Row _ _ _ _ (List.replicate l.length (.int .u64 0))
    exact (by repeat (first | ((with_reducible refine Row.made1' ?_ ?_ ?_); exact (by (try simp only [Sz]); first | done | omega | (try simp only [Sz] at *); omega); exact (by (try simp only [Sz]); first | done | omega | (try simp only [Sz] at *); omega); exact (by (try simp only [Sz]); first | done | omega | (try simp only [Sz] at *); omega)) | (with_reducible refine Row.drew ?_) | (with_reducible refine Row.drewN ?_ _) | (with_reducible refine Row.alloc ?_ _) | with_reducible assumption))
  case pass =>
    rintro g a' wr ⟨ats, u4, u5, u6, u11, u12, u13, u14, u15, u16, u17, u18, u19, u20, u21, u22, u23, u24, u25, u26, u27, u28, u29, u30, u31, u32, u33, u34, u35, u36, u37, u38, u39, u40, u41, u42, rfl, hg, hbt, hRow, hP, hB⟩
    have Hg := hide hg
    have Hbt := hide hbt
    have hal := hbt.1
    have Hal := hide hal
    have HRow := hide hRow
    have HP := hide hP
    clear hg hbt hal hRow hP hmk
    go_wp2_with fail
    obtain ⟨wb, rfl⟩ : ∃ wb : World, wb = wr := ⟨_, rfl⟩
    go_loopg [4] (l.length) (fun gk i wr => ∃ k : Nat, k ≤ l.length ∧ i = .int .i64 ((k : Int) - 1) ∧ gk = k ∧ (∀ j x, k ≤ j → l[j]? = some x → newN x ats = ats.getD j 0) ∧
      Row wr w.heap.size 159 (.slice (some ⟨w.heap.size + 1, 0, none⟩) l.length l.length) (u64s ats) ∧ Blk wr w.heap.size 24 #[.int .i64 regs, .slice A l.length cap] ∧ Below w.heap.size w wr)
    case atStart => exact ⟨l.length, Nat.le_refl _, rfl, rfl, fun j x hj hx => absurd (List.getElem?_eq_some_iff.1 hx).1 (by omega), HRow.out, HP.out, hB⟩
    case round =>
      clear HRow HP hB
      obtain ⟨k, hk, rfl, hgk, hno, hRow, hP, hB⟩ := hrel
      have Hgk := hide hgk
      have Hno := hide hno
      clear hgk hno
      have hz := hB.size
      have p0 := hP.cell 0
      have p1 := hP.cell 1
      simp only [Yl] at p0 p1
      have hxlt := (hRow.lt _ rfl).2
      have lp := hP.lt
      cases k with
      | zero =>
        have HRow := hide hRow
        have HP := hide hP
        clear hRow hP
        have k1 : (((0 : Nat) : Int) - 1) = -1 := by omega
        rw [k1]
        clear k1
        go_wp2_with fail
        simp only [Exit.jump]
        go_ret
        refine ⟨ats, _, ⟨Hal.out, Hbt.out.2.1, fun r h64 => Hbt.out.done (fun j r' hj hr' => ?_) h64⟩, rfl, HRow.out, hB⟩
        obtain ⟨x, hx⟩ : ∃ x, l[j]? = some x := ⟨_, List.getElem?_eq_getElem hj⟩
        rw [← Hno.out j x (Nat.zero_le _) hx]
        exact sets_at hx (HRr.out.regs64 (List.mem_of_getElem? hx)) r' hr'
      | succ k =>
        obtain ⟨x, hx⟩ : ∃ x, l[k]? = some x := ⟨_, List.getElem?_eq_getElem (by omega)⟩
        have Hx := hide hx
        obtain ⟨xb, xo, x', rfl, hxb, hx', hxl⟩ := (hA.below hB).get (k := k) (by omega)
        rw [hx] at hx'
        injection hx' with hx'
        subst hx'
        obtain ⟨c0, c1, c2, c3, c4, c5⟩ := hxl
        obtain ⟨g0, o0, cp0, e0, _, _, cx, fx⟩ := hRow.u64 (k := k) (by rw [Hal.out]; omega)
        injection e0 with e0 e1 e2
        injection e0 with e0
        injection e0 with e0 e3
        subst e0 e3
        simp only [Nat.zero_add] at cx fx
        clear e1 e2 hx
        have hz64 := Hbt.out.2.1
        have hreg := HRr.out.regs64 (List.mem_of_getElem? Hx.out)
        have hway : (x.op ≠ 12 → 0 ≤ x.t ∧ x.t < ats.length) ∧ (x.op = 11 → 0 ≤ x.e ∧ x.e < ats.length) := by
          rw [Hal.out]
          exact ⟨fun h => by have := HRr.out.then_ (List.mem_of_getElem? Hx.out) h; omega, fun h => by have := HRr.out.else_ (List.mem_of_getElem? Hx.out) h; omega⟩
        have hU := fun W => used_any x W hreg.2.1 hreg.2.2
        have hM := fun W => made_any x W hreg.1
        have hBh := fun W (hW : Lies wr W) => behind_any x (some ⟨w.heap.size + 1, 0, none⟩) ats l.length W (hRow.below' hW).vals (by rw [Hal.out]; omega) hz64 hway.1 hway.2
        rw [Hal.out] at hBh
        have eN : bits .or .u64 (usedN x : Int) (bits .andNot .u64 (behindN x ats : Int) (madeN x : Int)) = ((newN x ats : Nat) : Int) := by
          rw [u64_without _ _ (behindN_lt hz64) (madeN_lt hreg)]
          exact bits_or_u64_nat _ _ (usedN_lt hreg) (Nat.lt_of_le_of_lt Nat.and_le_left (behindN_lt hz64))
        have HU := hide hU
        have HM := hide hM
        have HBh := hide hBh
        have EN := hide eN
        have HRow := hide hRow
        have HP := hide hP
        have Hreg := hide hreg
        have k1 : (((k + 1 : Nat) : Int) - 1) = (k : Int) := by omega
        rw [k1]
        clear k1 hU hM hBh eN hRow hP hreg hway hz64 hA
        have q0 : (0 : Int) ≤ (k : Int) := by omega
        have q1 : (k : Int) < (l.length : Int) := by omega
        have lxw : wr.heap.size < (wr.alloc (.cells #[.int .i64 x.op, .int .i64 x.d, .int .i64 x.a, .int .i64 x.b, .int .i64 x.t, .int .i64 x.e] 44)).heap.size := by simp
        go_upto_region 6 with fail
        go_cut [6] (fun s6 wx => s6 = .int .u64 (newN x ats : Int) ∧ Lies wr wx)
        case first =>
          obtain ⟨w6, hw6⟩ : ∃ w6 : World, w6 = wr.alloc (.cells #[.int .i64 x.op, .int .i64 x.d, .int .i64 x.a, .int .i64 x.b, .int .i64 x.t, .int .i64 x.e] 44) := ⟨_, rfl⟩
          have hX6 : Blk w6 wr.heap.size 44 #[.int .i64 x.op, .int .i64 x.d, .int .i64 x.a, .int .i64 x.b, .int .i64 x.t, .int .i64 x.e] := by rw [hw6]; exact (by repeat (first | ((with_reducible refine Blk.new' ?_); exact (by (try simp only [Sz]); first | done | omega | (try simp only [Sz] at *); omega)) | (with_reducible refine Blk.drew ?_) | (with_reducible refine Blk.drewN ?_ _) | (with_reducible refine Blk.alloc ?_ _) | with_reducible assumption))
          have hL6 : Lies wr w6 := by rw [hw6]; exact Below.alloc (Below.refl _ _) (Nat.le_refl _) _
          have hL66 := Lies.refl w6
          rw [← hw6]
          have b0 := hX6.cell 0
          have b1 := hX6.cell 1
          have b2 := hX6.cell 2
          have b3 := hX6.cell 3
          have b4 := hX6.cell 4
          have b5 := hX6.cell 5
          simp only [Yl] at b0 b1 b2 b3 b4 b5
          have hll : wr.heap.size < w6.heap.size := hX6.lt
          clear hw6 hX6 c0 c1 c2 c3 c4 c5 p0 p1 cx fx lxw hxb hB HRow HP
          go_region_held3 (fun w' => w'.cell? ⟨wr.heap.size, 0, none⟩ = some (.int .i64 x.op) ∧ w'.cell? ⟨wr.heap.size, 1, none⟩ = some (.int .i64 x.d) ∧ w'.cell? ⟨wr.heap.size, 2, none⟩ = some (.int .i64 x.a) ∧
              w'.cell? ⟨wr.heap.size, 3, none⟩ = some (.int .i64 x.b) ∧ w'.cell? ⟨wr.heap.size, 4, none⟩ = some (.int .i64 x.t) ∧ w'.cell? ⟨wr.heap.size, 5, none⟩ = some (.int .i64 x.e) ∧ Lies wr w' ∧ Lies w6 w')
            (((try go_split_ands); (try dsimp only); (repeat' apply And.intro) <;> (first | assumption | go_keep | (exact Lies.drew (by assumption)) | (exact Lies.step (by assumption) (by assumption)) | (rw [hc3 _ _ (Nat.lt_of_lt_of_le hll (Below.size (by assumption : Lies w6 _)))]; assumption))))
            (first
              | (go_at_call 136; refine (HU.out _).mono ?_; rintro e w3 ⟨rfl, hb3⟩; obtain ⟨hc3, hf3⟩ := bcell hb3)
              | (go_at_call 138; refine (HM.out _).mono ?_; rintro e w3 ⟨rfl, hb3⟩; obtain ⟨hc3, hf3⟩ := bcell hb3)
              | (go_at_call 137; (try go_split_ands); refine (HBh.out _ (by assumption)).mono ?_; rintro e w3 ⟨rfl, hb3⟩; obtain ⟨hc3, hf3⟩ := bcell hb3))
          all_goals (try go_split_ands)
          all_goals (go_wp2_with fail)
          all_goals go_meet
          all_goals go_tidy
          all_goals exact ⟨by rw [← EN.out], by assumption⟩
        case rest =>
          obtain ⟨rfl, hL⟩ := hcut
          obtain ⟨wx, rfl⟩ : ∃ wx : World, wx = wc := ⟨_, rfl⟩
          have cx' := ((bcell hL).1 _ _ hxlt).trans cx
          have fx' := ((bcell hL).2 _ _ hxlt).trans fx
          have hn64 : newN x ats < 2 ^ 64 := newN_lt Hreg.out Hbt.out.2.1
          have hput := Hbt.out.put (k := k) (z := newN x ats) (by omega) hn64 (fun r h64 => sets_at Hx.out Hreg.out r h64)
          have HL := hide hL
          have Hput := hide hput
          have Hn64 := hide hn64
          have hz2 := hL.size
          clear cx fx c0 c1 c2 c3 c4 c5 p0 p1 hL lxw hput hn64
          generalize hzz : newN x ats = z at *
          generalize hyy : ats.getD k 0 = y at *
          have Hzz := hide hzz
          have Hyy := hide hyy
          clear hzz hyy
          cases hq : ((z : Int) != (y : Int))
          case true =>
            have Hq := hide hq
            go_wp2_with fail
            go_step3
            refine ⟨rfl, gauge l.length (ats.set k z), ?_, ats.set k z, _, _, _, _, _, _, _, _, _, _, _, _, _, _, _, _, _, _, _, _, _, _, _, _, _, _, _, _, _, _, _, _, _, _, _, rfl, rfl, Hput.out.1, ?_, (HP.out.below HL.out lp).far (by simp) _, (Below.trans hB (Below.mono HL.out hz)).setCell (by simp <;> omega) _⟩
            · rw [Hg.out]
              have hq' := Hq.out
              simp at hq'
              exact gauge_lt Hbt.out (by omega) Hn64.out (by rw [Hyy.out]; exact Hput.out.2) (by rw [Hyy.out]; omega) Hput.out.1
            · have := (HRow.out.below' HL.out).store k (.int .u64 (z : Int))
              rw [u64s_set, Nat.zero_add] at this
              exact this
          case false =>
            have Hq := hide hq
            go_wp2_with fail
            go_roundg k
            case measure => have := Hgk.out; omega
            case rel =>
              refine ⟨k, by omega, by go_num, rfl, fun j y hj hy => ?_, HRow.out.below' HL.out, HP.out.below HL.out lp, Below.trans hB (Below.mono HL.out hz)⟩
              by_cases hjk : j = k
              · subst hjk
                rw [Hx.out] at hy
                injection hy with hy
                subst hy
                have := Hq.out
                simp at this
                rw [Hzz.out, Hyy.out]
                omega
              · exact Hno.out j y (by omega) hy
end
section
open Go.RowKit
set_option maxHeartbeats 4000000
attribute [local irreducible] Row madeCells
def Tz (w : World) : Prop := 5 < w.heap.size ∧ ∀ j, j < 64 → w.cell? ⟨5, j, none⟩ = some (.int .u8 (Lib.deBruijn64tab.getD j 0 : Nat))
def IntsTab (B : Nat) (tS tI : TypeId) (n : Nat) (xs : Nat → List Int) (v : Value) (w : World) : Prop :=
 ∃ vs : Nat → Value, Row w B tS v ((List.range n).map vs) ∧ Tab w B tI n vs (fun i => ints (xs i))
def LivePost (regs : Nat) (l : List Nd) (w : World) (e : Ending) (w' : World) : Prop :=
 ∃ v, e = .returned (.tuple #[v, .int .i64 0]) ∧ IntsTab w.heap.size 25 3 l.length (liveL regs l) v w' ∧ Below w.heap.size w w'
end
section
open Go.RowKit
set_option maxHeartbeats 4000000
attribute [local irreducible] Row madeCells
end
end Go.Proofs.YtmghkonmfbpjcaaGreatDoor
