/- Mt Ms6 RunK PgM TEq PgK RunM RunS. -/
import Derived.Test.YtmghkonmfbpjcabMvO
import Derived.Test.YtmghkonmfbpjcabGG
import Derived.Test.YtmghkonmfbpjcabGA
import Derived.Test.YtmghkonmfbpjcabGC
import Derived.Test.YtmghkonmfbpjcabGB
import Derived.Maps.OwnSet
import Derived.Maps.OwnOps
import Derived.WideKeyEntry
import Derived.DeepKeys4
import Derived.Laws.StructEq
import Derived.Deep.RegionHeld3
import Derived.Deep.DeepCutAuto
import Derived.Deep.QuietTactic
set_option linter.unusedVariables false
set_option linter.unusedSimpArgs false
namespace Go.Proofs.Ytmghkonmfbpjcab
section
open Go.RowKit
def allGo : List Tm → Int → List Nd → Int × Int × List Nd
 | [], r, l => (0, r, l)
 | t :: ts, r, l => if oneE r l t ≠ 0 then (oneE r l t, 0, []) else allGo ts (oneR r l t) (oneL r l t)
theorem allGo_drop {ts : List Tm} {k : Nat} {t : Tm} (h : ts[k]? = some t) (r : Int) (l : List Nd) :
 allGo (ts.drop k) r l = if oneE r l t ≠ 0 then (oneE r l t, 0, []) else allGo (ts.drop (k + 1)) (oneR r l t) (oneL r l t) := by (
 obtain ⟨hk, rfl⟩ := List.getElem?_eq_some_iff.1 h
 rw [List.drop_eq_getElem_cons hk]
 rfl)
def allT (l : List Nd) : List Tm := tmsOf l l.length
def allE (regs : Int) (l : List Nd) : Int := if chk regs l ≠ 0 then chk regs l else (allGo (allT l) regs l).1
def AllPost (tN : TypeId) (regs : Int) (l : List Nd) (w : World) (e : Ending) (w' : World) : Prop :=
 Below w.heap.size w w' ∧ ((allE regs l ≠ 0 ∧ e = .returned (.tuple #[.agg #[.int .i64 0, .slice none 0 0], .int .i64 (allE regs l)])) ∨
  (allE regs l = 0 ∧ ∃ v, e = .returned (.tuple #[.agg #[.int .i64 (allGo (allT l) regs l).2.1, v], .int .i64 0]) ∧ NRow w' w.heap.size tN v (allGo (allT l) regs l).2.2))
structure AlSt (W0 : World) (B qb : Nat) (r : Int) (v : Value) (ls : List Nd) (W : World) : Prop where
 box : Blk W qb 24 #[.int .i64 r, v]
 row : NRow W B 60 v ls
 below : Below W0.heap.size W0 W
 low : W0.heap.size ≤ qb
section
variable {W0 : World} {B qb : Nat} {r r' : Int} {v v' : Value} {ls ls' : List Nd} {W : World}
theorem AlSt.later {W' : World} (h : AlSt W0 B qb r v ls W) (hb : Below W.heap.size W W') : AlSt W0 B qb r v ls W' := ⟨h.box.below hb h.box.lt, h.row.below' hb, h.below.trans (hb.mono h.below.size), h.low⟩
theorem AlSt.put {V : World} (h : AlSt W0 B qb r v ls W) (hb : Below W.heap.size W V) (hr : NRow V B 60 v' ls') :
 AlSt W0 B qb r' v' ls' ((V.setCell ⟨qb, 0, none⟩ (.int .i64 r')).setCell ⟨qb, 1, none⟩ v') := by (
 have hx := h.box.below hb h.box.lt
 have hn := hr.ne_blk hx (by decide)
 exact ⟨(hx.set_ 0 _).set_ 1 _, (hr.far (p := ⟨qb, 0, none⟩) hn _).far (p := ⟨qb, 1, none⟩) hn _, ((h.later hb).below.setCell h.low _).setCell h.low _, h.low⟩)
end
end
section
open Go.RowKit
section
variable {regs : Int} {t : Tm} {l : List Nd} {pt tk th : List Bool} {inp : List Int}
theorem applyL_size (h : Int) (t : Tm) (pt tk : List Bool) (l : List Nd) : (applyL h t pt tk l).length = l.length + rk pt l.length := applyL_len h t pt tk l
theorem Doing.apply (hR : Right regs l) (hT : TmOk regs t) (hH : Held t l pt tk th) : Doing regs l (regs + 1) (applyL regs t pt tk l) inp := by
  have hlo := hR.lo
  refine ⟨fun j => if j < l.length then j else ((List.range l.length).find? fun i => yn pt i && l.length + rk pt i == j).getD 0, fun j => decide (j < l.length) && yn pt j, Mvd regs t l pt th,
    ⟨fun h => ⟨h.out, h.ret, h.ended⟩, fun {s u} h he => ?_, fun {s u} h he e => ?_, fun {s u} h he e => ?_, fun {s u} h he e => ?_, fun {s u} h he => ?_⟩, Mvd.start hR hH⟩
  · have hl := h.lt he
    rw [applyL_size]
    rcases h.at_ he with ⟨h1, _⟩ | ⟨h1, h2, _⟩
    · omega
    · have := rk_lt hl h1; omega
  · have hl := h.lt he
    rcases h.at_ he with ⟨h1, _⟩ | ⟨h1, h2, _⟩
    · rw [h1, if_pos hl]
    · rw [h2, if_neg (by omega)]
      refine (find_one hl (by simp [h1]) fun i hi hq => ?_).symm
      simp only [Bool.and_eq_true, beq_iff_eq] at hq
      exact rk_inj hq.1 h1 (by omega)
  · have hl := h.lt he
    simp only [Bool.and_eq_true, decide_eq_true_eq] at e
    rcases h.at_ he with ⟨h1, _⟩ | ⟨h1, h2, _⟩
    · rw [h1] at e
      refine ⟨(h.put hT he h1 e.2).1, ?_⟩
      rw [h1, applyL_at hl, if_pos e.2]
      have := hT.op
      show t.op ≠ 11
      omega
    · omega
  · have hl := h.lt he
    have hu : (u.pos = s.pos ∧ yn pt s.pos = false) ∨ (yn pt s.pos = true ∧ u.pos ≠ s.pos) := by
      rcases h.at_ he with ⟨h1, _⟩ | ⟨h1, h2, _⟩
      · rw [h1, Bool.and_eq_false_iff] at e
        exact .inl ⟨h1, e.resolve_left (by simp; omega)⟩
      · exact .inr ⟨h1, by omega⟩
    obtain ⟨h1, _, _, h4⟩ := h.take hR hT hH he hu (inp := inp)
    exact ⟨h1, h4⟩
  · have hl := h.lt he
    rcases h.at_ he with ⟨h1, _⟩ | ⟨h1, h2, _⟩
    · by_cases e : yn pt s.pos = true
      · refine ⟨1, .next (by rw [h1, e]; simp [hl]) (.here ?_)⟩
        rw [(h.put hT he h1 e).2.1, decide_eq_false (by omega)]
        rfl
      · exact ⟨0, .here (by rw [h1, yno e]; simp)⟩
    · exact ⟨0, .here (by rw [h2, decide_eq_false (by omega)]; rfl)⟩
theorem Doing.ends {r1 r2 : Int} {l m : List Nd} (h : Doing r1 l r2 m inp) (n : Nat) (he : (runR r1 l inp n).ended = true) : (runR r2 m inp (n * (m.length + 1))).ended = true := by
  obtain ⟨p, th, Rel, h1, h2⟩ := h
  have := (h1.sim.does h2 n (n * (m.length + 1)) (by rw [Nat.mul_comm]; exact Nat.le_refl _)).2.2.1 he
  exact this.1
theorem Doing.ended {r1 r2 : Int} {l m : List Nd} (h : Doing r1 l r2 m inp) (n : Nat) (he : (runR r2 m inp n).ended = true) : (runR r1 l inp n).ended = true := by
  obtain ⟨p, th, Rel, h1, h2⟩ := h
  exact ((h1.sim.does h2 n _ (Nat.le_refl _)).1 he).1
theorem run_once {r : Int} {m : List Nd} {k j : Nat} (hk : (runR r m inp k).ended = true) (hj : (runR r m inp j).ended = true) : runR r m inp k = runR r m inp j := by
  have key : ∀ {k j : Nat}, k ≤ j → (runR r m inp k).ended = true → runR r m inp j = runR r m inp k := fun {k j} h hk => by
    unfold runR at *
    rw [show j = k + (j - k) by omega, goR_add, goR_ended hk]
  rcases Nat.le_total k j with h | h
  · exact (key h hk).symm
  · exact key h hj
theorem oneQ_run (hR : Right regs l) (n : Nat) : ∃ k, n ≤ k ∧ k ≤ 2 * n ∧ Alike (runR regs l inp n) (runR regs (oneQ l) inp k) := by
  have h1 := run_trim (inp := inp) hR n
  obtain ⟨k, a1, a2, a3⟩ := (split_sim inp hR.trim).run n (split_start hR.trim)
  have h2 := h1.alike
  have h3 := a3.alike
  exact ⟨k, a1, a2, ⟨h2.regs.trans h3.regs, h2.read.trans h3.read, h2.out.trans h3.out, h2.ret.trans h3.ret, h2.ended.trans h3.ended, h2.ts.trans h3.ts⟩⟩
theorem lone_split {regs : Int} {l : List Nd} (hR : Right regs l) : Lone (splitL l) := by
  intro n m he h0 k hk
  by_cases hw : 2 ≤ ways (splitL l) (m : Int)
  · exfalso
    exact split_lone hR (nd_some he.1) h0 he.2.2 hw
  · refine sel_two (p := aheadP (splitL l) m) (K := (splitL l).length) (by simpa [ways] using hw) hk.1 he.1 ?_ ?_
    · rw [aheadP_eq (nd_some hk.1)]; exact hk.2.2
    · rw [aheadP_eq (nd_some he.1)]; exact he.2.2
theorem oneE_parts (h : oneE regs l t = 0) : fxE regs l t = 0 ∧ (oneQ l).length ≤ 256 ∧ (oneAny t l = true → maE regs (oneQ l) t (oneX t l) (oneY t l) = 0) := by
  unfold oneE at h
  by_cases h0 : fxE regs l t = 0
  · rw [if_neg (by simp [h0])] at h
    by_cases h1 : 256 < (oneQ l).length
    · rw [if_pos h1] at h; cases h
    · rw [if_neg h1] at h
      refine ⟨h0, by omega, fun h2 => ?_⟩
      rwa [if_pos h2] at h
  · rw [if_pos h0] at h
    exact absurd h h0
theorem One.doing (h : oneE regs l t = 0) : Doing regs l (oneR regs l t) (oneL regs l t) inp := by
  obtain ⟨h0, h1, h2⟩ := oneE_parts h
  have hR := right_of_chk (fxE_chk h0)
  unfold oneR oneL
  by_cases ha : oneAny t l = true
  · rw [if_pos ha, if_pos ha]
    have hQ := oneQ_right (fxE_chk h0) h1
    have hT := fxE_tm h0
    exact (Doing.trim hR).trans ((Doing.split hR.trim).trans (Doing.apply hQ hT (lazy_held (fxOf_is t (oneQ l)) hQ hT.op)))
  · rw [if_neg ha, if_neg ha]
    exact Doing.self hR
theorem maE_parts (h : maE regs l t pt tk = 0) : fxE regs l t = 0 ∧ pt.length = l.length ∧ tk.length = l.length ∧ (∀ k, k < l.length → yn tk k = true → rkB t (nd l k) = true) ∧ (applyL regs t pt tk l).length ≤ 256 ∧ regs + 1 ≤ 64 := by
  unfold maE at h
  by_cases h0 : fxE regs l t = 0
  · rw [if_neg (by simp [h0])] at h
    split at h
    · cases h
    · rename_i h1
      split at h
      · cases h
      · rename_i h2
        split at h
        · cases h
        · rename_i h3
          refine ⟨h0, by omega, by omega, fun k hk e => ?_, by omega, by omega⟩
          have h4 : badTake t tk l = false := yno h2
          unfold badTake at h4
          rw [List.any_eq_false] at h4
          have := h4 k (List.mem_range.2 hk)
          simpa [e] using this
  · rw [if_pos h0] at h
    exact absurd h h0
theorem applyL_mem {h : Int} {n : Nd} (hn : n ∈ applyL h t pt tk l) : ∃ i, i < l.length ∧ ((yn pt i = true ∧ n = putN h t (l.length + rk pt i)) ∨ n = takeN h tk l i) := by
  rw [applyL_front] at hn
  rcases List.mem_append.1 hn with h1 | h1
  · unfold frontL at h1
    obtain ⟨i, hi, rfl⟩ := List.mem_map.1 h1
    refine ⟨i, List.mem_range.1 hi, ?_⟩
    by_cases e : yn pt i = true
    · rw [if_pos e]; exact .inl ⟨e, rfl⟩
    · rw [if_neg e]; exact .inr rfl
  · unfold backL at h1
    obtain ⟨i, hi, rfl⟩ := List.mem_map.1 h1
    exact ⟨i, List.mem_range.1 (List.mem_filter.1 hi).1, .inr rfl⟩
theorem apply_right (hR : Right regs l) (h : maE regs l t pt tk = 0) : Right (regs + 1) (applyL regs t pt tk l) := by
  obtain ⟨h0, h1, h2, h3, h4, h5⟩ := maE_parts h
  have hT := fxE_tm h0
  have hlo := hR.lo
  have hr := hR.rlo
  have hlen := applyL_size regs t pt tk l
  have hB := hT.hasB
  have hop := hT.op
  have hta := hT.a
  have htb := hT.b
  have hold : ∀ {i : Nat}, i < l.length → opOk (nd l i).op = true ∧ badR (regs + 1) (applyL regs t pt tk l).length (nd l i) = false ∧ badF (nd l i) = false := fun {i} hi => by
    have hm := nd_mem hi
    refine ⟨hR.ok _ hm, ?_, hR.frm _ hm⟩
    have hb := hR.rng _ hm
    have e1 : ∀ (x : Int) (b : Bool), okR regs x b = true → okR (regs + 1) x b = true := fun x b e => by
      cases b
      · rfl
      · simp only [okR, Bool.not_true, Bool.false_or, Bool.and_eq_true, decide_eq_true_eq] at *
        omega
    have e2 : ∀ (x : Int) (b : Bool), okN l.length x b = true → okN (applyL regs t pt tk l).length x b = true := fun x b e => by
      cases b
      · rfl
      · simp only [okN, Bool.not_true, Bool.false_or, Bool.and_eq_true, decide_eq_true_eq] at *
        omega
    simp only [badR, Bool.or_eq_false_iff, Bool.not_eq_false'] at hb ⊢
    obtain ⟨⟨⟨⟨b1, b2⟩, b3⟩, b4⟩, b5⟩ := hb
    exact ⟨⟨⟨⟨e1 _ _ b1, e1 _ _ b2⟩, e1 _ _ b3⟩, e2 _ _ b4⟩, e2 _ _ b5⟩
  have hall : ∀ n ∈ applyL regs t pt tk l, opOk n.op = true ∧ badR (regs + 1) (applyL regs t pt tk l).length n = false ∧ badF n = false := fun n hn => by
    obtain ⟨i, hi, ⟨hp, rfl⟩ | rfl⟩ := applyL_mem hn
    · have := rk_lt hi hp
      have o1 : hasD t.op = true := (hasB_A hB).2.1
      have o2 : hasA t.op = true := (hasB_A hB).1
      have o3 : opOk t.op = true := by simp [opOk, inB]; omega
      have o4 : shT t.op = true := by simp [shT, o3]; omega
      have o5 : hasE t.op = false := by simp [hasE]; omega
      refine ⟨o3, ?_, ?_⟩
      · have a1 : ∀ x : Int, 0 ≤ x → x < regs + 1 → okR (regs + 1) x true = true := fun x g1 g2 => by simp only [okR, Bool.not_true, Bool.false_or, Bool.and_eq_true, decide_eq_true_eq]; omega
        have a2 : okN (applyL regs t pt tk l).length ((l.length + rk pt i : Nat) : Int) true = true := by simp only [okN, Bool.not_true, Bool.false_or, Bool.and_eq_true, decide_eq_true_eq]; omega
        show (!okR (regs + 1) regs (hasD t.op) || !okR (regs + 1) t.a (hasA t.op) || !okR (regs + 1) t.b (Go.Proofs.Ytmghkonmfbpjcab.hasB t.op) || !okN _ _ (shT t.op) || !okN _ 0 (hasE t.op)) = false
        rw [o1, o2, hB, o4, o5, a1 regs (by omega) (by omega), a1 t.a (by omega) (by omega), a1 t.b (by omega) (by omega)]
        rw [show okN ((applyL regs t pt tk l).length : Int) (putN regs t (l.length + rk pt i)).t true = true from a2]
        rfl
      · simp [badF, putN, okF, o1, o2, hB, o4, o5]
    · unfold takeN
      by_cases e : yn tk i = true
      · rw [if_pos e]
        have hk := h3 i hi e
        rw [rkb hR hop hi] at hk
        unfold recB at hk
        simp only [Bool.and_eq_true, beq_iff_eq] at hk
        have hm := nd_mem hi
        have hd := (hR.regA hm).1 (by rw [hk.1.1]; exact (hasB_A hB).2.1)
        have ht := hR.then_ hm (by omega)
        refine ⟨rfl, ?_, ?_⟩
        · have a1 : okR (regs + 1) (nd l i).d true = true := by simp only [okR, Bool.not_true, Bool.false_or, Bool.and_eq_true, decide_eq_true_eq]; omega
          have a2 : okR (regs + 1) regs true = true := by simp only [okR, Bool.not_true, Bool.false_or, Bool.and_eq_true, decide_eq_true_eq]; omega
          have a3 : okN (applyL regs t pt tk l).length (nd l i).t true = true := by simp only [okN, Bool.not_true, Bool.false_or, Bool.and_eq_true, decide_eq_true_eq]; omega
          show (!okR (regs + 1) (nd l i).d true || !okR (regs + 1) regs true || !okR (regs + 1) 0 false || !okN _ (nd l i).t true || !okN _ 0 false) = false
          rw [a1, a2, a3]
          rfl
        · rfl
      · rw [if_neg e]
        exact hold hi
  exact ⟨by omega, h4, by omega, h5, fun n hn => (hall n hn).1, fun n hn => (hall n hn).2.1, fun n hn => (hall n hn).2.2⟩
theorem One.right (h : oneE regs l t = 0) : Right (oneR regs l t) (oneL regs l t) := by
  obtain ⟨h0, h1, h2⟩ := oneE_parts h
  unfold oneR oneL
  by_cases ha : oneAny t l = true
  · rw [if_pos ha, if_pos ha]
    exact apply_right (oneQ_right (fxE_chk h0) h1) (h2 ha)
  · rw [if_neg ha, if_neg ha]
    exact right_of_chk (fxE_chk h0)
theorem All.doing : ∀ (ts : List Tm) {r : Int} {l : List Nd}, Right r l → (allGo ts r l).1 = 0 → Doing r l (allGo ts r l).2.1 (allGo ts r l).2.2 inp
  | [], r, l, hR, h => Doing.self hR
  | t :: ts, r, l, hR, h => by
    unfold allGo at h ⊢
    by_cases h0 : oneE r l t = 0
    · rw [if_neg (by simp [h0])] at h ⊢
      exact (One.doing h0).trans (All.doing ts (One.right h0) h)
    · rw [if_pos h0] at h
      exact absurd h h0
end
end
section
open Go.RowKit
set_option maxHeartbeats 2000000
end
section
open Go.RowKit Go.Maps Go.ChangeMaps
open Go.WideMaps (KeyLaw)
theorem setBlock_self {w : World} {b : Nat} {o : Obj} (h : w.heap[b]? = some o) : setBlock w b o = w := by (
 have he : w.heap.setIfInBounds b o = w.heap := by (
 apply Array.ext_getElem?
 intro i
 rw [Array.getElem?_setIfInBounds]
 split
 · (
 rename_i hi
 subst hi
 split
 · exact h.symm
 · (
 rename_i hlt
 rw [Array.getElem?_eq_none (by omega)] at h
 cases h))
 · rfl)
 unfold setBlock
 rw [he])
theorem setBlock_twice (w : World) (b : Nat) (o o' : Obj) : setBlock (setBlock w b o) b o' = setBlock w b o' := by (
 unfold setBlock
 simp)
theorem goInt_inj {a b : Nat} (h : goInt a = goInt b) : a = b := by (
 unfold goInt at h
 injection h with _ h
 omega)
theorem vint_inj {k : IntKind} {a b : Int} (h : Value.int k a = .int k b) : a = b := by injection h
theorem lint_inj {H : Type} {k : IntKind} {a b : Int} (h : (DataW.lit (.int k a) : DataW H) = .lit (.int k b)) : a = b := by injection h with h; injection h
theorem ok_world {α : Type} {a b : α} {w w' : World} (h : (Result.ok a w : Result α) = .ok b w') : w = w' := by cases h; rfl
theorem ok_val {α : Type} {a b : α} {w w' : World} (h : (Result.ok a w : Result α) = .ok b w') : a = b := by cases h; rfl
theorem map_bump {P : Program} {H : Type} {w : World} {t k e : TypeId} {b n : Nat} {D : DataW H} (KL : KeyLaw P k) (ht : P.underlying t = some (.map k e)) (he : P.underlying e = some (.int .i64))
 (hz : ∀ u : World, (zeroValue e).run P u = .ok (.int .i64 0) u) (h : w.ownsMap P k (plainElem P e) b n D) (hn : n < maxLen) {key : Value} {kl : Lit} (hkey : keyOf P k key = some kl) :
 ∃ c, (Instr.lookup t (.map (some b)) key false).run P w = .ok (.int .i64 c) w ∧ D.atKey kl (.lit (.int .i64 0)) = .lit (.int .i64 c) ∧
  ∃ v0 st w1, (Instr.mapEntry t (.map (some b)) key).run P w = .ok (.tuple #[v0, goInt st]) w1 ∧ w.grownBy w1 (some b) ∧ (Instr.lookup t (.map (some b)) key false).run P w1 = .ok (.int .i64 c) w1 ∧
   ∀ val, (Lit.int .i64 val).wf = true → ∃ w3, (Instr.entryStore t (.map (some b)) (goInt st) (.int .i64 val)).run P w1 = .ok () w3 ∧ w3.ownsMap P k (plainElem P e) b (n + 1) (D.put kl (.lit (.int .i64 val))) ∧ w1.grownBy w3 (some b) := by (
 have K : Keyed P k := Keyed.of_law KL
 have h0 := h
 obtain ⟨c, hlook, hat, hwc⟩ := h.lookup_int K ht he (hz w) hkey
 obtain ⟨es, clock, hb, F, hs, hD⟩ := h
 obtain ⟨v0, st, es1, clock1, hme, _, hst⟩ := Go.WideElems.entry_then_store KL ht hz hb F hkey
 have hb1 : (setBlock w b (.map es1 clock1)).heap[b]? = some (.map es1 clock1) := heap_setBlock_same hb _
 refine ⟨c, hlook, hat, v0, st, _, hme, ⟨rfl, rfl, rfl, by simp [setBlock], fun i _ hi => heap_setBlock_other hb _ (fun e => hi (by rw [e]))⟩, ?_, fun val hwv => ?_⟩
 · (
 rcases KL.find w hkey es.toList F.keys with ⟨h1, h2⟩ | ⟨j, e0, h1, h2, h3⟩
 · (
 have r1 : (Instr.mapEntry t (.map (some b)) key).run P w = .ok (.tuple #[.int .i64 0, goInt clock]) (setBlock w b (.map (es.push ⟨key, .int .i64 0, clock⟩) (clock + 1))) := by (
 simp [Instr.mapEntry, run_underlying ht, MapKept.run_getObj_map hb, KL.check w false hkey, h1, hz, MapKept.run_setObj_map _ hb, Result.andThen, setBlock])
 have r2 : (Instr.mapUpdate t (.map (some b)) key (.int .i64 0)).run P w = .ok () (setBlock w b (.map (es.push ⟨key, .int .i64 0, clock⟩) (clock + 1))) := by (
 simp [Instr.mapUpdate, run_underlying ht, MapKept.run_getObj_map hb, KL.check w false hkey, h1, MapKept.run_setObj_map _ hb, Result.andThen, setBlock])
 have r1 := ok_world (hme.symm.trans r1)
 obtain ⟨w', q1, q2, _⟩ := h0.update K ht hn hkey (plainElem_int he (show (Lit.int .i64 0).wf = true by decide))
 have q1 := ok_world (r2.symm.trans q1)
 rw [← q1, ← r1] at q2
 obtain ⟨c1, p1, p2, _⟩ := q2.lookup_int K ht he (hz _) hkey
 rw [atKey_put_same h0.isMap (K.key hkey)] at p2
 have hl0 : (Instr.lookup t (.map (some b)) key false).run P w = .ok (.int .i64 0) w := by (
 simp [Instr.lookup, run_underlying ht, MapKept.run_getObj_map hb, KL.check w _ hkey, h1, hz, Result.andThen])
 have hl0 := ok_val (hlook.symm.trans hl0)
 have hl0 := vint_inj hl0
 have p2 := lint_inj p2
 rw [p1, hl0, ← p2])
 · (
 have hj : es[j]? = some e0 := by simpa using h2
 have hsame : es.modify j (fun e => { e with key := key }) = es := by (
 apply Array.ext'
 rw [Array.toList_modify, modify_eq_set _ _ _ _ h2]
 have : ({ e0 with key := key } : MapEntry) = e0 := by rw [← h3]
 rw [this]
 exact Go.WideElems.set_self _ _ _ h2)
 have r1 : (Instr.mapEntry t (.map (some b)) key).run P w = .ok (.tuple #[e0.val, goInt e0.born]) (setBlock w b (.map es clock)) := by (
 simp [Instr.mapEntry, run_underlying ht, MapKept.run_getObj_map hb, KL.check w false hkey, h1, hj, h3, KL.stays w hkey, hsame, MapKept.run_setObj_map _ hb, Result.andThen, setBlock])
 have r1 := ok_world (hme.symm.trans r1)
 rw [r1, setBlock_self hb]
 exact hlook))
 · (
 obtain ⟨es', clock', s1, s2⟩ := hst _ (.int .i64 val) hb1
 rw [setBlock_twice] at s1
 obtain ⟨w', q1, q2, _⟩ := h0.update K ht hn hkey (plainElem_int he hwv)
 have q1 := ok_world (s2.symm.trans q1)
 rw [← q1] at q2
 refine ⟨_, s1, q2, ?_⟩
 have hg : (setBlock w b (.map es1 clock1)).grownBy (setBlock (setBlock w b (.map es1 clock1)) b (.map es' clock')) (some b) := ⟨rfl, rfl, rfl, by simp [setBlock], fun i _ hi => heap_setBlock_other hb1 _ (fun e => hi (by rw [e]))⟩
 rw [setBlock_twice] at hg
 exact hg))
end
section
open Go.RowKit
set_option maxHeartbeats 4000000
def Tm.val (n : Tm) : Value := .agg #[.int .i64 n.op, .int .i64 n.a, .int .i64 n.b]
theorem run_eq_term (x y : Tm) (w : World) : (Op.equalIn 10000 42 x.val y.val).run Try.prog w = .ok (x == y) w := by (
 have u3 := Try.underlying3
 have a3 : ∀ w, (isAgg 3).run Try.prog w = .ok false w := fun w => by kernel_rfl
 have z3 : ∀ w, (sizeOf 3).run Try.prog w = .ok 1 w := fun w => by kernel_rfl
 have hS : Try.prog.underlying 42 = some (.struct (Try.prog.fieldsOf 42)) := by kernel_rfl
 have hp : Try.prog.stoodInHeld 42 = false := by kernel_rfl
 obtain ⟨x0, x1, x2⟩ := x
 obtain ⟨y0, y1, y2⟩ := y
 simp only [Tm.val]
 rw [show (10000 : Nat) = 9999 + 1 from rfl, run_equalIn_agg w 9999 42 _ _ hS hp]
 simp only [Program.fieldsOf, Try.underlying42]
 go_simp
 have hb : ((⟨x0, x1, x2⟩ : Tm) == ⟨y0, y1, y2⟩) = (x0 == y0 && (x1 == y1 && x2 == y2)) := by (
 rw [Bool.eq_iff_iff]
 simp)
 rw [hb]
 by_cases h0 : x0 = y0 <;> by_cases h1 : x1 = y1 <;> by_cases h2 : x2 = y2 <;> simp [h0, h1, h2])
theorem guardTerm : Try.prog.eqGuardType Try.prog.depth 42 = false := by kernel_rfl
theorem infoTerm : (Try.prog.info? 42).map (fun i => (i.zero, i.size, i.bytes)) = some (some (.agg #[.int .i64 0, .int .i64 0, .int .i64 0]), 3, 24) := by kernel_rfl
theorem contains_snoc (a : List Tm) (y t : Tm) : (a ++ [y]).contains t = (a.contains t || (y == t)) := by (
 rw [Bool.eq_iff_iff]
 simp only [List.contains_iff_mem, List.mem_append, List.mem_singleton, Bool.or_eq_true, beq_iff_eq]
 exact or_congr_right eq_comm)
end
section
open Go.RowKit
open Go.Maps
set_option maxHeartbeats 4000000
attribute [local irreducible] Row TRow madeCells
theorem laidOutP : laidOutB Try.prog = true := by kernel_rfl
theorem cellsTerm : Try.prog.cellsOf 42 = 3 := by kernel_rfl
theorem cellsInt : Try.prog.cellsOf 3 = 1 := by kernel_rfl
theorem wideTerm : (match Try.prog.underlying 42 with | some (.array _ _) | some (.struct _) => true | _ => false) = true := by rw [Try.underlying42]
theorem rowTerm : 42 < Try.prog.types.size := of_decide_eq_true (by kernel_rfl)
theorem deepTerm : Try.prog.keyTypeAt 2 42 = true := by kernel_rfl
theorem law_of {P : Program} {k : TypeId} (hl : laidOutB P = true) (hr : k < P.types.size) (hd : P.keyTypeAt 2 k = true) (hw : (match P.underlying k with | some (.array _ _) | some (.struct _) => true | _ => false) = true) : Go.WideMaps.KeyLaw P k := deep_law_laid hl (m := 2) (by omega) hr hd hw
theorem lawTerm : Go.WideMaps.KeyLaw Try.prog 42 := law_of laidOutP rowTerm deepTerm wideTerm
theorem keyTerm (t : Tm) (h0 : (Lit.int .i64 t.op).wf = true) (h1 : (Lit.int .i64 t.a).wf = true) (h2 : (Lit.int .i64 t.b).wf = true) : ∃ l, keyOf Try.prog 42 t.val = some l := by (
 obtain ⟨s, hs⟩ : ∃ s, Try.prog.types.size + 1 = s + 2 := ⟨Try.prog.types.size - 1, by kernel_rfl⟩
 have hk : Try.prog.keyType 42 = true := by kernel_rfl
 have hf : t.val.formed Try.prog 42 = true := by simp [Value.formed, Tm.val, Try.underlying42, cellsTerm]
 have hl : Try.prog.keyLits (Try.prog.types.size + 1) 42 t.val.cells.toList = some [.int .i64 t.op, .int .i64 t.a, .int .i64 t.b] := by (
 rw [hs]
 simp [Program.keyLits, Try.underlying42, Try.underlying3, cellsTerm, cellsInt, Tm.val, Value.cells, h0, h1, h2])
 refine ⟨.string (keyBytes [.int .i64 t.op, .int .i64 t.a, .int .i64 t.b]), ?_⟩
 unfold keyOf
 rw [Try.underlying42]
 show (if (Try.prog.keyType 42 && t.val.formed Try.prog 42) = true then (Try.prog.keyLits (Try.prog.types.size + 1) 42 t.val.cells.toList).map fun ls => Lit.string (keyBytes ls) else none) = _
 rw [hk, hf, hl]
 rfl)
theorem zero47 (w : World) : (zeroValue 3).run Try.prog w = .ok (.int .i64 0) w := by kernel_rfl
def TSeen (W : World) (g n : Nat) (ts : List Tm) : Prop :=
 ∃ D : DataW Unit, W.ownsMap Try.prog 42 (plainElem Try.prog 3) g n D ∧ ∀ (t : Tm) (l : Lit), keyOf Try.prog 42 t.val = some l → ∃ c : Nat, D.atKey l (.lit (.int .i64 0)) = .lit (.int .i64 c) ∧ c ≤ n ∧ (c = 0 ↔ ts.contains t = false)
theorem TSeen.own {W W' : World} {g n : Nat} {ts : List Tm} {row : Option Nat} (h : TSeen W g n ts) (hg : W.grownBy W' row) (hr : row ≠ some g) : TSeen W' g n ts := by (
 obtain ⟨D, h1, h2⟩ := h
 exact ⟨D, h1.kept hg (Ne.symm hr), h2⟩)
theorem TSeen.below {W W' : World} {g n : Nat} {ts : List Tm} (h : TSeen W g n ts) (hb : Below W.heap.size W W') : TSeen W' g n ts := by (
 obtain ⟨D, ⟨es, clock, hh, F, r⟩, h2⟩ := h
 exact ⟨D, ⟨es, clock, (hb.block g (lt_of_heap hh)).trans hh, F, r⟩, h2⟩)
theorem TSeen.drew {W : World} {g n : Nat} {ts : List Tm} (h : TSeen W g n ts) : TSeen W.drew g n ts := h
theorem TSeen.drewN {W : World} {g n : Nat} {ts : List Tm} (h : TSeen W g n ts) (d : Nat) : TSeen (W.drewN d) g n ts := h
theorem TSeen.mono {W : World} {g n n' : Nat} {ts : List Tm} (h : TSeen W g n ts) (hn : n ≤ n') : TSeen W g n' ts := by (
 obtain ⟨D, h1, h2⟩ := h
 refine ⟨D, h1.mono hn, fun t l hl => ?_⟩
 obtain ⟨c, e1, e2, e3⟩ := h2 t l hl
 exact ⟨c, e1, by omega, e3⟩)
theorem TSeen.ne_row {W : World} {B g n : Nat} {ts us : List Tm} {e : TypeId} {v : Value} (h : TSeen W g n ts) (hr : TRow W B e v us) : v.ownBlock ≠ some g := by (
 obtain ⟨D, ⟨es, clock, hh, F, r⟩, h2⟩ := h
 rcases hr.open with ⟨rfl, _⟩ | ⟨g', cap, cur, rfl, _, hh', _⟩
 · simp [Value.ownBlock]
 · (
 intro he
 simp [Value.ownBlock] at he
 subst he
 rw [hh] at hh'
 cases hh'))
theorem TSeen.lt {W : World} {g n : Nat} {ts : List Tm} (h : TSeen W g n ts) : g < W.heap.size := by (
 obtain ⟨D, h1, h2⟩ := h
 exact h1.lt)
theorem tm_inj {t t' : Tm} (h : t.val = t'.val) : t = t' := by (
 cases t
 cases t'
 simp [Tm.val] at h
 simp [h])
theorem TSeen.bump {W : World} {g n : Nat} {ts : List Tm} (h : TSeen W g n ts) (hn : n < 1000) {t : Tm} {l : Lit} (hl : keyOf Try.prog 42 t.val = some l) :
 ∃ c : Nat, (Instr.lookup 70 (.map (some g)) t.val false).run Try.prog W = .ok (.int .i64 c) W ∧ c ≤ n ∧ (c = 0 ↔ ts.contains t = false) ∧
  ∃ v0 st w1, (Instr.mapEntry 70 (.map (some g)) t.val).run Try.prog W = .ok (.tuple #[v0, goInt st]) w1 ∧ W.grownBy w1 (some g) ∧ (Instr.lookup 70 (.map (some g)) t.val false).run Try.prog w1 = .ok (.int .i64 c) w1 ∧
   ∃ w3, (Instr.entryStore 70 (.map (some g)) (goInt st) (.int .i64 ((c : Int) + 1))).run Try.prog w1 = .ok () w3 ∧ w1.grownBy w3 (some g) ∧ TSeen w3 g (n + 1) (if ts.contains t then ts else ts ++ [t]) ∧
    (Instr.lookup 70 (.map (some g)) t.val false).run Try.prog w3 = .ok (.int .i64 ((c : Int) + 1)) w3 := by (
 obtain ⟨D, hD, hc⟩ := h
 obtain ⟨c, e1, e2, e3⟩ := hc t l hl
 have hmax : n < maxLen := by unfold maxLen; omega
 obtain ⟨c', p1, p2, v0, st, w1, p3, p4, p5, p6⟩ := map_bump lawTerm Try.underlying70 Try.underlying3 zero47 hD hmax hl
 rw [e1] at p2
 have hcc := lint_inj p2
 subst hcc
 have hwf : (Lit.int .i64 ((c : Int) + 1)).wf = true := by (
 unfold Lit.wf
 rw [Bool.and_eq_true]
 exact ⟨decide_eq_true (by show (-9223372036854775808 : Int) ≤ _; omega), decide_eq_true (by show _ ≤ (9223372036854775807 : Int); omega)⟩)
 obtain ⟨w3, q1, q2, q3⟩ := p6 _ hwf
 obtain ⟨c3, r1, r2, _⟩ := q2.lookup_int (Keyed.of_law lawTerm) Try.underlying70 Try.underlying3 (zero47 _) hl
 rw [atKey_put_same hD.isMap ((Keyed.of_law lawTerm).key hl)] at r2
 have h3 := lint_inj r2
 subst h3
 refine ⟨c, p1, e2, e3, v0, st, w1, p3, p4, p5, w3, q1, q3, ⟨_, q2, fun t' l' hl' => ?_⟩, r1⟩
 by_cases htt : t' = t
 · (
 subst htt
 rw [hl] at hl'
 injection hl' with hl'
 subst hl'
 refine ⟨c + 1, by rw [atKey_put_same hD.isMap ((Keyed.of_law lawTerm).key hl)]; rfl, by omega, ?_⟩
 constructor
 · intro h; omega
 · (
 intro h
 exfalso
 by_cases hct : ts.contains t' = true
 · rw [if_pos hct, hct] at h; cases h
 · (
 rw [if_neg hct, contains_snoc] at h
 simp at h)))
 · (
 have hne : l' ≠ l := fun e => htt (by
  exact tm_inj (lawTerm.inj (e ▸ hl') hl))
 obtain ⟨c', f1, f2, f3⟩ := hc t' l' hl'
 refine ⟨c', by rw [atKey_put_other hne]; exact f1, by omega, ?_⟩
 rw [f3]
 split
 · rfl
 · (
 rw [contains_snoc]
 have : (t == t') = false := by simpa using Ne.symm htt
 rw [this, Bool.or_false])))
theorem TSeen.start {W : World} : TSeen (W.alloc (.map #[] 0)) W.heap.size 0 [] :=
 ⟨.map [], World.ownsMap_made _ _ _ _, fun t l hl => ⟨0, rfl, Nat.le_refl _, by simp⟩⟩
end
section
open Go.RowKit
open Go.Maps
set_option maxHeartbeats 4000000
def TCount (W : World) (g : Nat) (ts : List Tm) : Prop :=
 ∃ D : DataW Unit, W.ownsMap Try.prog 42 (plainElem Try.prog 3) g ts.length D ∧ (∀ (t : Tm) (l : Lit), keyOf Try.prog 42 t.val = some l → D.atKey l (.lit (.int .i64 0)) = .lit (.int .i64 (ts.count t)))
  ∧ (∀ l, Maps.has D l = true → ∃ t ∈ ts, keyOf Try.prog 42 t.val = some l) ∧ (∀ t ∈ ts, ∀ l, keyOf Try.prog 42 t.val = some l → Maps.has D l = true)
section
variable {W W' : World} {g : Nat} {ts : List Tm}
theorem TCount.own {row : Option Nat} (h : TCount W g ts) (hg : W.grownBy W' row) (hr : row ≠ some g) : TCount W' g ts := by (
 obtain ⟨D, h1, h2⟩ := h
 exact ⟨D, h1.kept hg (Ne.symm hr), h2⟩)
theorem TCount.below (h : TCount W g ts) (hb : Below W.heap.size W W') : TCount W' g ts := by (
 obtain ⟨D, ⟨es, clock, hh, F, r⟩, h2⟩ := h
 exact ⟨D, ⟨es, clock, (hb.block g (lt_of_heap hh)).trans hh, F, r⟩, h2⟩)
theorem TCount.drew (h : TCount W g ts) : TCount W.drew g ts := h
theorem TCount.drewN (h : TCount W g ts) (d : Nat) : TCount (W.drewN d) g ts := h
theorem TCount.set (h : TCount W g ts) {p : Addr} (hp : g ≠ p.block) (u : Value) : TCount (W.setCell p u) g ts := by (
 obtain ⟨D, h1, h2⟩ := h
 exact ⟨D, h1.setCell hp u, h2⟩)
theorem TCount.lt (h : TCount W g ts) : g < W.heap.size := by (
 obtain ⟨D, h1, h2⟩ := h
 exact h1.lt)
theorem TCount.ne_row {B : Nat} {e : TypeId} {v : Value} {xs : List Value} (h : TCount W g ts) (hr : Row W B e v xs) : v.ownBlock ≠ some g := by (
 obtain ⟨D, ⟨es, clock, hh, F, r⟩, h2⟩ := h
 rcases hr with ⟨rfl, _⟩ | ⟨g', o, cap, cur, rfl, _, hh', _⟩
 · simp [Value.ownBlock]
 · (
 intro he
 simp [Value.ownBlock] at he
 subst he
 rw [hh] at hh'
 cases hh'))
theorem TCount.ne_blk {b : Nat} {t : TypeId} {cs : Array Value} (h : TCount W g ts) (hb : Blk W b t cs) : ¬ (b = g) := by (
 obtain ⟨D, ⟨es, clock, hh, F, r⟩, h2⟩ := h
 intro e
 subst e
 unfold Blk at hb
 rw [hh] at hb
 cases hb)
theorem TCount.start : TCount (W.alloc (.map #[] 0)) W.heap.size [] :=
 ⟨.map [], World.ownsMap_made _ _ _ _, fun t l hl => rfl, fun l h => (by cases h), fun t ht => (by cases ht)⟩
theorem TCount.bump (h : TCount W g ts) (hn : ts.length < 1000000) {t : Tm} {l : Lit} (hl : keyOf Try.prog 42 t.val = some l) :
 (Instr.lookup 70 (.map (some g)) t.val false).run Try.prog W = .ok (.int .i64 (ts.count t)) W ∧
  ∃ v0 st w1, (Instr.mapEntry 70 (.map (some g)) t.val).run Try.prog W = .ok (.tuple #[v0, goInt st]) w1 ∧ W.grownBy w1 (some g) ∧ (Instr.lookup 70 (.map (some g)) t.val false).run Try.prog w1 = .ok (.int .i64 (ts.count t)) w1 ∧
   ∃ w3, (Instr.entryStore 70 (.map (some g)) (goInt st) (.int .i64 ((ts.count t : Int) + 1))).run Try.prog w1 = .ok () w3 ∧ w1.grownBy w3 (some g) ∧ TCount w3 g (ts ++ [t]) := by (
 obtain ⟨D, hD, hc, hh1, hh2⟩ := h
 have e1 := hc t l hl
 have hcl : ts.count t ≤ ts.length := List.count_le_length
 have hmax : ts.length < maxLen := by unfold maxLen; omega
 obtain ⟨c', p1, p2, v0, st, w1, p3, p4, p5, p6⟩ := map_bump lawTerm Try.underlying70 Try.underlying3 zero47 hD hmax hl
 rw [e1] at p2
 have hcc := lint_inj p2
 rw [← hcc] at p1 p5
 have hwf : (Lit.int .i64 ((ts.count t : Int) + 1)).wf = true := by (
 unfold Lit.wf
 rw [Bool.and_eq_true]
 exact ⟨decide_eq_true (by show (-9223372036854775808 : Int) ≤ _; omega), decide_eq_true (by show _ ≤ (9223372036854775807 : Int); omega)⟩)
 obtain ⟨w3, q1, q2, q3⟩ := p6 _ hwf
 refine ⟨p1, v0, st, w1, p3, p4, p5, w3, q1, q3, ⟨_, by rw [List.length_append]; exact q2, fun t' l' hl' => ?_, fun l' h => ?_, fun t' ht l' hl' => ?_⟩⟩
 · (
 by_cases htt : t' = t
 · (
 subst htt
 rw [hl] at hl'
 have hl' := Option.some.inj hl'
 subst hl'
 rw [atKey_put_same hD.isMap ((Keyed.of_law lawTerm).key hl)]
 simp [List.count_append])
 · (
 have hne : l' ≠ l := fun e => htt (tm_inj (lawTerm.inj (e ▸ hl') hl))
 rw [atKey_put_other hne, hc t' l' hl']
 have : (t == t') = false := by simpa using Ne.symm htt
 simp [List.count_append, List.count_singleton, this]))
 · (
 by_cases hll : l' = l
 · exact ⟨t, by simp, by rw [hll]; exact hl⟩
 · (
 rw [has_put_other hll] at h
 obtain ⟨u, hu, hk⟩ := hh1 l' h
 exact ⟨u, by simp [hu], hk⟩))
 · (
 by_cases hll : l' = l
 · (
 rw [hll]
 exact has_put_same hD.isMap ((Keyed.of_law lawTerm).key hl) _)
 · (
 rw [has_put_other hll]
 rcases List.mem_append.1 ht with e | e
 · exact hh2 t' e l' hl'
 · (
 simp at e
 subst e
 rw [hl] at hl'
 have hl' := Option.some.inj hl'
 exact absurd hl'.symm hll))))
end
abbrev mcells (regs : Int) (A : Option Addr) (l : List Nd) (cap : Nat) (Ai : Option Addr) (ci : Nat) (inp : List Int) (gr gm : Nat) (ov : Value) (s : Rn) : Array Value :=
 #[.int .i64 regs, .slice A l.length cap, .slice Ai (inp.length - s.read) ci, .slice (some ⟨gr, 0, none⟩) regs.toNat regs.toNat, .map (some gm), ov, .int .i64 s.ret, .bool s.ended, .int .i64 s.steps, .slice none 0 0]
structure MSt (w : World) (regs : Int) (A : Option Addr) (l : List Nd) (cap : Nat) (inp : List Int) (mb gr gm : Nat) (Ai : Option Addr) (ci : Nat) (ov : Value) (s : Rn) (W : World) : Prop where
 box : Blk W mb 72 (mcells regs A l cap Ai ci inp gr gm ov s)
 regs : Row W w.heap.size 3 (.slice (some ⟨gr, 0, none⟩) regs.toNat regs.toNat) (ints s.regs)
 out : Row W w.heap.size 3 ov (ints s.out)
 cnt : TCount W gm s.ts
 inv : ValsAt w Ai (ints (inp.drop s.read))
 icap : inp.length - s.read ≤ ci ∧ ci ≤ maxLen
 ne : ov.ownBlock ≠ some gr
 mlo : w.heap.size ≤ mb
 glo : w.heap.size ≤ gm
 below : Below w.heap.size w W
section
variable {w : World} {regs : Int} {A : Option Addr} {l : List Nd} {cap : Nat} {inp : List Int} {mb gr gm : Nat} {Ai : Option Addr} {ci : Nat} {ov : Value} {s : Rn} {W W' : World}
theorem MSt.later (h : MSt w regs A l cap inp mb gr gm Ai ci ov s W) (hb : Below W.heap.size W W') : MSt w regs A l cap inp mb gr gm Ai ci ov s W' :=
 ⟨h.box.below hb h.box.lt, h.regs.below' hb, h.out.below' hb, h.cnt.below hb, h.inv, h.icap, h.ne, h.mlo, h.glo, h.below.trans (hb.mono h.below.size)⟩
theorem MSt.counted (h : MSt w regs A l cap inp mb gr gm Ai ci ov s W) (hg : W.grownBy W' (some gm)) {ts : List Tm} (hc : TCount W' gm ts) : MSt w regs A l cap inp mb gr gm Ai ci ov { s with ts := ts } W' :=
 ⟨h.box.grown hg (by have := h.cnt.ne_blk h.box; simp; exact fun e => this e.symm), h.regs.kept hg (.inr (h.cnt.ne_row h.regs)), h.out.kept hg (.inr (h.cnt.ne_row h.out)), hc, h.inv, h.icap, h.ne, h.mlo, h.glo, h.below.grown hg h.below.size (fun q hq => by have := Option.some.inj hq; have := h.glo; omega)⟩
theorem MSt.ins (h : MSt w regs A l cap inp mb gr gm Ai ci ov s W) : ValsAt W Ai (ints (inp.drop s.read)) := h.inv.below h.below
end
end
section
open Go.RowKit
open Go.Maps
set_option maxHeartbeats 8000000
attribute [local irreducible] Row madeCells TCount
theorem Row.int_ {w : World} {B g n c : Nat} {e : TypeId} {es : List Int} (h : Row w B e (.slice (some ⟨g, 0, none⟩) n c) (ints es)) {k : Nat} (hk : k < es.length) :
 w.cell? ⟨g, k, none⟩ = some (.int .i64 (rg es (k : Int))) ∧ w.frozen? ⟨g, k, none⟩ = false := by (
 obtain ⟨g', o', cp, u, e1, _, _, hu, hc, hf⟩ := h.get (k := k) (by rw [ints_length]; exact hk)
 injection e1 with e1 _ _
 injection e1 with e1
 injection e1 with ea eb _
 subst ea eb
 rw [ints_get, List.getElem?_eq_getElem hk] at hu
 have hr : rg es (k : Int) = es[k] := rg_get (List.getElem?_eq_getElem hk)
 rw [hr]
 simp only [Nat.zero_add] at hc hf
 exact ⟨by rw [hc]; exact hu.symm, hf⟩)
set_option maxRecDepth 100000 in
theorem mreckon_any (w : World) (regs : Int) (A : Option Addr) (l : List Nd) (cap : Nat) (inp : List Int) (mb gr gm : Nat) (Ai : Option Addr) (ci : Nat) (ov : Value) (s : Rn) (W : World) (hM : MSt w regs A l cap inp mb gr gm Ai ci ov s W) (t : Tm) (kl : Lit)
 (hkl : keyOf Try.prog 42 t.val = some kl) (hts : s.ts.length < 1000000) (hlen : s.regs.length = regs.toNat) (hr : regs.toNat ≤ 64) (ha : 0 ≤ t.a ∧ t.a < (regs.toNat : Int)) (hb : 0 ≤ t.b ∧ t.b < (regs.toNat : Int)) :
 Calls Try.prog 58 #[.pointer (some ⟨mb, 0, none⟩), .agg #[.int .i64 t.op, .int .i64 t.a, .int .i64 t.b]] W fun e W' => e = .returned (.int .i64 (reckV t.op (rg s.regs t.a) (rg s.regs t.b))) ∧ MSt w regs A l cap inp mb gr gm Ai ci ov { s with ts := s.ts ++ [t] } W' ∧ W.grownBy W' (some gm) := by (
 obtain ⟨g3, hg3⟩ : ∃ g, g = W.heap.size := ⟨_, rfl⟩
 obtain ⟨W0, hW0⟩ : ∃ W0, W0 = W.alloc (.cells #[.int .i64 t.op, .int .i64 t.a, .int .i64 t.b] 42) := ⟨_, rfl⟩
 have hM0 : MSt w regs A l cap inp mb gr gm Ai ci ov s W0 := by rw [hW0]; exact hM.later ((Below.refl _ _).alloc (Nat.le_refl _) _)
 have hT : Blk W0 g3 42 #[.int .i64 t.op, .int .i64 t.a, .int .i64 t.b] := by rw [hW0]; exact Blk.new' hg3
 obtain ⟨hlook, v0, st, W1, hme, hg1, hlook1, W3, hst, hgw, hc3⟩ := (hM0.cnt.drew).bump hts hkl
 have hlook : (Instr.lookup 70 (.map (some gm)) (.agg #[.int .i64 t.op, .int .i64 t.a, .int .i64 t.b]) false).run Try.prog W0.drew = .ok (.int .i64 (s.ts.count t)) W0.drew := hlook
 have hlook1 : (Instr.lookup 70 (.map (some gm)) (.agg #[.int .i64 t.op, .int .i64 t.a, .int .i64 t.b]) false).run Try.prog W1 = .ok (.int .i64 (s.ts.count t)) W1 := hlook1
 have hme : (Instr.mapEntry 70 (.map (some gm)) (.agg #[.int .i64 t.op, .int .i64 t.a, .int .i64 t.b])).run Try.prog W0.drew = .ok (.tuple #[v0, .int .i64 (st : Int)]) W1 := hme
 have hcl : s.ts.count t ≤ s.ts.length := List.count_le_length
 have hst : (Instr.entryStore 70 (.map (some gm)) (.int .i64 (st : Int)) (.int .i64 (IntKind.i64.wrap ((s.ts.count t : Int) + 1)))).run Try.prog W1 = .ok () W3 := by rw [show IntKind.i64.wrap ((s.ts.count t : Int) + 1) = (s.ts.count t : Int) + 1 by rw [IntKind.wrap_i64]; omega]; exact hst
 have hM3 : MSt w regs A l cap inp mb gr gm Ai ci ov { s with ts := s.ts ++ [t] } W3 := by (
 have h0 : MSt w regs A l cap inp mb gr gm Ai ci ov s W0.drew := hM0.later ((Below.refl _ _).drew)
 have hc1 : W0.drew.grownBy W3 (some gm) := hg1.trans hgw
 exact h0.counted hc1 hc3)
 have hgr : W.grownBy W3 (some gm) := by (
 have h1 : W.grownBy W0.drew (some gm) := by rw [hW0]; exact ⟨rfl, rfl, rfl, by simp, fun k hk _ => Below.heap_alloc W _ k hk⟩
 exact h1.trans (hg1.trans hgw))
 have Hgr := hide hgr
 clear hgr
 have c4 := hM0.box.cell 4
 have t0 := hT.cell 0
 have t1 := hT.cell 1
 have t2 := hT.cell 2
 have lm := hM0.box.lt
 have lt3 := hT.lt
 have nm := hM0.cnt.ne_blk hM0.box
 have nt := hM0.cnt.ne_blk hT
 simp only [Yl] at c4 t0 t1 t2
 have e4 : W1.cell? ⟨mb, 4, none⟩ = some (.map (some gm)) := by rw [hg1.cell_far _ (by simp <;> omega) (by simp; omega)]; exact c4
 have e0 : W1.cell? ⟨g3, 0, none⟩ = some (.int .i64 t.op) := by rw [hg1.cell_far _ (by simp <;> omega) (by simp; omega)]; exact t0
 have e1 : W1.cell? ⟨g3, 1, none⟩ = some (.int .i64 t.a) := by rw [hg1.cell_far _ (by simp <;> omega) (by simp; omega)]; exact t1
 have e2 : W1.cell? ⟨g3, 2, none⟩ = some (.int .i64 t.b) := by rw [hg1.cell_far _ (by simp <;> omega) (by simp; omega)]; exact t2
 have hs1 := hg1.size
 simp only [World.size_drew] at hs1
 have f4 : W3.cell? ⟨mb, 4, none⟩ = some (.map (some gm)) := by rw [hgw.cell_far _ (by simp <;> omega) (by simp; omega)]; exact e4
 have f0 : W3.cell? ⟨g3, 0, none⟩ = some (.int .i64 t.op) := by rw [hgw.cell_far _ (by simp <;> omega) (by simp; omega)]; exact e0
 have f1 : W3.cell? ⟨g3, 1, none⟩ = some (.int .i64 t.a) := by rw [hgw.cell_far _ (by simp <;> omega) (by simp; omega)]; exact e1
 have f2 : W3.cell? ⟨g3, 2, none⟩ = some (.int .i64 t.b) := by rw [hgw.cell_far _ (by simp <;> omega) (by simp; omega)]; exact e2
 have f3 := hM3.box.cell 3
 simp only [Yl] at f3
 have ra := (hM3.regs.int_ (k := t.a.toNat) (by show _ < s.regs.length; omega)).1
 have rb := (hM3.regs.int_ (k := t.b.toNat) (by show _ < s.regs.length; omega)).1
 rw [Int.toNat_of_nonneg ha.1] at ra
 rw [Int.toNat_of_nonneg hb.1] at rb
 obtain ⟨ha0, ha1⟩ := ha
 obtain ⟨hb0, hb1⟩ := hb
 generalize hxa : rg s.regs t.a = xa at ra ⊢
 generalize hxb : rg s.regs t.b = xb at rb ⊢
 have HM3 := hide hM3
 have HW0 := hide hW0
 have Hg3 := hide hg3
 clear hg3
 obtain ⟨cn, hcn⟩ : ∃ c, c = s.ts.count t := ⟨_, rfl⟩
 rw [← hcn] at hlook hlook1 hst hcl
 clear hM hM0 hT hg1 hgw hc3 hM3 hW0 hs1 hkl hxa hxb hcn
 go_enter Try.func58, Try.ntmps58
 go_upto_region 1 with fail
 rw [← HW0.out, ← Hg3.out]
 refine wp_region_held_drew (S := fun w' => w'.cell? ⟨mb, 4, none⟩ = some (.map (some gm)) ∧ w'.cell? ⟨g3, 0, none⟩ = some (.int .i64 t.op) ∧ w'.cell? ⟨g3, 1, none⟩ = some (.int .i64 t.a) ∧ w'.cell? ⟨g3, 2, none⟩ = some (.int .i64 t.b)) (by kernel_rfl) ⟨c4, t0, t1, t2⟩ ?_
 intro hH
 refine Up (fun _ _ _ _ _ => id) fun hP => ?_
 refine Vi 0 ?_ rfl (by kernel_rfl) hP (by rfl) ?r hH ?_; case r => intro w' h; (try dsimp only at h); go_simp; try with_reducible rfl
 try simp only [Nm]
 refine Vi 1 ?_ rfl (by kernel_rfl) hP (by rfl) ?r hH ?_; case r => intro w' h; (try dsimp only at h); go_simp; try with_reducible rfl
 try simp only [Nm]
 refine Vi 2 ?_ rfl (by kernel_rfl) hP (by rfl) ?r hH ?_; case r => intro w' h; (try dsimp only at h); go_simp; try with_reducible rfl
 try simp only [Nm]
 refine Vi 3 ?_ rfl (by kernel_rfl) hP (by rfl) ?r hH ?_; case r => intro w' h; (try dsimp only at h); go_simp; try with_reducible rfl
 try simp only [Nm]
 refine Vi 4 ?_ rfl (by kernel_rfl) hP (by rfl) ?r hH ?_; case r => intro w' h; (try dsimp only at h); go_simp; try with_reducible rfl
 try simp only [Nm]
 refine wpAnyH_ready (rs := [5, 7]) (by kernel_rfl) (by simp) ?_
 refine AllReadyH.cons rfl (fun K hK => ?_) (AllReadyH.cons rfl (fun K hK => ?_) AllReadyH.nil)
 · (
 have HK5 := hide hK
 clear hK
 go_simp
 refine Shut.out HK5.out _ _ hH (fun _ => ?_)
 try simp only [Nm]
 refine Vi 6 ?_ rfl (by kernel_rfl) hP (by rfl) ?r hH ?_; case r => intro w' h; (try dsimp only at h); go_simp; try with_reducible rfl
 try simp only [Nm]
 refine Rd 7 (by kernel_rfl) rfl (fun K hK => ?_)
 have HK7 := hide hK
 clear hK
 go_simp
 refine Shut.out HK7.out _ _ ⟨e4, e0, e1, e2⟩ (fun hH => ?_)
 try simp only [Nm]
 refine Vi 8 ?_ rfl (by kernel_rfl) hP (by rfl) ?r hH ?_; case r => intro w' h; (try dsimp only at h); go_simp; try with_reducible rfl
 try simp only [Nm]
 refine Rd 9 (by kernel_rfl) rfl (fun K hK => ?_)
 have HK9 := hide hK
 clear hK
 go_simp
 refine Shut.out HK9.out _ _ ⟨f4, f0, f1, f2⟩ (fun hH => ?_)
 try simp only [Nm]
 refine wpAnyH_done (by kernel_rfl) ?_ _
 clear hH HK5 HK7 HK9 t0 t1 t2 c4 e0 e1 e2 e4 hlook hme hlook1 hst
 go_upto_region 2 with fail
 go_quiet (fail)
 go_wp2
 all_goals go_tidy
 all_goals go_ret
 all_goals exact ⟨ret_int (by simp_all [reckV]), HM3.out.later (below_drewN (Below.refl _ _) _), Hgr.out.trans ⟨rfl, rfl, rfl, Nat.le_refl _, fun _ _ _ => rfl⟩⟩)
 · (
 have HK7 := hide hK
 clear hK
 go_simp
 refine Shut.out HK7.out _ _ ⟨e4, e0, e1, e2⟩ (fun hH => ?_)
 try simp only [Nm]
 refine Vi 8 ?_ rfl (by kernel_rfl) hP (by rfl) ?r hH ?_; case r => intro w' h; (try dsimp only at h); go_simp; try with_reducible rfl
 try simp only [Nm]
 refine Rd 5 (by kernel_rfl) rfl (fun K hK => ?_)
 have HK5 := hide hK
 clear hK
 go_simp
 refine Shut.out HK5.out _ _ hH (fun _ => ?_)
 try simp only [Nm]
 refine Vi 6 ?_ rfl (by kernel_rfl) hP (by rfl) ?r hH ?_; case r => intro w' h; (try dsimp only at h); go_simp; try with_reducible rfl
 try simp only [Nm]
 refine Rd 9 (by kernel_rfl) rfl (fun K hK => ?_)
 have HK9 := hide hK
 clear hK
 go_simp
 refine Shut.out HK9.out _ _ ⟨f4, f0, f1, f2⟩ (fun hH => ?_)
 try simp only [Nm]
 refine wpAnyH_done (by kernel_rfl) ?_ _
 clear hH HK5 HK7 HK9 t0 t1 t2 c4 e0 e1 e2 e4 hlook hme hlook1 hst
 go_upto_region 2 with fail
 go_quiet (fail)
 go_wp2
 all_goals go_tidy
 all_goals go_ret
 all_goals exact ⟨ret_int (by simp_all [reckV]), HM3.out.later (below_drewN (Below.refl _ _) _), Hgr.out.trans ⟨rfl, rfl, rfl, Nat.le_refl _, fun _ _ _ => rfl⟩⟩))
end
end Go.Proofs.Ytmghkonmfbpjcab
