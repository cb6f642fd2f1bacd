/- RunM RunS. -/
import Derived.Test.YtmghkonmfbpjcaaGreatDoorGI
import Derived.Test.YtmghkonmfbpjcaaGreatDoorGH
import Derived.Test.YtmghkonmfbpjcaaGreatDoorGA
import Derived.Deep.RegionHeld3
import Derived.Deep.QuietTactic
import Derived.Deep.DeepCutAuto
set_option linter.unusedVariables false
set_option linter.unusedSimpArgs false
namespace Go.Proofs.YtmghkonmfbpjcaaGreatDoor
section
open Go.RowKit
open Go.Maps
set_option maxHeartbeats 4000000
def TCount (W : World) (g : Nat) (ts : List Tm) : Prop :=
 ∃ D : DataW Unit, W.ownsMap Tryz.prog 41 (plainElem Tryz.prog 3) g ts.length D ∧ (∀ (t : Tm) (l : Lit), keyOf Tryz.prog 41 t.val = some l → D.atKey l (.lit (.int .i64 0)) = .lit (.int .i64 (ts.count t)))
  ∧ (∀ l, Maps.has D l = true → ∃ t ∈ ts, keyOf Tryz.prog 41 t.val = some l) ∧ (∀ t ∈ ts, ∀ l, keyOf Tryz.prog 41 t.val = some l → Maps.has D l = true)
section
variable {W W' : World} {g : Nat} {ts : List Tm}
theorem TCount.own {row : Option Nat} (h : TCount W g ts) (hg : W.grownBy W' row) (hr : row ≠ some g) : TCount W' g ts := by (
 obtain ⟨D, h1, h2⟩ := h
 exact ⟨D, h1.kept hg (Ne.symm hr), h2⟩)
theorem TCount.below (h : TCount W g ts) (hb : Below W.heap.size W W') : TCount W' g ts := by (
 obtain ⟨D, ⟨es, clock, hh, F, r⟩, h2⟩ := h
 exact ⟨D, ⟨es, clock, (hb.block g (lt_of_heap hh)).trans hh, F, r⟩, h2⟩)
theorem TCount.drew (h : TCount W g ts) : TCount W.drew g ts := h
theorem TCount.set (h : TCount W g ts) {p : Addr} (hp : g ≠ p.block) (u : Value) : TCount (W.setCell p u) g ts := by (
 obtain ⟨D, h1, h2⟩ := h
 exact ⟨D, h1.setCell hp u, h2⟩)
theorem TCount.ne_row {B : Nat} {e : TypeId} {v : Value} {xs : List Value} (h : TCount W g ts) (hr : Row W B e v xs) : v.ownBlock ≠ some g := by (
 obtain ⟨D, ⟨es, clock, hh, F, r⟩, h2⟩ := h
 rcases hr with ⟨rfl, _⟩ | ⟨g', o, cap, cur, rfl, _, hh', _⟩
 · simp [Value.ownBlock]
 · (
 intro he
 simp [Value.ownBlock] at he
 subst he
 rw [hh] at hh'
 cases hh'))
theorem TCount.ne_blk {b : Nat} {t : TypeId} {cs : Array Value} (h : TCount W g ts) (hb : Blk W b t cs) : ¬ (b = g) := by (
 obtain ⟨D, ⟨es, clock, hh, F, r⟩, h2⟩ := h
 intro e
 subst e
 unfold Blk at hb
 rw [hh] at hb
 cases hb)
theorem TCount.start : TCount (W.alloc (.map #[] 0)) W.heap.size [] :=
 ⟨.map [], World.ownsMap_made _ _ _ _, fun t l hl => rfl, fun l h => (by cases h), fun t ht => (by cases ht)⟩
theorem TCount.bump (h : TCount W g ts) (hn : ts.length < 1000000) {t : Tm} {l : Lit} (hl : keyOf Tryz.prog 41 t.val = some l) :
 (Instr.lookup 61 (.map (some g)) t.val false).run Tryz.prog W = .ok (.int .i64 (ts.count t)) W ∧
  ∃ v0 st w1, (Instr.mapEntry 61 (.map (some g)) t.val).run Tryz.prog W = .ok (.tuple #[v0, goInt st]) w1 ∧ W.grownBy w1 (some g) ∧ (Instr.lookup 61 (.map (some g)) t.val false).run Tryz.prog w1 = .ok (.int .i64 (ts.count t)) w1 ∧
   ∃ w3, (Instr.entryStore 61 (.map (some g)) (goInt st) (.int .i64 ((ts.count t : Int) + 1))).run Tryz.prog w1 = .ok () w3 ∧ w1.grownBy w3 (some g) ∧ TCount w3 g (ts ++ [t]) := by (
 obtain ⟨D, hD, hc, hh1, hh2⟩ := h
 have e1 := hc t l hl
 have hcl : ts.count t ≤ ts.length := List.count_le_length
 have hmax : ts.length < maxLen := by unfold maxLen; omega
 obtain ⟨c', p1, p2, v0, st, w1, p3, p4, p5, p6⟩ := map_bump lawTerm Tryz.underlying61 Tryz.underlying3 zero47 hD hmax hl
 rw [e1] at p2
 have hcc := lint_inj p2
 rw [← hcc] at p1 p5
 have hwf : (Lit.int .i64 ((ts.count t : Int) + 1)).wf = true := by (
 unfold Lit.wf
 rw [Bool.and_eq_true]
 exact ⟨decide_eq_true (by show (-9223372036854775808 : Int) ≤ _; omega), decide_eq_true (by show _ ≤ (9223372036854775807 : Int); omega)⟩)
 obtain ⟨w3, q1, q2, q3⟩ := p6 _ hwf
 refine ⟨p1, v0, st, w1, p3, p4, p5, w3, q1, q3, ⟨_, by rw [List.length_append]; exact q2, fun t' l' hl' => ?_, fun l' h => ?_, fun t' ht l' hl' => ?_⟩⟩
 · (
 by_cases htt : t' = t
 · (
 subst htt
 rw [hl] at hl'
 have hl' := Option.some.inj hl'
 subst hl'
 rw [atKey_put_same hD.isMap ((Keyed.of_law lawTerm).key hl)]
 simp [List.count_append])
 · (
 have hne : l' ≠ l := fun e => htt (tm_inj (lawTerm.inj (e ▸ hl') hl))
 rw [atKey_put_other hne, hc t' l' hl']
 have : (t == t') = false := by simpa using Ne.symm htt
 simp [List.count_append, List.count_singleton, this]))
 · (
 by_cases hll : l' = l
 · exact ⟨t, by simp, by rw [hll]; exact hl⟩
 · (
 rw [has_put_other hll] at h
 obtain ⟨u, hu, hk⟩ := hh1 l' h
 exact ⟨u, by simp [hu], hk⟩))
 · (
 by_cases hll : l' = l
 · (
 rw [hll]
 exact has_put_same hD.isMap ((Keyed.of_law lawTerm).key hl) _)
 · (
 rw [has_put_other hll]
 rcases List.mem_append.1 ht with e | e
 · exact hh2 t' e l' hl'
 · (
 simp at e
 subst e
 rw [hl] at hl'
 have hl' := Option.some.inj hl'
 exact absurd hl'.symm hll))))
end
abbrev mcells (regs : Int) (A : Option Addr) (l : List Nd) (cap : Nat) (Ai : Option Addr) (ci : Nat) (inp : List Int) (gr gm : Nat) (ov : Value) (s : Rn) : Array Value :=
 #[.int .i64 regs, .slice A l.length cap, .slice Ai (inp.length - s.read) ci, .slice (some ⟨gr, 0, none⟩) regs.toNat regs.toNat, .map (some gm), ov, .int .i64 s.ret, .bool s.ended, .int .i64 s.steps, .slice none 0 0]
structure MSt (w : World) (regs : Int) (A : Option Addr) (l : List Nd) (cap : Nat) (inp : List Int) (mb gr gm : Nat) (Ai : Option Addr) (ci : Nat) (ov : Value) (s : Rn) (W : World) : Prop where
 box : Blk W mb 63 (mcells regs A l cap Ai ci inp gr gm ov s)
 regs : Row W w.heap.size 3 (.slice (some ⟨gr, 0, none⟩) regs.toNat regs.toNat) (ints s.regs)
 out : Row W w.heap.size 3 ov (ints s.out)
 cnt : TCount W gm s.ts
 inv : ValsAt w Ai (ints (inp.drop s.read))
 icap : inp.length - s.read ≤ ci ∧ ci ≤ maxLen
 ne : ov.ownBlock ≠ some gr
 mlo : w.heap.size ≤ mb
 glo : w.heap.size ≤ gm
 below : Below w.heap.size w W
section
variable {w : World} {regs : Int} {A : Option Addr} {l : List Nd} {cap : Nat} {inp : List Int} {mb gr gm : Nat} {Ai : Option Addr} {ci : Nat} {ov : Value} {s : Rn} {W W' : World}
theorem MSt.later (h : MSt w regs A l cap inp mb gr gm Ai ci ov s W) (hb : Below W.heap.size W W') : MSt w regs A l cap inp mb gr gm Ai ci ov s W' :=
 ⟨h.box.below hb h.box.lt, h.regs.below' hb, h.out.below' hb, h.cnt.below hb, h.inv, h.icap, h.ne, h.mlo, h.glo, h.below.trans (hb.mono h.below.size)⟩
theorem MSt.counted (h : MSt w regs A l cap inp mb gr gm Ai ci ov s W) (hg : W.grownBy W' (some gm)) {ts : List Tm} (hc : TCount W' gm ts) : MSt w regs A l cap inp mb gr gm Ai ci ov { s with ts := ts } W' :=
 ⟨h.box.grown hg (by have := h.cnt.ne_blk h.box; simp; exact fun e => this e.symm), h.regs.kept hg (.inr (h.cnt.ne_row h.regs)), h.out.kept hg (.inr (h.cnt.ne_row h.out)), hc, h.inv, h.icap, h.ne, h.mlo, h.glo, h.below.grown hg h.below.size (fun q hq => by have := Option.some.inj hq; have := h.glo; omega)⟩
theorem MSt.ins (h : MSt w regs A l cap inp mb gr gm Ai ci ov s W) : ValsAt W Ai (ints (inp.drop s.read)) := h.inv.below h.below
end
end
section
open Go.RowKit
open Go.Maps
set_option maxHeartbeats 8000000
attribute [local irreducible] Row madeCells TCount
theorem Row.int_ {w : World} {B g n c : Nat} {e : TypeId} {es : List Int} (h : Row w B e (.slice (some ⟨g, 0, none⟩) n c) (ints es)) {k : Nat} (hk : k < es.length) :
 w.cell? ⟨g, k, none⟩ = some (.int .i64 (rg es (k : Int))) ∧ w.frozen? ⟨g, k, none⟩ = false := by (
 obtain ⟨g', o', cp, u, e1, _, _, hu, hc, hf⟩ := h.get (k := k) (by rw [ints_length]; exact hk)
 injection e1 with e1 _ _
 injection e1 with e1
 injection e1 with ea eb _
 subst ea eb
 rw [ints_get, List.getElem?_eq_getElem hk] at hu
 have hr : rg es (k : Int) = es[k] := rg_get (List.getElem?_eq_getElem hk)
 rw [hr]
 simp only [Nat.zero_add] at hc hf
 exact ⟨by rw [hc]; exact hu.symm, hf⟩)
set_option maxRecDepth 100000 in
theorem mreckon_any (w : World) (regs : Int) (A : Option Addr) (l : List Nd) (cap : Nat) (inp : List Int) (mb gr gm : Nat) (Ai : Option Addr) (ci : Nat) (ov : Value) (s : Rn) (W : World) (hM : MSt w regs A l cap inp mb gr gm Ai ci ov s W) (t : Tm) (kl : Lit)
 (hkl : keyOf Tryz.prog 41 t.val = some kl) (hts : s.ts.length < 1000000) (hlen : s.regs.length = regs.toNat) (hr : regs.toNat ≤ 64) (ha : 0 ≤ t.a ∧ t.a < (regs.toNat : Int)) (hb : 0 ≤ t.b ∧ t.b < (regs.toNat : Int)) :
 Calls Tryz.prog 69 #[.pointer (some ⟨mb, 0, none⟩), .agg #[.int .i64 t.op, .int .i64 t.a, .int .i64 t.b]] W fun e W' => e = .returned (.int .i64 (reckV t.op (rg s.regs t.a) (rg s.regs t.b))) ∧ MSt w regs A l cap inp mb gr gm Ai ci ov { s with ts := s.ts ++ [t] } W' ∧ W.grownBy W' (some gm) := by (
 obtain ⟨g3, hg3⟩ : ∃ g, g = W.heap.size := ⟨_, rfl⟩
 obtain ⟨W0, hW0⟩ : ∃ W0, W0 = W.alloc (.cells #[.int .i64 t.op, .int .i64 t.a, .int .i64 t.b] 41) := ⟨_, rfl⟩
 have hM0 : MSt w regs A l cap inp mb gr gm Ai ci ov s W0 := by rw [hW0]; exact hM.later ((Below.refl _ _).alloc (Nat.le_refl _) _)
 have hT : Blk W0 g3 41 #[.int .i64 t.op, .int .i64 t.a, .int .i64 t.b] := by rw [hW0]; exact Blk.new' hg3
 obtain ⟨hlook, v0, st, W1, hme, hg1, hlook1, W3, hst, hgw, hc3⟩ := (hM0.cnt.drew).bump hts hkl
 have hlook : (Instr.lookup 61 (.map (some gm)) (.agg #[.int .i64 t.op, .int .i64 t.a, .int .i64 t.b]) false).run Tryz.prog W0.drew = .ok (.int .i64 (s.ts.count t)) W0.drew := hlook
 have hlook1 : (Instr.lookup 61 (.map (some gm)) (.agg #[.int .i64 t.op, .int .i64 t.a, .int .i64 t.b]) false).run Tryz.prog W1 = .ok (.int .i64 (s.ts.count t)) W1 := hlook1
 have hme : (Instr.mapEntry 61 (.map (some gm)) (.agg #[.int .i64 t.op, .int .i64 t.a, .int .i64 t.b])).run Tryz.prog W0.drew = .ok (.tuple #[v0, .int .i64 (st : Int)]) W1 := hme
 have hcl : s.ts.count t ≤ s.ts.length := List.count_le_length
 have hst : (Instr.entryStore 61 (.map (some gm)) (.int .i64 (st : Int)) (.int .i64 (IntKind.i64.wrap ((s.ts.count t : Int) + 1)))).run Tryz.prog W1 = .ok () W3 := by rw [show IntKind.i64.wrap ((s.ts.count t : Int) + 1) = (s.ts.count t : Int) + 1 by rw [IntKind.wrap_i64]; omega]; exact hst
 have hM3 : MSt w regs A l cap inp mb gr gm Ai ci ov { s with ts := s.ts ++ [t] } W3 := by (
 have h0 : MSt w regs A l cap inp mb gr gm Ai ci ov s W0.drew := hM0.later ((Below.refl _ _).drew)
 have hc1 : W0.drew.grownBy W3 (some gm) := hg1.trans hgw
 exact h0.counted hc1 hc3)
 have hgr : W.grownBy W3 (some gm) := by (
 have h1 : W.grownBy W0.drew (some gm) := by rw [hW0]; exact ⟨rfl, rfl, rfl, by simp, fun k hk _ => Below.heap_alloc W _ k hk⟩
 exact h1.trans (hg1.trans hgw))
 have Hgr := hide hgr
 clear hgr
 have c4 := hM0.box.cell 4
 have t0 := hT.cell 0
 have t1 := hT.cell 1
 have t2 := hT.cell 2
 have lm := hM0.box.lt
 have lt3 := hT.lt
 have nm := hM0.cnt.ne_blk hM0.box
 have nt := hM0.cnt.ne_blk hT
 simp only [Yl] at c4 t0 t1 t2
 have e4 : W1.cell? ⟨mb, 4, none⟩ = some (.map (some gm)) := by rw [hg1.cell_far _ (by simp <;> omega) (by simp; omega)]; exact c4
 have e0 : W1.cell? ⟨g3, 0, none⟩ = some (.int .i64 t.op) := by rw [hg1.cell_far _ (by simp <;> omega) (by simp; omega)]; exact t0
 have e1 : W1.cell? ⟨g3, 1, none⟩ = some (.int .i64 t.a) := by rw [hg1.cell_far _ (by simp <;> omega) (by simp; omega)]; exact t1
 have e2 : W1.cell? ⟨g3, 2, none⟩ = some (.int .i64 t.b) := by rw [hg1.cell_far _ (by simp <;> omega) (by simp; omega)]; exact t2
 have hs1 := hg1.size
 simp only [World.size_drew] at hs1
 have f4 : W3.cell? ⟨mb, 4, none⟩ = some (.map (some gm)) := by rw [hgw.cell_far _ (by simp <;> omega) (by simp; omega)]; exact e4
 have f0 : W3.cell? ⟨g3, 0, none⟩ = some (.int .i64 t.op) := by rw [hgw.cell_far _ (by simp <;> omega) (by simp; omega)]; exact e0
 have f1 : W3.cell? ⟨g3, 1, none⟩ = some (.int .i64 t.a) := by rw [hgw.cell_far _ (by simp <;> omega) (by simp; omega)]; exact e1
 have f2 : W3.cell? ⟨g3, 2, none⟩ = some (.int .i64 t.b) := by rw [hgw.cell_far _ (by simp <;> omega) (by simp; omega)]; exact e2
 have f3 := hM3.box.cell 3
 simp only [Yl] at f3
 have ra := (hM3.regs.int_ (k := t.a.toNat) (by show _ < s.regs.length; omega)).1
 have rb := (hM3.regs.int_ (k := t.b.toNat) (by show _ < s.regs.length; omega)).1
 rw [Int.toNat_of_nonneg ha.1] at ra
 rw [Int.toNat_of_nonneg hb.1] at rb
 obtain ⟨ha0, ha1⟩ := ha
 obtain ⟨hb0, hb1⟩ := hb
 generalize hxa : rg s.regs t.a = xa at ra ⊢
 generalize hxb : rg s.regs t.b = xb at rb ⊢
 have HM3 := hide hM3
 have HW0 := hide hW0
 have Hg3 := hide hg3
 clear hg3
 obtain ⟨cn, hcn⟩ : ∃ c, c = s.ts.count t := ⟨_, rfl⟩
 rw [← hcn] at hlook hlook1 hst hcl
 clear hM hM0 hT hg1 hgw hc3 hM3 hW0 hs1 hkl hxa hxb hcn
 go_enter Tryz.func69, Tryz.ntmps69
 go_upto_region 1 with fail
 rw [← HW0.out, ← Hg3.out]
 refine wp_region_held_drew (S := fun w' => w'.cell? ⟨mb, 4, none⟩ = some (.map (some gm)) ∧ w'.cell? ⟨g3, 0, none⟩ = some (.int .i64 t.op) ∧ w'.cell? ⟨g3, 1, none⟩ = some (.int .i64 t.a) ∧ w'.cell? ⟨g3, 2, none⟩ = some (.int .i64 t.b)) (by kernel_rfl) ⟨c4, t0, t1, t2⟩ ?_
 intro hH
 refine Up (fun _ _ _ _ _ => id) fun hP => ?_
 refine Vi 0 ?_ rfl (by kernel_rfl) hP (by rfl) ?r hH ?_; case r => intro w' h; (try dsimp only at h); go_simp; try with_reducible rfl
 try simp only [Nm]
 refine Vi 1 ?_ rfl (by kernel_rfl) hP (by rfl) ?r hH ?_; case r => intro w' h; (try dsimp only at h); go_simp; try with_reducible rfl
 try simp only [Nm]
 refine Vi 2 ?_ rfl (by kernel_rfl) hP (by rfl) ?r hH ?_; case r => intro w' h; (try dsimp only at h); go_simp; try with_reducible rfl
 try simp only [Nm]
 refine Vi 3 ?_ rfl (by kernel_rfl) hP (by rfl) ?r hH ?_; case r => intro w' h; (try dsimp only at h); go_simp; try with_reducible rfl
 try simp only [Nm]
 refine Vi 4 ?_ rfl (by kernel_rfl) hP (by rfl) ?r hH ?_; case r => intro w' h; (try dsimp only at h); go_simp; try with_reducible rfl
 try simp only [Nm]
 refine wpAnyH_ready (rs := [5, 7]) (by kernel_rfl) (by simp) ?_
 refine AllReadyH.cons rfl (fun K hK => ?_) (AllReadyH.cons rfl (fun K hK => ?_) AllReadyH.nil)
 · (
 have HK5 := hide hK
 clear hK
 go_simp
 refine Shut.out HK5.out _ _ hH (fun _ => ?_)
 try simp only [Nm]
 refine Vi 6 ?_ rfl (by kernel_rfl) hP (by rfl) ?r hH ?_; case r => intro w' h; (try dsimp only at h); go_simp; try with_reducible rfl
 try simp only [Nm]
 refine Rd 7 (by kernel_rfl) rfl (fun K hK => ?_)
 have HK7 := hide hK
 clear hK
 go_simp
 refine Shut.out HK7.out _ _ ⟨e4, e0, e1, e2⟩ (fun hH => ?_)
 try simp only [Nm]
 refine Vi 8 ?_ rfl (by kernel_rfl) hP (by rfl) ?r hH ?_; case r => intro w' h; (try dsimp only at h); go_simp; try with_reducible rfl
 try simp only [Nm]
 refine Rd 9 (by kernel_rfl) rfl (fun K hK => ?_)
 have HK9 := hide hK
 clear hK
 go_simp
 refine Shut.out HK9.out _ _ ⟨f4, f0, f1, f2⟩ (fun hH => ?_)
 try simp only [Nm]
 refine wpAnyH_done (by kernel_rfl) ?_ _
 clear hH HK5 HK7 HK9 t0 t1 t2 c4 e0 e1 e2 e4 hlook hme hlook1 hst
 go_upto_region 2 with fail
 go_quiet (fail)
 go_wp2
 all_goals go_tidy
 all_goals go_ret
 all_goals exact ⟨ret_int (by simp_all [reckV]), HM3.out.later (below_drewN (Below.refl _ _) _), Hgr.out.trans ⟨rfl, rfl, rfl, Nat.le_refl _, fun _ _ _ => rfl⟩⟩)
 · (
 have HK7 := hide hK
 clear hK
 go_simp
 refine Shut.out HK7.out _ _ ⟨e4, e0, e1, e2⟩ (fun hH => ?_)
 try simp only [Nm]
 refine Vi 8 ?_ rfl (by kernel_rfl) hP (by rfl) ?r hH ?_; case r => intro w' h; (try dsimp only at h); go_simp; try with_reducible rfl
 try simp only [Nm]
 refine Rd 5 (by kernel_rfl) rfl (fun K hK => ?_)
 have HK5 := hide hK
 clear hK
 go_simp
 refine Shut.out HK5.out _ _ hH (fun _ => ?_)
 try simp only [Nm]
 refine Vi 6 ?_ rfl (by kernel_rfl) hP (by rfl) ?r hH ?_; case r => intro w' h; (try dsimp only at h); go_simp; try with_reducible rfl
 try simp only [Nm]
 refine Rd 9 (by kernel_rfl) rfl (fun K hK => ?_)
 have HK9 := hide hK
 clear hK
 go_simp
 refine Shut.out HK9.out _ _ ⟨f4, f0, f1, f2⟩ (fun hH => ?_)
 try simp only [Nm]
 refine wpAnyH_done (by kernel_rfl) ?_ _
 clear hH HK5 HK7 HK9 t0 t1 t2 c4 e0 e1 e2 e4 hlook hme hlook1 hst
 go_upto_region 2 with fail
 go_quiet (fail)
 go_wp2
 all_goals go_tidy
 all_goals go_ret
 all_goals exact ⟨ret_int (by simp_all [reckV]), HM3.out.later (below_drewN (Below.refl _ _) _), Hgr.out.trans ⟨rfl, rfl, rfl, Nat.le_refl _, fun _ _ _ => rfl⟩⟩))
end
end Go.Proofs.YtmghkonmfbpjcaaGreatDoor
