/- Parts. -/
import Derived.Test.YtmghkonmfbpjcabGreatDoorMvW
set_option linter.unusedVariables false
set_option linter.unusedSimpArgs false
set_option maxRecDepth 100000
set_option maxHeartbeats 16000000
namespace Go.Proofs.YtmghkonmfbpjcabGreatDoor
open Go.RowKit
open Go.Proofs.Tryz
section
open Go.Maps
attribute [local irreducible] Row bO madeCells
theorem bNJ : laidOutB prog = true := Zc
theorem qJ : prog.cellsOf 56 = 3 := Zc
theorem bEG : prog.cellsOf 3 = 1 := Zc
theorem bLG : (match prog.underlying 56 with | some (.array _ _) | some (.struct _) => true | _ => false) = true := by rw [underlying56]
theorem bPC : 56 < prog.types.size := of_decide_eq_true Zc
theorem bNX : prog.keyTypeAt 2 56 = true := Zc
theorem bRO {P : Program} {k : TypeId} (hl : laidOutB P = true) (hr : k < P.types.size) (hd : P.keyTypeAt 2 k = true) (hw : (match P.underlying k with | some (.array _ _) | some (.struct _) => true | _ => false) = true) : Go.WideMaps.KeyLaw P k := deep_law_laid hl (m := 2) Zb hr hd hw
theorem fI : Go.WideMaps.KeyLaw prog 56 := bRO bNJ bPC bNX bLG
theorem bIJ (t : Tm) (h0 : (Lit.int .i64 t.op).wf = true) (h1 : (Lit.int .i64 t.a).wf = true) (h2 : (Lit.int .i64 t.b).wf = true) : ∃ l, keyOf prog 56 t.val = some l := by (
 obtain ⟨s, hs⟩ : ∃ s, prog.types.size + 1 = s + 2 := ⟨prog.types.size - 1, Zc⟩
 have hk : prog.keyType 56 = true := Zc
 have hf : t.val.formed prog 56 = true := by simp [Value.formed, Tm.val, underlying56, qJ]
 have hl : prog.keyLits (prog.types.size + 1) 56 t.val.cells.toList = some [.int .i64 t.op, .int .i64 t.a, .int .i64 t.b] := by (
 rw [hs]
 simp [Program.keyLits, underlying56, underlying3, qJ, bEG, Tm.val, Value.cells, h0, h1, h2])
 refine ⟨.string (keyBytes [.int .i64 t.op, .int .i64 t.a, .int .i64 t.b]), ?_⟩
 unfold keyOf
 rw [underlying56]
 show (if (prog.keyType 56 && t.val.formed prog 56) = true then (prog.keyLits (prog.types.size + 1) 56 t.val.cells.toList).map fun ls => Lit.string (keyBytes ls) else none) = _
 rw [hk, hf, hl]
 rfl)
theorem bFJ (w : World) : (zeroValue 3).run prog w = .ok (.int .i64 0) w := Zc
def fW (W : World) (g n : Nat) (ts : List Tm) : Prop :=
 ∃ D : DataW Unit, W.ownsMap prog 56 (plainElem prog 3) g n D ∧ ∀ (t : Tm) (l : Lit), keyOf prog 56 t.val = some l → ∃ c : Nat, D.atKey l (.lit (.int .i64 0)) = .lit (.int .i64 c) ∧ c ≤ n ∧ (c = 0 ↔ ts.contains t = false)
theorem fW.own {W W' : World} {g n : Nat} {ts : List Tm} {row : Option Nat} (h : fW W g n ts) (hg : W.grownBy W' row) (hr : row ≠ some g) : fW W' g n ts := by (
 obtain ⟨D, h1, h2⟩ := h
 exact ⟨D, h1.kept hg (Ne.symm hr), h2⟩)
theorem fW.below {W W' : World} {g n : Nat} {ts : List Tm} (h : fW W g n ts) (hb : Below W.heap.size W W') : fW W' g n ts := by (
 obtain ⟨D, ⟨es, clock, hh, F, r⟩, h2⟩ := h
 exact ⟨D, ⟨es, clock, (hb.block g (cJ hh)).trans hh, F, r⟩, h2⟩)
theorem fW.drew {W : World} {g n : Nat} {ts : List Tm} (h : fW W g n ts) : fW W.drew g n ts := h
theorem fW.mono {W : World} {g n n' : Nat} {ts : List Tm} (h : fW W g n ts) (hn : n ≤ n') : fW W g n' ts := by (
 obtain ⟨D, h1, h2⟩ := h
 refine ⟨D, h1.mono hn, fun t l hl => ?_⟩
 obtain ⟨c, e1, e2, e3⟩ := h2 t l hl
 exact ⟨c, e1, Zb, e3⟩)
theorem fW.ne_row {W : World} {B g n : Nat} {ts us : List Tm} {e : TypeId} {v : Value} (h : fW W g n ts) (hr : bEX W B e v us) : v.ownBlock ≠ some g := by (
 obtain ⟨D, ⟨es, clock, hh, F, r⟩, h2⟩ := h
 rcases hr.open with ⟨rfl, _⟩ | ⟨g', cap, cur, rfl, _, hh', _⟩
 · exact Jb
 · (
 intro he
 simp [Value.ownBlock] at he
 subst he
 rw [hh] at hh'
 cases hh'))
theorem fW.lt {W : World} {g n : Nat} {ts : List Tm} (h : fW W g n ts) : g < W.heap.size := by (
 obtain ⟨D, h1, h2⟩ := h
 exact h1.lt)
theorem vH {t t' : Tm} (h : t.val = t'.val) : t = t' := by (
 cases t
 cases t'
 simp [Tm.val] at h
 simp [h])
theorem fW.bump {W : World} {g n : Nat} {ts : List Tm} (h : fW W g n ts) (hn : n < 1000) {t : Tm} {l : Lit} (hl : keyOf prog 56 t.val = some l) :
 ∃ c : Nat, (Instr.lookup 109 (.map (some g)) t.val false).run prog W = .ok (.int .i64 c) W ∧ c ≤ n ∧ (c = 0 ↔ ts.contains t = false) ∧
  ∃ v0 st w1, (Instr.mapEntry 109 (.map (some g)) t.val).run prog W = .ok (.tuple #[v0, goInt st]) w1 ∧ W.grownBy w1 (some g) ∧ (Instr.lookup 109 (.map (some g)) t.val false).run prog w1 = .ok (.int .i64 c) w1 ∧
   ∃ w3, (Instr.entryStore 109 (.map (some g)) (goInt st) (.int .i64 ((c : Int) + 1))).run prog w1 = .ok () w3 ∧ w1.grownBy w3 (some g) ∧ fW w3 g (n + 1) (if ts.contains t then ts else ts ++ [t]) ∧
    (Instr.lookup 109 (.map (some g)) t.val false).run prog w3 = .ok (.int .i64 ((c : Int) + 1)) w3 := by (
 obtain ⟨D, hD, hc⟩ := h
 obtain ⟨c, e1, e2, e3⟩ := hc t l hl
 have hmax : n < maxLen := by unfold maxLen; omega
 obtain ⟨c', p1, p2, v0, st, w1, p3, p4, p5, p6⟩ := bCZ fI underlying109 underlying3 bFJ hD hmax hl
 rw [e1] at p2
 have hcc := pM p2
 subst hcc
 have hwf : (Lit.int .i64 ((c : Int) + 1)).wf = true := by (
 unfold Lit.wf
 rw [V9]
 exact ⟨decide_eq_true Z7, decide_eq_true Z9⟩)
 obtain ⟨w3, q1, q2, q3⟩ := p6 _ hwf
 obtain ⟨c3, r1, r2, _⟩ := q2.lookup_int (Keyed.of_law fI) underlying109 underlying3 (bFJ _) hl
 rw [atKey_put_same hD.isMap ((Keyed.of_law fI).key hl)] at r2
 have h3 := pM r2
 subst h3
 refine ⟨c, p1, e2, e3, v0, st, w1, p3, p4, p5, w3, q1, q3, ⟨_, q2, fun t' l' hl' => ?_⟩, r1⟩
 by_cases htt : t' = t
 · (
 subst htt
 rw [hl] at hl'
 injection hl' with hl'
 subst hl'
 refine ⟨c + 1, by rw [atKey_put_same hD.isMap ((Keyed.of_law fI).key hl)]; rfl, Zb, ?_⟩
 constructor
 · intro h; omega
 · (
 intro h
 exfalso
 by_cases hct : ts.contains t' = true
 · rw [if_pos hct, hct] at h; cases h
 · (
 rw [if_neg hct, mS] at h
 simp at h)))
 · (
 have hne : l' ≠ l := fun e => htt (by
  exact vH (fI.inj (e ▸ hl') hl))
 obtain ⟨c', f1, f2, f3⟩ := hc t' l' hl'
 refine ⟨c', by rw [atKey_put_other hne]; exact f1, Zb, ?_⟩
 rw [f3]
 split
 · rfl
 · (
 rw [mS]
 have : (t == t') = false := by simpa using Ne.symm htt
 rw [this, Bool.or_false])))
theorem fW.start {W : World} : fW (W.alloc (.map #[] 0)) W.heap.size 0 [] :=
 ⟨.map [], World.ownsMap_made _ _ _ _, fun t l hl => ⟨0, rfl, Nat.le_refl _, Zf⟩⟩
end
section
attribute [local irreducible] Row bO madeCells
theorem Y3 {P : Prop} (h : P := by (
 go_upto_region 11 with fail
 go_quiet (fail)
 go_wp2_with fail
 go_roundg (ts.length - (j + 1))
 case measure => exact Jf
 case rel => exact ⟨j + 1, Zb, by go_num, rfl, by rw [Hst.o]; rfl, _, rfl⟩)) : P := h
theorem bEW (regs : Int) (A : Option Addr) (l : List Nd) (cap : Nat) (w : World) (hl : l.length ≤ 256) (hA : bH w A l) :
 Calls prog 41 #[.agg #[.int .i64 regs, .slice A l.length cap]] w fun e w' => Below w.heap.size w w' ∧ ∃ v, e = .returned v ∧ bEX w' w.heap.size 56 v (eT l l.length) := by (
 obtain ⟨ii, hii, hiz, his, hib⟩ := info_parts bDF
 go_enter func41, ntmps41
 go_wp2_with fail
 go_loopg [3, 4] (l.length) (fun gk v i wr => ∃ m : Nat, m ≤ l.length ∧ i = .int .i64 m ∧ gk = l.length - m ∧ bEX wr w.heap.size 56 v (eT l m) ∧ Blk wr w.heap.size 24 #[.int .i64 regs, .slice A l.length cap] ∧ Below w.heap.size w wr)
 case atStart => exact ⟨0, Nat.zero_le _, rfl, rfl, bO.nil_ _ _ _, Yd, Yc⟩
 case round => (
 obtain ⟨m, hm, rfl, hgk, hrow, hP, hbr⟩ := hrel
 have Hgk := bA hgk
 clear hgk
 have p0 := hP.cell 0
 have p1 := hP.cell 1
 have lp := hP.lt
 simp only [Yl] at p0 p1
 have HP := bA hP
 clear hP
 by_cases hmm : m < l.length
 · (
 obtain ⟨nb, no, x, rfl, hnb, hx, hxl⟩ := hA.get hmm
 obtain ⟨c0, c1, c2, c3, c4, c5⟩ := hxl.below hbr hnb
 obtain ⟨u0, u1⟩ := Ikq (k := m) (n := l.length) (by omega)
 have hlb := V6 hnb hbr.size
 obtain ⟨A5, c5', rfl, _, _⟩ := hrow.shape
 have hlen := nC l m
 have Hx := bA hx
 have Hrow := bA hrow
 clear hxl hx hrow
 go_wp2_with fail
 have hT : Blk ((wr.alloc (.cells #[.int .i64 x.op, .int .i64 x.d, .int .i64 x.a, .int .i64 x.b, .int .i64 x.t, .int .i64 x.e] 39)).alloc (.cells #[.int .i64 x.op, .int .i64 x.a, .int .i64 x.b] 56)) (wr.heap.size + 1) 56 #[.int .i64 x.op, .int .i64 x.a, .int .i64 x.b] := Blk.new' Zf
 have hr1 := (Hrow.o.alloc (.cells #[.int .i64 x.op, .int .i64 x.d, .int .i64 x.a, .int .i64 x.b, .int .i64 x.t, .int .i64 x.e] 39)).alloc (.cells #[.int .i64 x.op, .int .i64 x.a, .int .i64 x.b] 56)
 have hP1 := (HP.o.alloc (.cells #[.int .i64 x.op, .int .i64 x.d, .int .i64 x.a, .int .i64 x.b, .int .i64 x.t, .int .i64 x.e] 39)).alloc (.cells #[.int .i64 x.op, .int .i64 x.a, .int .i64 x.b] 56)
 have hb1 : Below w.heap.size w ((wr.alloc (.cells #[.int .i64 x.op, .int .i64 x.d, .int .i64 x.a, .int .i64 x.b, .int .i64 x.t, .int .i64 x.e] 39)).alloc (.cells #[.int .i64 x.op, .int .i64 x.a, .int .i64 x.b] 56)) := (hbr.alloc hbr.size _).alloc (by simp; have := hbr.size; omega) _
 have hzr := hbr.size
 generalize (wr.alloc (.cells #[.int .i64 x.op, .int .i64 x.d, .int .i64 x.a, .int .i64 x.b, .int .i64 x.t, .int .i64 x.e] 39)).alloc (.cells #[.int .i64 x.op, .int .i64 x.a, .int .i64 x.b] 56) = W at hT hr1 hP1 hb1 ⊢
 refine (mD _ _).mono ?_
 rintro e w1 ⟨rfl, rfl⟩
 have t0 := hT.cell 0
 have t1 := hT.cell 1
 have t2 := hT.cell 2
 have lt := hT.lt
 simp only [Yl] at t0 t1 t2
 obtain ⟨ts, hts⟩ := Exq (eT l m)
 rw [← hts] at hr1 hlen ⊢
 have Hts := bA hts
 have Hr1 := bA hr1
 have HP1 := bA hP1
 have hgd := zL
 clear hts hr1 hP1 Hrow HP p0 p1 lp c0 c1 c2 c3 c4 c5 hbr
 go_wp2_with fail
 go_loopg [7, 8] (ts.length) (fun gk s7 i wr' => ∃ j : Nat, j ≤ ts.length ∧ i = .int .i64 j ∧ gk = ts.length - j ∧ s7 = .bool (!cG x.op || (ts.take j).contains x.tm) ∧ ∃ d, wr' = W.drewN d)
 case atStart => exact ⟨0, Nat.zero_le _, rfl, rfl, Zf, 0, rfl⟩
 case round => (
 obtain ⟨j, hj, rfl, hgk2, rfl, d, rfl⟩ := hrel
 have Hgk2 := bA hgk2
 clear hgk2
 by_cases hjl : j < ts.length
 · (
 obtain ⟨gb, go, y, rfl, hgb, hy, hyl⟩ := (Hr1.o.nodes).get hjl
 obtain ⟨y0, y1, y2⟩ := hyl
 obtain ⟨v0, v1⟩ := Ikq (k := j) (n := ts.length) (by omega)
 have hst : (ts.take (j + 1)).contains x.tm = ((ts.take j).contains x.tm || (y == x.tm)) := by (
 rw [List.take_add_one, hy]
 exact mS _ _ _)
 have hst2 : (!cG x.op || (ts.take (j + 1)).contains x.tm) = ((!cG x.op || (ts.take j).contains x.tm) || (y == x.tm)) := by rw [hst, Bool.or_assoc]
 have hEq := fun W => uC y x.tm W
 unfold Tm.val at hEq
 have hEq : ∀ W, (Op.equalIn 10000 56 (.agg #[.int .i64 y.op, .int .i64 y.a, .int .i64 y.b]) (.agg #[.int .i64 x.op, .int .i64 x.a, .int .i64 x.b])).run prog W = .ok (y == x.tm) W := hEq
 obtain ⟨a0, ha0⟩ := Exq ((!cG x.op || (ts.take j).contains x.tm))
 rw [← ha0] at hst2 ⊢
 obtain ⟨b0, hb0⟩ := Exq ((y == x.tm))
 rw [← hb0] at hst2 hEq
 have Hst := bA hst2
 clear hst hst2 ha0 hb0 hy
 cases a0
 case true => exact Y3
 case false => exact Y3)
 · (
 have hjj : ts.take j = ts := List.take_of_length_le Zb
 rw [hjj]
 clear hjj
 cases ha : (!cG x.op || ts.contains x.tm)
 case true => (
 have hnext : eT l (m + 1) = ts := by (
 rw [Hts.o] at ha ⊢
 cases hB : cG x.op with
 | false => exact bBR Hx.o hB
 | true => rw [hB] at ha; exact vG Hx.o (by simpa using ha))
 have Hn := bA hnext
 clear ha hnext
 go_wp2_with fail
 go_roundg (l.length - (m + 1))
 case measure => exact Jg
 case rel => exact ⟨m + 1, Zb, by go_num, rfl, by rw [Hn.o]; exact Hr1.o.drewN _, HP1.o.drewN _, bZ hb1 _⟩)
 case false => (
 have hnext : eT l (m + 1) = ts ++ [x.tm] := by (
 rw [Hts.o] at ha ⊢
 simp only [Uf, Bool.not_eq_false'] at ha
 exact yN Hx.o ha.1 ha.2)
 have Hn := bA hnext
 clear ha hnext
 go_wp2_with (at_builtin; refine gY (v := .slice A5 ts.length c5') rfl (.tmp 49) (.tmp 51) _ rfl ii _ 24 underlying69 hii hiz his hib rfl rfl ((Hr1.o.drewN d).alloc _) (some ⟨W.heap.size, 0, none⟩) 1 1 [x.tm] rfl rfl (qX (n := x.tm) rfl) Zq Zh Zh ?_; intro v3 w3 hr3 hg3 hat3)
 go_roundg (l.length - (m + 1))
 case measure => exact Jg
 case rel => (
 have hzW := hb1.size
 exact ⟨m + 1, Zb, by go_num, rfl, by rw [Hn.o]; exact hr3, ((HP1.o.drewN d).alloc (.cells #[.int .i64 x.op, .int .i64 x.a, .int .i64 x.b] 56)).grown hg3 (Hr1.o.ne_blk HP1.o Ze), ((bZ hb1 d).alloc Zh _).grown hg3 Zh (fun q hq => (Hr1.o.lt q hq).1)⟩)))))
 · (
 have hkk : m = l.length := Zb
 have Hkk := bA hkk
 clear hkk
 go_wp2_with fail
 go_tidy
 go_ret
 exact ⟨hbr, _, rfl, by rw [← Hkk.o]; exact hrow⟩)))
end
section
attribute [local irreducible] Row madeCells
end
section
open Go.Maps
attribute [local irreducible] Row bO madeCells fW
theorem vF {z : Int} (h0 : -1000 ≤ z) (h1 : z ≤ 1000) : (Lit.int .i64 z).wf = true := by (
 unfold Lit.wf
 rw [V9]
 exact ⟨decide_eq_true Z7, decide_eq_true Z9⟩)
theorem bM.key {regs : Int} {l : List Nd} (h : bM regs l) {n : Nd} (hn : n ∈ l) (hB : cG n.op = true) : ∃ k, keyOf prog 56 n.tm.val = some k := by (
 have h1 := h.rng n hn
 have h2 := h.rhi
 have hA : dC n.op = true := by (
 simp only [cG, dC, inB, V9, Bool.or_eq_true, decide_eq_true_eq] at *
 omega)
 unfold kI okR at h1
 simp only [hB, hA, Uf, Bool.not_eq_false', Bool.not_true, Bool.false_or, V9, decide_eq_true_eq] at h1
 obtain ⟨⟨⟨⟨_, ha⟩, hb⟩, _⟩, _⟩ := h1
 simp only [cG, inB, V9, decide_eq_true_eq] at hB
 exact bIJ n.tm (vF (by show _ ≤ n.op; omega) (by show n.op ≤ _; omega)) (vF (by show _ ≤ n.a; omega) (by show n.a ≤ _; omega)) (vF (by show _ ≤ n.b; omega) (by show n.b ≤ _; omega)))
def bHP (tT : TypeId) (regs : Int) (l : List Nd) (w : World) (e : Ending) (w' : World) : Prop :=
 Below w.heap.size w w' ∧ ∃ v, e = .returned (.tuple #[v, .int .i64 (chk regs l)]) ∧ bEX w' w.heap.size tT v (if chk regs l = 0 then eT l l.length else [])
theorem bKS (regs : Int) (A : Option Addr) (l : List Nd) (cap : Nat) (w : World) (hl : l.length ≤ maxLen) (hA : bH w A l) :
 Calls prog 66 #[.agg #[.int .i64 regs, .slice A l.length cap]] w (bHP 56 regs l w) := by (
 have hC := fun W (hW : Below w.heap.size w W) => fZ regs A l cap W hl (hA.below hW)
 unfold maxLen at hl
 by_cases h0 : chk regs l = 0
 · (
 have hR := bS h0
 unfold bHP
 rw [if_pos h0]
 rw [h0] at hC ⊢
 have HC := bA hC
 have HR := bA hR
 have hhi := hR.hi
 obtain ⟨ii, hii, hiz, his, hib⟩ := info_parts bDF
 have hmm := @run_makeMap prog
 clear hC h0 hR
 go_enter func66, ntmps66
 go_wp2_with fail
 refine (HC.o _ Yc).mono ?_
 rintro e w1 ⟨rfl, hb1⟩
 have hP : Blk w1 w.heap.size 24 #[.int .i64 regs, .slice A l.length cap] := Blk.below (Blk.new' rfl) hb1 Zf
 have hB : Below w.heap.size w w1 := Yc
 have p0 := hP.cell 0
 have p1 := hP.cell 1
 have lp := hP.lt
 simp only [Yl] at p0 p1
 obtain ⟨g, hg⟩ := Exq w1.heap.size
 have hSn : fW (w1.alloc (.map #[] 0)) g 0 [] := by rw [hg]; exact fW.start
 have hBn : Below w.heap.size w (w1.alloc (.map #[] 0)) := hB.alloc hB.size _
 have Hg := bA hg
 have HSn := bA hSn
 have hgw : w.heap.size ≤ g := by rw [hg]; exact hB.size
 clear hb1 hg hSn
 go_wp2_with fail
 clear hmm
 rw [← Hg.o]
 go_loopg [5, 21] (l.length) (fun gk v i wr => ∃ m : Nat, m ≤ l.length ∧ i = .int .i64 m ∧ gk = l.length - m ∧ bEX wr w.heap.size 56 v (eT l m) ∧ fW wr g m (eT l m) ∧ Below w.heap.size w wr)
 case atStart => exact ⟨0, Nat.zero_le _, rfl, rfl, bO.nil_ _ _ _, HSn.o, hBn⟩
 case round => (
 obtain ⟨m, hm, rfl, hgk, hrow, hsn, hbr⟩ := hrel
 have Hgk := bA hgk
 clear hgk p0 p1 lp hP hB hBn
 by_cases hlt : m < l.length
 · (
 obtain ⟨nb, no, x, rfl, hnb, hx, hxl⟩ := hA.get hlt
 obtain ⟨c0, c1, c2, c3, c4, c5⟩ := hxl.below hbr hnb
 obtain ⟨u0, u1⟩ := Ikq (k := m) (n := l.length) (by omega)
 have hlb := V6 hnb hbr.size
 have hzr := hbr.size
 obtain ⟨A5, c5', rfl, _, _⟩ := hrow.shape
 have hlen := nC l m
 obtain ⟨ts, hts⟩ := Exq (eT l m)
 rw [← hts] at hrow hsn hlen ⊢
 have Hts := bA hts
 have Hx := bA hx
 have Hrow := bA hrow
 have Hsn := bA hsn
 clear hxl hx hrow hsn hts
 go_wp2_with fail
 have hT : Blk ((wr.alloc (.cells #[.int .i64 x.op, .int .i64 x.d, .int .i64 x.a, .int .i64 x.b, .int .i64 x.t, .int .i64 x.e] 39)).alloc (.cells #[.int .i64 x.op, .int .i64 x.a, .int .i64 x.b] 56)) (wr.heap.size + 1) 56 #[.int .i64 x.op, .int .i64 x.a, .int .i64 x.b] := Blk.new' Zf
 have hbw : Below wr.heap.size wr ((wr.alloc (.cells #[.int .i64 x.op, .int .i64 x.d, .int .i64 x.a, .int .i64 x.b, .int .i64 x.t, .int .i64 x.e] 39)).alloc (.cells #[.int .i64 x.op, .int .i64 x.a, .int .i64 x.b] 56)) := ((Bnq _ _)).alloc Zf _
 have hN1 : Blk ((wr.alloc (.cells #[.int .i64 x.op, .int .i64 x.d, .int .i64 x.a, .int .i64 x.b, .int .i64 x.t, .int .i64 x.e] 39)).alloc (.cells #[.int .i64 x.op, .int .i64 x.a, .int .i64 x.b] 56)) wr.heap.size 39 #[.int .i64 x.op, .int .i64 x.d, .int .i64 x.a, .int .i64 x.b, .int .i64 x.t, .int .i64 x.e] := (Blk.new' rfl).alloc _
 have hsz : ((wr.alloc (.cells #[.int .i64 x.op, .int .i64 x.d, .int .i64 x.a, .int .i64 x.b, .int .i64 x.t, .int .i64 x.e] 39)).alloc (.cells #[.int .i64 x.op, .int .i64 x.a, .int .i64 x.b] 56)).heap.size = wr.heap.size + 1 + 1 := Zf
 refine (bAG x.op _).mono ?_
 rintro e w2 ⟨rfl, hb2⟩
 obtain ⟨g9, hg9⟩ := Exq (wr.heap.size + 1)
 have hT2 := hT.below hb2 hT.lt
 rw [← hg9] at hT2 ⊢
 have hbw2 : Below wr.heap.size wr w2 := hbw.trans (hb2.mono (by rw [hsz]; omega))
 have hz2 := hb2.size
 rw [hsz] at hz2
 obtain ⟨W, hW⟩ := Exq (w2.alloc (.cells #[.bool (dE x.op), .bool (dC x.op), .bool (cG x.op), .bool (oL x.op), .bool (shT x.op), .bool (fL x.op)] 60))
 have hX : Blk W w2.heap.size 60 #[.bool (dE x.op), .bool (dC x.op), .bool (cG x.op), .bool (oL x.op), .bool (shT x.op), .bool (fL x.op)] := by rw [hW]; exact Blk.new' rfl
 have hT3 : Blk W g9 56 #[.int .i64 x.op, .int .i64 x.a, .int .i64 x.b] := by rw [hW]; exact hT2.alloc _
 have hbW : Below wr.heap.size wr W := by rw [hW]; exact hbw2.alloc Zb _
 have hrW := Hrow.o.below' hbW
 have hsW := Hsn.o.below hbW
 have hBW := hbr.trans (hbW.mono hzr)
 have hn9 : ¬ (g = g9) := by have := Hsn.o.lt; omega
 have x2 := hX.cell 2
 have t0 := hT3.cell 0
 have t1 := hT3.cell 1
 have t2 := hT3.cell 2
 have lX := hX.lt
 have lT := hT3.lt
 simp only [Yl] at x2 t0 t1 t2
 have hWe : w2.alloc (.cells #[.bool (dE x.op), .bool (dC x.op), .bool (cG x.op), .bool (oL x.op), .bool (shT x.op), .bool (fL x.op)] 60) = W := hW.symm
 have HWe := bA hWe
 have HrW := bA hrW
 have HsW := bA hsW
 have HBW := bA hBW
 clear hT hbw hN1 hsz hb2 hT2 hbw2 hz2 hW hX hbW hrW hsW hBW hWe Hrow Hsn hbr c0 c1 c2 c3 c4 c5 hT3 hg9
 cases hb : cG x.op
 case false => (
 have hnext : eT l (m + 1) = ts := by rw [Hts.o]; exact bBR Hx.o hb
 have Hn := bA hnext
 rw [hb] at x2 HWe
 clear hnext
 go_wp2_with fail
 go_roundg (l.length - (m + 1))
 case measure => exact Jg
 case rel => rw [HWe.o]; exact ⟨m + 1, Zb, by go_num, rfl, by rw [Hn.o]; exact HrW.o, by rw [Hn.o]; exact HsW.o.mono Zb, HBW.o⟩)
 case true => (
 rw [hb] at x2 HWe
 have hBsz := HBW.o.size
 obtain ⟨kl, hkl⟩ := HR.o.key (V4 Hx.o) hb
 obtain ⟨c, hlook, hcm, hcz, v0, st, W1, hme, hg1, hlook1, W3, hst, hg3, hS3, hlook3⟩ := (HsW.o.drew).bump Zb hkl
 have hlook : (Instr.lookup 109 (.map (some g)) (.agg #[.int .i64 x.op, .int .i64 x.a, .int .i64 x.b]) false).run prog W.drew = .ok (.int .i64 c) W.drew := hlook
 have hlook1 : (Instr.lookup 109 (.map (some g)) (.agg #[.int .i64 x.op, .int .i64 x.a, .int .i64 x.b]) false).run prog W1 = .ok (.int .i64 c) W1 := hlook1
 have hme : (Instr.mapEntry 109 (.map (some g)) (.agg #[.int .i64 x.op, .int .i64 x.a, .int .i64 x.b])).run prog W.drew = .ok (.tuple #[v0, .int .i64 (st : Int)]) W1 := hme
 have hst : (Instr.entryStore 109 (.map (some g)) (.int .i64 (st : Int)) (.int .i64 (IntKind.i64.wrap ((c : Int) + 1)))).run prog W1 = .ok () W3 := by rw [show IntKind.i64.wrap ((c : Int) + 1) = (c : Int) + 1 by rw [IntKind.wrap_i64]; omega]; exact hst
 obtain ⟨cv, hcv⟩ := Exq ((c : Int) + 1 : Int)
 have hlook3 : (Instr.lookup 109 (.map (some g)) (.agg #[.int .i64 x.op, .int .i64 x.a, .int .i64 x.b]) false).run prog W3 = .ok (.int .i64 cv) W3 := by rw [hcv]; exact hlook3
 have e0 : W1.cell? ⟨g9, 0, none⟩ = some (.int .i64 x.op) := by rw [hg1.cell_far _ Zd Zh]; exact t0
 have e1 : W1.cell? ⟨g9, 1, none⟩ = some (.int .i64 x.a) := by rw [hg1.cell_far _ Zd Zh]; exact t1
 have e2 : W1.cell? ⟨g9, 2, none⟩ = some (.int .i64 x.b) := by rw [hg1.cell_far _ Zd Zh]; exact t2
 have hs1 := hg1.size
 simp only [World.size_drew] at hs1
 have l1 : g9 < W1.heap.size := Zb
 have f0 : W3.cell? ⟨g9, 0, none⟩ = some (.int .i64 x.op) := by rw [hg3.cell_far _ Zd Zh]; exact e0
 have f1 : W3.cell? ⟨g9, 1, none⟩ = some (.int .i64 x.a) := by rw [hg3.cell_far _ Zd Zh]; exact e1
 have f2 : W3.cell? ⟨g9, 2, none⟩ = some (.int .i64 x.b) := by rw [hg3.cell_far _ Zd Zh]; exact e2
 have hr3 : bEX W3 w.heap.size 56 (.slice A5 ts.length c5') ts := ((HrW.o.drew).kept hg1 (.inr (HsW.o.ne_row HrW.o))).kept hg3 (.inr (HsW.o.ne_row HrW.o))
 have hB3 : Below w.heap.size w W3 := ((HBW.o.drew).grown hg1 Zh (fun q hq => by injection hq with hq; omega)).grown hg3 Zb (fun q hq => by injection hq with hq; omega)
 have hz3 : w.heap.size ≤ W3.heap.size := hB3.size
 have HR3 := bA hr3
 have HB3 := bA hB3
 have HS3 := bA hS3
 clear hkl hg1 hg3 hs1 hr3 hB3 hS3
 cases hct : ts.contains x.tm
 case true => (
 have hnext : eT l (m + 1) = ts := by rw [Hts.o] at hct ⊢; exact vG Hx.o hct
 have hc0 : c ≠ 0 := fun h => by have := hcz.1 h; rw [hct] at this; cases this
 have b1 : (cv == 1) = false := by rw [hcv]; have h : ((c : Int) + 1) ≠ 1 := Zb; simpa using h
 rw [hct, if_pos rfl] at HS3
 have Hn := bA hnext
 clear hnext hcz hc0 hcv hct
 go_upto_region 12 with fail
 rw [HWe.o]
 refine Jz ?_
 intro hH
 refine Up (fun _ _ _ _ _ => id) fun hP => ?_
 iterate 2 (refine Wa hP hH ?_; try simp only [Nm])
 refine wpAnyH_ready (rs := [2, 4]) Zc Zf ?_
 refine Ug rfl (fun K hK => ?_) (Ug rfl (fun K hK => ?_) Uh)
 · (
 have HK2 := bA hK
 clear hK
 go_simp
 refine Shut.out HK2.o _ _ hH (fun _ => ?_)
 try simp only [Nm]
 refine Va 3 _ rfl hP hH ?_
 try simp only [Nm]
 refine Rd 4 Zc rfl (fun K hK => ?_)
 have HK4 := bA hK
 clear hK
 go_simp
 refine Shut.out HK4.o _ _ ⟨e0, e1, e2⟩ (fun hH => ?_)
 try simp only [Nm]
 refine Va 5 _ rfl hP hH ?_
 try simp only [Nm]
 refine Rd 6 Zc rfl (fun K hK => ?_)
 have HK6 := bA hK
 clear hK
 go_simp
 refine Shut.out HK6.o _ _ ⟨f0, f1, f2⟩ (fun hH => ?_)
 try simp only [Nm]
 refine wpAnyH_done Zc ?_ _
 clear hH HK2 HK4 HK6 t0 t1 t2 e0 e1 e2 hlook hme hlook1 hst
 go_wp2_with fail
 go_roundg (l.length - (m + 1))
 case measure => exact Jg
 case rel => exact ⟨m + 1, Zb, by go_num, rfl, by rw [Hn.o]; exact HR3.o, by rw [Hn.o]; exact HS3.o, HB3.o⟩)
 · (
 have HK4 := bA hK
 clear hK
 go_simp
 refine Shut.out HK4.o _ _ ⟨e0, e1, e2⟩ (fun hH => ?_)
 try simp only [Nm]
 refine Va 5 _ rfl hP hH ?_
 try simp only [Nm]
 refine Rd 2 Zc rfl (fun K hK => ?_)
 have HK2 := bA hK
 clear hK
 go_simp
 refine Shut.out HK2.o _ _ hH (fun _ => ?_)
 try simp only [Nm]
 refine Va 3 _ rfl hP hH ?_
 try simp only [Nm]
 refine Rd 6 Zc rfl (fun K hK => ?_)
 have HK6 := bA hK
 clear hK
 go_simp
 refine Shut.out HK6.o _ _ ⟨f0, f1, f2⟩ (fun hH => ?_)
 try simp only [Nm]
 refine wpAnyH_done Zc ?_ _
 clear hH HK2 HK4 HK6 t0 t1 t2 e0 e1 e2 hlook hme hlook1 hst
 go_wp2_with fail
 go_roundg (l.length - (m + 1))
 case measure => exact Jg
 case rel => exact ⟨m + 1, Zb, by go_num, rfl, by rw [Hn.o]; exact HR3.o, by rw [Hn.o]; exact HS3.o, HB3.o⟩))
 case false => (
 have hnext : eT l (m + 1) = ts ++ [x.tm] := by rw [Hts.o] at hct ⊢; exact yN Hx.o hb hct
 have hc0 : c = 0 := hcz.2 hct
 have b1 : (cv == 1) = true := by rw [hcv, hc0]; rfl
 rw [hct, if_neg Zf] at HS3
 have Hn := bA hnext
 clear hnext hcz hc0 hcv hct
 go_upto_region 12 with fail
 rw [HWe.o]
 refine Jz ?_
 intro hH
 refine Up (fun _ _ _ _ _ => id) fun hP => ?_
 iterate 2 (refine Wa hP hH ?_; try simp only [Nm])
 refine wpAnyH_ready (rs := [2, 4]) Zc Zf ?_
 refine Ug rfl (fun K hK => ?_) (Ug rfl (fun K hK => ?_) Uh)
 · (
 have HK2 := bA hK
 clear hK
 go_simp
 refine Shut.out HK2.o _ _ hH (fun _ => ?_)
 try simp only [Nm]
 refine Va 3 _ rfl hP hH ?_
 try simp only [Nm]
 refine Rd 4 Zc rfl (fun K hK => ?_)
 have HK4 := bA hK
 clear hK
 go_simp
 refine Shut.out HK4.o _ _ ⟨e0, e1, e2⟩ (fun hH => ?_)
 try simp only [Nm]
 refine Va 5 _ rfl hP hH ?_
 try simp only [Nm]
 refine Rd 6 Zc rfl (fun K hK => ?_)
 have HK6 := bA hK
 clear hK
 go_simp
 refine Shut.out HK6.o _ _ ⟨f0, f1, f2⟩ (fun hH => ?_)
 try simp only [Nm]
 refine wpAnyH_done Zc ?_ _
 clear hH HK2 HK4 HK6 t0 t1 t2 e0 e1 e2 hlook hme hlook1 hst
 go_wp2_with (at_builtin; refine gY (v := .slice A5 ts.length c5') rfl (.tmp 51) (.tmp 53) _ rfl ii _ 24 underlying69 hii hiz his hib rfl rfl (HR3.o.alloc _) (some ⟨W3.heap.size, 0, none⟩) 1 1 [x.tm] rfl rfl (qX (n := x.tm) rfl) Zq Zh Zh ?_; intro v4 w4 hr4 hg4 hat4)
 go_roundg (l.length - (m + 1))
 case measure => exact Jg
 case rel => exact ⟨m + 1, Zb, by go_num, rfl, by rw [Hn.o]; exact hr4, by rw [Hn.o]; exact ((HS3.o.below ((Bnq _ _))).own hg4 (HS3.o.ne_row HR3.o)), (HB3.o.alloc Zb _).grown hg4 Zh (fun q hq => (HR3.o.lt q hq).1)⟩)
 · (
 have HK4 := bA hK
 clear hK
 go_simp
 refine Shut.out HK4.o _ _ ⟨e0, e1, e2⟩ (fun hH => ?_)
 try simp only [Nm]
 refine Va 5 _ rfl hP hH ?_
 try simp only [Nm]
 refine Rd 2 Zc rfl (fun K hK => ?_)
 have HK2 := bA hK
 clear hK
 go_simp
 refine Shut.out HK2.o _ _ hH (fun _ => ?_)
 try simp only [Nm]
 refine Va 3 _ rfl hP hH ?_
 try simp only [Nm]
 refine Rd 6 Zc rfl (fun K hK => ?_)
 have HK6 := bA hK
 clear hK
 go_simp
 refine Shut.out HK6.o _ _ ⟨f0, f1, f2⟩ (fun hH => ?_)
 try simp only [Nm]
 refine wpAnyH_done Zc ?_ _
 clear hH HK2 HK4 HK6 t0 t1 t2 e0 e1 e2 hlook hme hlook1 hst
 go_wp2_with (at_builtin; refine gY (v := .slice A5 ts.length c5') rfl (.tmp 51) (.tmp 53) _ rfl ii _ 24 underlying69 hii hiz his hib rfl rfl (HR3.o.alloc _) (some ⟨W3.heap.size, 0, none⟩) 1 1 [x.tm] rfl rfl (qX (n := x.tm) rfl) Zq Zh Zh ?_; intro v4 w4 hr4 hg4 hat4)
 go_roundg (l.length - (m + 1))
 case measure => exact Jg
 case rel => exact ⟨m + 1, Zb, by go_num, rfl, by rw [Hn.o]; exact hr4, by rw [Hn.o]; exact ((HS3.o.below ((Bnq _ _))).own hg4 (HS3.o.ne_row HR3.o)), (HB3.o.alloc Zb _).grown hg4 Zh (fun q hq => (HR3.o.lt q hq).1)⟩))))
 · (
 have hkk : m = l.length := Zb
 have Hkk := bA hkk
 clear hkk
 go_wp2_with fail
 go_tidy
 go_ret2
 exact ⟨hbr, _, rfl, by rw [← Hkk.o]; exact hrow⟩)))
 · (
 unfold bHP
 rw [if_neg h0]
 have HC := bA hC
 have b0 : (chk regs l != 0) = true := by simpa using h0
 clear hC h0
 generalize chk regs l = c at *
 go_enter func66, ntmps66
 go_wp2_with fail
 refine (HC.o _ Yc).mono ?_
 rintro e w1 ⟨rfl, hb1⟩
 have hB : Below w.heap.size w w1 := Yc
 go_wp2_with fail
 go_tidy
 go_ret2
 exact ⟨hB, _, rfl, bO.nil_ _ _ _⟩))
end
section
attribute [local irreducible] Row madeCells bO
theorem bQP (regs : Int) (A : Option Addr) (l : List Nd) (cap : Nat) (w : World) (hl : l.length ≤ maxLen) (hA : bH w A l) :
 Calls prog 36 #[.agg #[.int .i64 regs, .slice A l.length cap]] w (bIW 39 regs l w) := by (
 have HTm := bA (fun W (hW : Below w.heap.size w W) => bKS regs A l cap W hl (hA.below hW))
 have HN := bA (fun W (hW : Below w.heap.size w W) => hA.below hW)
 clear hA
 go_enter func36, ntmps36
 go_wp2_with fail
 refine (HTm.o _ Yc).mono ?_
 rintro e w1 ⟨hb1, v, rfl, hr⟩
 refine K0 fun hz1 hB hP hO => ?_
 replace hr := hr.mono (base' := w.heap.size) Zd
 clear hb1
 by_cases hc : chk regs l = 0
 case neg => (
 have hE : mW regs l = chk regs l := by unfold mW; rw [if_pos hc]
 have hc' : (chk regs l != 0) = true := by simp [hc]
 have H0 := bA hc
 have HE := bA hE
 clear hc hE hP hr
 refine Kp fun f0 f1 o0 o1 lO => ?_
 go_wp2_with fail
 go_tidy
 refine bodyPost_ret (v := .tuple #[.agg #[.int .i64 0, .slice none 0 0], .int .i64 (chk regs l)]) (by simp [results, results36, go_sem, o0, o1, f0, f1, Vw, Vv]; try rfl) rfl ?_
 exact ⟨(hB.setCell Zd _).setCell Zd _, .inl ⟨by rw [HE.o]; exact H0.o, by rw [HE.o]⟩⟩)
 case pos => (
 rw [if_pos hc] at hr
 have hR := bS hc
 have hlo := hR.lo
 have hhi := hR.hi
 have hE : mW regs l = (gM (tR l) regs l).1 := by unfold mW; rw [if_neg (by simp [hc])]
 have HE := bA hE
 rw [hc]
 obtain ⟨ts, hts⟩ := Exq (tR l)
 change bEX w1 w.heap.size _ v (tR l) at hr
 rw [← hts] at hr
 have htl : ts.length ≤ 256 := by rw [hts]; exact Nat.le_trans (nC l l.length) hhi
 have Hts := bA hts
 obtain ⟨Tv, tc, ev, _, _⟩ := hr.shape
 subst ev
 have hTs := hr.nodes
 have HCl := bA (fun W (hW : Below w.heap.size w W) => kU A l cap W (HN.o _ hW) hlo Zb)
 clear hc hR hE hts hr
 refine Wl fun p0 p1 => ?_
 have lp := hP.lt
 go_upto_region 4 with fail
 have HH : ∀ (V : World), Below w1.heap.size w1 V → (V.cell? ⟨w.heap.size, 0, none⟩ = some (.int .i64 regs) ∧ V.cell? ⟨w.heap.size, 1, none⟩ = some (.slice A l.length cap)) := fun V hV => ⟨((bB hV).1 _ _ Zb).trans p0, ((bB hV).1 _ _ Zb).trans p1⟩
 refine Jy ?_
 intro hH
 have hC0 : Below w1.heap.size w1 w1.drew := (Below.refl _ _).drew
 generalize w1.drew = V0 at hH hC0 ⊢
 refine Up (fun _ _ _ _ _ => id) fun hPq => ?_
 iterate 1 (refine Wc hPq hH ?_; try simp only [Nm])
 iterate 1 (refine Wb hPq hH ?_; try simp only [Nm])
 iterate 1 (refine Wc hPq hH ?_; try simp only [Nm])
 iterate 1 (refine Wb hPq hH ?_; try simp only [Nm])
 refine wpAnyH_ready (rs := [4, 6]) Zc Zf ?_
 refine Ug rfl (fun K hK => ?_) (Ug rfl (fun K hK => ?_) Uh)
 focus (
 have HK4 := bA hK
 clear hK
 go_simp
 go_at_call 12
 refine (HCl.o _ (hB.trans (hC0.mono hB.size))).mono ?_
 rintro e V1 ⟨v, rfl, hr, hbV1⟩
 have hC1 : Below w1.heap.size w1 V1 := hC0.trans (hbV1.mono hC0.size)
 replace hr := hr.mono (base' := w.heap.size) (Nat.le_trans hB.size hC0.size)
 clear hH
 obtain ⟨Cv, cc, ev, _, _⟩ := hr.shape
 subst ev
 refine Shut.out HK4.o _ _ (HH _ hC1) (fun hH => ?_)
 try simp only [Nm]
 clear HK4
 refine Vc 5 _ rfl hPq hH ?_
 try simp only [Nm]
 refine Rd 6 Zc rfl (fun K hK => ?_)
 have HK6 := bA hK
 clear hK
 go_simp
 obtain ⟨V2, hV2⟩ := Exq (V1.alloc (.cells #[.int .i64 0, .slice none 0 0] 24))
 have hC2 : Below w1.heap.size w1 V2 := by rw [hV2]; exact hC1.alloc hC1.size _
 have hQ : Blk V2 V1.heap.size 24 #[.int .i64 0, .slice none 0 0] := by rw [hV2]; exact Blk.new' rfl
 replace hr := hr.alloc (.cells #[.int .i64 0, .slice none 0 0] 24)
 rw [← hV2] at hr
 rw [← hV2]
 obtain ⟨qb, hqb⟩ := Exq V1.heap.size
 have hqg : w1.heap.size ≤ qb := by rw [hqb]; exact hC1.size
 rw [← hqb] at hQ ⊢
 clear hH hV2 hqb
 refine Shut.out HK6.o _ _ (HH _ hC2) (fun hH => ?_)
 try simp only [Nm]
 clear HK6)
 rotate_left
 focus (
 have HK6 := bA hK
 clear hK
 go_simp
 obtain ⟨V1, hV1⟩ := Exq (V0.alloc (.cells #[.int .i64 0, .slice none 0 0] 24))
 have hC1 : Below w1.heap.size w1 V1 := by rw [hV1]; exact hC0.alloc hC0.size _
 have hQ : Blk V1 V0.heap.size 24 #[.int .i64 0, .slice none 0 0] := by rw [hV1]; exact Blk.new' rfl
 rw [← hV1]
 obtain ⟨qb, hqb⟩ := Exq V0.heap.size
 have hqg : w1.heap.size ≤ qb := by rw [hqb]; exact hC0.size
 rw [← hqb] at hQ ⊢
 clear hH hV1 hqb
 refine Shut.out HK6.o _ _ (HH _ hC1) (fun hH => ?_)
 try simp only [Nm]
 clear HK6
 refine Rd 4 Zc rfl (fun K hK => ?_)
 have HK4 := bA hK
 clear hK
 go_simp
 go_at_call 12
 refine (HCl.o _ (hB.trans (hC1.mono hB.size))).mono ?_
 rintro e V2 ⟨v, rfl, hr, hbV2⟩
 have hC2 : Below w1.heap.size w1 V2 := hC1.trans (hbV2.mono hC1.size)
 replace hr := hr.mono (base' := w.heap.size) (Nat.le_trans hB.size hC1.size)
 clear hH
 obtain ⟨Cv, cc, ev, _, _⟩ := hr.shape
 subst ev
 refine Shut.out HK4.o _ _ (HH _ hC2) (fun hH => ?_)
 try simp only [Nm]
 clear HK4
 refine Vc 5 _ rfl hPq hH ?_
 try simp only [Nm]
 replace hQ := hQ.below hbV2 hQ.lt)
 all_goals (
 refine Rd 7 Zc rfl (fun K hK => ?_)
 have HK7 := bA hK
 clear hK
 have q0 := hQ.cell 0
 have q1 := hQ.cell 1
 have fq0 := hQ.frozen 0
 have fq1 := hQ.frozen 1
 simp only [Yl] at q0 q1
 go_simp
 refine Shut.out HK7.o _ _ ⟨(bL Zb _ _).trans ((bL Zb _ _).trans (((bB hC2).1 _ _ Zb).trans p0)), (bL Zb _ _).trans ((bL Zb _ _).trans (((bB hC2).1 _ _ Zb).trans p1))⟩ (fun hH => ?_)
 try simp only [Nm]
 clear HK7
 refine wpAnyH_done Zc ?_ _
 have hS : yK w1 w.heap.size qb 0 (.slice none 0 0) [] V2 := ⟨hQ, bO.nil_ _ _ _, hC2, hqg⟩
 have hS2 := hS.put (r' := regs) (Below.refl _ _) hr
 obtain ⟨W2, hW2⟩ := Exq ((V2.setCell ⟨qb, 0, none⟩ (.int .i64 regs)).setCell ⟨qb, 1, none⟩ (.slice Cv l.length cc))
 rw [← hW2] at hS2 ⊢
 have HS2 := bA hS2
 have HP := bA hP
 have HO := bA hO
 have HB := bA hB
 have HTs := bA hTs
 have lp0 := hP.lt
 have lo0 := hO.lt
 have hbw := hB.size
 clear q0 q1 fq0 fq1 hH hS hS2 hQ hr hP hO hB hTs p0 p1 lp hW2 hC0 hC1 hC2
 go_wp2_with fail
 go_loopg [26] (ts.length) (fun gk i wr => ∃ (k : Nat) (r : Int) (v : Value) (ls : List Nd), k ≤ ts.length ∧ i = .int .i64 k ∧ gk = ts.length - k ∧ gM (ts.drop k) r ls = gM ts regs l ∧ yK w1 w.heap.size qb r v ls wr)
 case atStart => exact ⟨0, _, _, _, Nat.zero_le _, rfl, rfl, rfl, HS2.o⟩
 case round => (
 clear HS2
 obtain ⟨k, r, v, ls, hk, rfl, hgk, hgo, hS⟩ := hrel
 have Hgk := bA hgk
 have Hgo := bA hgo
 clear hgk hgo
 have hwz := hS.below.size
 have hlq := hS.box.lt
 have hlow := hS.low
 obtain ⟨Lv, lc, ev, hm1, hm2⟩ := hS.row.shape
 subst ev
 have hlm : ls.length ≤ maxLen := Nat.le_trans hm1 hm2
 by_cases hlt : k < ts.length
 · (
 obtain ⟨tb, tof, tm, rfl, htb, htk, c0, c1, c2⟩ := HTs.o.get hlt
 refine Ki ?_; clear c0 c1 c2 htk; intro Htk hlt1 c0 c1 c2 u0 u1 q0 q1
 have HS := bA hS
 clear hS
 go_upto_region 8 with fail
 obtain ⟨W3, hW3⟩ := Exq (wr.alloc (.cells #[.int .i64 tm.op, .int .i64 tm.a, .int .i64 tm.b] 56))
 have hb3 : Below wr.heap.size wr W3 := by rw [hW3]; exact (Bnq _ _)
 have hM : Blk W3 wr.heap.size 56 #[.int .i64 tm.op, .int .i64 tm.a, .int .i64 tm.b] := by rw [hW3]; exact Blk.new' rfl
 rw [← hW3]
 have hS3 := HS.o.later hb3
 clear hW3 HS q0 q1 c0 c1 c2
 have q0 := hS3.box.cell 0
 have q1 := hS3.box.cell 1
 have m0 := hM.cell 0
 have m1 := hM.cell 1
 have m2 := hM.cell 2
 simp only [Yl] at q0 q1 m0 m1 m2
 have lq := hS3.box.lt
 have lm := hM.lt
 have HOn := bA (bQM r Lv ls lc tm W3 hlm hS3.row.nodes)
 have HS3 := bA hS3
 clear hS3 hM
 go_wp2_with fail
 refine (HOn.o).mono ?_
 rintro e w4 ⟨hb4, h⟩
 have hstep := xD Htk.o r ls
 have hS4 := HS3.o.later hb4
 have hw3 := HS3.o.below.size
 clear q0 q1 m0 m1 m2 lq lm HOn
 have q0 := hS4.box.cell 0
 have q1 := hS4.box.cell 1
 have fq0 := hS4.box.frozen 0
 have fq1 := hS4.box.frozen 1
 simp only [Yl] at q0 q1
 have lq := hS4.box.lt
 have hO := HO.o.below hS4.below lo0
 refine Kp fun f0 f1 o0 o1 lO => ?_
 have HS4 := bA hS4
 clear hS4 hO
 rcases h with ⟨hne, rfl⟩ | ⟨h0, v', rfl, hr⟩
 · (
 rw [if_pos hne] at hstep
 have hne' : (gH r ls tm != 0) = true := by simp [hne]
 have hE : mW regs l = gH r ls tm := by rw [HE.o, ← Hts.o, ← Hgo.o, hstep]
 have Hne := bA hne
 have HE2 := bA hE
 have hB := HB.o.trans (HS4.o.below.mono hbw)
 have hB4 := hB.size
 clear hne hstep hE
 go_wp2_with fail
 go_tidy
 refine bodyPost_ret (v := .tuple #[.agg #[.int .i64 0, .slice none 0 0], .int .i64 (gH r ls tm)]) (by simp [results, results36, go_sem, o0, o1, f0, f1, Vw, Vv]; try rfl) rfl ?_
 exact ⟨(((hB.setCell Zd _).setCell Zd _).setCell Zd _).setCell Zd _, .inl ⟨by rw [HE2.o]; exact Hne.o, by rw [HE2.o]⟩⟩)
 · (
 rw [if_neg (by simp [h0])] at hstep
 replace hr := hr.mono (base' := w.heap.size) Zb
 obtain ⟨Rv, rc, ev, _, _⟩ := hr.shape
 subst ev
 have hS5 := HS3.o.put (r' := pG r ls tm) hb4 hr
 obtain ⟨r2, hr2⟩ := Exq (pG r ls tm)
 obtain ⟨l2, hl2⟩ := Exq (pH r ls tm)
 rw [← hr2, ← hl2] at hstep hS5
 rw [← hl2] at hr
 rw [← hr2, ← hl2]
 rw [Hgo.o] at hstep
 have HS5 := bA hS5
 have Hst := bA hstep
 clear hstep hS5 hr2 hl2 hr h0 o0 o1 f0 f1 lO hb4
 go_wp2_with fail
 go_roundg (ts.length - (k + 1))
 case measure => exact Jg
 case rel => exact ⟨k + 1, _, _, _, Zb, by go_num, rfl, Hst.o.symm, HS5.o⟩))
 · (
 have hkk : k = ts.length := Zb
 subst hkk
 refine J4 fun HE2 Hgo2 q0 q1 Q f0 f1 o0 o1 lO HBf => ?_; clear hS
 go_wp2_with fail
 go_tidy
 refine bodyPost_ret (v := .tuple #[.agg #[.int .i64 r, .slice Lv ls.length lc], .int .i64 0]) (by simp [results, results36, go_sem, q0, q1, o0, o1, f0, f1, Vw, Vv]; try rfl) rfl ?_
 exact ⟨(HBf.o.setCell Zd _).setCell Zd _, .inr ⟨HE2.o, _, by rw [Hgo2.o], by rw [Hgo2.o]; exact Q.out⟩⟩)))))
end
def xJ (n r : Int) (l : List Nd) (w : World) (e : Ending) (w' : World) : Prop :=
 ∃ (c r' : Int) (l' : List Nd) (v : Value), e = .returned (.tuple #[.agg #[.int .i64 r', v], .int .i64 c]) ∧ iN n r l c r' l' ∧ cO w' w.heap.size 39 v l' ∧ Below w.heap.size w w'
theorem pY (n : Int) (h14 : 1 ≤ n ∧ n ≤ 4) (K : Nat) (hK : lH n = .func (.func K) #[] #[]) (r : Int) (A : Option Addr) (l : List Nd) (cap : Nat) (w : World) (hA : bH w A l) (hR : bM r l) :
  Calls prog K #[.agg #[.int .i64 r, .slice A l.length cap]] w (xJ n r l w) := by
 have hl : l.length ≤ maxLen := by have := hR.hi; unfold maxLen; omega
 have hc := hR.chk
 rcases (show n = 1 ∨ n = 2 ∨ n = 3 ∨ n = 4 by omega) with rfl | rfl | rfl | rfl
 ·have : K = 35 := by
   unfold lH at hK
   rw [if_pos rfl] at hK
   injection hK with h
   injection h with h
   exact h.symm
  subst this
  refine (zU r A l cap w hl hA).mono ?_
  rintro e w' ⟨hb, ⟨h1, _⟩ | ⟨_, h1, rfl⟩ | ⟨_, h1, v, rfl, hN⟩⟩
  ·exact absurd hc h1
  ·exact Jo
  ·exact ⟨0, r, _, v, rfl, .inl ⟨rfl, .inr ⟨h1, rfl, rfl, rfl⟩⟩, hN, hb⟩
 ·have : K = 36 := by
   unfold lH at hK
   rw [if_neg Ze, if_pos rfl] at hK
   injection hK with h
   injection h with h
   exact h.symm
  subst this
  refine (bQP r A l cap w hl hA).mono ?_
  rintro e w' ⟨hb, ⟨h1, rfl⟩ | ⟨h1, v, rfl, hN⟩⟩
  ·exact Jp
  ·exact ⟨0, _, _, v, rfl, .inr (.inl ⟨rfl, .inr ⟨h1, rfl, rfl, rfl⟩⟩), hN, hb⟩
 ·have : K = 37 := by
   unfold lH at hK
   rw [if_neg Ze, if_neg Ze, if_pos rfl] at hK
   injection hK with h
   injection h with h
   exact h.symm
  subst this
  refine (bQO r A l cap w hA hR hc).mono ?_
  rintro e w' ⟨v, l', rfl, hd, _, hN, hb⟩
  exact ⟨0, r, l', v, rfl, .inr (.inr (.inl ⟨rfl, rfl, rfl, hd⟩)), hN, hb⟩
 ·have : K = 38 := by
   unfold lH at hK
   rw [if_neg Ze, if_neg Ze, if_neg Ze, if_pos rfl] at hK
   injection hK with h
   injection h with h
   exact h.symm
  subst this
  refine (bEU r A l cap w hl hA).mono ?_
  rintro e w' ⟨hb, ⟨h1, _⟩ | ⟨_, v, rfl, hN⟩⟩
  ·exact absurd hc h1
  ·exact ⟨0, r, _, v, rfl, .inr (.inr (.inr ⟨rfl, rfl, rfl, rfl⟩)), hN, hb⟩
theorem bMP {n : Int} (h : 1 ≤ n ∧ n ≤ 4) : ∃ K, lH n = .func (.func K) #[] #[] := by
 rcases (show n = 1 ∨ n = 2 ∨ n = 3 ∨ n = 4 by omega) with rfl | rfl | rfl | rfl
 ·exact ⟨_, rfl⟩
 ·exact ⟨_, rfl⟩
 ·exact ⟨_, rfl⟩
 ·exact ⟨_, rfl⟩
theorem bJM {n : Int} (h : ¬ (1 ≤ n ∧ n ≤ 4)) : lH n = .nilFunc := by
 unfold lH
 rw [if_neg Zb, if_neg Zb, if_neg Zb, if_neg Zb]
theorem bKJ (K : Nat) (w : World) : (binOp BinOp.eql 35 (.func (.func K) #[] #[]) .nilFunc).run prog w = .ok (.bool false) w := Zc
theorem bGY (w : World) : (binOp BinOp.eql 35 .nilFunc .nilFunc).run prog w = .ok (.bool true) w := Zc
def xI (r : Int) (l : List Nd) (ns : List Int) (w : World) (e : Ending) (w' : World) : Prop :=
 ∃ (c r' : Int) (l' : List Nd) (v : Value), e = .returned (.tuple #[.agg #[.int .i64 r', v], .int .i64 c]) ∧ kE r l ns c r' l' ∧ cO w' w.heap.size 39 v l' ∧ Below w.heap.size w w'
theorem jJ {ns : List Int} {k : Nat} {n r1 : Int} {l1 : List Nd} {r' : Int} {l' : List Nd} {c r2 : Int} {l2 : List Nd} (hn : ns[k]? = some n) (h : iN n r1 l1 0 r' l') (h2 : Psq (ns.drop (k + 1)) r' l' c r2 l2) : Psq (ns.drop k) r1 l1 c r2 l2 := by
 obtain ⟨hk, he⟩ := List.getElem?_eq_some_iff.1 hn
 rw [List.drop_eq_getElem_cons hk, he]
 exact .next h h2
theorem pN {ns : List Int} {k : Nat} {n r1 : Int} {l1 : List Nd} {c : Int} (hn : ns[k]? = some n) (h : iN n r1 l1 c 0 []) (hc : c ≠ 0) : Psq (ns.drop k) r1 l1 c 0 [] := by
 obtain ⟨hk, he⟩ := List.getElem?_eq_some_iff.1 hn
 rw [List.drop_eq_getElem_cons hk, he]
 exact .bad h hc
theorem n4 {n : Int} (h : 1 ≤ n ∧ n ≤ 4) : n = 1 ∨ n = 2 ∨ n = 3 ∨ n = 4 := Zb
theorem xH (regs : Int) (A : Option Addr) (l : List Nd) (cap : Nat) (S : Option Addr) (ns : List Int) (ci : Nat) (w : World) (hA : bH w A l) (hl : l.length ≤ maxLen) (hI : bG w S (bN ns)) (hnl : ns.length ≤ maxLen) (hwf : ∀ n ∈ ns, (Lit.int .i64 n).wf = true) :
  Calls prog 4 #[.agg #[.int .i64 regs, .slice A l.length cap], .slice S ns.length ci] w (xI regs l ns w) := by
 unfold maxLen at hnl
 have HC := fun W (hb : Below w.heap.size w W) => bA (fZ regs A l cap W hl (hA.below hb))
 refine Wk fun hB0 hP0 hZ0 => ?_
 go_enter func4, ntmps4
 go_wp2_with fail
 refine Calls.mono (HC _ hB0).out ?_
 rintro e w1 ⟨rfl, hb1⟩
 have hP1 := hP0.below hb1 hP0.lt
 have hZ1 := hZ0.below hb1 hZ0.lt
 have hB1 := hB0.trans (hb1.mono hB0.size)
 clear hP0 hZ0 hB0 hb1 HC
 by_cases hc : chk regs l = 0
 ·rw [hc]
  have hR := bS hc
  by_cases h16 : 16 < ns.length
  ·have d1 : decide ((ns.length : Int) > 16) = true := decide_eq_true Zb
   refine Ks fun zf0 zf1 lZ z0 z1 => ?_
   go_wp2_with fail
   refine bodyPost_ret (v := .tuple #[.agg #[.int .i64 0, .slice none 0 0], .int .i64 2]) (by simp [results, results4, go_sem, z0, z1, zf0, zf1, Vw, Vv]; try rfl) rfl ⟨_, 0, [], _, rfl, ?_, bO.nil_ _ _ _, ?_⟩
   rotate_left
   ·exact Jq
   exact .inr (.inl ⟨hc, h16, rfl, rfl, rfl⟩)
  ·have d1 : decide ((ns.length : Int) > 16) = false := decide_eq_false Zb
   have Hc := bA hc
   have HR := bA hR
   clear hc hR
   go_wp2_with fail
   go_loopg [8, 25] (ns.length) (fun gk a8 i wr => ∃ k : Nat, k ≤ ns.length ∧ i = .int .i64 k ∧ gk = ns.length - k ∧ (∀ j n, j < k → ns[j]? = some n → 1 ≤ n ∧ n ≤ 4) ∧ Blk wr w.heap.size 24 #[.int .i64 regs, .slice A l.length cap] ∧ Blk wr (w.heap.size + 1) 24 #[.int .i64 0, .slice none 0 0] ∧ Below w.heap.size w wr)
   case atStart => exact ⟨0, Zb, rfl, Zb, (fun j n hj => absurd hj Zb), hP1, hZ1, hB1⟩
   case round =>
    clear hP1 hZ1 hB1
    obtain ⟨k, hk, rfl, hgk, hall, hP, hZ, hB⟩ := hrel
    have Hgk := bA hgk
    have Hall := bA hall
    clear hgk hall
    by_cases hlt : k < ns.length
    ·obtain ⟨n, hn⟩ : ∃ n, ns[k]? = some n := ⟨_, Vx hlt⟩
     obtain ⟨b0, o0, hS, hb0, hv0⟩ := hI Zu
     subst hS
     have hck : wr.cell? ⟨b0, o0 + k, none⟩ = some (.int .i64 n) := (hB.cell (p := ⟨b0, o0 + k, none⟩) hb0).trans (hv0 k _ Z8)
     have HP := bA (bCL n (hwf n (V4 hn)) wr)
     have Hn := bA hn
     have Hv := bA hv0
     obtain ⟨k0, k1⟩ := Ikq (k := k) (n := ns.length) (by omega)
     clear hn hv0
     go_wp2_with fail
     refine Calls.mono HP.o ?_
     rintro e w2 ⟨rfl, hb2⟩
     have hP2 := hP.below hb2 hP.lt
     have hZ2 := hZ.below hb2 hZ.lt
     have hB2 := hB.trans (hb2.mono hB.size)
     clear HP hP hZ hB hb2 hck
     by_cases h14 : 1 ≤ n ∧ n ≤ 4
     ·obtain ⟨K, hK⟩ := bMP h14
      rw [hK]
      have hfe := bKJ K
      go_wp2_with fail
      go_roundg (ns.length - (k + 1))
      case measure => exact Jg
      case rel => exact ⟨k + 1, Zb, by go_num, rfl, (fun j m hj hm => (Nat.lt_or_eq_of_le (Nat.lt_succ_iff.1 hj)).elim (fun h => Hall.o j m h hm) (fun h => by rw [h, Hn.o] at hm; cases hm; exact h14)), hP2, hZ2, hB2⟩
     ·rw [bJM h14]
      have hfe := bGY
      have z0 := hZ2.cell 0
      have z1 := hZ2.cell 1
      have zf0 := hZ2.frozen 0
      have zf1 := hZ2.frozen 1
      have lZ := hZ2.lt
      simp only [Yl] at z0 z1
      go_wp2_with fail
      refine bodyPost_ret (v := .tuple #[.agg #[.int .i64 0, .slice none 0 0], .int .i64 4]) (by simp [results, results4, go_sem, z0, z1, zf0, zf1, Vw, Vv]; try rfl) rfl ⟨_, 0, [], _, rfl, ?_, bO.nil_ _ _ _, ?_⟩
      rotate_left
      ·exact (hB2.setCell Zf _).setCell Zf _
      exact .inr (.inr (.inl ⟨Hc.o, Zb, ⟨n, V4 Hn.o, h14⟩, rfl, rfl, rfl⟩))
    ·obtain rfl : k = ns.length := Zb
     have hall : ∀ n ∈ ns, 1 ≤ n ∧ n ≤ 4 := fun n hn => by
      obtain ⟨j, hj, e⟩ := List.getElem_of_mem hn
      exact Hall.o j n hj Xy
     have Hin := bA hall
     clear hall Hall
     have HCl := bA (fun W (hW : Below w.heap.size w W) => kU A l cap W (hA.below hW) HR.o.lo (by have := HR.o.hi; omega))
     have lp := hP.lt
     have lz := hZ.lt
     go_upto_region 12 with fail
     refine Wl fun p0 p1 => ?_
     go_cut [9] (fun s9 wx => ∃ (GQ : Nat) (v : Value), s9 = .pointer (some ⟨GQ, 0, none⟩) ∧ w.heap.size + 2 ≤ GQ ∧ Blk wx GQ 24 #[.int .i64 regs, v] ∧ cO wx w.heap.size 39 v l ∧ Blk wx (w.heap.size + 1) 24 #[.int .i64 0, .slice none 0 0] ∧ Below w.heap.size w wx)
     case first =>
      go_region_with (first
       | (go_at_call 12; (first | with_reducible show Calls _ _ _ (World.drew (World.alloc _ _)) _ | with_reducible show Calls _ _ _ (World.alloc _ _) _); (refine (HCl.o _ Yc).mono ?_; rintro e w2 ⟨v2, rfl, hr2, hb2⟩; obtain ⟨A2, c2, rfl, _, _⟩ := hr2.shape; have hz2 := hb2.size; simp only [World.size_alloc, World.size_drew] at hz2; have hP2 : Blk w2 w.heap.size 24 #[.int .i64 regs, .slice A l.length cap] := Blk.below Yd hb2 Zd; have hQ2 : Blk w2 (w.heap.size + 1) 24 #[.int .i64 0, .slice none 0 0] := Blk.below Yd hb2 Zd; have l2 := hP2.lt; have l3 := hQ2.lt; have q0 := hP2.cell 0; have q1 := hP2.cell 1; simp only [Yl] at q0 q1; have hG2 : Blk w2 wr.heap.size 24 #[.int .i64 0, .slice none 0 0] := Blk.below Yd hb2 Zd; have g0 := hG2.cell 0; have g1 := hG2.cell 1; have g2 := hG2.frozen 0; have g3 := hG2.frozen 1; simp only [Yl] at g0 g1))
       | (go_at_call 12; (refine (HCl.o _ Yc).mono ?_; rintro e w2 ⟨v2, rfl, hr2, hb2⟩; obtain ⟨A2, c2, rfl, _, _⟩ := hr2.shape; have hz2 := hb2.size; simp only [World.size_alloc, World.size_drew] at hz2; have hP2 : Blk w2 w.heap.size 24 #[.int .i64 regs, .slice A l.length cap] := Blk.below Yd hb2 Zd; have hQ2 : Blk w2 (w.heap.size + 1) 24 #[.int .i64 0, .slice none 0 0] := Blk.below Yd hb2 Zd; have l2 := hP2.lt; have l3 := hQ2.lt; have q0 := hP2.cell 0; have q1 := hP2.cell 1; simp only [Yl] at q0 q1)))
      all_goals (go_wp2_with fail)
      all_goals go_meet
      all_goals go_tidy
      all_goals (first
       | (refine ⟨w2.heap.size, .slice A2 l.length c2, rfl, Zb, Yd, (hr2.alloc _).mono Zd, hQ2.alloc _, ?_⟩; exact Yc)
       | (refine ⟨wr.heap.size, .slice A2 l.length c2, rfl, Zb, (hG2.set_ 0 _).set_ 1 _, ((hr2.far (hr2.ne_blk hG2 Ze) _).far (hr2.ne_blk hG2 Ze) _).mono Zd, (hQ2.far Zd _).far Zd _, ?_⟩; exact Yc)
       | trace_state)
     case rest =>
      clear hP hZ hB lp lz p0 p1 HCl
      obtain ⟨GQ, v, rfl, hGQ, hQ, hN, hZ, hB⟩ := hcut
      go_wp2_with fail
      go_loopg [11, 12, 42] (ns.length) (fun gk a11 a12 i wr => ∃ (k : Nat) (r1 : Int) (l1 : List Nd) (v : Value), k ≤ ns.length ∧ i = .int .i64 k ∧ gk = ns.length - k ∧ Blk wr GQ 24 #[.int .i64 r1, v] ∧ cO wr w.heap.size 39 v l1 ∧ Blk wr (w.heap.size + 1) 24 #[.int .i64 0, .slice none 0 0] ∧ Below w.heap.size w wr ∧ bM r1 l1 ∧ (∀ c r2 l2, Psq (ns.drop k) r1 l1 c r2 l2 → Psq ns regs l c r2 l2))
      case atStart => exact ⟨0, regs, l, v, Zb, rfl, rfl, hQ, hN, hZ, hB, HR.o, fun c r2 l2 h => h⟩
      case round =>
       clear hQ hN hZ hB
       obtain ⟨k, r1, l1, v, hk, rfl, hgk, hQ, hN, hZ, hB, hR1, hps⟩ := hrel
       have Hgk := bA hgk
       have HR1 := bA hR1
       have Hps := bA hps
       clear hgk hR1 hps
       obtain ⟨A1, c1, rfl, _, _⟩ := hN.shape
       by_cases hlt : k < ns.length
       ·obtain ⟨n, hn⟩ : ∃ n, ns[k]? = some n := ⟨_, Vx hlt⟩
        obtain ⟨b0, o0, hS, hb0, hv0⟩ := hI Zu
        subst hS
        have hck : wr.cell? ⟨b0, o0 + k, none⟩ = some (.int .i64 n) := (hB.cell (p := ⟨b0, o0 + k, none⟩) hb0).trans (hv0 k _ Z8)
        have h14 := Hin.o n (V4 hn)
        have HP := bA (fun W => bCL n (hwf n (V4 hn)) W)
        have Hn := bA hn
        have Hv := bA hv0
        have hnd := hN.nodes
        obtain ⟨k0, k1⟩ := Ikq (k := k) (n := ns.length) (by omega)
        have q0 := hQ.cell 0
        have q1 := hQ.cell 1
        have lq := hQ.lt
        have hz := hB.size
        simp only [Yl] at q0 q1
        clear hn hv0 hN
        have h14' := bA h14
        clear h14
        rcases n4 h14'.out with rfl | rfl | rfl | rfl
        ·skip
         have HCk := bA (fun W (hb : Below wr.heap.size wr W) => pY 1 Zb 35 rfl r1 A1 l1 c1 W (hnd.below hb) HR1.o)
         clear hnd
         go_upto_region 17 with fail
         go_region_with (first
          | (go_at_call 11; refine (HP.o _).mono ?_; rintro e w5 ⟨rfl, hb5⟩; rw [show lH 1 = .func (.func 35) #[] #[] from rfl]; have hb5' : Below wr.heap.size wr w5 := ((Below.refl _ _).drew).trans hb5; have hQ5 := hQ.below hb5' hQ.lt; have q0 := hQ5.cell 0; have q1 := hQ5.cell 1; simp only [Yl] at q0 q1)
          | (go_at_call 35; refine (HCk.o _ hb5').mono ?_; rintro e w6 ⟨c, r', l', v', rfl, hpi, hN6, hb6⟩; obtain ⟨A6, c6, rfl, _, _⟩ := hN6.shape; have hb6' := hb5'.trans (hb6.mono hb5'.size); have hQ6 := hQ.below hb6' hQ.lt; have q0 := hQ6.cell 0; have q1 := hQ6.cell 1; have qf0 := hQ6.frozen 0; have qf1 := hQ6.frozen 1; simp only [Yl] at q0 q1))
         all_goals
          refine Ko fun hZ7 hB7 hQ7 hN7 Hpi => ?_; clear hZ hQ6 hN6 hpi q0 q1 qf0 qf1
          by_cases hc0 : c = 0
          ·subst hc0
           go_wp2_with fail
           go_roundg (ns.length - (k + 1))
           case measure => exact Jg
           case rel => exact ⟨k + 1, r', l', _, Zb, by go_num, rfl, hQ7, hN7.out, hZ7, hB7, Hpi.o.right HR1.o, fun c r2 l2 h => Hps.o c r2 l2 (jJ Hn.o Hpi.o h)⟩
          ·have hne : (c != 0) = true := by simp [hc0]
           refine Kj fun Hc0 zf0 zf1 lZ z0 z1 => ?_; clear hc0
           go_wp2_with fail
           refine bodyPost_ret (v := .tuple #[.agg #[.int .i64 0, .slice none 0 0], .int .i64 c]) (by simp [results, results4, go_sem, z0, z1, zf0, zf1, Vw, Vv]; try rfl) rfl ⟨_, 0, [], _, rfl, ?_, bO.nil_ _ _ _, ?_⟩
           rotate_left
           ·exact Jr
           obtain ⟨e1, e2⟩ := Hpi.o.no Hc0.o
           exact .inr (.inr (.inr ⟨Hc.o, Zb, Hin.o, Hps.o _ _ _ (pN Hn.o Z0 Hc0.o)⟩))
        ·skip
         have HCk := bA (fun W (hb : Below wr.heap.size wr W) => pY 2 Zb 36 rfl r1 A1 l1 c1 W (hnd.below hb) HR1.o)
         clear hnd
         go_upto_region 17 with fail
         go_region_with (first
          | (go_at_call 11; refine (HP.o _).mono ?_; rintro e w5 ⟨rfl, hb5⟩; rw [show lH 2 = .func (.func 36) #[] #[] from rfl]; have hb5' : Below wr.heap.size wr w5 := ((Below.refl _ _).drew).trans hb5; have hQ5 := hQ.below hb5' hQ.lt; have q0 := hQ5.cell 0; have q1 := hQ5.cell 1; simp only [Yl] at q0 q1)
          | (go_at_call 36; refine (HCk.o _ hb5').mono ?_; rintro e w6 ⟨c, r', l', v', rfl, hpi, hN6, hb6⟩; obtain ⟨A6, c6, rfl, _, _⟩ := hN6.shape; have hb6' := hb5'.trans (hb6.mono hb5'.size); have hQ6 := hQ.below hb6' hQ.lt; have q0 := hQ6.cell 0; have q1 := hQ6.cell 1; have qf0 := hQ6.frozen 0; have qf1 := hQ6.frozen 1; simp only [Yl] at q0 q1))
         all_goals
          refine Ko fun hZ7 hB7 hQ7 hN7 Hpi => ?_; clear hZ hQ6 hN6 hpi q0 q1 qf0 qf1
          by_cases hc0 : c = 0
          ·subst hc0
           go_wp2_with fail
           go_roundg (ns.length - (k + 1))
           case measure => exact Jg
           case rel => exact ⟨k + 1, r', l', _, Zb, by go_num, rfl, hQ7, hN7.out, hZ7, hB7, Hpi.o.right HR1.o, fun c r2 l2 h => Hps.o c r2 l2 (jJ Hn.o Hpi.o h)⟩
          ·have hne : (c != 0) = true := by simp [hc0]
           refine Kj fun Hc0 zf0 zf1 lZ z0 z1 => ?_; clear hc0
           go_wp2_with fail
           refine bodyPost_ret (v := .tuple #[.agg #[.int .i64 0, .slice none 0 0], .int .i64 c]) (by simp [results, results4, go_sem, z0, z1, zf0, zf1, Vw, Vv]; try rfl) rfl ⟨_, 0, [], _, rfl, ?_, bO.nil_ _ _ _, ?_⟩
           rotate_left
           ·exact Jr
           obtain ⟨e1, e2⟩ := Hpi.o.no Hc0.o
           exact .inr (.inr (.inr ⟨Hc.o, Zb, Hin.o, Hps.o _ _ _ (pN Hn.o Z0 Hc0.o)⟩))
        ·skip
         have HCk := bA (fun W (hb : Below wr.heap.size wr W) => pY 3 Zb 37 rfl r1 A1 l1 c1 W (hnd.below hb) HR1.o)
         clear hnd
         go_upto_region 17 with fail
         go_region_with (first
          | (go_at_call 11; refine (HP.o _).mono ?_; rintro e w5 ⟨rfl, hb5⟩; rw [show lH 3 = .func (.func 37) #[] #[] from rfl]; have hb5' : Below wr.heap.size wr w5 := ((Below.refl _ _).drew).trans hb5; have hQ5 := hQ.below hb5' hQ.lt; have q0 := hQ5.cell 0; have q1 := hQ5.cell 1; simp only [Yl] at q0 q1)
          | (go_at_call 37; refine (HCk.o _ hb5').mono ?_; rintro e w6 ⟨c, r', l', v', rfl, hpi, hN6, hb6⟩; obtain ⟨A6, c6, rfl, _, _⟩ := hN6.shape; have hb6' := hb5'.trans (hb6.mono hb5'.size); have hQ6 := hQ.below hb6' hQ.lt; have q0 := hQ6.cell 0; have q1 := hQ6.cell 1; have qf0 := hQ6.frozen 0; have qf1 := hQ6.frozen 1; simp only [Yl] at q0 q1))
         all_goals
          refine Ko fun hZ7 hB7 hQ7 hN7 Hpi => ?_; clear hZ hQ6 hN6 hpi q0 q1 qf0 qf1
          by_cases hc0 : c = 0
          ·subst hc0
           go_wp2_with fail
           go_roundg (ns.length - (k + 1))
           case measure => exact Jg
           case rel => exact ⟨k + 1, r', l', _, Zb, by go_num, rfl, hQ7, hN7.out, hZ7, hB7, Hpi.o.right HR1.o, fun c r2 l2 h => Hps.o c r2 l2 (jJ Hn.o Hpi.o h)⟩
          ·have hne : (c != 0) = true := by simp [hc0]
           refine Kj fun Hc0 zf0 zf1 lZ z0 z1 => ?_; clear hc0
           go_wp2_with fail
           refine bodyPost_ret (v := .tuple #[.agg #[.int .i64 0, .slice none 0 0], .int .i64 c]) (by simp [results, results4, go_sem, z0, z1, zf0, zf1, Vw, Vv]; try rfl) rfl ⟨_, 0, [], _, rfl, ?_, bO.nil_ _ _ _, ?_⟩
           rotate_left
           ·exact Jr
           obtain ⟨e1, e2⟩ := Hpi.o.no Hc0.o
           exact .inr (.inr (.inr ⟨Hc.o, Zb, Hin.o, Hps.o _ _ _ (pN Hn.o Z0 Hc0.o)⟩))
        ·skip
         have HCk := bA (fun W (hb : Below wr.heap.size wr W) => pY 4 Zb 38 rfl r1 A1 l1 c1 W (hnd.below hb) HR1.o)
         clear hnd
         go_upto_region 17 with fail
         go_region_with (first
          | (go_at_call 11; refine (HP.o _).mono ?_; rintro e w5 ⟨rfl, hb5⟩; rw [show lH 4 = .func (.func 38) #[] #[] from rfl]; have hb5' : Below wr.heap.size wr w5 := ((Below.refl _ _).drew).trans hb5; have hQ5 := hQ.below hb5' hQ.lt; have q0 := hQ5.cell 0; have q1 := hQ5.cell 1; simp only [Yl] at q0 q1)
          | (go_at_call 38; refine (HCk.o _ hb5').mono ?_; rintro e w6 ⟨c, r', l', v', rfl, hpi, hN6, hb6⟩; obtain ⟨A6, c6, rfl, _, _⟩ := hN6.shape; have hb6' := hb5'.trans (hb6.mono hb5'.size); have hQ6 := hQ.below hb6' hQ.lt; have q0 := hQ6.cell 0; have q1 := hQ6.cell 1; have qf0 := hQ6.frozen 0; have qf1 := hQ6.frozen 1; simp only [Yl] at q0 q1))
         all_goals
          refine Ko fun hZ7 hB7 hQ7 hN7 Hpi => ?_; clear hZ hQ6 hN6 hpi q0 q1 qf0 qf1
          by_cases hc0 : c = 0
          ·subst hc0
           go_wp2_with fail
           go_roundg (ns.length - (k + 1))
           case measure => exact Jg
           case rel => exact ⟨k + 1, r', l', _, Zb, by go_num, rfl, hQ7, hN7.out, hZ7, hB7, Hpi.o.right HR1.o, fun c r2 l2 h => Hps.o c r2 l2 (jJ Hn.o Hpi.o h)⟩
          ·have hne : (c != 0) = true := by simp [hc0]
           refine Kj fun Hc0 zf0 zf1 lZ z0 z1 => ?_; clear hc0
           go_wp2_with fail
           refine bodyPost_ret (v := .tuple #[.agg #[.int .i64 0, .slice none 0 0], .int .i64 c]) (by simp [results, results4, go_sem, z0, z1, zf0, zf1, Vw, Vv]; try rfl) rfl ⟨_, 0, [], _, rfl, ?_, bO.nil_ _ _ _, ?_⟩
           rotate_left
           ·exact Jr
           obtain ⟨e1, e2⟩ := Hpi.o.no Hc0.o
           exact .inr (.inr (.inr ⟨Hc.o, Zb, Hin.o, Hps.o _ _ _ (pN Hn.o Z0 Hc0.o)⟩))
       ·obtain rfl : k = ns.length := Zb
        have q0 := hQ.cell 0
        have q1 := hQ.cell 1
        have z0 := hZ.cell 0
        have z1 := hZ.cell 1
        have zf0 := hZ.frozen 0
        have zf1 := hZ.frozen 1
        have lz := hZ.lt
        have hNz := bA (hN.ne_blk hZ Ze)
        simp only [Yl] at q0 q1 z0 z1
        clear hZ
        go_wp2_with fail
        refine bodyPost_ret (v := .tuple #[.agg #[.int .i64 r1, .slice A1 l1.length c1], .int .i64 0]) (by simp [results, results4, go_sem, z0, z1, zf0, zf1, Vw, Vv]; try rfl) rfl ⟨0, r1, l1, _, rfl, .inr (.inr (.inr ⟨Hc.o, Zb, Hin.o, Hps.o _ _ _ (by rw [List.drop_length]; exact .nil)⟩)), (hN.far hNz.out _).far hNz.out _, (hB.setCell Zf _).setCell Zf _⟩
 ·have hn0 : (chk regs l != 0) = true := by simp [hc]
  have Hc := bA hc
  clear hc
  generalize hgz : chk regs l = cz at *
  have Hgz := bA hgz
  clear hgz
  refine Ks fun zf0 zf1 lZ z0 z1 => ?_
  go_wp2_with fail
  refine bodyPost_ret (v := .tuple #[.agg #[.int .i64 0, .slice none 0 0], .int .i64 cz]) (by simp [results, results4, go_sem, z0, z1, zf0, zf1, Vw, Vv]; try rfl) rfl ⟨_, 0, [], _, rfl, ?_, bO.nil_ _ _ _, ?_⟩
  rotate_left
  ·exact Jq
  exact .inl ⟨by rw [Hgz.o]; exact Hc.o, Hgz.o.symm, rfl, rfl⟩
section
attribute [local irreducible] Row madeCells
theorem bKF : (prog.info? 4).map (fun i => (i.zero, i.size, i.bytes)) = some (some (.bool false), 1, 1) := Zc
def bKZ (t : TypeId) (x : List Bool) (w : World) (e : Ending) (w' : World) : Prop := ∃ v, e = .returned v ∧ Row w' w.heap.size t v (bE x) ∧ Below w.heap.size w w'
theorem yO (S : List Bool → Nat → Bool) : ∀ (k : Nat) (x : List Bool), (yP S k x).length = x.length
 | 0, _ => rfl
 | k + 1, x => by rw [yP, yO S k]; simp
theorem vJ (S : List Bool → Nat → Bool) (n : Nat) : ∀ c, (lD S n c).length = n
 | 0 => by simp [lD]
 | c + 1 => by rw [lD, yO, vJ S n c]
theorem bGJ (regs : Int) (A : Option Addr) (l : List Nd) (cap : Nat) (r : Nat) (w : World) (hA : bH w A l) (hR : bM regs l) :
 Calls prog 79 #[.agg #[.int .i64 regs, .slice A l.length cap], .int .i64 r] w (bKZ 4 (lvx l r) w) := by (
 have hlo := hR.lo
 have hhi := hR.hi
 have HR := bA hR
 clear hR
 obtain ⟨ib, hbi, hbz, hbs, hbb⟩ := info_parts bKF
 have hmk := dN (P := prog) 74 4 ib _ 1 underlying74 hbi hbz hbs hbb Zb rfl l.length Zb
 go_enter func79, ntmps79
 go_wp2_with fail
 go_loopg [6] (l.length + 1) (fun gk i wr => ∃ c : Nat, c ≤ l.length + 1 ∧ i = .int .i64 c ∧ gk = l.length + 1 - c ∧
  Row wr w.heap.size 4 (.slice (some ⟨w.heap.size + 1, 0, none⟩) l.length l.length) (bE (lD (fC l r) l.length c)) ∧ Blk wr w.heap.size 24 #[.int .i64 regs, .slice A l.length cap] ∧ Below w.heap.size w wr)
 case atStart => exact ⟨0, Nat.zero_le _, rfl, rfl, by rw [lD, bE, List.map_replicate]; exact Yf, Yd, Yc⟩
 case round => (
 clear hmk
 obtain ⟨c, hcl, rfl, hgk, hRow, hP, hB⟩ := hrel
 have Hgk := bA hgk
 have HRow := bA hRow
 have HP := bA hP
 clear hgk hRow hP
 by_cases hlt : c ≤ l.length
 · (
 go_wp2_with fail
 obtain ⟨wo, rfl⟩ := Exq wr
 obtain ⟨gk3, rfl⟩ := Exq gk
 go_loopg [7] (l.length) (fun gk i wr => ∃ (k : Nat) (y : List Bool), k ≤ l.length ∧ i = .int .i64 ((k : Int) - 1) ∧ gk = k ∧ y.length = l.length ∧ yP (fC l r) k y = lD (fC l r) l.length (c + 1) ∧
  Row wr w.heap.size 4 (.slice (some ⟨w.heap.size + 1, 0, none⟩) l.length l.length) (bE y) ∧ Blk wr w.heap.size 24 #[.int .i64 regs, .slice A l.length cap] ∧ Below w.heap.size w wr)
 case atStart => exact ⟨l.length, _, Nat.le_refl _, rfl, rfl, vJ _ _ _, rfl, HRow.o, HP.o, hB⟩
 case round => (
 clear HRow HP hB
 obtain ⟨k, y, hk, rfl, hgk, hyl, hsw, hRow, hP, hB⟩ := hrel
 have Hgk2 := bA hgk
 have Hyl := bA hyl
 have Hsw := bA hsw
 have hz := hB.size
 refine Wl fun p0 p1 => ?_
 have hxlt := (hRow.lt _ rfl).2
 have lp := hP.lt
 clear hgk hyl hsw
 cases k with
 | zero =>
  have HRow := bA hRow
  have HP := bA hP
  clear hRow hP
  have k1 : (((0 : Nat) : Int) - 1) = -1 := Zb
  rw [k1]
  clear k1
  go_wp2_with fail
  go_roundg (l.length + 1 - (c + 1))
  case measure => exact Jg
  case rel => exact ⟨c + 1, Zb, by go_num, rfl, by rw [← Hsw.o]; exact HRow.o, HP.o, hB⟩
 | succ k =>
  obtain ⟨x, hx⟩ : ∃ x, l[k]? = some x := ⟨_, Vx Zb⟩
  obtain ⟨xb, xo, x', rfl, hxb, hx', hxl⟩ := (hA.below hB).get (k := k) Zb
  rw [hx] at hx'
  injection hx' with hx'
  subst hx'
  obtain ⟨c0, c1, c2, c3, c4, c5⟩ := hxl
  have hm := V4 hx
  have Hx := bA hx
  clear hx
  have hway := fun h => HR.o.then_ hm h
  have hway2 := fun h => HR.o.else_ hm h
  have hcell := fun (q : Nat) (hq : q < l.length) => hRow.bool (k := q) (by rw [Hyl.o]; exact hq)
  have hcell2 : ∀ q, q < l.length → wr.cell? ⟨w.heap.size + 1, q, none⟩ = some (.bool (yn y q)) := fun q hq => by (
 obtain ⟨g0, o0, cp0, e0, _, _, cx, _⟩ := hcell q hq
 injection e0 with e0 e1 e2
 injection e0 with e0
 injection e0 with e0 e3
 subst e0 e3
 rw [Nat.zero_add] at cx
 exact cx)
  have Hcell2 := bA hcell2
  have HRow := bA hRow
  have HP := bA hP
  have k1 : (((k + 1 : Nat) : Int) - 1) = (k : Int) := Zb
  rw [k1]
  clear k1 hcell hcell2 hRow hP hA
  refine Vu fun q0 q1 => ?_
  go_upto_region 9 with fail
  obtain ⟨w6, hw6⟩ := Exq (wr.alloc (.cells #[.int .i64 x.op, .int .i64 x.d, .int .i64 x.a, .int .i64 x.b, .int .i64 x.t, .int .i64 x.e] 39))
  have hX6 : Blk w6 wr.heap.size 39 #[.int .i64 x.op, .int .i64 x.d, .int .i64 x.a, .int .i64 x.b, .int .i64 x.t, .int .i64 x.e] := by rw [hw6]; exact Yd
  have hL6 : Below wr.heap.size wr w6 := by rw [hw6]; exact Below.alloc (Below.refl _ _) (Nat.le_refl _) _
  rw [← hw6]
  clear hw6
  have b0 := hX6.cell 0
  have b1 := hX6.cell 1
  have b2 := hX6.cell 2
  have b3 := hX6.cell 3
  have b4 := hX6.cell 4
  have b5 := hX6.cell 5
  simp only [Yl] at b0 b1 b2 b3 b4 b5
  have lx6 := hX6.lt
  have hz6 := hL6.size
  have Hc6 := bA (fun (q : Nat) (hq : q < l.length) => ((bB hL6).1 _ q hxlt).trans (Hcell2.o q hq))
  have HX6 := bA hX6
  clear hX6 c0 c1 c2 c3 c4 c5 p0 p1
  go_cut [9] (fun s9 wx => s9 = .bool (eR x y) ∧ wx = w6)
  case first => (
 by_cases h12 : x.op = 12
 · (
 have hb : eR x y = false := by simp [eR, h12]
 have t12 : (x.op != 12) = false := by simp [h12]
 have t11 : (x.op == 11) = false := by simp [h12]
 have Hb := bA hb
 clear hb h12 hway hway2
 go_wp2_with fail
 go_meet
 go_tidy
 exact ⟨by rw [Hb.o], rfl⟩)
 · (
 obtain ⟨t0, t1⟩ := hway h12
 obtain ⟨tt, htt⟩ := V7 (show 0 ≤ x.t by omega)
 have ct := Hc6.o tt Zb
 have t12 : (x.op != 12) = true := by simp [h12]
 have t1' : (tt : Int) < (l.length : Int) := Zb
 have t0' : (0 : Int) ≤ (tt : Int) := Zb
 by_cases h11 : x.op = 11
 · (
 obtain ⟨e0, e1⟩ := hway2 h11
 obtain ⟨ee, hee⟩ := V7 (show 0 ≤ x.e by omega)
 have ce := Hc6.o ee Zb
 have e1' : (ee : Int) < (l.length : Int) := Zb
 have e0' : (0 : Int) ≤ (ee : Int) := Zb
 have t11 : (x.op == 11) = true := by simp [h11]
 have hb : eR x y = (yn y tt || yn y ee) := by simp [eR, h11, htt, hee]
 have Hb := bA hb
 rw [htt] at b4
 rw [hee] at b5
 clear hb h12 h11 hway hway2 htt hee e0 e1 t0 t1
 generalize yn y tt = vt at *
 generalize yn y ee = ve at *
 cases vt
 all_goals go_wp2_with fail
 all_goals go_meet
 all_goals go_tidy
 all_goals exact ⟨by first | (rw [Hb.o]; done) | (rw [Hb.o]; rfl), rfl⟩)
 · (
 have t11 : (x.op == 11) = false := by simp [h11]
 have hb : eR x y = yn y tt := by (
 have e1 : (x.op == 11) = false := t11
 simp [eR, h12, htt, e1])
 have Hb := bA hb
 rw [htt] at b4
 clear hb h12 h11 hway hway2 htt t0 t1
 generalize yn y tt = vt at *
 cases vt
 all_goals go_wp2_with fail
 all_goals go_meet
 all_goals go_tidy
 all_goals exact ⟨by first | (rw [Hb.o]; done) | (rw [Hb.o]; rfl), rfl⟩)))
  case rest => (
 obtain ⟨rfl, rfl⟩ := hcut
 obtain ⟨w7, rfl⟩ := Exq wc
 have hU : ∀ W, Calls prog 106 #[.agg #[.int .i64 x.op, .int .i64 x.d, .int .i64 x.a, .int .i64 x.b, .int .i64 x.t, .int .i64 x.e], .int .i64 r] W fun e w' => e = .returned (.bool (rQ x r)) ∧ Below W.heap.size W w' := fun W => bLJ x r W
 have hM : ∀ W, Calls prog 107 #[.agg #[.int .i64 x.op, .int .i64 x.d, .int .i64 x.a, .int .i64 x.b, .int .i64 x.t, .int .i64 x.e], .int .i64 r] W fun e w' => e = .returned (.bool (mR x r)) ∧ Below W.heap.size W w' := fun W => bMF x r W
 have hS : fC l r y k = (rQ x r || (!mR x r && eR x y)) := by (
 unfold fC
 rw [Vy, Hx.o]
 rfl)
 have HS := bA hS
 have cx := Hc6.o k Zb
 have fx : w7.frozen? ⟨w.heap.size + 1, k, none⟩ = false := by (
 have := (HRow.o.below' hL6).get (k := k) (by rw [bD, Hyl.o]; omega)
 obtain ⟨g, o, cp, v, e0, _, _, _, _, hf⟩ := this
 injection e0 with e0 e1 e2
 injection e0 with e0
 injection e0 with e0 e3
 subst e0 e3
 rw [Nat.zero_add] at hf
 exact hf)
 have lx7 : w.heap.size + 1 < w7.heap.size := Zb
 clear hway hway2 hS
 generalize eR x y = vb at *
 generalize rQ x r = vu at *
 generalize mR x r = vm at *
 have HU := bA hU
 have HM := bA hM
 clear hU hM
 cases vu
 case true => (
 go_wp2_with (go_at_call 106; refine (HU.o _).mono ?_; rintro e w8 ⟨rfl, hb8⟩; have hz8 := hb8.size; have cx8 := ((bB hb8).1 _ _ lx7).trans cx; have fx8 := ((bB hb8).2 _ _ lx7).trans fx)
 (go_roundg k; (case measure => (have := Hgk2.o; omega)); (case rel => (have hb7 : Below w7.heap.size w7 w8 := hb8; have hz7 : w7.heap.size ≤ w8.heap.size := hz8; have hR7 := ((HRow.o.below' hL6).below' hb7).setb k (fC l r y k); rw [Nat.zero_add] at hR7; refine ⟨k, y.set k (fC l r y k), Zb, by go_num, rfl, by simpa using Hyl.o, by rw [← Hsw.o]; rfl, ?_, (((HP.o.below hL6 lp)).below hb7 Zb).far Zf _, ((hB.trans (hL6.mono hz)).trans (hb7.mono Zb)).setCell Zd _⟩; rw [HS.o] at hR7 ⊢; exact hR7))))
 case false => (
 cases vm
 all_goals (go_wp2_with (first
  | (go_at_call 106; refine (HU.o _).mono ?_; rintro e w8 ⟨rfl, hb8⟩; have hz8 := hb8.size; obtain ⟨hc8, hf8⟩ := bB hb8; have cx8 := (hc8 _ _ lx7).trans cx; have fx8 := (hf8 _ _ lx7).trans fx; have lx8 := V6 lx7 hz8; have d0 := (hc8 _ _ lx6).trans b0; have d1 := (hc8 _ _ lx6).trans b1; have d2 := (hc8 _ _ lx6).trans b2; have d3 := (hc8 _ _ lx6).trans b3; have d4 := (hc8 _ _ lx6).trans b4; have d5 := (hc8 _ _ lx6).trans b5)
  | (go_at_call 107; refine (HM.o _).mono ?_; rintro e w9 ⟨rfl, hb9⟩; have hz9 := hb9.size; have cx9 := ((bB hb9).1 _ _ lx8).trans cx8; have fx9 := ((bB hb9).2 _ _ lx8).trans fx8)))
 all_goals (go_roundg k; (case measure => (have := Hgk2.o; omega)); (case rel => (have hb7 : Below w7.heap.size w7 w9 := (hb8.trans (hb9.mono hz8)); have hz7 : w7.heap.size ≤ w9.heap.size := (Nat.le_trans hz8 hz9); have hR7 := ((HRow.o.below' hL6).below' hb7).setb k (fC l r y k); rw [Nat.zero_add] at hR7; refine ⟨k, y.set k (fC l r y k), Zb, by go_num, rfl, by simpa using Hyl.o, by rw [← Hsw.o]; rfl, ?_, (((HP.o.below hL6 lp)).below hb7 Zb).far Zf _, ((hB.trans (hL6.mono hz)).trans (hb7.mono Zb)).setCell Zd _⟩; rw [HS.o] at hR7 ⊢; exact hR7)))))))
 · (
 have hcc : c = l.length + 1 := Zb
 have Hcc := bA hcc
 clear hcc
 go_wp2_with fail
 go_ret
 refine ⟨_, rfl, ?_, hB⟩
 have := HRow.o
 rw [Hcc.o] at this
 exact this)))
end
section
attribute [local irreducible] Row madeCells
def bQI (n : Nat) (xs : Nat → List Int) (w : World) (e : Ending) (w' : World) : Prop :=
 ∃ v, e = .returned v ∧ gC w.heap.size 25 3 n xs v w' ∧ Below w.heap.size w w'
theorem mF {α : Type} (c : α) : ∀ n, (List.range n).map (fun _ => c) = List.replicate n c
 | 0 => rfl
 | n + 1 => by rw [List.range_succ, List.map_append, mF c n, List.replicate_succ']; rfl
theorem bHS (regs : Int) (A : Option Addr) (l : List Nd) (cap : Nat) (w : World) (hA : bH w A l) (hR : bM regs l) :
 Calls prog 43 #[.agg #[.int .i64 regs, .slice A l.length cap]] w (bQI l.length (gJ regs.toNat l) w) := by (
 have hlo := hR.lo
 have hhi := hR.hi
 have hrl := hR.rlo
 have hrh := hR.rhi
 obtain ⟨rg, hrg⟩ := V7 (show 0 ≤ regs by omega)
 subst hrg
 rw [Int.toNat_natCast]
 have hAt := fun (r : Nat) W (hW : Below w.heap.size w W) => bGJ (rg : Int) A l cap r W (hA.below hW) hR
 have HAt := bA hAt
 clear hAt hR hA
 obtain ⟨i3, h3i, h3z, h3s, h3b⟩ := info_parts bNN
 obtain ⟨i5, h5i, h5z, h5s, h5b⟩ := info_parts bKD
 have hmk := dN (P := prog) 72 25 i5 _ 24 underlying72 h5i h5z h5s h5b Zb rfl l.length Zb
 go_enter func43, ntmps43
 go_wp2_with fail
 go_loopg [4] (rg) (fun gk i wr => ∃ (k : Nat) (vs : Nat → Value), k ≤ rg ∧ i = .int .i64 k ∧ gk = rg - k ∧
  Row wr w.heap.size 25 (.slice (some ⟨w.heap.size + 1, 0, none⟩) l.length l.length) ((List.range l.length).map vs) ∧ Tab wr w.heap.size 3 l.length vs (fun i => bN (gJ k l i)) ∧
  Blk wr w.heap.size 24 #[.int .i64 rg, .slice A l.length cap] ∧ Below w.heap.size w wr)
 case atStart => (
 refine ⟨0, fun _ => .slice none 0 0, Nat.zero_le _, rfl, rfl, ?_, ?_, Yd, Yc⟩
 · (
 rw [mF]
 exact Yf)
 · exact (Tab.nils _ _ _ _).congr fun i hi => rfl)
 case round => (
 clear hmk
 obtain ⟨k, vs, hk, rfl, hgk, hO, hTb, hP, hB⟩ := hrel
 have Hgk := bA hgk
 have HO := bA hO
 have HTb := bA hTb
 refine Wl fun p0 p1 => ?_
 have HP := bA hP
 have lp := hP.lt
 have hz := hB.size
 clear hgk hO hTb hP
 by_cases hlt : k < rg
 · (
 go_wp2_with (go_at_call 79; refine (HAt.o k _ hB).mono ?_; rintro e w1 ⟨v1, rfl, hr1, hb1⟩)
 obtain ⟨X, xc, rfl, _, _⟩ := hr1.shape
 have hxl : (lvx l k).length = l.length := (pZ l k).1.1
 have hz1 := hb1.size
 have hbl : (bE (lvx l k)).length = l.length := by rw [bD, hxl]
 rw [hbl] at hr1 ⊢
 clear hbl
 have hB1 : Below w.heap.size w w1 := hB.trans (hb1.mono hz)
 have Hxl := bA hxl
 have HO1 := bA (HO.o.below' hb1)
 have HT1 := bA (HTb.o.below hb1)
 have HP1 := bA (HP.o.below hb1 lp)
 clear hb1 hB hxl
 generalize hxx : lvx l k = x at *
 have Hxx := bA hxx
 clear hxx
 go_wp2_with fail
 obtain ⟨wo, rfl⟩ := Exq wr
 obtain ⟨gk3, rfl⟩ := Exq gk
 go_loopg [6] (l.length) (fun gk i wr => ∃ (j : Nat) (us : Nat → Value), j ≤ l.length ∧ i = .int .i64 j ∧ gk = l.length - j ∧
  Row wr w.heap.size 25 (.slice (some ⟨w.heap.size + 1, 0, none⟩) l.length l.length) ((List.range l.length).map us) ∧ Tab wr w.heap.size 3 l.length us (fun i => bN (gJ (if i < j then k + 1 else k) l i)) ∧
  Row wr wo.heap.size 4 (.slice X l.length xc) (bE x) ∧ Blk wr w.heap.size 24 #[.int .i64 rg, .slice A l.length cap] ∧ Below w.heap.size w wr)
 case atStart => exact ⟨0, vs, Nat.zero_le _, rfl, rfl, HO1.o, HT1.o.congr fun i hi => rfl, hr1, HP1.o, hB1⟩
 case round => (
 clear HO1 HT1 HP1 HO HTb HP hr1 hB1 p0 p1
 obtain ⟨j, us, hj, rfl, hgk2, hO, hTb, hX, hP, hB⟩ := hrel
 have Hgk2 := bA hgk2
 have hz2 := hB.size
 have lp2 := hP.lt
 clear hgk2
 by_cases hjl : j < l.length
 · (
 obtain ⟨xb, xo, cp, e0, hgx, hlx, cx, fx⟩ := hX.bool (k := j) (by rw [Hxl.o]; exact hjl)
 injection e0 with e0 e1 e2
 subst e0
 clear e1 e2
 obtain ⟨k0, k1⟩ := Ikq (k := j) (n := l.length) (by omega)
 have cA := fB hO hjl
 have fA := jQ hO hjl
 have lA := cZ hO
 have hrow := hTb.row hjl
 obtain ⟨Aj, cj, hvj, _, _⟩ := hrow.shape
 rw [hvj] at hrow cA
 have hlen : (bN (gJ (if j < j then k + 1 else k) l j)).length ≤ 64 := by (
 rw [bJ]
 have := kP (fun r => yn (lvx l r) j) (if j < j then k + 1 else k)
 unfold gJ
 simp at this ⊢
 omega)
 have hjj : (if j < j then k + 1 else k) = k := Zf
 rw [hjj] at hlen hrow cA hvj
 have HO := bA hO
 have HTb := bA hTb
 have HX := bA hX
 have HP := bA hP
 have HRow := bA hrow
 have Hvj := bA hvj
 clear hO hTb hX hP hrow hvj
 cases hxk : yn x j
 case false => (
 have Hxk := bA hxk
 rw [hxk] at cx
 clear hxk
 go_wp2_with fail
 go_roundg (l.length - (j + 1))
 case measure => exact Jf
 case rel => (
 refine ⟨j + 1, us, Zb, by go_num, rfl, HO.o, HTb.o.congr fun i hi => ?_, HX.o, HP.o, hB⟩
 by_cases hij : i = j
 · (
 subst hij
 have : gJ (k + 1) l i = gJ k l i := gF (by rw [Hxx.o]; exact Hxk.o)
 simp [this])
 · (
 have h1 : (i < j) = (i < j + 1) := by simp; omega
 simp only [h1])))
 case true => (
 have Hxk := bA hxk
 rw [hxk] at cx
 clear hxk
 go_wp2_with (at_builtin; refine bV (v := .slice Aj (bN (gJ k l j)).length cj) (base := w.heap.size) rfl (.tmp 35) (.tmp 37) _ rfl i3 _ 8 underlying25 h3i h3z h3s h3b rfl rfl (HRow.o.alloc _) (some ⟨wr.heap.size, 0, none⟩) 1 1 [.int .i64 (k : Int)] rfl rfl (dK _ _ _) Zk Zq Zh Zh ?_; intro v6 w6 hr6 hg6 hat6; have hOa := HO.o.alloc (.cells #[.int .i64 (k : Int)] 3); have nOR := (HRow.o.alloc (.cells #[.int .i64 (k : Int)] 3)).ne_blk hOa.blk.choose_spec Ze; have cA6 : w6.cell? ⟨w.heap.size + 1, j, none⟩ = some (.slice Aj (bN (gJ k l j)).length cj) := (by rw [hg6.cell_far _ Zd (fun e => nOR e.symm)]; exact (oN lA).trans cA); have fA6 : w6.frozen? ⟨w.heap.size + 1, j, none⟩ = false := (by rw [hg6.frozen_far _ Zd (fun e => nOR e.symm)]; exact (bIN lA).trans fA); obtain ⟨A6, c6, hv6, _, _⟩ := hr6.shape; subst hv6; simp only [Vz, V8] at hr6 hat6)
 go_roundg (l.length - (j + 1))
 case measure => exact Jf
 case rel => (
 have hO6 := hOa.kept hg6 ((HRow.o.alloc (.cells #[.int .i64 (k : Int)] 3)).ne_row hOa Ze |> fun h => by
  rcases h with h | h
  · (
 refine .inr fun e => ?_
 rw [h] at e
 simp [Value.ownBlock] at e)
  · exact .inr fun e => h e.symm)
 have hb6 := hO6.blk.choose_spec
 have hTa := HTb.o.alloc (.cells #[.int .i64 (k : Int)] 3)
 have hT6 := (hTa.put (w' := w6) (v' := .slice A6 ((bN (gJ k l j)).length + 1) c6) (ys := bN (gJ k l j) ++ [Value.int .i64 (k : Int)]) hjl hr6 (by rw [Hvj.o]; exact hg6) (by rw [Hvj.o]; exact hat6)).far (p := ⟨w.heap.size + 1, j, none⟩) hb6 Ze (.slice A6 ((bN (gJ k l j)).length + 1) c6)
 have hX6 := ((HX.o.alloc (.cells #[.int .i64 (k : Int)] 3)).kept hg6 ((HX.o.alloc (.cells #[.int .i64 (k : Int)] 3)).ne_row (HRow.o.alloc (.cells #[.int .i64 (k : Int)] 3)) Ze))
 have hP6 := (HP.o.alloc (.cells #[.int .i64 (k : Int)] 3)).grown hg6 ((HRow.o.alloc (.cells #[.int .i64 (k : Int)] 3)).ne_blk (HP.o.alloc (.cells #[.int .i64 (k : Int)] 3)) Ze)
 have hOs := hO6.store j (.slice A6 ((bN (gJ k l j)).length + 1) c6)
 rw [Nat.zero_add, fY _ _ hjl] at hOs
 refine ⟨j + 1, upd us j (.slice A6 ((bN (gJ k l j)).length + 1) c6), Zb, by go_num, rfl, hOs, hT6.congr fun i hi => ?_, hX6.far (hX6.ne_blk hb6 Ze) _, hP6.far (Blk.ne_ hP6 hb6 Ze) _, ?_⟩
 · (
 by_cases hij : i = j
 · (
 subst hij
 rw [bI, if_pos Zb]
 have : gJ (k + 1) l i = gJ k l i ++ [(k : Int)] := iC (by rw [Hxx.o]; exact Hxk.o)
 rw [this, eI]
 rfl)
 · (
 rw [bC _ _ hij]
 have h1 : (i < j) = (i < j + 1) := by simp; omega
 simp only [h1]))
 · exact ((hB.alloc Zb _).grown hg6 Zh (fun q hq => (HRow.o.lt q hq).1)).setCell Zf _)))
 · (
 have hjj : j = l.length := Zb
 have HO := bA hO
 have HTb := bA hTb
 have HP := bA hP
 have Hjj := bA hjj
 clear hO hTb hP hjj hX
 go_wp2_with fail
 go_roundg (rg - (k + 1))
 case measure => exact Jg
 case rel => (
 refine ⟨k + 1, us, Zb, by go_num, rfl, HO.o, HTb.o.congr fun i hi => ?_, HP.o, hB⟩
 rw [if_pos (by rw [Hjj.o]; exact hi)]))))
 · (
 have hkk : k = rg := Zb
 have Hkk := bA hkk
 clear hkk
 go_wp2_with fail
 go_ret
 refine ⟨_, rfl, ⟨vs, HO.o, ?_⟩, hB⟩
 have := HTb.o
 rw [Hkk.o] at this
 exact this)))
end
end Go.Proofs.YtmghkonmfbpjcabGreatDoor
