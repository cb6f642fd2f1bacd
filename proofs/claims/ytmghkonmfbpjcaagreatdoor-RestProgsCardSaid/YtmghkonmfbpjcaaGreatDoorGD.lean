/- Parts. -/
import Derived.WalkSpells
import Derived.Test.YtmghkonmfbpjcaaGreatDoorCheckP
import Derived.Test.YtmghkonmfbpjcaaGreatDoorFlowOf
set_option linter.unusedVariables false
set_option linter.unusedSimpArgs false
set_option maxRecDepth 100000
set_option maxHeartbeats 4000000
namespace Go.Proofs.YtmghkonmfbpjcaaGreatDoor
open Go.RowKit
open Go.Proofs.Tryz
section
attribute [local irreducible] Row madeCells
theorem gM : (prog.info? 4).map (fun i => (i.zero, i.size, i.bytes)) = some (some (.bool false), 1, 1) := Zc
def sC (t : TypeId) (x : List Bool) (w : World) (e : Ending) (w' : World) : Prop := ∃ v, e = .returned v ∧ Row w' w.heap.size t v (bE x) ∧ Below w.heap.size w w'
theorem Row.bool_at_ {w : World} {B g : Nat} {e : TypeId} {n c : Nat} {x : List Bool} (h : Row w B e (.slice (some ⟨g, 0, none⟩) n c) (bE x)) {k : Nat} (hk : k < x.length) :
 w.cell? ⟨g, k, none⟩ = some (.bool (yn x k)) ∧ w.frozen? ⟨g, k, none⟩ = false := by (
 obtain ⟨g0, o0, cp0, e0, _, _, cx, fx⟩ := h.bool hk
 injection e0 with e0 e1 e2
 injection e0 with e0
 injection e0 with e0 e3
 subst e0 e3
 rw [Nat.zero_add] at cx fx
 exact ⟨cx, fx⟩)
theorem Row.setb0 {w : World} {B : Nat} {e : TypeId} {g n cap : Nat} {x : List Bool} (h : Row w B e (.slice (some ⟨g, 0, none⟩) n cap) (bE x)) (k : Nat) (b : Bool) :
 Row (w.setCell ⟨g, k, none⟩ (.bool b)) B e (.slice (some ⟨g, 0, none⟩) n cap) (bE (x.set k b)) := by (
 have := h.setb k b
 rwa [Nat.zero_add] at this)
theorem bEI (regs : Int) (A : Option Addr) (l : List Nd) (cap : Nat) (w : World) (hA : bG w A l) (hR : bN regs l) :
 Calls prog 99 #[.agg #[.int .i64 regs, .slice A l.length cap]] w (sC 4 (dL l) w) := by (
 have hlo := hR.lo
 have hhi := hR.hi
 have HR := bA hR
 clear hR
 obtain ⟨ib, hbi, hbz, hbs, hbb⟩ := info_parts gM
 have hmk := dK (P := prog) 70 4 ib _ 1 underlying70 hbi hbz hbs hbb Zb rfl l.length Zb
 have hm1 : Row ((w.alloc (.cells #[.int .i64 regs, .slice A l.length cap] 24)).alloc (.cells ((madeCells #[.bool false] l.length).setIfInBounds 0 (.bool true)) 4)) w.heap.size 4 (.slice (some ⟨w.heap.size + 1, 0, none⟩) l.length l.length) (bE ((List.replicate l.length false).set 0 true)) := by (
 refine Vg fun h => ?_
 rw [← sZ, bE, List.map_replicate]
 simpa using h)
 have hm0 : Row ((w.alloc (.cells #[.int .i64 regs, .slice A l.length cap] 24)).alloc (.cells (madeCells #[.bool false] l.length) 4)) w.heap.size 4 (.slice (some ⟨w.heap.size + 1, 0, none⟩) l.length l.length) (bE (List.replicate l.length false)) := by (
 rw [bE, List.map_replicate]
 exact Yh)
 obtain ⟨cm, fm⟩ := hm0.bool_at_ (k := 0) Zh
 clear hm0
 have HM := bA hm1
 have hlp : (0 : Int) < (l.length : Int) := Zb
 have HU := bA (tK l hlo)
 have HZ := bA (show yn ((List.replicate l.length false).set 0 true) 0 = true by rw [cI _ _ _ _ Zh]; simp)
 clear hm1
 go_enter func99, ntmps99
 go_wp2_with fail
 go_loopg [4] (l.length) (fun gk i wr => ∃ (c : Nat) (x : List Bool), c ≤ l.length ∧ i = .int .i64 c ∧ gk = l.length - c ∧ iI (dT l) l.length x ∧ yn x 0 = true ∧ (c + 1 ≤ cnt x ∨ jI (dT l) l.length x) ∧
  Row wr w.heap.size 4 (.slice (some ⟨w.heap.size + 1, 0, none⟩) l.length l.length) (bE x) ∧ Blk wr w.heap.size 24 #[.int .i64 regs, .slice A l.length cap] ∧ Below w.heap.size w wr)
 case atStart => exact ⟨0, _, Nat.zero_le _, rfl, rfl, HU.o, HZ.o, .inl (bAH HZ.o), HM.o, Yf, Ye⟩
 case round => (
 clear hmk HM HU HZ cm fm
 obtain ⟨c, x, hcl, rfl, hgk, hU, h0, hw, hRow, hP, hB⟩ := hrel
 have Hgk := bA hgk
 have HU := bA hU
 have H0 := bA h0
 have Hw := bA hw
 refine Wm fun p0 p1 => ?_
 have HRow := bA hRow
 have HP := bA hP
 clear hgk hU h0 hw hRow hP
 by_cases hlt : c < l.length
 · (
 go_wp2_with fail
 obtain ⟨wo, rfl⟩ := Exq wr
 obtain ⟨gk3, rfl⟩ := Exq gk
 go_loopg [5] (l.length) (fun gk i wr => ∃ (k : Nat) (x : List Bool), k ≤ l.length ∧ i = .int .i64 k ∧ gk = l.length - k ∧ fX l c k x ∧
  Row wr w.heap.size 4 (.slice (some ⟨w.heap.size + 1, 0, none⟩) l.length l.length) (bE x) ∧ Blk wr w.heap.size 24 #[.int .i64 regs, .slice A l.length cap] ∧ Below w.heap.size w wr)
 case atStart => exact ⟨0, x, Nat.zero_le _, rfl, rfl, fX.start HU.o H0.o Hw.o, HRow.o, HP.o, hB⟩
 case round => (
 clear HU H0 Hw HRow HP hB p0 p1
 obtain ⟨k, x, hk, rfl, hgk, hRe, hRow, hP, hB⟩ := hrel
 have Hgk2 := bA hgk
 have HRe := bA hRe
 have hz := hB.size
 have hxl := hRe.under.1
 refine Wm fun p0 p1 => ?_
 have lx := (hRow.lt _ rfl).2
 have lp := hP.lt
 clear hgk hRe
 by_cases hkl : k < l.length
 · (
 obtain ⟨n, hn⟩ : ∃ n, l[k]? = some n := ⟨_, Vs hkl⟩
 obtain ⟨nb, no, n', rfl, hnb, hn', hnl⟩ := (hA.below hB).get (k := k) hkl
 rw [hn] at hn'
 injection hn' with hn'
 subst hn'
 obtain ⟨c0, c1, c2, c3, c4, c5⟩ := hnl
 have hm := Vv hn
 have hbnd : ∀ n, l[k]? = some n → ∀ m : Nat, bU n m = true → m < l.length := by (
 intro n2 h2 m hlm
 rw [hn] at h2
 injection h2 with h2
 subst h2
 rcases dF hlm with ⟨h12, rfl'⟩ | ⟨h11, rfl'⟩
 · have := HR.o.then_ hm h12; omega
 · have := HR.o.else_ hm h11; omega)
 have hway := fun h => HR.o.then_ hm h
 have hway2 := fun h => HR.o.else_ hm h
 obtain ⟨ck, fk⟩ := hRow.bool_at_ (k := k) (by rw [hxl]; exact hkl)
 refine Vo fun q0 q1 => ?_
 have Hn := bA hn
 have Hb := bA hbnd
 have Hxl := bA hxl
 have HRow := bA hRow
 have HP := bA hP
 clear hn hbnd hxl hRow hP hA
 cases hxk : yn x k
 case false => (
 rw [hxk] at ck
 have Hxk := bA hxk
 clear hxk hway hway2
 go_wp2_with fail
 go_roundg (l.length - (k + 1))
 case measure => exact Jk
 case rel => exact ⟨k + 1, x, Zb, by go_num, rfl, HRe.o.next (fun h => by rw [Hxk.o] at h; cases h), HRow.o.alloc _, HP.o.alloc _, hB.alloc hz _⟩)
 case true => (
 rw [hxk] at ck
 have Hxk := bA hxk
 clear hxk
 by_cases h12 : n.op = 12
 · (
 have t12 : (n.op != 12) = false := by simp [h12]
 have t11 : (n.op == 11) = false := by simp [h12]
 have H12 := bA h12
 clear h12 hway hway2
 go_wp2_with fail
 go_roundg (l.length - (k + 1))
 case measure => exact Jk
 case rel => (
 refine ⟨k + 1, x, Zb, by go_num, rfl, HRe.o.next (fun _ n2 h2 m hlm => ?_), HRow.o.alloc _, HP.o.alloc _, hB.alloc hz _⟩
 rw [Hn.o] at h2
 injection h2 with h2
 subst h2
 have := H12.o
 rcases dF hlm with ⟨h, _⟩ | ⟨h, _⟩ <;> omega))
 · (
 obtain ⟨t0, t1⟩ := hway h12
 obtain ⟨tt, htt⟩ := Vy (show 0 ≤ n.t by omega)
 have t12 : (n.op != 12) = true := by simp [h12]
 obtain ⟨ct, ft⟩ := HRow.o.bool_at_ (k := tt) (by rw [Hxl.o]; omega)
 rw [htt] at c4
 obtain ⟨t0', t1'⟩ := Ikq (k := tt) (n := l.length) (by omega)
 have htl : tt < l.length := Zb
 have hxtl : tt < x.length := by rw [Hxl.o]; exact htl
 have Hxtl := bA hxtl
 have Htt := bA htt
 have H12 := bA h12
 have hld := gJ h12
 rw [htt] at hld
 have Hld := bA hld
 clear h12 htt t0 t1 hway hld hxtl
 go_upto_if 40 with fail
 obtain ⟨wn, hwn⟩ := Exq (wr.alloc (.cells #[.int .i64 n.op, .int .i64 n.d, .int .i64 n.a, .int .i64 n.b, .int .i64 (tt : Int), .int .i64 n.e] 44))
 have hbW : Below wr.heap.size wr wn := by rw [hwn]; exact (Bnq _ _)
 have hXn : Blk wn wr.heap.size 44 #[.int .i64 n.op, .int .i64 n.d, .int .i64 n.a, .int .i64 n.b, .int .i64 (tt : Int), .int .i64 n.e] := by rw [hwn]; exact Yf
 rw [← hwn]
 have b4 := hXn.cell 4
 simp only [Yl] at b4
 have ct' := ((bB hbW).1 _ _ lx).trans ct
 have ft' := ((bB hbW).2 _ _ lx).trans ft
 have lxn := Vx lx hbW.size
 have HXn := bA hXn
 clear hwn hXn ct ft ck fk c0 c1 c2 c3 c4 c5
 go_cut [] (fun wx => Row wx w.heap.size 4 (.slice (some ⟨w.heap.size + 1, 0, none⟩) l.length l.length) (bE (x.set tt true)) ∧ Blk wx wr.heap.size 44 #[.int .i64 n.op, .int .i64 n.d, .int .i64 n.a, .int .i64 n.b, .int .i64 (tt : Int), .int .i64 n.e] ∧
  Blk wx w.heap.size 24 #[.int .i64 regs, .slice (some ⟨nb, no, none⟩) l.length cap] ∧ Below w.heap.size w wx ∧ wr.heap.size < wx.heap.size)
 case first => (
 go_wp2_with fail
 go_meet
 go_tidy
 exact ⟨(HRow.o.below' hbW).setb0 tt true, HXn.o.far Zd _, (HP.o.below hbW lp).far Zf _, (hB.trans (hbW.mono hz)).setCell Zf _, by have := HXn.o.lt; simpa using this⟩)
 case rest => (
 obtain ⟨hR2, hX2, hP2, hB2, hz2⟩ := hcut
 obtain ⟨wx, rfl⟩ := Exq wc
 obtain ⟨ck, fk⟩ := hR2.bool_at_ (k := k) (by rw [List.length_set, Hxl.o]; exact hkl)
 rw [eW Hxtl.o Hxk.o] at ck
 have b0 := hX2.cell 0
 have b5 := hX2.cell 5
 simp only [Yl] at b0 b5
 have lx2 := (hR2.lt _ rfl).2
 have lp2 := hP2.lt
 have hRe2 := HRe.o.add Hxk.o Hn.o Hld.o htl Hb.o
 have HRe2 := bA hRe2
 clear ct' ft' lxn b4 HXn hRe2
 by_cases h11 : n.op = 11
 · (
 obtain ⟨e0, e1⟩ := hway2 h11
 obtain ⟨ee, hee⟩ := Vy (show 0 ≤ n.e by omega)
 have t11 : (n.op == 11) = true := by simp [h11]
 have hel : ee < l.length := Zb
 obtain ⟨ce, fe⟩ := hR2.bool_at_ (k := ee) (by rw [List.length_set, Hxl.o]; exact hel)
 rw [hee] at b5
 obtain ⟨e0', e1'⟩ := Ikq (k := ee) (n := l.length) (by omega)
 have hld2 := iF h11
 rw [hee] at hld2
 have Hld2 := bA hld2
 have Hee := bA hee
 have H11 := bA h11
 have HR2 := bA hR2
 have HP2 := bA hP2
 clear h11 hee e0 e1 hld2 hR2 hP2 hX2 hway2
 go_wp2_with fail
 go_roundg (l.length - (k + 1))
 case measure => exact Jk
 case rel => (
 have hyk : yn (x.set tt true) k = true := eW Hxtl.o Hxk.o
 have hel' : ee < (x.set tt true).length := by rw [List.length_set, Hxl.o]; exact hel
 refine ⟨k + 1, (x.set tt true).set ee true, Zb, by go_num, rfl, (HRe2.o.add hyk Hn.o Hld2.o hel Hb.o).next (fun _ n2 h2 m hlm => ?_), HR2.o.setb0 ee true, HP2.o.far Zf _, hB2.setCell Zf _⟩
 rw [Hn.o] at h2
 injection h2 with h2
 subst h2
 rcases dF hlm with ⟨_, h⟩ | ⟨_, h⟩
 · (
 rw [Htt.o] at h
 obtain rfl : m = tt := Zb
 exact eW hel' (by rw [cI _ _ _ _ Hxtl.o]; simp))
 · (
 rw [Hee.o] at h
 obtain rfl : m = ee := Zb
 rw [cI _ _ _ _ hel']
 simp)))
 · (
 have t11 : (n.op == 11) = false := by simp [h11]
 have H11 := bA h11
 have HR2 := bA hR2
 have HP2 := bA hP2
 clear h11 hR2 hP2 hX2 hway2
 go_wp2_with fail
 go_roundg (l.length - (k + 1))
 case measure => exact Jk
 case rel => (
 refine ⟨k + 1, x.set tt true, Zb, by go_num, rfl, HRe2.o.next (fun _ n2 h2 m hlm => ?_), HR2.o, HP2.o, hB2⟩
 rw [Hn.o] at h2
 injection h2 with h2
 subst h2
 rcases dF hlm with ⟨_, h⟩ | ⟨h, _⟩
 · (
 rw [Htt.o] at h
 obtain rfl : m = tt := Zb
 rw [cI _ _ _ _ Hxtl.o]
 simp)
 · exact absurd h H11.o))))))
 · (
 have hkk : k = l.length := Zb
 have Hkk := bA hkk
 have HRow := bA hRow
 have HP := bA hP
 clear hkk hRow hP
 go_wp2_with fail
 go_roundg (l.length - (c + 1))
 case measure => exact Jl
 case rel => (
 have := HRe.o
 rw [Hkk.o] at this
 exact ⟨c + 1, x, Zb, by go_num, rfl, this.under, this.zero, this.end_, HRow.o, HP.o, hB⟩))))
 · (
 have hcc : c = l.length := Zb
 have Hcc := bA hcc
 clear hcc
 go_wp2_with fail
 go_ret
 refine ⟨_, rfl, ?_, hB⟩
 rw [← bFF HU.o (by have := Hw.o; rwa [Hcc.o] at this)]
 exact HRow.o)))
end
section
attribute [local irreducible] Row madeCells
def gV (P : Program) (F : FuncId) (caps : Array Value) (w : World) (k : Int) (b : Bool) : Prop :=
 ∀ W, Below w.heap.size w W → Calls P F (#[.int .i64 k] ++ caps) W fun e W' => e = .returned (.bool b) ∧ Below W.heap.size W W'
theorem bCQ (F : FuncId) (caps : Array Value) (p : Int → Bool) (S : Option Addr) (xs : List Int) (cap : Nat) (w : World) (hl : xs.length ≤ maxLen) (hS : bH w S (bO xs))
 (hE : ∀ W args, (callFunc F args).run prog W = .ok (.enter F args) W) (hF : ∀ m ∈ xs, gV prog F caps w m (p m)) :
 Calls prog 158 #[.slice S xs.length cap, .func (.func F) #[] caps] w (bAV (xs.any p) w) := by (
 unfold maxLen at hl
 go_enter func158, ntmps158
 go_wp2
 go_loopw [8] (fun i wr => ∃ k : Nat, k ≤ xs.length ∧ i = .int .i64 k ∧ (xs.take k).any p = false ∧ Below w.heap.size w wr) (fun i _ => xs.length - (intOf i).toNat)
 case atStart => exact Ji
 case round => (
 obtain ⟨k, hk, rfl, hno, hbr⟩ := hrel
 have hzr := hbr.size
 have Hno := bA hno
 clear hno
 by_cases hlt : k < xs.length
 · (
 obtain ⟨b, off, v, rfl, hbl, hkn, hn⟩ := hS.get (k := k) (by rw [bJ]; exact hlt)
 obtain ⟨s, hs, hv⟩ : ∃ s, xs[k]? = some s ∧ Value.int .i64 s = v := by simpa [bO] using hkn
 subst hv
 clear hkn
 have Hkn := bA hs
 have hm : s ∈ xs := Vv hs
 have c0 := ((bB hbr).1 _ _ hbl).trans hn
 have hp := hF s hm wr hbr
 have Hp := bA hp
 clear hp hs
 have hbw : b < wr.heap.size := Zb
 go_wp2_with fail
 refine (Hp.o).mono ?_
 rintro e w1 ⟨rfl, hb1⟩
 have hbr1 := hbr.trans (hb1.mono hzr)
 cases ho : p s
 · (
 go_wp2_with fail
 go_roundw
 case rel => exact ⟨k + 1, Zb, by go_num, by rw [dN _ xs k s Hkn.o, Hno.o]; simp [ho], hbr1⟩
 case measure => simp [intOf]; omega)
 · (
 go_wp2_with fail
 go_ret
 exact ⟨k, rfl, by rw [fP _ xs k s Hkn.o ho]; simp, hbr1⟩))
 · (
 go_wp2
 go_ret
 exact ⟨-1, rfl, by rw [← eB _ xs k hlt, Hno.o]; rfl, hbr⟩)))
theorem bDW (F : FuncId) (caps : Array Value) (p : Int → Bool) (S : Option Addr) (xs : List Int) (cap : Nat) (w : World) (hl : xs.length ≤ maxLen) (hS : bH w S (bO xs))
 (hE : ∀ W args, (callFunc F args).run prog W = .ok (.enter F args) W) (hF : ∀ m ∈ xs, gV prog F caps w m (p m)) :
 Calls prog 130 #[.slice S xs.length cap, .func (.func F) #[] caps] w fun e w' => e = .returned (.bool (xs.any p)) ∧ Below w.heap.size w w' := by (
 have h := bCQ F caps p S xs cap w hl hS hE hF
 have H := bA h
 clear h hF hS
 generalize xs.any p = q at *
 go_enter func130, ntmps130
 go_wp2_with (go_at_call 158; refine (H.o).mono ?_; rintro e w1 ⟨r, rfl, hr, hb1⟩)
 go_ret
 exact ⟨by rw [← hr]; rfl, hb1⟩)
theorem bBJ (F : FuncId) (caps : Array Value) (p : Int → Bool) (S : Option Addr) (xs : List Int) (cap : Nat) (w : World) (hl : xs.length ≤ maxLen) (hS : bH w S (bO xs))
 (hE : ∀ W args, (callFunc F args).run prog W = .ok (.enter F args) W) (hF : ∀ m ∈ xs, gV prog F caps w m (p m)) :
 Calls prog 83 #[.slice S xs.length cap, .func (.func F) #[] caps] w fun e w' => e = .returned (.bool (xs.any p)) ∧ Below w.heap.size w w' := by (
 have H := bA (bDW F caps p S xs cap w hl hS hE hF)
 clear hF hS
 generalize xs.any p = q at *
 go_enter func83, ntmps83
 go_wp2_with (go_at_call 130; refine (H.o).mono ?_; rintro e w1 ⟨rfl, hb1⟩)
 go_ret
 exact ⟨rfl, hb1⟩)
theorem nA (F : FuncId) (caps : Array Value) (f : Nat → Bool) (regs : Int) (A : Option Addr) (n cap : Nat) (w : World) (hn : n ≤ 65536)
 (hE : ∀ W args, (callFunc F args).run prog W = .ok (.enter F args) W) (hF : ∀ k : Nat, k < n → gV prog F caps w k (f k)) :
 Calls prog 75 #[.agg #[.int .i64 regs, .slice A n cap], .func (.func F) #[] caps] w (sC 4 (mk n f) w) := by (
 obtain ⟨ib, hbi, hbz, hbs, hbb⟩ := info_parts gM
 have hmk := dK (P := prog) 70 4 ib _ 1 underlying70 hbi hbz hbs hbb Zb rfl n Zb
 go_enter func75, ntmps75
 go_wp2_with fail
 go_loopg [13] (n) (fun gk i wr => ∃ k : Nat, k ≤ n ∧ i = .int .i64 k ∧ gk = n - k ∧ ∃ x : List Bool, x.length = n ∧ (∀ j, j < k → yn x j = f j) ∧ Row wr w.heap.size 4 (.slice (some ⟨w.heap.size + 1, 0, none⟩) n n) (bE x) ∧ Below w.heap.size w wr)
 case atStart => exact Jm
 case round => (
 obtain ⟨k, hk, rfl, hgk, x, hxl, hxf, hR, hB⟩ := hrel
 have Hgk := bA hgk
 have Hxf := bA hxf
 have hxlt := (hR.lt _ rfl).2
 clear hgk hxf hmk
 by_cases hlt : k < n
 · (
 have hp := hF k hlt wr hB
 have Hp := bA hp
 have HF := bA hF
 have HR := bA hR
 clear hp hF hR
 refine Vl fun u0 u1 => ?_
 go_wp2_with fail
 refine (Hp.o).mono ?_
 rintro e w1 ⟨rfl, hb1⟩
 have hR1 := HR.o.below' hb1
 obtain ⟨g0, o0, cp0, e0, _, _, cx, fx⟩ := hR1.bool (k := k) Xn
 injection e0 with e0 e1 e2
 injection e0 with e0
 injection e0 with e0 e3
 subst e0 e3
 simp only [Nat.zero_add] at cx fx
 clear e1 e2
 have hz1 := hb1.size
 have hx1 := Vx hxlt hz1
 have HR1 := bA hR1
 clear hR1
 go_wp2_with fail
 go_roundg (n - (k + 1))
 case measure => exact Jl
 case rel => (
 have hs := HR1.o.setb k (f k)
 rw [Nat.zero_add] at hs
 refine ⟨k + 1, Zb, by go_num, rfl, x.set k (f k), by simpa using hxl, fun j hj => ?_, hs, (hB.trans (hb1.mono hB.size)).setCell Zd _⟩
 rw [cI _ _ _ _ Xn]
 split
 · rename_i e; rw [e]
 · exact Hxf.o j Zb))
 · (
 have hkk : k = n := Zb
 subst hkk
 have hxe : x = mk k f := nJ (by rw [dC, hxl]) fun j hj => by rw [Hxf.o j Zb, oM Zb]
 subst hxe
 have HR := bA hR
 clear hR
 go_wp2_with fail
 go_ret
 exact ⟨_, rfl, HR.o, hB⟩)))
end
section
attribute [local irreducible] Row madeCells
theorem Yr {P : Prop} (h : P := by (
 go_enter func76, ntmps76
 go_wp2_with fail
 go_quiet (fail)
 go_wp2_with fail
 go_ret
 exact ⟨rfl, cB (Below.refl _ _) _⟩)) : P := h
def tmA (t : Tm) : Array Value := #[.int .i64 t.op, .int .i64 t.a, .int .i64 t.b]
theorem bLX (regs : Int) (A : Option Addr) (l : List Nd) (cap P T : Nat) (t : Tm) (w : World) (hP : Blk w P 24 #[.int .i64 regs, .slice A l.length cap]) (hT : Blk w T 41 (tmA t)) (hA : bG w A l) {k : Nat} (hk : k < l.length) :
 gV prog 76 #[.pointer (some ⟨P, 0, none⟩), .pointer (some ⟨T, 0, none⟩)] w k (fJ t (nd l k)) := by (
 intro W hW
 obtain ⟨b, off, n, rfl, hb, hn, hl⟩ := (hA.below hW).get hk
 rw [dH hn]
 obtain ⟨c0, c1, c2, c3, c4, c5⟩ := hl
 have hP' := hP.below hW hP.lt
 have hT' := hT.below hW hT.lt
 have p1 := hP'.cell 1
 have t0 := hT'.cell 0
 have t1 := hT'.cell 1
 have t2 := hT'.cell 2
 have lp := hP'.lt
 have lt := hT'.lt
 simp only [tmA, Yl] at p1 t0 t1 t2
 refine Vf fun u0 u1 => ?_
 clear hP hT hP' hT' hA hn hW
 show Calls prog 76 #[.int .i64 k, .pointer (some ⟨P, 0, none⟩), .pointer (some ⟨T, 0, none⟩)] W _
 unfold fJ
 cases h1 : (n.op == t.op)
 · exact Yr
 · (
 cases h2 : (n.a == t.a)
 · exact Yr
 · (
 go_enter func76, ntmps76
 go_wp2_with fail
 go_quiet (fail)
 go_wp2_with fail
 go_ret
 exact ⟨Zf, cB (Below.refl _ _) _⟩)))
theorem bLW (regs : Int) (A : Option Addr) (l : List Nd) (cap P T : Nat) (t : Tm) (w : World) (hP : Blk w P 24 #[.int .i64 regs, .slice A l.length cap]) (hT : Blk w T 41 (tmA t)) (hA : bG w A l) {k : Nat} (hk : k < l.length) :
 gV prog 77 #[.pointer (some ⟨P, 0, none⟩), .pointer (some ⟨T, 0, none⟩)] w k (kZ t (nd l k)) := by (
 intro W hW
 obtain ⟨b, off, n, rfl, hb, hn, hl⟩ := (hA.below hW).get hk
 rw [dH hn]
 obtain ⟨c0, c1, c2, c3, c4, c5⟩ := hl
 have hP' := hP.below hW hP.lt
 have hT' := hT.below hW hT.lt
 have p1 := hP'.cell 1
 have t0 := hT'.cell 0
 have t1 := hT'.cell 1
 have t2 := hT'.cell 2
 have lp := hP'.lt
 have lt := hT'.lt
 simp only [tmA, Yl] at p1 t0 t1 t2
 refine Vf fun u0 u1 => ?_
 have hd : dI n.op = !(decide (n.op < 1) || decide (9 < n.op)) := by (
 unfold dI inB
 rw [Bool.eq_iff_iff]
 simp <;> omega)
 have Hd := bA hd
 clear hP hT hP' hT' hA hn hW hd
 show Calls prog 77 #[.int .i64 k, .pointer (some ⟨P, 0, none⟩), .pointer (some ⟨T, 0, none⟩)] W _
 unfold kZ
 rw [Hd.o]
 by_cases h1 : n.op < 1
 · (
 have d1 : decide (n.op < 1) = true := by simp [h1]
 rw [d1]
 clear h1
 go_enter func77, ntmps77
 go_wp2
 go_ret
 exact ⟨rfl, Ye⟩)
 · (
 have d1 : decide (n.op < 1) = false := by simp [h1]
 rw [d1]
 clear h1
 by_cases h2 : 9 < n.op
 · (
 have d2 : decide (9 < n.op) = true := by simp [h2]
 have d3 : decide (n.op > 9) = true := d2
 rw [d2]
 clear h2
 go_enter func77, ntmps77
 go_wp2
 go_ret
 exact ⟨rfl, Ye⟩)
 · (
 have d2 : decide (9 < n.op) = false := by simp [h2]
 have d3 : decide (n.op > 9) = false := d2
 rw [d2]
 clear h2
 cases h3 : (n.d != t.a)
 · (
 go_enter func77, ntmps77
 go_wp2
 go_ret
 exact ⟨rfl, Ye⟩)
 · (
 go_enter func77, ntmps77
 go_wp2
 go_ret
 exact ⟨Zf, Ye⟩))))
theorem bIX (L : Option Addr) (x : List Bool) (c g : Nat) (w : World) (hG : Blk w g 70 #[.slice L x.length c]) (hL : bH w L (bE x)) {k : Nat} (hk : k < x.length) :
 gV prog 79 #[.pointer (some ⟨g, 0, none⟩)] w k (!yn x k) := by (
 intro W hW
 obtain ⟨b, off, rfl, hb, hc⟩ := (hL.below hW).bool hk
 have hG' := hG.below hW hG.lt
 have g0 := hG'.cell 0
 have lg := hG'.lt
 simp only [List.getElem?_toArray, List.getElem?_cons_zero] at g0
 obtain ⟨u0, u1⟩ := Ikq (k := k) (n := x.length) (by omega)
 clear hG hG' hL hW
 show Calls prog 79 #[.int .i64 k, .pointer (some ⟨g, 0, none⟩)] W _
 go_enter func79, ntmps79
 go_wp2
 go_ret
 exact ⟨rfl, Below.refl _ _⟩)
theorem bOR (W : World) (args : Array Value) : (callFunc 79 args).run prog W = .ok (.enter 79 args) W := Zc
theorem bQK (W : World) (args : Array Value) : (callFunc 76 args).run prog W = .ok (.enter 76 args) W := Zc
theorem bQJ (W : World) (args : Array Value) : (callFunc 77 args).run prog W = .ok (.enter 77 args) W := Zc
theorem bQI (W : World) (args : Array Value) : (callFunc 81 args).run prog W = .ok (.enter 81 args) W := Zc
theorem bQH (W : World) (args : Array Value) : (callFunc 82 args).run prog W = .ok (.enter 82 args) W := Zc
theorem bQG (W : World) (args : Array Value) : (callFunc 85 args).run prog W = .ok (.enter 85 args) W := Zc
theorem zS (regs : Int) (A : Option Addr) (n cap P : Nat) (L : Option Addr) (x : List Bool) (c : Nat) (w : World) (hn : n ≤ 65536) (hx : x.length = n) (hP : Blk w P 24 #[.int .i64 regs, .slice A n cap]) (hL : bH w L (bE x)) :
 Calls prog 78 #[.slice L n c, .pointer (some ⟨P, 0, none⟩)] w (sC 4 (cQ x) w) := by (
 subst hx
 have hE := fun (W : World) (hW : Below w.heap.size w W) (hb : Blk W w.heap.size 70 #[.slice L x.length c]) => nA 79 #[.pointer (some ⟨w.heap.size, 0, none⟩)] (fun k => !yn x k) regs A x.length cap W hn bOR (fun k hk => bIX L x c w.heap.size W hb (hL.below hW) hk)
 have HE := bA hE
 have p0 := hP.cell 0
 have p1 := hP.cell 1
 have lp := hP.lt
 simp only [Yl] at p0 p1
 clear hE hP hL
 go_enter func78, ntmps78
 go_wp2_with (go_at_call 75; refine (HE.o _ Ye Yf).mono ?_; rintro e w1 ⟨v, rfl, hr, hb⟩)
 go_ret
 exact ⟨_, rfl, hr.mono Zf, Ye⟩)
theorem bLV (K R : Option Addr) (x y : List Bool) (c d g h : Nat) (w : World) (hG : Blk w g 70 #[.slice K x.length c]) (hH : Blk w h 70 #[.slice R y.length d]) (hK : bH w K (bE x)) (hR : bH w R (bE y)) {k : Nat} (hk : k < x.length) (hk2 : k < y.length) :
 gV prog 81 #[.pointer (some ⟨g, 0, none⟩), .pointer (some ⟨h, 0, none⟩)] w k (yn x k && yn y k) := by (
 intro W hW
 obtain ⟨b, off, rfl, hb, hc⟩ := (hK.below hW).bool hk
 obtain ⟨b2, off2, rfl, hb2, hc2⟩ := (hR.below hW).bool hk2
 have hG' := hG.below hW hG.lt
 have hH' := hH.below hW hH.lt
 have g0 := hG'.cell 0
 have h0 := hH'.cell 0
 have lg := hG'.lt
 have lh := hH'.lt
 simp only [List.getElem?_toArray, List.getElem?_cons_zero] at g0 h0
 obtain ⟨u0, u1⟩ := Ikq (k := k) (n := x.length) (by omega)
 have u2 : (k : Int) < (y.length : Int) := Zb
 clear hG hG' hH hH' hK hR hW
 show Calls prog 81 #[.int .i64 k, .pointer (some ⟨g, 0, none⟩), .pointer (some ⟨h, 0, none⟩)] W _
 cases h1 : yn x k
 · (
 rw [h1] at hc
 go_enter func81, ntmps81
 go_wp2
 go_ret
 exact ⟨rfl, Below.refl _ _⟩)
 · (
 rw [h1] at hc
 go_enter func81, ntmps81
 go_wp2
 go_ret
 exact ⟨rfl, Below.refl _ _⟩))
def oA (w : World) (t : TypeId) (g GA n : Nat) (E : Nat → List Int) : Prop :=
 Blk w g t #[.slice (some ⟨GA, 0, none⟩) n n] ∧ GA < w.heap.size ∧ ∀ k, k < n → ∃ (R : Option Addr) (es : List Int) (c : Nat), w.cell? ⟨GA, k, none⟩ = some (.slice R es.length c) ∧ bH w R (bO es) ∧ es.length ≤ 65536 ∧ ∀ m, m ∈ es ↔ m ∈ E k
theorem oA.below {w w' : World} {t : TypeId} {g GA n : Nat} {E : Nat → List Int} (h : oA w t g GA n E) (hb : Below w.heap.size w w') : oA w' t g GA n E := by (
 obtain ⟨h1, h2, h3⟩ := h
 refine ⟨h1.below hb h1.lt, Vx h2 hb.size, fun k hk => ?_⟩
 obtain ⟨R, es, c, c1, c2, c3⟩ := h3 k hk
 exact ⟨R, es, c, ((bB hb).1 _ _ h2).trans c1, c2.below hb, c3⟩)
theorem bDV {es es' : List Int} {p : Int → Bool} (h : ∀ m, m ∈ es ↔ m ∈ es') : es.any p = es'.any p := by (
 rw [Bool.eq_iff_iff, List.any_eq_true, List.any_eq_true]
 simp only [h])
theorem bJE {es es' : List Int} (h : ∀ m, m ∈ es ↔ m ∈ es') : (es.length == 0) = (es'.length == 0) := by (
 rw [Bool.eq_iff_iff]
 simp only [beq_iff_eq, List.length_eq_zero_iff, List.eq_nil_iff_forall_not_mem, h])
theorem bIW (K D U : Option Addr) (x d u : List Bool) (kc dc uc g f : Nat) (cs : Array Value) (w : World) (hG : Blk w g 70 #[.slice K x.length kc]) (hF : Blk w f 72 cs) (f0 : cs[0]? = some (.slice D d.length dc)) (f1 : cs[1]? = some (.slice U u.length uc))
 (hK : bH w K (bE x)) (hD : bH w D (bE d)) (hU : bH w U (bE u)) {m : Nat} (h1 : m < x.length) (h2 : m < d.length) (h3 : m < u.length) :
 gV prog 84 #[.pointer (some ⟨g, 0, none⟩), .pointer (some ⟨f, 0, none⟩)] w m (!yn x m || !yn d m && !yn u m) := by (
 intro W hW
 obtain ⟨b, off, rfl, hb, hc⟩ := (hK.below hW).bool h1
 obtain ⟨b2, off2, rfl, hb2, hc2⟩ := (hD.below hW).bool h2
 obtain ⟨b3, off3, rfl, hb3, hc3⟩ := (hU.below hW).bool h3
 have hG' := hG.below hW hG.lt
 have hF' := hF.below hW hF.lt
 have g0 := hG'.cell 0
 have q0 := (hF'.cell 0).trans f0
 have q1 := (hF'.cell 1).trans f1
 have lg := hG'.lt
 have lf := hF'.lt
 simp only [List.getElem?_toArray, List.getElem?_cons_zero] at g0
 obtain ⟨u0, u1⟩ := Ikq (k := m) (n := x.length) (by omega)
 have u2 : (m : Int) < (d.length : Int) := Zb
 have u3 : (m : Int) < (u.length : Int) := Zb
 clear hG hG' hF hF' hK hD hU hW f0 f1
 show Calls prog 84 #[.int .i64 m, .pointer (some ⟨g, 0, none⟩), .pointer (some ⟨f, 0, none⟩)] W _
 cases e1 : yn x m
 · (
 rw [e1] at hc
 go_enter func84, ntmps84
 go_wp2
 go_ret
 exact ⟨rfl, Below.refl _ _⟩)
 · (
 rw [e1] at hc
 cases e2 : yn d m
 · (
 rw [e2] at hc2
 go_enter func84, ntmps84
 go_wp2
 go_ret
 exact ⟨rfl, Below.refl _ _⟩)
 · (
 rw [e2] at hc2
 go_enter func84, ntmps84
 go_wp2
 go_ret
 exact ⟨rfl, Below.refl _ _⟩)))
theorem bIV (D : Option Addr) (d : List Bool) (dc f : Nat) (cs : Array Value) (w : World) (hF : Blk w f 72 cs) (f3 : cs[3]? = some (.slice D d.length dc)) (hD : bH w D (bE d)) {m : Nat} (h2 : m < d.length) :
 gV prog 86 #[.pointer (some ⟨f, 0, none⟩)] w m (!yn d m) := by (
 intro W hW
 obtain ⟨b2, off2, rfl, hb2, hc2⟩ := (hD.below hW).bool h2
 have hF' := hF.below hW hF.lt
 have q0 := (hF'.cell 3).trans f3
 have lf := hF'.lt
 obtain ⟨u0, u2⟩ := Ikq (k := m) (n := d.length) (by omega)
 clear hF hF' hD hW f3
 show Calls prog 86 #[.int .i64 m, .pointer (some ⟨f, 0, none⟩)] W _
 go_enter func86, ntmps86
 go_wp2
 go_ret
 exact ⟨rfl, Below.refl _ _⟩)
theorem bOQ (W : World) (args : Array Value) : (callFunc 84 args).run prog W = .ok (.enter 84 args) W := Zc
theorem bOP (W : World) (args : Array Value) : (callFunc 86 args).run prog W = .ok (.enter 86 args) W := Zc
theorem bLU (K D U : Option Addr) (x d u : List Bool) (kc dc uc g f a GA n : Nat) (E : Nat → List Int) (cs : Array Value) (w : World) (hG : Blk w g 70 #[.slice K x.length kc]) (hF : Blk w f 72 cs) (f0 : cs[0]? = some (.slice D d.length dc)) (f1 : cs[1]? = some (.slice U u.length uc))
 (hA : oA w 129 a GA n E) (hK : bH w K (bE x)) (hD : bH w D (bE d)) (hU : bH w U (bE u)) (h1 : x.length = n) (h2 : d.length = n) (h3 : u.length = n) (hE : ∀ k m, m ∈ E k → 0 ≤ m ∧ m < (n : Int)) {k : Nat} (hk : k < n) :
 gV prog 82 #[.pointer (some ⟨f, 0, none⟩), .pointer (some ⟨a, 0, none⟩), .pointer (some ⟨g, 0, none⟩)] w k (yn d k && ((E k).length == 0 || (E k).any fun m => !yn x m.toNat || !yn d m.toNat && !yn u m.toNat)) := by (
 intro W hW
 obtain ⟨hB, hGA, hT⟩ := hA.below hW
 obtain ⟨R, es, c, hc, hR, hes, hsame⟩ := hT k hk
 have HD := bA (hD.below hW)
 obtain ⟨b2, off2, eD, hb2, hc2⟩ := HD.o.bool (k := k) Zb
 subst eD
 have hG' := hG.below hW hG.lt
 have hF' := hF.below hW hF.lt
 have q0 := (hF'.cell 0).trans f0
 have a0 := hB.cell 0
 have lf := hF'.lt
 have la := hB.lt
 simp only [List.getElem?_toArray, List.getElem?_cons_zero] at a0
 refine Vl fun u0 u1 => ?_
 have u2 : (k : Int) < (d.length : Int) := Zb
 rw [← bDV hsame, ← bJE hsame]
 have hS := bBJ 84 #[.pointer (some ⟨g, 0, none⟩), .pointer (some ⟨f, 0, none⟩)] (fun m => !yn x m.toNat || !yn d m.toNat && !yn u m.toNat) R es c W Zw hR bOQ (fun m hm => by
  obtain ⟨m0, m1⟩ := hE k m ((hsame m).1 hm)
  obtain ⟨q, rfl⟩ := Vy m0
  exact bIW K _ U x d u kc dc uc g f cs W hG' hF' f0 f1 (hK.below hW) HD.o (hU.below hW) Zb Zb Zb)
 have HS := bA hS
 generalize (es.any fun m => !yn x m.toNat || !yn d m.toNat && !yn u m.toNat) = q at *
 clear hG hG' hF hF' hK hU hW f0 f1 hT hA hsame hB hS hD HD hE hR
 show Calls prog 82 #[.int .i64 k, .pointer (some ⟨f, 0, none⟩), .pointer (some ⟨a, 0, none⟩), .pointer (some ⟨g, 0, none⟩)] W _
 cases e2 : yn d k
 · (
 rw [e2] at hc2
 go_enter func82, ntmps82
 go_wp2_with fail
 go_ret
 exact ⟨rfl, Below.refl _ _⟩)
 · (
 rw [e2] at hc2
 cases e3 : ((es.length : Int) == 0)
 · (
 have e4 : (es.length == 0) = false := by simp at e3 ⊢; exact e3
 rw [e4]
 go_enter func82, ntmps82
 go_wp2_with (go_at_call 83; refine (HS.o).mono ?_; rintro e w1 ⟨rfl, hb1⟩)
 go_ret
 exact ⟨Zf, hb1⟩)
 · (
 have e4 : (es.length == 0) = true := by simp at e3 ⊢; exact e3
 rw [e4]
 go_enter func82, ntmps82
 go_wp2_with fail
 go_ret
 exact ⟨rfl, Below.refl _ _⟩)))
theorem bLT (D R0 : Option Addr) (d y : List Bool) (dc yc h f a GA n : Nat) (E : Nat → List Int) (cs : Array Value) (w : World) (hH : Blk w h 70 #[.slice R0 y.length yc]) (hF : Blk w f 72 cs) (f3 : cs[3]? = some (.slice D d.length dc))
 (hA : oA w 129 a GA n E) (hY : bH w R0 (bE y)) (hD : bH w D (bE d)) (h1 : y.length = n) (h2 : d.length = n) (hE : ∀ k m, m ∈ E k → 0 ≤ m ∧ m < (n : Int)) {k : Nat} (hk : k < n) :
 gV prog 85 #[.pointer (some ⟨f, 0, none⟩), .pointer (some ⟨h, 0, none⟩), .pointer (some ⟨a, 0, none⟩)] w k (yn d k && (yn y k || (E k).any fun m => !yn d m.toNat)) := by (
 intro W hW
 obtain ⟨hB, hGA, hT⟩ := hA.below hW
 obtain ⟨R, es, c, hc, hR, hes, hsame⟩ := hT k hk
 have HD := bA (hD.below hW)
 obtain ⟨b2, off2, eD, hb2, hc2⟩ := HD.o.bool (k := k) Zb
 subst eD
 obtain ⟨b3, off3, rfl, hb3, hc3⟩ := (hY.below hW).bool (k := k) Zb
 have hH' := hH.below hW hH.lt
 have hF' := hF.below hW hF.lt
 have q0 := (hF'.cell 3).trans f3
 have a0 := hB.cell 0
 have h0 := hH'.cell 0
 have lf := hF'.lt
 have la := hB.lt
 have lh := hH'.lt
 simp only [List.getElem?_toArray, List.getElem?_cons_zero] at a0 h0
 refine Vl fun u0 u1 => ?_
 have u2 : (k : Int) < (d.length : Int) := Zb
 have u3 : (k : Int) < (y.length : Int) := Zb
 rw [← bDV hsame]
 have hS := bBJ 86 #[.pointer (some ⟨f, 0, none⟩)] (fun m => !yn d m.toNat) R es c W Zw hR bOP (fun m hm => by
  obtain ⟨m0, m1⟩ := hE k m ((hsame m).1 hm)
  obtain ⟨q, rfl⟩ := Vy m0
  exact bIV _ d dc f cs W hF' f3 HD.o Zb)
 have HS := bA hS
 generalize (es.any fun m => !yn d m.toNat) = q at *
 clear hF hF' hH hH' hW f3 hT hA hsame hB hS hD HD hE hR hY
 show Calls prog 85 #[.int .i64 k, .pointer (some ⟨f, 0, none⟩), .pointer (some ⟨h, 0, none⟩), .pointer (some ⟨a, 0, none⟩)] W _
 cases e2 : yn d k
 · (
 rw [e2] at hc2
 go_enter func85, ntmps85
 go_wp2_with fail
 go_ret
 exact ⟨rfl, Below.refl _ _⟩)
 · (
 rw [e2] at hc2
 cases e3 : yn y k
 · (
 rw [e3] at hc3
 go_enter func85, ntmps85
 go_wp2_with (go_at_call 83; refine (HS.o).mono ?_; rintro e w1 ⟨rfl, hb1⟩)
 go_ret
 exact ⟨Zf, hb1⟩)
 · (
 rw [e3] at hc3
 go_enter func85, ntmps85
 go_wp2_with fail
 go_ret
 exact ⟨rfl, Below.refl _ _⟩)))
end
theorem bHV {α : Type} {x y : List α} (hl : x.length = y.length) (h : ∀ (i : Nat), i < x.length → x[i]? = y[i]?) : x = y := by (
 apply List.ext_getElem?
 intro i
 by_cases hi : i < x.length
 · exact h i hi
 · rw [List.getElem?_eq_none Zb, List.getElem?_eq_none Zb])
theorem bH.int {w : World} {A : Option Addr} {l : List Int} (h : bH w A (bO l)) {k : Nat} (hk : k < l.length) :
 ∃ b off z, A = some ⟨b, off, none⟩ ∧ b < w.heap.size ∧ l[k]? = some z ∧ w.cell? ⟨b, off + k, none⟩ = some (.int .i64 z) := by (
 obtain ⟨b, off, v, e, hb, hv, hc⟩ := h.get (k := k) (by rw [bJ]; exact hk)
 rw [jP, Vs hk] at hv
 simp at hv
 subst hv
 exact ⟨b, off, l[k], e, hb, Vs hk, hc⟩)
theorem bAQ (X Y : Option Addr) (xc yc : Nat) (x y : List Int) (w : World) (hX : bH w X (bO x)) (hY : bH w Y (bO y)) (hx : x.length ≤ maxLen) (hy : y.length ≤ maxLen) :
 Calls prog 25 #[.slice X x.length xc, .slice Y y.length yc] w fun e w' => e = .returned (.bool (x == y)) ∧ ∃ d, w' = w.drewN d := by (
 unfold maxLen at hx hy
 by_cases hl : x.length = y.length
 · (
 have Hl := bA hl
 have h1 : ((x.length : Int) != (y.length : Int)) = false := by simp [hl]
 clear hl
 go_enter func25, ntmps25
 go_wp2_with fail
 go_loopg [5] (x.length) (fun gk i wr => ∃ k : Nat, k ≤ x.length ∧ i = .int .i64 k ∧ gk = x.length - k ∧ (∀ j, j < k → x[j]? = y[j]?) ∧ ∃ d, wr = w.drewN d)
 case atStart => exact ⟨0, Nat.zero_le _, rfl, Zb, fun j hj => by omega, 0, rfl⟩
 case round => (
 obtain ⟨k, hk, rfl, hgk, hno, d, rfl⟩ := hrel
 have Hgk := bA hgk
 have Hno := bA hno
 clear hgk hno
 by_cases hlt : k < x.length
 · (
 have hlt2 : k < y.length := by rw [← Hl.o]; exact hlt
 obtain ⟨xb, xo, u, rfl, hxb, hu, cx⟩ := hX.int hlt
 obtain ⟨yb, yo, v, rfl, hyb, hv, cy⟩ := hY.int hlt2
 have Hu := bA hu
 have Hv := bA hv
 obtain ⟨k0, k1⟩ := Ikq (k := k) (n := x.length) (by omega)
 have k2 : (k : Int) < (y.length : Int) := Zb
 clear hX hY hu hv
 cases hq : (u != v)
 case true => (
 have hf : (x == y) = false := by (
 rw [beq_eq_false_iff_ne]
 rintro rfl
 have := Hu.o.symm.trans Hv.o
 injection this with this
 subst this
 simp at hq)
 have Hf := bA hf
 clear hf
 go_wp2_with fail
 go_quiet (fail)
 go_wp2_with fail
 go_ret
 exact ⟨by rw [Hf.o]; rfl, d + nq, Zf⟩)
 case false => (
 have Hq := bA hq
 go_wp2_with fail
 go_quiet (fail)
 go_wp2_with fail
 go_roundg (x.length - (k + 1))
 case measure => exact Jl
 case rel => (
 refine ⟨k + 1, Zb, by go_num, rfl, fun j hj => ?_, d + nq, Zf⟩
 by_cases hjk : j = k
 · (
 subst hjk
 rw [Hu.o, Hv.o]
 have := Hq.o
 simp at this
 rw [this])
 · exact Hno.o j Zb)))
 · (
 have hf : (x == y) = true := by (
 rw [beq_iff_eq]
 exact bHV Hl.o fun i hi => Hno.o i Zb)
 have Hf := bA hf
 clear hf
 go_wp2_with fail
 go_ret
 exact ⟨by rw [Hf.o]; rfl, _, rfl⟩)))
 · (
 have hf : (x == y) = false := by (
 rw [beq_eq_false_iff_ne]
 intro e
 exact hl (by rw [e]))
 rw [hf]
 have h1 : ((x.length : Int) != (y.length : Int)) = true := by simp; omega
 clear hf hl
 go_enter func25, ntmps25
 go_wp2_with fail
 go_ret
 exact ⟨rfl, 0, rfl⟩))
theorem iO : (prog.info? 44).map (fun i => (i.zero, i.size, i.bytes)) = some (some (.agg #[.int .i64 0, .int .i64 0, .int .i64 0, .int .i64 0, .int .i64 0, .int .i64 0]), 6, 48) := Zc
def bNM (B : Nat) (t : TypeId) (l : List Nd) (w : World) (e : Ending) (w' : World) : Prop := ∃ v, e = .returned v ∧ bK w' B t v l ∧ Below w.heap.size w w'
theorem kI (A : Option Addr) (l : List Nd) (cap : Nat) (w : World) (hA : bG w A l) (hl : 1 ≤ l.length) (hl2 : l.length ≤ 65536) :
 Calls prog 20 #[.slice A l.length cap] w (bNM w.heap.size 44 l w) := by (
 obtain ⟨i3, h3i, h3z, h3s, h3b⟩ := info_parts iO
 obtain ⟨b, off, n0, rfl, hb, hn0, hlie⟩ := hA.get (k := 0) Zb
 have HN := bA hn0
 clear hn0 hlie
 have hne := fun W => Lib.run_eql_slice_nil (P := prog) W
 go_enter func20, ntmps20
 go_wp2_with (at_builtin; refine bL (v := .slice (some ⟨w.heap.size, 0, none⟩) 0 0) (l := []) (base := w.heap.size) rfl _ _ _ rfl i3 _ 48 underlying22 h3i h3z h3s h3b rfl rfl (bK.empty rfl (Nat.le_refl _)) (some ⟨b, off, none⟩) l.length cap l rfl rfl (hA.below Ye) Zq Zh Zf ?_; intro v2 w2 hr2 hg2 hat2)
 go_ret
 exact ⟨_, rfl, by simpa using hr2, ((Bnq _ _)).grown hg2 Zf Xv⟩)
def sB (B : Nat) (t : TypeId) (regs : Int) (l : List Nd) (w : World) (e : Ending) (w' : World) : Prop := ∃ v, e = .returned (.agg #[.int .i64 regs, v]) ∧ bK w' B t v l ∧ Below w.heap.size w w'
theorem uH (regs : Int) (A : Option Addr) (l : List Nd) (cap : Nat) (w : World) (hA : bG w A l) (hl2 : l.length * 48 ≤ 140737488355328) :
 Calls prog 12 #[.agg #[.int .i64 regs, .slice A l.length cap]] w (sB w.heap.size 44 regs l w) := by (
 obtain ⟨i3, h3i, h3z, h3s, h3b⟩ := info_parts iO
 go_enter func12, ntmps12
 go_wp2_with fail
 go_region_law ((refine lH (v := .slice (some ⟨w.heap.size + 1 + 1, 0, none⟩) 0 0) (l := []) (base := w.heap.size) Zi _ _ _ Zi i3 _ 48 underlying22 h3i h3z h3s h3b rfl Zi (bK.drew (bK.empty Zf Zd)) A l.length cap l Zi Zi (hA.below Ye) Zr Zd Zd ?_; intro v2 w2 hr2 hg2 hat2; obtain ⟨A2, c2, hv2, _, _⟩ := hr2.shape; subst hv2; simp only [List.nil_append] at hr2 hat2 ⊢; have hQ2 : Blk w2 (w.heap.size + 1) 24 #[.int .i64 0, .slice none 0 0] := Blk.grown Yf hg2 Zt; have hP2 : Blk w2 w.heap.size 24 #[.int .i64 regs, .slice A l.length cap] := Blk.grown Yf hg2 Zt; have r0 := hQ2.cell 0; have r1 := hQ2.cell 1; have f0 := hQ2.frozen 0; have f1 := hQ2.frozen 1; have q0 := hP2.cell 0; have q1 := hP2.cell 1; simp only [Yl] at r0 r1 q0 q1))
 all_goals go_wp2_with fail
 all_goals go_tidy
 all_goals (refine bodyPost_ret (v := .agg #[.int .i64 regs, .slice A2 l.length c2]) (by simp [results, results12, go_sem, r0, r1, Vr, Vp]) rfl ?_)
 all_goals (refine ⟨_, rfl, bK.far (bK.far hr2 (hr2.ne_blk hQ2 Ze) _) (hr2.ne_blk hQ2 Ze) _, ?_⟩)
 all_goals (have hB2 : Below w.heap.size w w2 := Below.grown Ye hg2 Zd Zt)
 all_goals exact Ye)
theorem jS (regs : Int) (A : Option Addr) (l : List Nd) (cap : Nat) (w : World) (hA : bG w A l) (hl2 : l.length ≤ 65536) :
 Calls prog 12 #[.agg #[.int .i64 regs, .slice A l.length cap]] w (sB w.heap.size 44 regs l w) := uH
   regs A l cap w hA Zb
def Nd.val (n : Nd) : Value := .agg #[.int .i64 n.op, .int .i64 n.d, .int .i64 n.a, .int .i64 n.b, .int .i64 n.t, .int .i64 n.e]
theorem tU (x y : Nd) (w : World) : (Op.equalIn 10000 44 x.val y.val).run prog w = .ok (x == y) w := by (
 have u3 := underlying3
 have a3 : ∀ w, (isAgg 3).run prog w = .ok false w := fun w => by kernel_rfl
 have z3 : ∀ w, (sizeOf 3).run prog w = .ok 1 w := fun w => by kernel_rfl
 have hS : prog.underlying 44 = some (.struct (prog.fieldsOf 44)) := Zc
 have hp : prog.stoodInHeld 44 = false := Zc
 obtain ⟨x0, x1, x2, x3, x4, x5⟩ := x
 obtain ⟨y0, y1, y2, y3, y4, y5⟩ := y
 simp only [Nd.val]
 rw [show (10000 : Nat) = 9999 + 1 from rfl, run_equalIn_agg w 9999 44 _ _ hS hp]
 simp only [Program.fieldsOf, underlying44]
 go_simp
 have hb : ((⟨x0, x1, x2, x3, x4, x5⟩ : Nd) == ⟨y0, y1, y2, y3, y4, y5⟩) = (x0 == y0 && (x1 == y1 && (x2 == y2 && (x3 == y3 && (x4 == y4 && x5 == y5))))) := by (
 rw [Bool.eq_iff_iff]
 simp)
 rw [hb]
 by_cases h0 : x0 = y0 <;> by_cases h1 : x1 = y1 <;> by_cases h2 : x2 = y2 <;> by_cases h3 : x3 = y3 <;> by_cases h4 : x4 = y4 <;> by_cases h5 : x5 = y5 <;> simp [h0, h1, h2, h3, h4, h5])
theorem yW : prog.eqGuardType prog.depth 44 = false := Zc
theorem mL (r1 r2 : Int) (A B : Option Addr) (l m : List Nd) (ac bc : Nat) (w : World) (hA : bG w A l) (hB : bG w B m) (hl : l.length ≤ maxLen) (hm : m.length ≤ maxLen) :
 Calls prog 17 #[.agg #[.int .i64 r1, .slice A l.length ac], .agg #[.int .i64 r2, .slice B m.length bc]] w fun e w' => e = .returned (.bool (r1 == r2 && l == m)) ∧ Below w.heap.size w w' := by (
 unfold maxLen at hl hm
 by_cases hr : r1 = r2
 · (
 have h0 : (r1 != r2) = false := by simp [hr]
 by_cases hll : l.length = m.length
 · (
 have Hl := bA hll
 have Hr := bA hr
 have h1 : ((l.length : Int) != (m.length : Int)) = false := by simp [hll]
 clear hll hr
 go_enter func17, ntmps17
 go_wp2_with fail
 go_loopg [5] (l.length) (fun gk i wr => ∃ k : Nat, k ≤ l.length ∧ i = .int .i64 k ∧ gk = l.length - k ∧ (∀ j, j < k → l[j]? = m[j]?) ∧ Blk wr w.heap.size 24 #[.int .i64 r1, .slice A l.length ac] ∧ Blk wr (w.heap.size + 1) 24 #[.int .i64 r2, .slice B m.length bc] ∧ Below w.heap.size w wr)
 case atStart => exact ⟨0, Nat.zero_le _, rfl, Zb, fun j hj => by omega, Yf, Yf, Ye⟩
 case round => (
 obtain ⟨k, hk, rfl, hgk, hno, hP, hQ, hBl⟩ := hrel
 have Hgk := bA hgk
 have Hno := bA hno
 clear hgk hno
 have hz := hBl.size
 have p0 := hP.cell 0
 have p1 := hP.cell 1
 have q0 := hQ.cell 0
 have q1 := hQ.cell 1
 simp only [Yl] at p0 p1 q0 q1
 by_cases hlt : k < l.length
 · (
 have hlt2 : k < m.length := by rw [← Hl.o]; exact hlt
 obtain ⟨ab, ao, x, rfl, hab, hx, hxl⟩ := (hA.below hBl).get hlt
 obtain ⟨bb, bo, y, rfl, hbb, hy, hyl⟩ := (hB.below hBl).get hlt2
 have Hx := bA hx
 have Hy := bA hy
 obtain ⟨k0, k1⟩ := Ikq (k := k) (n := l.length) (by omega)
 have k2 : (k : Int) < (m.length : Int) := Zb
 obtain ⟨c0, c1, c2, c3, c4, c5⟩ := hxl
 obtain ⟨d0, d1, d2, d3, d4, d5⟩ := hyl
 have HP := bA hP
 have HQ := bA hQ
 have hgd := yW
 have hEq := fun W => tU x y W
 unfold Nd.val at hEq
 cases hq : (x == y)
 case false => (
 rw [hq] at hEq
 have Hq := hq
 have hf : (l == m) = false := by (
 rw [beq_eq_false_iff_ne]
 rintro rfl
 have := Hx.o.symm.trans Hy.o
 injection this with this
 subst this
 simp at Hq)
 have HQ1 := bA hq
 have HP' := bA hP
 have HQ' := bA hQ
 have Hf := bA hf
 clear hA hB hx hy hP hQ hq Hq hf
 go_wp2_with fail
 go_quiet (fail)
 go_wp2_with fail
 go_ret
 exact ⟨by rw [Hf.o]; simp, Ye⟩)
 case true => (
 rw [hq] at hEq
 clear hA hB hx hy hP hQ
 have Hq := bA hq
 clear hq
 go_wp2_with fail
 go_quiet (fail)
 go_wp2_with fail
 go_roundg (l.length - (k + 1))
 case measure => exact Jl
 case rel => (
 refine ⟨k + 1, Zb, by go_num, rfl, fun j hj => ?_, HP.o.drewN _, HQ.o.drewN _, Ye⟩
 by_cases hjk : j = k
 · (
 subst hjk
 rw [Hx.o, Hy.o]
 have := Hq.o
 rw [beq_iff_eq] at this
 rw [this])
 · exact Hno.o j Zb)))
 · (
 have hf : (l == m) = true := by (
 rw [beq_iff_eq]
 exact bHV Hl.o fun i hi => Hno.o i Zb)
 have hf2 : (r1 == r2) = true := by rw [beq_iff_eq]; exact Hr.o
 have Hf := bA hf
 have Hf2 := bA hf2
 clear hf hf2 hP hQ hA hB
 go_wp2_with fail
 go_ret
 exact ⟨by rw [Hf.o, Hf2.o]; rfl, hBl⟩)))
 · (
 have hf : (l == m) = false := by (
 rw [beq_eq_false_iff_ne]
 intro e
 exact hll (by rw [e]))
 rw [hf]
 have h1 : ((l.length : Int) != (m.length : Int)) = true := by simp; omega
 clear hf hll hr
 go_enter func17, ntmps17
 go_wp2_with fail
 go_ret
 exact ⟨Zf, Ye⟩))
 · (
 have h0 : (r1 != r2) = true := by simp [hr]
 have hf : (r1 == r2) = false := by simp [hr]
 rw [hf]
 clear hf hr
 go_enter func17, ntmps17
 go_wp2_with fail
 go_ret
 exact ⟨Zf, Ye⟩))
section
attribute [local irreducible] Row madeCells
def rkB (t : Tm) (n : Nd) : Bool := n == ⟨t.op, n.d, t.a, t.b, n.t, 0⟩
theorem bFD {regs : Int} {l : List Nd} (hR : bN regs l) {n : Nd} (hn : n ∈ l) {t : Tm} (ht : 3 ≤ t.op ∧ t.op ≤ 8) : rkB t n = fJ t n := by (
 have hf := hR.frm n hn
 obtain ⟨op, d, a, b, th, e⟩ := n
 rw [Bool.eq_iff_iff]
 simp only [rkB, fJ, beq_iff_eq, Nd.mk.injEq, V4, true_and]
 constructor
 · (
 rintro ⟨h1, h2, h3, h4⟩
 exact ⟨⟨h1, h2⟩, h3⟩)
 · (
 rintro ⟨⟨h1, h2⟩, h3⟩
 refine ⟨h1, h2, h3, ?_⟩
 simp only [badF, V6, Bool.not_eq_false'] at hf
 have h5 := hf.2
 have : fN op = false := by simp [fN]; omega
 simpa [okF, this] using h5))
theorem iB (n : Nd) (t : Tm) (w : World) : Calls prog 93 #[.agg #[.int .i64 n.op, .int .i64 n.d, .int .i64 n.a, .int .i64 n.b, .int .i64 n.t, .int .i64 n.e], .agg (tmA t)] w fun e w' => e = .returned (.bool (rkB t n)) ∧ Below w.heap.size w w' := by (
 have hEq := fun W => tU n ⟨t.op, n.d, t.a, t.b, n.t, 0⟩ W
 unfold Nd.val at hEq
 have hgd := yW
 unfold tmA rkB
 generalize (n == ⟨t.op, n.d, t.a, t.b, n.t, 0⟩) = q at *
 go_enter func93, ntmps93
 go_wp2_with fail
 go_ret
 exact ⟨rfl, Ye⟩)
structure wX (tF : TypeId) (fb n : Nat) (A0 A1 A2 A3 A4 A5 : Option Addr) (c0 c1 c2 c3 c4 c5 : Nat) (F : Fx) (W : World) : Prop where
 box : Blk W fb tF #[.slice A0 n c0, .slice A1 n c1, .slice A2 n c2, .slice A3 n c3, .slice A4 n c4, .slice A5 n c5]
 down : bH W A0 (bE F.down) ∧ F.down.length = n
 early : bH W A2 (bE F.early) ∧ F.early.length = n
 late : bH W A4 (bE F.late) ∧ F.late.length = n
 alone : bH W A5 (bE F.alone) ∧ F.alone.length = n
theorem wX.later {tF : TypeId} {fb n : Nat} {A0 A1 A2 A3 A4 A5 : Option Addr} {c0 c1 c2 c3 c4 c5 : Nat} {F : Fx} {W W' : World} (h : wX tF fb n A0 A1 A2 A3 A4 A5 c0 c1 c2 c3 c4 c5 F W) (hb : Below W.heap.size W W') : wX tF fb n A0 A1 A2 A3 A4 A5 c0 c1 c2 c3 c4 c5 F W' :=
 ⟨h.box.below hb h.box.lt, ⟨h.down.1.below hb, h.down.2⟩, ⟨h.early.1.below hb, h.early.2⟩, ⟨h.late.1.below hb, h.late.2⟩, ⟨h.alone.1.below hb, h.alone.2⟩⟩
section
variable {fb n : Nat} {A0 A1 A2 A3 A4 A5 : Option Addr} {c0 c1 c2 c3 c4 c5 : Nat} {F : Fx} {w : World} {k : Nat}
theorem bFT (h : wX 72 fb n A0 A1 A2 A3 A4 A5 c0 c1 c2 c3 c4 c5 F w) (hk : k < n) : gV prog 89 #[.pointer (some ⟨fb, 0, none⟩)] w k (yn F.late k && !yn F.alone k) := by (
 intro W hW
 have h := h.later hW
 obtain ⟨b4, o4, rfl, l4, e4⟩ := h.late.1.bool (k := k) (by rw [h.late.2]; exact hk)
 obtain ⟨b5, o5, rfl, l5, e5⟩ := h.alone.1.bool (k := k) (by rw [h.alone.2]; exact hk)
 have q4 := h.box.cell 4
 have q5 := h.box.cell 5
 have lq := h.box.lt
 simp only [Yl] at q4 q5
 refine Vl fun u0 u1 => ?_
 clear h
 show Calls prog 89 #[.int .i64 k, .pointer (some ⟨fb, 0, none⟩)] W _
 generalize yn F.late k = p at *
 generalize yn F.alone k = q at *
 cases p
 · (
 go_enter func89, ntmps89
 go_wp2_with fail
 go_ret
 exact ⟨rfl, Below.refl _ _⟩)
 · (
 go_enter func89, ntmps89
 go_wp2_with fail
 go_ret
 exact ⟨rfl, Below.refl _ _⟩))
theorem bFS (h : wX 72 fb n A0 A1 A2 A3 A4 A5 c0 c1 c2 c3 c4 c5 F w) (hk : k < n) : gV prog 90 #[.pointer (some ⟨fb, 0, none⟩)] w k (!yn F.late k || !yn F.alone k) := by (
 intro W hW
 have h := h.later hW
 obtain ⟨b4, o4, rfl, l4, e4⟩ := h.late.1.bool (k := k) (by rw [h.late.2]; exact hk)
 obtain ⟨b5, o5, rfl, l5, e5⟩ := h.alone.1.bool (k := k) (by rw [h.alone.2]; exact hk)
 have q4 := h.box.cell 4
 have q5 := h.box.cell 5
 have lq := h.box.lt
 simp only [Yl] at q4 q5
 refine Vl fun u0 u1 => ?_
 clear h
 show Calls prog 90 #[.int .i64 k, .pointer (some ⟨fb, 0, none⟩)] W _
 generalize yn F.late k = p at *
 generalize yn F.alone k = q at *
 cases p
 · (
 go_enter func90, ntmps90
 go_wp2_with fail
 go_ret
 exact ⟨rfl, Below.refl _ _⟩)
 · (
 go_enter func90, ntmps90
 go_wp2_with fail
 go_ret
 exact ⟨rfl, Below.refl _ _⟩))
end
end
section
abbrev nil6 : Array Value := #[.slice none 0 0, .slice none 0 0, .slice none 0 0, .slice none 0 0, .slice none 0 0, .slice none 0 0]
abbrev Box := Nat × TypeId × Array Value
structure jV (tS tI : TypeId) (B : Nat) (w : World) (GA GB n : Nat) (ks : List Box) (wr : World) (vs : Nat → Value) (ys : Nat → List Value) : Prop where
 ra : Row wr B tS (.slice (some ⟨GA, 0, none⟩) n n) ((List.range n).map vs)
 rb : Row wr B tS (.slice (some ⟨GB, 0, none⟩) n n) ((List.range n).map fun i => vs (n + i))
 tab : Tab wr B tI (2 * n) vs ys
 kept : ∀ q ∈ ks, Blk wr q.1 q.2.1 q.2.2 ∧ q.2.1 ≠ tI ∧ q.2.1 ≠ tS
 ne : GA ≠ GB
 below : Below B w wr
 sz : B ≤ wr.heap.size
section
variable {tS tI : TypeId} {B : Nat} {w : World} {GA GB n : Nat} {ks : List Box} {wr wr1 w2 : World} {vs : Nat → Value} {ys : Nat → List Value} {v1 : Value} {zs : List Value}
theorem jV.blk (h : jV tS tI B w GA GB n ks wr vs ys) {g : Nat} {t : TypeId} {cs : Array Value} (hq : (g, t, cs) ∈ ks) : Blk wr g t cs := (h.kept _ hq).1
theorem jV.later (h : jV tS tI B w GA GB n ks wr vs ys) (hb : Below wr.heap.size wr wr1) : jV tS tI B w GA GB n ks wr1 vs ys :=
 ⟨h.ra.below' hb, h.rb.below' hb, h.tab.below hb, fun q hq => ⟨(h.kept q hq).1.below hb (h.kept q hq).1.lt, (h.kept q hq).2⟩, h.ne, h.below.trans (hb.mono h.sz), Nat.le_trans h.sz hb.size⟩
theorem jV.cons (h : jV tS tI B w GA GB n ks wr vs ys) {g : Nat} {t : TypeId} {cs : Array Value} (hb : Blk wr g t cs) (n1 : t ≠ tI) (n2 : t ≠ tS) : jV tS tI B w GA GB n ((g, t, cs) :: ks) wr vs ys :=
 ⟨h.ra, h.rb, h.tab, fun q hq => by
  rcases List.mem_cons.1 hq with rfl | hq
  · exact ⟨hb, n1, n2⟩
  · exact h.kept q hq, h.ne, h.below, h.sz⟩
theorem jV.tail {q : Box} (h : jV tS tI B w GA GB n (q :: ks) wr vs ys) : jV tS tI B w GA GB n ks wr vs ys :=
 ⟨h.ra, h.rb, h.tab, fun q hq => h.kept q (List.mem_cons_of_mem _ hq), h.ne, h.below, h.sz⟩
theorem jV.grow (h : jV tS tI B w GA GB n ks wr vs ys) (n2 : tI ≠ tS) {i : Nat} (hi : i < 2 * n) (hr : Row w2 B tI v1 zs) (hg : wr.grownBy w2 (vs i).ownBlock)
 (hat : v1.ownBlock = (vs i).ownBlock ∨ ∀ k, v1.ownBlock = some k → wr.heap.size ≤ k) :
 Row w2 B tS (.slice (some ⟨GA, 0, none⟩) n n) ((List.range n).map vs) ∧ Row w2 B tS (.slice (some ⟨GB, 0, none⟩) n n) ((List.range n).map fun i => vs (n + i)) ∧ Tab w2 B tI (2 * n) (upd vs i v1) (upd ys i zs) ∧
  (∀ q ∈ ks, Blk w2 q.1 q.2.1 q.2.2) ∧ Below B w w2 ∧ B ≤ w2.heap.size := by (
 have hri := h.tab.row hi
 obtain ⟨ca, hca⟩ := h.ra.blk
 obtain ⟨cb, hcb⟩ := h.rb.blk
 have a3 : (vs i).ownBlock ≠ some GA := hri.ne_blk hca n2
 have a4 : (vs i).ownBlock ≠ some GB := hri.ne_blk hcb n2
 exact ⟨h.ra.kept hg (.inr Xg), h.rb.kept hg (.inr Xh), h.tab.put hi hr hg hat,
  fun q hq => (h.kept q hq).1.grown hg (hri.ne_blk (h.kept q hq).1 (Ne.symm (h.kept q hq).2.1)), h.below.grown hg h.sz fun k hk => (hri.lt k hk).1, Nat.le_trans h.sz hg.size⟩)
theorem jV.putA (h : jV tS tI B w GA GB n ks wr vs ys) (n2 : tI ≠ tS) {i : Nat} (hi : i < n) (hr : Row w2 B tI v1 zs) (hg : wr.grownBy w2 (vs i).ownBlock)
 (hat : v1.ownBlock = (vs i).ownBlock ∨ ∀ k, v1.ownBlock = some k → wr.heap.size ≤ k) :
 jV tS tI B w GA GB n ks (w2.setCell ⟨GA, i, none⟩ v1) (upd vs i v1) (upd ys i zs) := by (
 obtain ⟨ra', rb', tab', kept', below', sz'⟩ := h.grow n2 Zb hr hg hat
 obtain ⟨ca, hca⟩ := ra'.blk
 have hB := qI h.ra
 refine ⟨?_, ?_, tab'.far (p := ⟨GA, i, none⟩) hca n2 _, fun q hq => ⟨(kept' q hq).far (Blk.ne_ (kept' q hq) hca (h.kept q hq).2.2) _, (h.kept q hq).2⟩, h.ne, below'.setCell hB _, by simpa using sz'⟩
 · (
 have := ra'.store i v1
 rw [Nat.zero_add] at this
 rwa [fY _ _ hi] at this)
 · (
 have := rb'.far (p := ⟨GA, i, none⟩) (by simp [Value.ownBlock]; exact fun e => h.ne e.symm) v1
 rwa [show ((List.range n).map fun j => upd vs i v1 (n + j)) = (List.range n).map fun j => vs (n + j) from List.map_congr_left fun j hj => bC _ _ Zb]))
theorem jV.putB (h : jV tS tI B w GA GB n ks wr vs ys) (n2 : tI ≠ tS) {i : Nat} (hi : i < n) (hr : Row w2 B tI v1 zs) (hg : wr.grownBy w2 (vs (n + i)).ownBlock)
 (hat : v1.ownBlock = (vs (n + i)).ownBlock ∨ ∀ k, v1.ownBlock = some k → wr.heap.size ≤ k) :
 jV tS tI B w GA GB n ks (w2.setCell ⟨GB, i, none⟩ v1) (upd vs (n + i) v1) (upd ys (n + i) zs) := by (
 obtain ⟨ra', rb', tab', kept', below', sz'⟩ := h.grow n2 (i := n + i) Zb hr hg hat
 obtain ⟨cb, hcb⟩ := rb'.blk
 have hB := qI h.rb
 refine ⟨?_, ?_, tab'.far (p := ⟨GB, i, none⟩) hcb n2 _, fun q hq => ⟨(kept' q hq).far (Blk.ne_ (kept' q hq) hcb (h.kept q hq).2.2) _, (h.kept q hq).2⟩, h.ne, below'.setCell hB _, by simpa using sz'⟩
 · (
 have := ra'.far (p := ⟨GB, i, none⟩) (by simp [Value.ownBlock]; exact h.ne) v1
 rwa [show (List.range n).map (upd vs (n + i) v1) = (List.range n).map vs from List.map_congr_left fun j hj => bC _ _ (by have := List.mem_range.1 hj; omega)])
 · (
 have := rb'.store i v1
 rw [Nat.zero_add] at this
 rwa [oZ _ _ hi] at this))
end
def nxL (l : List Nd) (k i : Nat) : List Int := if i < k then bT (nd l i) else []
def ahL (l : List Nd) (k m : Nat) : List Int := sel (fM l m) k
def ahJ (l : List Nd) (n : Nd) (k j m : Nat) : List Int := ahL l k m ++ (if (m : Int) ∈ (bT n).take j then [(k : Int)] else [])
theorem bLY {l : List Nd} {k : Nat} {n : Nd} (hn : l[k]? = some n) (i : Nat) : nxL l (k + 1) i = if i = k then bT n else nxL l k i := by (
 unfold nxL
 by_cases h : i = k
 · subst h; rw [if_pos Zb, if_pos rfl, dH hn]
 · (
 rw [if_neg h]
 by_cases h2 : i < k
 · rw [if_pos Zb, if_pos h2]
 · rw [if_neg Zb, if_neg h2]))
theorem kD (n : Nd) (m : Int) : m ∈ bT n ↔ bU n m = true := by (
 unfold bT bU
 by_cases h12 : n.op = 12
 · simp [h12]
 · (
 by_cases h11 : n.op = 11
 · (
 by_cases he : n.e = n.t
 · (
 simp [h11, he]
 exact eq_comm)
 · (
 simp [h11, he]
 exact or_congr eq_comm eq_comm))
 · (
 simp [h12, h11]
 exact eq_comm)))
theorem bNC (l : List Nd) (n : Nd) (k m : Nat) : ahJ l n k 0 m = ahL l k m := by simp [ahJ]
theorem bOX {l : List Nd} {k : Nat} {n : Nd} (hn : l[k]? = some n) (m : Nat) {j : Nat} (hj : (bT n).length ≤ j) : ahJ l n k j m = ahL l (k + 1) m := by (
 unfold ahJ ahL
 rw [List.take_of_length_le hj]
 have hp : fM l m k = bU n m := kG hn
 by_cases h : (m : Int) ∈ bT n
 · rw [if_pos h, gY (by rw [hp]; exact (kD n m).1 h)]
 · rw [if_neg h, List.append_nil, gG (by rw [hp]; cases hq : bU n m with | false => rfl | true => exact absurd ((kD n m).2 hq) h)])
theorem bAE (n : Nd) : (bT n).Nodup := by (
 unfold bT
 split
 · simp
 · (
 split
 · rename_i h; simp; exact fun e => h.2 e.symm
 · simp))
theorem bND {l : List Nd} {n : Nd} {k j mm : Nat} (hj : (bT n)[j]? = some (mm : Int)) (m : Nat) : ahJ l n k (j + 1) m = if m = mm then ahJ l n k j m ++ [(k : Int)] else ahJ l n k j m := by (
 unfold ahJ
 have hnd := bAE n
 obtain ⟨hjl, hje⟩ := List.getElem?_eq_some_iff.1 hj
 rw [List.take_add_one, hj]
 by_cases h : m = mm
 · (
 subst h
 have hno : ¬ (m : Int) ∈ (bT n).take j := by (
 intro hm
 obtain ⟨i, hi, he⟩ := List.mem_iff_getElem.1 hm
 rw [List.length_take] at hi
 rw [List.getElem_take] at he
 exact List.pairwise_iff_getElem.1 hnd i j Zb hjl Zb (he.trans hje.symm))
 simp [hno])
 · (
 have h2 : ¬ (m : Int) = (mm : Int) := Zb
 simp [h, h2]))
theorem bOW (l : List Nd) (n : Nd) (k j m : Nat) : (ahJ l n k j m).length ≤ k + 1 := by (
 unfold ahJ ahL
 rw [Vu]
 have := kB (fM l m) k
 split <;> simp <;> omega)
theorem bCX {l : List Nd} {k : Nat} {n : Nd} (hn : l[k]? = some n) (hT : ∀ m ∈ bT n, 0 ≤ m ∧ m < (l.length : Int)) (m : Int) : m ∈ bT n ↔ m ∈ bF true l k := by (
 unfold bF
 simp only [if_true]
 rw [jK]
 constructor
 · (
 intro h
 obtain ⟨h0, h1⟩ := hT m h
 obtain ⟨q, rfl⟩ := Vy h0
 exact ⟨q, Zb, by rw [mV hn]; exact (kD n q).1 h, rfl⟩)
 · (
 rintro ⟨q, hq, hp, rfl⟩
 rw [mV hn] at hp
 exact (kD n q).2 hp))
end
theorem Yw {P : Prop} (h : P := by (
 go_enter func135, ntmps135
 go_wp2_with (go_at_call 95; refine (jB _ _).mono ?_; rw [h1]; rintro e w1 ⟨rfl, rfl⟩)
 go_ret
 exact ⟨rfl, Ye⟩)) : P := h
theorem Yv {P : Prop} (h : P := by (
 go_enter func46, ntmps46
 go_wp2_with (first | (go_at_call 40; refine (HC.o _ Ye).mono ?_; rintro e w1 ⟨rfl, hb1⟩; have hT1 : Blk w1 (w.heap.size + 1) 41 #[.int .i64 t.op, .int .i64 t.a, .int .i64 t.b] := Blk.below (Blk.new' Zf) hb1 Zf; have hP1 : Blk w1 w.heap.size 24 #[.int .i64 regs, .slice A l.length cap] := Blk.below ((Blk.new' rfl).alloc _) hb1 Zd; have lt := hT1.lt; have lp := hP1.lt; have t0 := hT1.cell 0; have t1 := hT1.cell 1; have t2 := hT1.cell 2; have p0 := hP1.cell 0; simp only [Yl] at t0 t1 t2 p0) | (go_at_call 100; refine (lJ _ _).mono ?_; rw [h1]; rintro e w2 ⟨rfl, rfl⟩) | (go_at_call 41; refine (dQ _ _ _ _).mono ?_; (first | rw [h2] | rw [h3]); rintro e w2 ⟨rfl, rfl⟩))
 go_ret
 exact ⟨Zf, Ye⟩)) : P := h
def fxE (regs : Int) (l : List Nd) (t : Tm) : Int :=
 if chk regs l ≠ 0 then chk regs l else if inB t.op 3 8 = false then 4 else if inB t.a 0 (regs - 1) = false ∨ inB t.b 0 (regs - 1) = false then 3 else 0
theorem bCV (regs : Int) (A : Option Addr) (l : List Nd) (cap : Nat) (t : Tm) (w : World) (hl : l.length ≤ maxLen) (hA : bG w A l) :
 Calls prog 74 #[.agg #[.int .i64 regs, .slice A l.length cap], .agg #[.int .i64 t.op, .int .i64 t.a, .int .i64 t.b]] w fun e w' => e = .returned (.int .i64 (fxE regs l t)) ∧ Below w.heap.size w w' := by (
 refine Vj fun hC HC => ?_
 clear hC
 unfold fxE
 by_cases hc : chk regs l = 0
 · (
 have h0 : (chk regs l != 0) = false := by simp [hc]
 have hR := bS hc
 have hr := hR.rlo
 have hr2 := hR.rhi
 rw [if_neg (by simp [hc])]
 clear hR
 have Hc := bA hc
 clear hc
 have hop : inB t.op 3 8 = !(decide (t.op < 3) || decide (8 < t.op)) := by (
 unfold inB; rw [Bool.eq_iff_iff]; simp <;> omega)
 rw [hop]
 clear hop
 by_cases h1 : t.op < 3
 · (
 have d1 : decide (t.op < 3) = true := by simp [h1]
 rw [d1]
 clear h1
 go_enter func74, ntmps74
 go_wp2_with (go_at_call 18; refine (HC.o _ Ye).mono ?_; rintro e w1 ⟨rfl, hb1⟩; have hT1 : Blk w1 (w.heap.size + 1) 41 #[.int .i64 t.op, .int .i64 t.a, .int .i64 t.b] := Blk.below (Blk.new' Zf) hb1 Zf; have lt := hT1.lt; have t0 := hT1.cell 0; simp only [List.getElem?_toArray, List.getElem?_cons_zero] at t0)
 go_ret
 exact ⟨Zf, Ye⟩)
 · (
 have d1 : decide (t.op < 3) = false := by simp [h1]
 rw [d1]
 clear h1
 by_cases h2 : 8 < t.op
 · (
 have d2 : decide (8 < t.op) = true := by simp [h2]
 have d3 : decide (t.op > 8) = true := d2
 rw [d2]
 clear h2
 go_enter func74, ntmps74
 go_wp2_with (go_at_call 18; refine (HC.o _ Ye).mono ?_; rintro e w1 ⟨rfl, hb1⟩; have hT1 : Blk w1 (w.heap.size + 1) 41 #[.int .i64 t.op, .int .i64 t.a, .int .i64 t.b] := Blk.below (Blk.new' Zf) hb1 Zf; have lt := hT1.lt; have t0 := hT1.cell 0; simp only [List.getElem?_toArray, List.getElem?_cons_zero] at t0)
 go_ret
 exact ⟨Zf, Ye⟩)
 · (
 have d2 : decide (8 < t.op) = false := by simp [h2]
 have d3 : decide (t.op > 8) = false := d2
 rw [d2]
 clear h2
 have hab : (inB t.a 0 (regs - 1) = false ∨ inB t.b 0 (regs - 1) = false) ↔ (min t.a t.b < 0 ∨ max t.a t.b ≥ regs) := by (
 unfold inB
 simp only [Bool.and_eq_false_iff, decide_eq_false_iff_not]
 omega)
 simp only [hab, Bool.false_or, Bool.not_false, Bool.true_eq_false, if_false]
 clear hab
 go_enter func74, ntmps74
 go_wp2_with (go_at_call 18; refine (HC.o _ Ye).mono ?_; rintro e w1 ⟨rfl, hb1⟩; have hT1 : Blk w1 (w.heap.size + 1) 41 #[.int .i64 t.op, .int .i64 t.a, .int .i64 t.b] := Blk.below (Blk.new' Zf) hb1 Zf; have hP1 : Blk w1 w.heap.size 24 #[.int .i64 regs, .slice A l.length cap] := Blk.below ((Blk.new' rfl).alloc _) hb1 Zd; have lt := hT1.lt; have lp := hP1.lt; have t0 := hT1.cell 0; have t1 := hT1.cell 1; have t2 := hT1.cell 2; have p0 := hP1.cell 0; simp only [Yl] at t0 t1 t2 p0)
 all_goals go_tidy
 all_goals go_ret
 all_goals refine ⟨?_, Ye⟩
 all_goals (first | rfl | (rw [if_pos Zb]; rfl) | (rw [if_neg Zb]; rfl)))))
 · (
 have h0 : (chk regs l != 0) = true := by simp [hc]
 rw [if_pos hc]
 clear hc
 go_enter func74, ntmps74
 go_wp2_with (go_at_call 18; refine (HC.o _ Ye).mono ?_; rintro e w1 ⟨rfl, hb1⟩)
 go_ret
 exact ⟨rfl, Ye⟩))
theorem iP (regs : Int) (A : Option Addr) (l : List Nd) (cap : Nat) (t : Tm) (w : World) (hA : bG w A l) :
 Calls prog 46 #[.agg #[.int .i64 regs, .slice A l.length cap], .agg #[.int .i64 t.op, .int .i64 t.a, .int .i64 t.b]] w fun e w' => e = .returned (.int .i64 (fxE regs l t)) ∧ Below w.heap.size w w' := by (
 have hC := fun W (hW : Below w.heap.size w W) => mM regs A l cap W (hA.below hW)
 have HC := bA hC
 clear hC
 unfold fxE
 by_cases hc : chk regs l = 0
 · (
 have h0 : (chk regs l != 0) = false := by simp [hc]
 have hR := bS hc
 have hr := hR.rlo
 have hr2 := hR.rhi
 rw [if_neg (by simp [hc])]
 clear hR
 have Hc := bA hc
 clear hc
 have hop : inB t.op 3 8 = cF t.op := rfl
 rw [hop]
 cases h1 : cF t.op
 · (
 go_enter func46, ntmps46
 go_wp2_with (first | (go_at_call 40; refine (HC.o _ Ye).mono ?_; rintro e w1 ⟨rfl, hb1⟩; have hT1 : Blk w1 (w.heap.size + 1) 41 #[.int .i64 t.op, .int .i64 t.a, .int .i64 t.b] := Blk.below (Blk.new' Zf) hb1 Zf; have hP1 : Blk w1 w.heap.size 24 #[.int .i64 regs, .slice A l.length cap] := Blk.below ((Blk.new' rfl).alloc _) hb1 Zd; have lt := hT1.lt; have lp := hP1.lt; have t0 := hT1.cell 0; have t1 := hT1.cell 1; have t2 := hT1.cell 2; have p0 := hP1.cell 0; simp only [Yl] at t0 t1 t2 p0) | (go_at_call 100; refine (lJ _ _).mono ?_; rw [h1]; rintro e w2 ⟨rfl, rfl⟩))
 go_ret
 exact ⟨Zf, Ye⟩)
 · (
 cases h2 : inB t.a 0 (regs - 1)
 · (
 go_enter func46, ntmps46
 go_wp2_with (first | (go_at_call 40; refine (HC.o _ Ye).mono ?_; rintro e w1 ⟨rfl, hb1⟩; have hT1 : Blk w1 (w.heap.size + 1) 41 #[.int .i64 t.op, .int .i64 t.a, .int .i64 t.b] := Blk.below (Blk.new' Zf) hb1 Zf; have hP1 : Blk w1 w.heap.size 24 #[.int .i64 regs, .slice A l.length cap] := Blk.below ((Blk.new' rfl).alloc _) hb1 Zd; have lt := hT1.lt; have lp := hP1.lt; have t0 := hT1.cell 0; have t1 := hT1.cell 1; have t2 := hT1.cell 2; have p0 := hP1.cell 0; simp only [Yl] at t0 t1 t2 p0) | (go_at_call 100; refine (lJ _ _).mono ?_; rw [h1]; rintro e w2 ⟨rfl, rfl⟩) | (go_at_call 41; refine (dQ _ _ _ _).mono ?_; (first | rw [h2]); rintro e w2 ⟨rfl, rfl⟩))
 go_ret
 exact ⟨Zf, Ye⟩)
 · (
 cases h3 : inB t.b 0 (regs - 1)
 · exact Yv
 · exact Yv)))
 · (
 have h0 : (chk regs l != 0) = true := by simp [hc]
 rw [if_pos hc]
 clear hc
 go_enter func46, ntmps46
 go_wp2_with (go_at_call 40; refine (HC.o _ Ye).mono ?_; rintro e w1 ⟨rfl, hb1⟩)
 go_ret
 exact ⟨rfl, Ye⟩))
theorem bV (n : Nd) (t : Tm) (w : World) :
 Calls prog 102 #[.agg #[.int .i64 n.op, .int .i64 n.d, .int .i64 n.a, .int .i64 n.b, .int .i64 n.t, .int .i64 n.e], .agg #[.int .i64 t.op, .int .i64 t.a, .int .i64 t.b]] w fun e w' => e = .returned (.bool (fJ t n)) ∧ Below w.heap.size w w' := by (
 unfold fJ
 cases h1 : (n.op == t.op)
 · (
 go_enter func102, ntmps102
 go_wp2
 go_ret
 exact ⟨rfl, Ye⟩)
 · (
 cases h2 : (n.a == t.a)
 · (
 go_enter func102, ntmps102
 go_wp2
 go_ret
 exact ⟨rfl, Ye⟩)
 · (
 go_enter func102, ntmps102
 go_wp2
 go_ret
 exact ⟨Zf, Ye⟩)))
theorem fC (n : Nd) (t : Tm) (w : World) :
 Calls prog 135 #[.agg #[.int .i64 n.op, .int .i64 n.d, .int .i64 n.a, .int .i64 n.b, .int .i64 n.t, .int .i64 n.e], .agg #[.int .i64 t.op, .int .i64 t.a, .int .i64 t.b]] w fun e w' => e = .returned (.bool (kZ t n)) ∧ Below w.heap.size w w' := by (
 unfold kZ
 cases h1 : dI n.op
 · exact Yw
 · (
 cases h2 : (n.d != t.a)
 · exact Yw
 · (
 go_enter func135, ntmps135
 go_wp2_with (go_at_call 95; refine (jB _ _).mono ?_; rw [h1]; rintro e w1 ⟨rfl, rfl⟩)
 go_ret
 exact ⟨Zf, Ye⟩)))
theorem bCW (S A : Option Addr) (n m len cap : Nat) (g : Nat) (w : World) (h0 : w.cell? ⟨g, 1, none⟩ = some (.slice A len cap)) :
 Calls prog 155 #[.slice S n m, .pointer (some ⟨g, 0, none⟩)] w fun e w' => e = .returned (.bool ((n : Int) != (len : Int))) ∧ w = w' := by (
 go_enter func155, ntmps155
 go_wp2
 go_ret
 exact ⟨rfl, rfl⟩)
def slv (s : Option Addr × Nat × Nat) : Value := .slice s.1 s.2.1 s.2.2
theorem bAB (S A : Option Addr) (ss : List (Option Addr × Nat × Nat)) (cap len cp : Nat) (g : Nat) (w : World) (hl : ss.length ≤ maxLen) (hS : bH w S (ss.map slv))
 (hg : g < w.heap.size) (h0 : w.cell? ⟨g, 1, none⟩ = some (.slice A len cp)) :
 Calls prog 176 #[.slice S ss.length cap, .func (.func 155) #[] #[.pointer (some ⟨g, 0, none⟩)]] w
  (bAV (ss.any fun s => (s.2.1 : Int) != (len : Int)) w) := by (
 unfold maxLen at hl
 go_enter func176, ntmps176
 go_wp2
 go_loopw [8] (fun i wr => ∃ k : Nat, k ≤ ss.length ∧ i = .int .i64 k ∧ (ss.take k).any (fun s => (s.2.1 : Int) != (len : Int)) = false ∧ Below w.heap.size w wr) (fun i _ => ss.length - (intOf i).toNat)
 case atStart => exact Ji
 case round => (
 obtain ⟨k, hk, rfl, hno, hbr⟩ := hrel
 have hzr := hbr.size
 have Hno := bA hno
 clear hno
 by_cases hlt : k < ss.length
 · (
 obtain ⟨b, off, v, rfl, hbl, hkn, hn⟩ := hS.get (k := k) (by simpa using hlt)
 obtain ⟨s, hs, hv⟩ : ∃ s, ss[k]? = some s ∧ slv s = v := by simpa using hkn
 subst hv
 clear hkn
 have Hkn := bA hs
 clear hs
 have c0 := ((bB hbr).1 _ _ hbl).trans hn
 unfold slv at c0
 have g0 := ((bB hbr).1 _ 1 hg).trans h0
 have hp := bCW s.1 A s.2.1 s.2.2 len cp g wr g0
 have Hp := bA hp
 clear hp
 have hbw : b < wr.heap.size := Zb
 cases ho : ((s.2.1 : Int) != (len : Int))
 · (
 rw [ho] at Hp
 go_wp2_with (go_at_call 155; refine (Hp.o).mono ?_; rintro e w1 ⟨rfl, rfl⟩)
 go_roundw
 case rel => exact ⟨k + 1, Zb, by go_num, by rw [dN _ ss k s Hkn.o, Hno.o]; simp [ho], hbr⟩
 case measure => simp [intOf]; omega)
 · (
 rw [ho] at Hp
 go_wp2_with (go_at_call 155; refine (Hp.o).mono ?_; rintro e w1 ⟨rfl, rfl⟩)
 go_ret
 exact ⟨k, rfl, by rw [fP _ ss k s Hkn.o ho]; simp, hbr⟩))
 · (
 go_wp2
 go_ret
 exact ⟨-1, rfl, by rw [← eB _ ss k hlt, Hno.o]; rfl, hbr⟩)))
theorem bAL (S A : Option Addr) (ss : List (Option Addr × Nat × Nat)) (cap len cp : Nat) (g : Nat) (w : World) (hl : ss.length ≤ maxLen) (hS : bH w S (ss.map slv))
 (hg : g < w.heap.size) (h0 : w.cell? ⟨g, 1, none⟩ = some (.slice A len cp)) :
 Calls prog 154 #[.slice S ss.length cap, .func (.func 155) #[] #[.pointer (some ⟨g, 0, none⟩)]] w
  fun e w' => e = .returned (.bool (ss.any fun s => (s.2.1 : Int) != (len : Int))) ∧ Below w.heap.size w w' := by (
 have h := bAB S A ss cap len cp g w hl hS hg h0
 have H := bA h
 clear h h0
 generalize (ss.any fun s => (s.2.1 : Int) != (len : Int)) = q at *
 go_enter func154, ntmps154
 go_wp2_with (go_at_call 176; refine (H.o).mono ?_; rintro e w1 ⟨r, rfl, hr, hb1⟩)
 go_ret
 exact ⟨by rw [← hr]; rfl, hb1⟩)
def qW (n g p q t : Nat) : Bool := ((g : Int) == n) && ((p : Int) == n) && ((q : Int) == n) && ((t : Int) == n)
def xM (regs : Int) (l : List Nd) (g p q t : Nat) : Int :=
 if chk regs l ≠ 0 then chk regs l else if qW l.length g p q t = true then 0 else 1
theorem bHC (regs : Int) (A : Option Addr) (l : List Nd) (cap : Nat) (bk em : Bool) (G P Q T : Option Addr) (g p q t gc pc qc tc : Nat) (w : World) (hl : l.length ≤ maxLen) (hA : bG w A l) :
 Calls prog 127 #[.agg #[.int .i64 regs, .slice A l.length cap], .agg #[.bool bk, .bool em, .slice G g gc, .slice P p pc, .slice Q q qc, .slice T t tc]] w
  fun e w' => e = .returned (.int .i64 (xM regs l g p q t)) ∧ Below w.heap.size w w' := by (
 by_cases h : chk regs l = 0
 · (
 have hf : xM regs l g p q t = if qW l.length g p q t = true then 0 else 1 := by unfold xM; simp [h]
 have hq : (([(G, g, gc), (P, p, pc), (Q, q, qc), (T, t, tc)] : List (Option Addr × Nat × Nat)).any fun s => (s.2.1 : Int) != (l.length : Int)) = !qW l.length g p q t := by (
 simp only [List.any_cons, List.any_nil, qW, bne, Bool.not_and, Bool.or_assoc, Bool.or_false])
 have H := bA h
 have Hf := bA hf
 have Hq := bA hq
 clear h hf hq
 generalize hokl : qW l.length g p q t = ok at *
 have Hok := bA hokl
 clear hokl
 go_enter func127, ntmps127
 go_wp2_with (first
  | (go_at_call 18; refine (fZ _ _ _ _ _ hl (hA.below Ye)).mono ?_; rw [H.o]; rintro e w1 ⟨rfl, hb1⟩; obtain ⟨hc1, hf1⟩ := bB hb1; have hz1 := hb1.size; simp only [World.size_alloc] at hz1 hc1 hf1; have hy1 := Nat.lt_of_succ_le hz1; have hx1 := Nat.lt_of_succ_lt hy1)
  )
 have hV : bH (w1.alloc (.cells #[.slice G g gc, .slice P p pc, .slice Q q qc, .slice T t tc] 70)) (some ⟨w1.heap.size, 0, none⟩) (([(G, g, gc), (P, p, pc), (Q, q, qc), (T, t, tc)] : List (Option Addr × Nat × Nat)).map slv) := by (
 refine bH.mk Zf ?_
 intro i v hi
 rcases i with _ | _ | _ | _ | i <;> simp [slv] at hi ⊢ <;> exact hi)
 have g0 : (w1.alloc (.cells #[.slice G g gc, .slice P p pc, .slice Q q qc, .slice T t tc] 70)).cell? ⟨w.heap.size, 1, none⟩ = some (.slice A l.length cap) := by (
 rw [oF hx1, hc1 _ _ Zb, oF Zf]
 simp)
 refine (bAL _ A _ _ l.length cap _ _ Xy hV Zh g0).mono ?_
 rw [Hq.o]
 rintro e w2 ⟨rfl, hb2⟩
 have hz2 := hb2.size
 simp only [World.size_alloc] at hz2
 have hB : Below w.heap.size w w2 := Ye
 clear hb2 hb1 hV g0 hc1 hf1
 cases ok
 · (
 go_wp2_with fail
 go_ret
 exact ⟨by rw [Hf.o]; rfl, hB⟩)
 · (
 go_wp2_with fail
 go_ret
 exact ⟨by rw [Hf.o]; rfl, hB⟩))
 · (
 have hf : xM regs l g p q t = chk regs l := by unfold xM; simp [h]
 rw [hf]
 clear hf
 generalize hq : chk regs l = q' at *
 have Hq := bA hq
 clear hq
 go_enter func127, ntmps127
 go_wp2_with (go_at_call 18; refine (fZ _ _ _ _ _ hl (hA.below Ye)).mono ?_; rw [Hq.o]; rintro e w1 ⟨rfl, hb1⟩; obtain ⟨hc1, hf1⟩ := bB hb1; have hz1 := hb1.size; simp only [World.size_alloc] at hz1 hc1 hf1)
 go_ret
 exact ⟨rfl, Ye⟩))
theorem bCI {tS tI : TypeId} {B GA GB : Nat} {bk : Bool} {l : List Nd} {wr : World} {vs : Nat → Value} {xs : Nat → List Int} (h : wW tS tI B GA GB bk l.length (PEk l l.length) wr vs xs)
 (hT : ∀ (k : Nat) (n : Nd), l[k]? = some n → ∀ m ∈ bT n, 0 ≤ m ∧ m < l.length) {a : Nat} (ha : a < l.length) (b : Int) : b ∈ xs a ↔ b ∈ bF bk l a := by (
 rw [h.edges.asks a ha b]
 unfold bF PEk
 rw [jK]
 cases bk
 · (
 simp only [fst, snd, Bool.false_eq_true, ↓reduceIte]
 constructor
 · (
 rintro ⟨i, m, ⟨hi, n, hn, hm⟩, rfl, rfl⟩
 exact ⟨i, hi, by rw [kG hn]; exact kX.1 hm, rfl⟩)
 · (
 rintro ⟨i, hi, hp, rfl⟩
 have hn : l[i]? = some l[i] := Vs hi
 rw [kG hn] at hp
 exact ⟨i, a, ⟨hi, _, hn, kX.2 hp⟩, rfl, rfl⟩))
 · (
 simp only [fst, snd, ↓reduceIte]
 have hn : l[a]? = some l[a] := Vs ha
 constructor
 · (
 rintro ⟨i, m, ⟨hi, n, hn', hm⟩, hai, rfl⟩
 have hai' : i = a := Zb
 subst hai'
 have hr := hT _ _ hn' b hm
 obtain ⟨mm, rfl⟩ := Vy hr.1
 exact ⟨mm, Zb, by rw [mV hn']; exact kX.1 hm, rfl⟩)
 · (
 rintro ⟨i, hi, hp, rfl⟩
 rw [mV hn] at hp
 exact ⟨a, i, ⟨ha, _, hn, kX.2 hp⟩, rfl, rfl⟩)))
theorem bGE (bk em : Bool) (G P Q T X : Option Addr) (g p q t xn gc pc qc tc xc : Nat) (gen pass plus lt x : List Bool) (l : List Nd) (B GA GB n : Nat) (vs : Nat → Value) (xs : Nat → List Int) (w W : World)
 (hG : bH W G (bE gen)) (hP : bH W P (bE pass)) (hQ : bH W Q (bE plus)) (hT : bH W T (bE lt)) (hX : bH W X (bE x))
 (hg : gen.length = g) (hp : pass.length = p) (hq : plus.length = q) (ht : lt.length = t) (hx : x.length = xn)
 (eg : g = l.length) (ep : p = l.length) (eq_ : q = l.length) (et : t = l.length) (ex : xn = l.length) (hl : l.length ≤ 256)
 (hgr : wW 25 3 B GA GB bk l.length (PEk l l.length) w vs xs) (hb : Below w.heap.size w W) (hn : n < l.length)
 (hE : ∀ (k : Nat) (n : Nd), l[k]? = some n → ∀ m ∈ bT n, 0 ≤ m ∧ m < l.length) :
 Calls prog 129 #[.agg #[.slice (some ⟨GA, 0, none⟩) l.length l.length, .slice (some ⟨GB, 0, none⟩) l.length l.length], .agg #[.bool bk, .bool em, .slice G g gc, .slice P p pc, .slice Q q qc, .slice T t tc], .slice X xn xc, .int .i64 n] W
  fun e w' => e = .returned (.bool (cO bk em gen pass plus lt l x n)) ∧ Below W.heap.size W w' := by (
 have hrow := (hgr.tab.row (i := n) Zb).below' hb
 obtain ⟨R, rc, hv, _, _⟩ := hrow.shape
 rw [bJ] at hv
 have hcell := eZ hgr.ra hn
 have hlt := cU hgr.ra
 have hc := ((bB hb).1 _ 0 hlt)
 have hcell' : W.cell? ⟨GA, n, none⟩ = some (vs n) := ((bB hb).1 _ _ hlt).trans hcell
 rw [hv] at hcell'
 rw [hv] at hrow
 have hlen := hgr.len n Zb
 have hmem := bCI hgr hE hn
 have h := bLI bk em G P Q T X R (some ⟨GB, 0, none⟩) g p q t xn gc pc qc tc xc rc l.length l.length gen pass plus lt x (xs n) GA l.length n W hG hP hQ hT hX hg hp hq ht hx hcell'
  (Vx hlt hb.size) hn Zb Zb hrow.vals (fun r hr => by
   obtain ⟨i, h1, _, rfl⟩ := jK.1 ((hmem r).1 hr)
   omega) Zb Zb Zb
 rw [bBP (rs' := bF bk l n) hmem] at h
 exact h)
theorem bJN {regs : Int} {l : List Nd} {g p q t : Nat} (h : xM regs l g p q t = 0) : bN regs l ∧ g = l.length ∧ p = l.length ∧ q = l.length ∧ t = l.length := by (
 unfold xM at h
 split at h
 · rename_i h1; exact absurd h h1
 · (
 rename_i h1
 split at h
 · (
 rename_i h2
 refine ⟨bS (by simpa using h1), ?_⟩
 simp only [qW, V4, beq_iff_eq] at h2
 omega)
 · cases h))
section
attribute [local irreducible] Row madeCells
theorem bMN : (prog.info? 4).map (fun i => (i.zero, i.size, i.bytes)) = some (some (.bool false), 1, 1) := Zc
end
end Go.Proofs.YtmghkonmfbpjcaaGreatDoor
