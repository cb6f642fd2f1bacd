/- RunI. -/
import Derived.Test.YtmghkonmfbpjcaaGreatDoorGM
import Derived.Test.YtmghkonmfbpjcaaGreatDoorRunF
import Derived.Test.YtmghkonmfbpjcaaGreatDoorGA
set_option linter.unusedVariables false
set_option linter.unusedSimpArgs false
namespace Go.Proofs.YtmghkonmfbpjcaaGreatDoor
section
open Go.RowKit
open Go.Maps
set_option maxHeartbeats 8000000
attribute [local irreducible] Row CRow madeCells TCount
theorem ints_replicate (n : Nat) (z : Int) : ints (List.replicate n z) = List.replicate n (.int .i64 z) := by simp [ints]
theorem MSt.begin {w W : World} {regs : Int} {A : Option Addr} {l : List Nd} {cap : Nat} {inp : List Int} {mb gr gm : Nat} {Ai : Option Addr} {ci : Nat} (hB : Below w.heap.size w W) (hI : ValsAt w Ai (ints inp)) (hic : inp.length ≤ ci ∧ ci ≤ maxLen)
 (hbox : Blk W mb 63 #[.int .i64 regs, .slice A l.length cap, .slice Ai inp.length ci, .slice (some ⟨gr, 0, none⟩) regs.toNat regs.toNat, .map (some gm), .slice none 0 0, .int .i64 0, .bool false, .int .i64 0, .slice none 0 0])
 (hreg : Row W w.heap.size 3 (.slice (some ⟨gr, 0, none⟩) regs.toNat regs.toNat) (List.replicate regs.toNat (.int .i64 0))) (hcnt : TCount W gm []) (hmb : w.heap.size ≤ mb) (hgm : w.heap.size ≤ gm) :
 MSt w regs A l cap inp mb gr gm Ai ci (.slice none 0 0) (startR regs) W :=
⟨hbox, by rw [show (startR regs).regs = List.replicate regs.toNat 0 from rfl, ints_replicate]; exact hreg, Row.nil_ _ _ _, hcnt, hI, hic, by simp [Value.ownBlock], hmb, hgm, hB⟩
abbrev mcells2 (regs : Int) (A : Option Addr) (l : List Nd) (cap : Nat) (Ai : Option Addr) (ci : Nat) (inp : List Int) (gr gm : Nat) (ov : Value) (s : Rn) (cv : Value) : Array Value :=
 #[.int .i64 regs, .slice A l.length cap, .slice Ai (inp.length - s.read) ci, .slice (some ⟨gr, 0, none⟩) regs.toNat regs.toNat, .map (some gm), ov, .int .i64 s.ret, .bool s.ended, .int .i64 s.steps, cv]
structure CSt (w : World) (regs : Int) (A : Option Addr) (l : List Nd) (cap : Nat) (inp : List Int) (mb gr gm : Nat) (Ai : Option Addr) (ci : Nat) (ov : Value) (s : Rn) (cv : Value) (cs : List Ct) (W : World) : Prop where
 box : Blk W mb 63 (mcells2 regs A l cap Ai ci inp gr gm ov s cv)
 out : Row W w.heap.size 3 ov (ints s.out)
 cts : CRow W w.heap.size 66 cv cs
 mlo : w.heap.size ≤ mb
 below : Below w.heap.size w W
section
variable {w : World} {regs : Int} {A : Option Addr} {l : List Nd} {cap : Nat} {inp : List Int} {mb gr gm : Nat} {Ai : Option Addr} {ci : Nat} {ov : Value} {s : Rn} {cv : Value} {cs : List Ct} {W W' : World}
theorem CSt.later (h : CSt w regs A l cap inp mb gr gm Ai ci ov s cv cs W) (hb : Below W.heap.size W W') : CSt w regs A l cap inp mb gr gm Ai ci ov s cv cs W' :=
 ⟨h.box.below hb h.box.lt, h.out.below' hb, h.cts.below' hb, h.mlo, h.below.trans (hb.mono h.below.size)⟩
theorem CSt.kept (h : CSt w regs A l cap inp mb gr gm Ai ci ov s cv cs W) {row : Nat} (hg : W.grownBy W' (some row)) (h1 : ¬ (row = mb)) (h2 : ¬ (ov.ownBlock = some row)) (h3 : ¬ (cv.ownBlock = some row)) (h4 : w.heap.size ≤ row) : CSt w regs A l cap inp mb gr gm Ai ci ov s cv cs W' :=
 ⟨h.box.grown hg (by simpa using h1), h.out.kept hg (.inr h2), h.cts.kept hg (.inr h3), h.mlo, h.below.grown hg h.below.size fun q hq => by have := Option.some.inj hq; omega⟩
theorem CSt.put (h : CSt w regs A l cap inp mb gr gm Ai ci ov s cv cs W) (hg : W.grownBy W' cv.ownBlock) {v2 : Value} {ds : List Ct} (hC : CRow W' w.heap.size 66 v2 ds) : CSt w regs A l cap inp mb gr gm Ai ci ov s v2 ds (W'.setCell ⟨mb, 9, none⟩ v2) := by (
 have hb : Blk W' mb 63 (mcells2 regs A l cap Ai ci inp gr gm ov s cv) := h.box.grown hg (h.cts.ne_blk h.box (by decide))
 exact ⟨hb.set_ 9 v2, (h.out.kept hg ((h.cts.ne_row h.out (by decide)).elim (fun e => by
  rcases ho : ov.ownBlock with _ | k
  · exact .inl rfl
  · exact .inr (by rw [e]; simp)) fun e => .inr e.symm)).far (p := ⟨mb, 9, none⟩) (h.out.ne_blk h.box (by decide)) _, hC.far (p := ⟨mb, 9, none⟩) (hC.ne_blk hb (by decide)) _, h.mlo, (h.below.grown hg h.below.size fun q hq => (h.cts.lt q hq).1).setCell h.mlo _⟩)
theorem CSt.sorted (h : CSt w regs A l cap inp mb gr gm Ai ci ov s cv cs W) (hg : W.grownBy W' cv.ownBlock) {ds : List Ct} (hC : CRow W' w.heap.size 66 cv ds) : CSt w regs A l cap inp mb gr gm Ai ci ov s cv ds W' := by (
 have hb : Blk W' mb 63 (mcells2 regs A l cap Ai ci inp gr gm ov s cv) := h.box.grown hg (h.cts.ne_blk h.box (by decide))
 exact ⟨hb, h.out.kept hg ((h.cts.ne_row h.out (by decide)).elim (fun e => by
  rcases ho : ov.ownBlock with _ | k
  · exact .inl rfl
  · exact .inr (by rw [e]; simp)) fun e => .inr e.symm), hC, h.mlo, h.below.grown hg h.below.size fun q hq => (h.cts.lt q hq).1⟩)
theorem MSt.collect (h : MSt w regs A l cap inp mb gr gm Ai ci ov s W) : CSt w regs A l cap inp mb gr gm Ai ci ov s (.slice none 0 0) [] W := ⟨h.box, h.out, CRow.nil_ _ _ _, h.mlo, h.below⟩
end
theorem nodup_len : ∀ {xs bs : List Tm}, xs.Nodup → (∀ a ∈ xs, a ∈ bs) → xs.length ≤ bs.length
 | [], _, _, _ => Nat.zero_le _
 | a :: xs, bs, h, hs => by (
 obtain ⟨h1, h2⟩ := List.nodup_cons.1 h
 have ih := nodup_len (xs := xs) (bs := bs.erase a) h2 fun x hx => (List.mem_erase_of_ne (fun e => h1 (by rw [← e]; exact hx))).2 (hs x (by simp [hx]))
 have hm := hs a (by simp)
 rw [List.length_erase_of_mem hm] at ih
 have := List.length_pos_of_mem hm
 simp only [List.length_cons]
 omega)
theorem Got.len {D : DataW Unit} {ts : List Tm} {left : Lit → Bool} {cs : List Ct} (h : Got D ts left cs) (h1 : ∀ l, Maps.has D l = true → ∃ t ∈ ts, keyOf Tryz.prog 41 t.val = some l) : cs.length ≤ ts.length := by (
 rw [← List.length_map (f := Prod.fst)]
 refine nodup_len h.one fun a ha => ?_
 obtain ⟨x, hx, rfl⟩ := List.mem_map.1 ha
 obtain ⟨_, kl, e2, _, e3⟩ := h.val x hx
 obtain ⟨t, ht, e4⟩ := h1 kl e3
 have : x.1 = t := tm_inj (lawTerm.inj e2 e4)
 exact this ▸ ht)
section
variable {w : World} {P : Program} {k : TypeId} {R : Value → Option (DataW Unit × List MemPlace)} {b r n : Nat} {D : DataW Unit} {left : Lit → Bool} {cnt : Nat}
theorem ranges_drew (h : w.ranges P k R b r n D left cnt) : w.drew.ranges P k R b r n D left cnt := h
theorem ranges_iter (h : w.ranges P k R b r n D left cnt) : ∃ a c d e, w.heap[r]? = some (.mapIter a c d e) := by (
 obtain ⟨es, clock, since, seen, c0, _, _, _, _, h5, _⟩ := h
 exact ⟨_, _, _, _, h5⟩)
theorem _root_.Go.World.ranges.box_ne (h : w.ranges P k R b r n D left cnt) {m : Nat} {t : TypeId} {cs : Array Value} (hb : Blk w m t cs) : ¬ (r = m) := by (
 obtain ⟨_, _, _, _, h5⟩ := ranges_iter h
 rintro rfl
 unfold Blk at hb
 rw [h5] at hb
 cases hb)
theorem _root_.Go.World.ranges.row_ne (h : w.ranges P k R b r n D left cnt) {B : Nat} {t : TypeId} {v : Value} {xs : List Value} (hb : Row w B t v xs) : ¬ (v.ownBlock = some r) := by (
 obtain ⟨_, _, _, _, h5⟩ := ranges_iter h
 intro e
 unfold Row at hb
 rcases hb with ⟨rfl, _⟩ | ⟨g, o, c, cur, rfl, _, hh, _⟩
 · simp [Value.ownBlock] at e
 · (
 simp [Value.ownBlock] at e
 subst e
 rw [h5] at hh
 cases hh))
theorem _root_.Go.World.ranges.crow_ne (h : w.ranges P k R b r n D left cnt) {B : Nat} {t : TypeId} {v : Value} {xs : List Ct} (hb : CRow w B t v xs) : ¬ (v.ownBlock = some r) := by (
 obtain ⟨_, _, _, _, h5⟩ := ranges_iter h
 intro e
 rcases hb.open with ⟨rfl, _⟩ | ⟨g, c, cur, rfl, _, hh, _⟩
 · simp [Value.ownBlock] at e
 · (
 simp [Value.ownBlock] at e
 subst e
 rw [h5] at hh
 cases hh))
end
theorem _root_.Go.World.ownsMap.ne_box {w : World} {P : Program} {k : TypeId} {R : Value → Option (DataW Unit × List MemPlace)} {b n : Nat} {D : DataW Unit} (h : w.ownsMap P k R b n D) {m : Nat} {t : TypeId} {cs : Array Value} (hb : Blk w m t cs) : ¬ (b = m) := by (
 obtain ⟨es, clock, h5, _⟩ := h
 rintro rfl
 unfold Blk at hb
 rw [h5] at hb
 cases hb)
theorem _root_.Go.World.ownsMap.ne_cts {w : World} {P : Program} {k : TypeId} {R : Value → Option (DataW Unit × List MemPlace)} {b n : Nat} {D : DataW Unit} (h : w.ownsMap P k R b n D) {B : Nat} {t : TypeId} {v : Value} {xs : List Ct} (hb : CRow w B t v xs) : ¬ (v.ownBlock = some b) := by (
 obtain ⟨es, clock, h5, _⟩ := h
 intro e
 rcases hb.open with ⟨rfl, _⟩ | ⟨g, c, cur, rfl, _, hh, _⟩
 · simp [Value.ownBlock] at e
 · (
 simp [Value.ownBlock] at e
 subst e
 rw [h5] at hh
 cases hh))
theorem grown_cell (W : World) (b o : Nat) (u : Value) : W.grownBy (W.setCell ⟨b, o, none⟩ u) (some b) :=
 ⟨rfl, rfl, rfl, by simp, fun k _ hk => Below.heap_setCell W ⟨b, o, none⟩ u k (by rintro rfl; exact hk rfl)⟩
theorem RnOk.keys {regs : Int} {l : List Nd} {inp : List Int} {s : Rn} (h : RnOk regs l inp s) (hR : Right regs l) (t : Tm) (ht : t ∈ s.ts) : ∃ kl, keyOf Tryz.prog 41 t.val = some kl := by (
 obtain ⟨n, hn, hB, rfl⟩ := h.key t ht
 exact hR.key_ hn hB)
set_option maxRecDepth 100000 in
theorem Run_ok (regs : Int) (A : Option Addr) (l : List Nd) (cap : Nat) (Ai : Option Addr) (inp : List Int) (ci : Nat) (fuel : Int) (w : World) (hl : l.length ≤ maxLen) (hA : NodesAt w A l) (hI : ValsAt w Ai (ints inp)) (hic : inp.length ≤ ci ∧ ci ≤ maxLen) (h0 : chk regs l = 0) (h1 : inp.length ≤ 256) (h2 : 0 ≤ fuel) (h3 : fuel ≤ 131072) :
 Calls Tryz.prog 8 #[.agg #[.int .i64 regs, .slice A l.length cap], .slice Ai inp.length ci, .int .i64 fuel] w (RunPost 3 66 regs l inp fuel w) := by (
 have hC := fun W (hW : Below w.heap.size w W) => Check_any regs A l cap W hl (hA.below hW)
 rw [h0] at hC
 have HC := hide hC
 have hE : runE regs l inp fuel = 0 := by rw [runE, if_pos h0, if_neg (by omega), if_neg (by omega)]
 have hS : runS regs l inp fuel = (runR regs l inp fuel.toNat).told := by rw [runS, if_pos hE]
 unfold RunPost
 rw [hE, hS]
 have hR := right_of_chk h0
 have HR := hide hR
 have hr1 := hR.rlo
 have hr2 := hR.rhi
 have HA := hide hA
 have HI := hide hI
 clear hC hE hS h0 hA hI hR
 have i1 : ¬ (256 : Int) < (inp.length : Int) := by omega
 have i2 : ¬ fuel < 0 := by omega
 have i3 : ¬ (131072 : Int) < fuel := by omega
 obtain ⟨i3x, h3i, h3z, h3s, h3b⟩ := info_parts infoInt
 have hmk := run_make1 (P := Tryz.prog) 25 3 i3x _ 8 Tryz.underlying25 h3i h3z h3s h3b (by omega) rfl regs.toNat (by omega)
 rw [Int.toNat_of_nonneg (by omega)] at hmk
 have hmm := @run_makeMap Tryz.prog
 go_enter Tryz.func8, Tryz.ntmps8
 go_upto_region 8 with (go_at_call 18; refine (HC.out _ (by (with_reducible repeat first | apply Qa | assumption | apply Qb | apply Qc | apply Qd | apply Qe | refine Qf ?_ (by assumption) ?_); all_goals (try simp only [Sz]); first | done | omega | (try simp only [Sz] at *); omega)).mono ?_; rintro e w1 ⟨rfl, hb1⟩; have hP1 : Blk w1 w.heap.size 24 #[.int .i64 regs, .slice A l.length cap] := Blk.below (by repeat (first | ((with_reducible refine Blk.new' ?_); exact (by (try simp only [Sz]); first | done | omega | (try simp only [Sz] at *); omega)) | (with_reducible refine Blk.drew ?_) | (with_reducible refine Blk.drewN ?_ _) | (with_reducible refine Blk.alloc ?_ _) | with_reducible assumption)) hb1 (by simp <;> omega); have hO1 : Blk w1 (w.heap.size + 1) 33 #[.slice none 0 0, .int .i64 0, .bool false, .int .i64 0, .slice none 0 0] := Blk.below (by repeat (first | ((with_reducible refine Blk.new' ?_); exact (by (try simp only [Sz]); first | done | omega | (try simp only [Sz] at *); omega)) | (with_reducible refine Blk.drew ?_) | (with_reducible refine Blk.drewN ?_ _) | (with_reducible refine Blk.alloc ?_ _) | with_reducible assumption)) hb1 (by simp <;> omega); have p0 := hP1.cell 0; have p1 := hP1.cell 1; simp only [Yl] at p0 p1)
 have hB1 : Below w.heap.size w w1 := (by (with_reducible repeat first | apply Qa | assumption | apply Qb | apply Qc | apply Qd | apply Qe | refine Qf ?_ (by assumption) ?_); all_goals (try simp only [Sz]); first | done | omega | (try simp only [Sz] at *); omega)
 have hz1 := hb1.size
 simp only [World.size_alloc] at hz1
 clear hb1
 have lp := hP1.lt
 have lo := hO1.lt
 have HA1 := hide (HA.out.below hB1)
 have HI1 := hide (HI.out.below hB1)
 go_cut [9] (fun s9 wx => ∃ mb gr gm : Nat, s9 = .pointer (some ⟨mb, 0, none⟩) ∧ MSt w1 regs A l cap inp mb gr gm Ai ci (.slice none 0 0) (startR regs) wx)
 case first => (
 go_region
 all_goals go_wp2_with fail
 all_goals go_meet
 all_goals go_tidy
 · (
 refine ⟨_, w1.heap.size, w1.heap.size + 1, rfl, MSt.begin (by (with_reducible repeat first | apply Qa | assumption | apply Qb | apply Qc | apply Qd | apply Qe | refine Qf ?_ (by assumption) ?_); all_goals (try simp only [Sz]); first | done | omega | (try simp only [Sz] at *); omega) HI1.out hic (by repeat (first | ((with_reducible refine Blk.new' ?_); exact (by (try simp only [Sz]); first | done | omega | (try simp only [Sz] at *); omega)) | (with_reducible refine Blk.drew ?_) | (with_reducible refine Blk.drewN ?_ _) | (with_reducible refine Blk.alloc ?_ _) | with_reducible assumption)) (by repeat (first | ((with_reducible refine Row.made1' ?_ ?_ ?_); exact (by (try simp only [Sz]); first | done | omega | (try simp only [Sz] at *); omega); exact (by (try simp only [Sz]); first | done | omega | (try simp only [Sz] at *); omega); exact (by (try simp only [Sz]); first | done | omega | (try simp only [Sz] at *); omega)) | (with_reducible refine Row.drew ?_) | (with_reducible refine Row.drewN ?_ _) | (with_reducible refine Row.alloc ?_ _) | with_reducible assumption)) ?_ (by omega) (by omega)⟩
 have h0 := TCount.start (W := w1.alloc (.cells (madeCells #[.int .i64 0] regs.toNat) 3))
 simp only [World.size_alloc] at h0
 exact h0.below (Below.drew ((Below.refl _ _).alloc (Nat.le_refl _) _)))
 · (
 refine ⟨_, w1.heap.size + 1, w1.heap.size, rfl, MSt.begin (by (with_reducible repeat first | apply Qa | assumption | apply Qb | apply Qc | apply Qd | apply Qe | refine Qf ?_ (by assumption) ?_); all_goals (try simp only [Sz]); first | done | omega | (try simp only [Sz] at *); omega) HI1.out hic (by repeat (first | ((with_reducible refine Blk.new' ?_); exact (by (try simp only [Sz]); first | done | omega | (try simp only [Sz] at *); omega)) | (with_reducible refine Blk.drew ?_) | (with_reducible refine Blk.drewN ?_ _) | (with_reducible refine Blk.alloc ?_ _) | with_reducible assumption)) (by repeat (first | ((with_reducible refine Row.made1' ?_ ?_ ?_); exact (by (try simp only [Sz]); first | done | omega | (try simp only [Sz] at *); omega); exact (by (try simp only [Sz]); first | done | omega | (try simp only [Sz] at *); omega); exact (by (try simp only [Sz]); first | done | omega | (try simp only [Sz] at *); omega)) | (with_reducible refine Row.drew ?_) | (with_reducible refine Row.drewN ?_ _) | (with_reducible refine Row.alloc ?_ _) | with_reducible assumption)) ?_ (by omega) (by omega)⟩
 exact (TCount.start (W := w1)).below (Below.drew (((Below.refl _ _).alloc (Nat.le_refl _) _).alloc (by simp) _))))
 case rest => (
 obtain ⟨mb, gr, gm, rfl, hM0⟩ := hcut
 have hlo := hM0.mlo
 go_wp2_with fail
 go_loopg [10] (fuel.toNat) (fun gk at_ wr => ∃ (s : Rn) (Ai' : Option Addr) (ci' : Nat) (ov : Value), at_ = .int .i64 (s.pos : Int) ∧ gk = fuel.toNat - s.steps ∧ s.steps ≤ fuel.toNat ∧ RnOk regs l inp s ∧ goR l inp (fuel.toNat - s.steps) s = runR regs l inp fuel.toNat ∧ MSt w1 regs A l cap inp mb gr gm Ai' ci' ov s wr)
 case atStart => exact ⟨startR regs, Ai, ci, _, rfl, rfl, Nat.zero_le _, RnOk.start HR.out, rfl, hM0⟩
 case round => (
 obtain ⟨s, Ai', ci', ov, rfl, hgk, hsf, hok, hgo, hM⟩ := hrel
 have Hgk := hide hgk
 have Hok := hide hok
 have Hgo := hide hgo
 clear hgk hok hgo
 have c7 := hM.box.cell 7
 have c8 := hM.box.cell 8
 simp only [Yl] at c7 c8
 cases hend : s.ended
 case false => (
 rw [hend] at c7
 by_cases hlt : s.steps < fuel.toNat
 · (
 have hlt2 : (s.steps : Int) < fuel := by omega
 have HS := hide (step_any w1 regs A l cap inp mb gr gm Ai' ci' ov s wr hM HA1.out HR.out Hok.out (by omega))
 have Hend := hide hend
 clear hM hend
 go_wp2_with (go_at_call 28; refine (HS.out).mono ?_; rintro e w3 ⟨rfl, A3, c3, o3, hM3⟩)
 go_roundg (fuel.toNat - (stepR l inp s).steps)
 case measure => (
 have := Hgk.out
 rw [stepR_steps]
 omega)
 case rel => (
 refine ⟨stepR l inp s, A3, c3, o3, rfl, rfl, by rw [stepR_steps]; omega, Hok.out.step HR.out, ?_, hM3⟩
 have hg := Hgo.out
 rw [show fuel.toNat - s.steps = (fuel.toNat - (stepR l inp s).steps) + 1 by rw [stepR_steps]; omega, goR_step Hend.out] at hg
 exact hg))
 · (
 have hge : ¬ (s.steps : Int) < fuel := by omega
 have hfin : s = runR regs l inp fuel.toNat := by (
 rw [← Hgo.out, show fuel.toNat - s.steps = 0 by omega]; rfl)
 have Hfin := hide hfin
 have hcnt := hM.cnt
 unfold TCount at hcnt
 obtain ⟨D, hD, hcD, hh1, hh2⟩ := hcnt
 have hcs := hide hM.collect
 have hts : s.ts.length ≤ 131072 := by have := Hok.out.ts; omega
 have c4 := hM.box.cell 4
 have lmb := hM.box.lt
 simp only [Yl] at c4
 clear hfin hM
 go_wp2_with (first | (at_range; refine wpList_range_own _ rfl _ 61 rfl 41 3 (Keyed.of_law lawTerm) Tryz.underlying61 (plainElem Tryz.prog 3) gm s.ts.length D rfl hD ?_; intro w5 hrg5 hg5 hs5))
 try go_frame
 obtain ⟨r5, hr5⟩ : ∃ r, r = wr.heap.size := ⟨_, rfl⟩
 rw [← hr5] at hrg5 ⊢
 have hcs5 := hcs.out.later ⟨hg5.os, hg5.tape, hg5.output, hg5.size, fun k hk => hg5.block k hk (by simp)⟩
 have hr5lo : w1.heap.size ≤ r5 := by rw [hr5]; exact hcs.out.below.size
 have Hh1 := hide hh1
 have Hh2 := hide hh2
 have HcD := hide hcD
 have Hr5 := hide hr5
 clear hg5 hh1 hh2 hcD hr5 hs5 hD c4 lmb
 go_loopg [] (Maps.size D) (fun gk wq => ∃ (left : Lit → Bool) (cs : List Ct) (cv : Value), wq.ranges Tryz.prog 41 (plainElem Tryz.prog 3) gm r5 s.ts.length D left gk ∧ Got D s.ts left cs ∧ CSt w1 regs A l cap inp mb gr gm Ai' ci' ov s cv cs wq)
 case atStart => exact ⟨Maps.has D, [], _, hrg5, Got.start D _, hcs5⟩
 case round => (
 obtain ⟨left, cs, cv, hrg, hgot, hcst⟩ := hrel
 have Hgot := hide hgot
 have hcl := hgot.len Hh1.out
 clear hgot hrg5 hcs5
 go_wp2_with (first | (at_next; refine wpList_next_ranges _ rfl _ rfl 41 (Keyed.of_law lawTerm) (plainElem Tryz.prog 3) Tm.val (Value.int .i64) (fun key kl h => keyTerm_inv h) (fun v y h => by obtain ⟨c, rfl, _⟩ := plainElem_int_inv Tryz.underlying3 h; exact ⟨c, rfl⟩) gm r5 s.ts.length D left gk rfl hrg ?_ ?_) | go_in)
 · (
 intro hc0 hl0
 have c9 := hcst.box.cell 9
 have lmb := hcst.box.lt
 simp only [Yl] at c9
 have HSort := hide (SortFunc_row hcst.cts (by omega) Hgot.out.one)
 have Hcst := hide hcst
 have Hl0 := hide hl0
 clear hcst hl0 hrg
 go_wp2_with (go_at_call 29; refine (HSort.out).mono ?_; rintro e w7 ⟨rfl, ds, hp7, ha7, hr7, hg7⟩; have hq7 := Hcst.out.sorted hg7 hr7; have b5 := hq7.box.cell 5; have b6 := hq7.box.cell 6; have b7 := hq7.box.cell 7; have b8 := hq7.box.cell 8; have b9 := hq7.box.cell 9; have hO7 := hO1.below hq7.below lo; have o0 := hO7.cell 0; have o1 := hO7.cell 1; have o2 := hO7.cell 2; have o3 := hO7.cell 3; have o4 := hO7.cell 4; have g0 := hO7.frozen 0; have g1 := hO7.frozen 1; have g2 := hO7.frozen 2; have g3 := hO7.frozen 3; have g4 := hO7.frozen 4; simp only [Yl] at b5 b6 b7 b8 b9 o0 o1 o2 o3 o4; have l7 := hq7.box.lt; obtain ⟨OA, oc, hov, _, _⟩ := hq7.out.shape; obtain ⟨CA, cc, hcv, _, _⟩ := hq7.cts.shape; subst hov hcv; have nmo : ¬ (mb = w.heap.size + 1) := by have := hq7.mlo; omega)
 refine bodyPost_ret (v := .tuple #[.agg #[.slice OA (ints s.out).length oc, .int .i64 s.ret, .bool s.ended, .int .i64 (s.steps : Int), .slice CA ds.length cc], .int .i64 0]) (by simp [results, Tryz.results8, go_sem, o0, o1, o2, o3, o4, hend, World.cell?_setCell_same, World.cell?_setCell_other]) rfl ?_
 have hBq : Below w.heap.size w w7 := hB1.trans (hq7.below.mono (by omega))
 have n1 : (Value.slice OA (ints s.out).length oc).ownBlock ≠ some (w.heap.size + 1) := fun e => by have := (hq7.out.lt _ e).1; omega
 have n2 : (Value.slice CA ds.length cc).ownBlock ≠ some (w.heap.size + 1) := fun e => by have := (hq7.cts.lt _ e).1; omega
 have hds : ds = countsL s.ts := Hgot.out.count Hl0.out Hh1.out (fun t ht => by
  obtain ⟨kx, ekx⟩ := (Hok.out.keys HR.out t ht)
  exact ⟨kx, ekx, Hh2.out t ht kx ekx⟩) hp7 ha7
 rw [← Hfin.out]
 refine ⟨(by (with_reducible repeat first | apply Qa | assumption | apply Qb | apply Qc | apply Qd | apply Qe | refine Qf ?_ (by assumption) ?_); all_goals (try simp only [Sz]); first | done | omega | (try simp only [Sz] at *); omega), _, rfl, _, _, rfl, ?_, ?_⟩
 · exact ((((((hq7.out.far (p := ⟨w.heap.size + 1, 0, none⟩) n1 _).far (p := ⟨w.heap.size + 1, 1, none⟩) n1 _).far (p := ⟨w.heap.size + 1, 2, none⟩) n1 _).far (p := ⟨w.heap.size + 1, 3, none⟩) n1 _).far (p := ⟨w.heap.size + 1, 4, none⟩) n1 _)).mono (by omega)
 · (
 show CRow _ _ _ _ (countsL s.ts)
 rw [← hds]
 exact ((((((hq7.cts.far (p := ⟨w.heap.size + 1, 0, none⟩) n2 _).far (p := ⟨w.heap.size + 1, 1, none⟩) n2 _).far (p := ⟨w.heap.size + 1, 2, none⟩) n2 _).far (p := ⟨w.heap.size + 1, 3, none⟩) n2 _).far (p := ⟨w.heap.size + 1, 4, none⟩) n2 _)).mono (by omega)))
 · (
 intro t c kl y yp w6 cnt6 hk hlk hv hat hrg6 hlt6 hg6 hs6 hen
 have hc : c = (s.ts.count t : Int) := by (
 obtain ⟨c', e1, e2, _⟩ := plainElem_int_inv Tryz.underlying3 hv
 injection e1 with _ e1
 injection e2 with e2 _
 have e3 := hat (.lit (.int .i64 0))
 rw [HcD.out t kl hk, e2, ← e1] at e3
 exact (lint_inj e3).symm)
 have hgot6 := Hgot.out.step hk hlk hc
 have hcst6 : CSt w1 regs A l cap inp mb gr gm Ai' ci' ov s cv cs w6 := hcst.kept hg6 (hrg.box_ne hcst.box) (hrg.row_ne hcst.out) (hrg.crow_ne hcst.cts) hr5lo
 have Hgot6 := hide hgot6
 have Hcst6 := hide hcst6
 have Hrg6 := hide hrg6
 have Hlt6 := hide hlt6
 obtain ⟨CA, cc, hcv, hcc1, hcc2⟩ := hcst6.cts.shape
 subst hcv
 obtain ⟨W7, hW7⟩ : ∃ W7, W7 = w6.alloc (.cells #[.int .i64 t.op, .int .i64 t.a, .int .i64 t.b] 41) := ⟨_, rfl⟩
 obtain ⟨t7, ht7⟩ : ∃ t7, t7 = w6.heap.size := ⟨_, rfl⟩
 have hcst7 : CSt w1 regs A l cap inp mb gr gm Ai' ci' ov s (.slice CA cs.length cc) cs W7 := by rw [hW7]; exact hcst6.later ((Below.refl _ _).alloc (Nat.le_refl _) _)
 have hrg7 := hrg6.alloc (.cells #[.int .i64 t.op, .int .i64 t.a, .int .i64 t.b] 41)
 rw [← hW7] at hrg7
 have hT7 : Blk W7 t7 41 #[.int .i64 t.op, .int .i64 t.a, .int .i64 t.b] := by rw [hW7]; exact Blk.new' ht7
 have hob : ¬ ((Value.slice CA cs.length cc).ownBlock = some mb) := hcst7.cts.ne_blk hcst7.box (by decide)
 have hog : (Value.slice CA cs.length cc).ownBlock ≠ some gm := fun e => hrg7.owns.ne_cts hcst7.cts e
 have hor : (Value.slice CA cs.length cc).ownBlock ≠ some r5 := hrg7.crow_ne hcst7.cts
 have hmr : ¬ (r5 = mb) := hrg7.box_ne hcst7.box
 have hmg : ¬ (gm = mb) := hrg7.owns.ne_box hcst7.box
 have hC7 := hcst7.cts
 have c9 := hcst7.box.cell 9
 have cf9 := hcst7.box.frozen 9
 have lmb := hcst7.box.lt
 have lsz := hcst7.below.size
 have q0 := hT7.cell 0
 have q1 := hT7.cell 1
 have q2 := hT7.cell 2
 have lt7 := hT7.lt
 have Hcst7 := hide hcst7
 have Hrg7 := hide hrg7
 have HW7 := hide hW7
 have Ht7 := hide ht7
 obtain ⟨ic, hci, hcz, hcs', hcb⟩ := info_parts infoCount
 simp only [Yl] at c9 q0 q1 q2
 clear hgot6 hcst6 hrg6 hlt6 hg6 hs6 hcst hrg hc hat hv hk hlk hcst7 hrg7 hT7 hW7 ht7
 unfold Tm.val at hen
 go_upto_region 15 with fail
 rw [← HW7.out, ← Ht7.out]
 go_region_law (refine step_append_counts (v := .slice CA cs.length cc) (l := cs) (by rfl) _ _ _ (by rfl) ic _ 32 Tryz.underlying31 hci hcz hcs' hcb rfl (by rfl) ((hC7.alloc _).drew) (some ⟨W7.heap.size, 0, none⟩) 1 1 [(t, c)] (by rfl) (by rfl) (counts_one' (by simp)) (by simp [maxLen] <;> omega) (by simp <;> omega) (by simp <;> omega) ?_; intro v2 w8 hr8 hg8 hat8; have f9 : w8.frozen? ⟨mb, 9, none⟩ = false := (by rw [hg8.frozen_far _ (by simp <;> omega) (by simp; exact fun e => hob e.symm)]; exact (fpast lmb).trans cf9); have x9 : w8.cell? ⟨mb, 9, none⟩ = some (.slice CA cs.length cc) := (by rw [hg8.cell_far _ (by simp <;> omega) (by simp; exact fun e => hob e.symm)]; exact (cpast lmb).trans c9); obtain ⟨CA8, cc8, hv8, _, _⟩ := hr8.shape; subst hv8)
 all_goals go_wp2_with fail
 all_goals go_roundg (cnt6)
 all_goals try exact Hlt6.out
 all_goals (simp only [List.length_append, List.length_singleton] at hr8)
 all_goals exact ⟨_, cs ++ [(t, c)], _, ((ranges_drew (Hrg7.out.alloc _)).kept (w' := w8) hg8 (Ne.symm hog) (Ne.symm hor)).kept (grown_cell w8 mb 9 _) (by simp; exact hmg) (by simp; exact hmr), Hgot6.out, ((Hcst7.out.later ((Below.refl _ _).alloc (Nat.le_refl _) _)).later ((Below.refl _ _).drew)).put hg8 hr8⟩))))
 case true => (
 rw [hend] at c7
 have hfin : s = runR regs l inp fuel.toNat := by rw [← Hgo.out, goR_ended hend]
 have Hfin := hide hfin
 have hcnt := hM.cnt
 unfold TCount at hcnt
 obtain ⟨D, hD, hcD, hh1, hh2⟩ := hcnt
 have hcs := hide hM.collect
 have hts : s.ts.length ≤ 131072 := by have := Hok.out.ts; omega
 have c4 := hM.box.cell 4
 have lmb := hM.box.lt
 simp only [Yl] at c4
 clear hfin hM
 go_wp2_with (first | (at_range; refine wpList_range_own _ rfl _ 61 rfl 41 3 (Keyed.of_law lawTerm) Tryz.underlying61 (plainElem Tryz.prog 3) gm s.ts.length D rfl hD ?_; intro w5 hrg5 hg5 hs5))
 try go_frame
 obtain ⟨r5, hr5⟩ : ∃ r, r = wr.heap.size := ⟨_, rfl⟩
 rw [← hr5] at hrg5 ⊢
 have hcs5 := hcs.out.later ⟨hg5.os, hg5.tape, hg5.output, hg5.size, fun k hk => hg5.block k hk (by simp)⟩
 have hr5lo : w1.heap.size ≤ r5 := by rw [hr5]; exact hcs.out.below.size
 have Hh1 := hide hh1
 have Hh2 := hide hh2
 have HcD := hide hcD
 have Hr5 := hide hr5
 clear hg5 hh1 hh2 hcD hr5 hs5 hD c4 lmb
 go_loopg [] (Maps.size D) (fun gk wq => ∃ (left : Lit → Bool) (cs : List Ct) (cv : Value), wq.ranges Tryz.prog 41 (plainElem Tryz.prog 3) gm r5 s.ts.length D left gk ∧ Got D s.ts left cs ∧ CSt w1 regs A l cap inp mb gr gm Ai' ci' ov s cv cs wq)
 case atStart => exact ⟨Maps.has D, [], _, hrg5, Got.start D _, hcs5⟩
 case round => (
 obtain ⟨left, cs, cv, hrg, hgot, hcst⟩ := hrel
 have Hgot := hide hgot
 have hcl := hgot.len Hh1.out
 clear hgot hrg5 hcs5
 go_wp2_with (first | (at_next; refine wpList_next_ranges _ rfl _ rfl 41 (Keyed.of_law lawTerm) (plainElem Tryz.prog 3) Tm.val (Value.int .i64) (fun key kl h => keyTerm_inv h) (fun v y h => by obtain ⟨c, rfl, _⟩ := plainElem_int_inv Tryz.underlying3 h; exact ⟨c, rfl⟩) gm r5 s.ts.length D left gk rfl hrg ?_ ?_) | go_in)
 · (
 intro hc0 hl0
 have c9 := hcst.box.cell 9
 have lmb := hcst.box.lt
 simp only [Yl] at c9
 have HSort := hide (SortFunc_row hcst.cts (by omega) Hgot.out.one)
 have Hcst := hide hcst
 have Hl0 := hide hl0
 clear hcst hl0 hrg
 go_wp2_with (go_at_call 29; refine (HSort.out).mono ?_; rintro e w7 ⟨rfl, ds, hp7, ha7, hr7, hg7⟩; have hq7 := Hcst.out.sorted hg7 hr7; have b5 := hq7.box.cell 5; have b6 := hq7.box.cell 6; have b7 := hq7.box.cell 7; have b8 := hq7.box.cell 8; have b9 := hq7.box.cell 9; have hO7 := hO1.below hq7.below lo; have o0 := hO7.cell 0; have o1 := hO7.cell 1; have o2 := hO7.cell 2; have o3 := hO7.cell 3; have o4 := hO7.cell 4; have g0 := hO7.frozen 0; have g1 := hO7.frozen 1; have g2 := hO7.frozen 2; have g3 := hO7.frozen 3; have g4 := hO7.frozen 4; simp only [Yl] at b5 b6 b7 b8 b9 o0 o1 o2 o3 o4; have l7 := hq7.box.lt; obtain ⟨OA, oc, hov, _, _⟩ := hq7.out.shape; obtain ⟨CA, cc, hcv, _, _⟩ := hq7.cts.shape; subst hov hcv; have nmo : ¬ (mb = w.heap.size + 1) := by have := hq7.mlo; omega)
 refine bodyPost_ret (v := .tuple #[.agg #[.slice OA (ints s.out).length oc, .int .i64 s.ret, .bool s.ended, .int .i64 (s.steps : Int), .slice CA ds.length cc], .int .i64 0]) (by simp [results, Tryz.results8, go_sem, o0, o1, o2, o3, o4, hend, World.cell?_setCell_same, World.cell?_setCell_other]) rfl ?_
 have hBq : Below w.heap.size w w7 := hB1.trans (hq7.below.mono (by omega))
 have n1 : (Value.slice OA (ints s.out).length oc).ownBlock ≠ some (w.heap.size + 1) := fun e => by have := (hq7.out.lt _ e).1; omega
 have n2 : (Value.slice CA ds.length cc).ownBlock ≠ some (w.heap.size + 1) := fun e => by have := (hq7.cts.lt _ e).1; omega
 have hds : ds = countsL s.ts := Hgot.out.count Hl0.out Hh1.out (fun t ht => by
  obtain ⟨kx, ekx⟩ := (Hok.out.keys HR.out t ht)
  exact ⟨kx, ekx, Hh2.out t ht kx ekx⟩) hp7 ha7
 rw [← Hfin.out]
 refine ⟨(by (with_reducible repeat first | apply Qa | assumption | apply Qb | apply Qc | apply Qd | apply Qe | refine Qf ?_ (by assumption) ?_); all_goals (try simp only [Sz]); first | done | omega | (try simp only [Sz] at *); omega), _, rfl, _, _, rfl, ?_, ?_⟩
 · exact ((((((hq7.out.far (p := ⟨w.heap.size + 1, 0, none⟩) n1 _).far (p := ⟨w.heap.size + 1, 1, none⟩) n1 _).far (p := ⟨w.heap.size + 1, 2, none⟩) n1 _).far (p := ⟨w.heap.size + 1, 3, none⟩) n1 _).far (p := ⟨w.heap.size + 1, 4, none⟩) n1 _)).mono (by omega)
 · (
 show CRow _ _ _ _ (countsL s.ts)
 rw [← hds]
 exact ((((((hq7.cts.far (p := ⟨w.heap.size + 1, 0, none⟩) n2 _).far (p := ⟨w.heap.size + 1, 1, none⟩) n2 _).far (p := ⟨w.heap.size + 1, 2, none⟩) n2 _).far (p := ⟨w.heap.size + 1, 3, none⟩) n2 _).far (p := ⟨w.heap.size + 1, 4, none⟩) n2 _)).mono (by omega)))
 · (
 intro t c kl y yp w6 cnt6 hk hlk hv hat hrg6 hlt6 hg6 hs6 hen
 have hc : c = (s.ts.count t : Int) := by (
 obtain ⟨c', e1, e2, _⟩ := plainElem_int_inv Tryz.underlying3 hv
 injection e1 with _ e1
 injection e2 with e2 _
 have e3 := hat (.lit (.int .i64 0))
 rw [HcD.out t kl hk, e2, ← e1] at e3
 exact (lint_inj e3).symm)
 have hgot6 := Hgot.out.step hk hlk hc
 have hcst6 : CSt w1 regs A l cap inp mb gr gm Ai' ci' ov s cv cs w6 := hcst.kept hg6 (hrg.box_ne hcst.box) (hrg.row_ne hcst.out) (hrg.crow_ne hcst.cts) hr5lo
 have Hgot6 := hide hgot6
 have Hcst6 := hide hcst6
 have Hrg6 := hide hrg6
 have Hlt6 := hide hlt6
 obtain ⟨CA, cc, hcv, hcc1, hcc2⟩ := hcst6.cts.shape
 subst hcv
 obtain ⟨W7, hW7⟩ : ∃ W7, W7 = w6.alloc (.cells #[.int .i64 t.op, .int .i64 t.a, .int .i64 t.b] 41) := ⟨_, rfl⟩
 obtain ⟨t7, ht7⟩ : ∃ t7, t7 = w6.heap.size := ⟨_, rfl⟩
 have hcst7 : CSt w1 regs A l cap inp mb gr gm Ai' ci' ov s (.slice CA cs.length cc) cs W7 := by rw [hW7]; exact hcst6.later ((Below.refl _ _).alloc (Nat.le_refl _) _)
 have hrg7 := hrg6.alloc (.cells #[.int .i64 t.op, .int .i64 t.a, .int .i64 t.b] 41)
 rw [← hW7] at hrg7
 have hT7 : Blk W7 t7 41 #[.int .i64 t.op, .int .i64 t.a, .int .i64 t.b] := by rw [hW7]; exact Blk.new' ht7
 have hob : ¬ ((Value.slice CA cs.length cc).ownBlock = some mb) := hcst7.cts.ne_blk hcst7.box (by decide)
 have hog : (Value.slice CA cs.length cc).ownBlock ≠ some gm := fun e => hrg7.owns.ne_cts hcst7.cts e
 have hor : (Value.slice CA cs.length cc).ownBlock ≠ some r5 := hrg7.crow_ne hcst7.cts
 have hmr : ¬ (r5 = mb) := hrg7.box_ne hcst7.box
 have hmg : ¬ (gm = mb) := hrg7.owns.ne_box hcst7.box
 have hC7 := hcst7.cts
 have c9 := hcst7.box.cell 9
 have cf9 := hcst7.box.frozen 9
 have lmb := hcst7.box.lt
 have lsz := hcst7.below.size
 have q0 := hT7.cell 0
 have q1 := hT7.cell 1
 have q2 := hT7.cell 2
 have lt7 := hT7.lt
 have Hcst7 := hide hcst7
 have Hrg7 := hide hrg7
 have HW7 := hide hW7
 have Ht7 := hide ht7
 obtain ⟨ic, hci, hcz, hcs', hcb⟩ := info_parts infoCount
 simp only [Yl] at c9 q0 q1 q2
 clear hgot6 hcst6 hrg6 hlt6 hg6 hs6 hcst hrg hc hat hv hk hlk hcst7 hrg7 hT7 hW7 ht7
 unfold Tm.val at hen
 go_upto_region 15 with fail
 rw [← HW7.out, ← Ht7.out]
 go_region_law (refine step_append_counts (v := .slice CA cs.length cc) (l := cs) (by rfl) _ _ _ (by rfl) ic _ 32 Tryz.underlying31 hci hcz hcs' hcb rfl (by rfl) ((hC7.alloc _).drew) (some ⟨W7.heap.size, 0, none⟩) 1 1 [(t, c)] (by rfl) (by rfl) (counts_one' (by simp)) (by simp [maxLen] <;> omega) (by simp <;> omega) (by simp <;> omega) ?_; intro v2 w8 hr8 hg8 hat8; have f9 : w8.frozen? ⟨mb, 9, none⟩ = false := (by rw [hg8.frozen_far _ (by simp <;> omega) (by simp; exact fun e => hob e.symm)]; exact (fpast lmb).trans cf9); have x9 : w8.cell? ⟨mb, 9, none⟩ = some (.slice CA cs.length cc) := (by rw [hg8.cell_far _ (by simp <;> omega) (by simp; exact fun e => hob e.symm)]; exact (cpast lmb).trans c9); obtain ⟨CA8, cc8, hv8, _, _⟩ := hr8.shape; subst hv8)
 all_goals go_wp2_with fail
 all_goals go_roundg (cnt6)
 all_goals try exact Hlt6.out
 all_goals (simp only [List.length_append, List.length_singleton] at hr8)
 all_goals exact ⟨_, cs ++ [(t, c)], _, ((ranges_drew (Hrg7.out.alloc _)).kept (w' := w8) hg8 (Ne.symm hog) (Ne.symm hor)).kept (grown_cell w8 mb 9 _) (by simp; exact hmg) (by simp; exact hmr), Hgot6.out, ((Hcst7.out.later ((Below.refl _ _).alloc (Nat.le_refl _) _)).later ((Below.refl _ _).drew)).put hg8 hr8⟩))))))
end
end Go.Proofs.YtmghkonmfbpjcaaGreatDoor
