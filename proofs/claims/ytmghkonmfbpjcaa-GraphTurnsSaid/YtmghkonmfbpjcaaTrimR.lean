/- The reference's TrimOf. -/
import Derived.Test.YtmghkonmfbpjcaaGraphT
import Derived.Test.YtmghkonmfbpjcaaReachR
import Derived.Test.YtmghkonmfbpjcaaSame
import Derived.Test.YtmghkonmfbpjcaaRefG
namespace Go.Proofs.Ytmghkonmfbpjcaa
set_option linter.unusedVariables false
set_option linter.unusedSimpArgs false
open Go.RowKit
set_option maxHeartbeats 4000000
attribute [local irreducible] Row madeCells

theorem flip_ne {a b : Option Nat} (h : a = none ∨ a ≠ b) : b = none ∨ b ≠ a := by
  rcases b with _ | b
  · exact .inl rfl
  · rcases h with h | h
    · exact .inr (by rw [h]; simp)
    · exact .inr h.symm
theorem map_const_range (z : Value) (n : Nat) : ((List.range n).map fun _ => z) = List.replicate n z := by rw [List.map_const', List.length_range]

set_option maxRecDepth 100000 in
theorem TrimOf_any (regs : Int) (A : Option Addr) (l : List Nd) (cap : Nat) (w : World) (hA : NodesAt w A l) (hR : Right regs l) :
    Calls Try.prog 24 #[.agg #[.int .i64 regs, .slice A l.length cap]] w (ProgPost w.heap.size 91 regs (trimL l) w) := by
  have hlo := hR.lo
  have hhi := hR.hi
  have hO := fun W (hW : Below w.heap.size w W) => ReachOf_any regs A l cap W (hA.below hW) hR
  have HO := hide hO
  have HR := hide hR
  clear hO hR
  obtain ⟨ib, hbi, hbz, hbs, hbb⟩ := info_parts infoInt
  have hmk := run_make1 (P := Try.prog) 56 3 ib _ 8 Try.underlying56 hbi hbz hbs hbb (by omega) rfl l.length (by omega)
  obtain ⟨i3, h3i, h3z, h3s, h3b⟩ := info_parts infoNode
  go_enter Try.func24, Try.ntmps24
  go_wp2_with fail
  refine (HO.out _ (by repeat (first | (with_reducible exact Below.refl _ _) | (with_reducible assumption) | (with_reducible refine Below.drew ?_) | (with_reducible refine below_drewN ?_ _) | (with_reducible refine Below.alloc ?_ (by (try simp only [World.size_alloc, World.size_setCell, World.size_drew, World.heap_drewN]); (first | done | omega | ((try simp only [World.size_alloc, World.size_setCell, World.size_drew, World.heap_drewN] at *); omega))) _) | (with_reducible refine Below.setCell ?_ (by (try simp only [World.size_alloc, World.size_setCell, World.size_drew, World.heap_drewN]); (first | done | omega | ((try simp only [World.size_alloc, World.size_setCell, World.size_drew, World.heap_drewN] at *); omega))) _) | (with_reducible refine Below.trans ?_ (Below.mono (by assumption) (by (try simp only [World.size_alloc, World.size_setCell, World.size_drew, World.heap_drewN]); (first | done | omega | ((try simp only [World.size_alloc, World.size_setCell, World.size_drew, World.heap_drewN] at *); omega)))))))).mono ?_
  rintro e w1 ⟨v1, rfl, hX1, hb1⟩
  obtain ⟨A1, c1, rfl, _, _⟩ := hX1.shape
  rw [bools_length, reachL_len] at hX1 ⊢
  have hxl : (reachL l).length = l.length := reachL_len l
  have hz1 := hb1.size
  simp only [World.size_alloc] at hz1
  have hP1 : Blk w1 w.heap.size 24 #[.int .i64 regs, .slice A l.length cap] := Blk.below (by repeat (first | ((with_reducible refine Blk.new' ?_); exact (by (try simp only [World.size_alloc, World.size_setCell, World.size_drew, World.heap_drewN]); (first | done | omega | ((try simp only [World.size_alloc, World.size_setCell, World.size_drew, World.heap_drewN] at *); omega)))) | (with_reducible refine Blk.drew ?_) | (with_reducible refine Blk.drewN ?_ _) | (with_reducible refine Blk.alloc ?_ _) | with_reducible assumption)) hb1 (by simp <;> omega)
  have hO1 : Blk w1 (w.heap.size + 1) 24 #[.int .i64 0, .slice none 0 0] := Blk.below (by repeat (first | ((with_reducible refine Blk.new' ?_); exact (by (try simp only [World.size_alloc, World.size_setCell, World.size_drew, World.heap_drewN]); (first | done | omega | ((try simp only [World.size_alloc, World.size_setCell, World.size_drew, World.heap_drewN] at *); omega)))) | (with_reducible refine Blk.drew ?_) | (with_reducible refine Blk.drewN ?_ _) | (with_reducible refine Blk.alloc ?_ _) | with_reducible assumption)) hb1 (by simp <;> omega)
  have hB1 : Below w.heap.size w w1 := Below.trans (by repeat (first | (with_reducible exact Below.refl _ _) | (with_reducible assumption) | (with_reducible refine Below.drew ?_) | (with_reducible refine below_drewN ?_ _) | (with_reducible refine Below.alloc ?_ (by (try simp only [World.size_alloc, World.size_setCell, World.size_drew, World.heap_drewN]); (first | done | omega | ((try simp only [World.size_alloc, World.size_setCell, World.size_drew, World.heap_drewN] at *); omega))) _) | (with_reducible refine Below.setCell ?_ (by (try simp only [World.size_alloc, World.size_setCell, World.size_drew, World.heap_drewN]); (first | done | omega | ((try simp only [World.size_alloc, World.size_setCell, World.size_drew, World.heap_drewN] at *); omega))) _) | (with_reducible refine Below.trans ?_ (Below.mono (by assumption) (by (try simp only [World.size_alloc, World.size_setCell, World.size_drew, World.heap_drewN]); (first | done | omega | ((try simp only [World.size_alloc, World.size_setCell, World.size_drew, World.heap_drewN] at *); omega))))))) (hb1.mono (by simp <;> omega))
  have hX1' := hX1.mono (base' := w.heap.size) (by simp <;> omega)
  have p0 := hP1.cell 0
  have p1 := hP1.cell 1
  simp only [List.getElem?_toArray, List.getElem?_cons_zero, List.getElem?_cons_succ] at p0 p1
  generalize hx : reachL l = x at *
  have Hx := hide hx
  clear hx hb1 HO hX1
  go_wp2_with fail
  have hW0 : Row (w1.alloc (.cells (madeCells #[.int .i64 0] l.length) 3)) w.heap.size 3 (.slice (some ⟨w1.heap.size, 0, none⟩) l.length l.length) ((List.range l.length).map fun _ => .int .i64 0) := by
    have h : Row (w1.alloc (.cells (madeCells #[.int .i64 0] l.length) 3)) w.heap.size 3 (.slice (some ⟨w1.heap.size, 0, none⟩) l.length l.length) (List.replicate l.length (.int .i64 0)) := Row.made1' rfl (by omega) (by omega)
    rwa [← map_const_range] at h
  go_loopg [5, 6] (l.length) (fun gk m i wr => ∃ (k : Nat) (vs : Nat → Value), k ≤ l.length ∧ m = .int .i64 (rk x k) ∧ i = .int .i64 k ∧ gk = l.length - k ∧ (∀ j, j < k → yn x j = true → vs j = .int .i64 (rk x j)) ∧
    Row wr w.heap.size 3 (.slice (some ⟨w1.heap.size, 0, none⟩) l.length l.length) ((List.range l.length).map vs) ∧ Row wr w.heap.size 4 (.slice A1 l.length c1) (bools x) ∧
    Blk wr w.heap.size 24 #[.int .i64 regs, .slice A l.length cap] ∧ Blk wr (w.heap.size + 1) 24 #[.int .i64 0, .slice none 0 0] ∧ Below w.heap.size w wr)
  case atStart => exact ⟨0, _, Nat.zero_le _, rfl, rfl, rfl, fun j hj => absurd hj (Nat.not_lt_zero _), hW0, hX1'.alloc _, hP1.alloc _, hO1.alloc _, (by repeat (first | (with_reducible exact Below.refl _ _) | (with_reducible assumption) | (with_reducible refine Below.drew ?_) | (with_reducible refine below_drewN ?_ _) | (with_reducible refine Below.alloc ?_ (by (try simp only [World.size_alloc, World.size_setCell, World.size_drew, World.heap_drewN]); (first | done | omega | ((try simp only [World.size_alloc, World.size_setCell, World.size_drew, World.heap_drewN] at *); omega))) _) | (with_reducible refine Below.setCell ?_ (by (try simp only [World.size_alloc, World.size_setCell, World.size_drew, World.heap_drewN]); (first | done | omega | ((try simp only [World.size_alloc, World.size_setCell, World.size_drew, World.heap_drewN] at *); omega))) _) | (with_reducible refine Below.trans ?_ (Below.mono (by assumption) (by (try simp only [World.size_alloc, World.size_setCell, World.size_drew, World.heap_drewN]); (first | done | omega | ((try simp only [World.size_alloc, World.size_setCell, World.size_drew, World.heap_drewN] at *); omega)))))))⟩
  case round =>
    clear hmk hW0 hX1' hP1 hO1 hB1 p0 p1
    obtain ⟨k, vs, hk, rfl, rfl, hgk, hv, hW, hX, hP, hO, hB⟩ := hrel
    have Hgk := hide hgk
    have Hv := hide hv
    have p0 := hP.cell 0
    have p1 := hP.cell 1
    simp only [List.getElem?_toArray, List.getElem?_cons_zero, List.getElem?_cons_succ] at p0 p1
    clear hgk hv
    have hrl := rk_le x k
    by_cases hlt : k < l.length
    · obtain ⟨gx, ox, cx, ex, hgx, hlx, ck, fk⟩ := hX.bool (k := k) (by rw [hxl]; exact hlt)
      injection ex with ex e1 e2
      subst ex e2
      clear e1
      have q0 : (0 : Int) ≤ (k : Int) := by omega
      have q1 : (k : Int) < (l.length : Int) := by omega
      have fw := tabfree hW hlt
      have cw := tabcell hW hlt
      have hne := hW.ne_blk hP (by decide)
      have hne2 := hW.ne_blk hO (by decide)
      have hne3 := hX.ne_row hW (by decide)
      have HW := hide hW
      have HX := hide hX
      have HP := hide hP
      have HO := hide hO
      have Hne := hide hne
      have Hne2 := hide hne2
      have Hne3 := hide hne3
      clear hW hX hP hO hne hne2 hne3
      cases hxk : yn x k
      case false =>
        rw [hxk] at ck
        have Hxk := hide hxk
        clear hxk
        go_wp2_with fail
        go_roundg (l.length - (k + 1))
        case measure => have := Hgk.out; omega
        case rel => exact ⟨k + 1, vs, by omega, by rw [rk_no Hxk.out], by go_num, rfl, fun j hj hy => Hv.out j (by
          by_cases hjk : j = k
          · subst hjk; rw [Hxk.out] at hy; cases hy
          · omega) hy, HW.out, HX.out, HP.out, HO.out, hB⟩
      case true =>
        rw [hxk] at ck
        have Hxk := hide hxk
        clear hxk
        go_wp2_with fail
        go_roundg (l.length - (k + 1))
        case measure => have := Hgk.out; omega
        case rel =>
          have hst := HW.out.store k (.int .i64 (rk x k))
          rw [Nat.zero_add, map_range_set _ _ hlt] at hst
          refine ⟨k + 1, upd vs k (.int .i64 (rk x k)), by omega, by rw [rk_yes Hxk.out]; go_num, by go_num, rfl, fun j hj hy => ?_, hst, HX.out.far ?_ _, HP.out.far ?_ _, HO.out.far ?_ _, hB.setCell (by simp <;> omega) _⟩
          · by_cases hjk : j = k
            · subst hjk; rw [upd_same]
            · rw [upd_other _ _ hjk]; exact Hv.out j (by omega) hy
          · have := Hne3.out
            rcases this with h | h
            · rw [h]; simp
            · exact h
          · intro e; exact Hne.out (by simp only [Value.ownBlock]; exact congrArg some e.symm)
          · intro e; exact Hne2.out (by simp only [Value.ownBlock]; exact congrArg some e.symm)
    · have hkk : k = l.length := by omega
      subst hkk
      have HW := hide hW
      have HX := hide hX
      have HP := hide hP
      have HO := hide hO
      clear Hgk hlt hk hW hX hP hO
      go_wp2_with fail
      obtain ⟨wo, rfl⟩ : ∃ wo : World, wo = wr := ⟨_, rfl⟩
      obtain ⟨gk3, rfl⟩ : ∃ gk3 : Nat, gk3 = gk := ⟨_, rfl⟩
      have hzo := HO.out.lt
      go_loopg [8] (l.length) (fun gk i wr => ∃ (k : Nat) (v : Value), k ≤ l.length ∧ i = .int .i64 k ∧ gk = l.length - k ∧ NRow wr w.heap.size 91 v (trimTo x l k) ∧ Blk wr wo.heap.size 24 #[.int .i64 regs, v] ∧
        Row wr w.heap.size 3 (.slice (some ⟨w1.heap.size, 0, none⟩) l.length l.length) ((List.range l.length).map vs) ∧ Row wr w.heap.size 4 (.slice A1 l.length c1) (bools x) ∧
        Blk wr w.heap.size 24 #[.int .i64 regs, .slice A l.length cap] ∧ Blk wr (w.heap.size + 1) 24 #[.int .i64 0, .slice none 0 0] ∧ Below w.heap.size w wr)
      case atStart => exact ⟨0, _, Nat.zero_le _, rfl, rfl, NRow.nil_ _ _ _, (by repeat (first | ((with_reducible refine Blk.new' ?_); exact (by (try simp only [World.size_alloc, World.size_setCell, World.size_drew, World.heap_drewN]); (first | done | omega | ((try simp only [World.size_alloc, World.size_setCell, World.size_drew, World.heap_drewN] at *); omega)))) | (with_reducible refine Blk.drew ?_) | (with_reducible refine Blk.drewN ?_ _) | (with_reducible refine Blk.alloc ?_ _) | with_reducible assumption)), HW.out.alloc _, HX.out.alloc _, HP.out.alloc _, HO.out.alloc _, (by repeat (first | (with_reducible exact Below.refl _ _) | (with_reducible assumption) | (with_reducible refine Below.drew ?_) | (with_reducible refine below_drewN ?_ _) | (with_reducible refine Below.alloc ?_ (by (try simp only [World.size_alloc, World.size_setCell, World.size_drew, World.heap_drewN]); (first | done | omega | ((try simp only [World.size_alloc, World.size_setCell, World.size_drew, World.heap_drewN] at *); omega))) _) | (with_reducible refine Below.setCell ?_ (by (try simp only [World.size_alloc, World.size_setCell, World.size_drew, World.heap_drewN]); (first | done | omega | ((try simp only [World.size_alloc, World.size_setCell, World.size_drew, World.heap_drewN] at *); omega))) _) | (with_reducible refine Below.trans ?_ (Below.mono (by assumption) (by (try simp only [World.size_alloc, World.size_setCell, World.size_drew, World.heap_drewN]); (first | done | omega | ((try simp only [World.size_alloc, World.size_setCell, World.size_drew, World.heap_drewN] at *); omega)))))))⟩
      case round =>
        clear HW HX HP HO hB p0 p1
        obtain ⟨k, v, hk, rfl, hgk, hN, hQ, hW, hX, hP, hO, hB⟩ := hrel
        have Hgk := hide hgk
        have hz := hB.size
        have p0 := hP.cell 0
        have p1 := hP.cell 1
        have q0 := hQ.cell 0
        have q1 := hQ.cell 1
        have fq := hQ.frozen 1
        simp only [List.getElem?_toArray, List.getElem?_cons_zero, List.getElem?_cons_succ] at p0 p1 q0 q1
        clear hgk
        by_cases hlt : k < l.length
        · obtain ⟨n, hn⟩ : ∃ n, l[k]? = some n := ⟨_, List.getElem?_eq_getElem hlt⟩
          obtain ⟨nb, no, n', rfl, hnb, hn', hnl⟩ := (hA.below hB).get (k := k) hlt
          rw [hn] at hn'
          injection hn' with hn'
          subst hn'
          obtain ⟨c0, c1, c2, c3, c4, c5⟩ := hnl
          have hm := List.mem_of_getElem? hn
          obtain ⟨gx, ox, cx, ex, hgx, hlx, ck, fk⟩ := hX.bool (k := k) (by rw [hxl]; exact hlt)
          injection ex with ex e1 e2
          subst ex e2
          clear e1
          have q0 : (0 : Int) ≤ (k : Int) := by omega
          have q1 : (k : Int) < (l.length : Int) := by omega
          have Hn := hide hn
          have HN := hide hN
          have HQ := hide hQ
          have HW := hide hW
          have HX := hide hX
          have HP := hide hP
          have HO := hide hO
          clear hn hN hQ hW hX hP hO hA
          cases hxk : yn x k
          case false =>
            rw [hxk] at ck
            have Hxk := hide hxk
            clear hxk
            go_wp2_with fail
            go_roundg (l.length - (k + 1))
            case measure => have := Hgk.out; omega
            case rel => exact ⟨k + 1, v, by omega, by go_num, rfl, by rw [trimTo_no Hxk.out]; exact HN.out, HQ.out, HW.out, HX.out, HP.out, HO.out, hB⟩
          case true =>
            rw [hxk] at ck
            have Hxk := hide hxk
            have hlen := trimTo_len x l k
            have hlen2 : (trimTo x l k ++ [trimN x n]).length = rk x k + 1 := by simp [hlen]
            have hneP := HN.out.ne_blk HP.out (by decide)
            have hneO := HN.out.ne_blk HO.out (by decide)
            have hneW := flip_ne (HN.out.ne_row HW.out (by decide))
            have hneX := flip_ne (HN.out.ne_row HX.out (by decide))
            have hrl := rk_le x k
            have lq := HQ.out.lt
            clear hxk
            have hneQ := HN.out.ne_blk HQ.out (by decide)
            by_cases h12 : n.op = 12
            · have t12 : (n.op != 12) = false := by simp [h12]
              have t11 : (n.op == 11) = false := by simp [h12]
              have hy : trimN x n = ⟨n.op, n.d, n.a, n.b, n.t, n.e⟩ := by simp [trimN, h12]
              have Hy := hide hy
              clear h12 hy
              (go_wp2_with (at_builtin; refine wpList_append_nodes (v := v) (l := trimTo x l k) (base := w.heap.size) rfl _ _ _ rfl i3 _ 48 Try.underlying22 h3i h3z h3s h3b rfl rfl (by repeat (first | exact HN.out | (with_reducible refine NRow.alloc ?_ _) | (with_reducible refine NRow.drew ?_) | (with_reducible refine NRow.drewN ?_ _))) (some ⟨wr.heap.size + 1, 0, none⟩) 1 1 [trimN x n] rfl rfl (by rw [Hy.out]; exact nodes_one' (by simp)) (by simp [maxLen]; omega) (by simp; omega) (by simp; omega) ?_; intro v2 w2 hr2 hg2 hat2; obtain ⟨A2, c2, hv2, _, _⟩ := hr2.shape; subst hv2; rw [hlen2] at hr2 hat2; try rw [hlen2]; have hQ2 : Blk w2 wo.heap.size 24 #[.int .i64 regs, v] := Blk.grown (by repeat (first | exact HQ.out | (with_reducible refine Blk.alloc ?_ _))) hg2 hneQ; have r1 := hQ2.cell 1; have r2 := hQ2.frozen 1; simp only [List.getElem?_toArray, List.getElem?_cons_zero, List.getElem?_cons_succ] at r1); go_roundg (l.length - (k + 1)); (case measure => (have := Hgk.out; omega)); (case rel => exact ⟨k + 1, .slice A2 (rk x k + 1) c2, by omega, by go_num, rfl, by rw [trimTo_yes Hxk.out Hn.out]; exact hr2.far (hr2.ne_blk hQ2 (by decide)) _, hQ2.set_ 1 _, (Row.kept (by repeat (first | exact HW.out | (with_reducible refine Row.alloc ?_ _) | (with_reducible refine Blk.alloc ?_ _))) hg2 hneW).far (Row.ne_blk (by repeat (first | exact HW.out | (with_reducible refine Row.alloc ?_ _) | (with_reducible refine Blk.alloc ?_ _))) (by repeat (first | exact HQ.out | (with_reducible refine Row.alloc ?_ _) | (with_reducible refine Blk.alloc ?_ _))) (by decide)) _, (Row.kept (by repeat (first | exact HX.out | (with_reducible refine Row.alloc ?_ _) | (with_reducible refine Blk.alloc ?_ _))) hg2 hneX).far (Row.ne_blk (by repeat (first | exact HX.out | (with_reducible refine Row.alloc ?_ _) | (with_reducible refine Blk.alloc ?_ _))) (by repeat (first | exact HQ.out | (with_reducible refine Row.alloc ?_ _) | (with_reducible refine Blk.alloc ?_ _))) (by decide)) _, (Blk.grown (by repeat (first | exact HP.out | (with_reducible refine Row.alloc ?_ _) | (with_reducible refine Blk.alloc ?_ _))) hg2 hneP).far (by simp <;> omega) _, (Blk.grown (by repeat (first | exact HO.out | (with_reducible refine Row.alloc ?_ _) | (with_reducible refine Blk.alloc ?_ _))) hg2 hneO).far (by simp <;> omega) _, (((hB.alloc hz _).alloc (by simp <;> omega) _).grown hg2 (by simp <;> omega) (fun q hq => (HN.out.lt q hq).1)).setCell (by simp <;> omega) _⟩))
            · obtain ⟨t0, t1⟩ := HR.out.then_ hm h12
              obtain ⟨tt, htt⟩ := Int.eq_ofNat_of_zero_le (show 0 ≤ n.t by omega)
              have hld := leads_then h12
              rw [htt] at hld
              have hbnd : ∀ m : Nat, leadsB n m = true → m < l.length := by
                intro m hlm
                rcases leads_cases hlm with ⟨h12, rfl'⟩ | ⟨h11, rfl'⟩
                · have := HR.out.then_ hm h12; omega
                · have := HR.out.else_ hm h11; omega
              have htl : tt < l.length := by omega
              have hyt : yn x tt = true := by rw [← Hx.out]; exact reach_shut (by rw [Hx.out]; exact Hxk.out) Hn.out hld hbnd
              have ct := tabcell HW.out htl
              rw [Hv.out tt htl hyt] at ct
              have t0' : (0 : Int) ≤ (tt : Int) := by omega
              have t1' : (tt : Int) < (l.length : Int) := by omega
              have t12 : (n.op != 12) = true := by simp [h12]
              rw [htt] at c4
              have htn : n.t.toNat = tt := by omega
              have lw := rowlt HW.out
              by_cases h11 : n.op = 11
              · obtain ⟨s0, s1⟩ := HR.out.else_ hm h11
                obtain ⟨ee, hee⟩ := Int.eq_ofNat_of_zero_le (show 0 ≤ n.e by omega)
                have hld2 := leads_else h11
                rw [hee] at hld2
                have hel : ee < l.length := by omega
                have hye : yn x ee = true := by rw [← Hx.out]; exact reach_shut (by rw [Hx.out]; exact Hxk.out) Hn.out hld2 hbnd
                have ce := tabcell HW.out hel
                rw [Hv.out ee hel hye] at ce
                have e0' : (0 : Int) ≤ (ee : Int) := by omega
                have e1' : (ee : Int) < (l.length : Int) := by omega
                have t11 : (n.op == 11) = true := by simp [h11]
                rw [hee] at c5
                have hen : n.e.toNat = ee := by omega
                have hy : trimN x n = ⟨n.op, n.d, n.a, n.b, (rk x tt : Nat), (rk x ee : Nat)⟩ := by simp [trimN, h11, htn, hen]
                have Hy := hide hy
                clear h12 h11 hy htt hee hld hld2 hbnd hyt hye t0 t1 s0 s1 htn hen
                (go_wp2_with (at_builtin; refine wpList_append_nodes (v := v) (l := trimTo x l k) (base := w.heap.size) rfl _ _ _ rfl i3 _ 48 Try.underlying22 h3i h3z h3s h3b rfl rfl (by repeat (first | exact HN.out | (with_reducible refine NRow.alloc ?_ _) | (with_reducible refine NRow.drew ?_) | (with_reducible refine NRow.drewN ?_ _))) (some ⟨wr.heap.size + 1, 0, none⟩) 1 1 [trimN x n] rfl rfl (by rw [Hy.out]; exact nodes_one' (by simp)) (by simp [maxLen]; omega) (by simp; omega) (by simp; omega) ?_; intro v2 w2 hr2 hg2 hat2; obtain ⟨A2, c2, hv2, _, _⟩ := hr2.shape; subst hv2; rw [hlen2] at hr2 hat2; try rw [hlen2]; have hQ2 : Blk w2 wo.heap.size 24 #[.int .i64 regs, v] := Blk.grown (by repeat (first | exact HQ.out | (with_reducible refine Blk.alloc ?_ _))) hg2 hneQ; have r1 := hQ2.cell 1; have r2 := hQ2.frozen 1; simp only [List.getElem?_toArray, List.getElem?_cons_zero, List.getElem?_cons_succ] at r1); go_roundg (l.length - (k + 1)); (case measure => (have := Hgk.out; omega)); (case rel => exact ⟨k + 1, .slice A2 (rk x k + 1) c2, by omega, by go_num, rfl, by rw [trimTo_yes Hxk.out Hn.out]; exact hr2.far (hr2.ne_blk hQ2 (by decide)) _, hQ2.set_ 1 _, (Row.kept (by repeat (first | exact HW.out | (with_reducible refine Row.alloc ?_ _) | (with_reducible refine Blk.alloc ?_ _))) hg2 hneW).far (Row.ne_blk (by repeat (first | exact HW.out | (with_reducible refine Row.alloc ?_ _) | (with_reducible refine Blk.alloc ?_ _))) (by repeat (first | exact HQ.out | (with_reducible refine Row.alloc ?_ _) | (with_reducible refine Blk.alloc ?_ _))) (by decide)) _, (Row.kept (by repeat (first | exact HX.out | (with_reducible refine Row.alloc ?_ _) | (with_reducible refine Blk.alloc ?_ _))) hg2 hneX).far (Row.ne_blk (by repeat (first | exact HX.out | (with_reducible refine Row.alloc ?_ _) | (with_reducible refine Blk.alloc ?_ _))) (by repeat (first | exact HQ.out | (with_reducible refine Row.alloc ?_ _) | (with_reducible refine Blk.alloc ?_ _))) (by decide)) _, (Blk.grown (by repeat (first | exact HP.out | (with_reducible refine Row.alloc ?_ _) | (with_reducible refine Blk.alloc ?_ _))) hg2 hneP).far (by simp <;> omega) _, (Blk.grown (by repeat (first | exact HO.out | (with_reducible refine Row.alloc ?_ _) | (with_reducible refine Blk.alloc ?_ _))) hg2 hneO).far (by simp <;> omega) _, (((hB.alloc hz _).alloc (by simp <;> omega) _).grown hg2 (by simp <;> omega) (fun q hq => (HN.out.lt q hq).1)).setCell (by simp <;> omega) _⟩))
              · have t11 : (n.op == 11) = false := by simp [h11]
                have hy : trimN x n = ⟨n.op, n.d, n.a, n.b, (rk x tt : Nat), n.e⟩ := by simp [trimN, h11, h12, htn]
                have Hy := hide hy
                clear h12 h11 hy htt hld hbnd hyt t0 t1 htn
                (go_wp2_with (at_builtin; refine wpList_append_nodes (v := v) (l := trimTo x l k) (base := w.heap.size) rfl _ _ _ rfl i3 _ 48 Try.underlying22 h3i h3z h3s h3b rfl rfl (by repeat (first | exact HN.out | (with_reducible refine NRow.alloc ?_ _) | (with_reducible refine NRow.drew ?_) | (with_reducible refine NRow.drewN ?_ _))) (some ⟨wr.heap.size + 1, 0, none⟩) 1 1 [trimN x n] rfl rfl (by rw [Hy.out]; exact nodes_one' (by simp)) (by simp [maxLen]; omega) (by simp; omega) (by simp; omega) ?_; intro v2 w2 hr2 hg2 hat2; obtain ⟨A2, c2, hv2, _, _⟩ := hr2.shape; subst hv2; rw [hlen2] at hr2 hat2; try rw [hlen2]; have hQ2 : Blk w2 wo.heap.size 24 #[.int .i64 regs, v] := Blk.grown (by repeat (first | exact HQ.out | (with_reducible refine Blk.alloc ?_ _))) hg2 hneQ; have r1 := hQ2.cell 1; have r2 := hQ2.frozen 1; simp only [List.getElem?_toArray, List.getElem?_cons_zero, List.getElem?_cons_succ] at r1); go_roundg (l.length - (k + 1)); (case measure => (have := Hgk.out; omega)); (case rel => exact ⟨k + 1, .slice A2 (rk x k + 1) c2, by omega, by go_num, rfl, by rw [trimTo_yes Hxk.out Hn.out]; exact hr2.far (hr2.ne_blk hQ2 (by decide)) _, hQ2.set_ 1 _, (Row.kept (by repeat (first | exact HW.out | (with_reducible refine Row.alloc ?_ _) | (with_reducible refine Blk.alloc ?_ _))) hg2 hneW).far (Row.ne_blk (by repeat (first | exact HW.out | (with_reducible refine Row.alloc ?_ _) | (with_reducible refine Blk.alloc ?_ _))) (by repeat (first | exact HQ.out | (with_reducible refine Row.alloc ?_ _) | (with_reducible refine Blk.alloc ?_ _))) (by decide)) _, (Row.kept (by repeat (first | exact HX.out | (with_reducible refine Row.alloc ?_ _) | (with_reducible refine Blk.alloc ?_ _))) hg2 hneX).far (Row.ne_blk (by repeat (first | exact HX.out | (with_reducible refine Row.alloc ?_ _) | (with_reducible refine Blk.alloc ?_ _))) (by repeat (first | exact HQ.out | (with_reducible refine Row.alloc ?_ _) | (with_reducible refine Blk.alloc ?_ _))) (by decide)) _, (Blk.grown (by repeat (first | exact HP.out | (with_reducible refine Row.alloc ?_ _) | (with_reducible refine Blk.alloc ?_ _))) hg2 hneP).far (by simp <;> omega) _, (Blk.grown (by repeat (first | exact HO.out | (with_reducible refine Row.alloc ?_ _) | (with_reducible refine Blk.alloc ?_ _))) hg2 hneO).far (by simp <;> omega) _, (((hB.alloc hz _).alloc (by simp <;> omega) _).grown hg2 (by simp <;> omega) (fun q hq => (HN.out.lt q hq).1)).setCell (by simp <;> omega) _⟩))
        · have hkk : k = l.length := by omega
          subst hkk
          have r0 := hO.cell 0
          have r1 := hO.cell 1
          have r2 := hO.frozen 0
          have r3 := hO.frozen 1
          simp only [List.getElem?_toArray, List.getElem?_cons_zero, List.getElem?_cons_succ] at r0 r1
          have hne2 := hN.ne_blk hO (by decide)
          obtain ⟨A2, c2, hv2, _, _⟩ := hN.shape
          subst hv2
          have HN := hide hN
          have HQ := hide hQ
          have HO := hide hO
          have Hne := hide hne2
          clear hN hQ hW hX hP hO hA hne2
          go_wp2_with fail
          go_tidy
          refine bodyPost_ret (v := .agg #[.int .i64 regs, .slice A2 _ c2]) (by simp [results, Try.results24, go_sem, r0, r1, World.cell?_setCell_same, World.cell?_setCell_other]; rfl) rfl ?_
          refine ⟨_, rfl, ?_, (hB.setCell (by simp) _).setCell (by simp) _⟩
          unfold trimL
          rw [Hx.out]
          exact (HN.out.far Hne.out _).far Hne.out _
end Go.Proofs.Ytmghkonmfbpjcaa
