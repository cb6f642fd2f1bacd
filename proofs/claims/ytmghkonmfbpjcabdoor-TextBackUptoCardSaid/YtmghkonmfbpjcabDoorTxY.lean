/- text.Read. -/
import Derived.Test.YtmghkonmfbpjcabDoorTxQ
import Derived.Test.YtmghkonmfbpjcabDoorTxJ
import Derived.Test.YtmghkonmfbpjcabDoorTxS
import Derived.Test.YtmghkonmfbpjcabDoorCheck2
import Derived.Test.YtmghkonmfbpjcabDoorSame
namespace Go.Proofs.YtmghkonmfbpjcabDoor
set_option linter.unusedVariables false
set_option linter.unusedSimpArgs false
open Go.RowKit
set_option maxHeartbeats 16000000
open Go.Lib Go.Maps

/-- what text.Read answers -/
def ReadPost (s : List UInt8) (w : World) (e : Ending) (w' : World) : Prop :=
  ∃ (regs : Int) (l : List Nd) (v : Value) (ok : Bool), e = .returned (.tuple #[.agg #[.int .i64 regs, v], .int .i64 (if ok then 0 else 1)]) ∧ NRow w' w.heap.size 55 v l ∧ Below w.heap.size w w' ∧ Got s regs l ok
theorem OpsM.grown {g k : Nat} {w w' : World} {row : Option Nat} (h : OpsM g k w) (hg : w.grownBy w' row) (hr : row ≠ some g) : OpsM g k w' := by
  obtain ⟨es, clock, hh, F, r⟩ := h
  exact ⟨es, clock, (hg.block g (lt_of_heap hh) (fun e => hr e.symm)).trans hh, F, r⟩
theorem OpsM.ne_row {g k B : Nat} {w : World} {e : TypeId} {v : Value} {l : List Nd} (h : OpsM g k w) (hr : NRow w B e v l) : v.ownBlock ≠ some g := by
  obtain ⟨es, clock, hh, F, r⟩ := h
  rcases hr.open with ⟨rfl, _⟩ | ⟨g', cap, cur, rfl, _, hh', _⟩
  · simp [Value.ownBlock]
  · intro he
    simp [Value.ownBlock] at he
    subst he
    rw [hh] at hh'
    cases hh'
set_option maxRecDepth 100000 in
theorem Read_any (s : List UInt8) (hs : s.length ≤ 4294967280) (w : World) (hT : Tv w) : Calls Tryd.prog 17 #[strB s] w (ReadPost s w) := by
  obtain ⟨i3, h3i, h3z, h3s, h3b⟩ := info_parts infoNode
  have hmm := @run_makeMap Tryd.prog
  go_enter Tryd.func17, Tryd.ntmps17
  go_upto_region 3 with (refine (names_any _).mono ?_; rintro e w1 ⟨rfl, hb1⟩)
  have hZ := ((Blk.new w 24 #[.int .i64 0, .slice none 0 0]).alloc (.map #[] 0)).below hb1 (by simp; omega)
  have hM : OpsM (w.heap.size + 1) 0 w1 := by
    have h0 := World.ownsMap_made (H := Unit) (w.alloc (.cells #[.int .i64 0, .slice none 0 0] 24)) Tryd.prog 9 (plainElem Tryd.prog 3)
    rw [show (w.alloc (.cells #[.int .i64 0, .slice none 0 0] 24)).heap.size = w.heap.size + 1 by simp] at h0
    exact OpsM.below h0 hb1
  have hB : Below w.heap.size w w1 := (((Below.refl _ _).alloc (Nat.le_refl _) _).alloc (by simp) _).trans (hb1.mono (by simp; omega))
  clear hb1
  go_loopg [5, 6, 20] (13) (fun gk a5 a6 i wr => ∃ k : Nat, k ≤ 13 ∧ i = .int .i64 k ∧ gk = 13 - k ∧ OpsM (w.heap.size + 1) k wr ∧ Blk wr w.heap.size 24 #[.int .i64 0, .slice none 0 0] ∧ Below w.heap.size w wr)
  case atStart => exact ⟨0, by omega, rfl, by omega, hM, hZ, hB⟩
  case round =>
    obtain ⟨k, hk, rfl, hgk, hMk, hZk, hBk⟩ := hrel
    have Hgk := hide hgk
    clear hgk hM hZ hB
    by_cases hlt : k < 13
    · have hix := fun W => names_index k hlt W
      have k1 : (k : Int) < 13 := by omega
      have hol : (opW (k : Int)).length ≤ 4294967280 := by have := opW_len (k : Int); omega
      go_wp2_with (at_mapUpdate; refine wpList_mapUpdate_own _ rfl _ _ _ 98 rfl 9 3 lawStr Tryd.underlying98 _ (w.heap.size + 1) k _ rfl hMk (by unfold maxLen; omega) _ _ _ rfl rfl (keyStr hol) _ [] (plainElem_int Tryd.underlying3 (WalkArith.wf_i64 (by omega))) ?_; intro w3 hown3 hgrow3)
      go_roundg (13 - (k + 1))
      case measure => have := Hgk.out; omega
      case rel => exact ⟨k + 1, by omega, by go_num, rfl, hown3, hZk.grown hgrow3 (by simp), hBk.grown hgrow3 hBk.size (fun q hq => by cases hq; omega)⟩
    · obtain rfl : k = 13 := by omega
      have hT1 := hT.below hBk
      have HT0 := hide hT
      clear hT hlt hk
      have HC := hide (Cut_b s hs wr hT1)
      go_wp2_with fail
      refine Calls.mono HC.out ?_
      rintro e w4 ⟨head, rest, is, rfl, hb4, hC⟩
      have hT4 := hT1.below hb4
      have hM4 := hMk.below hb4
      have hZ4 := hZk.below hb4 hZk.lt
      have hB4 := hBk.trans (hb4.mono hBk.size)
      have hhl : head.length ≤ 4294967280 ∧ rest.length ≤ s.length := by
        rcases hC with ⟨_, h, _⟩ | ⟨_, _, h1, h2⟩
        · have := congrArg List.length h
          simp at this
          omega
        · rw [h1, h2]; simp; omega
      clear HC hT1 hMk hZk hBk hb4
      have HP := hide (Prefix_b head regsW w4)
      have HCc := hide hC
      clear hC
      go_wp2_with fail
      refine Calls.mono HP.out ?_
      rintro e w5 ⟨dg, fine, rfl, hw5, hPf⟩
      subst hw5
      have hdg : dg.length ≤ 4294967280 := by
        rcases hPf with ⟨_, h⟩ | ⟨_, h, _⟩
        · have := congrArg List.length h
          rw [List.length_append] at this
          omega
        · rw [h]; exact hhl.1
      have HPf := hide hPf
      have HA := hide (Atoi_b dg hdg _ hT4)
      clear hPf HP
      go_wp2_with fail
      refine Calls.mono HA.out ?_
      rintro e w6 ⟨v, er, rfl, hb6, hA⟩
      have hT6 := hT4.below hb6
      have hM6 := hM4.below hb6
      have hZ6 := hZ4.below hb6 hZ4.lt
      have hB6 := hB4.trans (hb6.mono hB4.size)
      clear HA hT4 hM4 hZ4 hB4 hb6
      have hA0 : (er = .nilIface ∨ ∃ t q, er = .iface t q) := by
        rcases hA with ⟨h, _⟩ | ⟨h, _⟩
        · exact .inl h
        · exact .inr h
      have HAa := hide hA
      clear hA
      go_upto_region 11 with fail
      have hP6 := Blk.new w6 24 #[.int .i64 v, .slice none 0 0]
      have hgp : w.heap.size + 1 < w6.heap.size := hM6.lt
      replace hT6 := hT6.below ((Below.refl _ _).alloc (Nat.le_refl _) (.cells #[.int .i64 v, .slice none 0 0] 24))
      replace hM6 := hM6.alloc (.cells #[.int .i64 v, .slice none 0 0] 24)
      replace hZ6 := hZ6.alloc (.cells #[.int .i64 v, .slice none 0 0] 24)
      replace hB6 := hB6.alloc hB6.size (.cells #[.int .i64 v, .slice none 0 0] 24)
      generalize w6.alloc (.cells #[.int .i64 v, .slice none 0 0] 24) = w7 at *
      generalize w6.heap.size = gp at *
      have hno : (∀ r, i64ok r → is = true → fine = true → dg = itoa r → False) → NoText s := by
        intro H
        refine no_head fun r y hr e => ?_
        rcases HCc.out with ⟨h1, h2, h3⟩ | ⟨h1, h2, _⟩
        · rw [e] at h2
          obtain ⟨e1, _⟩ := head_inj (head_clean r) h3 h2
          rcases HPf.out with ⟨h4, h5⟩ | ⟨h4, _, h5⟩
          · rw [h5] at e1
            exact H r hr h1 h4 (List.append_cancel_left e1).symm
          · exact h5 _ e1.symm
        · rw [e] at h2
          exact h2 (by simp)
      have Hno := hide hno
      clear hno
      go_cut [61] (fun s61 wx => ∃ bad : Bool, s61 = .bool bad ∧ (bad = false → is = true ∧ fine = true ∧ dg = itoa v ∧ i64ok v) ∧ (bad = true → NoText s) ∧ Tv wx ∧ OpsM (w.heap.size + 1) 13 wx ∧ Blk wx w.heap.size 24 #[.int .i64 0, .slice none 0 0] ∧ Blk wx gp 24 #[.int .i64 v, .slice none 0 0] ∧ Below w.heap.size w wx)
      case first =>
        cases is with
        | false =>
          go_wp2_with fail
          go_meet
          exact ⟨true, rfl, (fun h => by cases h), (fun _ => Hno.out fun r hr h1 _ _ => by cases h1), hT6, hM6, hZ6, hP6, hB6⟩
        | true =>
          cases fine with
          | false =>
            go_wp2_with fail
            go_meet
            exact ⟨true, rfl, (fun h => by cases h), (fun _ => Hno.out fun r hr _ h1 _ => by cases h1), hT6, hM6, hZ6, hP6, hB6⟩
          | true =>
            rcases HAa.out with ⟨rfl, hv, hvn⟩ | ⟨⟨t, q', rfl⟩, hvn⟩
            · have HI := hide (Itoa_b v hv w7 hT6)
              have Hvn := hide hvn
              clear hvn hA0
              go_wp2_with fail
              refine Calls.mono HI.out ?_
              rintro e w8 ⟨rfl, hb8⟩
              have hS8 := hide (And.intro (hT6.below hb8) (And.intro (hM6.below hb8) (And.intro (hZ6.below hb8 hZ6.lt) (And.intro (hP6.below hb8 hP6.lt) (hB6.trans (hb8.mono hB6.size))))))
              clear HI hT6 hM6 hZ6 hP6 hB6 hb8
              by_cases heq : itoa v = dg
              · have Heq := hide heq
                rw [heq]
                clear heq
                go_wp2_with fail
                go_meet
                exact ⟨false, rfl, (fun _ => ⟨(by first | rfl | trivial), (by first | rfl | trivial), Heq.out.symm, hv⟩), (fun h => by cases h), hS8.out⟩
              · have hne : (itoa v == dg) = false := by rw [beq_eq_false_iff_ne]; exact heq
                have Heq := hide heq
                clear heq
                generalize hiv : itoa v = iv at *
                have Hiv := hide hiv
                clear hiv
                go_wp2_with fail
                go_meet
                exact ⟨true, rfl, (fun h => by cases h), (fun _ => Hno.out fun r hr _ _ h1 => Heq.out (by rw [← Hiv.out, Hvn.out r hr h1, ← h1])), hS8.out⟩
            · have Hvn := hide hvn
              clear hvn hA0
              go_wp2_with fail
              go_meet
              exact ⟨true, rfl, (fun h => by cases h), (fun _ => Hno.out fun r hr _ _ h1 => Hvn.out r hr h1), hT6, hM6, hZ6, hP6, hB6⟩
      case rest =>
        obtain ⟨bad, rfl, hg, hb, hT, hM, hZ, hP, hB⟩ := hcut
        have Hg := hide hg
        have Hb := hide hb
        clear hg hb hT6 hM6 hZ6 hP6 hB6
        cases bad with
        | true =>
          have z0 := hZ.cell 0
          have z1 := hZ.cell 1
          have zf0 := hZ.frozen 0
          have zf1 := hZ.frozen 1
          have lZ := hZ.lt
          simp only [List.getElem?_toArray, List.getElem?_cons_zero, List.getElem?_cons_succ] at z0 z1
          go_wp2_with fail
          refine bodyPost_ret (v := .tuple #[.agg #[.int .i64 0, .slice none 0 0], .int .i64 1]) (by simp [results, Tryd.results17, go_sem, z0, z1, zf0, zf1, World.cell?_setCell_same, World.cell?_setCell_other]; try rfl) rfl ⟨0, [], _, false, rfl, NRow.nil_ _ _ _, ?_, Or.inr ⟨rfl, rfl, rfl, ?_⟩⟩
          · exact (hB.setCell (Nat.le_refl _) _).setCell (Nat.le_refl _) _
          exact Hb.out (by first | rfl | trivial)
        | false =>
          have hgood := Hg.out (by first | rfl | trivial)
          obtain ⟨h1, h2, h3, hv⟩ := hgood
          subst h1 h2
          have hs0 : s = showL v [] ++ rest := by
            rcases HCc.out with ⟨_, h4, _⟩ | ⟨h4, _⟩
            · rcases HPf.out with ⟨_, h5⟩ | ⟨h5, _⟩
              · rw [h4, h5, h3, showL_eq]; simp [linesL]
              · cases h5
            · cases h4
          have Hs0 := hide hs0
          clear h3 hs0 Hg Hb
          go_wp2_with fail
          go_loopg [8, 9, 15, 16, 17] (257) (fun gk a8 a9 a15 a16 a17 wr => ∃ (l : List Nd) (V : Value) (rt : List UInt8), a8 = strB rt ∧ gk = 257 - l.length ∧ l.length ≤ 257 ∧ rt.length ≤ 4294967280 ∧ s = showL v l ++ rt ∧ (∀ m ∈ l, Shaped m) ∧ NRow wr w.heap.size 55 V l ∧ Blk wr gp 24 #[.int .i64 v, V] ∧ Tv wr ∧ OpsM (w.heap.size + 1) 13 wr ∧ Blk wr w.heap.size 24 #[.int .i64 0, .slice none 0 0] ∧ Below w.heap.size w wr)
          case atStart => exact ⟨[], .slice none 0 0, rest, rfl, rfl, by simp, by omega, Hs0.out, (fun m hm => by cases hm), NRow.nil_ _ _ _, hP, hT, hM, hZ, hB⟩
          case round =>
            clear hT hM hZ hP hB
            obtain ⟨l, V, rt, rfl, hgk, hl7, hrl, hs1, hsh, hN, hP, hT, hM, hZ, hB⟩ := hrel
            have Hgk := hide hgk
            have Hs := hide hs1
            have Hsh := hide hsh
            clear hgk hs1 hsh
            obtain ⟨An, cn, rfl, _, _⟩ := hN.shape
            have lP := hP.lt
            have p0 := hP.cell 0
            have p1 := hP.cell 1
            simp only [List.getElem?_toArray, List.getElem?_cons_zero, List.getElem?_cons_succ] at p0 p1
            by_cases hrt : rt = []
            · subst hrt
              have HK := hide (Check_any v An l cn wr (by unfold maxLen; omega) hN.nodes)
              by_cases hc : chk v l = 0
              · rw [hc] at HK
                have Hc := hide hc
                clear hc
                go_wp2_with fail
                refine Calls.mono HK.out ?_
                rintro e w6 ⟨rfl, hb6⟩
                have hZ6 := hZ.below hb6 hZ.lt
                have hP6 := hP.below hb6 hP.lt
                have hB6 := hB.trans (hb6.mono hB.size)
                have z0 := hZ6.cell 0
                have z1 := hZ6.cell 1
                have zf0 := hZ6.frozen 0
                have zf1 := hZ6.frozen 1
                have p0 := hP6.cell 0
                have p1 := hP6.cell 1
                have lZ := hZ6.lt
                have hNz := hide (hN.ne_blk hZ (by decide))
                simp only [List.getElem?_toArray, List.getElem?_cons_zero, List.getElem?_cons_succ] at z0 z1 p0 p1
                clear hZ
                go_wp2_with fail
                refine bodyPost_ret (v := .tuple #[.agg #[.int .i64 v, .slice An l.length cn], .int .i64 0]) (by simp [results, Tryd.results17, go_sem, z0, z1, zf0, zf1, World.cell?_setCell_same, World.cell?_setCell_other]; try rfl) rfl ⟨v, l, _, true, rfl, ?_, ?_, Or.inl ⟨rfl, Hc.out, (fun m hm i hi => (Hsh.out m hm).fit i hi), ?_⟩⟩
                · exact ((hN.below' hb6).far hNz.out _).far hNz.out _
                · exact (hB6.setCell (Nat.le_refl _) _).setCell (Nat.le_refl _) _
                · rw [Hs.out]; simp
              · have hn0 : (chk v l != 0) = true := by simp [hc]
                have Hc := hide hc
                clear hc
                generalize hgz : chk v l = cz at *
                have Hgz := hide hgz
                clear hgz
                go_wp2_with fail
                refine Calls.mono HK.out ?_
                rintro e w6 ⟨rfl, hb6⟩
                have hZ6 := hZ.below hb6 hZ.lt
                have hB6 := hB.trans (hb6.mono hB.size)
                clear hZ
                have z0 := hZ6.cell 0
                have z1 := hZ6.cell 1
                have zf0 := hZ6.frozen 0
                have zf1 := hZ6.frozen 1
                have lZ := hZ6.lt
                simp only [List.getElem?_toArray, List.getElem?_cons_zero, List.getElem?_cons_succ] at z0 z1
                go_wp2_with fail
                refine bodyPost_ret (v := .tuple #[.agg #[.int .i64 0, .slice none 0 0], .int .i64 1]) (by simp [results, Tryd.results17, go_sem, z0, z1, zf0, zf1, World.cell?_setCell_same, World.cell?_setCell_other]; try rfl) rfl ⟨0, [], _, false, rfl, NRow.nil_ _ _ _, ?_, Or.inr ⟨rfl, rfl, rfl, ?_⟩⟩
                · exact (hB6.setCell (Nat.le_refl _) _).setCell (Nat.le_refl _) _
                exact no_chk Hs.out Hsh.out (Or.inl ⟨rfl, by rw [Hgz.out]; exact Hc.out⟩)
            · have he : rt.isEmpty = false := by simpa using hrt
              have Hrt := hide hrt
              clear hrt
              by_cases hl6 : l.length ≤ 256
              · have d1 : decide ((l.length : Int) ≤ 256) = true := decide_eq_true (by omega)
                have HC := hide (Cut_b rt hrl wr hT)
                go_wp2_with fail
                refine Calls.mono HC.out ?_
                rintro e w4 ⟨ln, rt', is, rfl, hb4, hC⟩
                have hll : ln.length ≤ 4294967280 ∧ rt'.length ≤ 4294967280 := by
                  rcases hC with ⟨_, h, _⟩ | ⟨_, _, h1, h2⟩
                  · have := congrArg List.length h
                    simp at this
                    omega
                  · rw [h1, h2]; simp; omega
                have HCc := hide hC
                have hS4 := hide (And.intro (hN.below' hb4) (And.intro (hP.below hb4 hP.lt) (And.intro (hT.below hb4) (And.intro (hM.below hb4) (And.intro (hZ.below hb4 hZ.lt) (hB.trans (hb4.mono hB.size)))))))
                clear HC hC hN hP hT hM hZ hB hb4 p0 p1 lP
                have HNd := hide (node_any ln hll.1 (w.heap.size + 1) w4 hS4.out.2.2.1 hS4.out.2.2.2.1)
                go_wp2_with fail
                refine Calls.mono HNd.out ?_
                rintro e w5 ⟨x, ok, rfl, hb5, hx⟩
                go_upto_region 17 with fail
                obtain ⟨hN4, hP4, hT4, hM4, hZ4, hB4⟩ := hS4.out
                have hb5 : Below w4.heap.size w4 (w5.alloc (.cells #[.int .i64 x.op, .int .i64 x.d, .int .i64 x.a, .int .i64 x.b, .int .i64 x.t, .int .i64 x.e] 55)) := hb5.alloc hb5.size _
                have hX5 := Blk.new w5 55 #[.int .i64 x.op, .int .i64 x.d, .int .i64 x.a, .int .i64 x.b, .int .i64 x.t, .int .i64 x.e]
                generalize w5.alloc (.cells #[.int .i64 x.op, .int .i64 x.d, .int .i64 x.a, .int .i64 x.b, .int .i64 x.t, .int .i64 x.e] 55) = w6 at *
                generalize w5.heap.size = gx at *
                have hN6 := hN4.below' hb5
                have hP6 := hP4.below hb5 hP4.lt
                have hT6 := hT4.below hb5
                have hM6 := hM4.below hb5
                have hZ6 := hZ4.below hb5 hZ4.lt
                have hB6 := hB4.trans (hb5.mono hB4.size)
                have Hx := hide hx
                clear hx hN4 hP4 hT4 hM4 hZ4 hB4 hb5 hS4 HNd
                cases is with
                | false =>
                  clear hT6 hM6 hN6
                  have z0 := hZ6.cell 0
                  have z1 := hZ6.cell 1
                  have zf0 := hZ6.frozen 0
                  have zf1 := hZ6.frozen 1
                  have lZ := hZ6.lt
                  simp only [List.getElem?_toArray, List.getElem?_cons_zero, List.getElem?_cons_succ] at z0 z1
                  go_wp2_with fail
                  refine bodyPost_ret (v := .tuple #[.agg #[.int .i64 0, .slice none 0 0], .int .i64 1]) (by simp [results, Tryd.results17, go_sem, z0, z1, zf0, zf1, World.cell?_setCell_same, World.cell?_setCell_other]; try rfl) rfl ⟨0, [], _, false, rfl, NRow.nil_ _ _ _, ?_, Or.inr ⟨rfl, rfl, rfl, ?_⟩⟩
                  · exact (hB6.setCell (Nat.le_refl _) _).setCell (Nat.le_refl _) _
                  refine no_rest Hs.out Hsh.out Hrt.out fun m t hm e => ?_
                  rcases HCc.out with ⟨h1, _⟩ | ⟨_, h1, _⟩
                  · cases h1
                  · exact h1 (by rw [e]; simp)
                | true =>
                  have hCt : rt = ln ++ 10 :: rt' ∧ 10 ∉ ln := by
                    rcases HCc.out with ⟨_, h1⟩ | ⟨h1, _⟩
                    · exact h1
                    · cases h1
                  have HCt := hide hCt
                  clear hCt
                  cases ok with
                  | false =>
                    clear hT6 hM6 hN6
                    have z0 := hZ6.cell 0
                    have z1 := hZ6.cell 1
                    have zf0 := hZ6.frozen 0
                    have zf1 := hZ6.frozen 1
                    have lZ := hZ6.lt
                    simp only [List.getElem?_toArray, List.getElem?_cons_zero, List.getElem?_cons_succ] at z0 z1
                    go_wp2_with fail
                    refine bodyPost_ret (v := .tuple #[.agg #[.int .i64 0, .slice none 0 0], .int .i64 1]) (by simp [results, Tryd.results17, go_sem, z0, z1, zf0, zf1, World.cell?_setCell_same, World.cell?_setCell_other]; try rfl) rfl ⟨0, [], _, false, rfl, NRow.nil_ _ _ _, ?_, Or.inr ⟨rfl, rfl, rfl, ?_⟩⟩
                    · exact (hB6.setCell (Nat.le_refl _) _).setCell (Nat.le_refl _) _
                    refine no_rest Hs.out Hsh.out Hrt.out fun m t hm e => ?_
                    rw [HCt.out.1] at e
                    obtain ⟨e1, _⟩ := head_inj HCt.out.2 (node_clean hm.op) e
                    rcases Hx.out with ⟨h1, _⟩ | ⟨_, h1⟩
                    · cases h1
                    · exact h1 m hm e1
                  | true =>
                    have hxs : Shaped x ∧ ln = nodeL x := by
                      rcases Hx.out with ⟨_, h1⟩ | ⟨h1, _⟩
                      · exact h1
                      · cases h1
                    have Hxs := hide hxs
                    clear hxs
                    have p1 := hP6.cell 1
                    have x0 := hX5.cell 0
                    have x1 := hX5.cell 1
                    have x2 := hX5.cell 2
                    have x3 := hX5.cell 3
                    have x4 := hX5.cell 4
                    have x5 := hX5.cell 5
                    simp only [List.getElem?_toArray, List.getElem?_cons_zero, List.getElem?_cons_succ] at p1 x0 x1 x2 x3 x4 x5
                    go_wp2_with (at_builtin; refine wpList_append_nodes (v := .slice An l.length cn) (l := l) (base := w.heap.size) rfl _ _ _ rfl i3 _ 48 Tryd.underlying22 h3i h3z h3s h3b rfl rfl (hN6.alloc _) (some ⟨w6.heap.size, 0, none⟩) 1 1 [x] rfl rfl (nodes_one' rfl) (by simp [maxLen] <;> omega) (by simp <;> omega) (by have := hB6.size; simp <;> omega) ?_; intro v9 w9 hr9 hg9 hat9; obtain ⟨A9, c9, hv9, _, _⟩ := hr9.shape; subst hv9; simp only [List.length_append, List.length_singleton] at hr9 hat9 ⊢; have hP9 := Blk.grown (hP6.alloc (.cells #[.int .i64 x.op, .int .i64 x.d, .int .i64 x.a, .int .i64 x.b, .int .i64 x.t, .int .i64 x.e] 55)) hg9 (hN6.ne_blk hP6 (by decide)); have q0 := hP9.cell 0; have q1 := hP9.cell 1; have qf := hP9.frozen 1; simp only [List.getElem?_toArray, List.getElem?_cons_zero, List.getElem?_cons_succ] at q0 q1)
                    have hZ9 := Blk.grown (hZ6.alloc (.cells #[.int .i64 x.op, .int .i64 x.d, .int .i64 x.a, .int .i64 x.b, .int .i64 x.t, .int .i64 x.e] 55)) hg9 (hN6.ne_blk hZ6 (by decide))
                    have hM9 := OpsM.grown (hM6.alloc (.cells #[.int .i64 x.op, .int .i64 x.d, .int .i64 x.a, .int .i64 x.b, .int .i64 x.t, .int .i64 x.e] 55)) hg9 (hM6.ne_row hN6)
                    have hB9 : Below w.heap.size w w9 := Below.grown (hB6.alloc hB6.size (.cells #[.int .i64 x.op, .int .i64 x.d, .int .i64 x.a, .int .i64 x.b, .int .i64 x.t, .int .i64 x.e] 55)) hg9 (by have := hB6.size; simp; omega) (fun q hq => (hN6.lt q hq).1)
                    have hB10 := hB9.setCell (p := ⟨gp, 1, none⟩) (by simp only; omega) (.slice A9 (l.length + 1) c9)
                    have e1 : (l ++ [x]).length = l.length + 1 := by simp
                    go_roundg (257 - (l.length + 1))
                    case measure => have := Hgk.out; omega
                    case rel => exact ⟨l ++ [x], _, rt', rfl, by rw [e1], by rw [e1]; omega, hll.2, by rw [Hs.out, HCt.out.1, Hxs.out.2, showL_next], (fun m hm => by rcases List.mem_append.1 hm with h1 | h1; exact Hsh.out m h1; rw [List.mem_singleton.1 h1]; exact Hxs.out.1), hr9.far (hr9.ne_blk hP9 (by decide)) _, hP9.set_ 1 _, HT0.out.below hB10, hM9.far (by simp only; omega) _, hZ9.far (by simp only; omega) _, hB10⟩
              · have d1 : decide ((l.length : Int) ≤ 256) = false := decide_eq_false (by omega)
                have hcn : chk v l ≠ 0 := fun e => by have := (chk_small e).2.1; omega
                have HK := hide (Check_any v An l cn wr (by unfold maxLen; omega) hN.nodes)
                have hc := hcn
                clear hcn
                · have hn0 : (chk v l != 0) = true := by simp [hc]
                  have Hc := hide hc
                  clear hc
                  generalize hgz : chk v l = cz at *
                  have Hgz := hide hgz
                  clear hgz
                  go_wp2_with fail
                  refine Calls.mono HK.out ?_
                  rintro e w6 ⟨rfl, hb6⟩
                  have hZ6 := hZ.below hb6 hZ.lt
                  have hB6 := hB.trans (hb6.mono hB.size)
                  clear hZ
                  have z0 := hZ6.cell 0
                  have z1 := hZ6.cell 1
                  have zf0 := hZ6.frozen 0
                  have zf1 := hZ6.frozen 1
                  have lZ := hZ6.lt
                  simp only [List.getElem?_toArray, List.getElem?_cons_zero, List.getElem?_cons_succ] at z0 z1
                  go_wp2_with fail
                  refine bodyPost_ret (v := .tuple #[.agg #[.int .i64 0, .slice none 0 0], .int .i64 1]) (by simp [results, Tryd.results17, go_sem, z0, z1, zf0, zf1, World.cell?_setCell_same, World.cell?_setCell_other]; try rfl) rfl ⟨0, [], _, false, rfl, NRow.nil_ _ _ _, ?_, Or.inr ⟨rfl, rfl, rfl, ?_⟩⟩
                  · exact (hB6.setCell (Nat.le_refl _) _).setCell (Nat.le_refl _) _
                  exact no_chk Hs.out Hsh.out (Or.inr (by omega))
end Go.Proofs.YtmghkonmfbpjcabDoor
