/- Parts. -/
import Derived.Test.YtmghkonmfbpjcabGreatDoorGM
import Derived.Shelf.SlSortCmp.NoneTotal
set_option linter.unusedVariables false
set_option linter.unusedSimpArgs false
set_option maxRecDepth 100000
set_option maxHeartbeats 4000000
namespace Go.Proofs.YtmghkonmfbpjcabGreatDoor
open Go.RowKit
open Go.Proofs.Tryz
section
open Go.Shelf Go.Lib Go.Sort
def yR : Go.Shelf.Ren := ⟨fun | 6 => 61 | 15 => 92 | 14 => 91 | 28 => 126 | 29 => 127 | 20 => 118 | 21 => 119 | 22 => 120 | 23 => 121 | 24 => 122 | 25 => 123 | 26 => 124 | 27 => 125 | 46 => 165 | 47 => 166 | 48 => 167 | 49 => 168 | 50 => 169 | 57 => 185 | n => n, fun | 22 => 48 | 24 => 114 | 25 => 117 | 3 => 3 | 39 => 147 | 0 => 0 | 53 => 185 | 55 => 125 | 4 => 4 | 46 => 179 | 45 => 178 | 50 => 104 | 5 => 5 | 9 => 9 | 66 => 211 | 70 => 97 | 76 => 234 | 77 => 235 | n => n, fun | n => n⟩
theorem bQQ : Go.Proofs.SlLaysF0.n6 prog yR := {
 mixed := Zc
 f6 := ⟨f61.name, Ze, func61.trans (congrArg some Zc)⟩
 f14 := ⟨f91.name, Ze, func91.trans (congrArg some Zc)⟩
 f15 := func92.trans (congrArg some Zc)
 f20 := ⟨f118.name, Ze, func118.trans (congrArg some Zc)⟩
 f21 := ⟨f119.name, Ze, func119.trans (congrArg some Zc)⟩
 f22 := ⟨f120.name, Ze, func120.trans (congrArg some Zc)⟩
 f23 := ⟨f121.name, Ze, func121.trans (congrArg some Zc)⟩
 f24 := ⟨f122.name, Ze, func122.trans (congrArg some Zc)⟩
 f25 := ⟨f123.name, Ze, func123.trans (congrArg some Zc)⟩
 f26 := ⟨f124.name, Ze, func124.trans (congrArg some Zc)⟩
 f27 := ⟨f125.name, Ze, func125.trans (congrArg some Zc)⟩
 f28 := func126.trans (congrArg some Zc)
 f29 := func127.trans (congrArg some Zc)
 f46 := ⟨f165.name, Ze, func165.trans (congrArg some Zc)⟩
 f47 := func166.trans (congrArg some Zc)
 f48 := func167.trans (congrArg some Zc)
 f49 := ⟨f168.name, Ze, func168.trans (congrArg some Zc)⟩
 f50 := ⟨f169.name, Ze, func169.trans (congrArg some Zc)⟩
 f57 := ⟨f185.name, Ze, func185.trans (congrArg some Zc)⟩
 t0 := underlying0
 a0 := isAgg0
 z0 := sizeOf0
 v0 := zeroValue0
 t3 := underlying3
 a3 := isAgg3
 z3 := sizeOf3
 v3 := zeroValue3
 t4 := underlying4
 a4 := isAgg4
 z4 := sizeOf4
 v4 := zeroValue4
 t5 := underlying5
 a5 := isAgg5
 z5 := sizeOf5
 v5 := zeroValue5
 t9 := underlying9
 a9 := isAgg9
 z9 := sizeOf9
 v9 := zeroValue9
 t22 := underlying48
 a22 := isAgg48
 z22 := sizeOf48
 v22 := zeroValue48
 t25 := underlying117
 a25 := isAgg117
 z25 := sizeOf117
 v25 := zeroValue117
 t39 := underlying147
 a39 := isAgg147
 z39 := sizeOf147
 v39 := zeroValue147
 t45 := underlying178
 a45 := isAgg178
 z45 := sizeOf178
 v45 := zeroValue178
 t46 := underlying179
 a46 := isAgg179
 z46 := sizeOf179
 v46 := zeroValue179
 t50 := underlying104
 a50 := isAgg104
 z50 := sizeOf104
 v50 := zeroValue104
 t53 := underlying185
 a53 := isAgg185
 z53 := sizeOf185
 v53 := zeroValue185
 t55 := underlying125
 a55 := isAgg125
 z55 := sizeOf125
 v55 := zeroValue125
 t66 := underlying211
 a66 := isAgg211
 z66 := sizeOf211
 v66 := zeroValue211
 t70 := underlying97
 a70 := isAgg97
 z70 := sizeOf97
 v70 := zeroValue97
 t76 := underlying234
 a76 := isAgg234
 z76 := sizeOf234
 v76 := zeroValue234
 t77 := underlying235
 a77 := isAgg235
 z77 := sizeOf235
 v77 := zeroValue235 }
theorem wX (cs : List Ct) (k : Nat) (hk : k < cs.length * 4) : (flatK Ct.cells 4 cs.toArray)[k]! = ((ctK.cells cs)[k]?).getD (.bool false) := by (
 rw [get_flatK _ _ _ _ X8]
 have h4 : k % 4 < 4 := Nat.mod_lt _ Zb
 have hd : k / 4 < cs.length := Zb
 have hg := bHJ cs (k / 4) (k % 4) h4
 rw [show k / 4 * 4 + k % 4 = k by omega, Vx hd, Option.bind_some] at hg
 rw [hg]
 rw [getElem!_pos _ (k / 4) (by simpa using hd)]
 simp only [List.getElem_toArray]
 rw [getElem!_pos _ (k % 4) (by rw [Ct.cells_len]; exact h4), Vx (by rw [Ct.cells_len]; exact h4)]
 rfl)
theorem yA {d : Array Ct} {cs : List Ct} (hs : SortedIn (ltOf fun x y : Ct => bED x.1 y.1) 0 d.size d) (hn : (d.toList.map Prod.fst).Nodup) : Asc d.toList := by (
 unfold Asc
 rw [List.pairwise_iff_getElem]
 intro i j hi hj hij
 have hi2 : i < d.size := by simpa using hi
 have hj2 : j < d.size := by simpa using hj
 have h := hs i j (Nat.zero_le _) hij hj2
 unfold ltOf at h
 rw [vC, getElem!_pos d j hj2, getElem!_pos d i hi2] at h
 have hne : (d[i]).1 ≠ (d[j]).1 := by (
 have := List.pairwise_iff_getElem.1 hn i j (by simpa using hi) (by simpa using hj) hij
 simpa using this)
 simp only [Array.getElem_toList]
 exact (qA hne).resolve_right Xi)
theorem bBF {B g cap : Nat} {e : TypeId} {cs : List Ct} {w : World} (hr : xN w B e (.slice (some ⟨g, 0, none⟩) cs.length cap) cs) (hl : cs.length < 4611686018427387904) (hn : (cs.map Prod.fst).Nodup) :
 Calls prog 61 #[.slice (some ⟨g, 0, none⟩) cs.length cap, .func (.func 62) #[] #[]] w fun en w' => en = .returned (.tuple #[]) ∧ ∃ ds : List Ct, ds.Perm cs ∧ Asc ds ∧ xN w' B e (.slice (some ⟨g, 0, none⟩) cs.length cap) ds ∧ w.grownBy w' (some g) := by (
 rcases hr.open with ⟨hv, _⟩ | ⟨g', cap', cur, hv, hb, hh, h1, h2, h3, hc⟩
 · cases hv
 injection hv with hA hn' hcp
 injection hA with hA
 injection hA with hg _
 subst hg hcp
 have hlt : g < w.heap.size := cJ hh
 have eg : ∀ args w, (callFunc 62 args).run prog w = .ok (.enter 62 args) w := enters_of func62 Zc rfl
 have hH : HoldsK Ct.cells 4 w g 0 cs.toArray := fun j hj => by (
 have hj4 : j < cs.length * 4 := by simpa using hj
 have hcj := hc j hj4
 have hjl : j < (ctK.cells cs).length := by rw [wY]; exact hj4
 rw [Nat.zero_add]
 refine ⟨?_, by simp [World.frozen?, hh]⟩
 rw [wX cs j hj4, Vx hjl]
 simp only [World.cell?, hh, hcj, Vx hjl]
 simp)
 have hcon := AnyQ.slices_SortFunc bQQ 4 isAgg114 sizeOf114 Ct.cells Ct.cells_len (fun x v hv => by simp [Ct.cells] at hv; rcases hv with rfl | rfl | rfl | rfl <;> rfl) (fun x y : Ct => bED x.1 y.1) bPA 62 #[] g 0 cap cs.toArray w eg (bEE g 0 cs.toArray.size w) hH hlt (by simpa using hl)
 change Calls prog 61 _ _ _ at hcon
 simp only [List.size_toArray] at hcon
 refine hcon.mono ?_
 rintro en w' ⟨rfl, d', n, os, hp, hs, rfl⟩
 obtain ⟨hsz, _, hperm⟩ := hp
 have hsz' : d'.size = cs.length := by simpa using hsz
 have hperm' : d'.toList.Perm cs := by (
 have h0 : (d'.extract 0 cs.length) = d' := by rw [← hsz']; simp
 rw [h0] at hperm
 simpa using hperm)
 have hnd : (d'.toList.map Prod.fst).Nodup := (hperm'.map Prod.fst).nodup_iff.2 hn
 have hhw : (sortWorldK Ct.cells 4 w g 0 n d' os).heap[g]? = some (.cells (putCells id 0 (flatK Ct.cells 4 d') cur) e (0, 0)) := by (
 unfold sortWorldK grow putRowK putRow mapBlock Go.Sort.ahead
 simp only
 rw [Array.getElem?_append_left (by simpa using hlt), Array.getElem?_modify]
 simp [hh, onCells])
 refine ⟨rfl, d'.toList, hperm', yA (cs := cs) (by rw [hsz']; simpa using hs) hnd, ?_, ?_⟩
 · (
 have hq := bO.close (Gd := ctK) (w := sortWorldK Ct.cells 4 w g 0 n d' os) (base := B) (e := e) (g := g) (cap := cap) (l := d'.toList) hb hhw (by simpa [hsz'] using h1) h2 (by simpa [putCells] using h3) (fun k hk => ?_)
 · (
 have hle : d'.toList.length = cs.length := by simpa using hsz'
 rw [hle] at hq
 exact hq)
 · (
 have hk' : k < d'.size * 4 := by simpa using hk
 have hkc : k < cur.size := Zb
 unfold putCells
 rw [Array.getElem?_mapIdx, Array.getElem?_eq_getElem hkc, Option.map_some, if_pos ⟨Nat.zero_le _, by simpa using hk'⟩]
 have := wX d'.toList k hk
 rw [Array.toArray_toList] at this
 rw [Nat.sub_zero, this]
 have hjl : k < (ctK.cells d'.toList).length := by rw [wY]; exact hk
 rw [Vx hjl]
 rfl))
 · (
 refine ⟨rfl, rfl, rfl, ?_, fun k hk hne => ?_⟩
 · (
 unfold sortWorldK grow putRowK putRow mapBlock Go.Sort.ahead
 simp)
 · (
 unfold sortWorldK grow putRowK putRow mapBlock Go.Sort.ahead
 simp only
 rw [Array.getElem?_append_left X8, Array.getElem?_modify, if_neg (fun e => hne (by rw [e]))])))
theorem bBE {B : Nat} {e : TypeId} {v : Value} {cs : List Ct} {w : World} (hr : xN w B e v cs) (hl : cs.length < 4611686018427387904) (hn : (cs.map Prod.fst).Nodup) :
 Calls prog 61 #[v, .func (.func 62) #[] #[]] w fun en w' => en = .returned (.tuple #[]) ∧ ∃ ds : List Ct, ds.Perm cs ∧ Asc ds ∧ xN w' B e v ds ∧ w.grownBy w' v.ownBlock := by (
 rcases hr.open with ⟨rfl, rfl⟩ | ⟨g, cap, cur, rfl, _⟩
 · (
 refine (AnyF.slices_SortFunc_none (P := prog) (ρ := yR) bQQ none 0 (.func (.func 62) #[] #[]) w).mono ?_
 rintro en w' ⟨rfl, rfl⟩
 exact ⟨rfl, [], List.Perm.refl _, List.Pairwise.nil, hr, World.grownBy.refl _ _⟩)
 · exact bBF hr hl hn)
end
end Go.Proofs.YtmghkonmfbpjcabGreatDoor
