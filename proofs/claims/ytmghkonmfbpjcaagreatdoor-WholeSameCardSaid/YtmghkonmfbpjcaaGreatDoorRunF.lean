/- RunF. -/
import Derived.Test.YtmghkonmfbpjcaaGreatDoorGM
import Derived.Shelf.SlSortCmp.NoneTotal
import Derived.Test.YtmghkonmfbpjcaaGreatDoorGA
set_option linter.unusedVariables false
set_option linter.unusedSimpArgs false
namespace Go.Proofs.YtmghkonmfbpjcaaGreatDoor
section
open Go.RowKit
open Go.Shelf Go.Lib Go.Sort
set_option maxHeartbeats 4000000
def sortF_ren : Go.Shelf.Ren := ⟨fun | 6 => 29 | 15 => 71 | 14 => 70 | 28 => 124 | 29 => 125 | 20 => 116 | 21 => 117 | 22 => 118 | 23 => 119 | 24 => 120 | 25 => 121 | 26 => 122 | 27 => 123 | 46 => 149 | 47 => 150 | 48 => 151 | 49 => 152 | 50 => 153 | 57 => 175 | n => n, fun | 22 => 31 | 24 => 66 | 25 => 69 | 3 => 3 | 39 => 127 | 0 => 0 | 53 => 174 | 55 => 158 | 4 => 4 | 46 => 168 | 45 => 167 | 50 => 165 | 5 => 5 | 9 => 9 | 66 => 198 | 70 => 85 | 76 => 218 | 77 => 219 | n => n, fun | n => n⟩
theorem sortF : Go.Proofs.SlLaysF0.n6 Tryz.prog sortF_ren := {
 mixed := by kernel_rfl
 f6 := ⟨Tryz.f29.name, by decide, Tryz.func29.trans (congrArg some (by kernel_rfl))⟩
 f14 := ⟨Tryz.f70.name, by decide, Tryz.func70.trans (congrArg some (by kernel_rfl))⟩
 f15 := Tryz.func71.trans (congrArg some (by kernel_rfl))
 f20 := ⟨Tryz.f116.name, by decide, Tryz.func116.trans (congrArg some (by kernel_rfl))⟩
 f21 := ⟨Tryz.f117.name, by decide, Tryz.func117.trans (congrArg some (by kernel_rfl))⟩
 f22 := ⟨Tryz.f118.name, by decide, Tryz.func118.trans (congrArg some (by kernel_rfl))⟩
 f23 := ⟨Tryz.f119.name, by decide, Tryz.func119.trans (congrArg some (by kernel_rfl))⟩
 f24 := ⟨Tryz.f120.name, by decide, Tryz.func120.trans (congrArg some (by kernel_rfl))⟩
 f25 := ⟨Tryz.f121.name, by decide, Tryz.func121.trans (congrArg some (by kernel_rfl))⟩
 f26 := ⟨Tryz.f122.name, by decide, Tryz.func122.trans (congrArg some (by kernel_rfl))⟩
 f27 := ⟨Tryz.f123.name, by decide, Tryz.func123.trans (congrArg some (by kernel_rfl))⟩
 f28 := Tryz.func124.trans (congrArg some (by kernel_rfl))
 f29 := Tryz.func125.trans (congrArg some (by kernel_rfl))
 f46 := ⟨Tryz.f149.name, by decide, Tryz.func149.trans (congrArg some (by kernel_rfl))⟩
 f47 := Tryz.func150.trans (congrArg some (by kernel_rfl))
 f48 := Tryz.func151.trans (congrArg some (by kernel_rfl))
 f49 := ⟨Tryz.f152.name, by decide, Tryz.func152.trans (congrArg some (by kernel_rfl))⟩
 f50 := ⟨Tryz.f153.name, by decide, Tryz.func153.trans (congrArg some (by kernel_rfl))⟩
 f57 := ⟨Tryz.f175.name, by decide, Tryz.func175.trans (congrArg some (by kernel_rfl))⟩
 t0 := Tryz.underlying0
 a0 := Tryz.isAgg0
 z0 := Tryz.sizeOf0
 v0 := Tryz.zeroValue0
 t3 := Tryz.underlying3
 a3 := Tryz.isAgg3
 z3 := Tryz.sizeOf3
 v3 := Tryz.zeroValue3
 t4 := Tryz.underlying4
 a4 := Tryz.isAgg4
 z4 := Tryz.sizeOf4
 v4 := Tryz.zeroValue4
 t5 := Tryz.underlying5
 a5 := Tryz.isAgg5
 z5 := Tryz.sizeOf5
 v5 := Tryz.zeroValue5
 t9 := Tryz.underlying9
 a9 := Tryz.isAgg9
 z9 := Tryz.sizeOf9
 v9 := Tryz.zeroValue9
 t22 := Tryz.underlying31
 a22 := Tryz.isAgg31
 z22 := Tryz.sizeOf31
 v22 := Tryz.zeroValue31
 t25 := Tryz.underlying69
 a25 := Tryz.isAgg69
 z25 := Tryz.sizeOf69
 v25 := Tryz.zeroValue69
 t39 := Tryz.underlying127
 a39 := Tryz.isAgg127
 z39 := Tryz.sizeOf127
 v39 := Tryz.zeroValue127
 t45 := Tryz.underlying167
 a45 := Tryz.isAgg167
 z45 := Tryz.sizeOf167
 v45 := Tryz.zeroValue167
 t46 := Tryz.underlying168
 a46 := Tryz.isAgg168
 z46 := Tryz.sizeOf168
 v46 := Tryz.zeroValue168
 t50 := Tryz.underlying165
 a50 := Tryz.isAgg165
 z50 := Tryz.sizeOf165
 v50 := Tryz.zeroValue165
 t53 := Tryz.underlying174
 a53 := Tryz.isAgg174
 z53 := Tryz.sizeOf174
 v53 := Tryz.zeroValue174
 t55 := Tryz.underlying158
 a55 := Tryz.isAgg158
 z55 := Tryz.sizeOf158
 v55 := Tryz.zeroValue158
 t66 := Tryz.underlying198
 a66 := Tryz.isAgg198
 z66 := Tryz.sizeOf198
 v66 := Tryz.zeroValue198
 t70 := Tryz.underlying85
 a70 := Tryz.isAgg85
 z70 := Tryz.sizeOf85
 v70 := Tryz.zeroValue85
 t76 := Tryz.underlying218
 a76 := Tryz.isAgg218
 z76 := Tryz.sizeOf218
 v76 := Tryz.zeroValue218
 t77 := Tryz.underlying219
 a77 := Tryz.isAgg219
 z77 := Tryz.sizeOf219
 v77 := Tryz.zeroValue219 }
theorem cells_get! (cs : List Ct) (k : Nat) (hk : k < cs.length * 4) : (flatK Ct.cells 4 cs.toArray)[k]! = ((ccells cs)[k]?).getD (.bool false) := by (
 rw [get_flatK _ _ _ _ (by simpa using hk)]
 have h4 : k % 4 < 4 := Nat.mod_lt _ (by omega)
 have hd : k / 4 < cs.length := by omega
 have hg := ccells_get cs (k / 4) (k % 4) h4
 rw [show k / 4 * 4 + k % 4 = k by omega, List.getElem?_eq_getElem hd, Option.bind_some] at hg
 rw [hg]
 rw [getElem!_pos _ (k / 4) (by simpa using hd)]
 simp only [List.getElem_toArray]
 rw [getElem!_pos _ (k % 4) (by rw [Ct.cells_len]; exact h4), List.getElem?_eq_getElem (by rw [Ct.cells_len]; exact h4)]
 rfl)
theorem asc_of_sorted {d : Array Ct} {cs : List Ct} (hs : SortedIn (ltOf fun x y : Ct => cmpT x.1 y.1) 0 d.size d) (hn : (d.toList.map Prod.fst).Nodup) : Asc d.toList := by (
 unfold Asc
 rw [List.pairwise_iff_getElem]
 intro i j hi hj hij
 have hi2 : i < d.size := by simpa using hi
 have hj2 : j < d.size := by simpa using hj
 have h := hs i j (Nat.zero_le _) hij hj2
 unfold ltOf at h
 rw [cmpT_lt, getElem!_pos d j hj2, getElem!_pos d i hi2] at h
 have hne : (d[i]).1 ≠ (d[j]).1 := by (
 have := List.pairwise_iff_getElem.1 hn i j (by simpa using hi) (by simpa using hj) hij
 simpa using this)
 simp only [Array.getElem_toList]
 exact (ltT_total hne).resolve_right (by rw [h]; simp))
theorem SortFunc_any {B g cap : Nat} {e : TypeId} {cs : List Ct} {w : World} (hr : CRow w B e (.slice (some ⟨g, 0, none⟩) cs.length cap) cs) (hl : cs.length < 4611686018427387904) (hn : (cs.map Prod.fst).Nodup) :
 Calls Tryz.prog 29 #[.slice (some ⟨g, 0, none⟩) cs.length cap, .func (.func 30) #[] #[]] w fun en w' => en = .returned (.tuple #[]) ∧ ∃ ds : List Ct, ds.Perm cs ∧ Asc ds ∧ CRow w' B e (.slice (some ⟨g, 0, none⟩) cs.length cap) ds ∧ w.grownBy w' (some g) := by (
 rcases hr.open with ⟨hv, _⟩ | ⟨g', cap', cur, hv, hb, hh, h1, h2, h3, hc⟩
 · cases hv
 injection hv with hA hn' hcp
 injection hA with hA
 injection hA with hg _
 subst hg hcp
 have hlt : g < w.heap.size := lt_of_heap hh
 have eg : ∀ args w, (callFunc 30 args).run Tryz.prog w = .ok (.enter 30 args) w := enters_of Tryz.func30 (by kernel_rfl) rfl
 have hH : HoldsK Ct.cells 4 w g 0 cs.toArray := fun j hj => by (
 have hj4 : j < cs.length * 4 := by simpa using hj
 have hcj := hc j hj4
 have hjl : j < (ccells cs).length := by rw [ccells_len]; exact hj4
 rw [Nat.zero_add]
 refine ⟨?_, by simp [World.frozen?, hh]⟩
 rw [cells_get! cs j hj4, List.getElem?_eq_getElem hjl]
 simp only [World.cell?, hh, hcj, List.getElem?_eq_getElem hjl]
 simp)
 have hcon := AnyQ.slices_SortFunc sortF 4 Tryz.isAgg66 Tryz.sizeOf66 Ct.cells Ct.cells_len (fun x v hv => by simp [Ct.cells] at hv; rcases hv with rfl | rfl | rfl | rfl <;> rfl) (fun x y : Ct => cmpT x.1 y.1) swo_run 30 #[] g 0 cap cs.toArray w eg (cmpLays_run g 0 cs.toArray.size w) hH hlt (by simpa using hl)
 change Calls Tryz.prog 29 _ _ _ at hcon
 simp only [List.size_toArray] at hcon
 refine hcon.mono ?_
 rintro en w' ⟨rfl, d', n, os, hp, hs, rfl⟩
 obtain ⟨hsz, _, hperm⟩ := hp
 have hsz' : d'.size = cs.length := by simpa using hsz
 have hperm' : d'.toList.Perm cs := by (
 have h0 : (d'.extract 0 cs.length) = d' := by rw [← hsz']; simp
 rw [h0] at hperm
 simpa using hperm)
 have hnd : (d'.toList.map Prod.fst).Nodup := (hperm'.map Prod.fst).nodup_iff.2 hn
 have hhw : (sortWorldK Ct.cells 4 w g 0 n d' os).heap[g]? = some (.cells (putCells id 0 (flatK Ct.cells 4 d') cur) e (0, 0)) := by (
 unfold sortWorldK grow putRowK putRow mapBlock Go.Sort.ahead
 simp only
 rw [Array.getElem?_append_left (by simpa using hlt), Array.getElem?_modify]
 simp [hh, onCells])
 refine ⟨rfl, d'.toList, hperm', asc_of_sorted (cs := cs) (by rw [hsz']; simpa using hs) hnd, ?_, ?_⟩
 · (
 have hq := CRow.close (w := sortWorldK Ct.cells 4 w g 0 n d' os) (base := B) (e := e) (g := g) (cap := cap) (l := d'.toList) hb hhw (by simpa [hsz'] using h1) h2 (by simpa [putCells] using h3) (fun k hk => ?_)
 · (
 have hle : d'.toList.length = cs.length := by simpa using hsz'
 rw [hle] at hq
 exact hq)
 · (
 have hk' : k < d'.size * 4 := by simpa using hk
 have hkc : k < cur.size := by omega
 unfold putCells
 rw [Array.getElem?_mapIdx, Array.getElem?_eq_getElem hkc, Option.map_some, if_pos ⟨Nat.zero_le _, by simpa using hk'⟩]
 have := cells_get! d'.toList k hk
 rw [Array.toArray_toList] at this
 rw [Nat.sub_zero, this]
 have hjl : k < (ccells d'.toList).length := by rw [ccells_len]; exact hk
 rw [List.getElem?_eq_getElem hjl]
 rfl))
 · (
 refine ⟨rfl, rfl, rfl, ?_, fun k hk hne => ?_⟩
 · (
 unfold sortWorldK grow putRowK putRow mapBlock Go.Sort.ahead
 simp)
 · (
 unfold sortWorldK grow putRowK putRow mapBlock Go.Sort.ahead
 simp only
 rw [Array.getElem?_append_left (by simpa using hk), Array.getElem?_modify, if_neg (fun e => hne (by rw [e]))])))
theorem SortFunc_row {B : Nat} {e : TypeId} {v : Value} {cs : List Ct} {w : World} (hr : CRow w B e v cs) (hl : cs.length < 4611686018427387904) (hn : (cs.map Prod.fst).Nodup) :
 Calls Tryz.prog 29 #[v, .func (.func 30) #[] #[]] w fun en w' => en = .returned (.tuple #[]) ∧ ∃ ds : List Ct, ds.Perm cs ∧ Asc ds ∧ CRow w' B e v ds ∧ w.grownBy w' v.ownBlock := by (
 rcases hr.open with ⟨rfl, rfl⟩ | ⟨g, cap, cur, rfl, _⟩
 · (
 refine (AnyF.slices_SortFunc_none (P := Tryz.prog) (ρ := sortF_ren) sortF none 0 (.func (.func 30) #[] #[]) w).mono ?_
 rintro en w' ⟨rfl, rfl⟩
 exact ⟨rfl, [], List.Perm.refl _, List.Pairwise.nil, hr, World.grownBy.refl _ _⟩)
 · exact SortFunc_any hr hl hn)
end
end Go.Proofs.YtmghkonmfbpjcaaGreatDoor
