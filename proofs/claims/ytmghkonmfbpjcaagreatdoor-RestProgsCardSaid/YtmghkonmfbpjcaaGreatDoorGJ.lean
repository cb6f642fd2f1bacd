/- Parts. -/
import Derived.Test.YtmghkonmfbpjcaaGreatDoorGI
import Derived.Shelf.Small.Wraps
import Derived.Shelf.Strconv.Itoa3
import Derived.Shelf.Strconv.ErrVarAll
import Derived.Shelf.Strings.Shaped
import Derived.Shelf.Strings.SplitShaped
import Derived.Shelf.Strings.Explode
import Derived.Shelf.Unicode.DecodeSlow
import Derived.Lib.AppendIntMem
set_option linter.unusedVariables false
set_option linter.unusedSimpArgs false
set_option maxRecDepth 100000
set_option maxHeartbeats 16000000
namespace Go.Proofs.YtmghkonmfbpjcaaGreatDoor
open Go.Proofs.Tryz
section
open Go.RowKit
open Go.Lib
theorem yT (c : UInt8) (m : Nat) : ∀ (p : List (List UInt8)), (∀ x ∈ p, x.length ≤ m) → (fD c p).length ≤ p.length * (m + 1)
 | [], _ => by simp [fD]
 | [x], h => by
  have := h x Zf
  show x.length ≤ _
  simp
  omega
 | x :: y :: r, h => by
  have h0 := h x Zf
  have ih := yT c m (y :: r) fun z hz => h z (by simp [hz])
  show (x ++ c :: fD c (y :: r)).length ≤ _
  simp only [Vu, List.length_cons] at ih ⊢
  have : (r.length + 1 + 1) * (m + 1) = (r.length + 1) * (m + 1) + (m + 1) := Nat.succ_mul _ _
  omega
theorem qT (op : Int) : (cD op).length ≤ 4 := by
 unfold cD
 repeat' split
 all_goals simp
theorem wE {α β : Type} (f : α → List β) (m : Nat) : ∀ (l : List α), (∀ x ∈ l, (f x).length ≤ m) → (l.flatMap f).length ≤ l.length * m
 | [], _ => by simp
 | x :: l, h => by
  have h0 := h x Zf
  have ih := wE f m l fun z hz => h z (by simp [hz])
  rw [List.flatMap_cons, Vu, List.length_cons, Nat.succ_mul]
  omega
theorem bER (n : Nd) : (iK n).length ≤ 9 := by
 have := wE (eJ n) 2 (cD n.op) fun p _ => by unfold eJ; split <;> simp
 have := qT n.op
 simp only [iK, List.length_cons]
 omega
theorem bKF {n : Nd} (fit : ∀ i, i < 6 → eR (n.fld i)) : ∀ x ∈ iK n, x.length ≤ 21 := by
 intro x hx
 rcases List.mem_cons.1 hx with e | e
 ·rw [e]
  have := zP n.op
  omega
 ·obtain ⟨p, hp, hx⟩ := List.mem_flatMap.1 e
  have hw := gL n.op p hp
  unfold eJ at hx
  rcases List.mem_append.1 hx with e | e
  ·rcases hw.1 with h | h | h
   ·rw [if_pos h] at e; cases e
   ·rw [h] at e
    have : x = toW := by simpa [toW] using e
    rw [this]; decide
   ·rw [h] at e
    have : x = elseW := by simpa [elseW] using e
    rw [this]; decide
  ·have : x = itoa (n.fld p.2) := by simpa using e
   rw [this]
   exact itoa_length_le _ (fit p.2 hw.2.2).1 (fit p.2 hw.2.2).2
theorem yP {n : Nd} (fit : ∀ i, i < 6 → eR (n.fld i)) : (gC n).length ≤ 198 := by
 have := yT 32 21 (iK n) (bKF fit)
 have := bER n
 unfold gC
 omega
theorem bJD {n : Nd} (fit : ∀ i, i < 6 → eR (n.fld i)) : (jZ n).length ≤ 199 := by
 have := yP fit
 simp only [jZ, Vu, Vz]
 omega
theorem bFR {l : List Nd} (fit : ∀ n ∈ l, ∀ i, i < 6 → eR (n.fld i)) : (cV l).length ≤ l.length * 199 := wE jZ 199 l fun n hn => bJD (fit n hn)
theorem bCL {l : List Nd} {k : Nat} {n : Nd} (h : l[k]? = some n) : cV (l.take (k + 1)) = cV (l.take k) ++ jZ n := by
 rw [List.take_add_one, h]
 simp [cV]
theorem bEZ {regs : Int} {l : List Nd} {k : Nat} {n : Nd} (h : l[k]? = some n) : cY regs (l.take (k + 1)) = cY regs (l.take k) ++ jZ n := by
 unfold cY
 rw [bCL h]
 simp
theorem sO {regs : Int} {l : List Nd} (hr : eR regs) (fit : ∀ n ∈ l, ∀ i, i < 6 → eR (n.fld i)) : (cY regs l).length ≤ 27 + l.length * 199 := by
 have := itoa_length_le regs hr.1 hr.2
 have := bFR fit
 simp only [cY, tV, Vu, List.length_cons, List.length_nil]
 omega
end
section
open Go.RowKit
open Go.Lib
theorem yQ (w : World) : Calls prog 61 #[] w fun e w' => e = .returned (.agg vR) ∧ Below w.heap.size w w' := by
 go_enter func61, ntmps61
 go_wp2_with fail
 exact bodyPost_ret (v := .agg vR) (by simp [results, results61, go_sem, vR]) rfl ⟨rfl, Ye⟩
def sR (g : Nat) (op : Int) : List Value := (cD op).flatMap fun p => [eH p.1, .pointer (some ⟨g, p.2, none⟩)]
def tH (B g : Nat) (op : Int) (w : World) (e : Ending) (w' : World) : Prop :=
 ∃ q : Nat, e = .returned (.slice (some ⟨q, 0, none⟩) (cD op).length (cD op).length) ∧ B ≤ q ∧ Blk w' q 114 (sR g op).toArray ∧ Below B w w'
theorem yJ (g k : Nat) (d a b t e : Int) (w : World) (hP : Blk w g 44 #[.int .i64 (k : Int), .int .i64 d, .int .i64 a, .int .i64 b, .int .i64 t, .int .i64 e]) (hk : k < 13) :
  Calls prog 62 #[.pointer (some ⟨g, 0, none⟩)] w (tH w.heap.size g (k : Int) w) := by
 have lg := hP.lt
 go_enter func62, ntmps62
 go_wp2_with fail
 go_upto_region 1 with fail
 go_cut [3, 4, 5, 6] (fun s3 s4 s5 s6 wx => ∃ g3 g4 g5 g6 : Nat, s3 = .pointer (some ⟨g3, 0, none⟩) ∧ s4 = .pointer (some ⟨g4, 0, none⟩) ∧ s5 = .pointer (some ⟨g5, 0, none⟩) ∧ s6 = .pointer (some ⟨g6, 0, none⟩)
  ∧ Blk wx g3 114 #[.string ⟨#[]⟩, .pointer (some ⟨g, 1, none⟩)] ∧ Blk wx g4 114 #[.string ⟨#[]⟩, .pointer (some ⟨g, 2, none⟩)] ∧ Blk wx g5 114 #[.string ⟨#[]⟩, .pointer (some ⟨g, 3, none⟩)] ∧ Blk wx g6 114 #[.string ⟨#[116, 111]⟩, .pointer (some ⟨g, 4, none⟩)] ∧ Below w.heap.size w wx)
 case first =>
  clear hP hk
  go_region
  all_goals (go_wp2_with fail)
  all_goals go_meet
  all_goals exact ⟨_, _, _, _, rfl, rfl, rfl, rfl, Yf, Yf, Yf, Yf, Ye⟩
 case rest =>
  obtain ⟨g3, g4, g5, g6, rfl, rfl, rfl, rfl, h3, h4, h5, h6, hB⟩ := hcut
  have hN := hP.below hB lg
  clear hP
  have c0 := hN.cell 0
  have a0 := h3.cell 0
  have a1 := h3.cell 1
  have b0 := h4.cell 0
  have b1 := h4.cell 1
  have d0 := h5.cell 0
  have d1 := h5.cell 1
  have e0 := h6.cell 0
  have e1 := h6.cell 1
  have hz := hB.size
  simp only [Yl] at c0 a0 a1 b0 b1 d0 d1 e0 e1
  clear hN h3 h4 h5 h6
  have hkk : k = 0 ∨ k = 1 ∨ k = 2 ∨ k = 3 ∨ k = 4 ∨ k = 5 ∨ k = 6 ∨ k = 7 ∨ k = 8 ∨ k = 9 ∨ k = 10 ∨ k = 11 ∨ k = 12 := Zb
  clear hk
  rcases hkk with rfl | rfl | rfl | rfl | rfl | rfl | rfl | rfl | rfl | rfl | rfl | rfl | rfl
  all_goals (go_wp2_with fail)
  all_goals (try (go_region; go_wp2_with fail))
  all_goals go_ret
  all_goals exact ⟨wc.heap.size, rfl, hz, (by first | exact Blk.new _ _ _ | exact (Blk.new wc _ _).drew | exact Blk.new wc.drew _ _), (by first | exact hB.alloc hz _ | exact Ye)⟩
end
section
open Go.Shelf
def Tryz.lays169_ren : Go.Shelf.Ren := ⟨fun | 169 => 64 | n => n, fun | 70 => 100 | 9 => 9 | 0 => 0 | 72 => 103 | 37 => 101 | 127 => 161 | 3 => 3 | 5 => 5 | n => n, fun | n => n⟩
theorem Tryz.lays169 : Go.Proofs.Lays.n169 prog Tryz.lays169_ren := {
 mixed := Zc
 f169 := func64.trans (congrArg some Zc)
 t0 := underlying0
 a0 := isAgg0
 z0 := sizeOf0
 v0 := zeroValue0
 t3 := underlying3
 a3 := isAgg3
 z3 := sizeOf3
 v3 := zeroValue3
 t9 := underlying9
 a9 := isAgg9
 z9 := sizeOf9
 v9 := zeroValue9
 t37 := underlying101
 a37 := isAgg101
 z37 := sizeOf101
 v37 := zeroValue101
 t70 := underlying100
 a70 := isAgg100
 z70 := sizeOf100
 v70 := zeroValue100
 t72 := underlying103
 a72 := isAgg103
 z72 := sizeOf103
 v72 := zeroValue103
 t127 := underlying161
 a127 := isAgg161
 z127 := sizeOf161
 v127 := zeroValue161 }
theorem Tryz.Builder_Extra_169 : Builder.Extra prog Tryz.lays169_ren := {
 sizeBuilder := Zc
 liesBuilder := Zc
 t5 := underlying5
 a5 := isAgg5
 z5 := sizeOf5
 v5 := zeroValue5
 infoByte := Zc
 cellsByte := Zc
 sizeByte := Zc
 neB5 := by decide }
def Tryz.lays103_ren : Go.Shelf.Ren := ⟨fun | 103 => 66 | 210 => 111 | 206 => 142 | n => n, fun | 9 => 9 | 4 => 4 | 24 => 120 | 3 => 3 | n => n, fun | n => n⟩
theorem Tryz.lays103 : Go.Proofs.Lays.n103 prog Tryz.lays103_ren := {
 mixed := Zc
 f103 := func66.trans (congrArg some Zc)
 f206 := func142.trans (congrArg some Zc)
 f210 := func111.trans (congrArg some Zc)
 t3 := underlying3
 a3 := isAgg3
 z3 := sizeOf3
 v3 := zeroValue3
 t4 := underlying4
 a4 := isAgg4
 z4 := sizeOf4
 v4 := zeroValue4
 t9 := underlying9
 a9 := isAgg9
 z9 := sizeOf9
 v9 := zeroValue9
 t24 := underlying120
 a24 := isAgg120
 z24 := sizeOf120
 v24 := zeroValue120 }
open Go.RowKit in
theorem Tryz.strings_CutPrefix (s p : ByteArray) (w : World) :
  Calls prog 66 #[.string s, .string p] w fun e w' => e = .returned (.tuple #[.string ⟨(Lib.trimPrefix s.data.toList p.data.toList).toArray⟩, .bool (Lib.hasPrefix s.data.toList p.data.toList)]) ∧ w' = w := Any.strings_CutPrefix Tryz.lays103 s p w
open Go.RowKit in
theorem Tryz.Builder_String_any_k (B b : Nat) (l : List UInt8) (w : World) (h : Lib.IsBuilderF 103 5 B b (Lib.byteCells l) w) (hBw : B ≤ w.heap.size) :
  Calls prog 64 #[.pointer (some ⟨b, 0, none⟩)] w fun e w' => e = .returned (.string ⟨l.toArray⟩) ∧ (Lib.IsBuilderF 103 5 B b (Lib.byteCells l) w' ∧ Below B w w' ∧ Lib.OthersKept 5 (some b) w w') := Any.Builder_String_any_k Tryz.lays169 Tryz.Builder_Extra_169 B b l w h hBw
def Tryz.laysM171_ren : Go.Shelf.Ren := ⟨fun | 171 => 60 | 243 => 109 | 246 => 140 | 283 => 161 | 284 => 162 | 285 => 163 | 286 => 164 | 129 => 125 | 317 => 177 | 318 => 178 | 319 => 179 | 320 => 180 | 337 => 188 | 338 => 189 | n => n, fun | 3 => 3 | 9 => 9 | 2 => 2 | 4 => 4 | 171 => 206 | 0 => 0 | 53 => 158 | 37 => 101 | 5 => 5 | 173 => 208 | 212 => 223 | 51 => 174 | 20 => 20 | 213 => 224 | 46 => 127 | 232 => 235 | 233 => 236 | n => n, fun | 17 => 3 | 18 => 4 | 19 => 5 | n => n⟩
theorem Tryz.laysM171 : Go.Proofs.LaysM.n171 prog Tryz.laysM171_ren := {
 mixed := Zc
 f129 := func125.trans (congrArg some Zc)
 f171 := func60.trans (congrArg some Zc)
 f243 := func109.trans (congrArg some Zc)
 f246 := func140.trans (congrArg some Zc)
 f283 := func161.trans (congrArg some Zc)
 f284 := func162.trans (congrArg some Zc)
 f285 := func163.trans (congrArg some Zc)
 f286 := func164.trans (congrArg some Zc)
 f317 := func177.trans (congrArg some Zc)
 f318 := func178.trans (congrArg some Zc)
 f319 := func179.trans (congrArg some Zc)
 f320 := func180.trans (congrArg some Zc)
 f337 := func188.trans (congrArg some Zc)
 f338 := func189.trans (congrArg some Zc)
 t0 := underlying0
 a0 := isAgg0
 z0 := sizeOf0
 v0 := zeroValue0
 t2 := underlying2
 a2 := isAgg2
 z2 := sizeOf2
 v2 := zeroValue2
 t3 := underlying3
 a3 := isAgg3
 z3 := sizeOf3
 v3 := zeroValue3
 t4 := underlying4
 a4 := isAgg4
 z4 := sizeOf4
 v4 := zeroValue4
 t5 := underlying5
 a5 := isAgg5
 z5 := sizeOf5
 v5 := zeroValue5
 t9 := underlying9
 a9 := isAgg9
 z9 := sizeOf9
 v9 := zeroValue9
 t20 := underlying20
 a20 := isAgg20
 z20 := sizeOf20
 v20 := zeroValue20
 t37 := underlying101
 a37 := isAgg101
 z37 := sizeOf101
 v37 := zeroValue101
 t46 := underlying127
 a46 := isAgg127
 z46 := sizeOf127
 v46 := zeroValue127
 t51 := underlying174
 a51 := isAgg174
 z51 := sizeOf174
 v51 := zeroValue174
 t53 := underlying158
 a53 := isAgg158
 z53 := sizeOf158
 v53 := zeroValue158
 t171 := underlying206
 a171 := isAgg206
 z171 := sizeOf206
 v171 := zeroValue206
 t173 := underlying208
 a173 := isAgg208
 z173 := sizeOf208
 v173 := zeroValue208
 t212 := underlying223
 a212 := isAgg223
 z212 := sizeOf223
 v212 := zeroValue223
 t213 := underlying224
 a213 := isAgg224
 z213 := sizeOf224
 t232 := underlying235
 a232 := isAgg235
 z232 := sizeOf235
 v232 := zeroValue235
 t233 := underlying236
 a233 := isAgg236
 z233 := sizeOf236
 v233 := zeroValue236
 g17 := Zc
 g18 := Zc
 g19 := Zc
 i0 := Zc
 i2 := Zc
 i3 := Zc
 i4 := Zc
 i5 := Zc
 i9 := Zc
 i20 := Zc
 i37 := Zc
 i46 := Zc
 i51 := Zc
 i53 := Zc
 i171 := Zc
 i173 := Zc
 i212 := Zc
 i232 := Zc
 i233 := Zc
 m17 := Zc
 m18 := Zc
 m19 := by kernel_rfl }
open Go.RowKit Go.Sort Go.Lib in
theorem Tryz.strconv_Itoa (n : Int) (h0 : -9223372036854775808 ≤ n) (h1 : n ≤ 9223372036854775807) (w : World) (htab : Lib.TabIs prog w "internal/strconv.uint64pow10" .u64 Lib.pow10Tab) :
  Calls prog 60 #[.int .i64 n] w fun e w' => e = .returned (.string ⟨(Lib.itoa n).toArray⟩) ∧ ∃ k os, w' = grow (w.drewN k) os := Any.strconv_Itoa Tryz.laysM171 n h0 h1 w htab
def Tryz.laysC172_ren : Go.Shelf.Ren := ⟨fun | 172 => 67 | 244 => 112 | 245 => 113 | 247 => 143 | 279 => 144 | 280 => 145 | 281 => 146 | 282 => 147 | 287 => 169 | 316 => 170 | 171 => 60 | 205 => 171 | 321 => 183 | 322 => 184 | 243 => 109 | 246 => 140 | 283 => 161 | 284 => 162 | 285 => 163 | 286 => 164 | 129 => 125 | 317 => 177 | 318 => 178 | 319 => 179 | 320 => 180 | 337 => 188 | 338 => 189 | n => n, fun | 9 => 9 | 3 => 3 | 75 => 105 | 76 => 106 | 4 => 4 | 5 => 5 | 167 => 191 | 37 => 101 | 0 => 0 | 85 => 192 | 2 => 2 | 168 => 194 | 53 => 158 | 175 => 211 | 46 => 127 | 210 => 215 | 127 => 161 | 145 => 231 | 143 => 229 | 21 => 21 | 171 => 206 | 173 => 208 | 212 => 223 | 51 => 174 | 20 => 20 | 213 => 224 | 232 => 235 | 233 => 236 | 80 => 116 | n => n, fun | 15 => 1 | 16 => 2 | 17 => 3 | 18 => 4 | 19 => 5 | n => n⟩
theorem Tryz.laysC172 : Go.Proofs.LaysC.n172 prog Tryz.laysC172_ren := {
 mixed := Zc
 f129 := func125.trans (congrArg some Zc)
 f171 := func60.trans (congrArg some Zc)
 f172 := func67.trans (congrArg some Zc)
 f205 := func171.trans (congrArg some Zc)
 f243 := func109.trans (congrArg some Zc)
 f244 := func112.trans (congrArg some Zc)
 f245 := func113.trans (congrArg some Zc)
 f246 := func140.trans (congrArg some Zc)
 f247 := func143.trans (congrArg some Zc)
 f279 := func144.trans (congrArg some Zc)
 f280 := func145.trans (congrArg some Zc)
 f281 := func146.trans (congrArg some Zc)
 f282 := func147.trans (congrArg some Zc)
 f283 := func161.trans (congrArg some Zc)
 f284 := func162.trans (congrArg some Zc)
 f285 := func163.trans (congrArg some Zc)
 f286 := func164.trans (congrArg some Zc)
 f287 := func169.trans (congrArg some Zc)
 f316 := func170.trans (congrArg some Zc)
 f317 := func177.trans (congrArg some Zc)
 f318 := func178.trans (congrArg some Zc)
 f319 := func179.trans (congrArg some Zc)
 f320 := func180.trans (congrArg some Zc)
 f321 := func183.trans (congrArg some Zc)
 f322 := func184.trans (congrArg some Zc)
 f337 := func188.trans (congrArg some Zc)
 f338 := func189.trans (congrArg some Zc)
 t0 := underlying0
 a0 := isAgg0
 z0 := sizeOf0
 v0 := zeroValue0
 t2 := underlying2
 a2 := isAgg2
 z2 := sizeOf2
 v2 := zeroValue2
 t3 := underlying3
 a3 := isAgg3
 z3 := sizeOf3
 v3 := zeroValue3
 t4 := underlying4
 a4 := isAgg4
 z4 := sizeOf4
 v4 := zeroValue4
 t5 := underlying5
 a5 := isAgg5
 z5 := sizeOf5
 v5 := zeroValue5
 t9 := underlying9
 a9 := isAgg9
 z9 := sizeOf9
 v9 := zeroValue9
 t20 := underlying20
 a20 := isAgg20
 z20 := sizeOf20
 v20 := zeroValue20
 t21 := underlying21
 a21 := isAgg21
 z21 := sizeOf21
 v21 := zeroValue21
 t37 := underlying101
 a37 := isAgg101
 z37 := sizeOf101
 v37 := zeroValue101
 t46 := underlying127
 a46 := isAgg127
 z46 := sizeOf127
 v46 := zeroValue127
 t51 := underlying174
 a51 := isAgg174
 z51 := sizeOf174
 v51 := zeroValue174
 t53 := underlying158
 a53 := isAgg158
 z53 := sizeOf158
 v53 := zeroValue158
 t75 := underlying105
 a75 := isAgg105
 z75 := sizeOf105
 v75 := zeroValue105
 t76 := underlying106
 a76 := isAgg106
 z76 := sizeOf106
 v76 := zeroValue106
 t85 := underlying192
 a85 := isAgg192
 z85 := sizeOf192
 v85 := zeroValue192
 t127 := underlying161
 a127 := isAgg161
 z127 := sizeOf161
 v127 := zeroValue161
 t143 := underlying229
 a143 := isAgg229
 z143 := sizeOf229
 v143 := zeroValue229
 t145 := underlying231
 a145 := isAgg231
 z145 := sizeOf231
 v145 := zeroValue231
 t167 := underlying191
 a167 := isAgg191
 z167 := sizeOf191
 v167 := zeroValue191
 t168 := underlying194
 a168 := isAgg194
 z168 := sizeOf194
 v168 := zeroValue194
 t171 := underlying206
 a171 := isAgg206
 z171 := sizeOf206
 v171 := zeroValue206
 t173 := underlying208
 a173 := isAgg208
 z173 := sizeOf208
 v173 := zeroValue208
 t175 := underlying211
 a175 := isAgg211
 z175 := sizeOf211
 v175 := zeroValue211
 t210 := underlying215
 a210 := isAgg215
 z210 := sizeOf215
 v210 := zeroValue215
 t212 := underlying223
 a212 := isAgg223
 z212 := sizeOf223
 v212 := zeroValue223
 t213 := underlying224
 a213 := isAgg224
 z213 := sizeOf224
 t232 := underlying235
 a232 := isAgg235
 z232 := sizeOf235
 v232 := zeroValue235
 t233 := underlying236
 a233 := isAgg236
 z233 := sizeOf236
 v233 := zeroValue236
 g15 := Zc
 g16 := Zc
 g17 := Zc
 g18 := Zc
 g19 := Zc
 t80 := underlying116
 a80 := isAgg116
 z80 := sizeOf116
 v80 := zeroValue116
 i0 := Zc
 i2 := Zc
 i3 := Zc
 i4 := Zc
 i5 := Zc
 i9 := Zc
 i20 := Zc
 i21 := Zc
 i37 := Zc
 i46 := Zc
 i51 := Zc
 i53 := Zc
 i75 := Zc
 i76 := Zc
 i80 := Zc
 i85 := Zc
 i127 := Zc
 i143 := Zc
 i145 := Zc
 i167 := Zc
 i168 := Zc
 i171 := Zc
 i173 := Zc
 i175 := Zc
 i210 := Zc
 i212 := Zc
 i232 := Zc
 i233 := Zc
 m15 := Zc
 m16 := Zc
 m17 := Zc
 m18 := Zc
 m19 := Zc
 c0 := Zc
 c2 := Zc
 c3 := Zc
 c4 := Zc
 c5 := Zc
 c9 := Zc
 c20 := Zc
 c21 := Zc
 c37 := Zc
 c46 := Zc
 c51 := Zc
 c53 := Zc
 c75 := Zc
 c76 := Zc
 c80 := Zc
 c85 := Zc
 c127 := Zc
 c143 := Zc
 c145 := Zc
 c167 := Zc
 c168 := Zc
 c171 := Zc
 c173 := Zc
 c175 := Zc
 c210 := Zc
 c212 := Zc
 c213 := Zc
 c232 := Zc
 c233 := by kernel_rfl }
open Go.RowKit in
theorem Tryz.strconv_Atoi_ok (s : ByteArray) (hmax : s.size ≤ 9223372036854775806) (v : Int) (h : Lib.atoiAll s.data.toList = .ok v) (w : World) :
  Calls prog 67 #[.string s] w fun e w' => e = .returned (.tuple #[.int .i64 v, .nilIface]) ∧ (w' = w ∨ ∃ t, w' = Lib.bytesWorld w 5 t) := Any.strconv_Atoi_ok Tryz.laysC172 s hmax v h w
open Go.RowKit in
theorem Tryz.strconv_Atoi_range_var (s : ByteArray) (hlim : s.size ≤ 281474976710656) (h : Lib.atoiAll s.data.toList = .range) (tp : TypeId) (p : Value) (w : World) (hvar : w.var? prog "strconv.ErrRange" = some #[.iface tp p]) :
  Calls prog 67 #[.string s] w fun e w' => ∃ N, e = .returned (.tuple #[.int .i64 (Lib.atoiSat s.data.toList), .iface 194 (.pointer (some ⟨N, 0, none⟩))]) ∧ w.heap.size ≤ N ∧ w'.heap[N]? = some (.cells #[.string ⟨#[65, 116, 111, 105]⟩, .string s, .iface tp p] 215 (0, 0)) ∧ Below w.heap.size w w' := Any.strconv_Atoi_range_var Tryz.laysC172 s hlim h tp p w hvar
def Tryz.lays145_ren : Go.Shelf.Ren := ⟨fun | 145 => 65 | 220 => 110 | 219 => 141 | 217 => 165 | 225 => 166 | 224 => 167 | 267 => 168 | 266 => 181 | 314 => 182 | n => n, fun | 9 => 9 | 4 => 4 | 59 => 118 | 3 => 3 | 5 => 5 | 46 => 127 | 146 => 225 | 51 => 174 | n => n, fun | 1 => 0 | n => n⟩
theorem Tryz.lays145 : Go.Proofs.Lays.n145 prog Tryz.lays145_ren := {
 mixed := Zc
 f145 := func65.trans (congrArg some Zc)
 f217 := func165.trans (congrArg some Zc)
 f219 := func141.trans (congrArg some Zc)
 f220 := func110.trans (congrArg some Zc)
 f224 := func167.trans (congrArg some Zc)
 f225 := func166.trans (congrArg some Zc)
 f266 := func181.trans (congrArg some Zc)
 f267 := func168.trans (congrArg some Zc)
 f314 := func182.trans (congrArg some Zc)
 t3 := underlying3
 a3 := isAgg3
 z3 := sizeOf3
 v3 := zeroValue3
 t4 := underlying4
 a4 := isAgg4
 z4 := sizeOf4
 v4 := zeroValue4
 t5 := underlying5
 a5 := isAgg5
 z5 := sizeOf5
 v5 := zeroValue5
 t9 := underlying9
 a9 := isAgg9
 z9 := sizeOf9
 v9 := zeroValue9
 t46 := underlying127
 a46 := isAgg127
 z46 := sizeOf127
 v46 := zeroValue127
 t51 := underlying174
 a51 := isAgg174
 z51 := sizeOf174
 v51 := zeroValue174
 t59 := underlying118
 a59 := isAgg118
 z59 := sizeOf118
 v59 := zeroValue118
 t146 := underlying225
 a146 := isAgg225
 z146 := sizeOf225
 v146 := zeroValue225
 g1 := by kernel_rfl }
open Go.RowKit Go.Lib in
theorem Tryz.strings_Cut (s sep : ByteArray) (m : Int) (w : World) (hs : s.size < 4294967281) (hm : w.cell? ⟨0, 0, none⟩ = some (.int .i64 m)) :
  Calls prog 65 #[.string s, .string sep] w fun e w' => e = .returned (.tuple #[.string ⟨(Lib.cut s.data.toList sep.data.toList).1.toArray⟩, .string ⟨(Lib.cut s.data.toList sep.data.toList).2.1.toArray⟩, .bool (Lib.cut s.data.toList sep.data.toList).2.2]) ∧ ∃ n, w' = w.drewN n := Any.strings_Cut Tryz.lays145 s sep m w hs hm
def Tryz.lays146_ren : Go.Shelf.Ren := ⟨fun | 146 => 114 | 221 => 148 | 268 => 172 | 138 => 173 | 143 => 174 | 195 => 185 | 197 => 186 | 218 => 187 | 219 => 141 | 260 => 190 | 217 => 165 | 225 => 166 | 224 => 167 | 267 => 168 | 266 => 181 | 314 => 182 | n => n, fun | 9 => 9 | 31 => 163 | 3 => 3 | 4 => 4 | 0 => 0 | 105 => 233 | 21 => 21 | 5 => 5 | 46 => 127 | 119 => 237 | 139 => 240 | 138 => 239 | 146 => 225 | 51 => 174 | n => n, fun | 1 => 0 | 3 => 6 | 4 => 7 | n => n⟩
theorem Tryz.lays146 : Go.Proofs.Lays.n146 prog Tryz.lays146_ren := {
 mixed := Zc
 f138 := func173.trans (congrArg some Zc)
 f143 := func174.trans (congrArg some Zc)
 f146 := func114.trans (congrArg some Zc)
 f195 := func185.trans (congrArg some Zc)
 f197 := func186.trans (congrArg some Zc)
 f217 := func165.trans (congrArg some Zc)
 f218 := func187.trans (congrArg some Zc)
 f219 := func141.trans (congrArg some Zc)
 f221 := func148.trans (congrArg some Zc)
 f224 := func167.trans (congrArg some Zc)
 f225 := func166.trans (congrArg some Zc)
 f260 := func190.trans (congrArg some Zc)
 f266 := func181.trans (congrArg some Zc)
 f267 := func168.trans (congrArg some Zc)
 f268 := func172.trans (congrArg some Zc)
 f314 := func182.trans (congrArg some Zc)
 t0 := underlying0
 a0 := isAgg0
 z0 := sizeOf0
 v0 := zeroValue0
 t3 := underlying3
 a3 := isAgg3
 z3 := sizeOf3
 v3 := zeroValue3
 t4 := underlying4
 a4 := isAgg4
 z4 := sizeOf4
 v4 := zeroValue4
 t5 := underlying5
 a5 := isAgg5
 z5 := sizeOf5
 v5 := zeroValue5
 t9 := underlying9
 a9 := isAgg9
 z9 := sizeOf9
 v9 := zeroValue9
 t21 := underlying21
 a21 := isAgg21
 z21 := sizeOf21
 v21 := zeroValue21
 t31 := underlying163
 a31 := isAgg163
 z31 := sizeOf163
 v31 := zeroValue163
 t46 := underlying127
 a46 := isAgg127
 z46 := sizeOf127
 v46 := zeroValue127
 t51 := underlying174
 a51 := isAgg174
 z51 := sizeOf174
 v51 := zeroValue174
 t105 := underlying233
 a105 := isAgg233
 z105 := sizeOf233
 v105 := zeroValue233
 t119 := underlying237
 a119 := isAgg237
 z119 := sizeOf237
 t138 := underlying239
 a138 := isAgg239
 z138 := sizeOf239
 v138 := zeroValue239
 t139 := underlying240
 a139 := isAgg240
 z139 := sizeOf240
 v139 := zeroValue240
 t146 := underlying225
 a146 := isAgg225
 z146 := sizeOf225
 v146 := zeroValue225
 g1 := Zc
 g3 := Zc
 g4 := by kernel_rfl }
open Go.RowKit Go.Lib in
theorem Tryz.strings_Split (s sep : ByteArray) (m : Int) (w : World) (hs : s.size < 4294967281) (hm : w.cell? ⟨0, 0, none⟩ = some (.int .i64 m)) (h1 : 1 ≤ sep.size) :
  Calls prog 114 #[.string s, .string sep] w fun e w' =>
   e = .returned (.slice (some ⟨w.heap.size, 0, none⟩) (Lib.countB s sep + 1) (Lib.countB s sep + 1)) ∧ w' = w.alloc (.cells ((Lib.splitB sep 0 (Lib.countB s sep) s).map Value.string).toArray 9) := Any.strings_Split Tryz.lays146 Zc s sep m w hs hm h1
end
section
open Go.RowKit
open Go.Lib
theorem sI {n : String} {cs : Array Value} {w w' : World} (h : w.var? prog n = some cs) (hb : Below w.heap.size w w') : w'.var? prog n = some cs := by
 unfold World.var? at h ⊢
 cases hg : prog.globalNamed n with
 | none => rw [hg] at h; cases h
 | some g =>
  rw [hg] at h
  simp only [Option.bind_some] at h ⊢
  have hlt : g < w.heap.size := by
   rcases Nat.lt_or_ge g w.heap.size with h' | h'
   ·exact h'
   ·rw [Array.getElem?_eq_none h'] at h; cases h
  rw [hb.block g hlt]
  exact h
structure Tv (w : World) : Prop where
 tab : Lib.TabIs prog w "internal/strconv.uint64pow10" .u64 Lib.pow10Tab
 syn : ∃ tp p, w.var? prog "strconv.ErrSyntax" = some #[.iface tp p]
 rng : ∃ tp p, w.var? prog "strconv.ErrRange" = some #[.iface tp p]
 mx : ∃ m : Int, w.cell? ⟨0, 0, none⟩ = some (.int .i64 m)
theorem Tv.below {w w' : World} (h : Tv w) (hb : Below w.heap.size w w') : Tv w' := by
 obtain ⟨h1, ⟨t2, p2, h2⟩, ⟨t3, p3, h3⟩, ⟨m, h4⟩⟩ := h
 exact ⟨sI h1 hb, ⟨t2, p2, sI h2 hb⟩, ⟨t3, p3, sI h3 hb⟩, ⟨m, (hb.cell (World.block_lt_of_cell? w _ h4)).trans h4⟩⟩
theorem bAU (n : Int) (hn : eR n) (w : World) (hT : Tv w) : Calls prog 60 #[.int .i64 n] w fun e w' => e = .returned (eH (itoa n)) ∧ Below w.heap.size w w' := by
 refine (Tryz.strconv_Itoa n hn.1 hn.2 w hT.tab).mono ?_
 rintro e w' ⟨rfl, k, os, rfl⟩
 exact ⟨rfl, below_grow _ _ (Nat.le_refl _) _ _⟩
def Bd (B b : Nat) (l : List UInt8) (w : World) : Prop := Lib.IsBuilderF 103 5 B b (Lib.byteCells l) w
theorem oH {B b : Nat} {p : Value} {bs : List Value} {w w' : World} (h : Lib.BuilderAtF 103 5 B b p bs w) (hb : Below w.heap.size w w') : Lib.BuilderAtF 103 5 B b p bs w' := by
 have hlt := h.lt
 obtain ⟨hB, v, hk, hown, hne⟩ := h
 refine ⟨hB, v, (hb.block b hlt).trans hk, hown.kept (row := none) ⟨hb.os, hb.tape, hb.output, hb.size, fun k hk _ => hb.block k hk⟩ ?_, hne⟩
 cases h0 : v.ownBlock
 ·exact Jf
 ·exact .inr Zf
theorem Bd.below {B b : Nat} {l : List UInt8} {w w' : World} (h : Bd B b l w) (hb : Below w.heap.size w w') : Bd B b l w' :=
 h.elim (fun x => .inl (oH x hb)) (fun x => .inr (oH x hb))
theorem Bd.lt {B b : Nat} {l : List UInt8} {w : World} (h : Bd B b l w) : b < w.heap.size := h.elim (fun x => x.lt) (fun x => x.lt)
theorem Bd.alloc {B b : Nat} {l : List UInt8} {w : World} (h : Bd B b l w) (o : Obj) : Bd B b l (w.alloc o) := Lib.IsBuilderF.alloc h o
theorem Bd.drew {B b : Nat} {l : List UInt8} {w : World} (h : Bd B b l w) : Bd B b l w.drew := h.elim (fun x => .inl x.drew) (fun x => .inr x.drew)
theorem Bd.fresh (w : World) : Bd w.heap.size w.heap.size [] (w.alloc (.cells #[.pointer none, .slice none 0 0] 103)) := by
 refine .inl ⟨Nat.le_refl _, .slice none 0 0, (by have := Blk.new w 103 #[.pointer none, .slice none 0 0]; unfold Blk at this; exact this), World.ownsRowF_nil _ _ _ _, by simp [Value.ownBlock]⟩
theorem WrS (B b : Nat) (l s : List UInt8) (w : World) (h : Bd B b l w) (hlen : l.length + s.length ≤ 1000000) (hBw : B ≤ w.heap.size) :
  Calls prog 59 #[.pointer (some ⟨b, 0, none⟩), eH s] w fun e w' => e = .returned (.tuple #[.int .i64 s.length, .nilIface]) ∧ Bd B b (l ++ s) w' ∧ Below B w w' ∧ Lib.OthersKept 5 (some b) w w' := by
 refine (xQ B b (Lib.byteCells l) ⟨s.toArray⟩ w h (by rw [Lib.byteCells_length]; show _ + s.length ≤ _; omega) hBw).mono ?_
 rintro e w' ⟨rfl, h1, h2, h3⟩
 exact ⟨rfl, .inr (by rw [Lib.byteCells_append]; exact h1), h2, h3⟩
theorem WrB (B b : Nat) (l : List UInt8) (c : UInt8) (w : World) (h : Bd B b l w) (hlen : l.length + 1 ≤ 1000000) (hBw : B ≤ w.heap.size) :
  Calls prog 63 #[.pointer (some ⟨b, 0, none⟩), .int .u8 c.toNat] w fun e w' => e = .returned .nilIface ∧ Bd B b (l ++ [c]) w' ∧ Below B w w' ∧ Lib.OthersKept 5 (some b) w w' := by
 refine (bEC B b (Lib.byteCells l) c.toNat w h (by rw [Lib.byteCells_length]; omega) hBw).mono ?_
 rintro e w' ⟨rfl, h1, h2, h3⟩
 exact ⟨rfl, .inr (by rw [Lib.byteCells_append]; exact h1), h2, h3⟩
theorem BdStr (B b : Nat) (l : List UInt8) (w : World) (h : Bd B b l w) (hBw : B ≤ w.heap.size) :
  Calls prog 64 #[.pointer (some ⟨b, 0, none⟩)] w fun e w' => e = .returned (eH l) ∧ Below B w w' := by
 refine (Tryz.Builder_String_any_k B b l w h hBw).mono ?_
 rintro e w' ⟨rfl, _, h2, _⟩
 exact ⟨rfl, h2⟩
theorem Blk.others {g b : Nat} {t : TypeId} {cs : Array Value} {w w' : World} (h : Blk w g t cs) (hk : Lib.OthersKept 5 (some b) w w') (hne : g ≠ b) (ht : t ≠ 5) : Blk w' g t cs :=
 by
 unfold Blk at h ⊢
 exact hk g _ h (fun e => hne (Option.some.inj e)) (fun c fz e => ht (by injection e))
end
section
open Go.RowKit
open Go.Lib
theorem vU (c : UInt8) (x : List UInt8) : ∀ (ws : List (List UInt8)), fD c (x :: ws) = x ++ ws.flatMap fun y => c :: y
 | [] => by simp [fD]
 | y :: r => by
  show x ++ c :: fD c (y :: r) = _
  rw [vU c y r]
  simp
def qK (n : Nd) (p : List UInt8 × Nat) : List UInt8 := (if p.1 = [] then [] else 32 :: p.1) ++ 32 :: itoa (n.fld p.2)
theorem bCD (n : Nd) : gC n = opW n.op ++ (cD n.op).flatMap (qK n) := by
 unfold gC iK
 rw [vU, List.flatMap_assoc]
 congr 1
 congr 1
 funext p
 unfold eJ qK
 split <;> simp
theorem xL {α : Type} (f : α → List UInt8) (l : List α) (j : Nat) : ((l.take j).flatMap f).length ≤ (l.flatMap f).length := by
 conv => rhs; rw [← List.take_append_drop j l]
 rw [List.flatMap_append, Vu]
 omega
theorem wD {α : Type} (f : α → List UInt8) {l : List α} {j : Nat} {p : α} (h : l[j]? = some p) : (l.take (j + 1)).flatMap f = (l.take j).flatMap f ++ f p := by
 rw [List.take_add_one, h]
 simp
theorem sS {α : Type} (f g : α → Value) : ∀ (l : List α) (j : Nat) (p : α), l[j]? = some p → (l.flatMap fun p => [f p, g p])[j * 2]? = some (f p) ∧ (l.flatMap fun p => [f p, g p])[j * 2 + 1]? = some (g p)
 | [], j, p, h => by simp at h
 | x :: l, 0, p, h => by
  have : x = p := by simpa using h
  subst this
  simp
 | x :: l, j + 1, p, h => by
  have ih := sS f g l j p (by simpa using h)
  rw [show (j + 1) * 2 = j * 2 + 2 by omega]
  simpa using ih
theorem qB {regs : Int} {l : List Nd} (h : chk regs l = 0) : 1 ≤ l.length ∧ l.length ≤ 256 ∧ 1 ≤ regs ∧ regs ≤ 64 ∧ ∀ n ∈ l, 0 ≤ n.op ∧ n.op ≤ 12 := by
 unfold chk at h
 split at h
 ·omega
 ·rename_i h1
  split at h
  ·omega
  ·rename_i h2
   refine ⟨Zb, Zb, Zb, Zb, fun n hn => ?_⟩
   have : gH n.op = true := by
    cases ho : gH n.op
    ·exact absurd (List.any_eq_true.2 ⟨n, hn, by simp [ho]⟩) h2
    ·rfl
   simpa [gH, inB] using this
end
section
open Go.Lib
def Fit (l : List Nd) : Prop := ∀ n ∈ l, ∀ i, i < 6 → eR (n.fld i)
def pJ (s : List UInt8) : Prop := ∀ regs l, chk regs l = 0 → Fit l → s ≠ cY regs l
def bED (s : List UInt8) (regs : Int) (l : List Nd) (ok : Bool) : Prop := (ok = true ∧ chk regs l = 0 ∧ Fit l ∧ s = cY regs l) ∨ (ok = false ∧ regs = 0 ∧ l = [] ∧ pJ s)
theorem kE {regs : Int} {l : List Nd} (h : chk regs l = 0) (hf : Fit l) : ∀ n ∈ l, dW n := fun n hn => zN (bS h) n hn (hf n hn)
theorem bED.same {s : List UInt8} {r1 r2 : Int} {l1 l2 : List Nd} {k1 k2 : Bool} (h1 : bED s r1 l1 k1) (h2 : bED s r2 l2 k2) : k1 = k2 ∧ r1 = r2 ∧ l1 = l2 := by
 rcases h1 with ⟨a1, b1, c1, d1⟩ | ⟨a1, b1, c1, d1⟩ <;> rcases h2 with ⟨a2, b2, c2, d2⟩ | ⟨a2, b2, c2, d2⟩
 ·obtain ⟨e1, e2⟩ := bBM (kE b1 c1) (kE b2 c2) (d1.symm.trans d2)
  exact ⟨a1.trans a2.symm, e1, e2⟩
 ·exact absurd d1 (d2 _ _ b1 c1)
 ·exact absurd d2 (d1 _ _ b2 c2)
 ·exact ⟨a1.trans a2.symm, b1.trans b2.symm, c1.trans c2.symm⟩
end
section
def Ao (l : List Nd) : Prop := ∀ n ∈ l, n.op = 1 → eR n.a
section
variable {l m : List Nd}
theorem Ao.getD (h : Ao l) (k : Nat) : (l.getD k default).op = 1 → eR (l.getD k default).a := by
 rw [Vt]
 rcases hk : l[k]? with _ | n
 ·intro e; exact absurd e Ze
 ·exact h n (Vv hk)
theorem Ao.nd (h : Ao l) (k : Nat) : (nd l k).op = 1 → eR (nd l k).a := h.getD k
theorem Ao.app (h : Ao l) (h' : Ao m) : Ao (l ++ m) := fun n hn => (List.mem_append.1 hn).elim (h n) (h' n)
theorem Ao.one_ {x : Nd} (hx : x.op = 1 → eR x.a) : Ao [x] := fun n hn => by rw [List.mem_singleton.1 hn]; exact hx
theorem Ao.nil_ : Ao [] := fun n hn => by cases hn
theorem Ao.set_ (h : Ao l) (k : Nat) {x : Nd} (hx : x.op = 1 → eR x.a) : Ao (l.set k x) := fun n hn => (List.mem_or_eq_of_mem_set hn).elim (h n) fun e => by rw [e]; exact hx
theorem Ao.trimTo (h : Ao l) (x : List Bool) : ∀ k, Ao (dS x l k)
 | 0 => Ao.nil_
 | k + 1 => by
  unfold Proofs.YtmghkonmfbpjcaaGreatDoor.dS
  refine (Ao.trimTo h x k).app ?_
  split
  ·exact Ao.one_ (h.getD k)
  ·exact Ao.nil_
theorem Ao.trim (h : Ao l) : Ao (iL l) := h.trimTo _ _
theorem Ao.skips1 (n : Nd) : Ao (dJ l n) := by
 unfold Proofs.YtmghkonmfbpjcaaGreatDoor.dJ
 split
 ·exact Ao.one_ (fun e => absurd e (by simp [cJ]))
 ·exact Ao.nil_
theorem Ao.skips2 (n : Nd) : Ao (fT l n) := by
 unfold Proofs.YtmghkonmfbpjcaaGreatDoor.fT
 split
 ·exact Ao.one_ (fun e => absurd e (by simp [cJ]))
 ·exact Ao.nil_
theorem bBI {n : Nd} {N : Nat} (h : n.op = 1 → eR n.a) : (bY l n N).op = 1 → eR (bY l n N).a := by
 unfold bY
 split
 ·exact h
 ·exact h
theorem bLC {n x : Nd} {N : Nat} (h : x.op = 1 → eR x.a) : (dB l n x N).op = 1 → eR (dB l n x N).a := by
 unfold dB
 split
 ·exact h
 ·exact h
theorem Ao.splitTo (h : Ao l) : ∀ k, Ao (cH l k)
 | 0 => h
 | k + 1 => by
  have ih := Ao.splitTo h k
  show Ao (cR l k (l.getD k default) (Proofs.YtmghkonmfbpjcaaGreatDoor.cH l k))
  unfold cR
  split
  ·exact ih
  ·have h1 : Ao (fV l k (l.getD k default) (Proofs.YtmghkonmfbpjcaaGreatDoor.cH l k)) := (ih.set_ k (bBI (h.getD k))).app (Ao.skips1 _)
   exact (h1.set_ k (bLC (bBI (h.getD k)))).app (Ao.skips2 _)
theorem Ao.split (h : Ao l) : Ao (gA l) := h.splitTo _
theorem Ao.takeL (h : Ao l) (r : Int) (tk : List Bool) : Ao (kO r tk l) := fun n hn => by
 obtain ⟨k, _, rfl⟩ := List.mem_map.1 hn
 unfold iT
 split
 ·intro e; exact absurd e Zf
 ·exact h.nd k
theorem Ao.putTo {t : Tm} (ht : t.op ≠ 1) (r : Int) (pt : List Bool) (h : Ao l) : ∀ k, Ao (iX r t pt l k)
 | 0 => h
 | k + 1 => by
  have ih := Ao.putTo ht r pt h k
  unfold Proofs.YtmghkonmfbpjcaaGreatDoor.iX
  split
  ·exact (ih.app (Ao.one_ (ih.nd k))).set_ k (fun e => absurd e ht)
  ·exact ih
theorem Ao.apply {t : Tm} (ht : t.op ≠ 1) (h : Ao l) (r : Int) (pt tk : List Bool) : Ao (dE r t pt tk l) := Ao.putTo ht r pt (h.takeL r tk) _
theorem Ao.hushAt (h : Ao l) (i : Nat) : Ao (eM l i) := h.set_ i (fun e => absurd e (by simp [xK]))
theorem Ao.hushes (hh : eO l m) : Ao l → Ao m := by
 induction hh with
 | nil => exact id
 | one l l' i hd h ih => exact fun ha => ih (ha.hushAt i)
theorem Ao.one {regs : Int} {t : Tm} (ht : t.op ≠ 1) (h : Ao l) : Ao (oL regs l t) := by
 unfold oL
 split
 ·exact Ao.apply ht h.trim.split _ _ _
 ·exact h
theorem bOC {regs : Int} {t : Tm} (h : fU regs l t = 0) : t.op ≠ 1 := by
 have := bAD (vP h).1
 omega
theorem Ao.all : ∀ (ts : List Tm) {r : Int} {l : List Nd}, Ao l → (gK ts r l).1 = 0 → Ao (gK ts r l).2.2
 | [], r, l, h, _ => h
 | t :: ts, r, l, h, h1 => by
  unfold gK at h1 ⊢
  by_cases h0 : fU r l t = 0
  ·rw [if_neg (by simp [h0])] at h1 ⊢
   exact Ao.all ts (Ao.one (bOC h0) h) h1
  ·rw [if_pos h0] at h1
   exact absurd h1 h0
end
theorem iG.ao {n r : Int} {l : List Nd} {r' : Int} {l' : List Nd} (h : iG n r l 0 r' l') (hR : bN r l) (ha : Ao l) : Ao l' := by
 rcases h with ⟨_, ⟨_, h, _⟩ | ⟨h1, _, rfl, rfl⟩⟩ | ⟨_, ⟨h1, h2, _⟩ | ⟨h1, _, rfl, rfl⟩⟩ | ⟨_, _, rfl, h⟩ | ⟨_, _, rfl, rfl⟩
 ·cases h
 ·exact ha.split
 ·exact absurd h2.symm h1
 ·refine Ao.all _ ha ?_
  unfold mJ at h1
  rw [if_neg (by rw [hR.chk]; simp)] at h1
  exact h1
 ·exact Ao.hushes h.1 ha
 ·exact ha.trim
theorem Psq.ao {ns : List Int} {r : Int} {l : List Nd} {c r' : Int} {l' : List Nd} (h : Psq ns r l c r' l') : c = 0 → bN r l → Ao l → Ao l' := by
 induction h with
 | nil => exact fun _ _ h => h
 | bad h hc => exact fun e _ _ => absurd e hc
 | next h h2 ih => exact fun e hR ha => ih e (h.right hR) (h.ao hR ha)
theorem bQF {l : List Nd} (h : Fit l) : Ao l := fun n hn _ => h n hn 2 Zb
theorem bQE {r : Int} {l : List Nd} (hR : bN r l) (ha : Ao l) : Fit l := by
 intro n hn i hi
 have ho := hR.ok n hn
 have hb := hR.rng n hn
 have hf := hR.frm n hn
 have haa := ha n hn
 have h64 := hR.rhi
 have h256 := hR.hi
 have hop : 0 ≤ n.op ∧ n.op ≤ 12 := by simpa [gH, inB] using ho
 simp only [badF, V6, Bool.not_eq_false', okF, Bool.or_eq_true, beq_iff_eq] at hf
 obtain ⟨⟨⟨⟨b1, b2⟩, b3⟩, b4⟩, b5⟩ := hf
 have hcase : n.op = 0 ∨ n.op = 1 ∨ n.op = 2 ∨ n.op = 3 ∨ n.op = 4 ∨ n.op = 5 ∨ n.op = 6 ∨ n.op = 7 ∨ n.op = 8 ∨ n.op = 9 ∨ n.op = 10 ∨ n.op = 11 ∨ n.op = 12 := Zb
 rcases hcase with e | e | e | e | e | e | e | e | e | e | e | e | e <;>
  simp [e, jU, okR, okN, dI, dD, cF, fN, shT, gH, oD, inB] at b1 b2 b3 b4 b5 hb haa <;>
  (rcases i with _ | _ | _ | _ | _ | _ | i <;> simp only [Nd.fld] <;> first | exact haa | (refine ⟨?_, ?_⟩ <;> omega) | omega)
end
section
open Go.RowKit
open Go.Lib
theorem bCP {c : UInt8} : ∀ {s : List UInt8}, c ∉ s → Lib.index s [c] = -1
 | [], _ => by simp [Lib.index]
 | b :: l, h => by
  have hb : c ≠ b := fun e => h Xr
  have ih := bCP (s := l) (c := c) fun e => h (by simp [e])
  rw [Lib.index]
  simp [List.isPrefixOf, hb, ih]
theorem bGB {c : UInt8} {r : List UInt8} : ∀ {x : List UInt8}, c ∉ x → Lib.index (x ++ c :: r) [c] = x.length
 | [], _ => by rw [List.nil_append, Lib.index]; simp [List.isPrefixOf]
 | b :: l, h => by
  have hb : c ≠ b := fun e => h Xr
  have ih := bGB (x := l) (c := c) (r := r) fun e => h (by simp [e])
  rw [List.cons_append, Lib.index]
  simp only [List.isPrefixOf, ih]
  simp [hb]
theorem wM (c : UInt8) : ∀ (s : List UInt8), c ∈ s → ∃ x r, s = x ++ c :: r ∧ c ∉ x
 | [], h => by cases h
 | b :: l, h => by
  by_cases hb : b = c
  ·exact ⟨[], l, by rw [hb]; rfl, Zf⟩
  ·obtain ⟨x, r, h1, h2⟩ := wM c l ((List.mem_cons.1 h).resolve_left fun e => hb e.symm)
   exact ⟨b :: x, r, by rw [h1]; rfl, by simp [h2]; exact fun e => hb e.symm⟩
theorem bIK {c : UInt8} {x r : List UInt8} (h : c ∉ x) : iS c (x ++ c :: r) = x :: iS c r := by
 have hj : fD c (x :: iS c r) = x ++ c :: r := by
  unfold iS
  rw [bFW c x (rV c r []), jA]
  rfl
 rw [← hj]
 refine qS Zf fun y hy => ?_
 rcases List.mem_cons.1 hy with e | e
 ·rw [e]; exact h
 ·exact nO c r [] Zf y e
theorem bLD {c : UInt8} {s : List UInt8} (h : c ∉ s) : iS c s = [s] := by
 have := qS (c := c) (p := [s]) Zf (fun x hx => by rw [List.mem_singleton.1 hx]; exact h)
 exact this
theorem tO (c : UInt8) : ∀ (k : Nat) (s : List UInt8), s.count c = k → Lib.splitK [c] 0 k s = iS c s
 | 0, s, h => by
  rw [bLD (List.count_eq_zero.1 h)]
  rfl
 | k + 1, s, h => by
  obtain ⟨x, r, rfl, hx⟩ := wM c s (List.count_pos_iff.1 Zb)
  have hr : r.count c = k := by
   rw [List.count_append, List.count_eq_zero.2 hx, List.count_cons_self] at h
   omega
  rw [Lib.splitK, bGB hx, bIK hx, ← tO c k r hr]
  rw [if_neg Zf]
  simp
theorem bMW {c : UInt8} {s : List UInt8} (h : c ∉ s) : Lib.cut s [c] = (s, [], false) := by
 unfold Lib.cut
 rw [bCP h]
 rfl
theorem bQL {c : UInt8} {x r : List UInt8} (h : c ∉ x) : Lib.cut (x ++ c :: r) [c] = (x, r, true) := by
 unfold Lib.cut
 rw [bGB h, if_pos Zb]
 simp
theorem tQ (c : UInt8) (s : List UInt8) : Lib.splitB ⟨#[c]⟩ 0 (Lib.countB ⟨s.toArray⟩ ⟨#[c]⟩) ⟨s.toArray⟩ = (iS c s).map fun x => (⟨x.toArray⟩ : ByteArray) := by
 have h1 := Lib.splitB_data ⟨#[c]⟩ 0 (Lib.countB ⟨s.toArray⟩ ⟨#[c]⟩) ⟨s.toArray⟩
 have h2 : Lib.countB ⟨s.toArray⟩ ⟨#[c]⟩ = s.count c := Lib.count_one c s
 have h3 : Lib.splitK [c] 0 (Lib.countB ⟨s.toArray⟩ ⟨#[c]⟩) s = iS c s := tO c _ s h2.symm
 have h4 : (Lib.splitB ⟨#[c]⟩ 0 (Lib.countB ⟨s.toArray⟩ ⟨#[c]⟩) ⟨s.toArray⟩).map (fun b => b.data.toList) = iS c s := h1.trans h3
 rw [← h4, List.map_map]
 conv => lhs; rw [← List.map_id (Lib.splitB ⟨#[c]⟩ 0 (Lib.countB ⟨s.toArray⟩ ⟨#[c]⟩) ⟨s.toArray⟩)]
 refine List.map_congr_left fun b _ => ?_
 simp
theorem bOZ (s : List UInt8) (hs : s.length ≤ 4294967280) (w : World) (hT : Tv w) : Calls prog 114 #[eH s, .string ⟨#[32]⟩] w fun e w' =>
  ∃ v, e = .returned v ∧ Row w' w.heap.size 9 v ((iS 32 s).map eH) ∧ Below w.heap.size w w' := by
 obtain ⟨m, hm⟩ := hT.mx
 refine (Tryz.strings_Split ⟨s.toArray⟩ ⟨#[32]⟩ m w (by show s.length < _; omega) hm (Nat.le_refl _)).mono ?_
 rintro e w' ⟨rfl, rfl⟩
 rw [tQ]
 have hc : Lib.countB ⟨s.toArray⟩ ⟨#[32]⟩ + 1 = (iS 32 s).length := by
  have h1 := congrArg List.length (tQ 32 s)
  rw [Lib.splitB_all ⟨#[32]⟩ (Nat.le_refl _) 0 _ ⟨s.toArray⟩ rfl, V9] at h1
  exact h1
 have hcount : s.count 32 ≤ s.length := List.count_le_length
 have hc2 : Lib.countB ⟨s.toArray⟩ ⟨#[32]⟩ = s.count 32 := Lib.count_one 32 s
 rw [hc]
 refine ⟨_, rfl, ?_, (Bnq _ _)⟩
 have := Row.made (w := w) (base := w.heap.size) (e := 9) (cs := (((iS 32 s).map fun x => (⟨x.toArray⟩ : ByteArray)).map Value.string).toArray) (n := (iS 32 s).length) (Nat.le_refl _) Zf Zw
 rw [List.map_map] at this ⊢
 exact this
theorem bPJ (s : List UInt8) (hs : s.length ≤ 4294967280) (w : World) (hT : Tv w) : Calls prog 65 #[eH s, .string ⟨#[10]⟩] w fun e w' =>
  ∃ x r b, e = .returned (.tuple #[eH x, eH r, .bool b]) ∧ Below w.heap.size w w' ∧ ((b = true ∧ s = x ++ 10 :: r ∧ 10 ∉ x) ∨ (b = false ∧ 10 ∉ s ∧ x = s ∧ r = [])) := by
 obtain ⟨m, hm⟩ := hT.mx
 refine (Tryz.strings_Cut ⟨s.toArray⟩ ⟨#[10]⟩ m w (by show s.length < _; omega) hm).mono ?_
 rintro e w' ⟨rfl, n, rfl⟩
 show ∃ x r b, Ending.returned (.tuple #[.string ⟨(Lib.cut s [10]).1.toArray⟩, .string ⟨(Lib.cut s [10]).2.1.toArray⟩, .bool (Lib.cut s [10]).2.2]) = _ ∧ _
 by_cases h : (10 : UInt8) ∈ s
 ·obtain ⟨x, r, rfl, hx⟩ := wM 10 s h
  rw [bQL hx]
  exact ⟨x, r, true, rfl, cB (Below.refl _ _) n, .inl ⟨rfl, rfl, hx⟩⟩
 ·rw [bMW h]
  exact ⟨s, [], false, rfl, cB (Below.refl _ _) n, .inr ⟨rfl, h, rfl, rfl⟩⟩
theorem bNK (s p : List UInt8) (w : World) : Calls prog 66 #[eH s, eH p] w fun e w' =>
  ∃ x b, e = .returned (.tuple #[eH x, .bool b]) ∧ w' = w ∧ ((b = true ∧ s = p ++ x) ∨ (b = false ∧ x = s ∧ ∀ y, s ≠ p ++ y)) := by
 refine (Tryz.strings_CutPrefix ⟨s.toArray⟩ ⟨p.toArray⟩ w).mono ?_
 rintro e w' ⟨rfl, rfl⟩
 show ∃ x b, Ending.returned (.tuple #[.string ⟨(Lib.trimPrefix s p).toArray⟩, .bool (Lib.hasPrefix s p)]) = _ ∧ _
 unfold Lib.trimPrefix
 cases h : Lib.hasPrefix s p with
 | true =>
  unfold Lib.hasPrefix at h
  obtain ⟨y, rfl⟩ := List.isPrefixOf_iff_prefix.1 h
  exact ⟨y, true, Zf, rfl, .inl ⟨rfl, rfl⟩⟩
 | false =>
  refine ⟨s, false, Zf, rfl, .inr ⟨rfl, rfl, fun y hy => ?_⟩⟩
  unfold Lib.hasPrefix at h
  have : p.isPrefixOf s = true := List.isPrefixOf_iff_prefix.2 ⟨y, hy.symm⟩
  rw [this] at h
  cases h
theorem bNP (s : List UInt8) (hs : s.length ≤ 4294967280) (w : World) (hT : Tv w) : Calls prog 67 #[eH s] w fun e w' =>
  ∃ v er, e = .returned (.tuple #[.int .i64 v, er]) ∧ Below w.heap.size w w' ∧ ((er = .nilIface ∧ eR v ∧ ∀ n, eR n → s = itoa n → v = n) ∨ ((∃ t q, er = .iface t q) ∧ ∀ n, eR n → s ≠ itoa n)) := by
 have key : ∀ n, eR n → s = itoa n → Lib.atoiAll s = .ok n := fun n hn e => by rw [e]; exact bJT hn.1 hn.2
 cases h : Lib.atoiAll s
 ·rename_i v
  refine (Tryz.strconv_Atoi_ok ⟨s.toArray⟩ (by show s.length ≤ _; omega) v h w).mono ?_
  rintro e w' ⟨rfl, hw⟩
  refine ⟨v, _, rfl, ?_, .inl ⟨rfl, ?_, fun n hn e => ?_⟩⟩
  ·rcases hw with rfl | ⟨t, rfl⟩
   ·exact Below.refl _ _
   ·exact Lib.bytesWorld_below _ _ _
  ·exact Lib.atoiAll_bounds h
  ·have := key n hn e
   rw [h] at this
   injection this
 ·obtain ⟨tp, p, hv⟩ := hT.syn
  refine (Any.strconv_Atoi_syntax_var Tryz.laysC172 ⟨s.toArray⟩ (by show s.length ≤ _; omega) h tp p w hv).mono ?_
  rintro e w' ⟨N, rfl, _, _, hb⟩
  exact ⟨0, _, rfl, hb, .inr ⟨⟨_, _, rfl⟩, fun n hn e => by have := key n hn e; rw [h] at this; cases this⟩⟩
 ·obtain ⟨tp, p, hv⟩ := hT.rng
  refine (Tryz.strconv_Atoi_range_var ⟨s.toArray⟩ (by show s.length ≤ _; omega) h tp p w hv).mono ?_
  rintro e w' ⟨N, rfl, _, _, hb⟩
  exact ⟨_, _, rfl, hb, .inr ⟨⟨_, _, rfl⟩, fun n hn e => by have := key n hn e; rw [h] at this; cases this⟩⟩
open Go.Maps
theorem bMI : Keyed prog 9 := string_keyed underlying9
theorem bPK (w : World) : (zeroValue 3).run prog w = .ok (.int .i64 0) w := Zc
def qU : Nat → DataW Unit
 | 0 => .map []
 | k + 1 => (qU k).put (.string (opW k)) (.lit (.int .i64 k))
theorem vN : ∀ k, IsMap (qU k)
 | 0 => ⟨[], rfl⟩
 | k + 1 => (vN k).put _ _
theorem vO : ∀ (k : Nat) (p : List UInt8), k ≤ 13 → (Maps.has (qU k) (.string p) = true ↔ ∃ j : Nat, j < k ∧ opW (j : Int) = p)
 | 0, p, _ => by
  constructor
  ·intro h; cases h
  ·rintro ⟨j, hj, _⟩; omega
 | k + 1, p, hk => by
  by_cases h : p = opW (k : Int)
  ·rw [h]
   show Maps.has ((qU k).put (.string (opW k)) _) _ = true ↔ _
   rw [has_put_same (vN k) (by trivial)]
   exact ⟨fun _ => ⟨k, Zb, rfl⟩, fun _ => rfl⟩
  ·show Maps.has ((qU k).put (.string (opW k)) _) _ = true ↔ _
   rw [has_put_other (by intro e; injection e with e; exact h e), vO k p Zb]
   constructor
   ·rintro ⟨j, h1, h2⟩; exact ⟨j, Zb, h2⟩
   ·rintro ⟨j, h1, h2⟩
    rcases Nat.lt_or_eq_of_le (Nat.lt_succ_iff.1 h1) with h3 | h3
    ·exact ⟨j, h3, h2⟩
    ·exact absurd (by rw [← h2, h3]) h
theorem bHL : ∀ (k : Nat) (j : Nat) (z : DataW Unit), k ≤ 13 → j < k → (qU k).atKey (.string (opW j)) z = .lit (.int .i64 j)
 | 0, j, z, _, hj => by omega
 | k + 1, j, z, hk, hj => by
  show ((qU k).put (.string (opW k)) _).atKey _ z = _
  by_cases h : j = k
  ·rw [h, atKey_put_same (vN k) (by trivial)]
  ·rw [atKey_put_other (by intro e; injection e with e; have := zQ ⟨Zb, Zb⟩ ⟨Zb, Zb⟩ e; omega), bHL k j z Zb Zb]
theorem bOB (k : Nat) (p : List UInt8) (z : DataW Unit) (h : Maps.has (qU k) (.string p) = false) : (qU k).atKey (.string p) z = z := atKey_of_not_has h z
def lD (g k : Nat) (w : World) : Prop := w.ownsMap prog 9 (plainElem prog 3) g k (qU k)
theorem lD.lt {g k : Nat} {w : World} (h : lD g k w) : g < w.heap.size := World.ownsMap.lt h
theorem lD.below {g k : Nat} {w w' : World} (h : lD g k w) (hb : Below w.heap.size w w') : lD g k w' := by
 obtain ⟨es, clock, hh, F, r⟩ := h
 exact ⟨es, clock, (hb.block g (bW hh)).trans hh, F, r⟩
theorem lD.far {g k : Nat} {w : World} (h : lD g k w) {p : Addr} (hp : g ≠ p.block) (u : Value) : lD g k (w.setCell p u) := by
 obtain ⟨es, clock, hh, F, r⟩ := h
 exact ⟨es, clock, (Below.heap_setCell w p u g hp).trans hh, F, r⟩
theorem lD.alloc {g k : Nat} {w : World} (h : lD g k w) (o : Obj) : lD g k (w.alloc o) := by
 obtain ⟨es, clock, hh, F, r⟩ := h
 exact ⟨es, clock, (Below.heap_alloc w o g (bW hh)).trans hh, F, r⟩
theorem bMK {p : List UInt8} (h : p.length ≤ 4294967280) : keyOf prog 9 (eH p) = some (.string p) := Go.WideMaps.keyOf_string_mk underlying9 (by show p.length ≤ _; unfold maxLen; omega)
end
section
open Go.RowKit
open Go.Lib Go.Maps
def bNF (gw gi base : Nat) (r : List (List UInt8)) (w : World) (e : Ending) (w' : World) : Prop :=
 (r = [] ∧ e = .returned (eH []) ∧ w' = w.setCell ⟨gi, 0, none⟩ (.bool false)) ∨
 ∃ x r' A' c', r = x :: r' ∧ e = .returned (eH x) ∧ w' = w.setCell ⟨gw, 0, none⟩ (.slice A' r'.length c') ∧ Row w base 9 (.slice A' r'.length c') (r'.map eH)
theorem zT (gw gi base : Nat) (A : Option Addr) (c : Nat) (r : List (List UInt8)) (b : Bool) (w : World) (h1 : Blk w gw 163 #[.slice A r.length c]) (h2 : Blk w gi 4 #[.bool b])
  (hR : Row w base 9 (.slice A r.length c) (r.map eH)) :
  Calls prog 115 #[.pointer (some ⟨gw, 0, none⟩), .pointer (some ⟨gi, 0, none⟩)] w (bNF gw gi base r w) := by
 have a0 := h1.cell 0
 have af := h1.frozen 0
 have b0 := h2.cell 0
 have bf := h2.frozen 0
 simp only [List.getElem?_toArray, List.getElem?_cons_zero] at a0 b0
 cases r with
 | nil =>
  go_enter func115, ntmps115
  go_wp2_with fail
  go_ret
  exact .inl ⟨rfl, rfl, rfl⟩
 | cons x r' =>
  obtain ⟨bk, off, rfl, hbk, hv⟩ := hR.vals Zf
  have hc : w.cell? ⟨bk, off, none⟩ = some (eH x) := by have := hv 0 (eH x) rfl; simpa using this
  have hsh := hR.shape
  rw [V9] at hsh
  obtain ⟨A0, c0, hsv, hcl, hcm⟩ := hsh
  injection hsv with hA0 hn0 hcc
  subst hcc
  clear hA0 hn0
  have hT := bA (Row.tail (x := eH x) (xs := r'.map eH) hR)
  clear hv hR
  rw [List.length_cons] at *
  have l0 : ((r'.length + 1 : Nat) : Int) = (r'.length : Int) + 1 := Zb
  have l1 : ((r'.length : Int) + 1 == 0) = false := by rw [beq_eq_false_iff_ne]; omega
  have l2 : (0 : Int) < (r'.length : Int) + 1 := Zb
  have l3 : (1 : Int) ≤ (r'.length : Int) + 1 := Zb
  go_enter func115, ntmps115
  go_wp2_with fail
  all_goals go_ret
  all_goals refine .inr ⟨x, r', _, _, rfl, rfl, rfl, ?_⟩
  all_goals have hT2 := hT.out
  all_goals clear hT
  all_goals split at hT2
  all_goals first | exact hT2 | (exfalso; omega) | (subst_vars; exact hT2)
end
section
open Go.Lib
theorem bBW (o : Int) : ((cD o).map Prod.snd).Nodup := by
 unfold cD
 repeat' split
 all_goals simp
structure RdT (o : Int) (p0 : List UInt8) (ps : List (List UInt8)) (j : Nat) (r : List (List UInt8)) (n : Nd) : Prop where
 op : n.op = o
 ws : ps = p0 :: (((cD o).take j).flatMap (eJ n) ++ r)
 rest : ∀ i, 1 ≤ i → i < 6 → i ∉ ((cD o).take j).map Prod.snd → n.fld i = 0
 fit : ∀ i, i < 6 → eR (n.fld i)
def Fst (p0 : List UInt8) (o : Int) (is : Bool) : Prop := (0 ≤ o ∧ o ≤ 12) ∧ ((is = true ∧ p0 = opW o) ∨ (is = false ∧ ∀ m : Int, 0 ≤ m → m ≤ 12 → opW m ≠ p0))
theorem bIR (n m : Nd) (p : List UInt8 × Nat) : (eJ n p).length = (eJ m p).length := by unfold eJ; simp
theorem yX (n m : Nd) : ∀ l : List (List UInt8 × Nat), (l.flatMap (eJ n)).length = (l.flatMap (eJ m)).length
 | [] => rfl
 | p :: l => by rw [List.flatMap_cons, List.flatMap_cons, Vu, Vu, bIR n m p, yX n m l]
theorem RdT.left {o : Int} {p0 : List UInt8} {s : List UInt8} {j : Nat} {r : List (List UInt8)} {n m : Nd} {is : Bool} (h : RdT o p0 (iS 32 s) j r n) (hf : Fst p0 o is) (hm : dW m) (hs : s = gC m) :
  is = true ∧ o = m.op ∧ r = ((cD o).drop j).flatMap (eJ m) := by
 have h1 : iS 32 s = iK m := by rw [hs]; exact qS (by simp [iK]) fun x hx => (lE hm.op x hx).1
 have h2 := h.ws
 rw [h1] at h2
 unfold iK at h2
 injection h2 with h3 h4
 obtain ⟨ho, ⟨hi, hp⟩ | ⟨hi, hp⟩⟩ := hf
 ·have e : o = m.op := zQ ho hm.op (hp ▸ h3.symm)
  refine ⟨hi, e, ?_⟩
  rw [← e] at h4
  have h5 : (cD o).flatMap (eJ m) = ((cD o).take j).flatMap (eJ m) ++ ((cD o).drop j).flatMap (eJ m) := by rw [← List.flatMap_append, List.take_append_drop]
  rw [h5] at h4
  exact (List.append_inj h4 (yX m n _)).2.symm
 ·exact absurd h3 (hp m.op hm.op.1 hm.op.2)
theorem RdT.word {o : Int} {p0 : List UInt8} {s : List UInt8} {j : Nat} {r : List (List UInt8)} {n m : Nd} {is : Bool} {p : List UInt8 × Nat} (h : RdT o p0 (iS 32 s) j r n) (hf : Fst p0 o is) (hp : (cD o)[j]? = some p) (hm : dW m) (hs : s = gC m) :
  r = (if p.1 = [] then [] else [p.1]) ++ itoa (m.fld p.2) :: ((cD o).drop (j + 1)).flatMap (eJ m) := by
 obtain ⟨hlt, he⟩ := List.getElem?_eq_some_iff.1 hp
 rw [(h.left hf hm hs).2.2, List.drop_eq_getElem_cons hlt, he, List.flatMap_cons]
 unfold eJ
 simp
theorem RdT.next {o : Int} {p0 : List UInt8} {ps : List (List UInt8)} {j : Nat} {r r3 : List (List UInt8)} {n : Nd} {wd : List UInt8} {f : Nat} {k : Int} (h : RdT o p0 ps j r n) (hp : (cD o)[j]? = some (wd, f)) (hk : eR k)
  (hr : r = (if wd = [] then [] else [wd]) ++ itoa k :: r3) : RdT o p0 ps (j + 1) r3 (n.put f k) := by
 obtain ⟨hlt, he⟩ := List.getElem?_eq_some_iff.1 hp
 have hw := gL o _ (Vv hp)
 have ht : (cD o).take (j + 1) = (cD o).take j ++ [(wd, f)] := by rw [List.take_add_one, hp]; rfl
 have hnd := bBW o
 have hfn : f ∉ ((cD o).take j).map Prod.snd := by
  intro hm
  rw [← List.take_append_drop j (cD o), List.drop_eq_getElem_cons hlt, he, List.map_append, List.nodup_append] at hnd
  exact hnd.2.2 f hm f Zf rfl
 have hput : ∀ i, i < 6 → (n.put f k).fld i = if i = f then k else n.fld i := fun i hi => n.fld_put f k hi hw.2.2
 refine ⟨?_, ?_, ?_, ?_⟩
 ·have := hput 0 Zb
  rw [if_neg (by have := hw.2.1; simp only at this; omega)] at this
  exact this.trans h.op
 ·rw [h.ws, hr, ht, List.flatMap_append]
  have e1 : ((cD o).take j).flatMap (eJ (n.put f k)) = ((cD o).take j).flatMap (eJ n) := by
   rw [List.flatMap_def, List.flatMap_def]
   congr 1
   refine List.map_congr_left fun p hp' => ?_
   have h6 := (gL o p (List.mem_of_mem_take hp')).2.2
   unfold eJ
   rw [hput _ h6, if_neg (fun e : p.2 = f => hfn (by rw [← e]; exact List.mem_map_of_mem hp'))]
  rw [e1]
  have e2 : ([(wd, f)] : List (List UInt8 × Nat)).flatMap (eJ (n.put f k)) = (if wd = [] then [] else [wd]) ++ [itoa k] := by
   rw [List.flatMap_cons, List.flatMap_nil, List.append_nil]
   unfold eJ
   rw [hput _ hw.2.2, if_pos rfl]
  rw [e2]
  simp
 ·intro i h1 h6 hi
  rw [ht, List.map_append, Ug, not_or] at hi
  rw [hput i h6, if_neg (fun e => hi.2 (by simp [e]))]
  exact h.rest i h1 h6 hi.1
 ·intro i h6
  rw [hput i h6]
  split
  ·exact hk
  ·exact h.fit i h6
theorem RdT.done {o : Int} {p0 : List UInt8} {s : List UInt8} {n : Nd} (h : RdT o p0 (iS 32 s) (cD o).length [] n) (hf : Fst p0 o true) : dW n ∧ s = gC n := by
 have hp : p0 = opW o := by
  rcases hf.2 with ⟨_, h⟩ | ⟨h, _⟩
  ·exact h
  ·cases h
 refine ⟨⟨by rw [h.op]; exact hf.1, fun i h1 h6 hi => h.rest i h1 h6 (by rw [List.take_length, ← h.op]; exact hi), h.fit⟩, ?_⟩
 have hw := h.ws
 rw [List.take_length, List.append_nil, hp, ← h.op] at hw
 have e : fD 32 (iS 32 s) = s := by
  unfold iS
  rw [jA]
  rfl
 rw [← e, hw]
 rfl
end
section
open Go.RowKit
open Go.Lib Go.Maps
structure NSt (g0 gw gi gn q base : Nat) (o : Int) (w0 W : World) (A : Option Addr) (c : Nat) (r : List (List UInt8)) (is : Bool) (n : Nd) : Prop where
 Z : Blk W g0 44 #[.int .i64 0, .int .i64 0, .int .i64 0, .int .i64 0, .int .i64 0, .int .i64 0]
 P : Blk W gw 163 #[.slice A r.length c]
 I : Blk W gi 4 #[.bool is]
 N : Blk W gn 44 #[.int .i64 n.op, .int .i64 n.d, .int .i64 n.a, .int .i64 n.b, .int .i64 n.t, .int .i64 n.e]
 Q : Blk W q 114 (sR gn o).toArray
 R : Row W base 9 (.slice A r.length c) (r.map eH)
 B : Below w0.heap.size w0 W
 l : g0 < gn ∧ w0.heap.size ≤ g0 ∧ w0.heap.size ≤ gw ∧ w0.heap.size ≤ gi
section
variable {g0 gw gi gn q base : Nat} {o : Int} {w0 W W' : World} {A : Option Addr} {c : Nat} {r : List (List UInt8)} {is : Bool} {n : Nd}
theorem NSt.below (h : NSt g0 gw gi gn q base o w0 W A c r is n) (hb : Below W.heap.size W W') : NSt g0 gw gi gn q base o w0 W' A c r is n :=
 ⟨h.Z.below hb h.Z.lt, h.P.below hb h.P.lt, h.I.below hb h.I.lt, h.N.below hb h.N.lt, h.Q.below hb h.Q.lt, h.R.below' hb, h.B.trans (hb.mono h.B.size), h.l⟩
theorem NSt.pop (h : NSt g0 gw gi gn q base o w0 W A c r is n) {A' : Option Addr} {c' : Nat} {r' : List (List UInt8)} (hR : Row W base 9 (.slice A' r'.length c') (r'.map eH)) :
  NSt g0 gw gi gn q base o w0 (W.setCell ⟨gw, 0, none⟩ (.slice A' r'.length c')) A' c' r' is n :=
 ⟨h.Z.far (h.Z.ne_ h.P Ze) _, h.P.set_ 0 _, h.I.far (h.I.ne_ h.P Ze) _, h.N.far (h.N.ne_ h.P Ze) _, h.Q.far (h.Q.ne_ h.P Ze) _, hR.far (hR.ne_blk h.P Ze) _, h.B.setCell h.l.2.2.1 _, h.l⟩
theorem NSt.no (h : NSt g0 gw gi gn q base o w0 W A c r is n) : NSt g0 gw gi gn q base o w0 (W.setCell ⟨gi, 0, none⟩ (.bool false)) A c r false n :=
 ⟨h.Z.far (h.Z.ne_ h.I Ze) _, h.P.far (h.P.ne_ h.I Ze) _, h.I.set_ 0 _, h.N.far (h.N.ne_ h.I Ze) _, h.Q.far (h.Q.ne_ h.I Ze) _, h.R.far (h.R.ne_blk h.I Ze) _, h.B.setCell h.l.2.2.2 _, h.l⟩
theorem NSt.put (h : NSt g0 gw gi gn q base o w0 W A c r is n) {f : Nat} (k : Int) (h1 : 1 ≤ f) (h6 : f < 6) : NSt g0 gw gi gn q base o w0 (W.setCell ⟨gn, f, none⟩ (.int .i64 k)) A c r is (n.put f k) := by
 refine ⟨h.Z.far (by have := h.l.1; simp only; omega) _, h.P.far (h.P.ne_ h.N Ze) _, h.I.far (h.I.ne_ h.N Ze) _, ?_, h.Q.far (h.Q.ne_ h.N Ze) _, h.R.far (h.R.ne_blk h.N Ze) _, h.B.setCell (by have := h.l; simp only; omega) _, h.l⟩
 have hN := h.N.set_ f (.int .i64 k)
 rcases f with _ | _ | _ | _ | _ | _ | f
 ·omega
 all_goals first | exact hN | omega
theorem NSt.take (h : NSt g0 gw gi gn q base o w0 W A c r is n) : Calls prog 115 #[.pointer (some ⟨gw, 0, none⟩), .pointer (some ⟨gi, 0, none⟩)] W fun e W' =>
  ((r = [] ∧ e = .returned (eH []) ∧ NSt g0 gw gi gn q base o w0 W' A c r false n) ∨ ∃ x r' A' c', r = x :: r' ∧ e = .returned (eH x) ∧ NSt g0 gw gi gn q base o w0 W' A' c' r' is n) ∧ ∀ g t cs, Blk W g t cs → t ≠ 163 → t ≠ 4 → Blk W' g t cs := by
 refine (zT gw gi base A c r is W h.P h.I h.R).mono ?_
 rintro e W' (⟨rfl, rfl, rfl⟩ | ⟨x, r', A', c', rfl, rfl, rfl, hR⟩)
 ·exact ⟨.inl ⟨rfl, rfl, h.no⟩, fun g t cs hb h1 h2 => hb.far (hb.ne_ h.I h2) _⟩
 ·exact ⟨.inr ⟨x, r', A', c', rfl, rfl, h.pop hR⟩, fun g t cs hb h1 h2 => hb.far (hb.ne_ h.P h1) _⟩
end
theorem bLE (c : UInt8) (s : List UInt8) : iS c s ≠ [] := rV c s []
theorem qM (c : UInt8) : ∀ (l : List (List UInt8)), ∀ p ∈ l, p.length ≤ (fD c l).length
 | [], p, h => by cases h
 | [x], p, h => by
  rw [List.mem_singleton.1 h]; exact Nat.le_refl _
 | x :: y :: r, p, h => by
  show p.length ≤ (x ++ c :: fD c (y :: r)).length
  rw [Vu, List.length_cons]
  rcases List.mem_cons.1 h with e | e
  ·rw [e]; omega
  ·have := qM c (y :: r) p e
   omega
theorem yE (c : UInt8) (s : List UInt8) (p : List UInt8) (h : p ∈ iS c s) : p.length ≤ s.length := by
 have := qM c _ p h
 unfold iS at this
 rw [jA] at this
 simpa using this
theorem bQD {p0 : List UInt8} {c : Int} (h : (qU 13).atKey (.string p0) (.lit (.int .i64 0)) = .lit (.int .i64 c)) : Fst p0 c (Maps.has (qU 13) (.string p0)) := by
 cases hb : Maps.has (qU 13) (.string p0) with
 | true =>
  obtain ⟨j, hj, hp⟩ := (vO 13 p0 (Nat.le_refl _)).1 hb
  rw [← hp, bHL 13 j _ (Nat.le_refl _) hj] at h
  injection h with h
  injection h with _ h
  subst h
  exact ⟨Zb, .inl ⟨rfl, hp.symm⟩⟩
 | false =>
  rw [bOB 13 p0 _ hb] at h
  injection h with h
  injection h with _ h
  subst h
  refine ⟨Zb, .inr ⟨rfl, fun m h0 h1 e => ?_⟩⟩
  have := (vO 13 p0 (Nat.le_refl _)).2 ⟨m.toNat, Zb, by rw [← e]; congr 1; omega⟩
  rw [this] at hb
  cases hb
def bNL (s : List UInt8) (w : World) (e : Ending) (w' : World) : Prop :=
 ∃ (n : Nd) (ok : Bool), e = .returned (.tuple #[.agg #[.int .i64 n.op, .int .i64 n.d, .int .i64 n.a, .int .i64 n.b, .int .i64 n.t, .int .i64 n.e], .bool ok]) ∧ Below w.heap.size w w' ∧ ((ok = true ∧ dW n ∧ s = gC n) ∨ (ok = false ∧ ∀ m, dW m → s ≠ gC m))
theorem bLZ (s : List UInt8) (hs : s.length ≤ 4294967280) (gm : Nat) (w : World) (hT : Tv w) (hM : lD gm 13 w) : Calls prog 68 #[eH s, .map (some gm)] w (bNL s w) := by
 have HS := fun W h => bA (bOZ s hs W h)
 go_enter func68, ntmps68
 go_upto_region 2 with fail
 have hZ := Blk.new w 44 #[.int .i64 0, .int .i64 0, .int .i64 0, .int .i64 0, .int .i64 0, .int .i64 0]
 have hB0 : Below w.heap.size w (w.alloc (.cells #[.int .i64 0, .int .i64 0, .int .i64 0, .int .i64 0, .int .i64 0, .int .i64 0] 44)) := (Bnq _ _)
 have hM0 := hM.alloc (.cells #[.int .i64 0, .int .i64 0, .int .i64 0, .int .i64 0, .int .i64 0, .int .i64 0] 44)
 refine Calls.mono (HS _ (hT.below hB0)).out ?_
 rintro e w1 ⟨v1, rfl, hR1, hb1⟩
 have hZ1 := hZ.below hb1 hZ.lt
 have hM1 := hM0.below hb1
 have hB1 := hB0.trans (hb1.mono hB0.size)
 clear hZ hB0 hM0 hb1 HS
 generalize hps : iS 32 s = ps at *
 obtain ⟨A1, c1, rfl, hc1, hm1⟩ := hR1.shape
 rw [V9] at *
 obtain ⟨p0, r0, rfl⟩ : ∃ x r, ps = x :: r := by
  cases h : ps with
  | nil => rw [h] at hps; exact absurd hps (bLE 32 s)
  | cons x r => exact ⟨x, r, rfl⟩
 obtain ⟨b0, o0, rfl, hb0, hv0⟩ := hR1.vals Zf
 have hv0 : w1.cell? ⟨b0, o0, none⟩ = some (eH p0) := by have := hv0 0 (eH p0) rfl; simpa using this
 have hp0 : p0.length ≤ 4294967280 := by
  have := yE 32 s p0 (by rw [hps]; simp)
  omega
 have hR1t := bA (Row.tail (x := eH p0) (xs := r0.map eH) hR1)
 have Hps := bA hps
 clear hps hR1
 rw [List.length_cons] at *
 have l0 : (0 : Int) < ((r0.length + 1 : Nat) : Int) := Zb
 go_upto_region 4 with (at_lookup; refine wpList_lookup_own_ok_int _ rfl _ _ 117 rfl 9 3 .i64 bMI underlying117 underlying3 (bPK _) gm 13 (qU 13) rfl (hM1.alloc _) (eH p0) (.string p0) rfl (bMK hp0) ?_; intro c hat hwc)
 have hF := bQD hat
 generalize Maps.has (qU 13) (.string p0) = is0 at *
 obtain ⟨k, rfl⟩ : ∃ k : Nat, c = (k : Int) := ⟨c.toNat, by have := hF.1.1; omega⟩
 have hk13 : k < 13 := by have := hF.1.2; omega
 have HF := bA hF
 clear hat hwc hM1 hF
 have hP3 : Blk (((w1.alloc (.cells #[.slice (some ⟨b0, o0, none⟩) (r0.length + 1) c1] 163)).alloc (.cells #[.bool is0] 4)).alloc (.cells #[.int .i64 (k : Int), .int .i64 0, .int .i64 0, .int .i64 0, .int .i64 0, .int .i64 0] 44)) w1.heap.size 163 #[.slice (some ⟨b0, o0, none⟩) (r0.length + 1) c1] := Yf
 have hI3 : Blk (((w1.alloc (.cells #[.slice (some ⟨b0, o0, none⟩) (r0.length + 1) c1] 163)).alloc (.cells #[.bool is0] 4)).alloc (.cells #[.int .i64 (k : Int), .int .i64 0, .int .i64 0, .int .i64 0, .int .i64 0, .int .i64 0] 44)) (w1.heap.size + 1) 4 #[.bool is0] := Yf
 have hN3 : Blk (((w1.alloc (.cells #[.slice (some ⟨b0, o0, none⟩) (r0.length + 1) c1] 163)).alloc (.cells #[.bool is0] 4)).alloc (.cells #[.int .i64 (k : Int), .int .i64 0, .int .i64 0, .int .i64 0, .int .i64 0, .int .i64 0] 44)) (w1.heap.size + 1 + 1) 44 #[.int .i64 (k : Int), .int .i64 0, .int .i64 0, .int .i64 0, .int .i64 0, .int .i64 0] := Yf
 have hZ3 : Blk (((w1.alloc (.cells #[.slice (some ⟨b0, o0, none⟩) (r0.length + 1) c1] 163)).alloc (.cells #[.bool is0] 4)).alloc (.cells #[.int .i64 (k : Int), .int .i64 0, .int .i64 0, .int .i64 0, .int .i64 0, .int .i64 0] 44)) w.heap.size 44 #[.int .i64 0, .int .i64 0, .int .i64 0, .int .i64 0, .int .i64 0, .int .i64 0] := ((hZ1.alloc _).alloc _).alloc _
 have hR3 := bA (((hR1t.out.alloc (.cells #[.slice (some ⟨b0, o0, none⟩) (r0.length + 1) c1] 163)).alloc (.cells #[.bool is0] 4)).alloc (.cells #[.int .i64 (k : Int), .int .i64 0, .int .i64 0, .int .i64 0, .int .i64 0, .int .i64 0] 44))
 have hB3 : Below w.heap.size w (((w1.alloc (.cells #[.slice (some ⟨b0, o0, none⟩) (r0.length + 1) c1] 163)).alloc (.cells #[.bool is0] 4)).alloc (.cells #[.int .i64 (k : Int), .int .i64 0, .int .i64 0, .int .i64 0, .int .i64 0, .int .i64 0] 44)) := ((hB1.alloc hB1.size _).alloc (by have := hB1.size; simp; omega) _).alloc (by have := hB1.size; simp; omega) _
 have hzw : w.heap.size < w1.heap.size := hZ1.lt
 clear hZ1 hR1t hv0 hb0
 generalize (((w1.alloc (.cells #[.slice (some ⟨b0, o0, none⟩) (r0.length + 1) c1] 163)).alloc (.cells #[.bool is0] 4)).alloc (.cells #[.int .i64 (k : Int), .int .i64 0, .int .i64 0, .int .i64 0, .int .i64 0, .int .i64 0] 44)) = w3 at *
 have a0 := hP3.cell 0
 have af := hP3.frozen 0
 simp only [List.getElem?_toArray, List.getElem?_cons_zero] at a0
 have l1 : (1 : Int) ≤ ((r0.length + 1 : Nat) : Int) := Zb
 go_cut [] (fun wx => ∃ A' c', Blk wx w1.heap.size 163 #[.slice A' r0.length c'] ∧ Row wx (w.heap.size + 1) 9 (.slice A' r0.length c') (r0.map eH) ∧ Blk wx (w1.heap.size + 1) 4 #[.bool is0] ∧ Blk wx (w1.heap.size + 1 + 1) 44 #[.int .i64 (k : Int), .int .i64 0, .int .i64 0, .int .i64 0, .int .i64 0, .int .i64 0] ∧ Blk wx w.heap.size 44 #[.int .i64 0, .int .i64 0, .int .i64 0, .int .i64 0, .int .i64 0, .int .i64 0] ∧ Below w.heap.size w wx)
 case first =>
  go_wp2_with fail
  all_goals go_meet
  all_goals refine ⟨_, _, hP3.set_ 0 _, ?_, hI3.far Zf _, hN3.far Zh _, hZ3.far Zh _, hB3.setCell Zh _⟩
  all_goals have hT2 := hR3.out
  all_goals clear hR3
  all_goals split at hT2
  all_goals first | exact ((hT2.far (hT2.ne_blk hP3 Ze) _).mono Zf) | (exfalso; omega) | (subst_vars; exact ((hT2.far (hT2.ne_blk hP3 Ze) _).mono Zf))
 case rest =>
  obtain ⟨A', c', hP, hR, hI, hN, hZ, hB⟩ := hcut
  clear hP3 hI3 hN3 hZ3 hR3 hB3 a0 af
  generalize w1.heap.size = gw at *
  have HP := bA (yJ (gw + 1 + 1) k 0 0 0 0 0 wc hN hk13)
  unfold tH at HP
  go_wp2_with fail
  refine Calls.mono HP.o ?_
  rintro e w4 ⟨q, rfl, hq, hQ, hb4⟩
  have hS : NSt w.heap.size gw (gw + 1) (gw + 1 + 1) q (w.heap.size + 1) (k : Int) w w4 A' c' r0 is0 ⟨k, 0, 0, 0, 0, 0⟩ :=
   ⟨hZ.below hb4 hZ.lt, hP.below hb4 hP.lt, hI.below hb4 hI.lt, hN.below hb4 hN.lt, hQ, hR.below' hb4, hB.trans (hb4.mono hB.size), Zb, Zb, Zb, Zb⟩
  have hRd : RdT (k : Int) p0 (p0 :: r0) 0 r0 ⟨k, 0, 0, 0, 0, 0⟩ := by
   refine ⟨rfl, Zf, fun i h1 h6 _ => ?_, fun i h6 => ?_⟩
   ·rcases i with _ | _ | _ | _ | _ | _ | i <;> first | rfl | omega
   ·have hz : ∀ z : Int, 0 ≤ z → z ≤ 12 → eR z := fun z a b => ⟨Zb, Zb⟩
    rcases i with _ | _ | _ | _ | _ | _ | i <;> first | exact hz 0 Zb Zb | exact hz (k : Int) Zb Zb | omega
  clear hZ hP hI hN hR hB hb4 hQ HP
  generalize hpn : (cD (k : Int)).length = pn at *
  have Hpn := bA hpn
  have hp4 : pn ≤ 4 := by rw [← hpn]; exact qT (k : Int)
  clear hpn
  have HRd := bA hRd
  have HS := bA hS
  clear hRd hS
  go_wp2_with fail
  go_loopg [33] (pn) (fun gk i wr => ∃ (j : Nat) (A : Option Addr) (c : Nat) (r : List (List UInt8)) (n : Nd), j ≤ pn ∧ i = .int .i64 j ∧ gk = pn - j ∧ NSt w.heap.size gw (gw + 1) (gw + 1 + 1) q (w.heap.size + 1) (k : Int) w wr A c r is0 n ∧ RdT (k : Int) p0 (p0 :: r0) j r n)
  case atStart => exact ⟨0, A', c', r0, _, Zb, rfl, rfl, HS.o, HRd.o⟩
  case round =>
   obtain ⟨j, A, c, r, n, hj, rfl, hgk, hS, hRd⟩ := hrel
   have Hgk := bA hgk
   have HRd := bA hRd
   clear hgk hRd
   by_cases hlt : j < pn
   ·obtain ⟨⟨wd, f⟩, hp⟩ : ∃ p, (cD (k : Int))[j]? = some p := ⟨_, Vs (by have := Hpn.o; omega)⟩
    have hw := gL (k : Int) _ (Vv hp)
    have pg := sS (fun p : List UInt8 × Nat => eH p.1) (fun p => .pointer (some ⟨gw + 1 + 1, p.2, none⟩)) (cD (k : Int)) j _ hp
    have cq0 : wr.cell? ⟨q, j * 2, none⟩ = some (eH wd) := (hS.Q.cell (j * 2)).trans (by rw [List.getElem?_toArray]; exact pg.1)
    have cq1 : wr.cell? ⟨q, j * 2 + 1, none⟩ = some (.pointer (some ⟨gw + 1 + 1, f, none⟩)) := (hS.Q.cell (j * 2 + 1)).trans (by rw [List.getElem?_toArray]; exact pg.2)
    have Hp := bA hp
    obtain ⟨k0, k1⟩ := Ikq (k := j) (n := pn) (by omega)
    clear hp pg
    go_upto_region 9 with fail
    have hS8 := hS.below ((Below.refl _ _).alloc (Nat.le_refl _) (.cells #[eH wd, .pointer (some ⟨gw + 1 + 1, f, none⟩)] 114))
    have hX8 := Blk.new wr 114 #[eH wd, .pointer (some ⟨gw + 1 + 1, f, none⟩)]
    generalize wr.alloc (.cells #[eH wd, .pointer (some ⟨gw + 1 + 1, f, none⟩)] 114) = w8 at *
    generalize wr.heap.size = gx at *
    clear cq0 cq1 hS
    have x0 := hX8.cell 0
    have x1 := hX8.cell 1
    simp only [Yl] at x0 x1
    go_cut [46] (fun s46 wx => ∃ (bad : Bool) (A2 : Option Addr) (c2 : Nat) (r2 : List (List UInt8)) (is2 : Bool), s46 = .bool bad ∧ NSt w.heap.size gw (gw + 1) (gw + 1 + 1) q (w.heap.size + 1) (k : Int) w wx A2 c2 r2 is2 n ∧ Blk wx gx 114 #[eH wd, .pointer (some ⟨gw + 1 + 1, f, none⟩)] ∧
     (bad = false → is2 = is0 ∧ r = (if wd = [] then [] else [wd]) ++ r2) ∧ (bad = true → ∀ y, r ≠ (if wd = [] then [] else [wd]) ++ y))
    case first =>
     by_cases hwd : wd = []
     ·subst hwd
      go_quiet (fail)
      all_goals (go_wp2_with fail)
      all_goals go_meet
      all_goals exact ⟨false, A, c, r, is0, rfl, hS8.below (cB (Below.refl _ _) _), hX8.drewN _, fun _ => ⟨rfl, rfl⟩, fun h => by cases h⟩
     ·have he1 : wd.isEmpty = false := by simpa using hwd
      have HX := bA hX8
      have HQ := bA hS8
      have hTk := fun W (hb : Below w8.heap.size w8 W) => bA ((HQ.o.below hb).take)
      cases r with
      | nil =>
       clear hS8 hX8
       go_region_with (go_at_call 115; refine ((hTk _ ((Below.refl _ _).drew)).out).mono ?_; rintro e w9 ⟨⟨_, rfl, hS9⟩ | ⟨x, r', A', c', he, _⟩, hk9⟩; rotate_left; (cases he); have hX9 := hk9 _ _ _ (HX.o.drew) Ze Ze; have x0 := hX9.cell 0; simp only [Yl] at x0; clear hk9)
       all_goals (go_wp2_with fail)
       all_goals go_meet
       all_goals refine ⟨true, A, c, [], false, ?_, hS9, hX9, (fun h => by cases h), fun _ y e => ?_⟩
       all_goals first | rfl | (exfalso; revert e; simp [hwd]; done) | (congr 1; simp [hwd]; try exact fun h => hwd h.symm)
      | cons x r' =>
       clear hS8 hX8
       go_region_with (go_at_call 115; refine ((hTk _ ((Below.refl _ _).drew)).out).mono ?_; rintro e w9 ⟨⟨he, _⟩ | ⟨x1, r1, A9, c9, he, rfl, hS9⟩, hk9⟩; (cases he); have he1 := (List.cons.inj he).1; have he2 := (List.cons.inj he).2; subst he1; subst he2; clear he; have hX9 := hk9 _ _ _ (HX.o.drew) Ze Ze; have x0 := hX9.cell 0; simp only [Yl] at x0; clear hk9)
       all_goals (go_wp2_with fail)
       all_goals go_meet
       all_goals
        by_cases hxw : x = wd
        ·refine ⟨false, A9, c9, r', is0, ?_, hS9, hX9, fun _ => ⟨rfl, ?_⟩, fun h => by cases h⟩
         ·subst hxw; first | rfl | (congr 1; simp)
         ·rw [if_neg hwd, hxw]; rfl
        ·refine ⟨true, A9, c9, r', is0, ?_, hS9, hX9, (fun h => by cases h), fun _ y e => ?_⟩
         ·first | rfl | (congr 1; simp [hxw])
         ·rw [if_neg hwd] at e
          exact hxw (List.cons.inj e).1
    case rest =>
     obtain ⟨bad, A2, c2, r2, is2, rfl, hS2, hX2, hg, hb⟩ := hcut
     clear hS8 hX8 x0 x1
     have Hg := bA hg
     have Hb := bA hb
     clear hg hb
     cases bad with
     | true =>
      have hZ := hS2.Z
      refine Ki fun z0 z1 z2 z3 z4 z5 zf zf1 zf2 zf3 zf4 zf5 lZ => ?_
      have hBk := hS2.B
      simp only [Yl] at z0 z1 z2 z3 z4 z5
      go_wp2_with fail
      refine bodyPost_ret (v := .tuple #[.agg #[.int .i64 0, .int .i64 0, .int .i64 0, .int .i64 0, .int .i64 0, .int .i64 0], .bool false]) (by simp [results, results68, go_sem, z0, z1, z2, z3, z4, z5, Vr, Vp]; try rfl) rfl ⟨⟨0, 0, 0, 0, 0, 0⟩, false, rfl, ?_, Or.inr (And.intro rfl ?_)⟩
      ·exact Ye
      intro m hm e
      have hw1 := (Hps.o ▸ HRd.o : RdT (k : Int) p0 (iS 32 s) j r n).word HF.o Hp.o hm e
      exact Hb.o Xx _ hw1
     | false =>
      obtain ⟨hi2, hr2⟩ := Hg.o rfl
      subst hi2
      have Hr2 := bA hr2
      have hsub : ∀ x ∈ r2, x.length ≤ 4294967280 := by
       intro x hx
       have := yE 32 s x (by rw [Hps.o, HRd.o.ws, hr2]; simp [hx])
       omega
      have Hsub := bA hsub
      clear hr2 hsub Hg Hb
      have HTk := bA hS2.take
      go_upto_region 12 with fail
      refine Calls.mono HTk.o ?_
      rintro e w5 ⟨h5, hk5⟩
      obtain ⟨sx, A5, c5, r5, is5, rfl, hS5, hD⟩ : ∃ sx A5 c5 r5 is5, e = .returned (eH sx) ∧ NSt w.heap.size gw (gw + 1) (gw + 1 + 1) q (w.heap.size + 1) (k : Int) w w5 A5 c5 r5 is5 n ∧ ((r2 = [] ∧ sx = []) ∨ (r2 = sx :: r5 ∧ is5 = is2)) := by
       rcases h5 with ⟨h1, h2, h3⟩ | ⟨x, r', A', c', h1, h2, h3⟩
       ·exact ⟨[], _, _, _, _, h2, h3, .inl ⟨h1, rfl⟩⟩
       ·exact ⟨x, _, _, _, _, h2, h3, .inr ⟨h1, rfl⟩⟩
      have hX5 := hk5 _ _ _ hX2 Ze Ze
      have hsx : sx.length ≤ 4294967280 := by
       rcases hD with ⟨_, h⟩ | ⟨h, _⟩
       ·rw [h]; simp
       ·exact Hsub.o sx Xi
      have HD := bA hD
      have HA := bA (bNP sx hsx w5 (hT.below hS5.B))
      clear hS2 hX2 h5 hk5 hD HTk
      go_wp2_with fail
      refine Calls.mono HA.o ?_
      rintro e w6 ⟨v, er, rfl, hb6, hA⟩
      have hS6 := hS5.below hb6
      have hX6 := hX5.below hb6 hX5.lt
      clear HA hS5 hX5 hb6
      have hbad : (∀ z, eR z → sx ≠ itoa z) → ∀ m, dW m → s ≠ gC m := by
       intro hno m hm e
       have hw1 := (Hps.o ▸ HRd.o : RdT (k : Int) p0 (iS 32 s) j r n).word HF.o Hp.o hm e
       rw [Hr2.o] at hw1
       have hw2 := List.append_cancel_left hw1
       rcases HD.o with ⟨h1, _⟩ | ⟨h1, _⟩
       ·rw [h1] at hw2; cases hw2
       ·rw [h1] at hw2
        injection hw2 with hw2 _
        exact hno _ (hm.fit f (by have := hw.2.2; exact this)) hw2
      have Hbad := bA hbad
      clear hbad
      rcases hA with ⟨rfl, hv, hvn⟩ | ⟨⟨t, q', rfl⟩, hvn⟩
      ·have HI := bA (bAU v hv w6 (hT.below hS6.B))
       have Hvn := bA hvn
       clear hvn
       go_wp2_with fail
       refine Calls.mono HI.o ?_
       rintro e w7 ⟨rfl, hb7⟩
       have hS7 := hS6.below hb7
       have hX7 := hX6.below hb7 hX6.lt
       clear HI hS6 hX6 hb7
       by_cases heq : itoa v = sx
       ·rw [heq]
        have x1 := hX7.cell 1
        simp only [Yl] at x1
        have nf := hS7.N.frozen f
        obtain ⟨y, hy⟩ : ∃ y, w7.cell? ⟨gw + 1 + 1, f, none⟩ = some y := by
         have h6 : f < 6 := hw.2.2
         exact ⟨_, (hS7.N.cell f).trans (by rw [List.getElem?_toArray]; exact Vs (by simpa using h6))⟩
        obtain ⟨hr2, hi5⟩ : r2 = sx :: r5 ∧ is5 = is2 := by
         rcases HD.o with ⟨_, h1⟩ | h1
         ·exact absurd (heq.trans h1) (bON v)
         ·exact h1
        have hSp := bA (hS7.put v hw.2.1 hw.2.2)
        have hRn := bA (HRd.o.next Hp.o hv (r3 := r5) (by rw [Hr2.o, hr2, heq]))
        subst hi5
        clear hr2 heq
        go_wp2_with fail
        go_roundg (pn - (j + 1))
        case measure => exact Jl
        case rel => exact ⟨j + 1, A5, c5, r5, _, Zb, by go_num, rfl, hSp.out, hRn.out⟩
       ·have hne : (itoa v == sx) = false := by rw [beq_eq_false_iff_ne]; exact heq
        have Heq := bA heq
        clear heq
        generalize hiv : itoa v = iv at *
        have Hiv := bA hiv
        clear hiv
        have hZ := hS7.Z
        refine Ki fun z0 z1 z2 z3 z4 z5 zf zf1 zf2 zf3 zf4 zf5 lZ => ?_
        have hBk := hS7.B
        simp only [Yl] at z0 z1 z2 z3 z4 z5
        go_wp2_with fail
        refine bodyPost_ret (v := .tuple #[.agg #[.int .i64 0, .int .i64 0, .int .i64 0, .int .i64 0, .int .i64 0, .int .i64 0], .bool false]) (by simp [results, results68, go_sem, z0, z1, z2, z3, z4, z5, Vr, Vp]; try rfl) rfl ⟨⟨0, 0, 0, 0, 0, 0⟩, false, rfl, ?_, Or.inr (And.intro rfl ?_)⟩
        ·exact Ye
        intro m hm e
        refine Hbad.o (fun z hz ez => ?_) m hm e
        apply Heq.o
        rw [← Hiv.o, Hvn.o z hz ez, ← ez]
      ·have Hvn := bA hvn
       clear hvn
       have hZ := hS6.Z
       refine Ki fun z0 z1 z2 z3 z4 z5 zf zf1 zf2 zf3 zf4 zf5 lZ => ?_
       have hBk := hS6.B
       simp only [Yl] at z0 z1 z2 z3 z4 z5
       go_wp2_with fail
       refine bodyPost_ret (v := .tuple #[.agg #[.int .i64 0, .int .i64 0, .int .i64 0, .int .i64 0, .int .i64 0, .int .i64 0], .bool false]) (by simp [results, results68, go_sem, z0, z1, z2, z3, z4, z5, Vr, Vp]; try rfl) rfl ⟨⟨0, 0, 0, 0, 0, 0⟩, false, rfl, ?_, Or.inr (And.intro rfl ?_)⟩
       ·exact Ye
       intro m hm e
       exact Hbad.o Hvn.o m hm e
   ·obtain rfl : j = pn := Zb
    have hZ := hS.Z
    refine Ki fun z0 z1 z2 z3 z4 z5 zf zf1 zf2 zf3 zf4 zf5 lZ => ?_
    have hBk := hS.B
    have n0 := hS.N.cell 0
    have n1 := hS.N.cell 1
    have n2 := hS.N.cell 2
    have n3 := hS.N.cell 3
    have n4 := hS.N.cell 4
    have n5 := hS.N.cell 5
    have i0 := hS.I.cell 0
    have p1 := hS.P.cell 0
    simp only [Yl] at z0 z1 z2 z3 z4 z5 n0 n1 n2 n3 n4 n5 i0 p1
    clear hS hZ
    have hRd := bA (Hps.o ▸ HRd.o : RdT (k : Int) p0 (iS 32 s) j r n)
    cases is0 with
    | true =>
     cases r with
     | nil =>
      have hdn := bA ((by rw [Hpn.o]; exact hRd.out : RdT (k : Int) p0 (iS 32 s) (cD (k : Int)).length [] n).done HF.o)
      go_upto_region 17 with fail
      go_region
      all_goals (go_wp2_with fail)
      all_goals refine bodyPost_ret (v := .tuple #[.agg #[.int .i64 n.op, .int .i64 n.d, .int .i64 n.a, .int .i64 n.b, .int .i64 n.t, .int .i64 n.e], .bool true]) (by simp [results, results68, go_sem, z0, z1, z2, z3, z4, z5, Vr, Vp]; try rfl) rfl ⟨n, true, rfl, ?_, Or.inl (And.intro rfl hdn.out)⟩
      ·exact Ye
     | cons x r' =>
      rw [List.length_cons] at *
      have l9 : (((r'.length + 1 : Nat) : Int) == 0) = false := by rw [beq_eq_false_iff_ne]; omega
      have hdn := bA (fun m (hm : dW m) (e : s = gC m) => (hRd.out.left HF.o hm e).2.2)
      go_upto_region 17 with fail
      go_region
      all_goals (go_wp2_with fail)
      all_goals refine bodyPost_ret (v := .tuple #[.agg #[.int .i64 n.op, .int .i64 n.d, .int .i64 n.a, .int .i64 n.b, .int .i64 n.t, .int .i64 n.e], .bool false]) (by simp [results, results68, go_sem, z0, z1, z2, z3, z4, z5, Vr, Vp]; try first | rfl | omega) rfl ⟨n, false, rfl, ?_, Or.inr (And.intro rfl ?_)⟩
      ·exact Ye
      ·intro m hm e
       have h9 := hdn.out m hm e
       rw [List.drop_of_length_le (by have := Hpn.o; omega)] at h9
       cases h9
    | false =>
     have hdn := bA (fun m (hm : dW m) (e : s = gC m) => (hRd.out.left HF.o hm e).1)
     go_upto_region 17 with fail
     go_region
     all_goals (go_wp2_with fail)
     all_goals refine bodyPost_ret (v := .tuple #[.agg #[.int .i64 n.op, .int .i64 n.d, .int .i64 n.a, .int .i64 n.b, .int .i64 n.t, .int .i64 n.e], .bool false]) (by simp [results, results68, go_sem, z0, z1, z2, z3, z4, z5, Vr, Vp]; try first | rfl | omega) rfl ⟨n, false, rfl, ?_, Or.inr (And.intro rfl ?_)⟩
     ·exact Ye
     ·intro m hm e
      have h9 := hdn.out m hm e
      cases h9
end
section
open Go.Lib
theorem uA : ∀ {l l' : List Nd} {rest : List UInt8}, (∀ m ∈ l, dW m) → (∀ m ∈ l', dW m) → cV l ++ rest = cV l' → ∃ t, l' = l ++ t ∧ rest = cV t
 | [], l', rest, _, _, h => ⟨l', rfl, h⟩
 | a :: l, [], rest, _, _, h => by simp [cV, jZ] at h
 | a :: l, b :: l', rest, h1, h2, h => by
  have h : gC a ++ 10 :: (cV l ++ rest) = gC b ++ 10 :: cV l' := by simpa [cV, jZ] using h
  obtain ⟨e1, e2⟩ := jQ (kU (h1 a Zf).op) (kU (h2 b Zf).op) h
  obtain ⟨t, e3, e4⟩ := uA (fun m hm => h1 m (by simp [hm])) (fun m hm => h2 m (by simp [hm])) e2
  exact ⟨t, by rw [bCC (h1 a Zf) (h2 b Zf) e1, e3]; rfl, e4⟩
theorem mS (n : Int) (l : List Nd) (rest : List UInt8) : cY n l ++ rest = (tV ++ itoa n) ++ 10 :: (cV l ++ rest) := by
 unfold cY
 simp
theorem rB (n : Int) : (10 : UInt8) ∉ tV ++ itoa n := by
 intro hm
 rcases List.mem_append.1 hm with h1 | h1
 ·revert h1; decide
 ·exact lB n 10 Ze h1
theorem vF {n r : Int} {l l' : List Nd} {rest : List UInt8} (hl : ∀ m ∈ l, dW m) (hl' : ∀ m ∈ l', dW m) (h : cY n l ++ rest = cY r l') : r = n ∧ ∃ t, l' = l ++ t ∧ rest = cV t := by
 have h2 := mS r l' []
 rw [List.append_nil, List.append_nil] at h2
 rw [mS, h2] at h
 obtain ⟨e1, e2⟩ := jQ (rB n) (rB r) h
 exact ⟨(vV (List.append_cancel_left e1)).symm, uA hl hl' e2⟩
theorem bOD {s : List UInt8} (H : ∀ r t, eR r → s ≠ (tV ++ itoa r) ++ 10 :: t) : pJ s := by
 intro r l hc hf hs
 obtain ⟨_, _, h1, h2, _⟩ := qB hc
 have h3 := mS r l []
 rw [List.append_nil, List.append_nil] at h3
 exact H r (cV l) ⟨Zb, Zb⟩ (hs.trans h3)
theorem bHO {s : List UInt8} {n : Int} {l : List Nd} {rest : List UInt8} (hs : s = cY n l ++ rest) (hl : ∀ m ∈ l, dW m) (hne : rest ≠ []) (H : ∀ m t, dW m → rest ≠ gC m ++ 10 :: t) : pJ s := by
 intro r l' hc hf hs'
 have hl' := kE hc hf
 obtain ⟨_, t, h1, h2⟩ := vF hl hl' (hs.symm.trans hs')
 cases t with
 | nil => exact hne h2
 | cons m t => exact H m (cV t) (hl' m (by rw [h1]; simp)) (by rw [h2]; simp [cV, jZ])
theorem bMA {s : List UInt8} {n : Int} {l : List Nd} {rest : List UInt8} (hs : s = cY n l ++ rest) (hl : ∀ m ∈ l, dW m) (h : (rest = [] ∧ chk n l ≠ 0) ∨ 256 < l.length) : pJ s := by
 intro r l' hc hf hs'
 have hl' := kE hc hf
 obtain ⟨h0, t, h1, h2⟩ := vF hl hl' (hs.symm.trans hs')
 rcases h with ⟨h3, h4⟩ | h3
 ·cases t with
  | nil => rw [List.append_nil] at h1; rw [← h0, ← h1] at h4; exact h4 hc
  | cons m t => rw [h3] at h2; simp [cV, jZ] at h2
 ·obtain ⟨_, h4, _⟩ := qB hc
  rw [h1, Vu] at h4
  omega
theorem bFA {n : Int} {l : List Nd} {m : Nd} {r : List UInt8} : cY n l ++ (gC m ++ 10 :: r) = cY n (l ++ [m]) ++ r := by
 rw [mS, mS]
 simp [cV, jZ]
end
end Go.Proofs.YtmghkonmfbpjcaaGreatDoor
