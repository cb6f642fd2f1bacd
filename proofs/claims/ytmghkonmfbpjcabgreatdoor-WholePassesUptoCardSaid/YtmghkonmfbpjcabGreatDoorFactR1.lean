/- Parts. -/
import Derived.Test.YtmghkonmfbpjcabGreatDoorGF
set_option linter.unusedVariables false
set_option linter.unusedSimpArgs false
set_option maxRecDepth 100000
set_option maxHeartbeats 8000000
namespace Go.Proofs.YtmghkonmfbpjcabGreatDoor
open Go.RowKit
open Go.Proofs.Tryz
section
attribute [local irreducible] Row madeCells
theorem tD : Go.yielded.match_1 (fun _ => Option Bool) (some undef) (fun b => some b) (fun _ => none) = none := rfl
abbrev rfr (regs : Int) (A : Option Addr) (l : List Nd) (cap : Nat) (t : Tm) (B g0 g1 g2 g3 g4 g5 : Nat) (nx ax : Value) (u : Nat → Value) : Array Value :=
 #[.agg #[.int .i64 regs, .slice A l.length cap], .agg #[.int .i64 t.op, .int .i64 t.a, .int .i64 t.b], .pointer (some ⟨B, 0, none⟩), .pointer (some ⟨B + 1, 0, none⟩), .pointer (some ⟨B + 1 + 1, 0, none⟩), .pointer (some ⟨B + 1 + 1 + 1, 0, none⟩), .func (.func 148) #[] #[.pointer (some ⟨B + 1 + 1 + 1, 0, none⟩)], .slice (some ⟨g0, 0, none⟩) l.length l.length, .slice (some ⟨g1, 0, none⟩) l.length l.length, .slice (some ⟨g3, 0, none⟩) l.length l.length, .slice (some ⟨g5, 0, none⟩) l.length l.length, .slice (some ⟨g2, 0, none⟩) l.length l.length, .slice (some ⟨g4, 0, none⟩) l.length l.length, nx, ax, u 15, u 16, u 17, u 18, u 19, u 20, u 21, u 22, u 23, u 24, u 25, u 26, u 27, u 28, u 29, u 30, u 31, u 32, u 33, u 34, u 35, u 36, u 37, u 38, u 39, u 40, u 41, u 42, u 43, u 44, u 45, u 46, u 47, u 48, u 49, u 50, u 51, u 52, u 53, u 54, u 55, u 56, u 57, u 58, u 59, u 60, u 61, u 62, u 63, u 64, u 65, u 66, u 67, u 68, u 69, u 70, u 71, u 72, u 73, u 74, u 75, u 76, u 77, u 78, u 79, u 80, u 81, u 82, u 83, u 84, u 85, u 86, u 87, u 88, u 89, u 90, u 91, u 92, u 93, u 94, u 95, u 96, u 97, u 98, u 99, u 100, u 101, u 102, u 103, u 104, u 105, u 106, u 107, u 108, u 109, u 110, u 111, u 112, u 113, u 114, u 115, u 116, u 117, u 118, u 119, u 120, u 121, u 122, u 123, u 124, u 125, u 126, u 127, u 128, u 129, u 130, u 131, u 132, u 133, u 134, u 135, u 136, u 137, u 138, u 139, u 140, u 141, u 142, u 143, u 144, u 145, u 146, u 147, u 148, u 149, u 150, u 151, u 152, u 153, u 154, u 155, u 156, u 157, u 158, u 159, u 160, u 161, u 162, u 163, u 164, u 165, u 166, u 167, u 168, u 169, u 170, u 171, u 172, u 173, u 174, u 175, u 176, u 177, u 178, u 179, u 180, u 181, u 182, u 183, u 184, u 185, u 186, u 187, u 188, u 189, u 190, u 191, u 192, u 193, u 194, u 195, u 196, u 197, u 198, u 199, u 200, u 201, u 202, u 203, u 204, u 205, u 206, u 207, u 208, u 209, u 210, u 211, u 212, u 213, u 214, u 215, u 216, u 217, u 218, u 219, u 220, u 221, u 222, u 223, u 224, u 225, u 226, u 227, u 228, u 229, u 230, u 231, u 232, u 233, u 234, u 235, u 236, u 237, u 238, u 239, u 240, u 241, u 242, u 243, u 244, u 245, u 246, u 247, u 248, u 249, u 250, u 251, u 252, u 253, u 254, u 255, u 256, u 257, u 258, u 259, u 260, u 261, u 262, u 263, u 264, u 265, u 266, u 267, u 268, u 269, u 270, u 271, u 272, u 273, u 274, u 275, u 276, u 277, u 278, u 279, u 280, u 281, u 282, u 283, u 284, u 285, u 286, u 287, u 288, u 289, u 290, u 291, u 292, u 293, u 294, u 295, u 296, u 297, u 298, u 299, u 300, u 301, u 302, u 303, u 304, u 305, u 306, u 307, u 308, u 309, u 310, u 311, u 312, u 313, u 314, u 315, u 316, u 317, u 318, u 319, u 320, u 321, u 322, u 323, u 324, u 325, u 326, u 327, u 328, u 329, u 330, u 331, u 332, u 333, u 334, u 335, u 336, u 337, u 338, u 339, u 340, u 341, u 342, u 343, u 344, u 345, u 346, u 347, u 348, u 349, u 350, u 351, u 352, u 353, u 354, u 355, u 356, u 357, u 358, u 359, u 360, u 361, u 362, u 363, u 364, u 365, u 366, u 367, u 368, u 369, u 370, u 371, u 372, u 373, u 374, u 375, u 376, u 377, u 378, u 379, u 380, u 381, u 382, u 383, u 384, u 385, u 386, u 387, u 388, u 389, u 390, u 391, u 392, u 393, u 394, u 395, u 396, u 397, u 398, u 399, u 400, u 401, u 402, u 403, u 404, u 405, u 406, u 407, u 408, u 409, u 410, u 411, u 412, u 413, u 414, u 415, u 416, u 417, u 418, u 419, u 420, u 421, u 422, u 423, u 424, u 425, u 426, u 427, u 428]
theorem RSt.at_ {tP tT tF tZ tB tS tI : TypeId} {B : Nat} {w : World} {pc tc : Array Value} {n : Nat} {l : List Nd} {nx ax : Value} {m1 m2 : Nat} {g : Nat → Nat} {x : Nat → List Bool} {W : World} (h : RSt tP tT tF tZ tB tS tI B w pc tc n l nx ax m1 m2 g x W) {i : Nat} (hi : i < 6) {k : Nat} (hk : k < n) {gi : Nat} (hg : g i = gi) :
 W.cell? ⟨gi, k, none⟩ = some (.bool (yn (x i) k)) ∧ W.frozen? ⟨gi, k, none⟩ = false ∧ gi < W.heap.size := by (
 subst hg
 obtain ⟨h1, h2⟩ := (h.rows i hi).1.bool_at_ (k := k) (by rw [(h.rows i hi).2]; exact hk)
 exact ⟨h1, h2, cZ (h.rows i hi).1⟩)
noncomputable def vS (k : Nat) : Code := bRJ f104.body k
abbrev RS (regs : Int) (A : Option Addr) (l : List Nd) (cap : Nat) (t : Tm) (w : World) (g0 g1 g2 g3 g4 g5 : Nat) (nx ax : Value) (m1 m2 : Nat) (x : Nat → List Bool) (W : World) : Prop :=
 RSt 24 56 152 3 4 25 3 w.heap.size w #[.int .i64 regs, .slice A l.length cap] #[.int .i64 t.op, .int .i64 t.a, .int .i64 t.b] l.length l nx ax m1 m2 (six g0 g1 g2 g3 g4 g5) x W
set_option maxRecDepth 1000000 in
theorem bRG (regs : Int) (A : Option Addr) (l : List Nd) (cap : Nat) (t : Tm) (w : World) (hA : bH w A l) (hR : bM regs l) (g0 g1 g2 g3 g4 g5 : Nat) (x : Nat → List Bool) (a : Act) (W : World) (Q : Exit → Act → World → Prop)
 (hd : a.defers = []) (ha : a.tmps = rfr regs A l cap t w.heap.size g0 g1 g2 g3 g4 g5 (.slice none 0 0) (.slice none 0 0) (fK a.tmps)) (hi : fK a.tmps 15 = .int .i64 0)
 (hS : RS regs A l cap t w g0 g1 g2 g3 g4 g5 (.slice none 0 0) (.slice none 0 0) 0 0 x W)
 (hexit : ∀ (a' : Act) (W' : World) (nx ax : Value), a'.defers = [] → a'.tmps = rfr regs A l cap t w.heap.size g0 g1 g2 g3 g4 g5 nx ax (fK a'.tmps) → RS regs A l cap t w g0 g1 g2 g3 g4 g5 nx ax l.length l.length x W' → Q (.exit 0) a' W') :
 Code.wp prog (Code.loop (vS 0)) Q a W := by (
 conv => arg 2; arg 1; whnf
 obtain ⟨tm, df⟩ := a
 simp only at hd ha hi
 subst hd
 generalize fK tm = u at ha hi
 subst ha
 dsimp only [rfr]
 rw [hi]
 have hlo := hR.lo
 have hhi := hR.hi
 obtain ⟨ii, hii, hiz, his, hib⟩ := info_parts wJ
 have HX := bA hexit
 clear hi hexit
 go_loopg [13, 14, 15] (l.length) (fun gk s13 s14 i wr => ∃ k : Nat, k ≤ l.length ∧ i = .int .i64 k ∧ gk = l.length - k ∧ RS regs A l cap t w g0 g1 g2 g3 g4 g5 s13 s14 k k x wr)
 case atStart => exact ⟨0, Nat.zero_le _, rfl, rfl, hS⟩
 case round => (
 obtain ⟨k, hk, rfl, hgk, hS1⟩ := hrel
 have Hgk := bA hgk
 clear hgk hS
 have p0 := hS1.p.cell 0
 have p1 := hS1.p.cell 1
 have lp := hS1.p.lt
 have s0 := hS1.s.cell 0
 have ls := hS1.s.lt
 simp only [Yl] at p0 p1 s0
 by_cases hlt : k < l.length
 · (
 go_wp2_with fail
 refine (bHR regs A l cap _ k hlt hhi (hA.below hS1.below)).mono ?_
 rintro e w2 ⟨v2, rfl, hr2, hb2⟩
 have hx2 : sel (qT l k) l.length = bF true l k := rfl
 rw [hx2] at hr2
 obtain ⟨R2, c2, rfl, _, _⟩ := hr2.shape
 rw [bJ] at hr2 ⊢
 have hS2 := (hS1.later hb2).later ((Below.refl _ _).alloc (Nat.le_refl _) (.cells #[.slice R2 (bF true l k).length c2] 25))
 have hr2 := (hr2.mono hS1.sz).alloc (.cells #[.slice R2 (bF true l k).length c2] 25)
 obtain ⟨vn, e1, e2, e3⟩ := hS2.nxt
 obtain ⟨An, cn, hvn, _, _⟩ := e2.shape
 rw [e1] at hvn
 subst hvn
 have E3 := bA e3
 have E2 := bA e2
 have HS2 := bA hS2
 have HR2 := bA hr2
 have hz2 := hS2.sz
 simp only [World.size_alloc] at hz2
 clear e2 e3 hS2 hr2 hS1 hb2 p0 p1 lp s0 ls
 go_wp2_with (at_builtin; go_loud (refine bV (v := .slice An k cn) rfl _ _ _ rfl ii _ 24 underlying72 hii hiz his hib rfl rfl E2.out (some ⟨w2.heap.size, 0, none⟩) 1 1 [.slice R2 (bF true l k).length c2] rfl rfl (dU Zf) Zk Zq Zh Zh ?_); intro v3 w3 hr3 hg3 hat3; have hS3 := HS2.o.addN (R := .nilIface) e1 E2.out E3.out HR2.o hg3 hr3 hat3; have p0 := hS3.p.cell 0; have p1 := hS3.p.cell 1; have lp := hS3.p.lt; have s0 := hS3.s.cell 0; have ls := hS3.s.lt; simp only [Yl] at p0 p1 s0)
 obtain ⟨A3, c3, hv3, _, _⟩ := hr3.shape
 have hl3 : (vn ++ [Value.slice R2 (bF true l k).length c2]).length = k + 1 := by simp [e1]
 rw [hl3] at hv3
 subst hv3
 refine (uO regs A l cap _ k hlt hhi (hA.below hS3.below)).mono ?_
 rintro e w4 ⟨v4, rfl, hr4, hb4⟩
 have hx4 : sel (fO l k) l.length = bF false l k := rfl
 rw [hx4] at hr4
 obtain ⟨R4, c4, rfl, _, _⟩ := hr4.shape
 rw [bJ] at hr4 ⊢
 have hS4 := (hS3.later hb4).later ((Below.refl _ _).alloc (Nat.le_refl _) (.cells #[.slice R4 (bF false l k).length c4] 25))
 have hr4 := (hr4.mono hS3.sz).alloc (.cells #[.slice R4 (bF false l k).length c4] 25)
 obtain ⟨va, d1, d2, d3⟩ := hS4.ahd
 obtain ⟨Aa, ca, hva, _, _⟩ := d2.shape
 rw [d1] at hva
 subst hva
 have D3 := bA d3
 have D2 := bA d2
 have HS4 := bA hS4
 have HR4 := bA hr4
 have hz4 := hS4.sz
 simp only [World.size_alloc] at hz4
 clear d2 d3 hS4 hr4 hS3 hb4 p0 p1 lp s0 ls hr3 hg3 hat3 E2 E3 HS2 HR2 hz2
 go_wp2_with (at_builtin; refine bV (v := .slice Aa k ca) rfl _ _ _ rfl ii _ 24 underlying72 hii hiz his hib rfl rfl D2.out (some ⟨w4.heap.size, 0, none⟩) 1 1 [.slice R4 (bF false l k).length c4] rfl rfl (dU Zf) Zk Zq Zh Zh ?_; intro v5 w5 hr5 hg5 hat5)
 go_roundg (l.length - (k + 1))
 case measure => exact Jg
 case rel => exact ⟨k + 1, Zb, by go_num, rfl, HS4.o.addA (R := .nilIface) d1 D2.out D3.out HR4.o hg5 hr5 hat5⟩)
 · (
 have hkk : k = l.length := Zb
 subst hkk
 have HS1 := bA hS1
 clear hS1
 go_wp2_with fail
 exact HX.o _ _ _ _ rfl Zc HS1.o)))
end
end Go.Proofs.YtmghkonmfbpjcabGreatDoor
