/- Walk: a round of the program's batch: a task arrives. (Printed by gen_batchb.py.) -/
import Derived.Test.YtjjnbbkdjimcoaaGreatBatchA
import Derived.Test.YtjjnbbkdjimcoaaGreatDone
import Derived.Test.YtjjnbbkdjimcoaaGreatJ2
import Derived.Deep.Cut
namespace Go.Proofs.YtjjnbbkdjimcoaaGreat
set_option linter.unusedSimpArgs false
set_option linter.unusedVariables false
open Go Go.RowKit
attribute [local go_sem ↓] Go.wp_at_zero Go.wp_at_succ

/-- The parts of a piece of code. -/
def sndC : Code → Code
  | .seq _ y => y
  | c => c
def fstC : Code → Code
  | .seq x _ => x
  | c => c
def inC : Code → Code
  | .block _ c => c
  | .loop c => c
  | c => c
/-- Slots that are known, of 66. -/
def SL (a : Act) (l : List (Nat × Value)) : Prop := a.defers = [] ∧ a.tmps.size = 66 ∧ ∀ p ∈ l, a.tmps[p.1]? = some p.2
set_option maxRecDepth 100000 in
theorem arr66 (x : Array Value) (h : x.size = 66) : x = #[x.getD 0 undef, x.getD 1 undef, x.getD 2 undef, x.getD 3 undef, x.getD 4 undef, x.getD 5 undef, x.getD 6 undef, x.getD 7 undef, x.getD 8 undef, x.getD 9 undef, x.getD 10 undef, x.getD 11 undef, x.getD 12 undef, x.getD 13 undef, x.getD 14 undef, x.getD 15 undef, x.getD 16 undef, x.getD 17 undef, x.getD 18 undef, x.getD 19 undef, x.getD 20 undef, x.getD 21 undef, x.getD 22 undef, x.getD 23 undef, x.getD 24 undef, x.getD 25 undef, x.getD 26 undef, x.getD 27 undef, x.getD 28 undef, x.getD 29 undef, x.getD 30 undef, x.getD 31 undef, x.getD 32 undef, x.getD 33 undef, x.getD 34 undef, x.getD 35 undef, x.getD 36 undef, x.getD 37 undef, x.getD 38 undef, x.getD 39 undef, x.getD 40 undef, x.getD 41 undef, x.getD 42 undef, x.getD 43 undef, x.getD 44 undef, x.getD 45 undef, x.getD 46 undef, x.getD 47 undef, x.getD 48 undef, x.getD 49 undef, x.getD 50 undef, x.getD 51 undef, x.getD 52 undef, x.getD 53 undef, x.getD 54 undef, x.getD 55 undef, x.getD 56 undef, x.getD 57 undef, x.getD 58 undef, x.getD 59 undef, x.getD 60 undef, x.getD 61 undef, x.getD 62 undef, x.getD 63 undef, x.getD 64 undef, x.getD 65 undef] := by
  refine Array.ext (by simp [h]) (fun i h1 h2 => ?_)
  have hi : i < 66 := by omega
  have e : x[i] = x.getD i undef := by simp [Array.getD, h1]
  rw [e]
  clear e h1
  have hc : i = 0 ∨ i = 1 ∨ i = 2 ∨ i = 3 ∨ i = 4 ∨ i = 5 ∨ i = 6 ∨ i = 7 ∨ i = 8 ∨ i = 9 ∨ i = 10 ∨ i = 11 ∨ i = 12 ∨ i = 13 ∨ i = 14 ∨ i = 15 ∨ i = 16 ∨ i = 17 ∨ i = 18 ∨ i = 19 ∨ i = 20 ∨ i = 21 ∨ i = 22 ∨ i = 23 ∨ i = 24 ∨ i = 25 ∨ i = 26 ∨ i = 27 ∨ i = 28 ∨ i = 29 ∨ i = 30 ∨ i = 31 ∨ i = 32 ∨ i = 33 ∨ i = 34 ∨ i = 35 ∨ i = 36 ∨ i = 37 ∨ i = 38 ∨ i = 39 ∨ i = 40 ∨ i = 41 ∨ i = 42 ∨ i = 43 ∨ i = 44 ∨ i = 45 ∨ i = 46 ∨ i = 47 ∨ i = 48 ∨ i = 49 ∨ i = 50 ∨ i = 51 ∨ i = 52 ∨ i = 53 ∨ i = 54 ∨ i = 55 ∨ i = 56 ∨ i = 57 ∨ i = 58 ∨ i = 59 ∨ i = 60 ∨ i = 61 ∨ i = 62 ∨ i = 63 ∨ i = 64 ∨ i = 65 := by omega
  rcases hc with rfl | rfl | rfl | rfl | rfl | rfl | rfl | rfl | rfl | rfl | rfl | rfl | rfl | rfl | rfl | rfl | rfl | rfl | rfl | rfl | rfl | rfl | rfl | rfl | rfl | rfl | rfl | rfl | rfl | rfl | rfl | rfl | rfl | rfl | rfl | rfl | rfl | rfl | rfl | rfl | rfl | rfl | rfl | rfl | rfl | rfl | rfl | rfl | rfl | rfl | rfl | rfl | rfl | rfl | rfl | rfl | rfl | rfl | rfl | rfl | rfl | rfl | rfl | rfl | rfl | rfl <;> rfl
set_option maxRecDepth 100000 in
theorem SL.lit {a : Act} {l : List (Nat × Value)} (h : SL a l) : ∃ u : Nat → Value, a = ⟨#[u 0, u 1, u 2, u 3, u 4, u 5, u 6, u 7, u 8, u 9, u 10, u 11, u 12, u 13, u 14, u 15, u 16, u 17, u 18, u 19, u 20, u 21, u 22, u 23, u 24, u 25, u 26, u 27, u 28, u 29, u 30, u 31, u 32, u 33, u 34, u 35, u 36, u 37, u 38, u 39, u 40, u 41, u 42, u 43, u 44, u 45, u 46, u 47, u 48, u 49, u 50, u 51, u 52, u 53, u 54, u 55, u 56, u 57, u 58, u 59, u 60, u 61, u 62, u 63, u 64, u 65], []⟩ ∧ ∀ p ∈ l, u p.1 = p.2 := by
  obtain ⟨tm, df⟩ := a
  obtain ⟨h1, h2, h3⟩ := h
  refine ⟨fun i => tm.getD i undef, ?_, fun p hp => ?_⟩
  · rw [show df = [] from h1]
    exact congrArg (fun x => Act.mk x []) (arr66 tm h2)
  · have := h3 p hp
    dsimp only at this ⊢
    rw [Array.getD_eq_getD_getElem?, this]
    rfl

theorem openN_le (us : List Un) : openN us ≤ us.length := List.length_filter_le _ _
theorem cav_room {room : List Int} {us : List Un} {id : Int} {xs : List Int} {b : Bool} (h : clOk room us = true) : (cavP room us id xs b).1 = room := (cav_facts h).1

set_option maxRecDepth 200000 in
set_option maxHeartbeats 6400000 in
theorem batchRound_any (u0 u1 u4 u5 u7 u8 u9 u10 u11 u14 u15 u16 u17 u18 u19 u20 u21 u22 u23 u24 u25 u26 u27 u28 u29 u30 u31 u32 u36 u37 u38 u39 u40 u41 u42 u43 u44 u45 u46 u47 u48 u49 u50 u51 u52 u53 u54 u55 u56 u57 u58 u59 u60 u61 u62 u63 u64 u65 : Value) (g0 r0 bm ch base : Nat) (gi : Int) (zb : Bool) (id : Int) (xs : List Int) (An : Option Addr) (mn cn : Nat) (A3 A4 : Option Addr) (m3 c3 m4 c4 : Nat) (room : List Int) (usi : List Un) (l : List (Int × Value)) (w : World) (K : Act → World → Prop) (Q0 : Exit → Act → World → Prop)
    (hX : Blk w g0 26 #[.slice A3 m3 c3, .slice A4 m4 c4]) (hO : OwnC w base (.slice A3 m3 c3) (.slice A4 m4 c4) m3 m4 room usi) (hM : IMap w bm l) (hN : w.ownsRow 0 3 1 (.slice An mn cn) mn (xs.map (Value.int .i64)))
    (hbs : base ≤ w.heap.size) (hc : clOk room usi = true) (hl : lookL l id = none) (hg0 : 0 ≤ gi) (hg1 : gi ≤ 10)
    (hK : ∀ (u0 u1 u4 u5 u7 u8 u9 u10 u11 u14 u15 u16 u17 u18 u19 u20 u21 u22 u23 u24 u25 u26 u27 u28 u29 u30 u31 u32 u34 u35 u36 u37 u38 u39 u40 u41 u42 u43 u44 u45 u46 u47 u48 u49 u50 u51 u52 u53 u54 u55 u56 u57 u58 u59 u60 u61 u62 u63 u64 u65 : Value) (A5 : Option Addr) (m5 c5 : Nat) (A6 : Option Addr) (m6 c6 : Nat) (w' : World), Blk w' g0 26 #[.slice A5 m5 c5, .slice A6 m6 c6] → OwnC w' base (.slice A5 m5 c5) (.slice A6 m6 c6) m5 m6 room (cavP room usi id xs (decide (0 < gi))).2.1 →
      IMap w' bm (l ++ [(id, .int .i64 (cavP room usi id xs (decide (0 < gi))).2.2)]) → OnlyQ w w' g0 bm → K ⟨#[u0, u1, .int .i64 (gi - ((openN (cavP room usi id xs (decide (0 < gi))).2.1 : Int) - openN usi)), .pointer (some ⟨g0, 0, none⟩), u4, u5, .pointer (some ⟨r0, 0, none⟩), u7, u8, u9, u10, u11, .map (some bm), .bool (zb && ((cavP room usi id xs (decide (0 < gi))).2.2 == 0)), u14, u15, u16, u17, u18, u19, u20, u21, u22, u23, u24, u25, u26, u27, u28, u29, u30, u31, u32, .chan (some ch), u34, u35, u36, u37, u38, u39, u40, u41, u42, u43, u44, u45, u46, u47, u48, u49, u50, u51, u52, u53, u54, u55, u56, u57, u58, u59, u60, u61, u62, u63, u64, u65], []⟩ w') :
    (sndC (sndC (inC (inC (sndC (fstC (sndC (sndC (sndC (sndC (sndC (Tryz.f47.body.getD .skip)))))))))))).wp Tryz.prog (Exit.then K Q0) ⟨#[u0, u1, .int .i64 gi, .pointer (some ⟨g0, 0, none⟩), u4, u5, .pointer (some ⟨r0, 0, none⟩), u7, u8, u9, u10, u11, .map (some bm), .bool zb, u14, u15, u16, u17, u18, u19, u20, u21, u22, u23, u24, u25, u26, u27, u28, u29, u30, u31, u32, .chan (some ch), .tuple #[.agg #[.int .i64 id, .slice An mn cn], .bool true], .bool true, u36, u37, u38, u39, u40, u41, u42, u43, u44, u45, u46, u47, u48, u49, u50, u51, u52, u53, u54, u55, u56, u57, u58, u59, u60, u61, u62, u63, u64, u65], []⟩ w := by
  have Hc := qh hc
  have HX := qh hX
  have HO := qh hO
  have HM := qh hM
  have HN := qh hN
  have Hl := qh hl
  have HS := qh (clOk_sh hc)
  have hmn := own_cap' hN
  have hgm := qh (show g0 ≠ bm from fun e => by
    obtain ⟨es, clock, hb, _⟩ := hM
    unfold Blk at hX
    rw [e, hb] at hX
    cases hX)
  clear hc hX hO hM hN hl
  simp only [sndC, fstC, inC, Tryz.f47, Option.getD_some]
  -- the task's box
  have al := alloc_up w (.cells #[.int .i64 id, .slice An mn cn] 43)
  have X1 := qh (HX.out.below al HX.out.lt)
  have O1 := qh (HO.out.keepTU (KeepTU.up al))
  have M1 := qh (HM.out.below al HM.out.lt)
  have N1 := qh (own_up' HN.out al)
  have T1 := qh (Blk.new w 43 #[.int .i64 id, .slice An mn cn])
  have F1 := qh (OnlyQ.of (q := g0) ((OnlyG.refl w bm).below al))
  have lb1 : base ≤ (w.alloc (.cells #[.int .i64 id, .slice An mn cn] 43)).heap.size := Nat.le_trans hbs al.size
  have lgx := HX.out.lt
  have lmx := HM.out.lt
  have x0 := X1.out.cell 0
  have x1 := X1.out.cell 1
  simp only [gT, gZ, gS] at x0 x1
  clear al HX HO HM HN
  go_wp2_with fail
  generalize hbx : w.heap.size = bx at T1 lgx lmx ⊢
  generalize w.alloc (.cells #[.int .i64 id, .slice An mn cn] 43) = w1 at X1 O1 M1 N1 T1 F1 lb1 x0 x1 ⊢
  have hm3 := O1.out.len
  have hl3 : room.length = 3 := (clOk_facts Hc.out).1
  have D1 := qh (O1.out.rd (by omega) HS.out)
  have hu10 := (clOk_facts Hc.out).2.2.1
  have hul := D1.out.b.len
  refine (countOpen_any A3 A4 m3 c3 m4 c4 room usi w1 D1.out (by omega)).mono ?_; rintro e w2 ⟨rfl, hb2⟩
  have X2 := qh (X1.out.below hb2 X1.out.lt)
  have O2 := qh (O1.out.keepTU (KeepTU.up hb2))
  have M2 := qh (M1.out.below hb2 M1.out.lt)
  have N2 := qh (own_up' N1.out hb2)
  have T2 := qh (T1.out.below hb2 T1.out.lt)
  have F2 := qh (F1.out.trans (OnlyQ.of (q := g0) ((OnlyG.refl w1 bm).below hb2)))
  have D2 := qh (D1.out.up hb2)
  have lb2 : base ≤ w2.heap.size := Nat.le_trans lb1 hb2.size
  have x0 := X2.out.cell 0
  have x1 := X2.out.cell 1
  have y0 := T2.out.cell 0
  have y1 := T2.out.cell 1
  simp only [gT, gZ, gS] at x0 x1 y0 y1
  clear hb2 X1 O1 M1 N1 T1 F1 D1 lb1
  go_wp2_with fail
  have hle := own_le N2.out
  refine (clusterArriveI_any A3 A4 m3 c3 m4 c4 room usi An mn cn id xs (decide (0 < gi)) w2 D2.out HS.out.v (RdI.of_own N2.out hle) hmn).mono ?_; rintro e w3 ⟨A5, m5, c5, A6, m6, c6, rfl, hoc, hb3⟩
  have hcf := cav_facts (id := id) (xs := xs) (g := decide (0 < gi)) Hc.out
  have hop := cav_open (id := id) (xs := xs) (g := decide (0 < gi)) Hc.out
  obtain ⟨rm, un, cd, hp⟩ : ∃ rm un cd, cavP room usi id xs (decide (0 < gi)) = (rm, un, cd) := ⟨_, _, _, rfl⟩
  rw [hp] at hcf hop
  dsimp only at hcf hop
  rw [hp] at hoc hK ⊢
  dsimp only at hoc hK ⊢
  obtain ⟨e1, hcu, _, _⟩ := hcf
  subst e1
  have HCu := qh hcu
  have hS3 := qh (clOk_sh hcu)
  have hu3 := (clOk_facts hcu).2.2.1
  have on1 := openN_le usi
  have on2 := openN_le un
  have onb : openN un ≤ openN usi + 1 ∧ openN usi ≤ openN un := by rcases hop with h | ⟨_, _, h⟩ <;> omega
  have v1 : IntKind.i64.wrap ((openN un : Int) - (openN usi : Int)) = (openN un : Int) - (openN usi : Int) := wr64 (by omega) (by omega)
  have v2 : IntKind.i64.wrap (gi - ((openN un : Int) - (openN usi : Int))) = gi - ((openN un : Int) - (openN usi : Int)) := wr64 (by omega) (by omega)
  have OC3 := qh (hoc.low lb2)
  have X3 := qh (X2.out.below hb3 X2.out.lt)
  have M3 := qh (M2.out.below hb3 M2.out.lt)
  have T3 := qh (T2.out.below hb3 T2.out.lt)
  have F3 := qh (F2.out.trans (OnlyQ.of (q := g0) ((OnlyG.refl w2 bm).below hb3)))
  clear hp hcu hoc hb3 X2 O2 M2 N2 T2 F2 D2 hop x0 x1 y0 y1
  -- next
  have al := alloc_up w3 (.cells #[.slice A5 m5 c5, .slice A6 m6 c6] 26)
  have X4 := qh (X3.out.below al X3.out.lt)
  have O4 := qh (OC3.out.keepTU (KeepTU.up al))
  have M4 := qh (M3.out.below al M3.out.lt)
  have T4 := qh (T3.out.below al T3.out.lt)
  have F4 := qh (F3.out.trans (OnlyQ.of (q := g0) ((OnlyG.refl w3 bm).below al)))
  have Z4 := qh (Blk.new w3 26 #[.slice A5 m5 c5, .slice A6 m6 c6])
  have lgz := X3.out.lt
  clear al X3 OC3 M3 T3 F3
  go_wp2_with fail
  generalize hbn : w3.heap.size = bn at Z4 lgz ⊢
  generalize w3.alloc (.cells #[.slice A5 m5 c5, .slice A6 m6 c6] 26) = w4 at X4 O4 M4 T4 F4 Z4 ⊢
  have D4 := qh (O4.out.rd (by have := O4.out.len; omega) hS3.out)
  refine (countOpen_any A5 A6 m5 c5 m6 c6 _ un w4 D4.out (by have := D4.out.b.len; omega)).mono ?_; rintro e w5 ⟨rfl, hb5⟩
  have X5 := qh (X4.out.below hb5 X4.out.lt)
  have O5 := qh (O4.out.keepTU (KeepTU.up hb5))
  have M5 := qh (M4.out.below hb5 M4.out.lt)
  have T5 := qh (T4.out.below hb5 T4.out.lt)
  have F5 := qh (F4.out.trans (OnlyQ.of (q := g0) ((OnlyG.refl w4 bm).below hb5)))
  have Z5 := qh (Z4.out.below hb5 Z4.out.lt)
  have z0 := Z5.out.cell 0
  have z1 := Z5.out.cell 1
  have x0 := X5.out.cell 0
  have x1 := X5.out.cell 1
  simp only [gT, gZ, gS] at z0 z1 x0 x1
  have f0 := X5.out.frozen 0
  have f1 := X5.out.frozen 1
  have X6 := qh ((X5.out.set_ 0 (.slice A5 m5 c5)).set_ 1 (.slice A6 m6 c6))
  have M6 := qh ((M5.out.setCell (p := ⟨g0, 0, none⟩) (by show bm ≠ g0; exact fun e => hgm.out e.symm) (.slice A5 m5 c5)).setCell (p := ⟨g0, 1, none⟩) (by show bm ≠ g0; exact fun e => hgm.out e.symm) (.slice A6 m6 c6))
  have O6 := qh (O5.out.keepTU ((KeepTU.set_ X5.out (by decide) (by decide) (by decide) 0 (.slice A5 m5 c5)).trans (KeepTU.set_ (X5.out.set_ 0 (.slice A5 m5 c5)) (by decide) (by decide) (by decide) 1 (.slice A6 m6 c6))))
  have hbxg : bx ≠ g0 := fun e => by omega
  have T6 := qh ((T5.out.far (p := ⟨g0, 0, none⟩) hbxg (.slice A5 m5 c5)).far (p := ⟨g0, 1, none⟩) hbxg (.slice A6 m6 c6))
  have F6 := qh (F5.out.trans (OnlyQ.ofq (g := bm) (((OnlyG.refl w5 g0).set_g 0 (.slice A5 m5 c5)).set_g 1 (.slice A6 m6 c6))))
  clear hb5 X4 O4 M4 T4 F4 Z4 D4 X5 O5 M5 T5 F5
  go_upto_region 16 with fail
  clear z0 z1 x0 x1 f0 f1 Z5
  generalize (w5.setCell ⟨g0, 0, none⟩ (.slice A5 m5 c5)).setCell ⟨g0, 1, none⟩ (.slice A6 m6 c6) = w6 at X6 M6 O6 T6 F6 ⊢
  have y0 := T6.out.cell 0
  simp only [gT, gZ] at y0
  cases zb with
  | true =>
    go_wp2_with (refine wpList_put rfl _ _ _ 67 rfl 3 3 Tryz.underlying67 Tryz.underlying3 bm l rfl M6.out id (.int .i64 cd) rfl rfl Hl.out ?_; intro w7 hm7 hg7)
    have hne7 : ∀ b t cs, Blk w6 b t cs → some b ≠ some bm := fun b t cs hb e => by
      injection e with e
      obtain ⟨es, clock, h1, _⟩ := M6.out
      unfold Blk at hb
      rw [e, h1] at hb
      cases hb
    refine hK _ _ _ _ _ _ _ _ _ _ _ _ _ _ _ _ _ _ _ _ _ _ _ _ _ _ _ _ _ _ _ _ _ _ _ _ _ _ _ _ _ _ _ _ _ _ _ _ _ _ _ _ _ _ _ _ _ _ _ _ A5 m5 c5 A6 m6 c6 w7 (X6.out.grown hg7 (hne7 _ _ _ X6.out)) (O6.out.keepTU (fun b hb => ?_)) hm7 (F6.out.trans (OnlyQ.of ⟨hg7.os, hg7.tape, hg7.output, hg7.size, fun b hb hne => hg7.block b hb (fun e => hne (by injection e))⟩))
    obtain ⟨t, cs, _, hc⟩ := hb
    exact hg7.block b hc.lt (hne7 _ _ _ hc)
  | false =>
    go_wp2_with (refine wpList_put rfl _ _ _ 67 rfl 3 3 Tryz.underlying67 Tryz.underlying3 bm l rfl M6.out id (.int .i64 cd) rfl rfl Hl.out ?_; intro w7 hm7 hg7)
    have hne7 : ∀ b t cs, Blk w6 b t cs → some b ≠ some bm := fun b t cs hb e => by
      injection e with e
      obtain ⟨es, clock, h1, _⟩ := M6.out
      unfold Blk at hb
      rw [e, h1] at hb
      cases hb
    refine hK _ _ _ _ _ _ _ _ _ _ _ _ _ _ _ _ _ _ _ _ _ _ _ _ _ _ _ _ _ _ _ _ _ _ _ _ _ _ _ _ _ _ _ _ _ _ _ _ _ _ _ _ _ _ _ _ _ _ _ _ A5 m5 c5 A6 m6 c6 w7 (X6.out.grown hg7 (hne7 _ _ _ X6.out)) (O6.out.keepTU (fun b hb => ?_)) hm7 (F6.out.trans (OnlyQ.of ⟨hg7.os, hg7.tape, hg7.output, hg7.size, fun b hb hne => hg7.block b hb (fun e => hne (by injection e))⟩))
    obtain ⟨t, cs, _, hc⟩ := hb
    exact hg7.block b hc.lt (hne7 _ _ _ hc)

set_option maxRecDepth 200000 in
set_option maxHeartbeats 3200000 in
theorem batchEnd_any (u0 u1 u4 u5 u7 u8 u9 u10 u11 u14 u15 u16 u17 u18 u19 u20 u21 u22 u23 u24 u25 u26 u27 u28 u29 u30 u31 u32 u34 u35 u36 u37 u38 u39 u40 u41 u42 u43 u44 u45 u46 u47 u48 u49 u50 u51 u52 u53 u54 u55 u56 u57 u58 u59 u60 u61 u62 u63 u64 u65 : Value) (g0 r0 bm ch : Nat) (gi : Int) (zb : Bool) (A3 A4 : Option Addr) (m3 c3 m4 c4 : Nat) (w : World) (R : Ending → World → Prop)
    (hX : Blk w g0 26 #[.slice A3 m3 c3, .slice A4 m4 c4]) (hR : Blk w r0 26 #[.slice none 0 0, .slice none 0 0])
    (hK : R (.returned (.tuple #[.agg #[.slice A3 m3 c3, .slice A4 m4 c4], .map (some bm), .bool zb])) ((w.setCell ⟨r0, 0, none⟩ (.slice A3 m3 c3)).setCell ⟨r0, 1, none⟩ (.slice A4 m4 c4))) :
    (sndC (sndC (sndC (sndC (sndC (sndC (Tryz.f47.body.getD .skip))))))).wp Tryz.prog (bodyPost Tryz.prog Tryz.f47 R) ⟨#[u0, u1, .int .i64 gi, .pointer (some ⟨g0, 0, none⟩), u4, u5, .pointer (some ⟨r0, 0, none⟩), u7, u8, u9, u10, u11, .map (some bm), .bool zb, u14, u15, u16, u17, u18, u19, u20, u21, u22, u23, u24, u25, u26, u27, u28, u29, u30, u31, u32, .chan (some ch), u34, u35, u36, u37, u38, u39, u40, u41, u42, u43, u44, u45, u46, u47, u48, u49, u50, u51, u52, u53, u54, u55, u56, u57, u58, u59, u60, u61, u62, u63, u64, u65], []⟩ w := by
  have x0 := hX.cell 0
  have x1 := hX.cell 1
  have r1 := hR.cell 0
  have r2 := hR.cell 1
  simp only [gT, gZ, gS] at x0 x1 r1 r2
  have f0 := hR.frozen 0
  have f1 := hR.frozen 1
  have R9 := qh ((hR.set_ 0 (.slice A3 m3 c3)).set_ 1 (.slice A4 m4 c4))
  have z0 := R9.out.cell 0
  have z1 := R9.out.cell 1
  simp only [pS, pZ, pC, gT, gZ, gS] at z0 z1
  have HK := qh hK
  clear hK hX hR
  simp only [sndC, fstC, inC, Tryz.f47, Option.getD_some]
  go_wp2_with fail
  refine bodyPost_ret (v := .tuple #[.agg #[.slice A3 m3 c3, .slice A4 m4 c4], .map (some bm), .bool zb]) (by simp [results, go_sem, z0, z1]) rfl HK.out
end Go.Proofs.YtjjnbbkdjimcoaaGreat
