/- Walks: the draw of a request; DrawClusterCounts. -/
import Derived.Test.YtlegpecjoaklnaaGreatDoorJ8
import Derived.Test.YtlegpecjoaklnaaGreatDoorRqI
import Derived.Deep.CutBlock
import Derived.Deep.DeepCutAuto
namespace Go.Proofs.YtlegpecjoaklnaaGreatDoor
set_option linter.unusedSimpArgs false
set_option linter.unusedVariables false
open Go Go.RowKit
attribute [local go_sem ↓] Go.wp_at_zero Go.wp_at_succ

/-- The state between two steps of a request's draw: its box C, the result's box Z, the reader g. -/
structure RqW (w0 w : World) (g Z C q : Nat) (r : Rq) (A : Option Addr) (m c : Nat) : Prop where
  b : Blk w C 35 (rqC r A m c)
  z : Blk w Z 35 #[.int .i64 0, .int .i64 0, .slice none 0 0, .bool false, .int .i64 0]
  x : ∀ u, KeepTI w u → RdI u u.heap.size A m r.xs
  m3 : m ≤ 3
  mc : m ≤ c
  o : OnlyG w0 w g
  rd : Rdr w g q
  lc : w0.heap.size ≤ C
  lz : w0.heap.size ≤ Z
  ne : C ≠ Z
  lg : g < w0.heap.size
section
variable {w0 w w' : World} {g Z C q q' m c : Nat} {A : Option Addr} {r r' : Rq}
theorem RqW.only (h : RqW w0 w g Z C q r A m c) (o : OnlyG w w' g) (k : Rdr w' g q') : RqW w0 w' g Z C q' r A m c :=
  ⟨o.blk h.b (by have := h.lg; have := h.lc; omega), o.blk h.z (by have := h.lg; have := h.lz; omega), fun u hu => h.x u ((keepTU_rdr h.rd o).ti.trans hu), h.m3, h.mc, h.o.trans o, k, h.lc, h.lz, h.ne, h.lg⟩
theorem RqW.below (h : RqW w0 w g Z C q r A m c) (b : Below w.heap.size w w') : RqW w0 w' g Z C q r A m c :=
  ⟨h.b.below b h.b.lt, h.z.below b h.z.lt, fun u hu => h.x u ((KeepTI.up b).trans hu), h.m3, h.mc, h.o.below b, h.rd.below b, h.lc, h.lz, h.ne, h.lg⟩
theorem RqW.set (h : RqW w0 w g Z C q r A m c) (i : Nat) (v : Value) (he : (rqC r A m c).setIfInBounds i v = rqC r' A m c) (hx : r'.xs = r.xs) : RqW w0 (w.setCell ⟨C, i, none⟩ v) g Z C q r' A m c := by
  have l1 := h.lc
  have l2 := h.lg
  have l3 := h.ne
  refine ⟨he ▸ h.b.set_ i v, h.z.far (p := ⟨C, i, none⟩) (fun e => l3 e.symm) _, fun u hu => ?_, h.m3, h.mc, h.o.set_new (p := ⟨C, i, none⟩) l1 _, h.rd.keep (fun b hb => Below.heap_setCell _ _ _ _ (by show b ≠ C; omega)), h.lc, h.lz, h.ne, h.lg⟩
  rw [hx]
  exact h.x u ((KeepTI.set_ h.b (by decide) (by decide) i v).trans hu)
theorem RqW.task {lo b : Nat} {id : Int} {xs : List Int} (h : RqW w0 w g Z C q r A m c) (hb : OwI w lo b xs) (hl : xs.length = 3) :
    RqW w0 ((w.setCell ⟨C, 1, none⟩ (.int .i64 id)).setCell ⟨C, 2, none⟩ (.slice (some ⟨b, 0, none⟩) 3 3)) g Z C q ⟨r.kind, id, xs, r.grant, r.num⟩ (some ⟨b, 0, none⟩) 3 3 := by
  have l1 := h.lc
  have l2 := h.lg
  have l3 := h.ne
  have k1 := KeepTI.set_ h.b (by decide) (by decide) 1 (.int .i64 id)
  have k2 := KeepTI.set_ (h.b.set_ 1 (.int .i64 id)) (by decide) (by decide) 2 (.slice (some ⟨b, 0, none⟩) 3 3)
  refine ⟨(h.b.set_ 1 (.int .i64 id)).set_ 2 (.slice (some ⟨b, 0, none⟩) 3 3), (h.z.far (p := ⟨C, 1, none⟩) (fun e => l3 e.symm) _).far (p := ⟨C, 2, none⟩) (fun e => l3 e.symm) _, fun u hu => ?_, Nat.le_refl _, Nat.le_refl _,
    (h.o.set_new (p := ⟨C, 1, none⟩) l1 _).set_new (p := ⟨C, 2, none⟩) l1 _, (h.rd.keep (fun b hb => Below.heap_setCell _ _ _ _ (by show b ≠ C; omega))).keep (fun b hb => Below.heap_setCell _ _ _ _ (by show b ≠ C; omega)), h.lc, h.lz, h.ne, h.lg⟩
  have hu2 : Blk u b 3 (xs.map (Value.int .i64)).toArray := ((k1.trans k2).trans hu b ⟨_, _, .inl rfl, hb.2⟩).trans hb.2
  have := RdI.of_blk hu2 rfl (by omega : xs.length ≤ 9223372036854775807)
  rwa [hl] at this
end

set_option maxRecDepth 100000 in
set_option maxHeartbeats 6400000 in
theorem l92Request_any (g p : Nat) (w : World) (h : Rdr w g p) (hp : p ≤ 800000) :
    Calls Tryz.prog 82 #[.pointer (some ⟨g, 0, none⟩)] w fun e w' => ∃ r A m c, e = .returned (rqV r A m c) ∧ (∀ u, KeepTI w' u → RdI u u.heap.size A m r.xs) ∧ m ≤ 3 ∧ m ≤ c ∧ OnlyG w w' g ∧ ∃ q, q ≤ p + 20 ∧ Rdr w' g q := by
  have lg := h.lt
  have sz1 : (w.alloc (.cells #[.int .i64 0, .int .i64 0, .slice none 0 0, .bool false, .int .i64 0] 35)).heap.size = w.heap.size + 1 := World.size_alloc _ _
  have sz2 : ((w.alloc (.cells #[.int .i64 0, .int .i64 0, .slice none 0 0, .bool false, .int .i64 0] 35)).alloc (.cells #[] 3)).heap.size = w.heap.size + 2 := by rw [World.size_alloc, sz1]
  have hB := (((alloc_up w (.cells #[.int .i64 0, .int .i64 0, .slice none 0 0, .bool false, .int .i64 0] 35)).alloc (by rw [sz1]; omega) (.cells #[] 3)).alloc (by rw [sz2]; omega) (.cells (rqC ⟨1, 0, [], false, 0⟩ (some ⟨w.heap.size + 1, 0, none⟩) 0 0) 35))
  have hC := Blk.new ((w.alloc (.cells #[.int .i64 0, .int .i64 0, .slice none 0 0, .bool false, .int .i64 0] 35)).alloc (.cells #[] 3)) 35 (rqC ⟨1, 0, [], false, 0⟩ (some ⟨w.heap.size + 1, 0, none⟩) 0 0)
  rw [sz2] at hC
  have S1 := qh (show RqW w (((w.alloc (.cells #[.int .i64 0, .int .i64 0, .slice none 0 0, .bool false, .int .i64 0] 35)).alloc (.cells #[] 3)).alloc (.cells (rqC ⟨1, 0, [], false, 0⟩ (some ⟨w.heap.size + 1, 0, none⟩) 0 0) 35)) g w.heap.size (w.heap.size + 2) p ⟨1, 0, [], false, 0⟩ (some ⟨w.heap.size + 1, 0, none⟩) 0 0 from
    ⟨hC, ((Blk.new w _ _).alloc _).alloc _, fun u _ => RdI.nil, by omega, Nat.le_refl _, (OnlyG.refl w g).below hB, h.below hB, by omega, Nat.le_refl _, by omega, lg⟩)
  clear hC hB sz1 sz2 h
  dsimp only [rqC] at S1
  go_enter Tryz.func82, Tryz.ntmps82
  go_wp2_with fail
  generalize ((w.alloc (.cells #[.int .i64 0, .int .i64 0, .slice none 0 0, .bool false, .int .i64 0] 35)).alloc (.cells #[] 3)).alloc (.cells #[.int .i64 1, .int .i64 0, .slice (some ⟨w.heap.size + 1, 0, none⟩) 0 0, .bool false, .int .i64 0] 35) = w1 at S1 ⊢
  generalize hC : w.heap.size + 2 = C at S1 ⊢
  generalize (some ⟨w.heap.size + 1, 0, none⟩ : Option Addr) = A0 at S1
  clear hC
  refine (pick_at 8 S1.out.rd rfl (by omega) (by omega) (by omega)).mono ?_; rintro e w2 ⟨r, rfl, hr, r2, o2⟩
  have S2 := qh (S1.out.only o2 r2)
  clear r2 o2 S1
  go_upto_block 0 with fail
  go_cut [] (fun wx => ∃ (q : Nat) (kd id : Int) (xs : List Int) (gr : Bool) (nm : Int) (A : Option Addr) (m c : Nat), q ≤ p + 12 ∧ RqW w wx g w.heap.size C q ⟨kd, id, xs, gr, nm⟩ A m c)
  case first =>
    by_cases h0 : r = 0
    · have t0 : ((r : Int) == 0) = true := by rw [h0]; rfl
      clear h0
      have x0 := S2.out.b.cell 0
      have f0 := S2.out.b.frozen 0
      simp only [rqC, gT, gZ] at x0
      go_wp2_with fail
      have S3 := qh (S2.out.set (r' := ⟨2, 0, [], false, 0⟩) 0 (.int .i64 2) rfl rfl)
      clear x0 f0
      clear S2
      generalize w2.setCell ⟨C, 0, none⟩ (.int .i64 2) = w3 at S3 ⊢
      refine (pick_at 14 S3.out.rd rfl (by omega) (by omega) (by omega)).mono ?_; rintro e w4 ⟨ra, rfl, hra, r4, o4⟩
      have S4 := qh (S3.out.only o4 r4)
      clear r4 o4 S3
      have x4 := S4.out.b.cell 4
      have f4 := S4.out.b.frozen 4
      simp only [rqC, gT, gZ, gS] at x4
      have v1 : IntKind.i64.wrap (1 + (ra : Int)) = 1 + (ra : Int) := wr64 (by omega) (by omega)
      go_wp2_with fail
      have S5 := qh (S4.out.set (r' := ⟨2, 0, [], false, (1 + (ra : Int))⟩) 4 (.int .i64 (1 + (ra : Int))) rfl rfl)
      clear x4 f4
      generalize w4.setCell ⟨C, 4, none⟩ (.int .i64 (1 + (ra : Int))) = z at S5 ⊢
      clear S4 t0
      go_meet
      case rel => exact ⟨_, _, _, _, _, _, _, _, _, by omega, S5.out⟩
    · have e0 : ((r : Int) == 0) = false := by simpa using (show ¬ (r : Int) = 0 by omega)
      by_cases h1 : r = 1
      · have t1 : ((r : Int) == 1) = true := by rw [h1]; rfl
        clear h0 h1
        have x0 := S2.out.b.cell 0
        have f0 := S2.out.b.frozen 0
        simp only [rqC, gT, gZ] at x0
        go_wp2_with fail
        have S3 := qh (S2.out.set (r' := ⟨3, 0, [], false, 0⟩) 0 (.int .i64 3) rfl rfl)
        clear x0 f0
        clear S2
        generalize w2.setCell ⟨C, 0, none⟩ (.int .i64 3) = w3 at S3 ⊢
        refine (pick_at 7 S3.out.rd rfl (by omega) (by omega) (by omega)).mono ?_; rintro e w4 ⟨ra, rfl, hra, r4, o4⟩
        have S4 := qh (S3.out.only o4 r4)
        clear r4 o4 S3
        have x4 := S4.out.b.cell 4
        have f4 := S4.out.b.frozen 4
        simp only [rqC, gT, gZ, gS] at x4
        go_wp2_with fail
        have S5 := qh (S4.out.set (r' := ⟨3, 0, [], false, (ra : Int)⟩) 4 (.int .i64 (ra : Int)) rfl rfl)
        clear x4 f4
        generalize w4.setCell ⟨C, 4, none⟩ (.int .i64 (ra : Int)) = z at S5 ⊢
        clear S4 t1 e0
        go_meet
        case rel => exact ⟨_, _, _, _, _, _, _, _, _, by omega, S5.out⟩
      · have e1 : ((r : Int) == 1) = false := by simpa using (show ¬ (r : Int) = 1 by omega)
        by_cases h2 : r = 2
        · have t2 : ((r : Int) == 2) = true := by rw [h2]; rfl
          clear h0 h1 h2
          have x0 := S2.out.b.cell 0
          have f0 := S2.out.b.frozen 0
          simp only [rqC, gT, gZ] at x0
          go_wp2_with fail
          have S3 := qh (S2.out.set (r' := ⟨4, 0, [], false, 0⟩) 0 (.int .i64 4) rfl rfl)
          clear x0 f0
          clear S2
          generalize w2.setCell ⟨C, 0, none⟩ (.int .i64 4) = w3 at S3 ⊢
          refine (pick_at 7 S3.out.rd rfl (by omega) (by omega) (by omega)).mono ?_; rintro e w4 ⟨ra, rfl, hra, r4, o4⟩
          have S4 := qh (S3.out.only o4 r4)
          clear r4 o4 S3
          have x4 := S4.out.b.cell 4
          have f4 := S4.out.b.frozen 4
          simp only [rqC, gT, gZ, gS] at x4
          go_wp2_with fail
          have S5 := qh (S4.out.set (r' := ⟨4, 0, [], false, (ra : Int)⟩) 4 (.int .i64 (ra : Int)) rfl rfl)
          clear x4 f4
          generalize w4.setCell ⟨C, 4, none⟩ (.int .i64 (ra : Int)) = z at S5 ⊢
          clear S4 t2 e0 e1
          go_meet
          case rel => exact ⟨_, _, _, _, _, _, _, _, _, by omega, S5.out⟩
        · have e2 : ((r : Int) == 2) = false := by simpa using (show ¬ (r : Int) = 2 by omega)
          by_cases h3 : r = 3
          · have t3 : ((r : Int) == 3) = true := by rw [h3]; rfl
            clear h0 h1 h2 h3
            have x0 := S2.out.b.cell 0
            have f0 := S2.out.b.frozen 0
            simp only [rqC, gT, gZ] at x0
            go_wp2_with fail
            have S3 := qh (S2.out.set (r' := ⟨5, 0, [], false, 0⟩) 0 (.int .i64 5) rfl rfl)
            clear x0 f0
            clear S2
            generalize w2.setCell ⟨C, 0, none⟩ (.int .i64 5) = w3 at S3 ⊢
            refine (pick_at 9 S3.out.rd rfl (by omega) (by omega) (by omega)).mono ?_; rintro e w4 ⟨ra, rfl, hra, r4, o4⟩
            have S4 := qh (S3.out.only o4 r4)
            clear r4 o4 S3
            have x4 := S4.out.b.cell 4
            have f4 := S4.out.b.frozen 4
            simp only [rqC, gT, gZ, gS] at x4
            go_wp2_with fail
            have S5 := qh (S4.out.set (r' := ⟨5, 0, [], false, (ra : Int)⟩) 4 (.int .i64 (ra : Int)) rfl rfl)
            clear x4 f4
            generalize w4.setCell ⟨C, 4, none⟩ (.int .i64 (ra : Int)) = z at S5 ⊢
            clear S4 t3 e0 e1 e2
            go_meet
            case rel => exact ⟨_, _, _, _, _, _, _, _, _, by omega, S5.out⟩
          · have e3 : ((r : Int) == 3) = false := by simpa using (show ¬ (r : Int) = 3 by omega)
            clear h0 h1 h2 h3
            go_wp2_with fail
            refine (pick_at 20 S2.out.rd rfl (by omega) (by omega) (by omega)).mono ?_; rintro e w4 ⟨ra, rfl, hra, r4, o4⟩
            have S4 := qh (S2.out.only o4 r4)
            have v1 : IntKind.i64.wrap (1 + (ra : Int)) = 1 + (ra : Int) := wr64 (by omega) (by omega)
            clear r4 o4 S2
            go_wp2_with fail
            refine (l91Task_any g (p + 1 + 1) (1 + (ra : Int)) w4 S4.out.rd (by omega)).mono ?_; rintro e w5 ⟨bx, xs, rfl, hxs, hx3, _, o5, q5, hq5, r5⟩
            have S5 := qh (S4.out.only o5 r5)
            have Hxs := qh hxs
            have Hx3 := qh hx3
            clear r5 o5 S4 hxs hx3
            have x1 := S5.out.b.cell 1
            have f1 := S5.out.b.frozen 1
            have x2 := S5.out.b.cell 2
            have f2 := S5.out.b.frozen 2
            simp only [rqC, gT, gZ, gS] at x1 x2
            go_wp2_with fail
            have S6 := qh (S5.out.task (id := 1 + (ra : Int)) Hxs.out Hx3.out)
            clear x1 f1 x2 f2
            clear S5 Hxs Hx3
            generalize (w5.setCell ⟨C, 1, none⟩ (.int .i64 (1 + (ra : Int)))).setCell ⟨C, 2, none⟩ (.slice (some ⟨bx, 0, none⟩) 3 3) = w6 at S6 ⊢
            refine (pick_at 2 S6.out.rd rfl (by omega) (by omega) (by omega)).mono ?_; rintro e w7 ⟨rb, rfl, hrb, r7, o7⟩
            have S7 := qh (S6.out.only o7 r7)
            clear r7 o7 S6
            have x3 := S7.out.b.cell 3
            have f3 := S7.out.b.frozen 3
            simp only [rqC, gT, gZ, gS] at x3
            go_wp2_with fail
            have S8 := qh (S7.out.set (r' := ⟨1, 1 + (ra : Int), xs, ((rb : Int) == 0), 0⟩) 3 (.bool ((rb : Int) == 0)) rfl rfl)
            clear x3 f3
            generalize w7.setCell ⟨C, 3, none⟩ (.bool ((rb : Int) == 0)) = z at S8 ⊢
            clear S7 e0 e1 e2 e3
            go_meet
            case rel => exact ⟨_, _, _, _, _, _, _, _, _, by omega, S8.out⟩
  case rest =>
    clear S2
    obtain ⟨q, kd, id, xs, gr, nm, A, m, c, hq, hS⟩ := hcut
    obtain ⟨w1, rfl⟩ : ∃ w1 : World, w1 = wc := ⟨_, rfl⟩
    have S2 := qh hS
    clear hS
    go_wp2_with fail
    refine (pick_at 40 S2.out.rd rfl (by omega) (by omega) (by omega)).mono ?_; rintro e w2 ⟨r, rfl, hr, r2, o2⟩
    have S3 := qh (S2.out.only o2 r2)
    clear r2 o2 S2
    go_upto_block 1 with fail
    go_cut [] (fun wx => ∃ (q : Nat) (kd id : Int) (xs : List Int) (gr : Bool) (nm : Int) (A : Option Addr) (m c : Nat), q ≤ p + 20 ∧ RqW w wx g w.heap.size C q ⟨kd, id, xs, gr, nm⟩ A m c)
    case first =>
      by_cases h0 : r = 0
      · have t0 : ((r : Int) == 0) = true := by rw [h0]; rfl
        clear h0
        have S4 := qh (S3.out.below (alloc_up w2 (.cells #[.int .i64 (-1), .int .i64 10, .int .i64 20, .int .i64 21, .int .i64 41] 3)))
        have L4 := qh (Blk.new w2 3 #[.int .i64 (-1), .int .i64 10, .int .i64 20, .int .i64 21, .int .i64 41])
        have lge := S3.out.lg
        have lgl : w.heap.size ≤ w2.heap.size := S3.out.o.size
        clear S3
        go_wp2_with fail
        generalize w2.heap.size = gl at L4 lgl ⊢
        generalize w2.alloc (.cells #[.int .i64 (-1), .int .i64 10, .int .i64 20, .int .i64 21, .int .i64 41] 3) = w3 at S4 L4 ⊢
        refine (pick_at 5 S4.out.rd rfl (by omega) (by omega) (by omega)).mono ?_; rintro e w4 ⟨ra, rfl, hra, r4, o4⟩
        have S5 := qh (S4.out.only o4 r4)
        have L5 := qh (o4.blk L4.out (by omega))
        clear r4 o4 S4 L4
        obtain ⟨v, hv⟩ : ∃ v : Int, w4.cell? ⟨gl, ra, none⟩ = some (.int .i64 v) := by
          rw [L5.out.cell]
          rcases (show ra = 0 ∨ ra = 1 ∨ ra = 2 ∨ ra = 3 ∨ ra = 4 by omega) with rfl | rfl | rfl | rfl | rfl <;> exact ⟨_, rfl⟩
        have j1 : (0 : Int) ≤ (ra : Int) := by omega
        have j2 : (ra : Int) < 5 := by omega
        have x4 := S5.out.b.cell 4
        have f4 := S5.out.b.frozen 4
        simp only [rqC, gT, gZ, gS] at x4
        go_wp2_with fail
        have S6 := qh (S5.out.set (r' := ⟨kd, id, xs, gr, v⟩) 4 (.int .i64 v) rfl rfl)
        clear x4 f4
        clear hv L5 S5
        generalize w4.setCell ⟨C, 4, none⟩ (.int .i64 v) = z2 at S6 ⊢
        go_meet
        case rel => exact ⟨_, _, _, _, _, _, _, _, _, by omega, S6.out⟩
      · have e0 : ((r : Int) == 0) = false := by simpa using (show ¬ (r : Int) = 0 by omega)
        by_cases h1 : r = 1
        · have t1 : ((r : Int) == 1) = true := by rw [h1]; rfl
          clear h1 h0
          go_wp2_with fail
          refine (pick_at 7 S3.out.rd rfl (by omega) (by omega) (by omega)).mono ?_; rintro e w4 ⟨ra, rfl, hra, r4, o4⟩
          have S5 := qh (S3.out.only o4 r4)
          clear r4 o4 S3
          have x0 := S5.out.b.cell 0
          have f0 := S5.out.b.frozen 0
          simp only [rqC, gT, gZ] at x0
          go_wp2_with fail
          have S6 := qh (S5.out.set (r' := ⟨(ra : Int), id, xs, gr, nm⟩) 0 (.int .i64 (ra : Int)) rfl rfl)
          clear x0 f0
          clear S5
          generalize w4.setCell ⟨C, 0, none⟩ (.int .i64 (ra : Int)) = z2 at S6 ⊢
          go_meet
          case rel => exact ⟨_, _, _, _, _, _, _, _, _, by omega, S6.out⟩
        · have e1 : ((r : Int) == 1) = false := by simpa using (show ¬ (r : Int) = 1 by omega)
          by_cases h2 : r = 2
          · have t2 : ((r : Int) == 2) = true := by rw [h2]; rfl
            clear h2 h1 h0
            have x3 := S3.out.b.cell 3
            have f3 := S3.out.b.frozen 3
            simp only [rqC, gT, gZ, gS] at x3
            go_wp2_with fail
            have S6 := qh (S3.out.set (r' := ⟨kd, id, xs, !gr, nm⟩) 3 (.bool (!gr)) rfl rfl)
            clear x3 f3
            clear S3
            generalize w2.setCell ⟨C, 3, none⟩ (.bool (!gr)) = z2 at S6 ⊢
            go_meet
            case rel => exact ⟨_, _, _, _, _, _, _, _, _, by omega, S6.out⟩
          · have e2 : ((r : Int) == 2) = false := by simpa using (show ¬ (r : Int) = 2 by omega)
            clear h2 h1 h0
            go_wp2_with fail
            go_meet
            case rel => exact ⟨_, _, _, _, _, _, _, _, _, by omega, S3.out⟩
    case rest =>
      clear S3
      obtain ⟨q, kd, id, xs, gr, nm, A, m, c, hq, hS⟩ := hcut
      obtain ⟨z2, rfl⟩ : ∃ z2 : World, z2 = wc := ⟨_, rfl⟩
      have S7 := qh hS
      clear hS
      have x0 := S7.out.b.cell 0
      have x1 := S7.out.b.cell 1
      have x2 := S7.out.b.cell 2
      have x3 := S7.out.b.cell 3
      have x4 := S7.out.b.cell 4
      have y0 := S7.out.z.cell 0
      have y1 := S7.out.z.cell 1
      have y2 := S7.out.z.cell 2
      have y3 := S7.out.z.cell 3
      have y4 := S7.out.z.cell 4
      have f0 := S7.out.z.frozen 0
      have f1 := S7.out.z.frozen 1
      have f2 := S7.out.z.frozen 2
      have f3 := S7.out.z.frozen 3
      have f4 := S7.out.z.frozen 4
      simp only [rqC, gT, gZ, gS] at x0 x1 x2 x3 x4 y0 y1 y2 y3 y4
      go_wp2_with fail
      have KT := qh ((((((KeepTI.refl z2).trans (KeepTI.set_ (S7.out.z) (by decide) (by decide) 0 (.int .i64 kd))).trans (KeepTI.set_ ((S7.out.z).set_ 0 (.int .i64 kd)) (by decide) (by decide) 1 (.int .i64 id))).trans (KeepTI.set_ (((S7.out.z).set_ 0 (.int .i64 kd)).set_ 1 (.int .i64 id)) (by decide) (by decide) 2 (.slice A m c))).trans (KeepTI.set_ ((((S7.out.z).set_ 0 (.int .i64 kd)).set_ 1 (.int .i64 id)).set_ 2 (.slice A m c)) (by decide) (by decide) 3 (.bool gr))).trans (KeepTI.set_ (((((S7.out.z).set_ 0 (.int .i64 kd)).set_ 1 (.int .i64 id)).set_ 2 (.slice A m c)).set_ 3 (.bool gr)) (by decide) (by decide) 4 (.int .i64 nm)))
      have EQ := qh ((((((S7.out.z).set_ 0 (.int .i64 kd)).set_ 1 (.int .i64 id)).set_ 2 (.slice A m c)).set_ 3 (.bool gr)).set_ 4 (.int .i64 nm))
      have OO := qh ((((((S7.out.o).set_new (p := ⟨w.heap.size, 0, none⟩) (Nat.le_refl _) (.int .i64 kd)).set_new (p := ⟨w.heap.size, 1, none⟩) (Nat.le_refl _) (.int .i64 id)).set_new (p := ⟨w.heap.size, 2, none⟩) (Nat.le_refl _) (.slice A m c)).set_new (p := ⟨w.heap.size, 3, none⟩) (Nat.le_refl _) (.bool gr)).set_new (p := ⟨w.heap.size, 4, none⟩) (Nat.le_refl _) (.int .i64 nm))
      have RR := qh (show Rdr (World.setCell (World.setCell (World.setCell (World.setCell (World.setCell z2 ⟨w.heap.size, 0, none⟩ (.int .i64 kd)) ⟨w.heap.size, 1, none⟩ (.int .i64 id)) ⟨w.heap.size, 2, none⟩ (.slice A m c)) ⟨w.heap.size, 3, none⟩ (.bool gr)) ⟨w.heap.size, 4, none⟩ (.int .i64 nm)) g q from Rdr.keep (Rdr.keep (Rdr.keep (Rdr.keep (Rdr.keep (S7.out.rd) (fun b hb => Below.heap_setCell _ _ _ _ (by show b ≠ w.heap.size; omega))) (fun b hb => Below.heap_setCell _ _ _ _ (by show b ≠ w.heap.size; omega))) (fun b hb => Below.heap_setCell _ _ _ _ (by show b ≠ w.heap.size; omega))) (fun b hb => Below.heap_setCell _ _ _ _ (by show b ≠ w.heap.size; omega))) (fun b hb => Below.heap_setCell _ _ _ _ (by show b ≠ w.heap.size; omega)))
      generalize (World.setCell (World.setCell (World.setCell (World.setCell (World.setCell z2 ⟨w.heap.size, 0, none⟩ (.int .i64 kd)) ⟨w.heap.size, 1, none⟩ (.int .i64 id)) ⟨w.heap.size, 2, none⟩ (.slice A m c)) ⟨w.heap.size, 3, none⟩ (.bool gr)) ⟨w.heap.size, 4, none⟩ (.int .i64 nm)) = w9 at KT EQ OO RR ⊢
      have u0 : w9.cell? ⟨w.heap.size, 0, none⟩ = some (.int .i64 kd) := EQ.out.cell 0
      have u1 : w9.cell? ⟨w.heap.size, 1, none⟩ = some (.int .i64 id) := EQ.out.cell 1
      have u2 : w9.cell? ⟨w.heap.size, 2, none⟩ = some (.slice A m c) := EQ.out.cell 2
      have u3 : w9.cell? ⟨w.heap.size, 3, none⟩ = some (.bool gr) := EQ.out.cell 3
      have u4 : w9.cell? ⟨w.heap.size, 4, none⟩ = some (.int .i64 nm) := EQ.out.cell 4
      refine bodyPost_ret (v := rqV ⟨kd, id, xs, gr, nm⟩ A m c) (by simp [results, Tryz.results82, go_sem, u0, u1, u2, u3, u4]) rfl ⟨_, A, m, c, rfl, fun u hu => S7.out.x u (KT.out.trans hu), S7.out.m3, S7.out.mc, OO.out, q, hq, RR.out⟩
end Go.Proofs.YtlegpecjoaklnaaGreatDoor
