/- Walks: the draws of the laws on evictions. -/
import Derived.Test.YtkcflajhmekcaaaGreatDrawEvict
import Derived.Test.YtkcflajhmekcaaaGreatReadsU
namespace Go.Proofs.YtkcflajhmekcaaaGreat
open Go Go.RowKit

theorem own_cap {w : World} {base : Nat} {e : TypeId} {size : Nat} {A : Option Addr} {n c : Nat} {xs : List Value} (h : w.ownsRow base e size (.slice A n c) n xs) : n ≤ c := by
  rcases h.2 with ⟨e, h0⟩ | ⟨g, cap, cur, e, _, _, hc, _⟩
  · omega
  · injection e with _ _ e3; omega
theorem evRdU {w w' : World} {A : Option Addr} {n : Nat} (h : RdU w w.heap.size A n) (hb : Below w.heap.size w w') : RdU w' w'.heap.size A n := fun hn => by
  obtain ⟨b, o, e, hl, hc⟩ := h hn
  refine ⟨b, o, e, by have := hb.size; omega, fun j hj => ?_⟩
  obtain ⟨u, h1, h2, h3⟩ := hc j hj
  exact ⟨u, h1, h2, (hb.cell (p := ⟨b, o + j, none⟩) hl).trans h3⟩






set_option maxRecDepth 100000 in
set_option maxHeartbeats 1600000 in
theorem drawEvictDo_any (A : Option Addr) (n c : Nat) (w : World) (h : RdU w w.heap.size A n) (hc : n ≤ c) (hcm : c ≤ 9223372036854775807) :
    Calls Tryz.prog 20 #[.slice A n c] w fun e w' => ∃ A1 A2 A3 A4 n2 n3 c2 c3 room ts rk id xs r, e = .returned (.tuple #[.slice A1 3 3, .slice A2 n2 c2, .slice A3 n3 c3, .agg #[.int .i64 id, .slice A4 3 3], .int .i64 r]) ∧
      R5 w' A1 A2 A3 A4 3 n2 n3 3 room ts rk xs ∧ n2 ≤ c2 ∧ n2 ≤ 8 ∧ n3 ≤ 9 ∧ Below w.heap.size w w' := by
  have B0 := alloc_up w (.cells #[.int .i64 0, .slice none 0 0] 33)
  have P0 := Lib.hid (Blk.new w 33 #[.int .i64 0, .slice none 0 0])
  go_enter Tryz.func20, Tryz.ntmps20
  go_wp2_with fail
  generalize w.alloc (.cells #[.int .i64 0, .slice none 0 0] 33) = w0 at B0 P0 ⊢
  have lt0 : w.heap.size < w0.heap.size := P0.out.lt
  have HB0 := Lib.hid B0
  refine (l6Open_any A n c w0 (evRdU h B0) hc hcm).mono ?_; rintro e w1 ⟨rfl, R1, d1⟩
  have HB1 := Lib.hid (below_to B0 d1)
  have HP1 := Lib.hid (P0.out.below d1 P0.out.lt)
  have lg := R1.lt
  have HR1 := Lib.hid R1
  clear d1 B0 R1
  go_wp2_with fail
  refine (l92Evict_any w0.heap.size 0 w1 HR1.out (by omega)).mono ?_; rintro e w2 ⟨rb, n2, c2, A2, vs, n3, c3, A3, room, rk, id, bx, ys, r, rfl, hrm, hl3, hown, htk, hn2, hrk, hn3, hx, hy3, O2⟩
  have HP2 := Lib.hid (O2.blk HP1.out (by omega))
  have y0 : w2.cell? ⟨w.heap.size, 0, none⟩ = some (.int .i64 0) := HP2.out.cell 0
  have y1 : w2.cell? ⟨w.heap.size, 1, none⟩ = some (.slice none 0 0) := HP2.out.cell 1
  have f0 : w2.frozen? ⟨w.heap.size, 0, none⟩ = false := HP2.out.frozen 0
  have f1 : w2.frozen? ⟨w.heap.size, 1, none⟩ = false := HP2.out.frozen 1
  have ltW : w.heap.size < w2.heap.size := HP2.out.lt
  have kk : ∀ b, b ≠ w.heap.size → ((w2.setCell ⟨w.heap.size, 0, none⟩ (.int .i64 id)).setCell ⟨w.heap.size, 1, none⟩ (.slice (some ⟨bx, 0, none⟩) 3 3)).heap[b]? = w2.heap[b]? := fun b hb => (Below.heap_setCell _ _ _ b hb).trans (Below.heap_setCell _ _ _ b hb)
  obtain ⟨ts, tl, tc, tv⟩ := htk.read
  have e1 : OwI ((w2.setCell ⟨w.heap.size, 0, none⟩ (.int .i64 id)).setCell ⟨w.heap.size, 1, none⟩ (.slice (some ⟨bx, 0, none⟩) 3 3)) w1.heap.size rb room := ⟨hrm.1, (kk rb (by have := hrm.1; omega)).trans hrm.2⟩
  have e2 := own_keep hown (w' := (w2.setCell ⟨w.heap.size, 0, none⟩ (.int .i64 id)).setCell ⟨w.heap.size, 1, none⟩ (.slice (some ⟨bx, 0, none⟩) 3 3)) (fun b hb => kk b (by have := (hown.lt b hb).1; omega))
  have e3 := own_keep hrk (w' := (w2.setCell ⟨w.heap.size, 0, none⟩ (.int .i64 id)).setCell ⟨w.heap.size, 1, none⟩ (.slice (some ⟨bx, 0, none⟩) 3 3)) (fun b hb => kk b (by have := (World.ownsRow.lt hrk b hb).1; omega))
  have e4 : OwI ((w2.setCell ⟨w.heap.size, 0, none⟩ (.int .i64 id)).setCell ⟨w.heap.size, 1, none⟩ (.slice (some ⟨bx, 0, none⟩) 3 3)) w1.heap.size bx ys := ⟨hx.1, (kk bx (by have := hx.1; omega)).trans hx.2⟩
  have e5 : TkN ((w2.setCell ⟨w.heap.size, 0, none⟩ (.int .i64 id)).setCell ⟨w.heap.size, 1, none⟩ (.slice (some ⟨bx, 0, none⟩) 3 3)) w1.heap.size n2 vs := htk.keep (fun b cs hb hc => (kk b (by omega)).trans hc)
  obtain ⟨ts, tl, tc, tv⟩ := e5.read
  have res := Lib.hid (show R5 ((w2.setCell ⟨w.heap.size, 0, none⟩ (.int .i64 id)).setCell ⟨w.heap.size, 1, none⟩ (.slice (some ⟨bx, 0, none⟩) 3 3)) (some ⟨rb, 0, none⟩) A2 A3 (some ⟨bx, 0, none⟩) 3 n2 n3 3 room ts rk ys from
    ⟨e1.rd' hl3 (by omega), RdT.of_own e2 tc (Nat.le_refl _) (by omega), OwnI.rd e3 (by omega), e4.rd' hy3 (by omega)⟩)
  have cap := own_cap hown
  have EQ := (HP2.out.set_ 0 (.int .i64 id)).set_ 1 (.slice (some ⟨bx, 0, none⟩) 3 3)
  have z0 : ((w2.setCell ⟨w.heap.size, 0, none⟩ (.int .i64 id)).setCell ⟨w.heap.size, 1, none⟩ (.slice (some ⟨bx, 0, none⟩) 3 3)).cell? ⟨w.heap.size, 0, none⟩ = some (.int .i64 id) := EQ.cell 0
  have z1 : ((w2.setCell ⟨w.heap.size, 0, none⟩ (.int .i64 id)).setCell ⟨w.heap.size, 1, none⟩ (.slice (some ⟨bx, 0, none⟩) 3 3)).cell? ⟨w.heap.size, 1, none⟩ = some (.slice (some ⟨bx, 0, none⟩) 3 3) := EQ.cell 1
  have hB := Lib.hid (show Below w.heap.size w ((w2.setCell ⟨w.heap.size, 0, none⟩ (.int .i64 id)).setCell ⟨w.heap.size, 1, none⟩ (.slice (some ⟨bx, 0, none⟩) 3 3)) from
    ((O2.to_below HB1.out (by omega)).setCell (p := ⟨w.heap.size, 0, none⟩) (Nat.le_refl _) _).setCell (p := ⟨w.heap.size, 1, none⟩) (Nat.le_refl _) _)
  clear tl tc tv e1 e2 e3 e4 e5 kk EQ hrm hown htk hrk hx O2
  go_wp2
  refine bodyPost_ret (v := .tuple #[.slice (some ⟨rb, 0, none⟩) 3 3, .slice A2 n2 c2, .slice A3 n3 c3, .agg #[.int .i64 id, .slice (some ⟨bx, 0, none⟩) 3 3], .int .i64 r]) (by simp [results, Tryz.results20, go_sem, z0, z1]) rfl
    ⟨_, A2, A3, _, n2, n3, c2, c3, room, ts, rk, id, ys, r, rfl, res.out, cap, hn2, hn3, hB.out⟩

end Go.Proofs.YtkcflajhmekcaaaGreat
