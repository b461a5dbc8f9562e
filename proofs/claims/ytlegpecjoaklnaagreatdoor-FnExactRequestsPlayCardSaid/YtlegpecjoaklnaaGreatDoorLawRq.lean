/- Walks: the helpers of the exact laws at requests: sizes, copies, comparisons. -/
import Derived.Test.YtlegpecjoaklnaaGreatDoorLawCl
import Derived.Test.YtlegpecjoaklnaaGreatDoorRqRows
namespace Go.Proofs.YtlegpecjoaklnaaGreatDoor
set_option linter.unusedSimpArgs false
set_option linter.unusedVariables false
open Go Go.RowKit
attribute [local go_sem ↓] Go.wp_at_zero Go.wp_at_succ

/-- The values in requests. -/
def totQ : List Rq → Nat
  | [] => 0
  | r :: rs => 1 + r.xs.length + totQ rs
/-- Requests as tasks, for counting. -/
theorem totQ_map (rs : List Rq) : totT (rs.map (fun r => (r.id, r.xs))) = totQ rs := by
  induction rs with
  | nil => rfl
  | cons r rs ih => simp only [List.map_cons, totT, totQ, ih]
theorem totQ_ge (rs : List Rq) : rs.length ≤ totQ rs := by
  have := totT_ge (rs.map (fun r => (r.id, r.xs)))
  rw [totQ_map, List.length_map] at this; exact this
def needQ (rs : List Rq) : Nat := totQ rs - rs.length
theorem map_rq_at {rs : List Rq} {k : Nat} (h : k < rs.length) : (rs.map (fun r => (r.id, r.xs)))[k]?.getD (0, []) = ((rs[k]?.getD rq0).id, (rs[k]?.getD rq0).xs) := by
  rw [List.getElem?_map, List.getElem?_eq_getElem h]; rfl
theorem totQ_need {rs : List Rq} {k : Nat} (h : k < rs.length) : (rs[k]?.getD rq0).xs.length ≤ totQ rs := by
  have := totT_need (ts := rs.map (fun r => (r.id, r.xs))) (k := k) (by rw [List.length_map]; exact h)
  rw [map_rq_at h, totQ_map] at this; exact this
theorem needQ_succ {rs : List Rq} {k : Nat} (h : k < rs.length) : needQ (rs.take (k + 1)) = needQ (rs.take k) + (rs[k]?.getD rq0).xs.length := by
  have := needT_succ (ts := rs.map (fun r => (r.id, r.xs))) (k := k) (by rw [List.length_map]; exact h)
  rw [map_rq_at h, ← List.map_take, ← List.map_take] at this
  unfold needT at this
  rw [totQ_map, totQ_map, List.length_map, List.length_map] at this
  exact this
set_option maxHeartbeats 800000 in
theorem szRequest_any (A : Option Addr) (n c : Nat) (kind id : Int) (gr : Bool) (num left : Int) (w : World) (h0 : 0 ≤ left) (h1 : left ≤ 1048576) (hn : n ≤ 9223372036854775807) :
    Calls Tryz.prog 38 #[.agg #[.int .i64 kind, .int .i64 id, .slice A n c, .bool gr, .int .i64 num], .int .i64 left] w fun e w' => ∃ r, e = .returned (.int .i64 r) ∧ SzOk left n r ∧ Below w.heap.size w w' := by
  have hal := qh (alloc_up w (.cells #[.int .i64 kind, .int .i64 id, .slice A n c, .bool gr, .int .i64 num] 65))
  have P := Blk.new w 65 #[.int .i64 kind, .int .i64 id, .slice A n c, .bool gr, .int .i64 num]
  have x1 := P.cell 1
  have x2 := P.cell 2
  simp only [gT, gZ, gS] at x1 x2
  clear P
  go_enter Tryz.func38, Tryz.ntmps38
  go_wp2_with fail
  generalize w.alloc (.cells #[.int .i64 kind, .int .i64 id, .slice A n c, .bool gr, .int .i64 num] 65) = w1 at hal x1 x2 ⊢
  refine (szTask_any A n c id left w1 h0 h1 hn).mono ?_; rintro e w2 ⟨r, rfl, hr, hb⟩
  have hb2 := qh (below_to hal.out hb)
  clear hb x1 x2
  rcases hr with rfl | ⟨hr, he⟩
  · go_wp2
    go_ret
    exact ⟨-1, rfl, .inl rfl, hb2.out⟩
  · have He := qh he
    have hr' : ¬ r < 0 := by omega
    clear he
    go_wp2
    go_ret
    exact ⟨r, rfl, .inr ⟨hr, He.out⟩, hb2.out⟩

set_option maxRecDepth 100000 in
set_option maxHeartbeats 800000 in
theorem szRequestS_any (A : Option Addr) (n c : Nat) (rs : List Rq) (left : Int) (w : World) (h : RdQ w w.heap.size A n rs) (h0 : 0 ≤ left) (h1 : left ≤ 1048576) :
    Calls Tryz.prog 46 #[.slice A n c, .int .i64 left] w fun e w' => ∃ r, e = .returned (.int .i64 r) ∧ SzOk left (totQ rs) r ∧ Below w.heap.size w w' := by
  have hl := qh h.len
  have hn := h.2.1
  have H := qh h
  clear h
  by_cases hlt : left < n
  · have h' : left - n < 0 := by omega
    go_enter Tryz.func46, Tryz.ntmps46
    go_wp2
    go_ret
    exact ⟨-1, rfl, .inl rfl, Below.refl _ _⟩
  · have h' : ¬ left - n < 0 := by omega
    go_enter Tryz.func46, Tryz.ntmps46
    go_wp2
    go_loopw [1, 5] (fun l i wr => ∃ (k : Nat) (r : Int), i = .int .i64 k ∧ k ≤ n ∧ l = .int .i64 r ∧ 0 ≤ r ∧ r ≤ 1048576 ∧ Hid (r + n + needQ (rs.take k) = left) ∧ Below w.heap.size w wr) (fun _ i _ => n - (intOf i).toNat)
    case atStart => exact ⟨0, left - n, rfl, Nat.zero_le _, rfl, by omega, by omega, qh (by simp [needQ, totQ]), Below.refl _ _⟩
    case round =>
      obtain ⟨k, r, rfl, hk, rfl, hr0, hr1, hr, hbel⟩ := hrel
      by_cases hkn : k < n
      · obtain ⟨b, o, A', m', c', rfl, hb, hc0, hc1, hc2, hc3, hc4, hmc, hrd⟩ := (H.out.below hbel).at_ hkn
        have lz := hbel.size
        have hkl : Hid (k < rs.length) := by have := hl.out; show _ < _; omega
        have hm := hrd.le
        have Hnd := qh (needQ_succ hkl.out)
        have Hrl := qh hrd.len
        have k1 : (0 : Int) ≤ (k : Int) := by omega
        have k2 : (k : Int) < (n : Int) := by omega
        have k3 : 0 ≤ (k : Int) * 5 := by omega
        clear hrd
        generalize rs[k]?.getD rq0 = q at *
        obtain ⟨kd, id, xs, gr, nm⟩ := q
        dsimp only at hc0 hc1 hc3 hc4 Hrl Hnd
        go_wp2_with fail
        refine (szRequest_any A' m' c' kd id gr nm r _ hr0 hr1 hm).mono ?_; rintro e w1 ⟨q, rfl, hq, hb1⟩
        have hb2 := hbel.trans (hb1.mono lz)
        clear hc0 hc1 hc2 hc3 hc4
        rcases hq with rfl | ⟨hq, he⟩
        · go_wp2
          go_ret
          exact ⟨-1, rfl, .inl rfl, hb2⟩
        · have He := qh he
          have hq' : ¬ q < 0 := by omega
          have hq1 : q ≤ 1048576 := by omega
          clear he
          go_wp2
          go_roundw
          case rel => exact ⟨k + 1, q, by go_num, by omega, rfl, hq, hq1, qh (by rw [Hnd.out, Hrl.out]; have := hr.out; have := He.out; omega), hb2⟩
          case measure => simp [intOf]; omega
      · have ek : k = n := by omega
        have Ek := qh ek
        clear ek
        go_wp2
        go_ret
        refine ⟨r, rfl, .inr ⟨hr0, ?_⟩, hbel⟩
        have := hr.out
        rw [Ek.out, List.take_of_length_le (by have := hl.out; omega)] at this
        have := totQ_ge rs
        have := hl.out
        unfold needQ at *
        omega

/-! ### Copies -/
set_option maxRecDepth 100000 in
set_option maxHeartbeats 1600000 in
theorem toRequest_any (A : Option Addr) (m c : Nat) (kd id : Int) (xs : List Int) (gr : Bool) (nm : Int) (w : World) (h : RdI w w.heap.size A m xs) (hm : m ≤ 1048576) :
    Calls Tryz.prog 40 #[.agg #[.int .i64 kd, .int .i64 id, .slice A m c, .bool gr, .int .i64 nm]] w fun e w' => ∃ g, e = .returned (.agg #[.int .i64 kd, .int .i64 id, .slice (some ⟨g, 0, none⟩) m m, .bool gr, .int .i64 nm]) ∧ OwI w' w.heap.size g xs ∧ Below w.heap.size w w' := by
  have H := qh h
  clear h
  have sz1 : (w.alloc (.cells #[.int .i64 kd, .int .i64 id, .slice A m c, .bool gr, .int .i64 nm] 65)).heap.size = w.heap.size + 1 := World.size_alloc _ _
  have sz2 : ((w.alloc (.cells #[.int .i64 kd, .int .i64 id, .slice A m c, .bool gr, .int .i64 nm] 65)).alloc (.cells #[.int .i64 0, .int .i64 0, .slice none 0 0, .bool false, .int .i64 0] 35)).heap.size = w.heap.size + 2 := by rw [World.size_alloc, sz1]
  have sz3 : (((w.alloc (.cells #[.int .i64 kd, .int .i64 id, .slice A m c, .bool gr, .int .i64 nm] 65)).alloc (.cells #[.int .i64 0, .int .i64 0, .slice none 0 0, .bool false, .int .i64 0] 35)).alloc (.cells #[.int .i64 kd, .int .i64 0, .slice none 0 0, .bool false, .int .i64 0] 35)).heap.size = w.heap.size + 3 := by rw [World.size_alloc, sz2]
  have B1 := qh (((alloc_up w (.cells #[.int .i64 kd, .int .i64 id, .slice A m c, .bool gr, .int .i64 nm] 65)).alloc (by rw [sz1]; omega) (.cells #[.int .i64 0, .int .i64 0, .slice none 0 0, .bool false, .int .i64 0] 35)).alloc (by rw [sz2]; omega) (.cells #[.int .i64 kd, .int .i64 0, .slice none 0 0, .bool false, .int .i64 0] 35))
  have P1 := qh (((Blk.new w 65 #[.int .i64 kd, .int .i64 id, .slice A m c, .bool gr, .int .i64 nm]).alloc (.cells #[.int .i64 0, .int .i64 0, .slice none 0 0, .bool false, .int .i64 0] 35)).alloc (.cells #[.int .i64 kd, .int .i64 0, .slice none 0 0, .bool false, .int .i64 0] 35))
  have hZ := (Blk.new (w.alloc (.cells #[.int .i64 kd, .int .i64 id, .slice A m c, .bool gr, .int .i64 nm] 65)) 35 #[.int .i64 0, .int .i64 0, .slice none 0 0, .bool false, .int .i64 0]).alloc (.cells #[.int .i64 kd, .int .i64 0, .slice none 0 0, .bool false, .int .i64 0] 35)
  rw [sz1] at hZ
  have hO := Blk.new ((w.alloc (.cells #[.int .i64 kd, .int .i64 id, .slice A m c, .bool gr, .int .i64 nm] 65)).alloc (.cells #[.int .i64 0, .int .i64 0, .slice none 0 0, .bool false, .int .i64 0] 35)) 35 #[.int .i64 kd, .int .i64 0, .slice none 0 0, .bool false, .int .i64 0]
  rw [sz2] at hO
  have Z1 := qh hZ
  have O1 := qh hO
  have H1 := qh (H.out.up B1.out)
  have x0 := P1.out.cell 0
  have x1 := P1.out.cell 1
  have x2 := P1.out.cell 2
  have x3 := P1.out.cell 3
  have x4 := P1.out.cell 4
  simp only [gT, gZ, gS] at x0 x1 x2 x3 x4
  clear hZ hO sz1 sz2
  go_enter Tryz.func40, Tryz.ntmps40
  go_wp2_with fail
  generalize ((w.alloc (.cells #[.int .i64 kd, .int .i64 id, .slice A m c, .bool gr, .int .i64 nm] 65)).alloc (.cells #[.int .i64 0, .int .i64 0, .slice none 0 0, .bool false, .int .i64 0] 35)).alloc (.cells #[.int .i64 kd, .int .i64 0, .slice none 0 0, .bool false, .int .i64 0] 35) = w1 at B1 P1 Z1 O1 H1 x0 x1 x2 x3 x4 sz3 ⊢
  refine (toTask_any A m c id xs w1 H1.out hm).mono ?_; rintro e w2 ⟨g, rfl, ho, hb⟩
  have lg : w.heap.size + 3 ≤ g := by have := ho.1; omega
  have B2 := qh (below_to B1.out hb)
  have P2 := qh (P1.out.below hb P1.out.lt)
  have Z2 := qh (Z1.out.below hb Z1.out.lt)
  have O2 := qh (O1.out.below hb O1.out.lt)
  have I2 := qh (show OwI w2 g g xs from ⟨Nat.le_refl _, ho.2⟩)
  clear ho hb x0 x1 x2 x3 x4 B1 P1 Z1 O1 H1 sz3
  have p3 := P2.out.cell 3
  have p4 := P2.out.cell 4
  have y0 := O2.out.cell 0
  have y1 := O2.out.cell 1
  have y2 := O2.out.cell 2
  have y3 := O2.out.cell 3
  have y4 := O2.out.cell 4
  have z0 := Z2.out.cell 0
  have z1 := Z2.out.cell 1
  have z2 := Z2.out.cell 2
  have z3 := Z2.out.cell 3
  have z4 := Z2.out.cell 4
  simp only [gT, gZ, gS] at p3 p4 y0 y1 y2 y3 y4 z0 z1 z2 z3 z4
  have f0 := fun i => O2.out.frozen i
  have f1 := fun i => Z2.out.frozen i
  go_wp2_with fail
  have S1 : ∀ (W : World) (i j : Nat) (v : Value), i < 3 → Below w.heap.size w W → OwI W g g xs → Below w.heap.size w (W.setCell ⟨w.heap.size + i, j, none⟩ v) ∧ OwI (W.setCell ⟨w.heap.size + i, j, none⟩ v) g g xs :=
    fun W i j v hi hb ho => ⟨hb.setCell (p := ⟨w.heap.size + i, j, none⟩) (by show w.heap.size ≤ w.heap.size + i; omega) v, ho.far ⟨w.heap.size + i, j, none⟩ (by show w.heap.size + i < g; omega) v⟩
  have S2 : ∀ (W : World) (j : Nat) (v : Value) (cs : Array Value), Blk W (w.heap.size + 1) 35 cs → Blk (W.setCell ⟨w.heap.size + 2, j, none⟩ v) (w.heap.size + 1) 35 cs := fun W j v cs hb => hb.far (p := ⟨w.heap.size + 2, j, none⟩) (by show w.heap.size + 1 ≠ w.heap.size + 2; omega) v
  have a1 := S1 w2 2 1 (.int .i64 id) (by omega) B2.out I2.out
  have a2 := S1 _ 2 2 (.slice (some ⟨g, 0, none⟩) m m) (by omega) a1.1 a1.2
  have a3 := S1 _ 2 3 (.bool gr) (by omega) a2.1 a2.2
  have a4 := S1 _ 2 4 (.int .i64 nm) (by omega) a3.1 a3.2
  have a5 := S1 _ 1 0 (.int .i64 kd) (by omega) a4.1 a4.2
  have a6 := S1 _ 1 1 (.int .i64 id) (by omega) a5.1 a5.2
  have a7 := S1 _ 1 2 (.slice (some ⟨g, 0, none⟩) m m) (by omega) a6.1 a6.2
  have a8 := S1 _ 1 3 (.bool gr) (by omega) a7.1 a7.2
  have a9 := S1 _ 1 4 (.int .i64 nm) (by omega) a8.1 a8.2
  have b4 := S2 _ 4 (.int .i64 nm) _ (S2 _ 3 (.bool gr) _ (S2 _ 2 (.slice (some ⟨g, 0, none⟩) m m) _ (S2 w2 1 (.int .i64 id) _ Z2.out)))
  have E9 := qh (((((b4.set_ 0 (.int .i64 kd)).set_ 1 (.int .i64 id)).set_ 2 (.slice (some ⟨g, 0, none⟩) m m)).set_ 3 (.bool gr)).set_ 4 (.int .i64 nm))
  have A9 := qh a9
  clear S1 S2 a1 a2 a3 a4 a5 a6 a7 a8 a9 b4 p3 p4 y0 y1 y2 y3 y4 z0 z1 z2 z3 z4 f0 f1 B2 P2 Z2 O2 I2
  generalize ((((((((w2.setCell ⟨w.heap.size + 2, 1, none⟩ (.int .i64 id)).setCell ⟨w.heap.size + 2, 2, none⟩ (.slice (some ⟨g, 0, none⟩) m m)).setCell ⟨w.heap.size + 2, 3, none⟩ (.bool gr)).setCell ⟨w.heap.size + 2, 4, none⟩ (.int .i64 nm)).setCell ⟨w.heap.size + 1, 0, none⟩ (.int .i64 kd)).setCell ⟨w.heap.size + 1, 1, none⟩ (.int .i64 id)).setCell ⟨w.heap.size + 1, 2, none⟩ (.slice (some ⟨g, 0, none⟩) m m)).setCell ⟨w.heap.size + 1, 3, none⟩ (.bool gr)).setCell ⟨w.heap.size + 1, 4, none⟩ (.int .i64 nm) = w9 at E9 A9 ⊢
  have u0 : w9.cell? ⟨w.heap.size + 1, 0, none⟩ = some (.int .i64 kd) := E9.out.cell 0
  have u1 : w9.cell? ⟨w.heap.size + 1, 1, none⟩ = some (.int .i64 id) := E9.out.cell 1
  have u2 : w9.cell? ⟨w.heap.size + 1, 2, none⟩ = some (.slice (some ⟨g, 0, none⟩) m m) := E9.out.cell 2
  have u3 : w9.cell? ⟨w.heap.size + 1, 3, none⟩ = some (.bool gr) := E9.out.cell 3
  have u4 : w9.cell? ⟨w.heap.size + 1, 4, none⟩ = some (.int .i64 nm) := E9.out.cell 4
  refine bodyPost_ret (v := .agg #[.int .i64 kd, .int .i64 id, .slice (some ⟨g, 0, none⟩) m m, .bool gr, .int .i64 nm]) (by simp [results, Tryz.results40, go_sem, u0, u1, u2, u3, u4]) rfl ⟨g, rfl, A9.out.2.keep (fun _ _ _ => rfl) (by omega), A9.out.1⟩

/-- The first k requests of rs lie in vs, each with a need of its own behind g. -/
def OwQk (w : World) (g k : Nat) (rs : List Rq) (vs : List Value) : Prop :=
  ∀ j, j < k → ∃ g', vs[j * 5]? = some (.int .i64 (rs[j]?.getD rq0).kind) ∧ vs[j * 5 + 1]? = some (.int .i64 (rs[j]?.getD rq0).id) ∧ vs[j * 5 + 2]? = some (.slice (some ⟨g', 0, none⟩) (rs[j]?.getD rq0).xs.length (rs[j]?.getD rq0).xs.length) ∧
    vs[j * 5 + 3]? = some (.bool (rs[j]?.getD rq0).grant) ∧ vs[j * 5 + 4]? = some (.int .i64 (rs[j]?.getD rq0).num) ∧ (rs[j]?.getD rq0).xs.length ≤ 9223372036854775807 ∧ OwI w (g + 1) g' (rs[j]?.getD rq0).xs
/-- The block g, at or above lo, holds the requests rs. -/
def OwQ (w : World) (lo g : Nat) (rs : List Rq) : Prop := lo ≤ g ∧ ∃ vs : List Value, Blk w g 35 vs.toArray ∧ vs.length = rs.length * 5 ∧ OwQk w g rs.length rs vs
section
variable {w w' : World} {lo lo' g k g' : Nat} {rs : List Rq} {vs : List Value}
theorem OwQk.keep (h : OwQk w g k rs vs) (hk : ∀ b, g + 1 ≤ b → b < w.heap.size → w'.heap[b]? = w.heap[b]?) : OwQk w' g k rs vs := fun j hj => by
  obtain ⟨g', h0, h1, h2, h3, h4, h5, h6⟩ := h j hj
  exact ⟨g', h0, h1, h2, h3, h4, h5, h6.keep hk (Nat.le_refl _)⟩
theorem OwQ.keep (h : OwQ w lo g rs) (hk : ∀ b, lo ≤ b → b < w.heap.size → w'.heap[b]? = w.heap[b]?) (hl : lo' ≤ lo) : OwQ w' lo' g rs := by
  obtain ⟨h1, vs, h2, h3, h4⟩ := h
  exact ⟨by omega, vs, (hk g h1 h2.lt).trans h2, h3, h4.keep (fun b hb => hk b (by omega))⟩
theorem OwQ.rd {n : Nat} (h : OwQ w lo g rs) (hl : rs.length = n) (hn : n ≤ 9223372036854775807) : RdQ w w.heap.size (some ⟨g, 0, none⟩) n rs := by
  obtain ⟨_, vs, h2, h3, h4⟩ := h
  refine ⟨hl, hn, fun _ => ⟨g, 0, rfl, h2.lt, fun j hj => ?_⟩⟩
  obtain ⟨g', e0, e1, e2, e3, e4, e5, e6⟩ := h4 j (by omega)
  exact ⟨_, _, _, by rw [h2.cell, Nat.zero_add]; simpa using e0, by rw [h2.cell, Nat.zero_add]; simpa using e1, by rw [h2.cell, Nat.zero_add]; simpa using e2, by rw [h2.cell, Nat.zero_add]; simpa using e3, by rw [h2.cell, Nat.zero_add]; simpa using e4, Nat.le_refl _, e6.rd e5⟩
theorem OwQk.put (h : OwQk w g k rs vs) (hl : k * 5 + 4 < vs.length) (hn : (rs[k]?.getD rq0).xs.length ≤ 9223372036854775807) (ho : OwI w (g + 1) g' (rs[k]?.getD rq0).xs) :
    OwQk w g (k + 1) rs (((((vs.set (k * 5) (.int .i64 (rs[k]?.getD rq0).kind)).set (k * 5 + 1) (.int .i64 (rs[k]?.getD rq0).id)).set (k * 5 + 2) (.slice (some ⟨g', 0, none⟩) (rs[k]?.getD rq0).xs.length (rs[k]?.getD rq0).xs.length)).set (k * 5 + 3) (.bool (rs[k]?.getD rq0).grant)).set (k * 5 + 4) (.int .i64 (rs[k]?.getD rq0).num)) := fun j hj => by
  by_cases e : j = k
  · subst e
    refine ⟨g', ?_, ?_, ?_, ?_, ?_, hn, ho⟩
    · rw [List.getElem?_set_ne (by omega), List.getElem?_set_ne (by omega), List.getElem?_set_ne (by omega), List.getElem?_set_ne (by omega), List.getElem?_set_self (by omega)]
    · rw [List.getElem?_set_ne (by omega), List.getElem?_set_ne (by omega), List.getElem?_set_ne (by omega), List.getElem?_set_self (by simp only [List.length_set]; omega)]
    · rw [List.getElem?_set_ne (by omega), List.getElem?_set_ne (by omega), List.getElem?_set_self (by simp only [List.length_set]; omega)]
    · rw [List.getElem?_set_ne (by omega), List.getElem?_set_self (by simp only [List.length_set]; omega)]
    · rw [List.getElem?_set_self (by simp only [List.length_set]; omega)]
  · obtain ⟨g'', h0, h1, h2, h3, h4, h5, h6⟩ := h j (by omega)
    have q : ∀ i (v : Value), i < 5 → vs[j * 5 + i]? = some v → (((((vs.set (k * 5) (.int .i64 (rs[k]?.getD rq0).kind)).set (k * 5 + 1) (.int .i64 (rs[k]?.getD rq0).id)).set (k * 5 + 2) (.slice (some ⟨g', 0, none⟩) (rs[k]?.getD rq0).xs.length (rs[k]?.getD rq0).xs.length)).set (k * 5 + 3) (.bool (rs[k]?.getD rq0).grant)).set (k * 5 + 4) (.int .i64 (rs[k]?.getD rq0).num))[j * 5 + i]? = some v := fun i v hi hv => by
      rw [List.getElem?_set_ne (by omega), List.getElem?_set_ne (by omega), List.getElem?_set_ne (by omega), List.getElem?_set_ne (by omega), List.getElem?_set_ne (by omega)]; exact hv
    exact ⟨g'', q 0 _ (by omega) h0, q 1 _ (by omega) h1, q 2 _ (by omega) h2, q 3 _ (by omega) h3, q 4 _ (by omega) h4, h5, h6⟩
end

set_option maxRecDepth 100000 in
set_option maxHeartbeats 1600000 in
theorem toRequestS_any (A : Option Addr) (n c : Nat) (rs : List Rq) (w : World) (h : RdQ w w.heap.size A n rs) (ht : totQ rs ≤ 1048576) :
    Calls Tryz.prog 47 #[.slice A n c] w fun e w' => e = .returned (.slice (some ⟨w.heap.size, 0, none⟩) n n) ∧ OwQ w' w.heap.size w.heap.size rs ∧ Below w.heap.size w w' := by
  obtain ⟨i0, hi0, hz0, hz1, hz2⟩ := info_parts rq_info
  have hl := qh h.len
  have H := qh h
  have hn : n ≤ 1048576 := by have := totQ_ge rs; have := h.len; omega
  have Ht := qh ht
  clear h ht
  have hmk := run_make_n (P := Tryz.prog) 54 35 i0 _ Tryz.underlying54 hi0 hz0 n (by rw [hz2]; omega) (by omega)
  have Hz1 := qh hz1
  clear hi0 hz0 hz2 hz1
  go_enter Tryz.func47, Tryz.ntmps47
  go_wp2
  clear hmk
  go_loopw [4] (fun i wr => ∃ k : Nat, i = .int .i64 k ∧ k ≤ n ∧ Below w.heap.size w wr ∧ ∃ vs : List Value, Blk wr w.heap.size 35 vs.toArray ∧ vs.length = n * 5 ∧ OwQk wr w.heap.size k rs vs) (fun i _ => n - (intOf i).toNat)
  case atStart =>
    refine ⟨0, rfl, Nat.zero_le _, (Below.refl _ _).alloc (Nat.le_refl _) _, (madeCells #[.int .i64 0, .int .i64 0, .slice none 0 0, .bool false, .int .i64 0] (n * i0.size)).toList, ?_, ?_, fun j hj => absurd hj (by omega)⟩
    · rw [Array.toArray_toList]; exact Blk.new w _ _
    · rw [Array.length_toList, size_madeCells, Hz1.out]
  case round =>
    obtain ⟨k, rfl, hk, hbel, vs, hblk, hvl, hown⟩ := hrel
    have Hblk := qh hblk
    have Hvl := qh hvl
    have Hown := qh hown
    have Hbel := qh hbel
    clear hblk hown hvl
    have lz := hbel.size
    by_cases hlt : k < n
    · obtain ⟨b, o, A', m', c', rfl, hb, hc0, hc1, hc2, hc3, hc4, hmc, hrd⟩ := (H.out.below hbel).at_ hlt
      have hkl : Hid (k < rs.length) := by have := hl.out; show _ < _; omega
      have Hrd := qh (hrd.more lz)
      have hm8 : m' ≤ 1048576 := by have := hrd.len; have := totQ_need hkl.out; have := Ht.out; omega
      have k1 : (0 : Int) ≤ (k : Int) := by omega
      have k2 : (k : Int) < (n : Int) := by omega
      have k3 : 0 ≤ (k : Int) * 5 := by omega
      have Hput := qh (fun (W : World) (g' : Nat) (h : OwQk W w.heap.size k rs vs) (hl) (hn) (ho) => OwQk.put (g' := g') h hl hn ho)
      clear hrd hbel
      generalize rs[k]?.getD rq0 = q at *
      obtain ⟨kd, id, xs, gr, nm⟩ := q
      dsimp only at hc0 hc1 hc3 hc4 Hrd Hput
      go_wp2_with fail
      refine (toRequest_any A' m' c' kd id xs gr nm wr Hrd.out hm8).mono ?_; rintro e w1 ⟨g1, rfl, ho1, hb1⟩
      have Ho1 := qh ho1
      clear ho1 hc0 hc1 hc2 hc3 hc4
      have Hbel1 := qh (Hbel.out.trans (hb1.mono lz))
      have Hblk1 := qh (Hblk.out.below hb1 Hblk.out.lt)
      have Hown1 := qh (Hown.out.keep (keep_up hb1 _))
      have hk5 : k * 5 + 4 < vs.length := by have := Hvl.out; omega
      obtain ⟨v0, e0⟩ : ∃ v0, w1.cell? ⟨w.heap.size, k * 5, none⟩ = some v0 := ⟨vs[k * 5], by rw [Hblk1.out.cell, gT, List.getElem?_eq_getElem (by omega)]⟩
      obtain ⟨v1, e1⟩ : ∃ v1, w1.cell? ⟨w.heap.size, k * 5 + 1, none⟩ = some v1 := ⟨vs[k * 5 + 1], by rw [Hblk1.out.cell, gT, List.getElem?_eq_getElem (by omega)]⟩
      obtain ⟨v2, e2⟩ : ∃ v2, w1.cell? ⟨w.heap.size, k * 5 + 2, none⟩ = some v2 := ⟨vs[k * 5 + 2], by rw [Hblk1.out.cell, gT, List.getElem?_eq_getElem (by omega)]⟩
      obtain ⟨v3, e3⟩ : ∃ v3, w1.cell? ⟨w.heap.size, k * 5 + 3, none⟩ = some v3 := ⟨vs[k * 5 + 3], by rw [Hblk1.out.cell, gT, List.getElem?_eq_getElem (by omega)]⟩
      obtain ⟨v4, e4⟩ : ∃ v4, w1.cell? ⟨w.heap.size, k * 5 + 4, none⟩ = some v4 := ⟨vs[k * 5 + 4], by rw [Hblk1.out.cell, gT, List.getElem?_eq_getElem (by omega)]⟩
      have f0 : w1.frozen? ⟨w.heap.size, k * 5, none⟩ = false := Hblk1.out.frozen _
      have f1 : w1.frozen? ⟨w.heap.size, k * 5 + 1, none⟩ = false := Hblk1.out.frozen _
      have f2 : w1.frozen? ⟨w.heap.size, k * 5 + 2, none⟩ = false := Hblk1.out.frozen _
      have f3 : w1.frozen? ⟨w.heap.size, k * 5 + 3, none⟩ = false := Hblk1.out.frozen _
      have f4 : w1.frozen? ⟨w.heap.size, k * 5 + 4, none⟩ = false := Hblk1.out.frozen _
      have hg1 : w.heap.size + 1 ≤ g1 := by have := Ho1.out.1; have := Hblk.out.lt; omega
      have Hk5 := qh hk5
      clear hk5 hb1
      go_wp2
      go_roundw
      case rel =>
        have st : ∀ (W : World) (i : Nat) (v : Value), Below w.heap.size w W → Below w.heap.size w (W.setCell ⟨w.heap.size, i, none⟩ v) := fun W i v hb => hb.setCell (p := ⟨w.heap.size, i, none⟩) (Nat.le_refl _) v
        have hp := Hput.out w1 g1 Hown1.out Hk5.out (by have := Hrd.out.le; have := Hrd.out.len; omega) ⟨hg1, Ho1.out.2⟩
        have hxl : xs.length = m' := Hrd.out.len
        rw [hxl] at hp
        have hb5 := ((((Hblk1.out.set_ (k * 5) (.int .i64 kd)).set_ (k * 5 + 1) (.int .i64 id)).set_ (k * 5 + 2) (.slice (some ⟨g1, 0, none⟩) m' m')).set_ (k * 5 + 3) (.bool gr)).set_ (k * 5 + 4) (.int .i64 nm)
        simp only [pS] at hb5
        exact ⟨k + 1, by go_num, by omega, st _ _ _ (st _ _ _ (st _ _ _ (st _ _ _ (st _ _ _ Hbel1.out)))), _, hb5, by simp [Hvl.out], ((((hp.keep (keep_set _ _ _ _)).keep (keep_set _ _ _ _)).keep (keep_set _ _ _ _)).keep (keep_set _ _ _ _)).keep (keep_set _ _ _ _)⟩
      case measure => simp [intOf]; omega
    · have ek : k = n := by omega
      have Ek := qh ek
      clear ek
      go_wp2
      go_ret
      refine ⟨rfl, ⟨Nat.le_refl _, vs, Hblk.out, by rw [Hvl.out, hl.out], ?_⟩, hbel⟩
      have := Hown.out
      rw [Ek.out, ← hl.out] at this
      exact this

/-! ### Comparisons -/
set_option maxRecDepth 100000 in
set_option maxHeartbeats 800000 in
theorem eqRequest_any (A1 A2 : Option Addr) (n c1 c2 : Nat) (kd id : Int) (xs : List Int) (gr : Bool) (nm : Int) (w : World) (h1 : RdI w w.heap.size A1 n xs) (h2 : RdI w w.heap.size A2 n xs) :
    Calls Tryz.prog 42 #[.agg #[.int .i64 kd, .int .i64 id, .slice A1 n c1, .bool gr, .int .i64 nm], .agg #[.int .i64 kd, .int .i64 id, .slice A2 n c2, .bool gr, .int .i64 nm]] w fun e w' => e = .returned (.bool true) ∧ Below w.heap.size w w' := by
  have H1 := qh h1
  have H2 := qh h2
  clear h1 h2
  have sz : (w.alloc (.cells #[.int .i64 kd, .int .i64 id, .slice A1 n c1, .bool gr, .int .i64 nm] 35)).heap.size = w.heap.size + 1 := World.size_alloc _ _
  have B2 := qh ((alloc_up w (.cells #[.int .i64 kd, .int .i64 id, .slice A1 n c1, .bool gr, .int .i64 nm] 35)).alloc (by rw [sz]; omega) (.cells #[.int .i64 kd, .int .i64 id, .slice A2 n c2, .bool gr, .int .i64 nm] 35))
  have P := qh ((Blk.new w 35 #[.int .i64 kd, .int .i64 id, .slice A1 n c1, .bool gr, .int .i64 nm]).alloc (.cells #[.int .i64 kd, .int .i64 id, .slice A2 n c2, .bool gr, .int .i64 nm] 35))
  have hQ := Blk.new (w.alloc (.cells #[.int .i64 kd, .int .i64 id, .slice A1 n c1, .bool gr, .int .i64 nm] 35)) 35 #[.int .i64 kd, .int .i64 id, .slice A2 n c2, .bool gr, .int .i64 nm]
  rw [sz] at hQ
  have Q := qh hQ
  have x0 := P.out.cell 0
  have x1 := P.out.cell 1
  have x2 := P.out.cell 2
  have y0 := Q.out.cell 0
  have y1 := Q.out.cell 1
  have y2 := Q.out.cell 2
  simp only [gT, gZ, gS] at x0 x1 x2 y0 y1 y2
  clear hQ sz
  go_enter Tryz.func42, Tryz.ntmps42
  go_wp2_with fail
  generalize (w.alloc (.cells #[.int .i64 kd, .int .i64 id, .slice A1 n c1, .bool gr, .int .i64 nm] 35)).alloc (.cells #[.int .i64 kd, .int .i64 id, .slice A2 n c2, .bool gr, .int .i64 nm] 35) = w2 at B2 P Q x0 x1 x2 y0 y1 y2 ⊢
  refine (eqTask_any A1 A2 n c1 c2 id xs w2 (H1.out.up B2.out) (H2.out.up B2.out)).mono ?_; rintro e w3 ⟨rfl, hb⟩
  have B3 := qh (below_to B2.out hb)
  have p3 := (P.out.below hb P.out.lt).cell 3
  have p4 := (P.out.below hb P.out.lt).cell 4
  have q3 := (Q.out.below hb Q.out.lt).cell 3
  have q4 := (Q.out.below hb Q.out.lt).cell 4
  simp only [gT, gZ, gS] at p3 p4 q3 q4
  clear x0 x1 x2 y0 y1 y2 hb
  have e1 : (gr != gr) = false := by simp
  go_wp2
  go_ret
  exact ⟨rfl, B3.out⟩

set_option maxRecDepth 100000 in
set_option maxHeartbeats 1600000 in
theorem eqRequestS_any (A1 A2 : Option Addr) (n c1 c2 : Nat) (rs : List Rq) (w : World) (h1 : RdQ w w.heap.size A1 n rs) (h2 : RdQ w w.heap.size A2 n rs) :
    Calls Tryz.prog 49 #[.slice A1 n c1, .slice A2 n c2] w fun e w' => e = .returned (.bool true) ∧ Below w.heap.size w w' := by
  have hn := h1.2.1
  have H1 := qh h1
  have H2 := qh h2
  clear h1 h2
  go_enter Tryz.func49, Tryz.ntmps49
  go_wp2_with fail
  go_loopw [5] (fun i wr => ∃ k : Nat, i = .int .i64 k ∧ k ≤ n ∧ Below w.heap.size w wr) (fun i _ => n - (intOf i).toNat)
  case atStart => exact ⟨0, rfl, Nat.zero_le _, Below.refl _ _⟩
  case round =>
    obtain ⟨k, rfl, hk, hbel⟩ := hrel
    have Hb := qh hbel
    clear hbel
    by_cases hlt : k < n
    · have Hd := qh (Hb.out.drew)
      obtain ⟨b1, o1, A1', m1, c1', rfl, lb1, a0, a1, a2, a3, a4, hac, har⟩ := (H1.out.up Hd.out).at_ hlt
      obtain ⟨b2, o2, A2', m2, c2', rfl, lb2, d0, d1, d2, d3, d4, hdc, hdr⟩ := (H2.out.up Hd.out).at_ hlt
      have k1 : (0 : Int) ≤ (k : Int) := by omega
      have k2 : (k : Int) < (n : Int) := by omega
      have k3 : 0 ≤ (k : Int) * 5 := by omega
      obtain rfl : m1 = m2 := by have := har.len; have := hdr.len; omega
      generalize rs[k]?.getD rq0 = q at *
      obtain ⟨kd, id, xs, gr, nm⟩ := q
      dsimp only at a0 a1 a3 a4 d0 d1 d3 d4 har hdr
      have hcall := qh (eqRequest_any A1' A2' m1 c1' c2' kd id xs gr nm wr.drew har hdr)
      clear har hdr
      have HK := qh (fun w' (hb : Below wr.drew.heap.size wr.drew w') => (⟨⟨(hb.cell (p := ⟨b1, o1 + k * 5, none⟩) lb1).trans a0, (hb.cell (p := ⟨b1, o1 + k * 5 + 1, none⟩) lb1).trans a1, (hb.cell (p := ⟨b1, o1 + k * 5 + 2, none⟩) lb1).trans a2, (hb.cell (p := ⟨b1, o1 + k * 5 + 3, none⟩) lb1).trans a3, (hb.cell (p := ⟨b1, o1 + k * 5 + 4, none⟩) lb1).trans a4⟩, (hb.cell (p := ⟨b2, o2 + k * 5, none⟩) lb2).trans d0, (hb.cell (p := ⟨b2, o2 + k * 5 + 1, none⟩) lb2).trans d1, (hb.cell (p := ⟨b2, o2 + k * 5 + 2, none⟩) lb2).trans d2, (hb.cell (p := ⟨b2, o2 + k * 5 + 3, none⟩) lb2).trans d3, (hb.cell (p := ⟨b2, o2 + k * 5 + 4, none⟩) lb2).trans d4⟩ :
        (w'.cell? ⟨b1, o1 + k * 5, none⟩ = some (.int .i64 kd) ∧ w'.cell? ⟨b1, o1 + k * 5 + 1, none⟩ = some (.int .i64 id) ∧ w'.cell? ⟨b1, o1 + k * 5 + 2, none⟩ = some (.slice A1' m1 c1') ∧ w'.cell? ⟨b1, o1 + k * 5 + 3, none⟩ = some (.bool gr) ∧ w'.cell? ⟨b1, o1 + k * 5 + 4, none⟩ = some (.int .i64 nm)) ∧ w'.cell? ⟨b2, o2 + k * 5, none⟩ = some (.int .i64 kd) ∧ w'.cell? ⟨b2, o2 + k * 5 + 1, none⟩ = some (.int .i64 id) ∧ w'.cell? ⟨b2, o2 + k * 5 + 2, none⟩ = some (.slice A2' m1 c2') ∧ w'.cell? ⟨b2, o2 + k * 5 + 3, none⟩ = some (.bool gr) ∧ w'.cell? ⟨b2, o2 + k * 5 + 4, none⟩ = some (.int .i64 nm)))
      have K0 := HK.out _ (Below.refl _ _)
      clear a0 a1 a2 a3 a4 d0 d1 d2 d3 d4
      go_wp2_with fail
      refine wp_region_mix (.take 0 (.take 1 (.take 2 (.take 3 (.take 4 (.take 5 (.take 6 (.take 7 (.bar 8 (.take 9 .nil)))))))))) (fun w' => (w'.cell? ⟨b1, o1 + k * 5, none⟩ = some (.int .i64 kd) ∧ w'.cell? ⟨b1, o1 + k * 5 + 1, none⟩ = some (.int .i64 id) ∧ w'.cell? ⟨b1, o1 + k * 5 + 2, none⟩ = some (.slice A1' m1 c1') ∧ w'.cell? ⟨b1, o1 + k * 5 + 3, none⟩ = some (.bool gr) ∧ w'.cell? ⟨b1, o1 + k * 5 + 4, none⟩ = some (.int .i64 nm)) ∧ w'.cell? ⟨b2, o2 + k * 5, none⟩ = some (.int .i64 kd) ∧ w'.cell? ⟨b2, o2 + k * 5 + 1, none⟩ = some (.int .i64 id) ∧ w'.cell? ⟨b2, o2 + k * 5 + 2, none⟩ = some (.slice A2' m1 c2') ∧ w'.cell? ⟨b2, o2 + k * 5 + 3, none⟩ = some (.bool gr) ∧ w'.cell? ⟨b2, o2 + k * 5 + 4, none⟩ = some (.int .i64 nm)) (by kernel_rfl) (by kernel_rfl) K0 (fun _ => ?_)
      clear K0
      repeat ((first | refine wpMix_skip (by rfl) (by rfl) ?_ | (refine wpMix_take (v := ?_) (by rfl) (by rfl) (fun wS hSt => ?_) ?_; rotate_left; (focus ((try dsimp only at hSt); (go_simp <;> with_reducible rfl); done)))); (try simp only [Act.put, pS, pZ, pC]))
      (refine wpMix_bar (by rfl) (fun K hK => ?_); go_simp)
      refine hcall.out.mono ?_; rintro e w2 ⟨rfl, hb2⟩
      have B2 := qh (below_to Hd.out hb2)
      ((try dsimp only); refine nxK hK _ _ (HK.out _ hb2) ?_; clear hK K; (try simp only [Act.put, pS, pZ, pC]))
      clear hb2
      repeat ((first | refine wpMix_skip (by rfl) (by rfl) ?_ | (refine wpMix_take (v := ?_) (by rfl) (by rfl) (fun wS hSt => ?_) ?_; rotate_left; (focus ((try dsimp only at hSt); (go_simp <;> with_reducible rfl); done)))); (try simp only [Act.put, pS, pZ, pC]))
      refine wpMix_nil ?_
      go_wp2_with fail
      go_roundw
      case rel => exact ⟨k + 1, by go_num, by omega, B2.out⟩
      case measure => simp [intOf]; omega
    · obtain rfl : k = n := by omega
      go_wp2_with fail
      go_ret
      exact ⟨rfl, Hb.out⟩
end Go.Proofs.YtlegpecjoaklnaaGreatDoor
