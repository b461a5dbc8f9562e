/- Several texts in one. -/
import Derived.Test.YtdgeicdiiakhjaaGreatW5
import Derived.Test.YtdgeicdiiakhjaaGreatW3
import Derived.Test.YtdgeicdiiakhjaaGreatW4
namespace Go.Proofs.YtdgeicdiiakhjaaGreat
open Go.RowKit

theorem own_keep {w w' : World} {base : Nat} {e : TypeId} {size : Nat} {v : Value} {n : Nat} {xs : List Value} (h : w.ownsRow base e size v n xs) (hk : ∀ b, v.ownBlock = some b → w'.heap[b]? = w.heap[b]?) : w'.ownsRow base e size v n xs := by
  refine ⟨h.1, ?_⟩
  rcases h.2 with hn | ⟨g, cap, cur, rfl, hb, hgg, rest⟩
  · exact .inl hn
  · exact .inr ⟨g, cap, cur, rfl, hb, (hk g rfl).trans hgg, rest⟩
theorem own_set {w : World} {base : Nat} {e : TypeId} {size g n c : Nat} {xs : List Value} (h : w.ownsRow base e size (.slice (some ⟨g, 0, none⟩) n c) n xs) (i : Nat) (u : Value) : (w.setCell ⟨g, i, none⟩ u).ownsRow base e size (.slice (some ⟨g, 0, none⟩) n c) n (xs.set i u) := by
  refine ⟨by rw [List.length_set]; exact h.1, ?_⟩
  rcases h.2 with ⟨hn, _⟩ | ⟨g', cap, cur, hv, hb, hgg, h1, h2, h3, h4⟩
  · cases hn
  · injection hv with e1 e2 e3
    injection e1 with e1
    injection e1 with e1
    subst e1 e3
    refine .inr ⟨g, c, cur.setIfInBounds i u, rfl, hb, Blk.set_ (t := e) hgg i u, h1, h2, by simpa using h3, ?_⟩
    rw [Array.toList_setIfInBounds, List.take_set, h4]
theorem own_row {w : World} {base : Nat} {e : TypeId} {size n c : Nat} {A : Option Addr} {xs : List Value} (h : w.ownsRow base e size (.slice A n c) n xs) (hn : 0 < n) : ∃ g cur, A = some ⟨g, 0, none⟩ ∧ base ≤ g ∧ Blk w g e cur := by
  rcases h.2 with ⟨_, h0⟩ | ⟨g, cap, cur, hv, hb, hgg, _⟩
  · omega
  · injection hv with e1 e2 e3
    exact ⟨g, cur, e1, hb, hgg⟩
theorem own_built {w : World} {base : Nat} (e : TypeId) (a b : Value) (hb : base ≤ w.heap.size) : (w.alloc (.cells #[a, b] e)).ownsRow base e 2 (.slice (some ⟨w.heap.size, 0, none⟩) 1 1) 1 [a, b] :=
  ⟨rfl, .inr ⟨w.heap.size, 1, #[a, b], rfl, hb, heap_alloc_new w _, Nat.le_refl _, by unfold maxLen; omega, rfl, rfl⟩⟩
theorem own_src {w : World} {base : Nat} {e : TypeId} {n c : Nat} {A : Option Addr} {xs : List Value} (h : w.ownsRow base e 2 (.slice A n c) n xs) : Src w 2 A n xs := by
  refine ⟨h.1, fun hp => ?_⟩
  obtain ⟨g, cur, rfl, _, _⟩ := own_row h hp
  exact ⟨_, rfl, h.cells (g := g) rfl⟩
theorem own_ne_int {w : World} {base n b : Nat} {v : Value} {xs : List Value} {cs : Array Value} (h : w.ownsRow base 43 2 v n xs) (hb : Blk w b 3 cs) : v.ownBlock ≠ some b := by
  rcases h.2 with ⟨rfl, _⟩ | ⟨g, cap, cur, rfl, _, hg, _⟩
  · simp [Value.ownBlock]
  · intro e
    simp [Value.ownBlock] at e
    subst e
    unfold Blk at hb
    rw [hg] at hb
    injection hb with hb
    injection hb with _ hb
    exact absurd hb (by decide)

/-- The cells of k tasks, each with a need of three small integers in a block at or above lo. -/
def TkN (w : World) (lo k : Nat) (vs : List Value) : Prop :=
  vs.length = k * 2 ∧ ∀ j, j < k → ∃ (id : Int) (b : Nat) (xs : List Int), vs[j * 2]? = some (.int .i64 id) ∧ vs[j * 2 + 1]? = some (.slice (some ⟨b, 0, none⟩) 3 3) ∧ OwI w lo b xs ∧ xs.length = 3 ∧ Bd 21 xs
section
variable {w w' : World} {lo k k' : Nat} {vs vs' : List Value}
theorem TkN.nil : TkN w lo 0 [] := ⟨rfl, fun j hj => by omega⟩
theorem TkN.keep (h : TkN w lo k vs) (hk : ∀ b cs, lo ≤ b → Blk w b 3 cs → Blk w' b 3 cs) : TkN w' lo k vs :=
  ⟨h.1, fun j hj => by obtain ⟨id, b, xs, h1, h2, h3, h4⟩ := h.2 j hj; exact ⟨id, b, xs, h1, h2, ⟨h3.1, hk b _ h3.1 h3.2⟩, h4⟩⟩
theorem TkN.only {g : Nat} (h : TkN w lo k vs) (o : OnlyG w w' g) (hg : g < lo) : TkN w' lo k vs := h.keep (fun _ _ hb hc => o.blk hc (by omega))
theorem TkN.alloc (h : TkN w lo k vs) (o : Obj) : TkN (w.alloc o) lo k vs := h.keep (fun _ _ _ hc => hc.alloc o)
theorem TkN.grown {base n : Nat} {v : Value} {xs : List Value} (h : TkN w lo k vs) (ho : w.ownsRow base 43 2 v n xs) (hg : w.grownBy w' v.ownBlock) : TkN w' lo k vs :=
  h.keep (fun _ _ _ hc => hc.grown hg (fun e => own_ne_int ho hc e.symm))
theorem TkN.one {id : Int} {b : Nat} {xs : List Int} (h : OwI w lo b xs) (hl : xs.length = 3) (hb : Bd 21 xs) : TkN w lo 1 [.int .i64 id, .slice (some ⟨b, 0, none⟩) 3 3] :=
  ⟨rfl, fun j hj => by obtain rfl : j = 0 := (by omega); exact ⟨id, b, xs, rfl, rfl, h, hl, hb⟩⟩
theorem TkN.append (h : TkN w lo k vs) (h' : TkN w lo k' vs') : TkN w lo (k + k') (vs ++ vs') := by
  refine ⟨by simp [h.1, h'.1]; omega, fun j hj => ?_⟩
  by_cases hl : j < k
  · obtain ⟨id, b, xs, h1, h2, h3⟩ := h.2 j hl
    refine ⟨id, b, xs, ?_, ?_, h3⟩
    · rw [List.getElem?_append_left (by have := h.1; omega)]; exact h1
    · rw [List.getElem?_append_left (by have := h.1; omega)]; exact h2
  · obtain ⟨id, b, xs, h1, h2, h3⟩ := h'.2 (j - k) (by omega)
    refine ⟨id, b, xs, ?_, ?_, h3⟩
    · rw [List.getElem?_append_right (by have := h.1; omega), show j * 2 - vs.length = (j - k) * 2 from by have := h.1; omega]; exact h1
    · rw [List.getElem?_append_right (by have := h.1; omega), show j * 2 + 1 - vs.length = (j - k) * 2 + 1 from by have := h.1; omega]; exact h2
theorem TkN.cellsOne (h : TkN w lo k vs) : ∀ u ∈ vs, u.oneCell' = true := by
  intro u hu
  obtain ⟨i, hi, rfl⟩ := List.getElem_of_mem hu
  obtain ⟨id, b, xs, h1, h2, _⟩ := h.2 (i / 2) (by have := h.1; omega)
  rcases Nat.mod_two_eq_zero_or_one i with e | e
  · rw [show i / 2 * 2 = i from by omega, List.getElem?_eq_getElem hi] at h1
    injection h1 with h1; rw [h1]; rfl
  · rw [show i / 2 * 2 + 1 = i from by omega, List.getElem?_eq_getElem hi] at h2
    injection h2 with h2; rw [h2]; rfl
theorem TkN.set_id (h : TkN w lo k vs) (i : Nat) (v : Int) (hi : i < k) : TkN w lo k (vs.set (i * 2) (.int .i64 v)) := by
  refine ⟨by rw [List.length_set]; exact h.1, fun j hj => ?_⟩
  obtain ⟨id, b, xs, h1, h2, h3⟩ := h.2 j hj
  by_cases e : i = j
  · subst e
    exact ⟨v, b, xs, List.getElem?_set_self (by have := h.1; omega), by rw [List.getElem?_set_ne (by omega)]; exact h2, h3⟩
  · exact ⟨id, b, xs, by rw [List.getElem?_set_ne (by omega)]; exact h1, by rw [List.getElem?_set_ne (by omega)]; exact h2, h3⟩
theorem TkN.set_need (h : TkN w lo k vs) (g i : Nat) (v : Int) (hv : 0 ≤ v ∧ v ≤ 21) : TkN (w.setCell ⟨g, i, none⟩ (.int .i64 v)) lo k vs := by
  refine ⟨h.1, fun j hj => ?_⟩
  obtain ⟨id, b, xs, h1, h2, h3, h4, h5⟩ := h.2 j hj
  by_cases e : b = g
  · subst e
    exact ⟨id, b, xs.set i v, h1, h2, ⟨h3.1, by rw [← set_vals]; exact h3.2.set_ _ _⟩, by rw [List.length_set]; exact h4, h5.set_ _ hv⟩
  · exact ⟨id, b, xs, h1, h2, ⟨h3.1, h3.2.far e _⟩, h4, h5⟩
/-- They can be read. -/
theorem TkN.read (h : TkN w lo k vs) : ∃ ts : List Tk, ts.length = k ∧ TkCells w w.heap.size vs ts ∧ ∀ t ∈ ts, t.2.length = 3 ∧ Bd 21 t.2 := by
  have hh : ∀ j : Nat, ∃ t : Tk, j < k → ∃ b : Nat, vs[j * 2]? = some (.int .i64 t.1) ∧ vs[j * 2 + 1]? = some (.slice (some ⟨b, 0, none⟩) 3 3) ∧ OwI w lo b t.2 ∧ t.2.length = 3 ∧ Bd 21 t.2 := by
    intro j
    by_cases hj : j < k
    · obtain ⟨id, b, xs, h1, h2, h3, h4, h5⟩ := h.2 j hj
      exact ⟨(id, xs), fun _ => ⟨b, h1, h2, h3, h4, h5⟩⟩
    · exact ⟨(0, []), fun h => absurd h hj⟩
  obtain ⟨f, hf⟩ := Classical.axiomOfChoice hh
  have hg : ∀ j, j < k → ((List.range k).map f)[j]? = some (f j) := by
    intro j hj
    rw [List.getElem?_map, List.getElem?_range hj]; rfl
  refine ⟨(List.range k).map f, by simp, ⟨by simp [h.1], fun j hj => ?_⟩, fun t ht => ?_⟩
  · have hj : j < k := by simpa using hj
    obtain ⟨b, h1, h2, h3, h4, h5⟩ := hf j hj
    rw [hg j hj]
    exact ⟨_, _, _, h1, h2, Nat.le_refl _, h3.rd' h4 (by omega)⟩
  · obtain ⟨j, hj, rfl⟩ := List.mem_map.1 ht
    obtain ⟨b, h1, h2, h3, h4, h5⟩ := hf j (by simpa using hj)
    exact ⟨h4, h5⟩
end

/-- A row has grown. -/
theorem tk_grow {w0 w w' : World} {g q k n : Nat} {v : Value} {xs vs : List Value} (hown : w.ownsRow w0.heap.size 43 2 v n xs) (hg : w.grownBy w' v.ownBlock) (ho : OnlyG w0 w g) (hr : Rdr w g q) (ht : TkN w w0.heap.size k vs) (hlt : g < w0.heap.size) :
    OnlyG w0 w' g ∧ Rdr w' g q ∧ TkN w' w0.heap.size k vs :=
  ⟨ho.grown hg (fun r e => (hown.lt r e).1), hr.keep (fun b hb => hg.block b (by have := hr.lt; omega) (fun e => by have := (hown.lt b e.symm).1; omega)), ht.grown hown hg⟩

set_option maxRecDepth 100000 in
set_option maxHeartbeats 3200000 in
theorem l91Tasks_any (g p n : Nat) (w : World) (h : Rdr w g p) (hp : p ≤ 800000) (hn : n ≤ 20) :
    Calls Tryz.prog 42 #[.pointer (some ⟨g, 0, none⟩), .int .i64 (n : Int)] w fun e w' => ∃ A m c vs, e = .returned (.slice A m c) ∧ m ≤ n + 1 ∧ w'.ownsRow w.heap.size 43 2 (.slice A m c) m vs ∧ TkN w' w.heap.size m vs ∧ OnlyG w w' g ∧ ∃ q, q ≤ p + 300 ∧ Rdr w' g q := by
  obtain ⟨i0, hi0, hz0, hz1, hz2⟩ := info_parts task_info
  have hg0 := h.lt
  go_enter Tryz.func42, Tryz.ntmps42
  go_wp2_with fail
  refine (pick_at 5 (h.below (alloc_up _ _)) rfl (by omega) (by omega) (by omega)).mono ?_; rintro e w1 ⟨r1, rfl, hr1, R1, O1⟩
  have W1 : OnlyG w w1 g := ((OnlyG.refl w g).alloc _).trans O1
  have own1 : w1.ownsRow w.heap.size 43 2 (.slice (some ⟨w.heap.size, 0, none⟩) 0 0) 0 [] := own_keep (World.ownsRow_made w #[] 0 (Nat.le_refl _) (by unfold maxLen; omega) rfl) (fun b hb => by
    simp [Value.ownBlock] at hb; subst hb; exact O1.block _ (by simp) (by omega))
  have Own1 := qh own1
  have HW1 := qh W1
  have HR1 := qh R1
  have H := qh h
  clear own1 W1 R1 O1 h
  go_wp2_with fail
  go_loopw [5, 6, 7] (fun v d i wr => ∃ (k q c : Nat) (A : Option Addr) (vs : List Value) (id : Int), i = .int .i64 k ∧ k ≤ n ∧ d = .int .i64 id ∧ 0 ≤ id ∧ id ≤ 10 + 3 * k ∧ v = .slice A k c ∧ wr.ownsRow w.heap.size 43 2 (.slice A k c) k vs ∧ TkN wr w.heap.size k vs ∧ OnlyG w wr g ∧ q ≤ p + 1 + 8 * k ∧ Rdr wr g q) (fun _ _ i _ => n - (intOf i).toNat)
  case atStart => exact ⟨0, _, 0, _, [], _, rfl, Nat.zero_le _, rfl, by omega, by omega, rfl, Own1.out, TkN.nil, HW1.out, by omega, HR1.out⟩
  case round =>
    obtain ⟨k, q, c, A, vs, id, rfl, hk, rfl, hid0, hid1, rfl, hown, htk, ho, hq, hr⟩ := hrel
    by_cases hlt : k < n
    · go_wp2_with fail
      refine (l91Task_any g q id wr hr (by omega)).mono ?_; rintro e w2 ⟨b, xs, rfl, hO, hl3, hbd, O2, q2, hq2, R2⟩
      have lz := ho.size
      have w2g := R2.lt
      go_wp2_with fail
      refine (pick_at 2 (R2.below (alloc_up _ _)) rfl (by omega) (by omega) (by omega)).mono ?_; rintro e w3 ⟨r3, rfl, hr3, R3, O3⟩
      go_wp2_with fail
      refine (pick_at 3 R3 rfl (by omega) (by omega) (by omega)).mono ?_; rintro e w4 ⟨r4, rfl, hr4, R4, O4⟩
      have O24 : OnlyG wr w4 g := ((O2.alloc _).trans O3).trans O4
      have own4 := own_keep hown (w' := w4) (fun k hk => O24.block k (hown.lt k hk).2 (by have := (hown.lt k hk).1; omega))
      have tk4 := htk.only O24 hg0
      have X4 := O4.blk (O3.blk (Blk.new w2 _ _) (by omega)) (by omega)
      have one4 := TkN.one (id := id) (⟨by have := hO.1; omega, O4.blk (O3.blk (hO.2.alloc _) (by have := hO.1; omega)) (by have := hO.1; omega)⟩ : OwI w4 w.heap.size b xs) hl3 hbd
      have ho4 := ho.trans O24
      have s4 : w2.heap.size < w4.heap.size := X4.lt
      have s5 : w.heap.size ≤ w4.heap.size := ho4.size
      generalize w2.heap.size = x at X4 s4 ⊢
      have x0 : w4.cell? ⟨x, 0, none⟩ = some (.int .i64 id) := by rw [X4.cell]; rfl
      have x1 : w4.cell? ⟨x, 1, none⟩ = some (.slice (some ⟨b, 0, none⟩) 3 3) := by rw [X4.cell]; rfl
      have Own4 := qh own4
      have Tk4 := qh tk4
      have One4 := qh one4
      have Ho4 := qh ho4
      have HR4 := qh R4
      clear hO hl3 hbd O2 O3 O4 O24 R2 R3 R4 X4 own4 tk4 one4 ho4 hown htk ho hr
      by_cases h0 : r4 = 0
      · subst h0
        by_cases hk0 : k = 0
        · subst hk0
          go_wp2_with (at_builtin; go_loud (refine wpList_append_src _ rfl _ _ 24 rfl w.heap.size 43 i0 _ 2 32 Tryz.underlying24 hi0 hz0 hz1 hz2 rfl (by omega) (.slice A 0 c) 0 vs rfl (Own4.out.alloc _) (some ⟨w4.heap.size, 0, none⟩) 1 1 [.int .i64 id, .slice (some ⟨b, 0, none⟩) 3 3] rfl (own_src (own_built (w := w4) (base := w.heap.size) 43 _ _ (by omega))) One4.out.cellsOne (by unfold maxLen; omega) (by omega) (by simp; omega) ?_; intro v5 w5 hown5 hgrow hrow))
          obtain ⟨y1, y2, y3⟩ := tk_grow (w0 := w) (Own4.out.alloc _) hgrow (Ho4.out.alloc _) (HR4.out.below (alloc_up _ _)) ((Tk4.out.alloc _).append (One4.out.alloc _)) hg0
          obtain ⟨A1, c1, rfl⟩ := own_shape hown5
          have Y1 := qh y1
          have Y2 := qh y2
          have Y3 := qh y3
          have Hown := qh hown5
          clear y1 y2 y3 hown5
          go_roundw
          case rel => exact ⟨0 + 1, _, c1, A1, _, _, by go_num, by omega, rfl, by omega, by omega, rfl, Hown.out, Y3.out, Y1.out, by omega, Y2.out⟩
          case measure => simp [intOf]; omega
        · have e0 : (0 : Int) < (k : Int) := by omega
          go_wp2_with (at_builtin; go_loud (refine wpList_append_src _ rfl _ _ 24 rfl w.heap.size 43 i0 _ 2 32 Tryz.underlying24 hi0 hz0 hz1 hz2 rfl (by omega) (.slice (some ⟨w4.heap.size, 0, none⟩) 1 1) 1 [.int .i64 id, .slice (some ⟨b, 0, none⟩) 3 3] rfl (own_built (w := w4) 43 _ _ (by omega)) A k c vs rfl (own_src (Own4.out.alloc _)) Tk4.out.cellsOne (by unfold maxLen; omega) (by omega) (by simp; omega) ?_; intro v5 w5 hown5 hgrow hrow))
          obtain ⟨y1, y2, y3⟩ := tk_grow (w0 := w) (own_built (w := w4) 43 (.int .i64 id) (.slice (some ⟨b, 0, none⟩) 3 3) (by omega)) hgrow (Ho4.out.alloc _) (HR4.out.below (alloc_up _ _)) ((One4.out.alloc _).append (Tk4.out.alloc _)) hg0
          rw [Nat.add_comm 1 k] at hown5 y3
          obtain ⟨A1, c1, rfl⟩ := own_shape hown5
          have Y1 := qh y1
          have Y2 := qh y2
          have Y3 := qh y3
          have Hown := qh hown5
          clear y1 y2 y3 hown5
          go_roundw
          case rel => exact ⟨k + 1, _, c1, A1, _, _, by go_num, by omega, rfl, by omega, by omega, rfl, Hown.out, Y3.out, Y1.out, by omega, Y2.out⟩
          case measure => simp [intOf]; omega
      · have e4 : ((r4 : Int) == 0) = false := by simp; omega
        go_wp2_with (at_builtin; go_loud (refine wpList_append_src _ rfl _ _ 24 rfl w.heap.size 43 i0 _ 2 32 Tryz.underlying24 hi0 hz0 hz1 hz2 rfl (by omega) (.slice A k c) k vs rfl (Own4.out.alloc _) (some ⟨w4.heap.size, 0, none⟩) 1 1 [.int .i64 id, .slice (some ⟨b, 0, none⟩) 3 3] rfl (own_src (own_built (w := w4) (base := w.heap.size) 43 _ _ (by omega))) One4.out.cellsOne (by unfold maxLen; omega) (by omega) (by simp; omega) ?_; intro v5 w5 hown5 hgrow hrow))
        obtain ⟨y1, y2, y3⟩ := tk_grow (w0 := w) (Own4.out.alloc _) hgrow (Ho4.out.alloc _) (HR4.out.below (alloc_up _ _)) ((Tk4.out.alloc _).append (One4.out.alloc _)) hg0
        obtain ⟨A1, c1, rfl⟩ := own_shape hown5
        have Y1 := qh y1
        have Y2 := qh y2
        have Y3 := qh y3
        have Hown := qh hown5
        clear y1 y2 y3 hown5
        go_roundw
        case rel => exact ⟨k + 1, _, c1, A1, _, _, by go_num, by omega, rfl, by omega, by omega, rfl, Hown.out, Y3.out, Y1.out, by omega, Y2.out⟩
        case measure => simp [intOf]; omega
    · have ek : k = n := by omega
      subst ek
      rcases Nat.eq_zero_or_pos k with k0 | kp
      · subst k0
        have Hown := qh hown
        have Htk := qh htk
        clear hown htk
        go_wp2
        go_ret
        exact ⟨A, 0, c, vs, rfl, by omega, Hown.out, Htk.out, ho, q, by omega, hr⟩
      · obtain ⟨gr, cur, rfl, hgr, hblk⟩ := own_row hown kp
        have lgr := hblk.lt
        have kp' : (0 : Int) < (k : Int) := by omega
        have Hown := qh hown
        have Htk := qh htk
        have Ho := qh ho
        have Hblk := qh hblk
        clear hown htk ho hblk
        go_wp2_with fail
        refine (pick_at k hr rfl (by omega) (by omega) (by omega)).mono ?_; rintro e w2 ⟨r2, rfl, hr2, R2, O2⟩
        go_wp2_with fail
        refine (pick_at 40 R2 rfl (by omega) (by omega) (by omega)).mono ?_; rintro e w3 ⟨r3, rfl, hr3, R3, O3⟩
        have own3 := own_keep Hown.out (w' := w3) (fun b hb => by simp [Value.ownBlock] at hb; subst hb; exact (O2.trans O3).block _ lgr (by omega))
        have tk3 := Htk.out.only (O2.trans O3) hg0
        have blk3 := (O2.trans O3).blk Hblk.out (by omega)
        have ho3 := Ho.out.trans (O2.trans O3)
        obtain ⟨id3, b3, xs3, v1, v2, hO3, hl3, hbd3⟩ := tk3.2 r2 hr2
        have x0 : w3.cell? ⟨gr, r2 * 2, none⟩ = some (.int .i64 id3) := by have := own3.cells (g := gr) rfl _ _ v1; rwa [addr_add, Nat.zero_add] at this
        have x1 : w3.cell? ⟨gr, r2 * 2 + 1, none⟩ = some (.slice (some ⟨b3, 0, none⟩) 3 3) := by have := own3.cells (g := gr) rfl _ _ v2; rwa [addr_add, Nat.zero_add] at this
        have fz : w3.frozen? ⟨gr, r2 * 2, none⟩ = false := blk3.frozen _
        have bne : gr ≠ b3 := fun e => own_ne_int own3 hO3.2 (by simp [Value.ownBlock, e])
        have s3 := ho3.size
        have k1 : (0 : Int) ≤ (r2 : Int) := by omega
        have k2 : (r2 : Int) < (k : Int) := by omega
        have k3 : (0 : Int) ≤ (r2 : Int) * 2 := by omega
        have Own3 := qh own3
        have Tk3 := qh tk3
        have Ho3 := qh ho3
        have HR3 := qh R3
        have HO3 := qh hO3
        clear own3 tk3 ho3 R3 R2 O2 O3 hr Htk Ho Hown Hblk hO3 v1 v2
        by_cases e0 : r3 = 0
        · subst e0
          go_wp2_with fail
          refine (pick_at 3 (HR3.out.below (alloc_up _ _)) rfl (by omega) (by omega) (by omega)).mono ?_; rintro e w4 ⟨r4, rfl, hr4, R4, O4⟩
          have C4 := O4.blk (Blk.new w3 _ _) (by omega)
          have O34 : OnlyG w3 w4 g := ((OnlyG.refl w3 g).alloc _).trans O4
          have own4 := own_keep Own3.out (w' := w4) (fun b hb => by simp [Value.ownBlock] at hb; subst hb; exact O34.block _ blk3.lt (by omega))
          have tk4 := Tk3.out.only O34 hg0
          have blk4 := O34.blk blk3 (by omega)
          have y0 : w4.cell? ⟨gr, r2 * 2, none⟩ = some (.int .i64 id3) := (O34.cell (p := ⟨gr, r2 * 2, none⟩) blk3.lt (by simp; omega)).trans x0
          have z0 : w4.frozen? ⟨gr, r2 * 2, none⟩ = false := blk4.frozen _
          have hcell : ∃ v : Int, w4.cell? ⟨w3.heap.size, r4, none⟩ = some (.int .i64 v) := by
            rw [C4.cell]
            match r4, hr4 with
            | 0, _ => exact ⟨0, rfl⟩
            | 1, _ => exact ⟨40, rfl⟩
            | 2, _ => exact ⟨41, rfl⟩
          obtain ⟨v, hv⟩ := hcell
          have k4 : (r4 : Int) < 3 := by omega
          have Own4 := qh own4
          have Tk4 := qh tk4
          have Ho4 := qh (Ho3.out.trans O34)
          have HR4 := qh R4
          clear own4 tk4 R4 C4 O4 O34 blk4 blk3 x0 x1 fz
          go_wp2
          go_ret
          exact ⟨_, k, c, _, rfl, by omega, own_set Own4.out _ _, (Tk4.out.set_id r2 v hr2).keep (fun b _ _ hb => hb.far (fun e => own_ne_int Own4.out hb (by simp [Value.ownBlock]; exact e.symm)) _), Ho4.out.set_new hgr _, _, by omega, HR4.out.keep (fun b hb => Below.heap_setCell _ _ _ _ (by simp; omega))⟩
        by_cases e1 : r3 = 1
        · subst e1
          have y0 : ∃ u, w3.cell? ⟨b3, 0, none⟩ = some u := by
            rw [HO3.out.2.cell]
            match xs3, hl3 with
            | a :: _, _ => exact ⟨_, rfl⟩
          obtain ⟨u, hu⟩ := y0
          have z0 : w3.frozen? ⟨b3, 0, none⟩ = false := HO3.out.2.frozen _
          have hb3 := HO3.out.1
          go_wp2
          go_ret
          exact ⟨_, k, c, vs, rfl, by omega, own_keep Own3.out (fun b hb => by simp [Value.ownBlock] at hb; subst hb; exact Below.heap_setCell _ _ _ _ bne), Tk3.out.set_need b3 0 20 (by omega), Ho3.out.set_new hb3 _, _, by omega, HR3.out.keep (fun b hb => Below.heap_setCell _ _ _ _ (by simp; omega))⟩
        by_cases e2 : r3 = 2
        · subst e2
          have One3 := qh (TkN.one (id := id3) HO3.out hl3 hbd3)
          go_wp2_with (at_builtin; go_loud (refine wpList_append_src _ rfl _ _ 24 rfl w.heap.size 43 i0 _ 2 32 Tryz.underlying24 hi0 hz0 hz1 hz2 rfl (by omega) (.slice (some ⟨gr, 0, none⟩) k c) k vs rfl (Own3.out.alloc _) (some ⟨w3.heap.size, 0, none⟩) 1 1 [.int .i64 id3, .slice (some ⟨b3, 0, none⟩) 3 3] rfl (own_src (own_built (w := w3) (base := w.heap.size) 43 _ _ (by omega))) One3.out.cellsOne (by unfold maxLen; omega) (by omega) (by simp; omega) ?_; intro v5 w5 hown5 hgrow hrow))
          obtain ⟨y1, y2, y3⟩ := tk_grow (w0 := w) (Own3.out.alloc _) hgrow (Ho3.out.alloc _) (HR3.out.below (alloc_up _ _)) ((Tk3.out.alloc _).append (One3.out.alloc _)) hg0
          obtain ⟨A1, c1, rfl⟩ := own_shape hown5
          have Y1 := qh y1
          have Y2 := qh y2
          have Y3 := qh y3
          have Hown5 := qh hown5
          clear y1 y2 y3 hown5
          go_ret
          exact ⟨A1, k + 1, c1, _, rfl, by omega, Hown5.out, Y3.out, Y1.out, _, by omega, Y2.out⟩
        · have e3 : ((r3 : Int) == 0) = false := by simp; omega
          have e4 : ((r3 : Int) == 1) = false := by simp; omega
          have e5 : ((r3 : Int) == 2) = false := by simp; omega
          go_wp2
          go_ret
          exact ⟨_, k, c, vs, rfl, by omega, Own3.out, Tk3.out, Ho3.out, _, by omega, HR3.out⟩
end Go.Proofs.YtdgeicdiiakhjaaGreat

namespace Go.Proofs.YtdgeicdiiakhjaaGreat
open Go.RowKit

theorem new_up (w : World) (o : Obj) : Below w.heap.size w (w.alloc o) := (Below.refl _ _).alloc (Nat.le_refl _) _
theorem new_drew_up (w : World) (o : Obj) : Below w.heap.size w (w.alloc o).drew := (new_up w o).drew

set_option maxRecDepth 100000 in
set_option maxHeartbeats 1600000 in
theorem l11Fits_any (A1 A2 A3 : Option Addr) (n1 c1 n2 c2 c3 : Nat) (room : List Int) (ts : List Tk) (id : Int) (xs : List Int) (w : World) (h1 : RdI w w.heap.size A1 n1 room) (h2 : RdT w w.heap.size A2 n2 ts) (h3 : RdI w w.heap.size A3 3 xs)
    (hn1 : 3 ≤ n1) (hn2 : n2 ≤ 900) (hl : ∀ j, j < n2 → (ts[j]?.getD (0, [])).2.length = 3) (hb : ∀ j i : Nat, 0 ≤ (ts[j]?.getD (0, [])).2[i]?.getD 0 ∧ (ts[j]?.getD (0, [])).2[i]?.getD 0 ≤ 1000)
    (hx : ∀ j, j < 3 → -1000000 ≤ xs[j]?.getD 0 ∧ xs[j]?.getD 0 ≤ 1000000) :
    Calls Tryz.prog 73 #[.slice A1 n1 c1, .slice A2 n2 c2, .agg #[.int .i64 id, .slice A3 3 c3]] w fun e w' => e = .returned (.bool (fits3 (add3 (loadP ts) xs) room)) ∧ Below w.heap.size w w' := by
  have HL := qh (show ∀ i, i < 3 → -1000000 ≤ (loadP ts)[i]?.getD 0 ∧ (loadP ts)[i]?.getD 0 ≤ 1000000 from fun i hi => by
    have := loadP_bd hb (k := ts.length) (Nat.le_refl _) i hi
    rw [List.take_length] at this
    have := h2.len
    omega)
  have H1 := qh h1
  have H2 := qh h2
  have H3 := qh h3
  have Hl := qh hl
  have Hb := qh hb
  have Hx := qh hx
  clear h1 h2 h3 hl hb hx
  go_enter Tryz.func73, Tryz.ntmps73
  go_wp2_with fail
  have hk := qh (show ∀ w', Below (w.heap.size + 1) (w.alloc (.cells #[.int .i64 id, .slice A3 3 c3] 43)) w' → w'.cell? ⟨w.heap.size, 1, none⟩ = some (.slice A3 3 c3) from fun w' hb => by
    rw [hb.cell (by simp)]
    exact (Blk.new w _ _).cell 1)
  have B0 := qh (new_up w (.cells #[.int .i64 id, .slice A3 3 c3] 43))
  have sz : (w.alloc (.cells #[.int .i64 id, .slice A3 3 c3] 43)).heap.size = w.heap.size + 1 := World.size_alloc _ _
  generalize hW : w.alloc (.cells #[.int .i64 id, .slice A3 3 c3] 43) = W at hk B0 sz ⊢
  have HW := qh hW
  have HS := qh sz
  have K0 := hk.out W (Below.refl _ _)
  clear hW sz
  go_region_held3 (fun w' => w'.cell? ⟨w.heap.size, 1, none⟩ = some (.slice A3 3 c3))
    (first
      | exact K0
      | exact K1
      | exact K2
      | exact K3)
    (first
      | (go_at_call 53; refine (l1Fits_any A5 A1 3 c5 n1 c1 _ _ _ _ w2 HR2.out (H1.out.below HB2.out) (Nat.le_refl _) hn1).mono ?_; rintro e w3 ⟨rfl, m3, hw3⟩; have HB3 := qh (show Below w.heap.size w w3 from hw3 ▸ below_drewN HB2.out m3); have K3 : w3.cell? ⟨w.heap.size, 1, none⟩ = some (.slice A3 3 c3) := (by rw [← hw3]; exact K2); clear hw3)
      | (go_at_call 87; go_loud (refine (l1Add_any A4 A3 3 c4 3 c3 _ _ w1 HR1.out ((H3.out.below HB1.out).more HB1.out.size) (Nat.le_refl _) (Nat.le_refl _) HL.out Hx.out).mono ?_; rintro e w2 ⟨A5, c5, rfl, hR2, hB2⟩; have HB2 := qh (below_to HB1.out hB2); have HR2 := qh hR2; have K2 := hk.out w2 ((HS.out ▸ HQ1.out).trans (hB2.mono (by have := HQ1.out.size; have := HS.out; omega))); clear hR2 hB2))
      | (go_at_call 88; refine (l2Load_any A2 n2 c2 ts W.drew (H2.out.up B0.out.drew) hn2 Hl.out Hb.out).mono ?_; rintro e w1 ⟨A4, c4, rfl, hR1, hB1⟩; have HB1 := qh (below_to B0.out.drew hB1); have HR1 := qh hR1; have HQ1 := qh (show Below W.heap.size W w1 from below_to (Below.refl _ _).drew hB1); have K1 := hk.out w1 (HS.out ▸ HQ1.out); clear hR1 hB1))
  go_wp2
  go_ret
  exact ⟨rfl, HB3.out⟩
end Go.Proofs.YtdgeicdiiakhjaaGreat

namespace Go.Proofs.YtdgeicdiiakhjaaGreat
open Go.RowKit

theorem own_ne_blk {w : World} {base n b : Nat} {v : Value} {xs : List Value} {t : TypeId} {cs : Array Value} (ht : t ≠ 43) (h : w.ownsRow base 43 2 v n xs) (hb : Blk w b t cs) : v.ownBlock ≠ some b := by
  rcases h.2 with ⟨rfl, _⟩ | ⟨g, cap, cur, rfl, _, hg, _⟩
  · simp [Value.ownBlock]
  · intro e
    simp [Value.ownBlock] at e
    subst e
    unfold Blk at hb
    rw [hg] at hb
    injection hb with hb
    injection hb with _ hb
    exact ht hb.symm
theorem blk_ne {w : World} {a b : Nat} {t u : TypeId} {cs ds : Array Value} (ha : Blk w a t cs) (hb : Blk w b u ds) (hn : t ≠ u) : a ≠ b := by
  rintro rfl
  unfold Blk at ha hb
  rw [ha] at hb
  injection hb with hb
  injection hb with _ hb
  exact hn hb
theorem own_mono {w : World} {base base' : Nat} {e : TypeId} {size : Nat} {v : Value} {n : Nat} {xs : List Value} (h : w.ownsRow base e size v n xs) (hb : base' ≤ base) : w.ownsRow base' e size v n xs := by
  refine ⟨h.1, ?_⟩
  rcases h.2 with hn | ⟨g, cap, cur, e1, e2, rest⟩
  · exact .inl hn
  · exact .inr ⟨g, cap, cur, e1, by omega, rest⟩

/-- The cells of k nodes: each a row of its own, at or above lo2, with at most M tasks, whose needs lie at or above lo. -/
def BinsN (w : World) (lo lo2 k M : Nat) (vs : List Value) : Prop :=
  vs.length = k ∧ (∀ j, j < k → ∃ A m c ws, vs[j]? = some (.slice A m c) ∧ m ≤ M ∧ w.ownsRow lo2 43 2 (.slice A m c) m ws ∧ TkN w lo m ws) ∧
    (∀ (i j : Nat) (u v : Value) (b : Nat), vs[i]? = some u → vs[j]? = some v → Value.ownBlock u = some b → Value.ownBlock v = some b → i = j)
section
variable {w w' : World} {lo lo2 k M : Nat} {vs : List Value}
theorem BinsN.nil : BinsN w lo lo2 0 M [] := ⟨rfl, fun j hj => by omega, fun i j u v b h => by simp at h⟩
theorem BinsN.keep (h : BinsN w lo lo2 k M vs) (h1 : ∀ v m xs b, w.ownsRow lo2 43 2 v m xs → v.ownBlock = some b → w'.heap[b]? = w.heap[b]?) (h2 : ∀ b cs, lo ≤ b → Blk w b 3 cs → Blk w' b 3 cs) : BinsN w' lo lo2 k M vs :=
  ⟨h.1, fun j hj => by obtain ⟨A, m, c, ws, e1, e2, e3, e4⟩ := h.2.1 j hj; exact ⟨A, m, c, ws, e1, e2, own_keep e3 (fun b hb => h1 _ _ _ b e3 hb), e4.keep h2⟩, h.2.2⟩
theorem BinsN.only {g : Nat} (h : BinsN w lo lo2 k M vs) (o : OnlyG w w' g) (hg : g < lo) (hg2 : g < lo2) : BinsN w' lo lo2 k M vs :=
  h.keep (fun _ _ _ b hw hb => o.block b (hw.lt b hb).2 (by have := (hw.lt b hb).1; omega)) (fun _ _ hb hc => o.blk hc (by omega))
theorem BinsN.alloc (h : BinsN w lo lo2 k M vs) (o : Obj) : BinsN (w.alloc o) lo lo2 k M vs :=
  h.keep (fun _ _ _ b hw hb => Below.heap_alloc _ _ _ (hw.lt b hb).2) (fun _ _ _ hc => hc.alloc o)
theorem BinsN.drew (h : BinsN w lo lo2 k M vs) : BinsN w.drew lo lo2 k M vs := h.keep (fun _ _ _ _ _ _ => rfl) (fun _ _ _ hc => hc)
theorem BinsN.below (h : BinsN w lo lo2 k M vs) (b : Below w.heap.size w w') : BinsN w' lo lo2 k M vs :=
  h.keep (fun _ _ _ r hw hb => b.block r (hw.lt r hb).2) (fun _ _ _ hc => hc.below b hc.lt)
/-- A cell of a row of nodes is written. -/
theorem BinsN.set_out (h : BinsN w lo lo2 k M vs) {g : Nat} {cs : Array Value} (hb : Blk w g 24 cs) (i : Nat) (u : Value) : BinsN (w.setCell ⟨g, i, none⟩ u) lo lo2 k M vs :=
  h.keep (fun _ _ _ b hw hv => Below.heap_setCell _ _ _ _ (fun e => own_ne_blk (by decide) hw hb (by rw [hv, e]))) (fun _ _ _ hc => hc.far (blk_ne hc hb (by decide)) _)
theorem BinsN.more (h : BinsN w lo lo2 k M vs) {M' : Nat} (hm : M ≤ M') : BinsN w lo lo2 k M' vs :=
  ⟨h.1, fun j hj => by obtain ⟨A, m, c, ws, e1, e2, e3⟩ := h.2.1 j hj; exact ⟨A, m, c, ws, e1, by omega, e3⟩, h.2.2⟩
theorem BinsN.lower (h : BinsN w lo lo2 k M vs) {lo3 : Nat} (hm : lo3 ≤ lo2) : BinsN w lo lo3 k M vs :=
  ⟨h.1, fun j hj => by obtain ⟨A, m, c, ws, e1, e2, e3, e4⟩ := h.2.1 j hj; exact ⟨A, m, c, ws, e1, e2, own_mono e3 hm, e4⟩, h.2.2⟩
/-- One more node, without tasks. -/
theorem BinsN.push (h : BinsN w lo lo2 k M vs) (hl : lo2 ≤ w.heap.size) : BinsN (w.alloc (.cells #[] 43)) lo lo2 (k + 1) M (vs ++ [.slice (some ⟨w.heap.size, 0, none⟩) 0 0]) := by
  have ha := h.alloc (.cells #[] 43)
  have far : ∀ (i : Nat) (u : Value) (b : Nat), vs[i]? = some u → Value.ownBlock u = some b → b < w.heap.size := by
    intro i u b hi hb
    have hik : i < k := by
      rcases Nat.lt_or_ge i k with h' | h'
      · exact h'
      · rw [List.getElem?_eq_none (by have := h.1; omega)] at hi; cases hi
    obtain ⟨A, m, c, ws, e1, e2, e3, e4⟩ := h.2.1 i hik
    rw [hi] at e1
    injection e1 with e1
    subst e1
    exact (e3.lt b hb).2
  have cut : ∀ (i : Nat) (u : Value), (vs ++ [.slice (some ⟨w.heap.size, 0, none⟩) 0 0])[i]? = some u → (i < k ∧ vs[i]? = some u) ∨ (i = k ∧ u = .slice (some ⟨w.heap.size, 0, none⟩) 0 0) := by
    intro i u hi
    by_cases hik : i < k
    · rw [List.getElem?_append_left (by have := h.1; omega)] at hi; exact .inl ⟨hik, hi⟩
    · rw [List.getElem?_append_right (by have := h.1; omega)] at hi
      have hl := h.1
      by_cases e : i = k
      · rw [show i - vs.length = 0 from by omega] at hi
        injection hi with hi
        exact .inr ⟨e, hi.symm⟩
      · rw [List.getElem?_eq_none (by simp; omega)] at hi; cases hi
  refine ⟨by simp [h.1], fun j hj => ?_, fun i j u v b hu hv eu ev => ?_⟩
  · by_cases hjk : j < k
    · obtain ⟨A, m, c, ws, e1, e2, e3, e4⟩ := ha.2.1 j hjk
      exact ⟨A, m, c, ws, by rw [List.getElem?_append_left (by have := h.1; omega)]; exact e1, e2, e3, e4⟩
    · obtain rfl : j = k := by omega
      exact ⟨_, 0, 0, [], by rw [List.getElem?_append_right (by have := h.1; omega), show j - vs.length = 0 from by have := h.1; omega]; rfl, Nat.zero_le _, World.ownsRow_made w #[] 0 hl (by unfold maxLen; omega) rfl, TkN.nil⟩
  · rcases cut i u hu with ⟨h1, h2⟩ | ⟨rfl, rfl⟩ <;> rcases cut j v hv with ⟨h3, h4⟩ | ⟨rfl, rfl⟩
    · exact h.2.2 i j u v b h2 h4 eu ev
    · have := far i u b h2 eu
      simp [Value.ownBlock] at ev; omega
    · have := far j v b h4 ev
      simp [Value.ownBlock] at eu; omega
    · rfl
/-- One node has one more task. -/
theorem BinsN.grow (h : BinsN w lo lo2 k M vs) {r m c : Nat} {A : Option Addr} {ws : List Value} (hr : vs[r]? = some (.slice A m c)) (hown : w.ownsRow lo2 43 2 (.slice A m c) m ws) (hm : m ≤ M) (hg : w.grownBy w' (Value.ownBlock (.slice A m c)))
    {A1 : Option Addr} {c1 : Nat} {ws1 : List Value} (hown1 : w'.ownsRow lo2 43 2 (.slice A1 (m + 1) c1) (m + 1) ws1) (ht : TkN w' lo (m + 1) ws1)
    (hrow : Value.ownBlock (.slice A1 (m + 1) c1) = Value.ownBlock (.slice A m c) ∨ Value.ownBlock (.slice A1 (m + 1) c1) = some w.heap.size) : BinsN w' lo lo2 k (M + 1) (vs.set r (.slice A1 (m + 1) c1)) := by
  have far : ∀ (i : Nat) (u : Value) (b : Nat), i ≠ r → vs[i]? = some u → Value.ownBlock u = some b → b < w.heap.size ∧ some b ≠ Value.ownBlock (.slice A m c) := by
    intro i u b hir hi hb
    have hik : i < k := by
      rcases Nat.lt_or_ge i k with h' | h'
      · exact h'
      · rw [List.getElem?_eq_none (by have := h.1; omega)] at hi; cases hi
    obtain ⟨A', m', c', ws', e1, e2, e3, e4⟩ := h.2.1 i hik
    rw [hi] at e1
    injection e1 with e1
    subst e1
    exact ⟨(e3.lt b hb).2, fun e => hir (h.2.2 i r _ _ b hi hr hb e.symm)⟩
  have hrl : r < vs.length := (List.getElem?_eq_some_iff.1 hr).1
  refine ⟨by rw [List.length_set]; exact h.1, fun j hj => ?_, fun i j u v b hu hv eu ev => ?_⟩
  · by_cases e : r = j
    · subst e
      exact ⟨A1, m + 1, c1, ws1, by rw [List.getElem?_set_self hrl], by omega, hown1, ht⟩
    · obtain ⟨A', m', c', ws', e1, e2, e3, e4⟩ := h.2.1 j hj
      exact ⟨A', m', c', ws', by rw [List.getElem?_set_ne e]; exact e1, by omega, own_keep e3 (fun b hb => hg.block b (e3.lt b hb).2 (far j _ b (Ne.symm e) e1 hb).2), e4.grown hown hg⟩
  · by_cases ei : r = i
    · by_cases ej : r = j
      · omega
      · subst ei
        rw [List.getElem?_set_self hrl] at hu
        injection hu with hu
        subst hu
        rw [List.getElem?_set_ne ej] at hv
        obtain ⟨f1, f2⟩ := far j v b (Ne.symm ej) hv ev
        rcases hrow with e | e
        · rw [eu] at e; exact absurd e f2
        · rw [eu] at e; injection e with e; omega
    · by_cases ej : r = j
      · subst ej
        rw [List.getElem?_set_self hrl] at hv
        injection hv with hv
        subst hv
        rw [List.getElem?_set_ne ei] at hu
        obtain ⟨f1, f2⟩ := far i u b (Ne.symm ei) hu eu
        rcases hrow with e | e
        · rw [ev] at e; exact absurd e f2
        · rw [ev] at e; injection e with e; omega
      · rw [List.getElem?_set_ne ei] at hu
        rw [List.getElem?_set_ne ej] at hv
        exact h.2.2 i j u v b hu hv eu ev
/-- They can be read. -/
theorem BinsN.read (h : BinsN w lo lo2 k M vs) {base c : Nat} {A : Option Addr} (ho : w.ownsRow base 24 1 (.slice A k c) k vs) (hk : k ≤ 1000) (hM : M ≤ 1000) :
    ∃ bs, RdB w w.heap.size A k bs ∧ bs.flatten.length ≤ k * M ∧ ∀ b ∈ bs, ∀ t ∈ b, t.2.length = 3 ∧ Bd 21 t.2 := by
  have hh : ∀ j : Nat, ∃ ts : List Tk, (j < k → ∃ A m c, vs[j]? = some (.slice A m c) ∧ m ≤ c ∧ RdT w w.heap.size A m ts) ∧ ts.length ≤ M ∧ ∀ t ∈ ts, t.2.length = 3 ∧ Bd 21 t.2 := by
    intro j
    by_cases hj : j < k
    · obtain ⟨A', m, c', ws, e1, e2, e3, e4⟩ := h.2.1 j hj
      obtain ⟨ts, t1, t2, t3⟩ := e4.read
      refine ⟨ts, fun _ => ⟨A', m, c', e1, ?_, RdT.of_own e3 t2 (Nat.le_refl _) (by omega)⟩, by omega, t3⟩
      rcases e3.2 with ⟨hv, h0⟩ | ⟨g, cap, cur, hv, _, _, hc, _⟩
      · omega
      · injection hv with _ _ hv; omega
    · exact ⟨[], fun h => absurd h hj, by simp, by simp⟩
  obtain ⟨f, hf⟩ := Classical.axiomOfChoice hh
  have hg : ∀ j, j < k → ((List.range k).map f)[j]? = some (f j) := by
    intro j hj
    rw [List.getElem?_map, List.getElem?_range hj]; rfl
  refine ⟨(List.range k).map f, ⟨by simp, by omega, fun hp => ?_⟩, ?_, fun b hb => ?_⟩
  · obtain ⟨g, cur, rfl, hb, hblk⟩ := own_row ho hp
    refine ⟨g, 0, rfl, hblk.lt, fun j hj => ?_⟩
    obtain ⟨A', m, c', e1, e2, e3⟩ := (hf j).1 hj
    rw [hg j hj]
    refine ⟨A', m, c', ?_, e2, e3⟩
    have := ho.cells (g := g) rfl _ _ e1
    rwa [addr_add] at this
  · have : ∀ n, ((List.range n).map f).flatten.length ≤ n * M := by
      intro n
      induction n with
      | zero => simp
      | succ n ih =>
        rw [List.range_succ, List.map_append, List.flatten_append, List.length_append, Nat.succ_mul]
        have := (hf n).2.1
        simp only [List.map_cons, List.map_nil, List.flatten_cons, List.flatten_nil, List.append_nil]
        omega
    exact this k
  · obtain ⟨j, hj, rfl⟩ := List.mem_map.1 hb
    exact (hf j).2.2
end
end Go.Proofs.YtdgeicdiiakhjaaGreat

namespace Go.Proofs.YtdgeicdiiakhjaaGreat
open Go.RowKit

theorem own_ne_any {w : World} {base size n b : Nat} {v : Value} {xs : List Value} {t u : TypeId} {cs : Array Value} (ht : u ≠ t) (h : w.ownsRow base t size v n xs) (hb : Blk w b u cs) : v.ownBlock ≠ some b := by
  rcases h.2 with ⟨rfl, _⟩ | ⟨g, cap, cur, rfl, _, hg, _⟩
  · simp [Value.ownBlock]
  · intro e
    simp [Value.ownBlock] at e
    subst e
    exact blk_ne (t := u) (u := t) hb hg ht rfl

/-- A row of integers of the call's own. -/
def OwnI (w : World) (base : Nat) (A : Option Addr) (n c : Nat) (xs : List Int) : Prop := w.ownsRow base 3 1 (.slice A n c) n (xs.map (Value.int .i64))
section
variable {w w' : World} {base n c g : Nat} {A : Option Addr} {xs : List Int}
theorem OwnI.len (h : OwnI w base A n c xs) : xs.length = n := by have := h.1; simpa using this
theorem OwnI.keep (h : OwnI w base A n c xs) (hk : ∀ b, Value.ownBlock (.slice A n c) = some b → w'.heap[b]? = w.heap[b]?) : OwnI w' base A n c xs := own_keep h hk
theorem OwnI.only (h : OwnI w base A n c xs) (o : OnlyG w w' g) (hg : g < base) : OwnI w' base A n c xs := h.keep (fun b hb => o.block b (World.ownsRow.lt h b hb).2 (by have := (World.ownsRow.lt h b hb).1; omega))
theorem OwnI.rd (h : OwnI w base A n c xs) (hn : n ≤ 9223372036854775807) : RdI w w.heap.size A n xs := RdI.of_own h hn
theorem own_only {t : TypeId} {size : Nat} {v : Value} {ys : List Value} (h : w.ownsRow base t size v n ys) (o : OnlyG w w' g) (hg : g < base) : w'.ownsRow base t size v n ys := own_keep h (fun b hb => o.block b (h.lt b hb).2 (by have := (h.lt b hb).1; omega))
end
end Go.Proofs.YtdgeicdiiakhjaaGreat
