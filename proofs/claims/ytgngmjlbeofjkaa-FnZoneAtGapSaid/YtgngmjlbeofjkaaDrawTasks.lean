/- Walks: the draw of tasks. -/
import Derived.Test.YtgngmjlbeofjkaaDrawRoom
namespace Go.Proofs.Ytgngmjlbeofjkaa
open Go.RowKit

theorem own_keep {w w' : World} {base : Nat} {e : TypeId} {size : Nat} {v : Value} {n : Nat} {xs : List Value} (h : w.ownsRow base e size v n xs) (hk : ∀ b, v.ownBlock = some b → w'.heap[b]? = w.heap[b]?) : w'.ownsRow base e size v n xs := by
  refine ⟨h.1, ?_⟩
  rcases h.2 with hn | ⟨g, cap, cur, rfl, hb, hgg, rest⟩
  · exact .inl hn
  · exact .inr ⟨g, cap, cur, rfl, hb, (hk g rfl).trans hgg, rest⟩
theorem own_set {w : World} {base : Nat} {e : TypeId} {size g n c : Nat} {xs : List Value} (h : w.ownsRow base e size (.slice (some ⟨g, 0, none⟩) n c) n xs) (i : Nat) (u : Value) : (w.setCell ⟨g, i, none⟩ u).ownsRow base e size (.slice (some ⟨g, 0, none⟩) n c) n (xs.set i u) := by
  refine ⟨by rw [List.length_set]; exact h.1, ?_⟩
  rcases h.2 with ⟨hn, _⟩ | ⟨g', cap, cur, hv, hb, hgg, h1, h2, h3, h4⟩
  · cases hn
  · injection hv with e1 e2 e3
    injection e1 with e1
    injection e1 with e1
    subst e1 e3
    refine .inr ⟨g, c, cur.setIfInBounds i u, rfl, hb, Blk.set_ (t := e) hgg i u, h1, h2, by simpa using h3, ?_⟩
    rw [Array.toList_setIfInBounds, List.take_set, h4]
theorem own_row {w : World} {base : Nat} {e : TypeId} {size n c : Nat} {A : Option Addr} {xs : List Value} (h : w.ownsRow base e size (.slice A n c) n xs) (hn : 0 < n) : ∃ g cur, A = some ⟨g, 0, none⟩ ∧ base ≤ g ∧ Blk w g e cur := by
  rcases h.2 with ⟨_, h0⟩ | ⟨g, cap, cur, hv, hb, hgg, _⟩
  · omega
  · injection hv with e1 e2 e3
    exact ⟨g, cur, e1, hb, hgg⟩
theorem own_built {w : World} {base : Nat} (e : TypeId) (a b : Value) (hb : base ≤ w.heap.size) : (w.alloc (.cells #[a, b] e)).ownsRow base e 2 (.slice (some ⟨w.heap.size, 0, none⟩) 1 1) 1 [a, b] :=
  ⟨rfl, .inr ⟨w.heap.size, 1, #[a, b], rfl, hb, heap_alloc_new w _, Nat.le_refl _, by unfold maxLen; omega, rfl, rfl⟩⟩
theorem own_src {w : World} {base : Nat} {e : TypeId} {n c : Nat} {A : Option Addr} {xs : List Value} (h : w.ownsRow base e 2 (.slice A n c) n xs) : Src w 2 A n xs := by
  refine ⟨h.1, fun hp => ?_⟩
  obtain ⟨g, cur, rfl, _, _⟩ := own_row h hp
  exact ⟨_, rfl, h.cells (g := g) rfl⟩
theorem own_ne_int {w : World} {base n b : Nat} {v : Value} {xs : List Value} {cs : Array Value} (h : w.ownsRow base 46 2 v n xs) (hb : Blk w b 3 cs) : v.ownBlock ≠ some b := by
  rcases h.2 with ⟨rfl, _⟩ | ⟨g, cap, cur, rfl, _, hg, _⟩
  · simp [Value.ownBlock]
  · intro e
    simp [Value.ownBlock] at e
    subst e
    unfold Blk at hb
    rw [hg] at hb
    injection hb with hb
    injection hb with _ hb
    exact absurd hb (by decide)

/-- The cells of k tasks, each with a need of three small integers in a block at or above lo. -/
def TkN (w : World) (lo k : Nat) (vs : List Value) : Prop :=
  vs.length = k * 2 ∧ ∀ j, j < k → ∃ (id : Int) (b : Nat) (xs : List Int), vs[j * 2]? = some (.int .i64 id) ∧ vs[j * 2 + 1]? = some (.slice (some ⟨b, 0, none⟩) 3 3) ∧ OwI w lo b xs ∧ xs.length = 3 ∧ Bd 21 xs
section
variable {w w' : World} {lo k k' : Nat} {vs vs' : List Value}
theorem TkN.nil : TkN w lo 0 [] := ⟨rfl, fun j hj => by omega⟩
theorem TkN.keep (h : TkN w lo k vs) (hk : ∀ b cs, lo ≤ b → Blk w b 3 cs → Blk w' b 3 cs) : TkN w' lo k vs :=
  ⟨h.1, fun j hj => by obtain ⟨id, b, xs, h1, h2, h3, h4⟩ := h.2 j hj; exact ⟨id, b, xs, h1, h2, ⟨h3.1, hk b _ h3.1 h3.2⟩, h4⟩⟩
theorem TkN.only {g : Nat} (h : TkN w lo k vs) (o : OnlyG w w' g) (hg : g < lo) : TkN w' lo k vs := h.keep (fun _ _ hb hc => o.blk hc (by omega))
theorem TkN.alloc (h : TkN w lo k vs) (o : Obj) : TkN (w.alloc o) lo k vs := h.keep (fun _ _ _ hc => hc.alloc o)
theorem TkN.grown {base n : Nat} {v : Value} {xs : List Value} (h : TkN w lo k vs) (ho : w.ownsRow base 46 2 v n xs) (hg : w.grownBy w' v.ownBlock) : TkN w' lo k vs :=
  h.keep (fun _ _ _ hc => hc.grown hg (fun e => own_ne_int ho hc e.symm))
theorem TkN.one {id : Int} {b : Nat} {xs : List Int} (h : OwI w lo b xs) (hl : xs.length = 3) (hb : Bd 21 xs) : TkN w lo 1 [.int .i64 id, .slice (some ⟨b, 0, none⟩) 3 3] :=
  ⟨rfl, fun j hj => by obtain rfl : j = 0 := (by omega); exact ⟨id, b, xs, rfl, rfl, h, hl, hb⟩⟩
theorem TkN.append (h : TkN w lo k vs) (h' : TkN w lo k' vs') : TkN w lo (k + k') (vs ++ vs') := by
  refine ⟨by simp [h.1, h'.1]; omega, fun j hj => ?_⟩
  by_cases hl : j < k
  · obtain ⟨id, b, xs, h1, h2, h3⟩ := h.2 j hl
    refine ⟨id, b, xs, ?_, ?_, h3⟩
    · rw [List.getElem?_append_left (by have := h.1; omega)]; exact h1
    · rw [List.getElem?_append_left (by have := h.1; omega)]; exact h2
  · obtain ⟨id, b, xs, h1, h2, h3⟩ := h'.2 (j - k) (by omega)
    refine ⟨id, b, xs, ?_, ?_, h3⟩
    · rw [List.getElem?_append_right (by have := h.1; omega), show j * 2 - vs.length = (j - k) * 2 from by have := h.1; omega]; exact h1
    · rw [List.getElem?_append_right (by have := h.1; omega), show j * 2 + 1 - vs.length = (j - k) * 2 + 1 from by have := h.1; omega]; exact h2
theorem TkN.cellsOne (h : TkN w lo k vs) : ∀ u ∈ vs, u.oneCell' = true := by
  intro u hu
  obtain ⟨i, hi, rfl⟩ := List.getElem_of_mem hu
  obtain ⟨id, b, xs, h1, h2, _⟩ := h.2 (i / 2) (by have := h.1; omega)
  rcases Nat.mod_two_eq_zero_or_one i with e | e
  · rw [show i / 2 * 2 = i from by omega, List.getElem?_eq_getElem hi] at h1
    injection h1 with h1; rw [h1]; rfl
  · rw [show i / 2 * 2 + 1 = i from by omega, List.getElem?_eq_getElem hi] at h2
    injection h2 with h2; rw [h2]; rfl
theorem TkN.set_id (h : TkN w lo k vs) (i : Nat) (v : Int) (hi : i < k) : TkN w lo k (vs.set (i * 2) (.int .i64 v)) := by
  refine ⟨by rw [List.length_set]; exact h.1, fun j hj => ?_⟩
  obtain ⟨id, b, xs, h1, h2, h3⟩ := h.2 j hj
  by_cases e : i = j
  · subst e
    exact ⟨v, b, xs, List.getElem?_set_self (by have := h.1; omega), by rw [List.getElem?_set_ne (by omega)]; exact h2, h3⟩
  · exact ⟨id, b, xs, by rw [List.getElem?_set_ne (by omega)]; exact h1, by rw [List.getElem?_set_ne (by omega)]; exact h2, h3⟩
theorem TkN.set_need (h : TkN w lo k vs) (g i : Nat) (v : Int) (hv : 0 ≤ v ∧ v ≤ 21) : TkN (w.setCell ⟨g, i, none⟩ (.int .i64 v)) lo k vs := by
  refine ⟨h.1, fun j hj => ?_⟩
  obtain ⟨id, b, xs, h1, h2, h3, h4, h5⟩ := h.2 j hj
  by_cases e : b = g
  · subst e
    exact ⟨id, b, xs.set i v, h1, h2, ⟨h3.1, by rw [← set_vals]; exact h3.2.set_ _ _⟩, by rw [List.length_set]; exact h4, h5.set_ _ hv⟩
  · exact ⟨id, b, xs, h1, h2, ⟨h3.1, h3.2.far e _⟩, h4, h5⟩
/-- They can be read. -/
theorem TkN.read (h : TkN w lo k vs) : ∃ ts : List Tk, ts.length = k ∧ TkCells w w.heap.size vs ts ∧ ∀ t ∈ ts, t.2.length = 3 ∧ Bd 21 t.2 := by
  have hh : ∀ j : Nat, ∃ t : Tk, j < k → ∃ b : Nat, vs[j * 2]? = some (.int .i64 t.1) ∧ vs[j * 2 + 1]? = some (.slice (some ⟨b, 0, none⟩) 3 3) ∧ OwI w lo b t.2 ∧ t.2.length = 3 ∧ Bd 21 t.2 := by
    intro j
    by_cases hj : j < k
    · obtain ⟨id, b, xs, h1, h2, h3, h4, h5⟩ := h.2 j hj
      exact ⟨(id, xs), fun _ => ⟨b, h1, h2, h3, h4, h5⟩⟩
    · exact ⟨(0, []), fun h => absurd h hj⟩
  obtain ⟨f, hf⟩ := Classical.axiomOfChoice hh
  have hg : ∀ j, j < k → ((List.range k).map f)[j]? = some (f j) := by
    intro j hj
    rw [List.getElem?_map, List.getElem?_range hj]; rfl
  refine ⟨(List.range k).map f, by simp, ⟨by simp [h.1], fun j hj => ?_⟩, fun t ht => ?_⟩
  · have hj : j < k := by simpa using hj
    obtain ⟨b, h1, h2, h3, h4, h5⟩ := hf j hj
    rw [hg j hj]
    exact ⟨_, _, _, h1, h2, Nat.le_refl _, h3.rd' h4 (by omega)⟩
  · obtain ⟨j, hj, rfl⟩ := List.mem_map.1 ht
    obtain ⟨b, h1, h2, h3, h4, h5⟩ := hf j (by simpa using hj)
    exact ⟨h4, h5⟩
end

/-- A row has grown. -/
theorem tk_grow {w0 w w' : World} {g q k n : Nat} {v : Value} {xs vs : List Value} (hown : w.ownsRow w0.heap.size 46 2 v n xs) (hg : w.grownBy w' v.ownBlock) (ho : OnlyG w0 w g) (hr : Rdr w g q) (ht : TkN w w0.heap.size k vs) (hlt : g < w0.heap.size) :
    OnlyG w0 w' g ∧ Rdr w' g q ∧ TkN w' w0.heap.size k vs :=
  ⟨ho.grown hg (fun r e => (hown.lt r e).1), hr.keep (fun b hb => hg.block b (by have := hr.lt; omega) (fun e => by have := (hown.lt b e.symm).1; omega)), ht.grown hown hg⟩

set_option maxRecDepth 100000 in
set_option maxHeartbeats 3200000 in
theorem l91Tasks_any (g p n : Nat) (w : World) (h : Rdr w g p) (hp : p ≤ 800000) (hn : n ≤ 20) :
    Calls Try.prog 68 #[.pointer (some ⟨g, 0, none⟩), .int .i64 (n : Int)] w fun e w' => ∃ A m c vs, e = .returned (.slice A m c) ∧ m ≤ n + 1 ∧ w'.ownsRow w.heap.size 46 2 (.slice A m c) m vs ∧ TkN w' w.heap.size m vs ∧ OnlyG w w' g ∧ ∃ q, q ≤ p + 300 ∧ Rdr w' g q := by
  obtain ⟨i0, hi0, hz0, hz1, hz2⟩ := info_parts task_info
  have hg0 := h.lt
  go_enter Try.func68, Try.ntmps68
  go_wp2_with fail
  refine (pick_at 5 (h.below (alloc_up _ _)) rfl (by omega) (by omega) (by omega)).mono ?_; rintro e w1 ⟨r1, rfl, hr1, R1, O1⟩
  have W1 : OnlyG w w1 g := ((OnlyG.refl w g).alloc _).trans O1
  have own1 : w1.ownsRow w.heap.size 46 2 (.slice (some ⟨w.heap.size, 0, none⟩) 0 0) 0 [] := own_keep (World.ownsRow_made w #[] 0 (Nat.le_refl _) (by unfold maxLen; omega) rfl) (fun b hb => by
    simp [Value.ownBlock] at hb; subst hb; exact O1.block _ (by simp) (by omega))
  have Own1 := Lib.hid own1
  have HW1 := Lib.hid W1
  have HR1 := Lib.hid R1
  have H := Lib.hid h
  clear own1 W1 R1 O1 h
  go_wp2_with fail
  go_loopw [5, 6, 7] (fun v d i wr => ∃ (k q c : Nat) (A : Option Addr) (vs : List Value) (id : Int), i = .int .i64 k ∧ k ≤ n ∧ d = .int .i64 id ∧ 0 ≤ id ∧ id ≤ 10 + 3 * k ∧ v = .slice A k c ∧ wr.ownsRow w.heap.size 46 2 (.slice A k c) k vs ∧ TkN wr w.heap.size k vs ∧ OnlyG w wr g ∧ q ≤ p + 1 + 8 * k ∧ Rdr wr g q) (fun _ _ i _ => n - (intOf i).toNat)
  case atStart => exact ⟨0, _, 0, _, [], _, rfl, Nat.zero_le _, rfl, by omega, by omega, rfl, Own1.out, TkN.nil, HW1.out, by omega, HR1.out⟩
  case round =>
    obtain ⟨k, q, c, A, vs, id, rfl, hk, rfl, hid0, hid1, rfl, hown, htk, ho, hq, hr⟩ := hrel
    by_cases hlt : k < n
    · go_wp2_with fail
      refine (l91Task_any g q id wr hr (by omega)).mono ?_; rintro e w2 ⟨b, xs, rfl, hO, hl3, hbd, O2, q2, hq2, R2⟩
      have lz := ho.size
      have w2g := R2.lt
      go_wp2_with fail
      refine (pick_at 2 (R2.below (alloc_up _ _)) rfl (by omega) (by omega) (by omega)).mono ?_; rintro e w3 ⟨r3, rfl, hr3, R3, O3⟩
      go_wp2_with fail
      refine (pick_at 3 R3 rfl (by omega) (by omega) (by omega)).mono ?_; rintro e w4 ⟨r4, rfl, hr4, R4, O4⟩
      have O24 : OnlyG wr w4 g := ((O2.alloc _).trans O3).trans O4
      have own4 := own_keep hown (w' := w4) (fun k hk => O24.block k (hown.lt k hk).2 (by have := (hown.lt k hk).1; omega))
      have tk4 := htk.only O24 hg0
      have X4 := O4.blk (O3.blk (Blk.new w2 _ _) (by omega)) (by omega)
      have one4 := TkN.one (id := id) (⟨by have := hO.1; omega, O4.blk (O3.blk (hO.2.alloc _) (by have := hO.1; omega)) (by have := hO.1; omega)⟩ : OwI w4 w.heap.size b xs) hl3 hbd
      have ho4 := ho.trans O24
      have s4 : w2.heap.size < w4.heap.size := X4.lt
      have s5 : w.heap.size ≤ w4.heap.size := ho4.size
      generalize w2.heap.size = x at X4 s4 ⊢
      have x0 : w4.cell? ⟨x, 0, none⟩ = some (.int .i64 id) := by rw [X4.cell]; rfl
      have x1 : w4.cell? ⟨x, 1, none⟩ = some (.slice (some ⟨b, 0, none⟩) 3 3) := by rw [X4.cell]; rfl
      have Own4 := Lib.hid own4
      have Tk4 := Lib.hid tk4
      have One4 := Lib.hid one4
      have Ho4 := Lib.hid ho4
      have HR4 := Lib.hid R4
      clear hO hl3 hbd O2 O3 O4 O24 R2 R3 R4 X4 own4 tk4 one4 ho4 hown htk ho hr
      by_cases h0 : r4 = 0
      · subst h0
        by_cases hk0 : k = 0
        · subst hk0
          go_wp2_with (at_builtin; go_loud (refine wpList_append_src _ rfl _ _ 53 rfl w.heap.size 46 i0 _ 2 32 Try.underlying53 hi0 hz0 hz1 hz2 rfl (by omega) (.slice A 0 c) 0 vs rfl (Own4.out.alloc _) (some ⟨w4.heap.size, 0, none⟩) 1 1 [.int .i64 id, .slice (some ⟨b, 0, none⟩) 3 3] rfl (own_src (own_built (w := w4) (base := w.heap.size) 46 _ _ (by omega))) One4.out.cellsOne (by unfold maxLen; omega) (by omega) (by simp; omega) ?_; intro v5 w5 hown5 hgrow hrow))
          obtain ⟨y1, y2, y3⟩ := tk_grow (w0 := w) (Own4.out.alloc _) hgrow (Ho4.out.alloc _) (HR4.out.below (alloc_up _ _)) ((Tk4.out.alloc _).append (One4.out.alloc _)) hg0
          obtain ⟨A1, c1, rfl⟩ := own_shape hown5
          have Y1 := Lib.hid y1
          have Y2 := Lib.hid y2
          have Y3 := Lib.hid y3
          have Hown := Lib.hid hown5
          clear y1 y2 y3 hown5
          go_roundw
          case rel => exact ⟨0 + 1, _, c1, A1, _, _, by go_num, by omega, rfl, by omega, by omega, rfl, Hown.out, Y3.out, Y1.out, by omega, Y2.out⟩
          case measure => simp [intOf]; omega
        · have e0 : (0 : Int) < (k : Int) := by omega
          go_wp2_with (at_builtin; go_loud (refine wpList_append_src _ rfl _ _ 53 rfl w.heap.size 46 i0 _ 2 32 Try.underlying53 hi0 hz0 hz1 hz2 rfl (by omega) (.slice (some ⟨w4.heap.size, 0, none⟩) 1 1) 1 [.int .i64 id, .slice (some ⟨b, 0, none⟩) 3 3] rfl (own_built (w := w4) 46 _ _ (by omega)) A k c vs rfl (own_src (Own4.out.alloc _)) Tk4.out.cellsOne (by unfold maxLen; omega) (by omega) (by simp; omega) ?_; intro v5 w5 hown5 hgrow hrow))
          obtain ⟨y1, y2, y3⟩ := tk_grow (w0 := w) (own_built (w := w4) 46 (.int .i64 id) (.slice (some ⟨b, 0, none⟩) 3 3) (by omega)) hgrow (Ho4.out.alloc _) (HR4.out.below (alloc_up _ _)) ((One4.out.alloc _).append (Tk4.out.alloc _)) hg0
          rw [Nat.add_comm 1 k] at hown5 y3
          obtain ⟨A1, c1, rfl⟩ := own_shape hown5
          have Y1 := Lib.hid y1
          have Y2 := Lib.hid y2
          have Y3 := Lib.hid y3
          have Hown := Lib.hid hown5
          clear y1 y2 y3 hown5
          go_roundw
          case rel => exact ⟨k + 1, _, c1, A1, _, _, by go_num, by omega, rfl, by omega, by omega, rfl, Hown.out, Y3.out, Y1.out, by omega, Y2.out⟩
          case measure => simp [intOf]; omega
      · have e4 : ((r4 : Int) == 0) = false := by simp; omega
        go_wp2_with (at_builtin; go_loud (refine wpList_append_src _ rfl _ _ 53 rfl w.heap.size 46 i0 _ 2 32 Try.underlying53 hi0 hz0 hz1 hz2 rfl (by omega) (.slice A k c) k vs rfl (Own4.out.alloc _) (some ⟨w4.heap.size, 0, none⟩) 1 1 [.int .i64 id, .slice (some ⟨b, 0, none⟩) 3 3] rfl (own_src (own_built (w := w4) (base := w.heap.size) 46 _ _ (by omega))) One4.out.cellsOne (by unfold maxLen; omega) (by omega) (by simp; omega) ?_; intro v5 w5 hown5 hgrow hrow))
        obtain ⟨y1, y2, y3⟩ := tk_grow (w0 := w) (Own4.out.alloc _) hgrow (Ho4.out.alloc _) (HR4.out.below (alloc_up _ _)) ((Tk4.out.alloc _).append (One4.out.alloc _)) hg0
        obtain ⟨A1, c1, rfl⟩ := own_shape hown5
        have Y1 := Lib.hid y1
        have Y2 := Lib.hid y2
        have Y3 := Lib.hid y3
        have Hown := Lib.hid hown5
        clear y1 y2 y3 hown5
        go_roundw
        case rel => exact ⟨k + 1, _, c1, A1, _, _, by go_num, by omega, rfl, by omega, by omega, rfl, Hown.out, Y3.out, Y1.out, by omega, Y2.out⟩
        case measure => simp [intOf]; omega
    · have ek : k = n := by omega
      subst ek
      rcases Nat.eq_zero_or_pos k with k0 | kp
      · subst k0
        have Hown := Lib.hid hown
        have Htk := Lib.hid htk
        clear hown htk
        go_wp2
        go_ret
        exact ⟨A, 0, c, vs, rfl, by omega, Hown.out, Htk.out, ho, q, by omega, hr⟩
      · obtain ⟨gr, cur, rfl, hgr, hblk⟩ := own_row hown kp
        have lgr := hblk.lt
        have kp' : (0 : Int) < (k : Int) := by omega
        have Hown := Lib.hid hown
        have Htk := Lib.hid htk
        have Ho := Lib.hid ho
        have Hblk := Lib.hid hblk
        clear hown htk ho hblk
        go_wp2_with fail
        refine (pick_at k hr rfl (by omega) (by omega) (by omega)).mono ?_; rintro e w2 ⟨r2, rfl, hr2, R2, O2⟩
        go_wp2_with fail
        refine (pick_at 40 R2 rfl (by omega) (by omega) (by omega)).mono ?_; rintro e w3 ⟨r3, rfl, hr3, R3, O3⟩
        have own3 := own_keep Hown.out (w' := w3) (fun b hb => by simp [Value.ownBlock] at hb; subst hb; exact (O2.trans O3).block _ lgr (by omega))
        have tk3 := Htk.out.only (O2.trans O3) hg0
        have blk3 := (O2.trans O3).blk Hblk.out (by omega)
        have ho3 := Ho.out.trans (O2.trans O3)
        obtain ⟨id3, b3, xs3, v1, v2, hO3, hl3, hbd3⟩ := tk3.2 r2 hr2
        have x0 : w3.cell? ⟨gr, r2 * 2, none⟩ = some (.int .i64 id3) := by have := own3.cells (g := gr) rfl _ _ v1; rwa [addr_add, Nat.zero_add] at this
        have x1 : w3.cell? ⟨gr, r2 * 2 + 1, none⟩ = some (.slice (some ⟨b3, 0, none⟩) 3 3) := by have := own3.cells (g := gr) rfl _ _ v2; rwa [addr_add, Nat.zero_add] at this
        have fz : w3.frozen? ⟨gr, r2 * 2, none⟩ = false := blk3.frozen _
        have bne : gr ≠ b3 := fun e => own_ne_int own3 hO3.2 (by simp [Value.ownBlock, e])
        have s3 := ho3.size
        have k1 : (0 : Int) ≤ (r2 : Int) := by omega
        have k2 : (r2 : Int) < (k : Int) := by omega
        have k3 : (0 : Int) ≤ (r2 : Int) * 2 := by omega
        have Own3 := Lib.hid own3
        have Tk3 := Lib.hid tk3
        have Ho3 := Lib.hid ho3
        have HR3 := Lib.hid R3
        have HO3 := Lib.hid hO3
        clear own3 tk3 ho3 R3 R2 O2 O3 hr Htk Ho Hown Hblk hO3 v1 v2
        by_cases e0 : r3 = 0
        · subst e0
          go_wp2_with fail
          refine (pick_at 3 (HR3.out.below (alloc_up _ _)) rfl (by omega) (by omega) (by omega)).mono ?_; rintro e w4 ⟨r4, rfl, hr4, R4, O4⟩
          have C4 := O4.blk (Blk.new w3 _ _) (by omega)
          have O34 : OnlyG w3 w4 g := ((OnlyG.refl w3 g).alloc _).trans O4
          have own4 := own_keep Own3.out (w' := w4) (fun b hb => by simp [Value.ownBlock] at hb; subst hb; exact O34.block _ blk3.lt (by omega))
          have tk4 := Tk3.out.only O34 hg0
          have blk4 := O34.blk blk3 (by omega)
          have y0 : w4.cell? ⟨gr, r2 * 2, none⟩ = some (.int .i64 id3) := (O34.cell (p := ⟨gr, r2 * 2, none⟩) blk3.lt (by simp; omega)).trans x0
          have z0 : w4.frozen? ⟨gr, r2 * 2, none⟩ = false := blk4.frozen _
          have hcell : ∃ v : Int, w4.cell? ⟨w3.heap.size, r4, none⟩ = some (.int .i64 v) := by
            rw [C4.cell]
            match r4, hr4 with
            | 0, _ => exact ⟨0, rfl⟩
            | 1, _ => exact ⟨40, rfl⟩
            | 2, _ => exact ⟨41, rfl⟩
          obtain ⟨v, hv⟩ := hcell
          have k4 : (r4 : Int) < 3 := by omega
          have Own4 := Lib.hid own4
          have Tk4 := Lib.hid tk4
          have Ho4 := Lib.hid (Ho3.out.trans O34)
          have HR4 := Lib.hid R4
          clear own4 tk4 R4 C4 O4 O34 blk4 blk3 x0 x1 fz
          go_wp2
          go_ret
          exact ⟨_, k, c, _, rfl, by omega, own_set Own4.out _ _, (Tk4.out.set_id r2 v hr2).keep (fun b _ _ hb => hb.far (fun e => own_ne_int Own4.out hb (by simp [Value.ownBlock]; exact e.symm)) _), Ho4.out.set_new hgr _, _, by omega, HR4.out.keep (fun b hb => Below.heap_setCell _ _ _ _ (by simp; omega))⟩
        by_cases e1 : r3 = 1
        · subst e1
          have y0 : ∃ u, w3.cell? ⟨b3, 0, none⟩ = some u := by
            rw [HO3.out.2.cell]
            match xs3, hl3 with
            | a :: _, _ => exact ⟨_, rfl⟩
          obtain ⟨u, hu⟩ := y0
          have z0 : w3.frozen? ⟨b3, 0, none⟩ = false := HO3.out.2.frozen _
          have hb3 := HO3.out.1
          go_wp2
          go_ret
          exact ⟨_, k, c, vs, rfl, by omega, own_keep Own3.out (fun b hb => by simp [Value.ownBlock] at hb; subst hb; exact Below.heap_setCell _ _ _ _ bne), Tk3.out.set_need b3 0 20 (by omega), Ho3.out.set_new hb3 _, _, by omega, HR3.out.keep (fun b hb => Below.heap_setCell _ _ _ _ (by simp; omega))⟩
        by_cases e2 : r3 = 2
        · subst e2
          have One3 := Lib.hid (TkN.one (id := id3) HO3.out hl3 hbd3)
          go_wp2_with (at_builtin; go_loud (refine wpList_append_src _ rfl _ _ 53 rfl w.heap.size 46 i0 _ 2 32 Try.underlying53 hi0 hz0 hz1 hz2 rfl (by omega) (.slice (some ⟨gr, 0, none⟩) k c) k vs rfl (Own3.out.alloc _) (some ⟨w3.heap.size, 0, none⟩) 1 1 [.int .i64 id3, .slice (some ⟨b3, 0, none⟩) 3 3] rfl (own_src (own_built (w := w3) (base := w.heap.size) 46 _ _ (by omega))) One3.out.cellsOne (by unfold maxLen; omega) (by omega) (by simp; omega) ?_; intro v5 w5 hown5 hgrow hrow))
          obtain ⟨y1, y2, y3⟩ := tk_grow (w0 := w) (Own3.out.alloc _) hgrow (Ho3.out.alloc _) (HR3.out.below (alloc_up _ _)) ((Tk3.out.alloc _).append (One3.out.alloc _)) hg0
          obtain ⟨A1, c1, rfl⟩ := own_shape hown5
          have Y1 := Lib.hid y1
          have Y2 := Lib.hid y2
          have Y3 := Lib.hid y3
          have Hown5 := Lib.hid hown5
          clear y1 y2 y3 hown5
          go_ret
          exact ⟨A1, k + 1, c1, _, rfl, by omega, Hown5.out, Y3.out, Y1.out, _, by omega, Y2.out⟩
        · have e3 : ((r3 : Int) == 0) = false := by simp; omega
          have e4 : ((r3 : Int) == 1) = false := by simp; omega
          have e5 : ((r3 : Int) == 2) = false := by simp; omega
          go_wp2
          go_ret
          exact ⟨_, k, c, vs, rfl, by omega, Own3.out, Tk3.out, Ho3.out, _, by omega, HR3.out⟩
end Go.Proofs.Ytgngmjlbeofjkaa
