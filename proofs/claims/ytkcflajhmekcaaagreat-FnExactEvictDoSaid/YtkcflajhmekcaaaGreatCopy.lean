/- Walks: slices.Clone, a task's copyOf, slices.Index and slices.Contains at []int; words for tasks with needs of their own. -/
import Derived.Test.YtkcflajhmekcaaaGreatCome
import Derived.Test.YtkcflajhmekcaaaGreatMix
namespace Go.Proofs.YtkcflajhmekcaaaGreat
open Go Go.RowKit
attribute [local go_sem ↓] Go.wp_at_zero Go.wp_at_succ

/-- A slice of integers, as a source of an append. -/
theorem srcOfI {w : World} {B n : Nat} {A : Option Addr} {xs : List Int} (h : RdI w B A n xs) : Src w 1 A n (xs.map (Value.int .i64)) := by
  refine ⟨by simp [h.len], fun hp => ?_⟩
  obtain ⟨b, o, e, _, hc⟩ := h.2.2 hp
  refine ⟨_, e, fun j u hu => ?_⟩
  have hj : j < xs.length := by
    rcases Nat.lt_or_ge j xs.length with h1 | h1
    · exact h1
    · rw [List.getElem?_eq_none (by simpa using h1)] at hu; cases hu
  rw [List.getElem?_map, List.getElem?_eq_getElem hj] at hu
  injection hu with hu
  rw [addr_add, hc j (by have := h.len; omega), List.getElem?_eq_getElem hj, ← hu]
  rfl
theorem ints_cell1 (xs : List Int) : ∀ u ∈ xs.map (Value.int .i64), u.oneCell' = true := by
  intro u hu
  obtain ⟨x, _, rfl⟩ := List.mem_map.1 hu
  rfl
theorem ownI_info : (Tryz.prog.info? 3).map (fun i => (i.zero, i.size, i.bytes)) = some (some (.int .i64 0), 1, 8) := by kernel_rfl
theorem upNew (w : World) (o : Obj) : Below w.heap.size w (w.alloc o) := (Below.refl _ _).alloc (Nat.le_refl _) _
theorem upTo' {w a b : World} (h : Below w.heap.size w a) (k : Below a.heap.size a b) : Below w.heap.size w b := h.trans (k.mono h.size)

set_option maxRecDepth 100000 in
set_option maxHeartbeats 800000 in
theorem clone_any (A : Option Addr) (n c : Nat) (xs : List Int) (w : World) (h : RdI w w.heap.size A n xs) (hn : n ≤ 1048576) :
    Calls Tryz.prog 63 #[.slice A n c] w fun e w' => ∃ A' c', e = .returned (.slice A' n c') ∧ w'.ownsRow w.heap.size 3 1 (.slice A' n c') n (xs.map (Value.int .i64)) ∧ Below w.heap.size w w' := by
  obtain ⟨i0, hi0, hz0, hz1, hz2⟩ := info_parts ownI_info
  have H := Lib.hid h
  clear h
  cases A with
  | none =>
    have hn0 : n = 0 := by
      rcases Nat.eq_zero_or_pos n with h0 | h0
      · exact h0
      · obtain ⟨b, o, e, _⟩ := H.out.2.2 h0
        cases e
    subst hn0
    have hx : xs = [] := List.eq_nil_of_length_eq_zero H.out.len
    have Hx := Lib.hid hx
    clear hx
    have hnil := fun w : World => Lib.run_eql_slice_nil (P := Tryz.prog) w 22 3 none 0 c 0 0 Tryz.underlying22
    go_enter Tryz.func63, Tryz.ntmps63
    go_wp2
    go_ret
    exact ⟨none, 0, rfl, by rw [Hx.out]; exact ⟨rfl, .inl ⟨rfl, rfl⟩⟩, Below.refl _ _⟩
  | some a =>
    have Ho := Lib.hid (show (w.alloc (.cells #[] 3)).ownsRow w.heap.size 3 1 (.slice (some ⟨w.heap.size, 0, none⟩) 0 0) 0 [] from World.ownsRow_made w #[] 0 (Nat.le_refl _) (by unfold maxLen; omega) rfl)
    have Hs := Lib.hid (srcOfI (H.out.up (upNew w (.cells #[] 3))))
    have H1 := Lib.hid (ints_cell1 xs)
    have lz : w.heap.size ≤ (w.alloc (.cells #[] 3)).heap.size := by simp
    have hnil := fun w : World => Lib.run_eql_slice_nil (P := Tryz.prog) w 22 3 (some a) n c 0 0 Tryz.underlying22
    go_enter Tryz.func63, Tryz.ntmps63
    go_wp2_with (at_builtin; refine wpList_append_src _ rfl _ _ 22 rfl w.heap.size 3 i0 _ 1 8 Tryz.underlying22 hi0 hz0 hz1 hz2 rfl (by omega) (.slice (some ⟨w.heap.size, 0, none⟩) 0 0) 0 [] rfl Ho.out (some a) n c (xs.map (Value.int .i64)) rfl Hs.out H1.out (by unfold maxLen; omega) (by omega) lz ?_; intro v' w1 hown1 hgrow hat)
    rw [Nat.zero_add, List.nil_append] at hown1
    obtain ⟨A1, c1, rfl⟩ := own_shape hown1
    have Hown1 := Lib.hid hown1
    have HB := Lib.hid ((upNew w (.cells #[] 3)).grown hgrow lz (fun j e => (Ho.out.lt j e).1))
    clear hown1 hgrow hat
    go_wp2
    go_ret
    exact ⟨A1, c1, rfl, Hown1.out, HB.out⟩

set_option maxHeartbeats 400000 in
theorem indexI_any (A : Option Addr) (n c B : Nat) (xs : List Int) (v : Int) (w : World) (h : RdI w B A n xs) :
    Calls Tryz.prog 62 #[.slice A n c, .int .i64 v] w fun e w' => e = .returned (.int .i64 (idxP (fun x => v == x) xs)) ∧ w = w' := by
  have hn := h.le
  have hl := Lib.hid h.len
  have H := Lib.hid h
  clear h
  go_enter Tryz.func62, Tryz.ntmps62
  go_wp2
  go_loop [8] (fun i => ∃ k : Nat, i = .int .i64 k ∧ k ≤ n ∧ (∀ j, j < k → (v == xs[j]?.getD 0) = false)) (fun i => n - (intOf i).toNat)
  case atStart => exact ⟨0, rfl, Nat.zero_le _, by intro j hj; omega⟩
  case round =>
    obtain ⟨k, rfl, hk, hall⟩ := hrel
    have Hall := Lib.hid hall
    clear hall
    by_cases hlt : k < n
    · obtain ⟨b, o, rfl, hb, hc⟩ := H.out.at_ hlt
      cases hin : (v == xs[k]?.getD 0) with
      | false =>
        have Hin := Lib.hid hin
        go_wp2
        go_round
        case rel => exact ⟨k + 1, by go_num, by omega, fun j hj => by
          by_cases e : j = k
          · rw [e]; exact Hin.out
          · exact Hall.out j (by omega)⟩
        case measure => simp [intOf]; omega
      | true =>
        have Hin := Lib.hid hin
        go_wp2
        go_ret
        exact ⟨ret_int (idxP_some (d := 0) (by rw [hl.out]; exact hlt) Hin.out (fun j hj => Hall.out j hj)).symm, rfl⟩
    · go_wp2
      go_ret
      exact ⟨ret_int (idxP_none (d := 0) (fun j hj => Hall.out j (by have := hl.out; omega))).symm, rfl⟩

set_option maxHeartbeats 400000 in
theorem containsI_any (A : Option Addr) (n c B : Nat) (xs : List Int) (v : Int) (w : World) (h : RdI w B A n xs) :
    Calls Tryz.prog 37 #[.slice A n c, .int .i64 v] w fun e w' => e = .returned (.bool (xs.any (fun x => v == x))) ∧ w = w' := by
  have H := Lib.hid h
  clear h
  go_enter Tryz.func37, Tryz.ntmps37
  go_wp2_with (go_at_call 62; refine (indexI_any _ _ _ _ _ _ _ H.out).mono ?_; rintro e w' ⟨rfl, rfl⟩)
  go_ret
  exact ⟨ret_bool (idxP_ge _ _), rfl⟩

set_option maxRecDepth 100000 in
set_option maxHeartbeats 1600000 in
theorem copyOf_any (A : Option Addr) (n c : Nat) (id : Int) (xs : List Int) (w : World) (h : RdI w w.heap.size A n xs) (hn : n ≤ 1048576) :
    Calls Tryz.prog 38 #[.agg #[.int .i64 id, .slice A n c]] w fun e w' => ∃ A' c', e = .returned (.agg #[.int .i64 id, .slice A' n c']) ∧ w'.ownsRow w.heap.size 3 1 (.slice A' n c') n (xs.map (Value.int .i64)) ∧ Below w.heap.size w w' := by
  have H := Lib.hid h
  clear h
  go_enter Tryz.func38, Tryz.ntmps38
  go_wp2_with fail
  have B1 := Lib.hid ((upNew w (.cells #[.int .i64 id, .slice A n c] 33)).alloc (by simp) (.cells #[.int .i64 0, .slice none 0 0] 33))
  have sz : (w.alloc (.cells #[.int .i64 id, .slice A n c] 33)).heap.size = w.heap.size + 1 := World.size_alloc _ _
  have P1 := Lib.hid ((Blk.new w 33 #[.int .i64 id, .slice A n c]).alloc (.cells #[.int .i64 0, .slice none 0 0] 33))
  have Q1 := Lib.hid (show Blk ((w.alloc (.cells #[.int .i64 id, .slice A n c] 33)).alloc (.cells #[.int .i64 0, .slice none 0 0] 33)) (w.heap.size + 1) 33 #[.int .i64 0, .slice none 0 0] from by
    have := Blk.new (w.alloc (.cells #[.int .i64 id, .slice A n c] 33)) 33 #[.int .i64 0, .slice none 0 0]
    rwa [sz] at this)
  generalize (w.alloc (.cells #[.int .i64 id, .slice A n c] 33)).alloc (.cells #[.int .i64 0, .slice none 0 0] 33) = w1 at B1 P1 Q1 ⊢
  clear sz
  have K0 : w1.drew.cell? ⟨w.heap.size, 0, none⟩ = some (.int .i64 id) ∧ w1.drew.cell? ⟨w.heap.size, 1, none⟩ = some (.slice A n c) := ⟨P1.out.cell 0, P1.out.cell 1⟩
  have l1 : w.heap.size + 1 < w1.heap.size := Q1.out.lt
  refine wp_region_mix (.take 0 (.take 2 (.take 1 (.take 3 (.bar 4 (.take 5 (.bar 6 .nil))))))) (fun w' => w'.cell? ⟨w.heap.size, 0, none⟩ = some (.int .i64 id) ∧ w'.cell? ⟨w.heap.size, 1, none⟩ = some (.slice A n c)) (by kernel_rfl) (by kernel_rfl) K0 (fun _ => ?_)
  clear K0
  repeat (first | (refine wpMix_skip (by rfl) (by rfl) ?_; (try simp only [Act.put, List.setIfInBounds_toArray, List.set_cons_zero, List.set_cons_succ])) | (refine wpMix_take (v := ?_) (by rfl) (by rfl) (fun wS hSt => ?_) ?_; rotate_left; (focus ((try dsimp only at hSt); (go_simp <;> with_reducible rfl); done)); (try simp only [Act.put, List.setIfInBounds_toArray, List.set_cons_zero, List.set_cons_succ])))
  (refine wpMix_bar (by rfl) (fun K hK => ?_); go_simp)
  refine (clone_any A n c xs w1.drew (H.out.up B1.out.drew) hn).mono ?_; rintro e w2 ⟨A', c', rfl, hown, hb2⟩
  have Hown := Lib.hid hown
  have HB2 := Lib.hid hb2
  have P2 := Lib.hid (P1.out.drew.below hb2 P1.out.lt)
  have Q2 := Lib.hid (Q1.out.drew.below hb2 Q1.out.lt)
  clear hown hb2
  ((try dsimp only); refine hK.out _ _ (⟨P2.out.cell 0, P2.out.cell 1⟩) (fun hSw => ?_); (try clear hSw); clear hK K; (try simp only [Act.put, List.setIfInBounds_toArray, List.set_cons_zero, List.set_cons_succ]))
  repeat (first | (refine wpMix_skip (by rfl) (by rfl) ?_; (try simp only [Act.put, List.setIfInBounds_toArray, List.set_cons_zero, List.set_cons_succ])) | (refine wpMix_take (v := ?_) (by rfl) (by rfl) (fun wS hSt => ?_) ?_; rotate_left; (focus ((try dsimp only at hSt); (go_simp <;> with_reducible rfl); done)); (try simp only [Act.put, List.setIfInBounds_toArray, List.set_cons_zero, List.set_cons_succ])))
  have y0 : w2.cell? ⟨w.heap.size + 1, 0, none⟩ = some (.int .i64 0) := Q2.out.cell 0
  have y1 : w2.cell? ⟨w.heap.size + 1, 1, none⟩ = some (.slice none 0 0) := Q2.out.cell 1
  have f0 : w2.frozen? ⟨w.heap.size + 1, 0, none⟩ = false := Q2.out.frozen 0
  have f1 : w2.frozen? ⟨w.heap.size + 1, 1, none⟩ = false := Q2.out.frozen 1
  (refine wpMix_bar (by rfl) (fun K hK => ?_); go_simp)
  clear y0 y1 f0 f1
  have EP := Lib.hid ((P2.out.far (p := ⟨w.heap.size + 1, 0, none⟩) (by simp) (.int .i64 id)).far (p := ⟨w.heap.size + 1, 1, none⟩) (by simp) (.slice A' n c'))
  have EQ := Lib.hid ((Q2.out.set_ 0 (.int .i64 id)).set_ 1 (.slice A' n c'))
  have kk : ∀ b, b ≠ w.heap.size + 1 → ((w2.setCell ⟨w.heap.size + 1, 0, none⟩ (.int .i64 id)).setCell ⟨w.heap.size + 1, 1, none⟩ (.slice A' n c')).heap[b]? = w2.heap[b]? := fun b hb => (Below.heap_setCell _ _ _ b hb).trans (Below.heap_setCell _ _ _ b hb)
  have F1 := Lib.hid (own_keep Hown.out (w' := (w2.setCell ⟨w.heap.size + 1, 0, none⟩ (.int .i64 id)).setCell ⟨w.heap.size + 1, 1, none⟩ (.slice A' n c')) (fun b hb => kk b (by have := (Hown.out.lt b hb).1; have : w1.drew.heap.size = w1.heap.size := rfl; omega)))
  have F2 := Lib.hid (((B1.out.drew.trans (HB2.out.mono B1.out.size)).setCell (p := ⟨w.heap.size + 1, 0, none⟩) (by simp) (.int .i64 id)).setCell (p := ⟨w.heap.size + 1, 1, none⟩) (by simp) (.slice A' n c'))
  clear kk
  generalize (w2.setCell ⟨w.heap.size + 1, 0, none⟩ (.int .i64 id)).setCell ⟨w.heap.size + 1, 1, none⟩ (.slice A' n c') = w3 at EP EQ F1 F2 ⊢
  ((try dsimp only); refine hK.out _ _ (⟨EP.out.cell 0, EP.out.cell 1⟩) (fun hSw => ?_); (try clear hSw); clear hK K; (try simp only [Act.put, List.setIfInBounds_toArray, List.set_cons_zero, List.set_cons_succ]))
  refine wpMix_nil ?_
  have z0 : w3.cell? ⟨w.heap.size + 1, 0, none⟩ = some (.int .i64 id) := EQ.out.cell 0
  have z1 : w3.cell? ⟨w.heap.size + 1, 1, none⟩ = some (.slice A' n c') := EQ.out.cell 1
  go_wp2
  refine bodyPost_ret (v := .agg #[.int .i64 id, .slice A' n c']) (by simp [results, Tryz.results38, go_sem, z0, z1]) rfl ⟨A', c', rfl, ?_, F2.out⟩
  refine ⟨F1.out.1, F1.out.2.imp (fun h => h) ?_⟩
  rintro ⟨g, cap, cur, a, b, d⟩
  exact ⟨g, cap, cur, a, by have : w1.drew.heap.size = w1.heap.size := rfl; omega, d⟩
end Go.Proofs.YtkcflajhmekcaaaGreat
