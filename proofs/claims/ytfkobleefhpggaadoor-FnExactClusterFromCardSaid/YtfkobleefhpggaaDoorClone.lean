/- Walks: slices.Clone, slices.Index and slices.Contains at []int; words for tasks with needs of their own. -/
import Derived.Test.YtfkobleefhpggaaDoorCome
import Derived.Test.YtfkobleefhpggaaDoorMix
namespace Go.Proofs.YtfkobleefhpggaaDoor
open Go Go.RowKit
attribute [local go_sem ↓] Go.wp_at_zero Go.wp_at_succ

/-- A slice of integers, as a source of an append. -/
theorem srcOfI {w : World} {B n : Nat} {A : Option Addr} {xs : List Int} (h : RdI w B A n xs) : Src w 1 A n (xs.map (Value.int .i64)) := by
  refine ⟨by simp [h.len], fun hp => ?_⟩
  obtain ⟨b, o, e, _, hc⟩ := h.2.2 hp
  refine ⟨_, e, fun j u hu => ?_⟩
  have hj : j < xs.length := by
    rcases Nat.lt_or_ge j xs.length with h1 | h1
    · exact h1
    · rw [List.getElem?_eq_none (by simpa using h1)] at hu; cases hu
  rw [List.getElem?_map, List.getElem?_eq_getElem hj] at hu
  injection hu with hu
  rw [addr_add, hc j (by have := h.len; omega), List.getElem?_eq_getElem hj, ← hu]
  rfl
theorem ints_cell1 (xs : List Int) : ∀ u ∈ xs.map (Value.int .i64), u.oneCell' = true := by
  intro u hu
  obtain ⟨x, _, rfl⟩ := List.mem_map.1 hu
  rfl
theorem ownI_info : (Tryd.prog.info? 3).map (fun i => (i.zero, i.size, i.bytes)) = some (some (.int .i64 0), 1, 8) := by kernel_rfl
theorem upNew (w : World) (o : Obj) : Below w.heap.size w (w.alloc o) := (Below.refl _ _).alloc (Nat.le_refl _) _
theorem upTo' {w a b : World} (h : Below w.heap.size w a) (k : Below a.heap.size a b) : Below w.heap.size w b := h.trans (k.mono h.size)

set_option maxRecDepth 100000 in
set_option maxHeartbeats 800000 in
theorem clone_any (A : Option Addr) (n c : Nat) (xs : List Int) (w : World) (h : RdI w w.heap.size A n xs) (hn : n ≤ 1048576) :
    Calls Tryd.prog 50 #[.slice A n c] w fun e w' => ∃ A' c', e = .returned (.slice A' n c') ∧ w'.ownsRow w.heap.size 3 1 (.slice A' n c') n (xs.map (Value.int .i64)) ∧ Below w.heap.size w w' := by
  obtain ⟨i0, hi0, hz0, hz1, hz2⟩ := info_parts ownI_info
  have H := Lib.hid h
  clear h
  cases A with
  | none =>
    have hn0 : n = 0 := by
      rcases Nat.eq_zero_or_pos n with h0 | h0
      · exact h0
      · obtain ⟨b, o, e, _⟩ := H.out.2.2 h0
        cases e
    subst hn0
    have hx : xs = [] := List.eq_nil_of_length_eq_zero H.out.len
    have Hx := Lib.hid hx
    clear hx
    have hnil := fun w : World => Lib.run_eql_slice_nil (P := Tryd.prog) w 22 3 none 0 c 0 0 Tryd.underlying22
    go_enter Tryd.func50, Tryd.ntmps50
    go_wp2
    go_ret
    exact ⟨none, 0, rfl, by rw [Hx.out]; exact ⟨rfl, .inl ⟨rfl, rfl⟩⟩, Below.refl _ _⟩
  | some a =>
    have Ho := Lib.hid (show (w.alloc (.cells #[] 3)).ownsRow w.heap.size 3 1 (.slice (some ⟨w.heap.size, 0, none⟩) 0 0) 0 [] from World.ownsRow_made w #[] 0 (Nat.le_refl _) (by unfold maxLen; omega) rfl)
    have Hs := Lib.hid (srcOfI (H.out.up (upNew w (.cells #[] 3))))
    have H1 := Lib.hid (ints_cell1 xs)
    have lz : w.heap.size ≤ (w.alloc (.cells #[] 3)).heap.size := by simp
    have hnil := fun w : World => Lib.run_eql_slice_nil (P := Tryd.prog) w 22 3 (some a) n c 0 0 Tryd.underlying22
    go_enter Tryd.func50, Tryd.ntmps50
    go_wp2_with (at_builtin; refine wpList_append_src _ rfl _ _ 22 rfl w.heap.size 3 i0 _ 1 8 Tryd.underlying22 hi0 hz0 hz1 hz2 rfl (by omega) (.slice (some ⟨w.heap.size, 0, none⟩) 0 0) 0 [] rfl Ho.out (some a) n c (xs.map (Value.int .i64)) rfl Hs.out H1.out (by unfold maxLen; omega) (by omega) lz ?_; intro v' w1 hown1 hgrow hat)
    rw [Nat.zero_add, List.nil_append] at hown1
    obtain ⟨A1, c1, rfl⟩ := own_shape hown1
    have Hown1 := Lib.hid hown1
    have HB := Lib.hid ((upNew w (.cells #[] 3)).grown hgrow lz (fun j e => (Ho.out.lt j e).1))
    clear hown1 hgrow hat
    go_wp2
    go_ret
    exact ⟨A1, c1, rfl, Hown1.out, HB.out⟩



end Go.Proofs.YtfkobleefhpggaaDoor
