/- Walks: the reference's l31Unit, l21Bins. -/
import Derived.Test.YtlegpecjoaklnaaGreatDoorJ4
namespace Go.Proofs.YtlegpecjoaklnaaGreatDoor
open Go Go.RowKit
attribute [local go_sem ↓] Go.wp_at_zero Go.wp_at_succ

theorem encTs_succ {ts : List Tk} {k : Nat} (h : k < ts.length) : (ts.take (k + 1)).flatMap encT = (ts.take k).flatMap encT ++ [(ts[k]?.getD (0, [])).1] ++ (ts[k]?.getD (0, [])).2 := by
  rw [List.take_succ_eq_append_getElem h, List.flatMap_append, List.getElem?_eq_getElem h]
  simp [encT]
theorem encTs_len {ts : List Tk} {k : Nat} (h : ∀ t ∈ ts, t.2.length ≤ 1000) (hk : k ≤ ts.length) : ((ts.take k).flatMap encT).length ≤ 1001 * k := by
  induction k with
  | zero => simp
  | succ k ih =>
    have := ih (by omega)
    rw [encTs_succ (by omega), List.length_append, List.length_append]
    have := h _ (tk_mem (show k < ts.length by omega))
    simp only [List.length_singleton]
    omega

set_option maxRecDepth 100000 in
set_option maxHeartbeats 3200000 in
theorem l31Unit_any (A : Option Addr) (n c : Nat) (op : Bool) (ts : List Tk) (w : World) (h : RdT w w.heap.size A n ts) (hn : n ≤ 1000) (hm : ∀ t ∈ ts, t.2.length ≤ 1000) :
    Calls Tryz.prog 122 #[.agg #[.bool op, .slice A n c]] w fun e w' => ∃ A' m c', e = .returned (.slice A' m c') ∧ w'.ownsRow w.heap.size 3 1 (.slice A' m c') m ((encU (op, ts)).map (Value.int .i64)) ∧ Below w.heap.size w w' := by
  obtain ⟨i0, hi0, hz0, hz1, hz2⟩ := info_parts ownI_info
  have hl := Lib.hid h.len
  have H := Lib.hid h
  have Hm := Lib.hid hm
  clear h hm
  have P1 := (Blk.new w 52 #[.bool op, .slice A n c]).alloc (.cells #[.int .i64 0, .int .i64 (n : Int)] 3)
  have sz : (w.alloc (.cells #[.bool op, .slice A n c] 52)).heap.size = w.heap.size + 1 := World.size_alloc _ _
  have O1 := World.ownsRow_lit (base := w.heap.size) (e := 3) (size := 1) (w.alloc (.cells #[.bool op, .slice A n c] 52)) #[.int .i64 0, .int .i64 (n : Int)] 2 (by rw [sz]; omega) (by unfold maxLen; omega) rfl
  rw [sz] at O1
  have x0 := P1.cell 0
  have x1 := P1.cell 1
  simp only [List.getElem?_toArray, List.getElem?_cons_zero, List.getElem?_cons_succ] at x0 x1
  have y0 := O1.cellAt 0 (by omega)
  have y1 := O1.frozenAt 0
  simp only [List.getElem?_cons_zero] at y0
  clear sz
  have SZ := Lib.hid (fun op : Bool => World.size_alloc w (.cells #[.bool op, .slice A n c] 52))
  cases op with
  | false =>
    have Hop := Lib.hid (show ([if false then 1 else 0, (n : Int)] : List Int) = [0, (n : Int)] from rfl)
    go_enter Tryz.func122, Tryz.ntmps122
    go_wp2_with fail
    have P2 := Lib.hid ((Blk.new w 52 #[.bool false, .slice A n c]).alloc (.cells #[.int .i64 0, .int .i64 (n : Int)] 3))
    have O2 := Lib.hid (World.ownsRow_lit (base := w.heap.size) (e := 3) (size := 1) (w.alloc (.cells #[.bool false, .slice A n c] 52)) #[.int .i64 0, .int .i64 (n : Int)] 2 (by rw [SZ.out false]; omega) (by unfold maxLen; omega) rfl)
    rw [SZ.out false] at O2
    have B2 := Lib.hid (((Below.refl w.heap.size w).alloc (Nat.le_refl _) (.cells #[.bool false, .slice A n c] 52)).alloc (by simp) (.cells #[.int .i64 0, .int .i64 (n : Int)] 3))
    clear P1 O1 x0 x1 y0 y1
    generalize (w.alloc (.cells #[.bool false, .slice A n c] 52)).alloc (.cells #[.int .i64 0, .int .i64 (n : Int)] 3) = w2 at P2 O2 B2 ⊢
    go_loopw [3, 4] (fun v i wr => ∃ (k : Nat) (A6 : Option Addr) (m6 c6 : Nat), i = .int .i64 k ∧ k ≤ n ∧ v = .slice A6 m6 c6 ∧ Below w.heap.size w wr ∧ Blk wr w.heap.size 52 #[.bool false, .slice A n c] ∧
      wr.ownsRow w.heap.size 3 1 (.slice A6 m6 c6) m6 (([0, (n : Int)] ++ (ts.take k).flatMap encT).map (Value.int .i64))) (fun _ i _ => n - (intOf i).toNat)
    case atStart => exact ⟨0, _, _, _, rfl, Nat.zero_le _, rfl, B2.out, P2.out, by simpa using O2.out⟩
    case round =>
      clear B2 P2 O2
      obtain ⟨k, A6, m6, c6, rfl, hk, rfl, hbel, hblk, hown⟩ := hrel
      have Hbel := Lib.hid hbel
      have Hblk := Lib.hid hblk
      have Hown := Lib.hid hown
      have lz := hbel.size
      have x1 := hblk.cell 1
      simp only [List.getElem?_toArray, List.getElem?_cons_zero, List.getElem?_cons_succ] at x1
      have hlm := own_len hown
      clear hbel hblk hown
      by_cases hlt : k < n
      · have k1 : (0 : Int) ≤ (k : Int) := by omega
        have k2 : (k : Int) < (n : Int) := by omega
        have k3 : 0 ≤ (k : Int) * 2 := by omega
        have hkl : Hid (k < ts.length) := by have := hl.out; show _ < _; omega
        have lm : m6 ≤ 1002000 := by
          have := encTs_len Hm.out (show k ≤ ts.length from Nat.le_of_lt hkl.out)
          simp only [List.length_append, List.length_cons, List.length_nil] at hlm
          omega
        have Hs := Lib.hid (encTs_succ hkl.out)
        obtain ⟨b, o, A', m', c', rfl, lb, hc1, hc2, hmc, hrd⟩ := (H.out.below Hbel.out).at_ hlt
        have hm' : m' ≤ 1000 := by have := Hm.out _ (tk_mem hkl.out); have := hrd.len; omega
        have Hrd := Lib.hid hrd
        have Hc2 := Lib.hid hc2
        clear hrd hlm
        generalize (ts[k]?.getD (0, [])).1 = id at *
        generalize (ts[k]?.getD (0, [])).2 = nd at *
        have Own7 := Lib.hid (own_alloc Hown.out (.cells #[.int .i64 id] 3))
        have X7 := Lib.hid (lit1 wr 3 (.int .i64 id))
        have lz7 : w.heap.size ≤ (wr.alloc (.cells #[.int .i64 id] 3)).heap.size := by rw [World.size_alloc]; omega
        go_wp2_with (first | (at_builtin; refine wpList_append_src _ rfl _ _ 23 rfl w.heap.size 3 i0 _ 1 8 Tryz.underlying23 hi0 hz0 hz1 hz2 rfl (by omega) (.slice A6 m6 c6) m6 _ rfl Own7.out (some ⟨wr.heap.size, 0, none⟩) 1 1 [.int .i64 id] rfl X7.out (one1 _ rfl) (by unfold maxLen; omega) (by omega) lz7 ?_; intro v' w8 hown8 hgrow8 hat8; have hb8 := (Hbel.out.alloc lz (.cells #[.int .i64 id] 3)).grown hgrow8 lz7 (fun j e => (Own7.out.lt j e).1); have hp8 := (Hblk.out.alloc (.cells #[.int .i64 id] 3)).grown hgrow8 (fun e => own_blk_ne Hown.out Hblk.out (by decide) e.symm); obtain ⟨A8, c8, rfl⟩ := own_shape hown8; have Own8 := Lib.hid hown8; have Hrd8 := Lib.hid ((Hrd.out.below ((Below.refl w.heap.size wr).alloc lz (.cells #[.int .i64 id] 3))).below ((Below.refl w.heap.size (wr.alloc (.cells #[.int .i64 id] 3))).grown hgrow8 lz7 (fun j e => (Own7.out.lt j e).1))); have hc8 : w8.cell? ⟨b, o + k * 2 + 1, none⟩ = some (.slice A' m' c') := (((Below.refl w.heap.size wr).alloc lz (.cells #[.int .i64 id] 3)).grown hgrow8 lz7 (fun j e => (Own7.out.lt j e).1) |>.cell (p := ⟨b, o + k * 2 + 1, none⟩) lb).trans Hc2.out; have Hb8 := Lib.hid hb8; have Hp8 := Lib.hid hp8; have lz8 : w.heap.size ≤ w8.heap.size := hb8.size; have x8 := hp8.cell 1; simp only [List.getElem?_toArray, List.getElem?_cons_zero, List.getElem?_cons_succ] at x8; have S8 := Lib.hid (srcOfI Hrd8.out); clear hb8 hp8 hown8 hgrow8 hat8 X7 Hbel Hblk Hown hc1 hc2 x1) | (at_builtin; refine wpList_append_src _ rfl _ _ 23 rfl w.heap.size 3 i0 _ 1 8 Tryz.underlying23 hi0 hz0 hz1 hz2 rfl (by omega) (.slice A8 (m6 + 1) c8) (m6 + 1) _ rfl Own8.out A' m' c' (nd.map (Value.int .i64)) rfl S8.out (ints_cell1 nd) (by unfold maxLen; omega) (by omega) lz8 ?_; intro v' w9 hown9 hgrow9 hat9; have Hb9 := Lib.hid (Hb8.out.grown hgrow9 lz8 (fun j e => (Own8.out.lt j e).1)); have Hp9 := Lib.hid (Hp8.out.grown hgrow9 (fun e => own_blk_ne Own8.out Hp8.out (by decide) e.symm)); obtain ⟨A9, c9, rfl⟩ := own_shape hown9; have Own9 := Lib.hid hown9; clear hown9 hgrow9 hat9 S8 x8 hc8 Hb8 Hp8))
        go_roundw
        case measure => simp [intOf]; omega
        case rel => exact ⟨k + 1, A9, m6 + 1 + m', c9, by go_num, by omega, rfl, Hb9.out, Hp9.out, by rw [Hs.out]; simpa using Own9.out⟩
      · obtain rfl : k = n := by omega
        go_wp2_with fail
        go_ret
        refine ⟨A6, m6, c6, rfl, ?_, Hbel.out⟩
        have := Hown.out
        rw [List.take_of_length_le (by rw [hl.out]; exact Nat.le_refl _), ← hl.out] at this
        simpa [encU] using this
  | true =>
    have Hop := Lib.hid (show ([if true then 1 else 0, (n : Int)] : List Int) = [1, (n : Int)] from rfl)
    go_enter Tryz.func122, Tryz.ntmps122
    go_wp2_with fail
    have P2 := Lib.hid ((Blk.new w 52 #[.bool true, .slice A n c]).alloc (.cells #[.int .i64 1, .int .i64 (n : Int)] 3))
    have O2 := Lib.hid (World.ownsRow_lit (base := w.heap.size) (e := 3) (size := 1) (w.alloc (.cells #[.bool true, .slice A n c] 52)) #[.int .i64 1, .int .i64 (n : Int)] 2 (by rw [SZ.out true]; omega) (by unfold maxLen; omega) rfl)
    rw [SZ.out true] at O2
    have B2 := Lib.hid (((Below.refl w.heap.size w).alloc (Nat.le_refl _) (.cells #[.bool true, .slice A n c] 52)).alloc (by simp) (.cells #[.int .i64 1, .int .i64 (n : Int)] 3))
    clear P1 O1 x0 x1 y0 y1
    generalize (w.alloc (.cells #[.bool true, .slice A n c] 52)).alloc (.cells #[.int .i64 1, .int .i64 (n : Int)] 3) = w2 at P2 O2 B2 ⊢
    go_loopw [3, 4] (fun v i wr => ∃ (k : Nat) (A6 : Option Addr) (m6 c6 : Nat), i = .int .i64 k ∧ k ≤ n ∧ v = .slice A6 m6 c6 ∧ Below w.heap.size w wr ∧ Blk wr w.heap.size 52 #[.bool true, .slice A n c] ∧
      wr.ownsRow w.heap.size 3 1 (.slice A6 m6 c6) m6 (([1, (n : Int)] ++ (ts.take k).flatMap encT).map (Value.int .i64))) (fun _ i _ => n - (intOf i).toNat)
    case atStart => exact ⟨0, _, _, _, rfl, Nat.zero_le _, rfl, B2.out, P2.out, by simpa using O2.out⟩
    case round =>
      clear B2 P2 O2
      obtain ⟨k, A6, m6, c6, rfl, hk, rfl, hbel, hblk, hown⟩ := hrel
      have Hbel := Lib.hid hbel
      have Hblk := Lib.hid hblk
      have Hown := Lib.hid hown
      have lz := hbel.size
      have x1 := hblk.cell 1
      simp only [List.getElem?_toArray, List.getElem?_cons_zero, List.getElem?_cons_succ] at x1
      have hlm := own_len hown
      clear hbel hblk hown
      by_cases hlt : k < n
      · have k1 : (0 : Int) ≤ (k : Int) := by omega
        have k2 : (k : Int) < (n : Int) := by omega
        have k3 : 0 ≤ (k : Int) * 2 := by omega
        have hkl : Hid (k < ts.length) := by have := hl.out; show _ < _; omega
        have lm : m6 ≤ 1002000 := by
          have := encTs_len Hm.out (show k ≤ ts.length from Nat.le_of_lt hkl.out)
          simp only [List.length_append, List.length_cons, List.length_nil] at hlm
          omega
        have Hs := Lib.hid (encTs_succ hkl.out)
        obtain ⟨b, o, A', m', c', rfl, lb, hc1, hc2, hmc, hrd⟩ := (H.out.below Hbel.out).at_ hlt
        have hm' : m' ≤ 1000 := by have := Hm.out _ (tk_mem hkl.out); have := hrd.len; omega
        have Hrd := Lib.hid hrd
        have Hc2 := Lib.hid hc2
        clear hrd hlm
        generalize (ts[k]?.getD (0, [])).1 = id at *
        generalize (ts[k]?.getD (0, [])).2 = nd at *
        have Own7 := Lib.hid (own_alloc Hown.out (.cells #[.int .i64 id] 3))
        have X7 := Lib.hid (lit1 wr 3 (.int .i64 id))
        have lz7 : w.heap.size ≤ (wr.alloc (.cells #[.int .i64 id] 3)).heap.size := by rw [World.size_alloc]; omega
        go_wp2_with (first | (at_builtin; refine wpList_append_src _ rfl _ _ 23 rfl w.heap.size 3 i0 _ 1 8 Tryz.underlying23 hi0 hz0 hz1 hz2 rfl (by omega) (.slice A6 m6 c6) m6 _ rfl Own7.out (some ⟨wr.heap.size, 0, none⟩) 1 1 [.int .i64 id] rfl X7.out (one1 _ rfl) (by unfold maxLen; omega) (by omega) lz7 ?_; intro v' w8 hown8 hgrow8 hat8; have hb8 := (Hbel.out.alloc lz (.cells #[.int .i64 id] 3)).grown hgrow8 lz7 (fun j e => (Own7.out.lt j e).1); have hp8 := (Hblk.out.alloc (.cells #[.int .i64 id] 3)).grown hgrow8 (fun e => own_blk_ne Hown.out Hblk.out (by decide) e.symm); obtain ⟨A8, c8, rfl⟩ := own_shape hown8; have Own8 := Lib.hid hown8; have Hrd8 := Lib.hid ((Hrd.out.below ((Below.refl w.heap.size wr).alloc lz (.cells #[.int .i64 id] 3))).below ((Below.refl w.heap.size (wr.alloc (.cells #[.int .i64 id] 3))).grown hgrow8 lz7 (fun j e => (Own7.out.lt j e).1))); have hc8 : w8.cell? ⟨b, o + k * 2 + 1, none⟩ = some (.slice A' m' c') := (((Below.refl w.heap.size wr).alloc lz (.cells #[.int .i64 id] 3)).grown hgrow8 lz7 (fun j e => (Own7.out.lt j e).1) |>.cell (p := ⟨b, o + k * 2 + 1, none⟩) lb).trans Hc2.out; have Hb8 := Lib.hid hb8; have Hp8 := Lib.hid hp8; have lz8 : w.heap.size ≤ w8.heap.size := hb8.size; have x8 := hp8.cell 1; simp only [List.getElem?_toArray, List.getElem?_cons_zero, List.getElem?_cons_succ] at x8; have S8 := Lib.hid (srcOfI Hrd8.out); clear hb8 hp8 hown8 hgrow8 hat8 X7 Hbel Hblk Hown hc1 hc2 x1) | (at_builtin; refine wpList_append_src _ rfl _ _ 23 rfl w.heap.size 3 i0 _ 1 8 Tryz.underlying23 hi0 hz0 hz1 hz2 rfl (by omega) (.slice A8 (m6 + 1) c8) (m6 + 1) _ rfl Own8.out A' m' c' (nd.map (Value.int .i64)) rfl S8.out (ints_cell1 nd) (by unfold maxLen; omega) (by omega) lz8 ?_; intro v' w9 hown9 hgrow9 hat9; have Hb9 := Lib.hid (Hb8.out.grown hgrow9 lz8 (fun j e => (Own8.out.lt j e).1)); have Hp9 := Lib.hid (Hp8.out.grown hgrow9 (fun e => own_blk_ne Own8.out Hp8.out (by decide) e.symm)); obtain ⟨A9, c9, rfl⟩ := own_shape hown9; have Own9 := Lib.hid hown9; clear hown9 hgrow9 hat9 S8 x8 hc8 Hb8 Hp8))
        go_roundw
        case measure => simp [intOf]; omega
        case rel => exact ⟨k + 1, A9, m6 + 1 + m', c9, by go_num, by omega, rfl, Hb9.out, Hp9.out, by rw [Hs.out]; simpa using Own9.out⟩
      · obtain rfl : k = n := by omega
        go_wp2_with fail
        go_ret
        refine ⟨A6, m6, c6, rfl, ?_, Hbel.out⟩
        have := Hown.out
        rw [List.take_of_length_le (by rw [hl.out]; exact Nat.le_refl _), ← hl.out] at this
        simpa [encU] using this

end Go.Proofs.YtlegpecjoaklnaaGreatDoor
