/- Walk: the reference's ClusterBytes. -/
import Derived.Test.YtlegpecjoaklnaaGreatDoorClSpecV
namespace Go.Proofs.YtlegpecjoaklnaaGreatDoor
open Go Go.RowKit
attribute [local go_sem ↓] Go.wp_at_zero Go.wp_at_succ

theorem encUs_succ {us : List Un} {k : Nat} (h : k < us.length) : (us.take (k + 1)).flatMap encU = (us.take k).flatMap encU ++ encU (us[k]?.getD (false, [])) := by
  rw [List.take_succ_eq_append_getElem h, List.flatMap_append, List.getElem?_eq_getElem h]
  simp
theorem encU_le {u : Un} (h1 : u.2.length ≤ 1000) (h2 : ∀ t ∈ u.2, t.2.length ≤ 1000) : (encU u).length ≤ 1002000 := by
  have := encTs_len h2 (Nat.le_refl u.2.length)
  rw [List.take_length] at this
  rw [encU, List.length_cons, List.length_cons]
  omega
theorem encUs_len {us : List Un} (h : ShU us) {k : Nat} (hk : k ≤ us.length) : ((us.take k).flatMap encU).length ≤ 1002000 * k := by
  induction k with
  | zero => simp
  | succ k ih =>
    have := ih (by omega)
    rw [encUs_succ (by omega), List.length_append]
    have := h.2 _ (un_mem (show k < us.length by omega))
    have := encU_le this.1 this.2
    omega

/-- The bytes that are handed out. -/
def bytesOr (room : List Int) (us : List Un) : List Int := if clOk room us = true then bytesP room us else []
theorem bytesOr_no {room : List Int} {us : List Un} (h : clOk room us = false) : bytesOr room us = [] := by rw [bytesOr, if_neg (by rw [h]; simp)]
theorem bytesOr_yes {room : List Int} {us : List Un} (h : clOk room us = true) : bytesOr room us = bytesP room us := by rw [bytesOr, if_pos h]
set_option maxRecDepth 100000 in
set_option maxHeartbeats 1600000 in
theorem clusterBytesS_any (A1 A2 : Option Addr) (n1 c1 n2 c2 : Nat) (room : List Int) (us : List Un) (w : World) (h : RdC w A1 A2 n1 n2 room us) (hs : ShU us) (hn1 : n1 ≤ 1048576) :
    Calls Tryz.prog 66 #[.agg #[.slice A1 n1 c1, .slice A2 n2 c2]] w fun e w' => ∃ A m c, e = .returned (.tuple #[.slice A m c, .bool (clOk room us)]) ∧ w'.ownsRow w.heap.size 3 1 (.slice A m c) m ((bytesOr room us).map (Value.int .i64)) ∧ Below w.heap.size w w' := by
  obtain ⟨i0, hi0, hz0, hz1, hz2⟩ := info_parts ownI_info
  have hl := Lib.hid h.b.len
  have hl1 := Lib.hid h.a.len
  have H := Lib.hid h
  have Hs := Lib.hid hs
  have ln : n2 ≤ 1000 := by have := h.b.len; have := hs.1; omega
  clear h hs
  have B1 := Lib.hid (alloc_up w (.cells #[.slice A1 n1 c1, .slice A2 n2 c2] 26))
  have P1 := Lib.hid (Blk.new w 26 #[.slice A1 n1 c1, .slice A2 n2 c2])
  have hcall := Lib.hid (fun w1 (hb : Below w.heap.size w w1) => clusterValidS_any A1 A2 n1 c1 n2 c2 room us w1 (H.out.up hb) Hs.out)
  have x0 := P1.out.cell 0
  have x1 := P1.out.cell 1
  simp only [List.getElem?_toArray, List.getElem?_cons_zero, List.getElem?_cons_succ] at x0 x1
  go_enter Tryz.func66, Tryz.ntmps66
  go_wp2_with fail
  generalize w.alloc (.cells #[.slice A1 n1 c1, .slice A2 n2 c2] 26) = w1 at B1 P1 x0 x1 ⊢
  refine (hcall.out w1 B1.out).mono ?_; rintro e w2 ⟨rfl, hb2⟩
  have B2 := Lib.hid (below_to B1.out hb2)
  have P2 := Lib.hid (P1.out.below hb2 P1.out.lt)
  clear hb2 x0 x1 B1 P1
  cases hok : clOk room us with
  | false =>
    have Hy := Lib.hid (bytesOr_no hok)
    have Hok := Lib.hid hok
    clear hok
    have O3 := Lib.hid (World.ownsRow_lit (base := w.heap.size) (e := 3) (size := 1) w2 #[] 0 B2.out.size (by unfold maxLen; omega) rfl)
    have B3 := Lib.hid (B2.out.alloc B2.out.size (.cells #[] 3))
    go_wp2_with fail
    go_ret2
    exact ⟨_, _, _, by rw [Hok.out]; rfl, by rw [Hy.out]; exact O3.out, B3.out⟩
  | true =>
    have Hy := Lib.hid (bytesOr_yes hok)
    have Hok := Lib.hid hok
    clear hok
    have x0 := P2.out.cell 0
    have x1 := P2.out.cell 1
    simp only [List.getElem?_toArray, List.getElem?_cons_zero, List.getElem?_cons_succ] at x0 x1
    have hO3 := World.ownsRow_lit (base := w.heap.size) (e := 3) (size := 1) w2 #[] 0 B2.out.size (by unfold maxLen; omega) rfl
    have O3 := Lib.hid (show (w2.alloc (.cells #[] 3)).ownsRow w.heap.size 3 1 (.slice (some ⟨w2.heap.size, 0, none⟩) 0 0) 0 [] from hO3)
    have B3 := Lib.hid (B2.out.alloc B2.out.size (.cells #[] 3))
    have P3 := Lib.hid (P2.out.alloc (.cells #[] 3))
    have S3 := Lib.hid (srcOfI (H.out.a.up B3.out))
    have lz3 := B3.out.size
    have y0 := P3.out.cell 0
    simp only [List.getElem?_toArray, List.getElem?_cons_zero] at y0
    clear hO3
    go_wp2_with (at_builtin; refine wpList_append_src _ rfl _ _ 23 rfl w.heap.size 3 i0 _ 1 8 Tryz.underlying23 hi0 hz0 hz1 hz2 rfl (by omega) (.slice (some ⟨w2.heap.size, 0, none⟩) 0 0) 0 [] rfl O3.out A1 n1 c1 (room.map (Value.int .i64)) rfl S3.out (ints_cell1 room) (by unfold maxLen; omega) (by omega) lz3 ?_; intro v' w4 hown4 hgrow4 hat4; rw [Nat.zero_add, List.nil_append] at hown4)
    have B4 := Lib.hid (B3.out.grown hgrow4 lz3 (fun j e => (O3.out.lt j e).1))
    have P4 := Lib.hid (P3.out.grown hgrow4 (fun e => own_blk_ne O3.out P3.out (by decide) e.symm))
    obtain ⟨A4, c4, rfl⟩ := own_shape hown4
    have O4 := Lib.hid hown4
    clear y0 hown4 hgrow4 hat4 S3 O3 B3 P3 x0 x1 lz3 B2 P2
    go_wp2_with fail
    go_loopw [4, 5] (fun v i wr => ∃ (k : Nat) (A6 : Option Addr) (m6 c6 : Nat), i = .int .i64 k ∧ k ≤ n2 ∧ v = .slice A6 m6 c6 ∧ Below w.heap.size w wr ∧ Blk wr w.heap.size 26 #[.slice A1 n1 c1, .slice A2 n2 c2] ∧
      wr.ownsRow w.heap.size 3 1 (.slice A6 m6 c6) m6 ((room ++ (us.take k).flatMap encU).map (Value.int .i64))) (fun _ i _ => n2 - (intOf i).toNat)
    case atStart => exact ⟨0, _, _, _, rfl, Nat.zero_le _, rfl, B4.out, P4.out, by simpa using O4.out⟩
    case round =>
      clear B4 P4 O4
      obtain ⟨k, A6, m6, c6, rfl, hk, rfl, hbel, hblk, hown⟩ := hrel
      have Hbel := Lib.hid hbel
      have Hblk := Lib.hid hblk
      have Hown := Lib.hid hown
      have lz := hbel.size
      have x1 := hblk.cell 1
      simp only [List.getElem?_toArray, List.getElem?_cons_zero, List.getElem?_cons_succ] at x1
      have hlm := own_len hown
      have lm : m6 ≤ 1003100000 := by
        have := encUs_len Hs.out (show k ≤ us.length by rw [hl.out]; exact hk)
        rw [List.length_append, hl1.out] at hlm
        omega
      clear hbel hblk hown hlm
      by_cases hlt : k < n2
      · have k1 : (0 : Int) ≤ (k : Int) := by omega
        have k2 : (k : Int) < (n2 : Int) := by omega
        have k3 : 0 ≤ (k : Int) * 2 := by omega
        have hkl : Hid (k < us.length) := by have := hl.out; show _ < _; omega
        have He := Lib.hid (encUs_succ hkl.out)
        have hu := Hs.out.2 _ (un_mem hkl.out)
        obtain ⟨b, o, A', m', c', rfl, lb, hc1, hc2, hmc, hrd⟩ := (H.out.b.below Hbel.out).at_ hlt
        have hml := hrd.len
        have Hrd := Lib.hid (hrd.more lz)
        have Hue := Lib.hid (encU_le hu.1 hu.2)
        have Hu := Lib.hid hu
        clear hrd hu
        generalize us[k]?.getD (false, []) = u at *
        obtain ⟨op, ts⟩ := u
        dsimp only at hc1 hml Hrd Hu
        go_wp2_with (first | (go_at_call 122; refine (l31Unit_any A' m' c' op ts wr Hrd.out (by have := Hu.out.1; omega) Hu.out.2).mono ?_; rintro e w7 ⟨A7, m7, c7, rfl, hown7, hb7⟩; have O7 := Lib.hid hown7; have L7 := own_len hown7; have B7 := Lib.hid (below_to Hbel.out hb7); have P7 := Lib.hid (Hblk.out.below hb7 Hblk.out.lt); have Q7 := Lib.hid (own_up' Hown.out hb7); have X7 := Lib.hid (own_src' hown7); have lm7 : m7 ≤ 1002000 := (by have := Hue.out; omega); have lz7 := B7.out.size; have N7 := Lib.hid (ints_cell1 (encU (op, ts))); clear hown7 hb7 L7) | (at_builtin; refine wpList_append_src _ rfl _ _ 23 rfl w.heap.size 3 i0 _ 1 8 Tryz.underlying23 hi0 hz0 hz1 hz2 rfl (by omega) (.slice A6 m6 c6) m6 _ rfl Q7.out A7 m7 c7 _ rfl X7.out N7.out (by unfold maxLen; omega) (by omega) lz7 ?_; intro v' w8 hown8 hgrow8 hat8))
        have B8 := Lib.hid (B7.out.grown hgrow8 lz7 (fun j e => (Q7.out.lt j e).1))
        have P8 := Lib.hid (P7.out.grown hgrow8 (fun e => own_blk_ne Q7.out P7.out (by decide) e.symm))
        obtain ⟨A8, c8, rfl⟩ := own_shape hown8
        have O8 := Lib.hid hown8
        clear hown8 hgrow8 hat8
        go_wp2_with fail
        go_roundw
        case measure => simp [intOf]; omega
        case rel => exact ⟨k + 1, A8, m6 + m7, c8, by go_num, by omega, rfl, B8.out, P8.out, by rw [He.out, ← List.append_assoc, List.map_append]; exact O8.out⟩
      · obtain rfl : k = n2 := by omega
        have Hown2 := Lib.hid (show wr.ownsRow w.heap.size 3 1 (.slice A6 m6 c6) m6 ((encC room us).map (Value.int .i64)) by
          have := Hown.out
          rwa [List.take_of_length_le (by rw [hl.out]; exact Nat.le_refl _)] at this)
        have R6 := Lib.hid (own_rdI Hown2.out (by omega))
        have Own7 := Lib.hid (own_alloc Hown2.out (.cells #[.int .i64 (sumP (encC room us))] 3))
        have X7 := Lib.hid (lit1 wr 3 (.int .i64 (sumP (encC room us))))
        have lz7 : w.heap.size ≤ (wr.alloc (.cells #[.int .i64 (sumP (encC room us))] 3)).heap.size := by rw [World.size_alloc]; omega
        have Eb := Lib.hid (show bytesP room us = encC room us ++ [sumP (encC room us)] from rfl)
        go_wp2_with (first | (go_at_call 73; refine (clusterSumS_any A6 m6 c6 wr.heap.size (encC room us) wr R6.out).mono ?_; rintro e w7 ⟨rfl, rfl⟩) | (at_builtin; refine wpList_append_src _ rfl _ _ 23 rfl w.heap.size 3 i0 _ 1 8 Tryz.underlying23 hi0 hz0 hz1 hz2 rfl (by omega) (.slice A6 m6 c6) m6 _ rfl Own7.out (some ⟨wr.heap.size, 0, none⟩) 1 1 [.int .i64 (sumP (encC room us))] rfl X7.out (one1 _ rfl) (by unfold maxLen; omega) (by omega) lz7 ?_; intro v' w8 hown8 hgrow8 hat8))
        have B8 := Lib.hid ((Hbel.out.alloc lz (.cells #[.int .i64 (sumP (encC room us))] 3)).grown hgrow8 lz7 (fun j e => (Own7.out.lt j e).1))
        obtain ⟨A8, c8, rfl⟩ := own_shape hown8
        have O8 := Lib.hid hown8
        clear hown8 hgrow8 hat8
        go_wp2_with fail
        go_ret2
        refine ⟨A8, m6 + 1, c8, by rw [Hok.out]; rfl, ?_, B8.out⟩
        rw [Hy.out, Eb.out, List.map_append]
        exact O8.out
end Go.Proofs.YtlegpecjoaklnaaGreatDoor
