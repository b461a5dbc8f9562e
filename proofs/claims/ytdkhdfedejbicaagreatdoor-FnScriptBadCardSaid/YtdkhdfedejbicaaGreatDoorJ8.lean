/- Several texts in one. -/
import Derived.Test.YtdkhdfedejbicaaGreatDoorJ7
namespace Go.Proofs.YtdkhdfedejbicaaGreatDoor
open Go Go.RowKit
attribute [local go_sem ↓] Go.wp_at_zero Go.wp_at_succ

def newP (room : List Int) (q : Int) : List Int × List Un := if roomOk room = true ∧ inR 1 10 q = true then (room, List.replicate q.toNat (false, [])) else ([], [])
def newB (room : List Int) (q : Int) : Bool := roomOk room && inR 1 10 q
theorem newB_no {room : List Int} {q : Int} (h : ¬ (roomOk room = true ∧ inR 1 10 q = true)) : newB room q = false := by rw [← Bool.not_eq_true]; intro hh; exact h (by simpa [newB] using hh)
theorem newB_yes {room : List Int} {q : Int} (h : roomOk room = true ∧ inR 1 10 q = true) : newB room q = true := by simp [newB, h.1, h.2]
theorem newP_no {room : List Int} {q : Int} (h : ¬ (roomOk room = true ∧ inR 1 10 q = true)) : newP room q = ([], []) := by unfold newP; rw [if_neg h]
theorem newP_yes {room : List Int} {q : Nat} (h : roomOk room = true ∧ inR 1 10 (q : Int) = true) : newP room q = (room, List.replicate q (false, [])) := by unfold newP; rw [if_pos h, Int.toNat_natCast]

set_option maxRecDepth 100000 in
set_option maxHeartbeats 3200000 in
theorem clusterNew_any (A : Option Addr) (n c : Nat) (room : List Int) (q : Int) (w : World) (h : RdI w w.heap.size A n room) (hn : n ≤ 1048576) :
    Calls Tryz.prog 29 #[.slice A n c, .int .i64 q] w fun e w' => ∃ A1 m1 c1 A2 m2 c2, e = .returned (.tuple #[.agg #[.slice A1 m1 c1, .slice A2 m2 c2], .bool (newB room q)]) ∧ OwnC w' w.heap.size (.slice A1 m1 c1) (.slice A2 m2 c2) m1 m2 (newP room q).1 (newP room q).2 ∧ Below w.heap.size w w' := by
  obtain ⟨i0, hi0, hz0, hz1, hz2⟩ := info_parts ownI_info
  obtain ⟨ui0, hu0, huz0, huz1, huz2⟩ := info_parts unit_info
  have hl := qh h.len
  have H := qh h
  clear h
  have B1 := qh (alloc_up w (.cells #[.slice none 0 0, .slice none 0 0] 35))
  have P1 := qh (Blk.new w 35 #[.slice none 0 0, .slice none 0 0])
  have x0 := (P1.out).cell 0
  have x1 := (P1.out).cell 1
  simp only [gT, gZ, gS] at x0 x1
  have x2 := (P1.out).frozen 0
  have x3 := (P1.out).frozen 1
  go_enter Tryz.func29, Tryz.ntmps29
  go_wp2_with fail
  generalize w.alloc (.cells #[.slice none 0 0, .slice none 0 0] 35) = w1 at B1 P1 x0 x1 x2 x3 ⊢
  have lz1 := B1.out.size
  cases hr : roomOk room with
  | false =>
    have Hno := qh (show ¬ (roomOk room = true ∧ inR 1 10 q = true) by rw [hr]; simp)
    go_wp2_with (first | (go_at_call 48; refine (l2Room_any A n c w1.heap.size room w1 (H.out.up B1.out)).mono ?_; rintro e w2 ⟨rfl, rfl⟩; rw [hr]) | (go_at_call 49; refine (l6In_any _ _ _ _).mono ?_; rintro e w2 ⟨rfl, rfl⟩))
    have EQ := qh ((P1.out.set_ 0 (.slice none 0 0)).set_ 1 (.slice none 0 0))
    have B9 := qh ((B1.out.setCell (p := ⟨w.heap.size, 0, none⟩) (by simp) (.slice none 0 0)).setCell (p := ⟨w.heap.size, 1, none⟩) (by simp) (.slice none 0 0))
    generalize (World.setCell w1 ⟨w.heap.size, 0, none⟩ (.slice none 0 0)).setCell ⟨w.heap.size, 1, none⟩ (.slice none 0 0) = w9 at EQ B9 ⊢
    have z0 : w9.cell? ⟨w.heap.size, 0, none⟩ = some (.slice none 0 0) := EQ.out.cell 0
    have z1 : w9.cell? ⟨w.heap.size, 1, none⟩ = some (.slice none 0 0) := EQ.out.cell 1
    refine bodyPost_ret (v := .tuple #[.agg #[(.slice none 0 0), (.slice none 0 0)], .bool false]) (by simp [results, Tryz.results29, go_sem, z0, z1]) rfl ⟨none, 0, 0, none, 0, 0, by rw [newB_no Hno.out], ?_, B9.out⟩
    rw [newP_no Hno.out]
    exact OwnC.none B9.out.size
  | true =>
    cases hi : inR 1 10 q with
    | false =>
      have Hno := qh (show ¬ (roomOk room = true ∧ inR 1 10 q = true) by rw [hi]; simp)
      go_wp2_with (first | (go_at_call 48; refine (l2Room_any A n c w1.heap.size room w1 (H.out.up B1.out)).mono ?_; rintro e w2 ⟨rfl, rfl⟩; rw [hr]) | (go_at_call 49; refine (l6In_any _ _ _ _).mono ?_; rintro e w2 ⟨rfl, rfl⟩; rw [hi]))
      have EQ := qh ((P1.out.set_ 0 (.slice none 0 0)).set_ 1 (.slice none 0 0))
      have B9 := qh ((B1.out.setCell (p := ⟨w.heap.size, 0, none⟩) (by simp) (.slice none 0 0)).setCell (p := ⟨w.heap.size, 1, none⟩) (by simp) (.slice none 0 0))
      generalize (World.setCell w1 ⟨w.heap.size, 0, none⟩ (.slice none 0 0)).setCell ⟨w.heap.size, 1, none⟩ (.slice none 0 0) = w9 at EQ B9 ⊢
      have z0 : w9.cell? ⟨w.heap.size, 0, none⟩ = some (.slice none 0 0) := EQ.out.cell 0
      have z1 : w9.cell? ⟨w.heap.size, 1, none⟩ = some (.slice none 0 0) := EQ.out.cell 1
      refine bodyPost_ret (v := .tuple #[.agg #[(.slice none 0 0), (.slice none 0 0)], .bool false]) (by simp [results, Tryz.results29, go_sem, z0, z1]) rfl ⟨none, 0, 0, none, 0, 0, by rw [newB_no Hno.out], ?_, B9.out⟩
      rw [newP_no Hno.out]
      exact OwnC.none B9.out.size
    | true =>
      obtain ⟨i1, i2⟩ := inR_iff.1 hi
      obtain ⟨k, rfl⟩ := Int.eq_ofNat_of_zero_le (show 0 ≤ q by omega)
      have HyB := qh (newB_yes (room := room) (q := (k : Int)) ⟨hr, hi⟩)
      have Hyes := qh (newP_yes (room := room) (q := k) ⟨hr, hi⟩)
      have hO := World.ownsRow_lit (base := w.heap.size) (e := 3) (size := 1) w1 #[] 0 lz1 (by unfold maxLen; omega) rfl
      have O2 := qh (show (w1.alloc (.cells #[] 3)).ownsRow w.heap.size 3 1 (.slice (some ⟨w1.heap.size, 0, none⟩) 0 0) 0 [] from hO)
      have B2 := qh (B1.out.alloc lz1 (.cells #[] 3))
      have P2 := qh (P1.out.alloc (.cells #[] 3))
      have S2 := qh (srcOfI (H.out.up B2.out))
      have N2 := qh (ints_cell1 room)
      have lz2 := B2.out.size
      clear hO x0 x1 x2 x3
      go_wp2_with (first | (go_at_call 48; refine (l2Room_any A n c w1.heap.size room w1 (H.out.up B1.out)).mono ?_; rintro e w2 ⟨rfl, rfl⟩; rw [hr]) | (go_at_call 49; refine (l6In_any _ _ _ _).mono ?_; rintro e w2 ⟨rfl, rfl⟩; rw [hi]) | (at_builtin; refine wpList_append_src _ rfl _ _ 32 rfl w.heap.size 3 i0 _ 1 8 Tryz.underlying32 hi0 hz0 hz1 hz2 rfl (by omega) (.slice (some ⟨w1.heap.size, 0, none⟩) 0 0) 0 [] rfl O2.out A n c _ rfl S2.out N2.out (by unfold maxLen; omega) (by omega) lz2 ?_; intro v' w4 hown4 hgrow4 hat4; rw [Nat.zero_add, List.nil_append] at hown4; obtain ⟨A4, c4, rfl⟩ := own_shape hown4))
      have B4 := qh (B2.out.grown hgrow4 lz2 (fun j e => (O2.out.lt j e).1))
      have P4 := qh (P2.out.grown hgrow4 (fun e => own_blk_ne O2.out P2.out (by decide) e.symm))
      have O4 := qh hown4
      have lz4 := B4.out.size
      have lmd : w.heap.size < w4.heap.size := P4.out.lt
      clear hown4 hgrow4 hat4 O2 B2 P2 S2 N2 lz2 B1 P1
      have sz : (w4.alloc (.cells #[] 83)).heap.size = w4.heap.size + 1 := World.size_alloc _ _
      have U5 := qh (show ((w4.alloc (.cells #[] 83)).alloc (.cells #[.slice A4 n c4, .slice (some ⟨w4.heap.size, 0, none⟩) 0 0] 35)).ownsRow w4.heap.size 83 2 (.slice (some ⟨w4.heap.size, 0, none⟩) 0 0) 0 [] from
        own_alloc (World.ownsRow_lit (base := w4.heap.size) (e := 83) (size := 2) w4 #[] 0 (Nat.le_refl _) (by unfold maxLen; omega) rfl) _)
      have hC := Blk.new (w4.alloc (.cells #[] 83)) 35 #[.slice A4 n c4, .slice (some ⟨w4.heap.size, 0, none⟩) 0 0]
      rw [sz] at hC
      have C5 := qh hC
      have P5 := qh ((P4.out.alloc (.cells #[] 83)).alloc (.cells #[.slice A4 n c4, .slice (some ⟨w4.heap.size, 0, none⟩) 0 0] 35))
      have B5 := qh ((B4.out.alloc lz4 (.cells #[] 83)).alloc (by rw [sz]; omega) (.cells #[.slice A4 n c4, .slice (some ⟨w4.heap.size, 0, none⟩) 0 0] 35))
      have O5 := qh (own_alloc (own_alloc O4.out (.cells #[] 83)) (.cells #[.slice A4 n c4, .slice (some ⟨w4.heap.size, 0, none⟩) 0 0] 35))
      have Lo := qh (fun b hb => (O4.out.lt b hb).2)
      have lz5 : w4.heap.size ≤ ((w4.alloc (.cells #[] 83)).alloc (.cells #[.slice A4 n c4, .slice (some ⟨w4.heap.size, 0, none⟩) 0 0] 35)).heap.size := by rw [World.size_alloc, sz]; omega
      clear hC sz O4 P4 B4
      generalize (w4.alloc (.cells #[] 83)).alloc (.cells #[.slice A4 n c4, .slice (some ⟨w4.heap.size, 0, none⟩) 0 0] 35) = w5 at U5 C5 P5 B5 O5 lz5 ⊢
      generalize w4.heap.size = md at *
      obtain ⟨g3, hg3⟩ : ∃ g3, g3 = md + 1 := ⟨_, rfl⟩
      rw [← hg3] at C5
      rw [← hg3]
      have lg3 : w.heap.size < g3 := by omega
      clear hg3
      go_loopw [7] (fun i wr => ∃ (j : Nat) (A6 : Option Addr) (c6 : Nat) (vs : List Value) (tk : Nat → Value) (f : Nat → Nat), i = .int .i64 j ∧ j ≤ k ∧ Below w.heap.size w wr ∧ Blk wr w.heap.size 35 #[.slice none 0 0, .slice none 0 0] ∧
        Blk wr g3 35 #[.slice A4 n c4, .slice A6 j c6] ∧ wr.ownsRow w.heap.size 3 1 (.slice A4 n c4) n (room.map (Value.int .i64)) ∧ wr.ownsRow md 83 2 (.slice A6 j c6) j vs ∧ NdUs wr j vs tk f (List.replicate j (false, [])) ∧ md ≤ f 0 ∧ f j ≤ wr.heap.size) (fun i _ => k - (intOf i).toNat)
      case atStart => exact ⟨0, _, 0, [], _, _, rfl, Nat.zero_le _, B5.out, P5.out, C5.out, O5.out, U5.out, NdUs.nil md, Nat.le_refl _, lz5⟩
      case round =>
        clear B5 P5 C5 O5 U5 lz5
        obtain ⟨j, A6, c6, vs, tk, f, rfl, hj, hbel, hblk, hcl, hrm, hun, hnd, hmd, hfk⟩ := hrel
        have Hb := qh hbel
        have Hp := qh hblk
        have Hc := qh hcl
        have Hm := qh hrm
        have Hu := qh hun
        have Hn := qh hnd
        have Hmd := qh hmd
        have lz := hbel.size
        have lmz : md ≤ wr.heap.size := by have := hnd.mono 0 j (by omega) (by omega); omega
        clear hbel hblk hcl hrm hun hnd hmd
        by_cases hlt : (j : Int) < (k : Int)
        · have sz : (wr.alloc (.cells #[] 75)).heap.size = wr.heap.size + 1 := World.size_alloc _ _
          have OT := own_alloc (World.ownsRow_lit (base := wr.heap.size) (e := 75) (size := 2) wr #[] 0 (Nat.le_refl _) (by unfold maxLen; omega) rfl) (.cells #[.bool false, .slice (some ⟨wr.heap.size, 0, none⟩) 0 0] 83)
          have Own7 := qh (own_alloc (own_alloc Hu.out (.cells #[] 75)) (.cells #[.bool false, .slice (some ⟨wr.heap.size, 0, none⟩) 0 0] 83))
          have hX := lit2 (wr.alloc (.cells #[] 75)) 83 (.bool false) (.slice (some ⟨wr.heap.size, 0, none⟩) 0 0)
          rw [sz] at hX
          have X7 := qh hX
          have Q7 := qh ((Hc.out.alloc (.cells #[] 75)).alloc (.cells #[.bool false, .slice (some ⟨wr.heap.size, 0, none⟩) 0 0] 83))
          have P7 := qh ((Hp.out.alloc (.cells #[] 75)).alloc (.cells #[.bool false, .slice (some ⟨wr.heap.size, 0, none⟩) 0 0] 83))
          have B7 := qh ((Hb.out.alloc lz (.cells #[] 75)).alloc (by rw [sz]; omega) (.cells #[.bool false, .slice (some ⟨wr.heap.size, 0, none⟩) 0 0] 83))
          have y1 := Hc.out.cell 1
          simp only [gT, gZ, gS] at y1
          have lz7 : md ≤ ((wr.alloc (.cells #[] 75)).alloc (.cells #[.bool false, .slice (some ⟨wr.heap.size, 0, none⟩) 0 0] 83)).heap.size := by rw [World.size_alloc, sz]; omega
          have lz8 : wr.heap.size + 1 ≤ ((wr.alloc (.cells #[] 75)).alloc (.cells #[.bool false, .slice (some ⟨wr.heap.size, 0, none⟩) 0 0] 83)).heap.size := by rw [World.size_alloc, sz]; omega
          have OT7 := qh OT
          have KTa := qh ((KeepTI.up (alloc_up wr (.cells #[] 75))).trans (KeepTI.up (alloc_up (wr.alloc (.cells #[] 75)) (.cells #[.bool false, .slice (some ⟨wr.heap.size, 0, none⟩) 0 0] 83))))
          clear hX OT
          have ln : k ≤ 10 := by omega
          go_wp2_with (at_builtin; refine wpList_append_src _ rfl _ _ 33 rfl md 83 ui0 _ 2 32 Tryz.underlying33 hu0 huz0 huz1 huz2 rfl (by omega) (.slice A6 j c6) j vs rfl Own7.out (some ⟨wr.heap.size + 1, 0, none⟩) 1 1 [.bool false, .slice (some ⟨wr.heap.size, 0, none⟩) 0 0] rfl X7.out (one2 _ _ rfl rfl) (by unfold maxLen; omega) (by omega) lz7 ?_; intro v' w8 hown8 hgrow8 hat8; obtain ⟨A8, c8, rfl⟩ := own_shape hown8; have HG8 := qh hgrow8; have Cl8 := qh (Q7.out.grown hgrow8 (fun e => own_blk_ne Own7.out Q7.out (by decide) e.symm)); have y8 := Cl8.out.cell 1; simp only [gT, gZ, gS] at y8; have f8 := Cl8.out.frozen 1; have Own8 := qh hown8; clear hown8 hat8 hgrow8)
          have KTb := qh ((KeepTI.grown Own7.out HG8.out (by decide) (by decide)).trans (KeepTI.set_ Cl8.out (by decide) (by decide) 1 (.slice A8 (j + 1) c8)))
          have KT := qh (KTa.out.trans KTb.out)
          have P9 := qh ((P7.out.grown HG8.out (fun e => own_blk_ne Own7.out P7.out (by decide) e.symm)).far (p := ⟨g3, 1, none⟩) (by show w.heap.size ≠ g3; omega) (.slice A8 (j + 1) c8))
          have Q9 := qh (show Blk (w8.setCell ⟨g3, 1, none⟩ (.slice A8 (j + 1) c8)) g3 35 #[.slice A4 n c4, .slice A8 (j + 1) c8] from Cl8.out.set_ 1 (.slice A8 (j + 1) c8))
          have Un9 := qh (own_keep Own8.out (w' := w8.setCell ⟨g3, 1, none⟩ (.slice A8 (j + 1) c8)) (fun b hb => Below.heap_setCell _ _ _ _ (fun e => own_blk_ne Own8.out Cl8.out (by decide) (by rw [hb, e]))))
          have B9 := qh ((B7.out.grown HG8.out (by omega) (fun r e => by have := (Own7.out.lt r e).1; omega)).setCell (p := ⟨g3, 1, none⟩) (by show w.heap.size ≤ g3; omega) (.slice A8 (j + 1) c8))
          have sz9 : wr.heap.size + 1 ≤ (w8.setCell ⟨g3, 1, none⟩ (.slice A8 (j + 1) c8)).heap.size := by have := HG8.out.size; simp only [World.setCell, Array.size_modify]; omega
          have OT9 := own_keepTI OT7.out (.inr rfl) KTb.out
          have hx : OwnTsB (w8.setCell ⟨g3, 1, none⟩ (.slice A8 (j + 1) c8)) (f j) (wr.heap.size + 1) (.slice (some ⟨wr.heap.size, 0, none⟩) 0 0) 0 [] :=
            ⟨[], _, own_lo OT9 hfk, NdTs.nil, fun b hb => by simp [Value.ownBlock] at hb; omega, fun i hi => by omega⟩
          have hns := (Hn.out.keepTI KT.out).snoc (op := false) (by have := Hu.out.1; omega) hx (by omega)
          have Nd9 := qh hns
          have Rm9 := qh (own_keepTI Hm.out (.inl rfl) KT.out)
          clear hx hns y1 y8 f8 OT9
          go_wp2_with fail
          go_roundw
          case measure => simp [intOf]; omega
          case rel => exact ⟨j + 1, A8, c8, _, _, _, by go_num, by omega, B9.out, P9.out, Q9.out, Rm9.out, Un9.out, by rw [List.replicate_succ']; exact Nd9.out, by show md ≤ (if 0 = j + 1 then _ else f 0); rw [if_neg (by omega)]; exact Hmd.out, by show (if j + 1 = j + 1 then wr.heap.size + 1 else _) ≤ _; rw [if_pos rfl]; exact sz9⟩
        · obtain rfl : k = j := by omega
          have q0 := Hc.out.cell 0
          have q1 := Hc.out.cell 1
          simp only [gT, gZ, gS] at q0 q1
          have x0 := (Hp.out).cell 0
          have x1 := (Hp.out).cell 1
          simp only [gT, gZ, gS] at x0 x1
          have x2 := (Hp.out).frozen 0
          have x3 := (Hp.out).frozen 1
          go_wp2_with fail
          have KT := qh ((KeepTI.set_ Hp.out (by decide) (by decide) 0 (.slice A4 n c4)).trans (KeepTI.set_ (Hp.out.set_ 0 (.slice A4 n c4)) (by decide) (by decide) 1 (.slice A6 k c6)))
          have EQ := qh ((Hp.out.set_ 0 (.slice A4 n c4)).set_ 1 (.slice A6 k c6))
          have U9 := qh (own_keep Hu.out (w' := (wr.setCell ⟨w.heap.size, 0, none⟩ (.slice A4 n c4)).setCell ⟨w.heap.size, 1, none⟩ (.slice A6 k c6)) (fun b hb => have hbb : b ≠ w.heap.size := fun e => own_blk_ne Hu.out Hp.out (by decide) (by rw [hb, e])
            (Below.heap_setCell _ _ _ b hbb).trans (Below.heap_setCell _ _ _ b hbb)))
          have B9 := qh ((Hb.out.setCell (p := ⟨w.heap.size, 0, none⟩) (by simp) (.slice A4 n c4)).setCell (p := ⟨w.heap.size, 1, none⟩) (by simp) (.slice A6 k c6))
          generalize (wr.setCell ⟨w.heap.size, 0, none⟩ (.slice A4 n c4)).setCell ⟨w.heap.size, 1, none⟩ (.slice A6 k c6) = w9 at KT EQ U9 B9 ⊢
          have z0 : w9.cell? ⟨w.heap.size, 0, none⟩ = some (.slice A4 n c4) := EQ.out.cell 0
          have z1 : w9.cell? ⟨w.heap.size, 1, none⟩ = some (.slice A6 k c6) := EQ.out.cell 1
          refine bodyPost_ret (v := .tuple #[.agg #[.slice A4 n c4, .slice A6 k c6], .bool true]) (by simp [results, Tryz.results29, go_sem, z0, z1]) rfl ⟨A4, n, c4, A6, k, c6, by rw [HyB.out], ?_, B9.out⟩
          rw [Hyes.out]
          exact ⟨own_keepTI Hm.out (.inl rfl) KT.out, md, Lo.out, lz4, vs, tk, f, U9.out, Hn.out.keepTI KT.out, Hmd.out⟩
end Go.Proofs.YtdkhdfedejbicaaGreatDoor

namespace Go.Proofs.YtdkhdfedejbicaaGreatDoor
open Go Go.RowKit

section
variable {room : List Int} {us : List Un} {B : Nat}
end

section
variable {w0 w w' : World} {g Z C q q' m1 c1 m2 c2 : Nat} {A1 A2 : Option Addr} {room : List Int} {us : List Un}
end
end Go.Proofs.YtdkhdfedejbicaaGreatDoor

namespace Go.Proofs.YtdkhdfedejbicaaGreatDoor
open Go Go.RowKit
attribute [local go_sem ↓] Go.wp_at_zero Go.wp_at_succ

end Go.Proofs.YtdkhdfedejbicaaGreatDoor
