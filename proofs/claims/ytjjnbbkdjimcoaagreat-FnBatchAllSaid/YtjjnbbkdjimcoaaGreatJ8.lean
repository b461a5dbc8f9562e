/- Several texts in one. -/
import Derived.Test.YtjjnbbkdjimcoaaGreatJ5
import Derived.Test.YtjjnbbkdjimcoaaGreatJ6
import Derived.Test.YtjjnbbkdjimcoaaGreatJ7
import Derived.Test.YtjjnbbkdjimcoaaGreatJ3
namespace Go.Proofs.YtjjnbbkdjimcoaaGreat
open Go Go.RowKit
attribute [local go_sem ↓] Go.wp_at_zero Go.wp_at_succ

/-- ClusterNew. -/
def newP (room : List Int) (q : Int) : List Int × List Un := if roomOk room = true ∧ inR 1 10 q = true then (room, List.replicate q.toNat (false, [])) else ([], [])
def newB (room : List Int) (q : Int) : Bool := roomOk room && inR 1 10 q
theorem newB_no {room : List Int} {q : Int} (h : ¬ (roomOk room = true ∧ inR 1 10 q = true)) : newB room q = false := by rw [← Bool.not_eq_true]; intro hh; exact h (by simpa [newB] using hh)
theorem newB_yes {room : List Int} {q : Int} (h : roomOk room = true ∧ inR 1 10 q = true) : newB room q = true := by simp [newB, h.1, h.2]
theorem newP_no {room : List Int} {q : Int} (h : ¬ (roomOk room = true ∧ inR 1 10 q = true)) : newP room q = ([], []) := by unfold newP; rw [if_neg h]
theorem newP_yes {room : List Int} {q : Nat} (h : roomOk room = true ∧ inR 1 10 (q : Int) = true) : newP room q = (room, List.replicate q (false, [])) := by unfold newP; rw [if_pos h, Int.toNat_natCast]

set_option maxRecDepth 100000 in
set_option maxHeartbeats 3200000 in
theorem clusterNew_any (A : Option Addr) (n c : Nat) (room : List Int) (q : Int) (w : World) (h : RdI w w.heap.size A n room) (hn : n ≤ 1048576) :
    Calls Tryz.prog 82 #[.slice A n c, .int .i64 q] w fun e w' => ∃ A1 m1 c1 A2 m2 c2, e = .returned (.tuple #[.agg #[.slice A1 m1 c1, .slice A2 m2 c2], .bool (newB room q)]) ∧ OwnC w' w.heap.size (.slice A1 m1 c1) (.slice A2 m2 c2) m1 m2 (newP room q).1 (newP room q).2 ∧ Below w.heap.size w w' := by
  obtain ⟨i0, hi0, hz0, hz1, hz2⟩ := info_parts ownI_info
  obtain ⟨ui0, hu0, huz0, huz1, huz2⟩ := info_parts unit_info
  have hl := qh h.len
  have H := qh h
  clear h
  have B1 := qh (alloc_up w (.cells #[.slice none 0 0, .slice none 0 0] 26))
  have P1 := qh (Blk.new w 26 #[.slice none 0 0, .slice none 0 0])
  have x0 := (P1.out).cell 0
  have x1 := (P1.out).cell 1
  simp only [gT, gZ, gS] at x0 x1
  have x2 := (P1.out).frozen 0
  have x3 := (P1.out).frozen 1
  go_enter Tryz.func82, Tryz.ntmps82
  go_wp2_with fail
  generalize w.alloc (.cells #[.slice none 0 0, .slice none 0 0] 26) = w1 at B1 P1 x0 x1 x2 x3 ⊢
  have lz1 := B1.out.size
  cases hr : roomOk room with
  | false =>
    have Hno := qh (show ¬ (roomOk room = true ∧ inR 1 10 q = true) by rw [hr]; simp)
    go_wp2_with (first | (go_at_call 53; refine (l2Room_any A n c w1.heap.size room w1 (H.out.up B1.out)).mono ?_; rintro e w2 ⟨rfl, rfl⟩; rw [hr]) | (go_at_call 50; refine (l6In_any _ _ _ _).mono ?_; rintro e w2 ⟨rfl, rfl⟩))
    have EQ := qh ((P1.out.set_ 0 (.slice none 0 0)).set_ 1 (.slice none 0 0))
    have B9 := qh ((B1.out.setCell (p := ⟨w.heap.size, 0, none⟩) (by simp) (.slice none 0 0)).setCell (p := ⟨w.heap.size, 1, none⟩) (by simp) (.slice none 0 0))
    generalize (World.setCell w1 ⟨w.heap.size, 0, none⟩ (.slice none 0 0)).setCell ⟨w.heap.size, 1, none⟩ (.slice none 0 0) = w9 at EQ B9 ⊢
    have z0 : w9.cell? ⟨w.heap.size, 0, none⟩ = some (.slice none 0 0) := EQ.out.cell 0
    have z1 : w9.cell? ⟨w.heap.size, 1, none⟩ = some (.slice none 0 0) := EQ.out.cell 1
    refine bodyPost_ret (v := .tuple #[.agg #[(.slice none 0 0), (.slice none 0 0)], .bool false]) (by simp [results, Tryz.results82, go_sem, z0, z1]) rfl ⟨none, 0, 0, none, 0, 0, by rw [newB_no Hno.out], ?_, B9.out⟩
    rw [newP_no Hno.out]
    exact OwnC.none B9.out.size
  | true =>
    cases hi : inR 1 10 q with
    | false =>
      have Hno := qh (show ¬ (roomOk room = true ∧ inR 1 10 q = true) by rw [hi]; simp)
      go_wp2_with (first | (go_at_call 53; refine (l2Room_any A n c w1.heap.size room w1 (H.out.up B1.out)).mono ?_; rintro e w2 ⟨rfl, rfl⟩; rw [hr]) | (go_at_call 50; refine (l6In_any _ _ _ _).mono ?_; rintro e w2 ⟨rfl, rfl⟩; rw [hi]))
      have EQ := qh ((P1.out.set_ 0 (.slice none 0 0)).set_ 1 (.slice none 0 0))
      have B9 := qh ((B1.out.setCell (p := ⟨w.heap.size, 0, none⟩) (by simp) (.slice none 0 0)).setCell (p := ⟨w.heap.size, 1, none⟩) (by simp) (.slice none 0 0))
      generalize (World.setCell w1 ⟨w.heap.size, 0, none⟩ (.slice none 0 0)).setCell ⟨w.heap.size, 1, none⟩ (.slice none 0 0) = w9 at EQ B9 ⊢
      have z0 : w9.cell? ⟨w.heap.size, 0, none⟩ = some (.slice none 0 0) := EQ.out.cell 0
      have z1 : w9.cell? ⟨w.heap.size, 1, none⟩ = some (.slice none 0 0) := EQ.out.cell 1
      refine bodyPost_ret (v := .tuple #[.agg #[(.slice none 0 0), (.slice none 0 0)], .bool false]) (by simp [results, Tryz.results82, go_sem, z0, z1]) rfl ⟨none, 0, 0, none, 0, 0, by rw [newB_no Hno.out], ?_, B9.out⟩
      rw [newP_no Hno.out]
      exact OwnC.none B9.out.size
    | true =>
      obtain ⟨i1, i2⟩ := inR_iff.1 hi
      obtain ⟨k, rfl⟩ := Int.eq_ofNat_of_zero_le (show 0 ≤ q by omega)
      have HyB := qh (newB_yes (room := room) (q := (k : Int)) ⟨hr, hi⟩)
      have Hyes := qh (newP_yes (room := room) (q := k) ⟨hr, hi⟩)
      have hO := World.ownsRow_lit (base := w.heap.size) (e := 3) (size := 1) w1 #[] 0 lz1 (by unfold maxLen; omega) rfl
      have O2 := qh (show (w1.alloc (.cells #[] 3)).ownsRow w.heap.size 3 1 (.slice (some ⟨w1.heap.size, 0, none⟩) 0 0) 0 [] from hO)
      have B2 := qh (B1.out.alloc lz1 (.cells #[] 3))
      have P2 := qh (P1.out.alloc (.cells #[] 3))
      have S2 := qh (srcOfI (H.out.up B2.out))
      have N2 := qh (ints_cell1 room)
      have lz2 := B2.out.size
      clear hO x0 x1 x2 x3
      go_wp2_with (first | (go_at_call 53; refine (l2Room_any A n c w1.heap.size room w1 (H.out.up B1.out)).mono ?_; rintro e w2 ⟨rfl, rfl⟩; rw [hr]) | (go_at_call 50; refine (l6In_any _ _ _ _).mono ?_; rintro e w2 ⟨rfl, rfl⟩; rw [hi]) | (at_builtin; refine wpList_append_src _ rfl _ _ 23 rfl w.heap.size 3 i0 _ 1 8 Tryz.underlying23 hi0 hz0 hz1 hz2 rfl (by omega) (.slice (some ⟨w1.heap.size, 0, none⟩) 0 0) 0 [] rfl O2.out A n c _ rfl S2.out N2.out (by unfold maxLen; omega) (by omega) lz2 ?_; intro v' w4 hown4 hgrow4 hat4; rw [Nat.zero_add, List.nil_append] at hown4; obtain ⟨A4, c4, rfl⟩ := own_shape hown4))
      have B4 := qh (B2.out.grown hgrow4 lz2 (fun j e => (O2.out.lt j e).1))
      have P4 := qh (P2.out.grown hgrow4 (fun e => own_blk_ne O2.out P2.out (by decide) e.symm))
      have O4 := qh hown4
      have lz4 := B4.out.size
      have lmd : w.heap.size < w4.heap.size := P4.out.lt
      clear hown4 hgrow4 hat4 O2 B2 P2 S2 N2 lz2 B1 P1
      have sz : (w4.alloc (.cells #[] 72)).heap.size = w4.heap.size + 1 := World.size_alloc _ _
      have U5 := qh (show ((w4.alloc (.cells #[] 72)).alloc (.cells #[.slice A4 n c4, .slice (some ⟨w4.heap.size, 0, none⟩) 0 0] 26)).ownsRow w4.heap.size 72 2 (.slice (some ⟨w4.heap.size, 0, none⟩) 0 0) 0 [] from
        own_alloc (World.ownsRow_lit (base := w4.heap.size) (e := 72) (size := 2) w4 #[] 0 (Nat.le_refl _) (by unfold maxLen; omega) rfl) _)
      have hC := Blk.new (w4.alloc (.cells #[] 72)) 26 #[.slice A4 n c4, .slice (some ⟨w4.heap.size, 0, none⟩) 0 0]
      rw [sz] at hC
      have C5 := qh hC
      have P5 := qh ((P4.out.alloc (.cells #[] 72)).alloc (.cells #[.slice A4 n c4, .slice (some ⟨w4.heap.size, 0, none⟩) 0 0] 26))
      have B5 := qh ((B4.out.alloc lz4 (.cells #[] 72)).alloc (by rw [sz]; omega) (.cells #[.slice A4 n c4, .slice (some ⟨w4.heap.size, 0, none⟩) 0 0] 26))
      have O5 := qh (own_alloc (own_alloc O4.out (.cells #[] 72)) (.cells #[.slice A4 n c4, .slice (some ⟨w4.heap.size, 0, none⟩) 0 0] 26))
      have Lo := qh (fun b hb => (O4.out.lt b hb).2)
      have lz5 : w4.heap.size ≤ ((w4.alloc (.cells #[] 72)).alloc (.cells #[.slice A4 n c4, .slice (some ⟨w4.heap.size, 0, none⟩) 0 0] 26)).heap.size := by rw [World.size_alloc, sz]; omega
      clear hC sz O4 P4 B4
      generalize (w4.alloc (.cells #[] 72)).alloc (.cells #[.slice A4 n c4, .slice (some ⟨w4.heap.size, 0, none⟩) 0 0] 26) = w5 at U5 C5 P5 B5 O5 lz5 ⊢
      generalize w4.heap.size = md at *
      obtain ⟨g3, hg3⟩ : ∃ g3, g3 = md + 1 := ⟨_, rfl⟩
      rw [← hg3] at C5
      rw [← hg3]
      have lg3 : w.heap.size < g3 := by omega
      clear hg3
      go_loopw [7] (fun i wr => ∃ (j : Nat) (A6 : Option Addr) (c6 : Nat) (vs : List Value) (tk : Nat → Value) (f : Nat → Nat), i = .int .i64 j ∧ j ≤ k ∧ Below w.heap.size w wr ∧ Blk wr w.heap.size 26 #[.slice none 0 0, .slice none 0 0] ∧
        Blk wr g3 26 #[.slice A4 n c4, .slice A6 j c6] ∧ wr.ownsRow w.heap.size 3 1 (.slice A4 n c4) n (room.map (Value.int .i64)) ∧ wr.ownsRow md 72 2 (.slice A6 j c6) j vs ∧ NdUs wr j vs tk f (List.replicate j (false, [])) ∧ md ≤ f 0 ∧ f j ≤ wr.heap.size) (fun i _ => k - (intOf i).toNat)
      case atStart => exact ⟨0, _, 0, [], _, _, rfl, Nat.zero_le _, B5.out, P5.out, C5.out, O5.out, U5.out, NdUs.nil md, Nat.le_refl _, lz5⟩
      case round =>
        clear B5 P5 C5 O5 U5 lz5
        obtain ⟨j, A6, c6, vs, tk, f, rfl, hj, hbel, hblk, hcl, hrm, hun, hnd, hmd, hfk⟩ := hrel
        have Hb := qh hbel
        have Hp := qh hblk
        have Hc := qh hcl
        have Hm := qh hrm
        have Hu := qh hun
        have Hn := qh hnd
        have Hmd := qh hmd
        have lz := hbel.size
        have lmz : md ≤ wr.heap.size := by have := hnd.mono 0 j (by omega) (by omega); omega
        clear hbel hblk hcl hrm hun hnd hmd
        by_cases hlt : (j : Int) < (k : Int)
        · have sz : (wr.alloc (.cells #[] 43)).heap.size = wr.heap.size + 1 := World.size_alloc _ _
          have OT := own_alloc (World.ownsRow_lit (base := wr.heap.size) (e := 43) (size := 2) wr #[] 0 (Nat.le_refl _) (by unfold maxLen; omega) rfl) (.cells #[.bool false, .slice (some ⟨wr.heap.size, 0, none⟩) 0 0] 72)
          have Own7 := qh (own_alloc (own_alloc Hu.out (.cells #[] 43)) (.cells #[.bool false, .slice (some ⟨wr.heap.size, 0, none⟩) 0 0] 72))
          have hX := lit2 (wr.alloc (.cells #[] 43)) 72 (.bool false) (.slice (some ⟨wr.heap.size, 0, none⟩) 0 0)
          rw [sz] at hX
          have X7 := qh hX
          have Q7 := qh ((Hc.out.alloc (.cells #[] 43)).alloc (.cells #[.bool false, .slice (some ⟨wr.heap.size, 0, none⟩) 0 0] 72))
          have P7 := qh ((Hp.out.alloc (.cells #[] 43)).alloc (.cells #[.bool false, .slice (some ⟨wr.heap.size, 0, none⟩) 0 0] 72))
          have B7 := qh ((Hb.out.alloc lz (.cells #[] 43)).alloc (by rw [sz]; omega) (.cells #[.bool false, .slice (some ⟨wr.heap.size, 0, none⟩) 0 0] 72))
          have y1 := Hc.out.cell 1
          simp only [gT, gZ, gS] at y1
          have lz7 : md ≤ ((wr.alloc (.cells #[] 43)).alloc (.cells #[.bool false, .slice (some ⟨wr.heap.size, 0, none⟩) 0 0] 72)).heap.size := by rw [World.size_alloc, sz]; omega
          have lz8 : wr.heap.size + 1 ≤ ((wr.alloc (.cells #[] 43)).alloc (.cells #[.bool false, .slice (some ⟨wr.heap.size, 0, none⟩) 0 0] 72)).heap.size := by rw [World.size_alloc, sz]; omega
          have OT7 := qh OT
          have KTa := qh ((KeepTI.up (alloc_up wr (.cells #[] 43))).trans (KeepTI.up (alloc_up (wr.alloc (.cells #[] 43)) (.cells #[.bool false, .slice (some ⟨wr.heap.size, 0, none⟩) 0 0] 72))))
          clear hX OT
          have ln : k ≤ 10 := by omega
          go_wp2_with (at_builtin; refine wpList_append_src _ rfl _ _ 24 rfl md 72 ui0 _ 2 32 Tryz.underlying24 hu0 huz0 huz1 huz2 rfl (by omega) (.slice A6 j c6) j vs rfl Own7.out (some ⟨wr.heap.size + 1, 0, none⟩) 1 1 [.bool false, .slice (some ⟨wr.heap.size, 0, none⟩) 0 0] rfl X7.out (one2 _ _ rfl rfl) (by unfold maxLen; omega) (by omega) lz7 ?_; intro v' w8 hown8 hgrow8 hat8; obtain ⟨A8, c8, rfl⟩ := own_shape hown8; have HG8 := qh hgrow8; have Cl8 := qh (Q7.out.grown hgrow8 (fun e => own_blk_ne Own7.out Q7.out (by decide) e.symm)); have y8 := Cl8.out.cell 1; simp only [gT, gZ, gS] at y8; have f8 := Cl8.out.frozen 1; have Own8 := qh hown8; clear hown8 hat8 hgrow8)
          have KTb := qh ((KeepTI.grown Own7.out HG8.out (by decide) (by decide)).trans (KeepTI.set_ Cl8.out (by decide) (by decide) 1 (.slice A8 (j + 1) c8)))
          have KT := qh (KTa.out.trans KTb.out)
          have P9 := qh ((P7.out.grown HG8.out (fun e => own_blk_ne Own7.out P7.out (by decide) e.symm)).far (p := ⟨g3, 1, none⟩) (by show w.heap.size ≠ g3; omega) (.slice A8 (j + 1) c8))
          have Q9 := qh (show Blk (w8.setCell ⟨g3, 1, none⟩ (.slice A8 (j + 1) c8)) g3 26 #[.slice A4 n c4, .slice A8 (j + 1) c8] from Cl8.out.set_ 1 (.slice A8 (j + 1) c8))
          have Un9 := qh (own_keep Own8.out (w' := w8.setCell ⟨g3, 1, none⟩ (.slice A8 (j + 1) c8)) (fun b hb => Below.heap_setCell _ _ _ _ (fun e => own_blk_ne Own8.out Cl8.out (by decide) (by rw [hb, e]))))
          have B9 := qh ((B7.out.grown HG8.out (by omega) (fun r e => by have := (Own7.out.lt r e).1; omega)).setCell (p := ⟨g3, 1, none⟩) (by show w.heap.size ≤ g3; omega) (.slice A8 (j + 1) c8))
          have sz9 : wr.heap.size + 1 ≤ (w8.setCell ⟨g3, 1, none⟩ (.slice A8 (j + 1) c8)).heap.size := by have := HG8.out.size; simp only [World.setCell, Array.size_modify]; omega
          have OT9 := own_keepTI OT7.out (.inr rfl) KTb.out
          have hx : OwnTsB (w8.setCell ⟨g3, 1, none⟩ (.slice A8 (j + 1) c8)) (f j) (wr.heap.size + 1) (.slice (some ⟨wr.heap.size, 0, none⟩) 0 0) 0 [] :=
            ⟨[], _, own_lo OT9 hfk, NdTs.nil, fun b hb => by simp [Value.ownBlock] at hb; omega, fun i hi => by omega⟩
          have hns := (Hn.out.keepTI KT.out).snoc (op := false) (by have := Hu.out.1; omega) hx (by omega)
          have Nd9 := qh hns
          have Rm9 := qh (own_keepTI Hm.out (.inl rfl) KT.out)
          clear hx hns y1 y8 f8 OT9
          go_wp2_with fail
          go_roundw
          case measure => simp [intOf]; omega
          case rel => exact ⟨j + 1, A8, c8, _, _, _, by go_num, by omega, B9.out, P9.out, Q9.out, Rm9.out, Un9.out, by rw [List.replicate_succ']; exact Nd9.out, by show md ≤ (if 0 = j + 1 then _ else f 0); rw [if_neg (by omega)]; exact Hmd.out, by show (if j + 1 = j + 1 then wr.heap.size + 1 else _) ≤ _; rw [if_pos rfl]; exact sz9⟩
        · obtain rfl : k = j := by omega
          have q0 := Hc.out.cell 0
          have q1 := Hc.out.cell 1
          simp only [gT, gZ, gS] at q0 q1
          have x0 := (Hp.out).cell 0
          have x1 := (Hp.out).cell 1
          simp only [gT, gZ, gS] at x0 x1
          have x2 := (Hp.out).frozen 0
          have x3 := (Hp.out).frozen 1
          go_wp2_with fail
          have KT := qh ((KeepTI.set_ Hp.out (by decide) (by decide) 0 (.slice A4 n c4)).trans (KeepTI.set_ (Hp.out.set_ 0 (.slice A4 n c4)) (by decide) (by decide) 1 (.slice A6 k c6)))
          have EQ := qh ((Hp.out.set_ 0 (.slice A4 n c4)).set_ 1 (.slice A6 k c6))
          have U9 := qh (own_keep Hu.out (w' := (wr.setCell ⟨w.heap.size, 0, none⟩ (.slice A4 n c4)).setCell ⟨w.heap.size, 1, none⟩ (.slice A6 k c6)) (fun b hb => have hbb : b ≠ w.heap.size := fun e => own_blk_ne Hu.out Hp.out (by decide) (by rw [hb, e])
            (Below.heap_setCell _ _ _ b hbb).trans (Below.heap_setCell _ _ _ b hbb)))
          have B9 := qh ((Hb.out.setCell (p := ⟨w.heap.size, 0, none⟩) (by simp) (.slice A4 n c4)).setCell (p := ⟨w.heap.size, 1, none⟩) (by simp) (.slice A6 k c6))
          generalize (wr.setCell ⟨w.heap.size, 0, none⟩ (.slice A4 n c4)).setCell ⟨w.heap.size, 1, none⟩ (.slice A6 k c6) = w9 at KT EQ U9 B9 ⊢
          have z0 : w9.cell? ⟨w.heap.size, 0, none⟩ = some (.slice A4 n c4) := EQ.out.cell 0
          have z1 : w9.cell? ⟨w.heap.size, 1, none⟩ = some (.slice A6 k c6) := EQ.out.cell 1
          refine bodyPost_ret (v := .tuple #[.agg #[.slice A4 n c4, .slice A6 k c6], .bool true]) (by simp [results, Tryz.results82, go_sem, z0, z1]) rfl ⟨A4, n, c4, A6, k, c6, by rw [HyB.out], ?_, B9.out⟩
          rw [Hyes.out]
          exact ⟨own_keepTI Hm.out (.inl rfl) KT.out, md, Lo.out, lz4, vs, tk, f, U9.out, Hn.out.keepTI KT.out, Hmd.out⟩
end Go.Proofs.YtjjnbbkdjimcoaaGreat

namespace Go.Proofs.YtjjnbbkdjimcoaaGreat
open Go Go.RowKit

/-- A small cluster: no node without a room of three. -/
def Sh (B : Nat) (room : List Int) (us : List Un) : Prop := (room.length = 3 ∨ (room = [] ∧ us = [])) ∧ us.length ≤ 10 ∧ ∀ u ∈ us, u.2.length ≤ B ∧ ∀ t ∈ u.2, t.2.length ≤ 3
section
variable {room : List Int} {us : List Un} {B : Nat}
theorem Sh.empty : Sh B [] [] := ⟨.inr ⟨rfl, rfl⟩, by simp, fun u hu => by simp at hu⟩
theorem Sh.of_ok (h : clOk room us = true) : Sh 14 room us := by
  obtain ⟨f1, _, f3, f4⟩ := clOk_facts h
  exact ⟨.inl f1, f3, fun u hu => ⟨(f4 u hu).1, fun t ht => by rw [(f4 u hu).2 t ht]; omega⟩⟩
theorem Sh.more {B' : Nat} (h : Sh B room us) (hb : B ≤ B') : Sh B' room us := ⟨h.1, h.2.1, fun u hu => ⟨Nat.le_trans (h.2.2 u hu).1 hb, (h.2.2 u hu).2⟩⟩
theorem Sh.room_le (h : Sh B room us) : room.length ≤ 3 := by rcases h.1 with h | ⟨h, _⟩ <;> simp [h]
theorem Sh.shU (h : Sh B room us) (hb : B ≤ 1000) : ShU us := ⟨by have := h.2.1; omega, fun u hu => ⟨Nat.le_trans (h.2.2 u hu).1 hb, fun t ht => by have := (h.2.2 u hu).2 t ht; omega⟩⟩
theorem Sh.set_ {op : Bool} {T : List Tk} (h : Sh B room us) (k : Nat) (hT : T.length ≤ B ∧ ∀ t ∈ T, t.2.length ≤ 3) : Sh B room (us.set k (op, T)) := by
  refine ⟨?_, by rw [List.length_set]; exact h.2.1, fun u hu => ?_⟩
  · rcases h.1 with h | ⟨h, h'⟩
    · exact .inl h
    · exact .inr ⟨h, by rw [h']; rfl⟩
  · rcases List.mem_or_eq_of_mem_set hu with hu | rfl
    · exact h.2.2 u hu
    · exact hT
/-- The tasks of one unit. -/
theorem Sh.at_ (h : Sh B room us) (k : Nat) : (us[k]?.getD (false, [])).2.length ≤ B ∧ ∀ t ∈ (us[k]?.getD (false, [])).2, t.2.length ≤ 3 := by
  by_cases hk : k < us.length
  · exact h.2.2 _ (un_mem hk)
  · rw [List.getElem?_eq_none (by omega)]
    exact ⟨by simp, fun t ht => by simp at ht⟩
theorem depP_sh (room : List Int) (us : List Un) (id : Int) : Sh 15 (depP room us id).1 (depP room us id).2.1 := by
  cases hok : clOk room us with
  | false => rw [depP_bad hok]; exact Sh.empty
  | true =>
    have h0 := (Sh.of_ok hok).more (show 14 ≤ 15 by omega)
    rcases whereP_or (us.map (·.2)) id with hw | ⟨k, hw, hk⟩
    · rw [depP_none hok hw]; exact h0
    · rw [depP_yes hok hw]
      exact h0.set_ k ⟨Nat.le_trans (takeP_len _ _) (h0.at_ k).1, fun t ht => (h0.at_ k).2 t (takeP_mem ht)⟩
theorem opnP_sh (room : List Int) (us : List Un) (node : Int) (op : Bool) : Sh 15 (opnP room us node op).1 (opnP room us node op).2.1 := by
  unfold opnP
  split
  · rename_i hok
    have h0 := (Sh.of_ok hok).more (show 14 ≤ 15 by omega)
    split
    · split
      · exact h0
      · split
        · exact h0
        · exact h0.set_ _ (h0.at_ _)
    · exact h0
  · exact Sh.empty
theorem cavP_sh (room : List Int) (us : List Un) (id : Int) (xs : List Int) (g : Bool) : Sh 15 (cavP room us id xs g).1 (cavP room us id xs g).2.1 := by
  unfold cavP
  split
  · rename_i hok
    have h0 := Sh.of_ok hok
    have h1 := h0.more (show 14 ≤ 15 by omega)
    split
    · rename_i hv
      have hx := vecOk_len (tasksOk_vecs hv (id, xs) (List.mem_singleton.2 rfl))
      split
      · exact h1
      · unfold arvP
        split
        · exact h1
        · refine h1.set_ _ ⟨?_, fun t ht => ?_⟩
          · rw [List.length_append, List.length_singleton]; have := (h0.at_ (arvAt room us xs g).toNat).1; omega
          · rcases List.mem_append.1 ht with ht | ht
            · exact (h0.at_ _).2 t ht
            · rw [List.mem_singleton.1 ht]; exact Nat.le_of_eq hx
    · exact h1
  · exact Sh.empty
theorem newP_sh (room : List Int) (q : Int) : Sh 15 (newP room q).1 (newP room q).2 := by
  unfold newP
  split
  · rename_i h
    refine ⟨.inl (vecOk_len (roomOk_vec h.1)), ?_, fun u hu => ?_⟩
    · rw [List.length_replicate]; have := (inR_iff.1 h.2).2; have := (inR_iff.1 h.2).1; omega
    · rw [List.eq_of_mem_replicate hu]; exact ⟨by simp, fun t ht => by simp at ht⟩
  · exact Sh.empty
end

/-- The state between two steps of the draw: the cluster's box C, the result's box Z, the reader g. -/
structure ClW (w0 w : World) (g Z C q : Nat) (A1 : Option Addr) (m1 c1 : Nat) (A2 : Option Addr) (m2 c2 : Nat) (room : List Int) (us : List Un) : Prop where
  c : Blk w C 26 #[.slice A1 m1 c1, .slice A2 m2 c2]
  z : Blk w Z 26 #[.slice none 0 0, .slice none 0 0]
  oc : OwnCR w w0.heap.size (.slice A1 m1 c1) (.slice A2 m2 c2) m1 m2 room us
  o : OnlyG w0 w g
  r : Rdr w g q
  lc : w0.heap.size ≤ C
  lz : w0.heap.size ≤ Z
  ne : C ≠ Z
  lg : g < w0.heap.size
section
variable {w0 w w' : World} {g Z C q q' m1 c1 m2 c2 : Nat} {A1 A2 : Option Addr} {room : List Int} {us : List Un}
theorem keepTU_rdr (r : Rdr w g q) (o : OnlyG w w' g) : KeepTU w w' := by
  obtain ⟨A, n, c, hb, _⟩ := r
  exact keepTU_only o hb (by decide) (by decide) (by decide)
theorem ClW.only (h : ClW w0 w g Z C q A1 m1 c1 A2 m2 c2 room us) (o : OnlyG w w' g) (r : Rdr w' g q') : ClW w0 w' g Z C q' A1 m1 c1 A2 m2 c2 room us :=
  ⟨o.blk h.c (by have := h.lg; have := h.lc; omega), o.blk h.z (by have := h.lg; have := h.lz; omega), h.oc.keepTU (keepTU_rdr h.r o), h.o.trans o, r, h.lc, h.lz, h.ne, h.lg⟩
theorem ClW.below (h : ClW w0 w g Z C q A1 m1 c1 A2 m2 c2 room us) (b : Below w.heap.size w w') : ClW w0 w' g Z C q A1 m1 c1 A2 m2 c2 room us :=
  ⟨h.c.below b h.c.lt, h.z.below b h.z.lt, h.oc.keepTU (KeepTU.up b), h.o.below b, h.r.below b, h.lc, h.lz, h.ne, h.lg⟩
theorem ClW.drew (h : ClW w0 w g Z C q A1 m1 c1 A2 m2 c2 room us) : ClW w0 w.drew g Z C q A1 m1 c1 A2 m2 c2 room us :=
  ⟨h.c.drew, h.z.drew, h.oc.keepTU (fun _ _ => rfl), h.o.drew, h.r.keep (fun _ _ => rfl), h.lc, h.lz, h.ne, h.lg⟩
theorem ClW.put {m3 c3 m4 c4 : Nat} {A3 A4 : Option Addr} {room' : List Int} {us' : List Un} (h : ClW w0 w g Z C q A1 m1 c1 A2 m2 c2 room us) (oc : OwnCR w w0.heap.size (.slice A3 m3 c3) (.slice A4 m4 c4) m3 m4 room' us') :
    ClW w0 ((w.setCell ⟨C, 0, none⟩ (.slice A3 m3 c3)).setCell ⟨C, 1, none⟩ (.slice A4 m4 c4)) g Z C q A3 m3 c3 A4 m4 c4 room' us' := by
  have l1 := h.lc
  have l2 := h.lg
  have l3 := h.ne
  refine ⟨(h.c.set_ 0 (.slice A3 m3 c3)).set_ 1 (.slice A4 m4 c4), (h.z.far (p := ⟨C, 0, none⟩) (fun e => l3 e.symm) _).far (p := ⟨C, 1, none⟩) (fun e => l3 e.symm) _,
    oc.keepTU ((KeepTU.set_ h.c (by decide) (by decide) (by decide) 0 (.slice A3 m3 c3)).trans (KeepTU.set_ (h.c.set_ 0 (.slice A3 m3 c3)) (by decide) (by decide) (by decide) 1 (.slice A4 m4 c4))),
    (h.o.set_new (p := ⟨C, 0, none⟩) l1 _).set_new (p := ⟨C, 1, none⟩) l1 _, ?_, h.lc, h.lz, h.ne, h.lg⟩
  exact (h.r.keep (fun b hb => Below.heap_setCell _ _ _ _ (by show b ≠ C; omega))).keep (fun b hb => Below.heap_setCell _ _ _ _ (by show b ≠ C; omega))
theorem ClW.cells (h : ClW w0 w g Z C q A1 m1 c1 A2 m2 c2 room us) : w.cell? ⟨C, 0, none⟩ = some (.slice A1 m1 c1) ∧ w.cell? ⟨C, 1, none⟩ = some (.slice A2 m2 c2) ∧ w.frozen? ⟨C, 0, none⟩ = false ∧ w.frozen? ⟨C, 1, none⟩ = false :=
  ⟨h.c.cell 0, h.c.cell 1, h.c.frozen 0, h.c.frozen 1⟩
theorem ClW.len (h : ClW w0 w g Z C q A1 m1 c1 A2 m2 c2 room us) : room.length = m1 ∧ us.length = m2 ∧ m1 ≤ c1 ∧ m2 ≤ c2 := h.oc.len
/-- The row of units, its cells at one node. -/
theorem ClW.row {k : Nat} (h : ClW w0 w g Z C q A1 m1 c1 A2 m2 c2 room us) (hk : k < m2) : ∃ gu vs tk, A2 = some ⟨gu, 0, none⟩ ∧ w.ownsRow w0.heap.size 3 1 (.slice A1 m1 c1) m1 (room.map (Value.int .i64)) ∧
    w.ownsRow w0.heap.size 72 2 (.slice (some ⟨gu, 0, none⟩) m2 c2) m2 vs ∧ NdUR w w0.heap.size m2 vs tk us ∧ w0.heap.size ≤ gu ∧ gu < w.heap.size ∧ gu ≠ C ∧ gu ≠ Z ∧
    w.cell? ⟨gu, k * 2, none⟩ = some (.bool (us[k]?.getD (false, [])).1) ∧ w.cell? ⟨gu, k * 2 + 1, none⟩ = some (tk k) ∧ w.frozen? ⟨gu, k * 2, none⟩ = false ∧ w.frozen? ⟨gu, k * 2 + 1, none⟩ = false ∧ ∃ cs, Blk w gu 72 cs := by
  obtain ⟨hr, vs, tk, hU, hN⟩ := h.oc
  obtain ⟨gu, cap, hv, hgu1, hgu2⟩ := hU.form (by omega)
  injection hv with hv1 hv2 hv3
  subst hv1 hv3
  obtain ⟨e1, e2, _⟩ := hN.2.2.1 k hk
  have u1 := hU.cells (g := gu) rfl (k * 2) _ e1
  have u2 := hU.cells (g := gu) rfl (k * 2 + 1) _ e2
  rw [addr_add, Nat.zero_add] at u1 u2
  obtain ⟨_, curU, eU, _, hbU⟩ := own_row hU (by omega)
  injection eU with eU
  injection eU with eU
  subst eU
  exact ⟨gu, vs, tk, rfl, hr, hU, hN, hgu1, hgu2, fun e => own_blk_ne hU h.c (by decide) (by rw [← e]; rfl), fun e => own_blk_ne hU h.z (by decide) (by rw [← e]; rfl), u1, u2, hU.frozenAt _, hU.frozenAt _, curU, hbU⟩
/-- One cell of the units is set. -/
theorem ClW.setU {gu i : Nat} {v : Value} {vs : List Value} {tk : Nat → Value} {us' : List Un} {cs : Array Value} (hc : Blk w C 26 #[.slice A1 m1 c1, .slice (some ⟨gu, 0, none⟩) m2 c2]) (hz : Blk w Z 26 #[.slice none 0 0, .slice none 0 0]) (o : OnlyG w0 w g) (r : Rdr w g q) (lc : w0.heap.size ≤ C) (lz : w0.heap.size ≤ Z) (ne : C ≠ Z) (lg : g < w0.heap.size)
    (hbU : Blk w gu 72 cs) (hgu : w0.heap.size ≤ gu) (h1 : gu ≠ C) (h2 : gu ≠ Z) (hr : w.ownsRow w0.heap.size 3 1 (.slice A1 m1 c1) m1 (room.map (Value.int .i64))) (hU : w.ownsRow w0.heap.size 72 2 (.slice (some ⟨gu, 0, none⟩) m2 c2) m2 vs) (hN : NdUR w w0.heap.size m2 (vs.set i v) tk us') :
    ClW w0 (w.setCell ⟨gu, i, none⟩ v) g Z C q A1 m1 c1 (some ⟨gu, 0, none⟩) m2 c2 room us' := by
  have KT := KeepTI.set_ hbU (by decide) (by decide) i v
  exact ⟨hc.far (p := ⟨gu, i, none⟩) (fun e => h1 e.symm) _, hz.far (p := ⟨gu, i, none⟩) (fun e => h2 e.symm) _, ⟨own_keepTI hr (.inl rfl) KT, _, _, own_set hU i v, hN.keepTI KT⟩, o.set_new (p := ⟨gu, i, none⟩) hgu _, r.keep (fun b hb => Below.heap_setCell _ _ _ _ (by show b ≠ gu; omega)), lc, lz, ne, lg⟩
/-- A row of integers that is one block whole. -/
theorem OwI.own {lo b : Nat} {xs : List Int} (h : OwI w lo b xs) (hl : xs.length = 3) : w.ownsRow lo 3 1 (.slice (some ⟨b, 0, none⟩) 3 3) 3 (xs.map (Value.int .i64)) :=
  ⟨by simp [hl], .inr ⟨b, 3, (xs.map (Value.int .i64)).toArray, rfl, h.1, h.2, Nat.le_refl _, by unfold maxLen; omega, by simp [hl], by rw [List.take_of_length_le (by simp [hl])]⟩⟩
theorem RdI.drop1 {B b : Nat} {n : Nat} {xs : List Int} (h : RdI w B (some ⟨b, 0, none⟩) (n + 1) xs) : RdI w B (some ⟨b, 1, none⟩) n (xs.drop 1) := by
  refine ⟨by rw [List.length_drop, h.1]; omega, by have := h.2.1; omega, fun hn => ?_⟩
  obtain ⟨b', o, e, hb, hc⟩ := h.2.2 (by omega)
  injection e with e
  injection e with e1 e2 e3
  subst e1 e2
  refine ⟨b, 1, rfl, hb, fun j hj => ?_⟩
  have := hc (j + 1) (by omega)
  rw [List.getElem?_drop, show 1 + j = j + 1 by omega]
  rw [Nat.zero_add] at this
  exact this
end
end Go.Proofs.YtjjnbbkdjimcoaaGreat

namespace Go.Proofs.YtjjnbbkdjimcoaaGreat
open Go Go.RowKit
attribute [local go_sem ↓] Go.wp_at_zero Go.wp_at_succ

/-- A drawn cluster reads; only the reader has turned. -/
def DrawnCl (w w' : World) (g p : Nat) (e : Ending) : Prop := ∃ A1 m1 c1 A2 m2 c2 room us, e = .returned (.agg #[.slice A1 m1 c1, .slice A2 m2 c2]) ∧ (∀ u, KeepTU w' u → RdC u A1 A2 m1 m2 room us) ∧ ShU us ∧ m1 ≤ 3 ∧ m1 ≤ c1 ∧ m2 ≤ c2 ∧ OnlyG w w' g ∧ ∃ q, q ≤ p + 160 ∧ Rdr w' g q

set_option maxRecDepth 100000 in
set_option maxHeartbeats 6400000 in
theorem l92Cluster_any (g p : Nat) (w : World) (h : Rdr w g p) (hp : p ≤ 800000) :
    Calls Tryz.prog 44 #[.pointer (some ⟨g, 0, none⟩)] w (fun e w' => DrawnCl w w' g p e) := by
  obtain ⟨t0, ht0, htz0, htz1, htz2⟩ := info_parts task_info
  have lg := h.lt
  have Z1 := qh (Blk.new w 26 #[.slice none 0 0, .slice none 0 0])
  have O1 := qh ((OnlyG.refl w g).alloc (.cells #[.slice none 0 0, .slice none 0 0] 26))
  have R1 := qh (h.below (alloc_up w (.cells #[.slice none 0 0, .slice none 0 0] 26)))
  clear h
  go_enter Tryz.func44, Tryz.ntmps44
  go_wp2_with fail
  generalize w.alloc (.cells #[.slice none 0 0, .slice none 0 0] 26) = w1 at Z1 O1 R1 ⊢
  refine (l91Room_any g p w1 R1.out (by omega)).mono ?_; rintro e w2 ⟨b2, xs, rfl, hw2, hx3, _, o2, q2, hq2, r2⟩
  have Z2 := qh (o2.blk Z1.out (by omega))
  have O2 := qh (O1.out.trans o2)
  have R2 := qh r2
  have W2 := qh hw2
  have Hx3 := qh hx3
  have lw1 := Z1.out.lt
  clear o2 r2 hw2 hx3 Z1 O1 R1
  go_wp2_with fail
  refine (pick_at 7 R2.out rfl (by omega) (by omega) (by omega)).mono ?_; rintro e w3 ⟨r3, rfl, hr3, r3', o3⟩
  have Z3 := qh (o3.blk Z2.out (by omega))
  have O3 := qh (O2.out.trans o3)
  have R3 := qh r3'
  have W3 := qh (show OwI w3 w1.heap.size b2 xs from ⟨W2.out.1, o3.blk W2.out.2 (by have := W2.out.1; omega)⟩)
  have hx := W3.out.rd (by rw [Hx3.out]; omega)
  rw [Hx3.out] at hx
  have Hx := qh hx
  have v3 : IntKind.i64.wrap (1 + (r3 : Int)) = 1 + (r3 : Int) := wr64 (by omega) (by omega)
  clear o3 r3' hx Z2 O2 R2 W2 W3
  go_wp2_with fail
  refine (clusterNew_any (some ⟨b2, 0, none⟩) 3 3 xs (1 + (r3 : Int)) w3 Hx.out (by omega)).mono ?_; rintro e w4 ⟨A1, m1, c1, A2, m2, c2, rfl, hoc, hb4⟩
  have Hsh := qh (newP_sh xs (1 + (r3 : Int)))
  have lw4 : w.heap.size < w4.heap.size := by have := Z3.out.lt; have := hb4.size; omega
  have S5 := qh (show ClW w (w4.alloc (.cells #[.slice A1 m1 c1, .slice A2 m2 c2] 26)) g w.heap.size w4.heap.size (q2 + 1) A1 m1 c1 A2 m2 c2 (newP xs (1 + (r3 : Int))).1 (newP xs (1 + (r3 : Int))).2 from
    ⟨Blk.new w4 _ _, (Z3.out.below hb4 Z3.out.lt).alloc _, ((OwnCR.of hoc).low O3.out.size).keepTU (KeepTU.up (alloc_up w4 _)), (O3.out.below hb4).alloc _, (R3.out.below hb4).below (alloc_up w4 _), by omega, Nat.le_refl _, by omega, lg⟩)
  clear hoc hb4 Z3 O3 R3 Hx Hx3 v3
  go_wp2_with fail
  generalize w4.heap.size = C at S5 lw4 ⊢
  generalize w4.alloc (.cells #[.slice A1 m1 c1, .slice A2 m2 c2] 26) = w5 at S5 ⊢
  generalize (newP xs (1 + (r3 : Int))).1 = room at S5 Hsh
  generalize (newP xs (1 + (r3 : Int))).2 = us at S5 Hsh
  refine (pick_at 16 S5.out.r rfl (by omega) (by omega) (by omega)).mono ?_; rintro e w6 ⟨n, rfl, hn, r6, o6⟩
  have S6 := qh (S5.out.only o6 r6)
  clear o6 r6 S5
  go_wp2_with fail
  go_loopw [6] (fun i wr => ∃ k q A1 m1 c1 A2 m2 c2 room us, i = .int .i64 (k : Nat) ∧ k ≤ n ∧ q ≤ p + 8 + 9 * k ∧ ClW w wr g w.heap.size C q A1 m1 c1 A2 m2 c2 room us ∧ Sh 15 room us) (fun i _ => n - (intOf i).toNat)
  case atStart => exact ⟨0, _, _, _, _, _, _, _, _, _, rfl, Nat.zero_le _, by omega, S6.out, Hsh.out⟩
  case round =>
    clear S6 Hsh
    obtain ⟨k, q, A1, m1, c1, A2, m2, c2, room, us, rfl, hk, hq, hS, hsh⟩ := hrel
    have S0 := qh hS
    have Hsh := qh hsh
    clear hS hsh
    by_cases hlt : k < n
    · go_wp2_with fail
      refine (pick_at 6 S0.out.r rfl (by omega) (by omega) (by omega)).mono ?_; rintro e w7 ⟨r, rfl, hr, r7, o7⟩
      have S7 := qh ((S0.out.only o7 r7).drew)
      clear o7 r7 S0
      have lm := S7.out.len
      have lm1 : m1 ≤ 3 := by have := Hsh.out.room_le; omega
      by_cases h0 : r = 0
      · subst h0
        go_wp2_with fail
        refine wp_region_mix (.take 1 (.fork 0 (.bar 2 (.take 3 (.bar 4 (.take 5 (.take 6 (.take 7 (.bar 8 (.nil)))))))) 2 (.take 3 (.bar 0 (.bar 4 (.take 5 (.take 6 (.take 7 (.bar 8 (.nil)))))))))) (fun _ => True) (by kernel_rfl) (by kernel_rfl) trivial (fun _ => ?_)
        repeat ((first | refine wpMix_skip (by rfl) (by rfl) ?_ | (refine wpMix_take (v := ?_) (by rfl) (by rfl) (fun wS hSt => ?_) ?_; rotate_left; (focus ((try dsimp only at hSt); (go_simp <;> with_reducible rfl); done)))); (try simp only [Act.put, pS, pZ, pC]))
        refine wpMix_fork (by rfl) (by rfl) (fun K hK => ?_) (fun K hK => ?_)
        · have q0 := S7.out.cells.1
          have q1 := S7.out.cells.2.1
          go_simp
          clear q0 q1
          ((try dsimp only); refine nxK hK _ _ (trivial) ?_; clear hK K; (try simp only [Act.put, pS, pZ, pC]))
          (refine wpMix_bar (by rfl) (fun K hK => ?_); go_simp)
          refine (pick_at 12 S7.out.r rfl (by omega) (by omega) (by omega)).mono ?_; rintro e u21 ⟨ra, rfl, hra, v23, o22⟩
          have S24 := qh (S7.out.only o22 v23)
          clear o22 v23
          have va : IntKind.i64.wrap (1 + (ra : Int)) = 1 + (ra : Int) := wr64 (by omega) (by omega)
          ((try dsimp only); refine nxK hK _ _ (trivial) ?_; clear hK K; (try simp only [Act.put, pS, pZ, pC]))
          repeat ((first | refine wpMix_skip (by rfl) (by rfl) ?_ | (refine wpMix_take (v := ?_) (by rfl) (by rfl) (fun wS hSt => ?_) ?_; rotate_left; (focus ((try dsimp only at hSt); (go_simp <;> with_reducible rfl); done)))); (try simp only [Act.put, pS, pZ, pC]))
          (refine wpMix_bar (by rfl) (fun K hK => ?_); go_simp)
          refine (clusterDepart_any A1 A2 m1 c1 m2 c2 room us (1 + (ra : Int)) _ S24.out.oc.rd (Hsh.out.shU (by omega)) (by omega)).mono ?_; rintro e u25 ⟨B3, m3, d3, B4, m4, d4, rfl, OC28h, b26⟩
          have S27 := qh (S24.out.below b26)
          have OC28 := qh (OC28h.low S24.out.o.size)
          clear b26 OC28h
          ((try dsimp only); refine nxK hK _ _ (trivial) ?_; clear hK K; (try simp only [Act.put, pS, pZ, pC]))
          repeat ((first | refine wpMix_skip (by rfl) (by rfl) ?_ | (refine wpMix_take (v := ?_) (by rfl) (by rfl) (fun wS hSt => ?_) ?_; rotate_left; (focus ((try dsimp only at hSt); (go_simp <;> with_reducible rfl); done)))); (try simp only [Act.put, pS, pZ, pC]))
          have q0 := S27.out.cells.1
          have q1 := S27.out.cells.2.1
          have q2 := S27.out.cells.2.2.1
          have q3 := S27.out.cells.2.2.2
          (refine wpMix_bar (by rfl) (fun K hK => ?_); go_simp)
          have S29 := qh (S27.out.put OC28.out)
          clear q0 q1 q2 q3
          ((try dsimp only); refine nxK hK _ _ (trivial) ?_; clear hK K; (try simp only [Act.put, pS, pZ, pC]))
          generalize (u25.setCell ⟨C, 0, none⟩ (.slice B3 m3 d3)).setCell ⟨C, 1, none⟩ (.slice B4 m4 d4) = wz at S29 ⊢
          refine wpMix_nil ?_
          go_wp2_with fail
          go_roundw
          case rel => exact ⟨k + 1, _, _, _, _, _, _, _, _, _, by go_num, by omega, by omega, S29.out, depP_sh room us (1 + (ra : Int))⟩
          case measure => simp [intOf]; omega
        · go_simp
          refine (pick_at 12 S7.out.r rfl (by omega) (by omega) (by omega)).mono ?_; rintro e u30 ⟨ra, rfl, hra, v32, o31⟩
          have S33 := qh (S7.out.only o31 v32)
          clear o31 v32
          have va : IntKind.i64.wrap (1 + (ra : Int)) = 1 + (ra : Int) := wr64 (by omega) (by omega)
          ((try dsimp only); refine nxK hK _ _ (trivial) ?_; clear hK K; (try simp only [Act.put, pS, pZ, pC]))
          repeat ((first | refine wpMix_skip (by rfl) (by rfl) ?_ | (refine wpMix_take (v := ?_) (by rfl) (by rfl) (fun wS hSt => ?_) ?_; rotate_left; (focus ((try dsimp only at hSt); (go_simp <;> with_reducible rfl); done)))); (try simp only [Act.put, pS, pZ, pC]))
          have q0 := S33.out.cells.1
          have q1 := S33.out.cells.2.1
          (refine wpMix_bar (by rfl) (fun K hK => ?_); go_simp)
          clear q0 q1
          ((try dsimp only); refine nxK hK _ _ (trivial) ?_; clear hK K; (try simp only [Act.put, pS, pZ, pC]))
          (refine wpMix_bar (by rfl) (fun K hK => ?_); go_simp)
          refine (clusterDepart_any A1 A2 m1 c1 m2 c2 room us (1 + (ra : Int)) _ S33.out.oc.rd (Hsh.out.shU (by omega)) (by omega)).mono ?_; rintro e u34 ⟨B3, m3, d3, B4, m4, d4, rfl, OC37h, b35⟩
          have S36 := qh (S33.out.below b35)
          have OC37 := qh (OC37h.low S33.out.o.size)
          clear b35 OC37h
          ((try dsimp only); refine nxK hK _ _ (trivial) ?_; clear hK K; (try simp only [Act.put, pS, pZ, pC]))
          repeat ((first | refine wpMix_skip (by rfl) (by rfl) ?_ | (refine wpMix_take (v := ?_) (by rfl) (by rfl) (fun wS hSt => ?_) ?_; rotate_left; (focus ((try dsimp only at hSt); (go_simp <;> with_reducible rfl); done)))); (try simp only [Act.put, pS, pZ, pC]))
          have q0 := S36.out.cells.1
          have q1 := S36.out.cells.2.1
          have q2 := S36.out.cells.2.2.1
          have q3 := S36.out.cells.2.2.2
          (refine wpMix_bar (by rfl) (fun K hK => ?_); go_simp)
          have S38 := qh (S36.out.put OC37.out)
          clear q0 q1 q2 q3
          ((try dsimp only); refine nxK hK _ _ (trivial) ?_; clear hK K; (try simp only [Act.put, pS, pZ, pC]))
          generalize (u34.setCell ⟨C, 0, none⟩ (.slice B3 m3 d3)).setCell ⟨C, 1, none⟩ (.slice B4 m4 d4) = wz at S38 ⊢
          refine wpMix_nil ?_
          go_wp2_with fail
          go_roundw
          case rel => exact ⟨k + 1, _, _, _, _, _, _, _, _, _, by go_num, by omega, by omega, S38.out, depP_sh room us (1 + (ra : Int))⟩
          case measure => simp [intOf]; omega
      · have x0 : ((r : Int) == 0) = false := by simpa using h0
        by_cases h1 : r = 1
        · subst h1
          clear x0
          go_wp2_with fail
          refine wp_region_mix (.take 1 (.take 3 (.fork 0 (.bar 2 (.bar 4 (.take 5 (.bar 6 (.take 7 (.take 8 (.take 9 (.bar 10 (.nil))))))))) 2 (.fork 0 (.bar 4 (.take 5 (.bar 6 (.take 7 (.take 8 (.take 9 (.bar 10 (.nil)))))))) 4 (.take 5 (.bar 0 (.bar 6 (.take 7 (.take 8 (.take 9 (.bar 10 (.nil)))))))))))) (fun _ => True) (by kernel_rfl) (by kernel_rfl) trivial (fun _ => ?_)
          repeat ((first | refine wpMix_skip (by rfl) (by rfl) ?_ | (refine wpMix_take (v := ?_) (by rfl) (by rfl) (fun wS hSt => ?_) ?_; rotate_left; (focus ((try dsimp only at hSt); (go_simp <;> with_reducible rfl); done)))); (try simp only [Act.put, pS, pZ, pC]))
          refine wpMix_fork (by rfl) (by rfl) (fun K hK => ?_) (fun K hK => ?_)
          · have q0 := S7.out.cells.1
            have q1 := S7.out.cells.2.1
            go_simp
            clear q0 q1
            ((try dsimp only); refine nxK hK _ _ (trivial) ?_; clear hK K; (try simp only [Act.put, pS, pZ, pC]))
            (refine wpMix_bar (by rfl) (fun K hK => ?_); go_simp)
            refine (pick_at 7 S7.out.r rfl (by omega) (by omega) (by omega)).mono ?_; rintro e u39 ⟨ra, rfl, hra, v41, o40⟩
            have S42 := qh (S7.out.only o40 v41)
            clear o40 v41
            ((try dsimp only); refine nxK hK _ _ (trivial) ?_; clear hK K; (try simp only [Act.put, pS, pZ, pC]))
            (refine wpMix_bar (by rfl) (fun K hK => ?_); go_simp)
            refine (pick_at 3 S42.out.r rfl (by omega) (by omega) (by omega)).mono ?_; rintro e u43 ⟨rb, rfl, hrb, v45, o44⟩
            have S46 := qh (S42.out.only o44 v45)
            clear o44 v45
            ((try dsimp only); refine nxK hK _ _ (trivial) ?_; clear hK K; (try simp only [Act.put, pS, pZ, pC]))
            repeat ((first | refine wpMix_skip (by rfl) (by rfl) ?_ | (refine wpMix_take (v := ?_) (by rfl) (by rfl) (fun wS hSt => ?_) ?_; rotate_left; (focus ((try dsimp only at hSt); (go_simp <;> with_reducible rfl); done)))); (try simp only [Act.put, pS, pZ, pC]))
            (refine wpMix_bar (by rfl) (fun K hK => ?_); go_simp)
            refine (clusterOpen_any A1 A2 m1 c1 m2 c2 room us (ra : Int) _ _ S46.out.oc.rd (Hsh.out.shU (by omega)) (by omega)).mono ?_; rintro e u47 ⟨B3, m3, d3, B4, m4, d4, rfl, OC50h, b48⟩
            have S49 := qh (S46.out.below b48)
            have OC50 := qh (OC50h.low S46.out.o.size)
            clear b48 OC50h
            ((try dsimp only); refine nxK hK _ _ (trivial) ?_; clear hK K; (try simp only [Act.put, pS, pZ, pC]))
            repeat ((first | refine wpMix_skip (by rfl) (by rfl) ?_ | (refine wpMix_take (v := ?_) (by rfl) (by rfl) (fun wS hSt => ?_) ?_; rotate_left; (focus ((try dsimp only at hSt); (go_simp <;> with_reducible rfl); done)))); (try simp only [Act.put, pS, pZ, pC]))
            have q0 := S49.out.cells.1
            have q1 := S49.out.cells.2.1
            have q2 := S49.out.cells.2.2.1
            have q3 := S49.out.cells.2.2.2
            (refine wpMix_bar (by rfl) (fun K hK => ?_); go_simp)
            have S51 := qh (S49.out.put OC50.out)
            clear q0 q1 q2 q3
            ((try dsimp only); refine nxK hK _ _ (trivial) ?_; clear hK K; (try simp only [Act.put, pS, pZ, pC]))
            generalize (u47.setCell ⟨C, 0, none⟩ (.slice B3 m3 d3)).setCell ⟨C, 1, none⟩ (.slice B4 m4 d4) = wz at S51 ⊢
            refine wpMix_nil ?_
            go_wp2_with fail
            go_roundw
            case rel => exact ⟨k + 1, _, _, _, _, _, _, _, _, _, by go_num, by omega, by omega, S51.out, opnP_sh room us (ra : Int) _⟩
            case measure => simp [intOf]; omega
          · go_simp
            refine (pick_at 7 S7.out.r rfl (by omega) (by omega) (by omega)).mono ?_; rintro e u52 ⟨ra, rfl, hra, v54, o53⟩
            have S55 := qh (S7.out.only o53 v54)
            clear o53 v54
            ((try dsimp only); refine nxK hK _ _ (trivial) ?_; clear hK K; (try simp only [Act.put, pS, pZ, pC]))
            refine wpMix_fork (by rfl) (by rfl) (fun K hK => ?_) (fun K hK => ?_)
            · have q0 := S55.out.cells.1
              have q1 := S55.out.cells.2.1
              go_simp
              clear q0 q1
              ((try dsimp only); refine nxK hK _ _ (trivial) ?_; clear hK K; (try simp only [Act.put, pS, pZ, pC]))
              (refine wpMix_bar (by rfl) (fun K hK => ?_); go_simp)
              refine (pick_at 3 S55.out.r rfl (by omega) (by omega) (by omega)).mono ?_; rintro e u56 ⟨rb, rfl, hrb, v58, o57⟩
              have S59 := qh (S55.out.only o57 v58)
              clear o57 v58
              ((try dsimp only); refine nxK hK _ _ (trivial) ?_; clear hK K; (try simp only [Act.put, pS, pZ, pC]))
              repeat ((first | refine wpMix_skip (by rfl) (by rfl) ?_ | (refine wpMix_take (v := ?_) (by rfl) (by rfl) (fun wS hSt => ?_) ?_; rotate_left; (focus ((try dsimp only at hSt); (go_simp <;> with_reducible rfl); done)))); (try simp only [Act.put, pS, pZ, pC]))
              (refine wpMix_bar (by rfl) (fun K hK => ?_); go_simp)
              refine (clusterOpen_any A1 A2 m1 c1 m2 c2 room us (ra : Int) _ _ S59.out.oc.rd (Hsh.out.shU (by omega)) (by omega)).mono ?_; rintro e u60 ⟨B3, m3, d3, B4, m4, d4, rfl, OC63h, b61⟩
              have S62 := qh (S59.out.below b61)
              have OC63 := qh (OC63h.low S59.out.o.size)
              clear b61 OC63h
              ((try dsimp only); refine nxK hK _ _ (trivial) ?_; clear hK K; (try simp only [Act.put, pS, pZ, pC]))
              repeat ((first | refine wpMix_skip (by rfl) (by rfl) ?_ | (refine wpMix_take (v := ?_) (by rfl) (by rfl) (fun wS hSt => ?_) ?_; rotate_left; (focus ((try dsimp only at hSt); (go_simp <;> with_reducible rfl); done)))); (try simp only [Act.put, pS, pZ, pC]))
              have q0 := S62.out.cells.1
              have q1 := S62.out.cells.2.1
              have q2 := S62.out.cells.2.2.1
              have q3 := S62.out.cells.2.2.2
              (refine wpMix_bar (by rfl) (fun K hK => ?_); go_simp)
              have S64 := qh (S62.out.put OC63.out)
              clear q0 q1 q2 q3
              ((try dsimp only); refine nxK hK _ _ (trivial) ?_; clear hK K; (try simp only [Act.put, pS, pZ, pC]))
              generalize (u60.setCell ⟨C, 0, none⟩ (.slice B3 m3 d3)).setCell ⟨C, 1, none⟩ (.slice B4 m4 d4) = wz at S64 ⊢
              refine wpMix_nil ?_
              go_wp2_with fail
              go_roundw
              case rel => exact ⟨k + 1, _, _, _, _, _, _, _, _, _, by go_num, by omega, by omega, S64.out, opnP_sh room us (ra : Int) _⟩
              case measure => simp [intOf]; omega
            · go_simp
              refine (pick_at 3 S55.out.r rfl (by omega) (by omega) (by omega)).mono ?_; rintro e u65 ⟨rb, rfl, hrb, v67, o66⟩
              have S68 := qh (S55.out.only o66 v67)
              clear o66 v67
              ((try dsimp only); refine nxK hK _ _ (trivial) ?_; clear hK K; (try simp only [Act.put, pS, pZ, pC]))
              repeat ((first | refine wpMix_skip (by rfl) (by rfl) ?_ | (refine wpMix_take (v := ?_) (by rfl) (by rfl) (fun wS hSt => ?_) ?_; rotate_left; (focus ((try dsimp only at hSt); (go_simp <;> with_reducible rfl); done)))); (try simp only [Act.put, pS, pZ, pC]))
              have q0 := S68.out.cells.1
              have q1 := S68.out.cells.2.1
              (refine wpMix_bar (by rfl) (fun K hK => ?_); go_simp)
              clear q0 q1
              ((try dsimp only); refine nxK hK _ _ (trivial) ?_; clear hK K; (try simp only [Act.put, pS, pZ, pC]))
              (refine wpMix_bar (by rfl) (fun K hK => ?_); go_simp)
              refine (clusterOpen_any A1 A2 m1 c1 m2 c2 room us (ra : Int) _ _ S68.out.oc.rd (Hsh.out.shU (by omega)) (by omega)).mono ?_; rintro e u69 ⟨B3, m3, d3, B4, m4, d4, rfl, OC72h, b70⟩
              have S71 := qh (S68.out.below b70)
              have OC72 := qh (OC72h.low S68.out.o.size)
              clear b70 OC72h
              ((try dsimp only); refine nxK hK _ _ (trivial) ?_; clear hK K; (try simp only [Act.put, pS, pZ, pC]))
              repeat ((first | refine wpMix_skip (by rfl) (by rfl) ?_ | (refine wpMix_take (v := ?_) (by rfl) (by rfl) (fun wS hSt => ?_) ?_; rotate_left; (focus ((try dsimp only at hSt); (go_simp <;> with_reducible rfl); done)))); (try simp only [Act.put, pS, pZ, pC]))
              have q0 := S71.out.cells.1
              have q1 := S71.out.cells.2.1
              have q2 := S71.out.cells.2.2.1
              have q3 := S71.out.cells.2.2.2
              (refine wpMix_bar (by rfl) (fun K hK => ?_); go_simp)
              have S73 := qh (S71.out.put OC72.out)
              clear q0 q1 q2 q3
              ((try dsimp only); refine nxK hK _ _ (trivial) ?_; clear hK K; (try simp only [Act.put, pS, pZ, pC]))
              generalize (u69.setCell ⟨C, 0, none⟩ (.slice B3 m3 d3)).setCell ⟨C, 1, none⟩ (.slice B4 m4 d4) = wz at S73 ⊢
              refine wpMix_nil ?_
              go_wp2_with fail
              go_roundw
              case rel => exact ⟨k + 1, _, _, _, _, _, _, _, _, _, by go_num, by omega, by omega, S73.out, opnP_sh room us (ra : Int) _⟩
              case measure => simp [intOf]; omega
        · have x1 : ((r : Int) == 1) = false := by simpa using (show ¬ (r : Int) = 1 by omega)
          go_wp2_with fail
          refine wp_region_mix (.take 1 (.take 2 (.take 6 (.fork 0 (.bar 3 (.take 4 (.bar 5 (.bar 7 (.take 8 (.bar 9 (.take 10 (.take 11 (.take 12 (.bar 13 (.nil))))))))))) 3 (.take 4 (.fork 0 (.bar 5 (.bar 7 (.take 8 (.bar 9 (.take 10 (.take 11 (.take 12 (.bar 13 (.nil))))))))) 5 (.fork 0 (.bar 7 (.take 8 (.bar 9 (.take 10 (.take 11 (.take 12 (.bar 13 (.nil)))))))) 7 (.take 8 (.bar 0 (.bar 9 (.take 10 (.take 11 (.take 12 (.bar 13 (.nil))))))))))))))) (fun _ => True) (by kernel_rfl) (by kernel_rfl) trivial (fun _ => ?_)
          repeat ((first | refine wpMix_skip (by rfl) (by rfl) ?_ | (refine wpMix_take (v := ?_) (by rfl) (by rfl) (fun wS hSt => ?_) ?_; rotate_left; (focus ((try dsimp only at hSt); (go_simp <;> with_reducible rfl); done)))); (try simp only [Act.put, pS, pZ, pC]))
          refine wpMix_fork (by rfl) (by rfl) (fun K hK => ?_) (fun K hK => ?_)
          · have q0 := S7.out.cells.1
            have q1 := S7.out.cells.2.1
            go_simp
            clear q0 q1
            ((try dsimp only); refine nxK hK _ _ (trivial) ?_; clear hK K; (try simp only [Act.put, pS, pZ, pC]))
            (refine wpMix_bar (by rfl) (fun K hK => ?_); go_simp)
            refine (pick_at 14 S7.out.r rfl (by omega) (by omega) (by omega)).mono ?_; rintro e u74 ⟨ra, rfl, hra, v76, o75⟩
            have S77 := qh (S7.out.only o75 v76)
            clear o75 v76
            have va : IntKind.i64.wrap (1 + (ra : Int)) = 1 + (ra : Int) := wr64 (by omega) (by omega)
            ((try dsimp only); refine nxK hK _ _ (trivial) ?_; clear hK K; (try simp only [Act.put, pS, pZ, pC]))
            repeat ((first | refine wpMix_skip (by rfl) (by rfl) ?_ | (refine wpMix_take (v := ?_) (by rfl) (by rfl) (fun wS hSt => ?_) ?_; rotate_left; (focus ((try dsimp only at hSt); (go_simp <;> with_reducible rfl); done)))); (try simp only [Act.put, pS, pZ, pC]))
            (refine wpMix_bar (by rfl) (fun K hK => ?_); go_simp)
            refine (l91Task_any g _ (1 + (ra : Int)) _ S77.out.r (by omega)).mono ?_; rintro e u78 ⟨b83, xs84, rfl, X82w, X82l, _, o79, q85, hq85, v80⟩
            have S81 := qh (S77.out.only o79 v80)
            have X82 := qh X82w
            have X82L := qh X82l
            clear o79 v80 X82w X82l
            ((try dsimp only); refine nxK hK _ _ (trivial) ?_; clear hK K; (try simp only [Act.put, pS, pZ, pC]))
            (refine wpMix_bar (by rfl) (fun K hK => ?_); go_simp)
            refine (pick_at 3 S81.out.r rfl (by omega) (by omega) (by omega)).mono ?_; rintro e u86 ⟨rb, rfl, hrb, v88, o87⟩
            have S89 := qh (S81.out.only o87 v88)
            have X82' := qh (show OwI u86 _ b83 xs84 from ⟨X82.out.1, o87.blk X82.out.2 (by have := X82.out.1; have := S77.out.r.lt; omega)⟩)
            clear o87 v88
            ((try dsimp only); refine nxK hK _ _ (trivial) ?_; clear hK K; (try simp only [Act.put, pS, pZ, pC]))
            repeat ((first | refine wpMix_skip (by rfl) (by rfl) ?_ | (refine wpMix_take (v := ?_) (by rfl) (by rfl) (fun wS hSt => ?_) ?_; rotate_left; (focus ((try dsimp only at hSt); (go_simp <;> with_reducible rfl); done)))); (try simp only [Act.put, pS, pZ, pC]))
            have HX := X82'.out.rd (by rw [X82L.out]; omega)
            rw [X82L.out] at HX
            have HXh := qh HX
            clear HX
            (refine wpMix_bar (by rfl) (fun K hK => ?_); go_simp)
            refine (clusterArrive_any A1 A2 _ m1 c1 m2 c2 3 3 room us (1 + (ra : Int)) xs84 _ _ S89.out.oc.rd (Hsh.out.shU (by omega)) (by omega) HXh.out (Nat.le_refl 3)).mono ?_; rintro e u90 ⟨B3, m3, d3, B4, m4, d4, rfl, OC93h, b91⟩
            have S92 := qh (S89.out.below b91)
            have OC93 := qh (OC93h.low S89.out.o.size)
            clear b91 OC93h
            ((try dsimp only); refine nxK hK _ _ (trivial) ?_; clear hK K; (try simp only [Act.put, pS, pZ, pC]))
            repeat ((first | refine wpMix_skip (by rfl) (by rfl) ?_ | (refine wpMix_take (v := ?_) (by rfl) (by rfl) (fun wS hSt => ?_) ?_; rotate_left; (focus ((try dsimp only at hSt); (go_simp <;> with_reducible rfl); done)))); (try simp only [Act.put, pS, pZ, pC]))
            have q0 := S92.out.cells.1
            have q1 := S92.out.cells.2.1
            have q2 := S92.out.cells.2.2.1
            have q3 := S92.out.cells.2.2.2
            (refine wpMix_bar (by rfl) (fun K hK => ?_); go_simp)
            have S94 := qh (S92.out.put OC93.out)
            clear q0 q1 q2 q3
            ((try dsimp only); refine nxK hK _ _ (trivial) ?_; clear hK K; (try simp only [Act.put, pS, pZ, pC]))
            generalize (u90.setCell ⟨C, 0, none⟩ (.slice B3 m3 d3)).setCell ⟨C, 1, none⟩ (.slice B4 m4 d4) = wz at S94 ⊢
            refine wpMix_nil ?_
            go_wp2_with fail
            go_roundw
            case rel => exact ⟨k + 1, _, _, _, _, _, _, _, _, _, by go_num, by omega, by omega, S94.out, cavP_sh room us (1 + (ra : Int)) xs84 _⟩
            case measure => simp [intOf]; omega
          · go_simp
            refine (pick_at 14 S7.out.r rfl (by omega) (by omega) (by omega)).mono ?_; rintro e u95 ⟨ra, rfl, hra, v97, o96⟩
            have S98 := qh (S7.out.only o96 v97)
            clear o96 v97
            have va : IntKind.i64.wrap (1 + (ra : Int)) = 1 + (ra : Int) := wr64 (by omega) (by omega)
            ((try dsimp only); refine nxK hK _ _ (trivial) ?_; clear hK K; (try simp only [Act.put, pS, pZ, pC]))
            repeat ((first | refine wpMix_skip (by rfl) (by rfl) ?_ | (refine wpMix_take (v := ?_) (by rfl) (by rfl) (fun wS hSt => ?_) ?_; rotate_left; (focus ((try dsimp only at hSt); (go_simp <;> with_reducible rfl); done)))); (try simp only [Act.put, pS, pZ, pC]))
            refine wpMix_fork (by rfl) (by rfl) (fun K hK => ?_) (fun K hK => ?_)
            · have q0 := S98.out.cells.1
              have q1 := S98.out.cells.2.1
              go_simp
              clear q0 q1
              ((try dsimp only); refine nxK hK _ _ (trivial) ?_; clear hK K; (try simp only [Act.put, pS, pZ, pC]))
              (refine wpMix_bar (by rfl) (fun K hK => ?_); go_simp)
              refine (l91Task_any g _ (1 + (ra : Int)) _ S98.out.r (by omega)).mono ?_; rintro e u99 ⟨b104, xs105, rfl, X103w, X103l, _, o100, q106, hq106, v101⟩
              have S102 := qh (S98.out.only o100 v101)
              have X103 := qh X103w
              have X103L := qh X103l
              clear o100 v101 X103w X103l
              ((try dsimp only); refine nxK hK _ _ (trivial) ?_; clear hK K; (try simp only [Act.put, pS, pZ, pC]))
              (refine wpMix_bar (by rfl) (fun K hK => ?_); go_simp)
              refine (pick_at 3 S102.out.r rfl (by omega) (by omega) (by omega)).mono ?_; rintro e u107 ⟨rb, rfl, hrb, v109, o108⟩
              have S110 := qh (S102.out.only o108 v109)
              have X103' := qh (show OwI u107 _ b104 xs105 from ⟨X103.out.1, o108.blk X103.out.2 (by have := X103.out.1; have := S98.out.r.lt; omega)⟩)
              clear o108 v109
              ((try dsimp only); refine nxK hK _ _ (trivial) ?_; clear hK K; (try simp only [Act.put, pS, pZ, pC]))
              repeat ((first | refine wpMix_skip (by rfl) (by rfl) ?_ | (refine wpMix_take (v := ?_) (by rfl) (by rfl) (fun wS hSt => ?_) ?_; rotate_left; (focus ((try dsimp only at hSt); (go_simp <;> with_reducible rfl); done)))); (try simp only [Act.put, pS, pZ, pC]))
              have HX := X103'.out.rd (by rw [X103L.out]; omega)
              rw [X103L.out] at HX
              have HXh := qh HX
              clear HX
              (refine wpMix_bar (by rfl) (fun K hK => ?_); go_simp)
              refine (clusterArrive_any A1 A2 _ m1 c1 m2 c2 3 3 room us (1 + (ra : Int)) xs105 _ _ S110.out.oc.rd (Hsh.out.shU (by omega)) (by omega) HXh.out (Nat.le_refl 3)).mono ?_; rintro e u111 ⟨B3, m3, d3, B4, m4, d4, rfl, OC114h, b112⟩
              have S113 := qh (S110.out.below b112)
              have OC114 := qh (OC114h.low S110.out.o.size)
              clear b112 OC114h
              ((try dsimp only); refine nxK hK _ _ (trivial) ?_; clear hK K; (try simp only [Act.put, pS, pZ, pC]))
              repeat ((first | refine wpMix_skip (by rfl) (by rfl) ?_ | (refine wpMix_take (v := ?_) (by rfl) (by rfl) (fun wS hSt => ?_) ?_; rotate_left; (focus ((try dsimp only at hSt); (go_simp <;> with_reducible rfl); done)))); (try simp only [Act.put, pS, pZ, pC]))
              have q0 := S113.out.cells.1
              have q1 := S113.out.cells.2.1
              have q2 := S113.out.cells.2.2.1
              have q3 := S113.out.cells.2.2.2
              (refine wpMix_bar (by rfl) (fun K hK => ?_); go_simp)
              have S115 := qh (S113.out.put OC114.out)
              clear q0 q1 q2 q3
              ((try dsimp only); refine nxK hK _ _ (trivial) ?_; clear hK K; (try simp only [Act.put, pS, pZ, pC]))
              generalize (u111.setCell ⟨C, 0, none⟩ (.slice B3 m3 d3)).setCell ⟨C, 1, none⟩ (.slice B4 m4 d4) = wz at S115 ⊢
              refine wpMix_nil ?_
              go_wp2_with fail
              go_roundw
              case rel => exact ⟨k + 1, _, _, _, _, _, _, _, _, _, by go_num, by omega, by omega, S115.out, cavP_sh room us (1 + (ra : Int)) xs105 _⟩
              case measure => simp [intOf]; omega
            · go_simp
              refine (l91Task_any g _ (1 + (ra : Int)) _ S98.out.r (by omega)).mono ?_; rintro e u116 ⟨b121, xs122, rfl, X120w, X120l, _, o117, q123, hq123, v118⟩
              have S119 := qh (S98.out.only o117 v118)
              have X120 := qh X120w
              have X120L := qh X120l
              clear o117 v118 X120w X120l
              ((try dsimp only); refine nxK hK _ _ (trivial) ?_; clear hK K; (try simp only [Act.put, pS, pZ, pC]))
              refine wpMix_fork (by rfl) (by rfl) (fun K hK => ?_) (fun K hK => ?_)
              · have q0 := S119.out.cells.1
                have q1 := S119.out.cells.2.1
                go_simp
                clear q0 q1
                ((try dsimp only); refine nxK hK _ _ (trivial) ?_; clear hK K; (try simp only [Act.put, pS, pZ, pC]))
                (refine wpMix_bar (by rfl) (fun K hK => ?_); go_simp)
                refine (pick_at 3 S119.out.r rfl (by omega) (by omega) (by omega)).mono ?_; rintro e u124 ⟨rb, rfl, hrb, v126, o125⟩
                have S127 := qh (S119.out.only o125 v126)
                have X120' := qh (show OwI u124 _ b121 xs122 from ⟨X120.out.1, o125.blk X120.out.2 (by have := X120.out.1; have := S98.out.r.lt; omega)⟩)
                clear o125 v126
                ((try dsimp only); refine nxK hK _ _ (trivial) ?_; clear hK K; (try simp only [Act.put, pS, pZ, pC]))
                repeat ((first | refine wpMix_skip (by rfl) (by rfl) ?_ | (refine wpMix_take (v := ?_) (by rfl) (by rfl) (fun wS hSt => ?_) ?_; rotate_left; (focus ((try dsimp only at hSt); (go_simp <;> with_reducible rfl); done)))); (try simp only [Act.put, pS, pZ, pC]))
                have HX := X120'.out.rd (by rw [X120L.out]; omega)
                rw [X120L.out] at HX
                have HXh := qh HX
                clear HX
                (refine wpMix_bar (by rfl) (fun K hK => ?_); go_simp)
                refine (clusterArrive_any A1 A2 _ m1 c1 m2 c2 3 3 room us (1 + (ra : Int)) xs122 _ _ S127.out.oc.rd (Hsh.out.shU (by omega)) (by omega) HXh.out (Nat.le_refl 3)).mono ?_; rintro e u128 ⟨B3, m3, d3, B4, m4, d4, rfl, OC131h, b129⟩
                have S130 := qh (S127.out.below b129)
                have OC131 := qh (OC131h.low S127.out.o.size)
                clear b129 OC131h
                ((try dsimp only); refine nxK hK _ _ (trivial) ?_; clear hK K; (try simp only [Act.put, pS, pZ, pC]))
                repeat ((first | refine wpMix_skip (by rfl) (by rfl) ?_ | (refine wpMix_take (v := ?_) (by rfl) (by rfl) (fun wS hSt => ?_) ?_; rotate_left; (focus ((try dsimp only at hSt); (go_simp <;> with_reducible rfl); done)))); (try simp only [Act.put, pS, pZ, pC]))
                have q0 := S130.out.cells.1
                have q1 := S130.out.cells.2.1
                have q2 := S130.out.cells.2.2.1
                have q3 := S130.out.cells.2.2.2
                (refine wpMix_bar (by rfl) (fun K hK => ?_); go_simp)
                have S132 := qh (S130.out.put OC131.out)
                clear q0 q1 q2 q3
                ((try dsimp only); refine nxK hK _ _ (trivial) ?_; clear hK K; (try simp only [Act.put, pS, pZ, pC]))
                generalize (u128.setCell ⟨C, 0, none⟩ (.slice B3 m3 d3)).setCell ⟨C, 1, none⟩ (.slice B4 m4 d4) = wz at S132 ⊢
                refine wpMix_nil ?_
                go_wp2_with fail
                go_roundw
                case rel => exact ⟨k + 1, _, _, _, _, _, _, _, _, _, by go_num, by omega, by omega, S132.out, cavP_sh room us (1 + (ra : Int)) xs122 _⟩
                case measure => simp [intOf]; omega
              · go_simp
                refine (pick_at 3 S119.out.r rfl (by omega) (by omega) (by omega)).mono ?_; rintro e u133 ⟨rb, rfl, hrb, v135, o134⟩
                have S136 := qh (S119.out.only o134 v135)
                have X120' := qh (show OwI u133 _ b121 xs122 from ⟨X120.out.1, o134.blk X120.out.2 (by have := X120.out.1; have := S98.out.r.lt; omega)⟩)
                clear o134 v135
                ((try dsimp only); refine nxK hK _ _ (trivial) ?_; clear hK K; (try simp only [Act.put, pS, pZ, pC]))
                repeat ((first | refine wpMix_skip (by rfl) (by rfl) ?_ | (refine wpMix_take (v := ?_) (by rfl) (by rfl) (fun wS hSt => ?_) ?_; rotate_left; (focus ((try dsimp only at hSt); (go_simp <;> with_reducible rfl); done)))); (try simp only [Act.put, pS, pZ, pC]))
                have q0 := S136.out.cells.1
                have q1 := S136.out.cells.2.1
                (refine wpMix_bar (by rfl) (fun K hK => ?_); go_simp)
                clear q0 q1
                ((try dsimp only); refine nxK hK _ _ (trivial) ?_; clear hK K; (try simp only [Act.put, pS, pZ, pC]))
                have HX := X120'.out.rd (by rw [X120L.out]; omega)
                rw [X120L.out] at HX
                have HXh := qh HX
                clear HX
                (refine wpMix_bar (by rfl) (fun K hK => ?_); go_simp)
                refine (clusterArrive_any A1 A2 _ m1 c1 m2 c2 3 3 room us (1 + (ra : Int)) xs122 _ _ S136.out.oc.rd (Hsh.out.shU (by omega)) (by omega) HXh.out (Nat.le_refl 3)).mono ?_; rintro e u137 ⟨B3, m3, d3, B4, m4, d4, rfl, OC140h, b138⟩
                have S139 := qh (S136.out.below b138)
                have OC140 := qh (OC140h.low S136.out.o.size)
                clear b138 OC140h
                ((try dsimp only); refine nxK hK _ _ (trivial) ?_; clear hK K; (try simp only [Act.put, pS, pZ, pC]))
                repeat ((first | refine wpMix_skip (by rfl) (by rfl) ?_ | (refine wpMix_take (v := ?_) (by rfl) (by rfl) (fun wS hSt => ?_) ?_; rotate_left; (focus ((try dsimp only at hSt); (go_simp <;> with_reducible rfl); done)))); (try simp only [Act.put, pS, pZ, pC]))
                have q0 := S139.out.cells.1
                have q1 := S139.out.cells.2.1
                have q2 := S139.out.cells.2.2.1
                have q3 := S139.out.cells.2.2.2
                (refine wpMix_bar (by rfl) (fun K hK => ?_); go_simp)
                have S141 := qh (S139.out.put OC140.out)
                clear q0 q1 q2 q3
                ((try dsimp only); refine nxK hK _ _ (trivial) ?_; clear hK K; (try simp only [Act.put, pS, pZ, pC]))
                generalize (u137.setCell ⟨C, 0, none⟩ (.slice B3 m3 d3)).setCell ⟨C, 1, none⟩ (.slice B4 m4 d4) = wz at S141 ⊢
                refine wpMix_nil ?_
                go_wp2_with fail
                go_roundw
                case rel => exact ⟨k + 1, _, _, _, _, _, _, _, _, _, by go_num, by omega, by omega, S141.out, cavP_sh room us (1 + (ra : Int)) xs122 _⟩
                case measure => simp [intOf]; omega
    · have hq' : q ≤ p + 143 := by omega
      have q0 := S0.out.cells.1
      have q1 := S0.out.cells.2.1
      by_cases hm : 0 < m2
      · go_wp2_with fail
        refine (pick_at m2 S0.out.r rfl (by omega) (by omega) (by have := Hsh.out.2.1; have := S0.out.len; omega)).mono ?_; rintro e wb ⟨k, rfl, hkl, rb, ob⟩
        have Sb := qh (S0.out.only ob rb)
        clear rb ob S0 q0 q1
        go_wp2_with fail
        refine (pick_at 40 Sb.out.r rfl (by omega) (by omega) (by omega)).mono ?_; rintro e wc ⟨r, rfl, hr, rc, oc⟩
        have Sc := qh (Sb.out.only oc rc)
        clear rc oc Sb
        have k1 : (0 : Int) ≤ (k : Int) := by omega
        have k2 : (k : Int) < (m2 : Int) := by omega
        have k3 : 0 ≤ (k : Int) * 2 := by omega
        by_cases h0 : r = 0
        · subst h0
          have S8 := qh Sc.out.drew
          clear Sc
          go_wp2_with fail
          obtain ⟨gu, vs, tk, rfl, hr, hU, hN, hgu1, hgu2, hne, hnz, u1, u2, f1, f2, cs, hbU⟩ := S8.out.row hkl
          have S9 := qh (ClW.setU (v := .bool (!(us[k]?.getD (false, [])).1)) S8.out.c S8.out.z S8.out.o S8.out.r S8.out.lc S8.out.lz S8.out.ne S8.out.lg hbU hgu1 hne hnz hr hU (hN.open_ hkl))
          have K0 := S8.out.cells.2.1
          have KC := qh S9.out.cells.2.1
          clear hr hU hN hbU u2 f2
          generalize (us[k]?.getD (false, [])).1 = uo at S9 KC u1
          refine wp_region_mix (.take 0 (.take 1 (.take 2 (.take 3 (.take 4 (.take 5 (.take 6 (.take 7 (.bar 8 (.take 9 (.take 10 (.take 11 (.bar 12 .nil))))))))))))) (fun w' => w'.cell? ⟨C, 1, none⟩ = some (.slice (some ⟨gu, 0, none⟩) m2 c2)) (by kernel_rfl) (by kernel_rfl) K0 (fun _ => ?_)
          repeat ((first | refine wpMix_skip (by rfl) (by rfl) ?_ | (refine wpMix_take (v := ?_) (by rfl) (by rfl) (fun wS hSt => ?_) ?_; rotate_left; (focus ((try dsimp only at hSt); (go_simp <;> with_reducible rfl); done)))); (try simp only [Act.put, pS, pZ, pC]))
          generalize wc.drew = wd at S8 S9 KC u1 f1 K0 ⊢
          (refine wpMix_bar (by rfl) (fun K hK => ?_); go_simp)
          ((try dsimp only); refine nxK hK _ _ (K0) ?_; clear hK K; (try simp only [Act.put, pS, pZ, pC]))
          repeat ((first | refine wpMix_skip (by rfl) (by rfl) ?_ | (refine wpMix_take (v := ?_) (by rfl) (by rfl) (fun wS hSt => ?_) ?_; rotate_left; (focus ((try dsimp only at hSt); (go_simp <;> with_reducible rfl); done)))); (try simp only [Act.put, pS, pZ, pC]))
          (refine wpMix_bar (by rfl) (fun K hK => ?_); go_simp)
          ((try dsimp only); refine nxK hK _ _ (KC.out) ?_; clear hK K; (try simp only [Act.put, pS, pZ, pC]))
          refine wpMix_nil ?_
          clear u1 f1 K0 KC S8
          generalize wd.setCell ⟨gu, k * 2, none⟩ (.bool (!uo)) = we at S9 ⊢
          have Hs9 := qh (Hsh.out.set_ (op := !uo) k (Hsh.out.at_ k))
          have x0 := S9.out.z.cell 0
          have x1 := S9.out.z.cell 1
          have x2 := S9.out.z.frozen 0
          have x3 := S9.out.z.frozen 1
          have p0 := S9.out.cells.1
          have p1 := S9.out.cells.2.1
          simp only [gT, gZ, gS] at x0 x1
          go_wp2_with fail
          have KT := (KeepTU.set_ S9.out.z (by decide) (by decide) (by decide) 0 (.slice A1 m1 c1)).trans (KeepTU.set_ (S9.out.z.set_ 0 (.slice A1 m1 c1)) (by decide) (by decide) (by decide) 1 (.slice (some ⟨gu, 0, none⟩) m2 c2))
          have EQ := qh ((S9.out.z.set_ 0 (.slice A1 m1 c1)).set_ 1 (.slice (some ⟨gu, 0, none⟩) m2 c2))
          have OC := qh (S9.out.oc.keepTU KT)
          have O9 := qh ((S9.out.o.set_new (p := ⟨w.heap.size, 0, none⟩) (Nat.le_refl _) (.slice A1 m1 c1)).set_new (p := ⟨w.heap.size, 1, none⟩) (Nat.le_refl _) (.slice (some ⟨gu, 0, none⟩) m2 c2))
          have R9 := qh ((S9.out.r.keep (fun b hb => Below.heap_setCell _ ⟨w.heap.size, 0, none⟩ (.slice A1 m1 c1) _ (by show b ≠ w.heap.size; omega))).keep (fun b hb => Below.heap_setCell _ ⟨w.heap.size, 1, none⟩ (.slice (some ⟨gu, 0, none⟩) m2 c2) _ (by show b ≠ w.heap.size; omega)))
          clear KT
          generalize World.setCell (World.setCell we ⟨w.heap.size, 0, none⟩ (.slice A1 m1 c1)) ⟨w.heap.size, 1, none⟩ (.slice (some ⟨gu, 0, none⟩) m2 c2) = w9 at EQ OC O9 R9 ⊢
          have z0 : w9.cell? ⟨w.heap.size, 0, none⟩ = some (.slice A1 m1 c1) := EQ.out.cell 0
          have z1 : w9.cell? ⟨w.heap.size, 1, none⟩ = some (.slice (some ⟨gu, 0, none⟩) m2 c2) := EQ.out.cell 1
          have lr := (Hs9.out).room_le
          have ll := OC.out.len
          refine bodyPost_ret (v := .agg #[(.slice A1 m1 c1), (.slice (some ⟨gu, 0, none⟩) m2 c2)]) (by simp [results, Tryz.results44, go_sem, z0, z1]) rfl (by unfold DrawnCl; exact ⟨_, _, _, _, _, _, _, _, rfl, fun u hk => (OC.out.keepTU hk).rd, (Hs9.out).shU (by omega), by omega, ll.2.2.1, ll.2.2.2, O9.out, _, by omega, R9.out⟩)
        · have x0 : ((r : Int) == 0) = false := by simpa using h0
          by_cases h1 : r = 1
          · subst h1
            clear x0
            have S8 := qh Sc.out.drew
            clear Sc
            go_wp2_with fail
            obtain ⟨gu, vs, tk, rfl, hr, hU, hN, hgu1, hgu2, hne, hnz, u1, u2, f1, f2, cs, hbU⟩ := S8.out.row hkl
            obtain ⟨_, _, At, mt, ct, vt, e3, e4, e5⟩ := hN.2.2.1 k hkl
            have hlt : mt ≤ 15 := by have := (Hsh.out.at_ k).1; have := e5.1; omega
            have HL8 := u2
            rw [e3] at HL8
            have Htk := qh e3
            have M8 := qh hr
            have U8 := qh hU
            have N8 := qh hN
            have R8 := qh e4
            have V8 := qh e5
            have O8 := qh (OnlyG.refl wc.drew g)
            have K0 := S8.out.cells.2.1
            clear hr hU hN hbU u1 u2 f1 f2 e3 e4 e5
            refine wp_region_mix (.take 0 (.take 1 (.take 2 (.take 3 (.take 4 (.take 5 (.take 6 (.take 7 (.take 9 (.take 10 (.fork 8 (.bar 11 (.take 12 (.bar 13 (.bar 14 (.bar 15 (.take 16 (.take 17 (.bar 18 (.nil))))))))) 11 (.take 12 (.fork 8 (.bar 13 (.bar 14 (.bar 15 (.take 16 (.take 17 (.bar 18 (.nil))))))) 13 (.fork 8 (.bar 14 (.bar 15 (.take 16 (.take 17 (.bar 18 (.nil)))))) 14 (.bar 8 (.bar 15 (.take 16 (.take 17 (.bar 18 (.nil)))))))))))))))))))) (fun w' => w'.cell? ⟨C, 1, none⟩ = some (.slice (some ⟨gu, 0, none⟩) m2 c2)) (by kernel_rfl) (by kernel_rfl) K0 (fun _ => ?_)
            repeat ((first | refine wpMix_skip (by rfl) (by rfl) ?_ | (refine wpMix_take (v := ?_) (by rfl) (by rfl) (fun wS hSt => ?_) ?_; rotate_left; (focus ((try dsimp only at hSt); (go_simp <;> with_reducible rfl); done)))); (try simp only [Act.put, pS, pZ, pC]))
            generalize wc.drew = u0 at K0 HL8 S8 M8 U8 N8 R8 V8 O8 hgu2 ⊢
            have SS := qh S8.out
            have OO := qh O8.out
            refine wpMix_fork (by rfl) (by rfl) (fun K hK => ?_) (fun K hK => ?_)
            · have q1 := (OO.out.cell (p := ⟨gu, k * 2 + 1, none⟩) hgu2 (by show gu ≠ g; omega)).trans HL8
              go_simp
              clear q1
              ((try dsimp only); refine nxK hK _ _ (SS.out.cells.2.1) ?_; clear hK K; (try simp only [Act.put, pS, pZ, pC]))
              (refine wpMix_bar (by rfl) (fun K hK => ?_); go_simp)
              refine (pick_at 14 SS.out.r rfl (by omega) (by omega) (by omega)).mono ?_; rintro e u21 ⟨ra, rfl, hra, v25, o24⟩
              have S22 := qh (SS.out.only o24 v25)
              have O23 := qh (OO.out.trans o24)
              clear o24 v25
              have va : IntKind.i64.wrap (1 + (ra : Int)) = 1 + (ra : Int) := wr64 (by omega) (by omega)
              ((try dsimp only); refine nxK hK _ _ (S22.out.cells.2.1) ?_; clear hK K; (try simp only [Act.put, pS, pZ, pC]))
              repeat ((first | refine wpMix_skip (by rfl) (by rfl) ?_ | (refine wpMix_take (v := ?_) (by rfl) (by rfl) (fun wS hSt => ?_) ?_; rotate_left; (focus ((try dsimp only at hSt); (go_simp <;> with_reducible rfl); done)))); (try simp only [Act.put, pS, pZ, pC]))
              (refine wpMix_bar (by rfl) (fun K hK => ?_); go_simp)
              refine (l91Task_any g _ (1 + (ra : Int)) _ S22.out.r (by omega)).mono ?_; rintro e u26 ⟨bx, xs, rfl, hxw, hxl, _, o29, qx, hqx, v30⟩
              have S27 := qh (S22.out.only o29 v30)
              have O28 := qh (O23.out.trans o29)
              have X0 := qh (own_lo (OwI.own hxw hxl) S22.out.o.size)
              have XL := qh hxl
              clear o29 v30 hxw hxl
              ((try dsimp only); refine nxK hK _ _ (S27.out.cells.2.1) ?_; clear hK K; (try simp only [Act.put, pS, pZ, pC]))
              have S31 := qh (S27.out.below (alloc_up u26 (.cells #[.int .i64 (1 + (ra : Int)), .slice (some ⟨bx, 0, none⟩) 3 3] 43)))
              have O32 := qh (O28.out.alloc (.cells #[.int .i64 (1 + (ra : Int)), .slice (some ⟨bx, 0, none⟩) 3 3] 43))
              have X1 := qh (own_alloc X0.out (.cells #[.int .i64 (1 + (ra : Int)), .slice (some ⟨bx, 0, none⟩) 3 3] 43))
              have X3 := qh (lit2 u26 43 (.int .i64 (1 + (ra : Int))) (.slice (some ⟨bx, 0, none⟩) 3 3))
              (refine wpMix_bar (by rfl) (fun K hK => ?_); go_simp)
              ((try dsimp only); refine nxK hK _ _ (S31.out.cells.2.1) ?_; clear hK K; (try simp only [Act.put, pS, pZ, pC]))
              clear X0 S27 O28
              generalize u26.heap.size = gx at X3 ⊢
              generalize u26.alloc (.cells #[.int .i64 (1 + (ra : Int)), .slice (some ⟨bx, 0, none⟩) 3 3] 43) = u3 at S31 O32 X1 X3 ⊢
              have KT := keepTU_rdr S8.out.r O32.out
              have N3 := qh (N8.out.keepTI KT.ti)
              have R3 := qh (own_keepTI R8.out (.inr rfl) KT.ti)
              have V3 := qh (V8.out.keepTI KT.ti)
              have M3 := qh (own_keepTI M8.out (.inl rfl) KT.ti)
              have U3 := qh (own_keepB U8.out (fun b cs _ hc => KT b ⟨_, cs, .inr (.inr rfl), hc⟩))
              have z3 := S31.out.o.size
              clear KT
              refine wpMix_bar (by rfl) (fun K hK => ?_)
              rw [if_pos (by rfl)]
              refine wp_append_src _ _ _ 27 (by rfl) w.heap.size 43 t0 _ 2 32 Tryz.underlying27 ht0 htz0 htz1 htz2 rfl (by omega) (.slice At mt ct) mt vt (by rfl) R3.out (some ⟨gx, 0, none⟩) 1 1 [.int .i64 (1 + (ra : Int)), .slice (some ⟨bx, 0, none⟩) 3 3] (by rfl) X3.out (one2 _ _ rfl rfl) (by unfold maxLen; omega) (by omega) (by omega) ?_
              intro v6 u4 hown6 hgrow6 hrow6
              obtain ⟨A9, c9, rfl⟩ := own_shape hown6
              have R4 := qh hown6
              have E4 := own_keep X1.out (fun b hb => hgrow6.block b (X1.out.lt b hb).2 (fun e => own_types R3.out X1.out (by decide) e.symm hb))
              have V4 := qh ((V3.out.grown R3.out (by decide) hgrow6).snoc (id := 1 + (ra : Int)) (xs := xs) E4)
              have N4 := qh (N3.out.grow hkl (by rw [Htk.out]; exact hgrow6) R4.out V4.out (by rw [Htk.out]; exact hrow6))
              have M4 := qh (own_keep M3.out (fun b hb => hgrow6.block b (M3.out.lt b hb).2 (fun e => own_types R3.out M3.out (by decide) e.symm hb)))
              have U4 := qh (own_keep U3.out (fun b hb => hgrow6.block b (U3.out.lt b hb).2 (fun e => own_types R3.out U3.out (by decide) e.symm hb)))
              have C4 := qh (S31.out.c.grown hgrow6 (fun e => own_blk_ne R3.out S31.out.c (by decide) e.symm))
              have Z4 := qh (S31.out.z.grown hgrow6 (fun e => own_blk_ne R3.out S31.out.z (by decide) e.symm))
              have O4 := qh (S31.out.o.grown hgrow6 (fun r hr => (R3.out.lt r hr).1))
              have Rd4 := qh (S31.out.r.keep (fun b hb => hgrow6.block b (by have := S31.out.r.lt; omega) (fun e => by have := (R3.out.lt b e.symm).1; have := S31.out.lg; omega)))
              have lcz := S31.out.lc
              have lzz := S31.out.lz
              have lne := S31.out.ne
              have K4 : u4.cell? ⟨C, 1, none⟩ = some (.slice (some ⟨gu, 0, none⟩) m2 c2) := C4.out.cell 1
              clear hown6 hgrow6 hrow6 E4 R3 X1 X3 N3 V3 M3 U3 S31 O32
              ((try dsimp only); refine nxK hK _ _ (K4) ?_; clear hK K; (try simp only [Act.put, pS, pZ, pC]))
              repeat ((first | refine wpMix_skip (by rfl) (by rfl) ?_ | (refine wpMix_take (v := ?_) (by rfl) (by rfl) (fun wS hSt => ?_) ?_; rotate_left; (focus ((try dsimp only at hSt); (go_simp <;> with_reducible rfl); done)))); (try simp only [Act.put, pS, pZ, pC]))
              have u1 := U4.out.cells (g := gu) rfl (k * 2 + 1) (tk k) (N8.out.2.2.1 k hkl).2.1
              rw [addr_add, Nat.zero_add, Htk.out] at u1
              have f1 := U4.out.frozenAt (k * 2 + 1)
              (refine wpMix_bar (by rfl) (fun K hK => ?_); go_simp)
              clear u1 f1 K4
              obtain ⟨_, curU, eU, _, hbU⟩ := own_row U4.out (by omega)
              injection eU with eU
              injection eU with eU
              subst eU
              have S9 := qh (ClW.setU C4.out Z4.out O4.out Rd4.out lcz lzz lne lg hbU hgu1 hne hnz M4.out U4.out N4.out)
              clear hbU C4 Z4 O4 Rd4 M4 U4 N4 V4 R4
              ((try dsimp only); refine nxK hK _ _ (S9.out.cells.2.1) ?_; clear hK K; (try simp only [Act.put, pS, pZ, pC]))
              generalize u4.setCell ⟨gu, k * 2 + 1, none⟩ (.slice A9 (mt + 1) c9) = we at S9 ⊢
              have Hs9 := qh ((Hsh.out.more (show 15 ≤ 16 by omega)).set_ (op := (us[k]?.getD (false, [])).1) k (T := (us[k]?.getD (false, [])).2 ++ [(1 + (ra : Int), xs)]) ⟨by rw [List.length_append, List.length_singleton]; have := (Hsh.out.at_ k).1; omega, fun t ht => by
                rcases List.mem_append.1 ht with ht | ht
                · exact (Hsh.out.at_ k).2 t ht
                · rw [List.mem_singleton.1 ht]; exact Nat.le_of_eq XL.out⟩)
              refine wpMix_nil ?_
              have x0 := S9.out.z.cell 0
              have x1 := S9.out.z.cell 1
              have x2 := S9.out.z.frozen 0
              have x3 := S9.out.z.frozen 1
              have p0 := S9.out.cells.1
              have p1 := S9.out.cells.2.1
              simp only [gT, gZ, gS] at x0 x1
              go_wp2_with fail
              have KT := (KeepTU.set_ S9.out.z (by decide) (by decide) (by decide) 0 (.slice A1 m1 c1)).trans (KeepTU.set_ (S9.out.z.set_ 0 (.slice A1 m1 c1)) (by decide) (by decide) (by decide) 1 (.slice (some ⟨gu, 0, none⟩) m2 c2))
              have EQ := qh ((S9.out.z.set_ 0 (.slice A1 m1 c1)).set_ 1 (.slice (some ⟨gu, 0, none⟩) m2 c2))
              have OC := qh (S9.out.oc.keepTU KT)
              have O9 := qh ((S9.out.o.set_new (p := ⟨w.heap.size, 0, none⟩) (Nat.le_refl _) (.slice A1 m1 c1)).set_new (p := ⟨w.heap.size, 1, none⟩) (Nat.le_refl _) (.slice (some ⟨gu, 0, none⟩) m2 c2))
              have R9 := qh ((S9.out.r.keep (fun b hb => Below.heap_setCell _ ⟨w.heap.size, 0, none⟩ (.slice A1 m1 c1) _ (by show b ≠ w.heap.size; omega))).keep (fun b hb => Below.heap_setCell _ ⟨w.heap.size, 1, none⟩ (.slice (some ⟨gu, 0, none⟩) m2 c2) _ (by show b ≠ w.heap.size; omega)))
              clear KT
              generalize World.setCell (World.setCell we ⟨w.heap.size, 0, none⟩ (.slice A1 m1 c1)) ⟨w.heap.size, 1, none⟩ (.slice (some ⟨gu, 0, none⟩) m2 c2) = w9 at EQ OC O9 R9 ⊢
              have z0 : w9.cell? ⟨w.heap.size, 0, none⟩ = some (.slice A1 m1 c1) := EQ.out.cell 0
              have z1 : w9.cell? ⟨w.heap.size, 1, none⟩ = some (.slice (some ⟨gu, 0, none⟩) m2 c2) := EQ.out.cell 1
              have lr := (Hs9.out).room_le
              have ll := OC.out.len
              refine bodyPost_ret (v := .agg #[(.slice A1 m1 c1), (.slice (some ⟨gu, 0, none⟩) m2 c2)]) (by simp [results, Tryz.results44, go_sem, z0, z1]) rfl (by unfold DrawnCl; exact ⟨_, _, _, _, _, _, _, _, rfl, fun u hk => (OC.out.keepTU hk).rd, (Hs9.out).shU (by omega), by omega, ll.2.2.1, ll.2.2.2, O9.out, _, by omega, R9.out⟩)
            · go_simp
              refine (pick_at 14 SS.out.r rfl (by omega) (by omega) (by omega)).mono ?_; rintro e u33 ⟨ra, rfl, hra, v37, o36⟩
              have S34 := qh (SS.out.only o36 v37)
              have O35 := qh (OO.out.trans o36)
              clear o36 v37
              have va : IntKind.i64.wrap (1 + (ra : Int)) = 1 + (ra : Int) := wr64 (by omega) (by omega)
              ((try dsimp only); refine nxK hK _ _ (S34.out.cells.2.1) ?_; clear hK K; (try simp only [Act.put, pS, pZ, pC]))
              repeat ((first | refine wpMix_skip (by rfl) (by rfl) ?_ | (refine wpMix_take (v := ?_) (by rfl) (by rfl) (fun wS hSt => ?_) ?_; rotate_left; (focus ((try dsimp only at hSt); (go_simp <;> with_reducible rfl); done)))); (try simp only [Act.put, pS, pZ, pC]))
              refine wpMix_fork (by rfl) (by rfl) (fun K hK => ?_) (fun K hK => ?_)
              · have q1 := (O35.out.cell (p := ⟨gu, k * 2 + 1, none⟩) hgu2 (by show gu ≠ g; omega)).trans HL8
                go_simp
                clear q1
                ((try dsimp only); refine nxK hK _ _ (S34.out.cells.2.1) ?_; clear hK K; (try simp only [Act.put, pS, pZ, pC]))
                (refine wpMix_bar (by rfl) (fun K hK => ?_); go_simp)
                refine (l91Task_any g _ (1 + (ra : Int)) _ S34.out.r (by omega)).mono ?_; rintro e u38 ⟨bx, xs, rfl, hxw, hxl, _, o41, qx, hqx, v42⟩
                have S39 := qh (S34.out.only o41 v42)
                have O40 := qh (O35.out.trans o41)
                have X0 := qh (own_lo (OwI.own hxw hxl) S34.out.o.size)
                have XL := qh hxl
                clear o41 v42 hxw hxl
                ((try dsimp only); refine nxK hK _ _ (S39.out.cells.2.1) ?_; clear hK K; (try simp only [Act.put, pS, pZ, pC]))
                have S43 := qh (S39.out.below (alloc_up u38 (.cells #[.int .i64 (1 + (ra : Int)), .slice (some ⟨bx, 0, none⟩) 3 3] 43)))
                have O44 := qh (O40.out.alloc (.cells #[.int .i64 (1 + (ra : Int)), .slice (some ⟨bx, 0, none⟩) 3 3] 43))
                have X1 := qh (own_alloc X0.out (.cells #[.int .i64 (1 + (ra : Int)), .slice (some ⟨bx, 0, none⟩) 3 3] 43))
                have X3 := qh (lit2 u38 43 (.int .i64 (1 + (ra : Int))) (.slice (some ⟨bx, 0, none⟩) 3 3))
                (refine wpMix_bar (by rfl) (fun K hK => ?_); go_simp)
                ((try dsimp only); refine nxK hK _ _ (S43.out.cells.2.1) ?_; clear hK K; (try simp only [Act.put, pS, pZ, pC]))
                clear X0 S39 O40
                generalize u38.heap.size = gx at X3 ⊢
                generalize u38.alloc (.cells #[.int .i64 (1 + (ra : Int)), .slice (some ⟨bx, 0, none⟩) 3 3] 43) = u3 at S43 O44 X1 X3 ⊢
                have KT := keepTU_rdr S8.out.r O44.out
                have N3 := qh (N8.out.keepTI KT.ti)
                have R3 := qh (own_keepTI R8.out (.inr rfl) KT.ti)
                have V3 := qh (V8.out.keepTI KT.ti)
                have M3 := qh (own_keepTI M8.out (.inl rfl) KT.ti)
                have U3 := qh (own_keepB U8.out (fun b cs _ hc => KT b ⟨_, cs, .inr (.inr rfl), hc⟩))
                have z3 := S43.out.o.size
                clear KT
                refine wpMix_bar (by rfl) (fun K hK => ?_)
                rw [if_pos (by rfl)]
                refine wp_append_src _ _ _ 27 (by rfl) w.heap.size 43 t0 _ 2 32 Tryz.underlying27 ht0 htz0 htz1 htz2 rfl (by omega) (.slice At mt ct) mt vt (by rfl) R3.out (some ⟨gx, 0, none⟩) 1 1 [.int .i64 (1 + (ra : Int)), .slice (some ⟨bx, 0, none⟩) 3 3] (by rfl) X3.out (one2 _ _ rfl rfl) (by unfold maxLen; omega) (by omega) (by omega) ?_
                intro v6 u4 hown6 hgrow6 hrow6
                obtain ⟨A9, c9, rfl⟩ := own_shape hown6
                have R4 := qh hown6
                have E4 := own_keep X1.out (fun b hb => hgrow6.block b (X1.out.lt b hb).2 (fun e => own_types R3.out X1.out (by decide) e.symm hb))
                have V4 := qh ((V3.out.grown R3.out (by decide) hgrow6).snoc (id := 1 + (ra : Int)) (xs := xs) E4)
                have N4 := qh (N3.out.grow hkl (by rw [Htk.out]; exact hgrow6) R4.out V4.out (by rw [Htk.out]; exact hrow6))
                have M4 := qh (own_keep M3.out (fun b hb => hgrow6.block b (M3.out.lt b hb).2 (fun e => own_types R3.out M3.out (by decide) e.symm hb)))
                have U4 := qh (own_keep U3.out (fun b hb => hgrow6.block b (U3.out.lt b hb).2 (fun e => own_types R3.out U3.out (by decide) e.symm hb)))
                have C4 := qh (S43.out.c.grown hgrow6 (fun e => own_blk_ne R3.out S43.out.c (by decide) e.symm))
                have Z4 := qh (S43.out.z.grown hgrow6 (fun e => own_blk_ne R3.out S43.out.z (by decide) e.symm))
                have O4 := qh (S43.out.o.grown hgrow6 (fun r hr => (R3.out.lt r hr).1))
                have Rd4 := qh (S43.out.r.keep (fun b hb => hgrow6.block b (by have := S43.out.r.lt; omega) (fun e => by have := (R3.out.lt b e.symm).1; have := S43.out.lg; omega)))
                have lcz := S43.out.lc
                have lzz := S43.out.lz
                have lne := S43.out.ne
                have K4 : u4.cell? ⟨C, 1, none⟩ = some (.slice (some ⟨gu, 0, none⟩) m2 c2) := C4.out.cell 1
                clear hown6 hgrow6 hrow6 E4 R3 X1 X3 N3 V3 M3 U3 S43 O44
                ((try dsimp only); refine nxK hK _ _ (K4) ?_; clear hK K; (try simp only [Act.put, pS, pZ, pC]))
                repeat ((first | refine wpMix_skip (by rfl) (by rfl) ?_ | (refine wpMix_take (v := ?_) (by rfl) (by rfl) (fun wS hSt => ?_) ?_; rotate_left; (focus ((try dsimp only at hSt); (go_simp <;> with_reducible rfl); done)))); (try simp only [Act.put, pS, pZ, pC]))
                have u1 := U4.out.cells (g := gu) rfl (k * 2 + 1) (tk k) (N8.out.2.2.1 k hkl).2.1
                rw [addr_add, Nat.zero_add, Htk.out] at u1
                have f1 := U4.out.frozenAt (k * 2 + 1)
                (refine wpMix_bar (by rfl) (fun K hK => ?_); go_simp)
                clear u1 f1 K4
                obtain ⟨_, curU, eU, _, hbU⟩ := own_row U4.out (by omega)
                injection eU with eU
                injection eU with eU
                subst eU
                have S9 := qh (ClW.setU C4.out Z4.out O4.out Rd4.out lcz lzz lne lg hbU hgu1 hne hnz M4.out U4.out N4.out)
                clear hbU C4 Z4 O4 Rd4 M4 U4 N4 V4 R4
                ((try dsimp only); refine nxK hK _ _ (S9.out.cells.2.1) ?_; clear hK K; (try simp only [Act.put, pS, pZ, pC]))
                generalize u4.setCell ⟨gu, k * 2 + 1, none⟩ (.slice A9 (mt + 1) c9) = we at S9 ⊢
                have Hs9 := qh ((Hsh.out.more (show 15 ≤ 16 by omega)).set_ (op := (us[k]?.getD (false, [])).1) k (T := (us[k]?.getD (false, [])).2 ++ [(1 + (ra : Int), xs)]) ⟨by rw [List.length_append, List.length_singleton]; have := (Hsh.out.at_ k).1; omega, fun t ht => by
                  rcases List.mem_append.1 ht with ht | ht
                  · exact (Hsh.out.at_ k).2 t ht
                  · rw [List.mem_singleton.1 ht]; exact Nat.le_of_eq XL.out⟩)
                refine wpMix_nil ?_
                have x0 := S9.out.z.cell 0
                have x1 := S9.out.z.cell 1
                have x2 := S9.out.z.frozen 0
                have x3 := S9.out.z.frozen 1
                have p0 := S9.out.cells.1
                have p1 := S9.out.cells.2.1
                simp only [gT, gZ, gS] at x0 x1
                go_wp2_with fail
                have KT := (KeepTU.set_ S9.out.z (by decide) (by decide) (by decide) 0 (.slice A1 m1 c1)).trans (KeepTU.set_ (S9.out.z.set_ 0 (.slice A1 m1 c1)) (by decide) (by decide) (by decide) 1 (.slice (some ⟨gu, 0, none⟩) m2 c2))
                have EQ := qh ((S9.out.z.set_ 0 (.slice A1 m1 c1)).set_ 1 (.slice (some ⟨gu, 0, none⟩) m2 c2))
                have OC := qh (S9.out.oc.keepTU KT)
                have O9 := qh ((S9.out.o.set_new (p := ⟨w.heap.size, 0, none⟩) (Nat.le_refl _) (.slice A1 m1 c1)).set_new (p := ⟨w.heap.size, 1, none⟩) (Nat.le_refl _) (.slice (some ⟨gu, 0, none⟩) m2 c2))
                have R9 := qh ((S9.out.r.keep (fun b hb => Below.heap_setCell _ ⟨w.heap.size, 0, none⟩ (.slice A1 m1 c1) _ (by show b ≠ w.heap.size; omega))).keep (fun b hb => Below.heap_setCell _ ⟨w.heap.size, 1, none⟩ (.slice (some ⟨gu, 0, none⟩) m2 c2) _ (by show b ≠ w.heap.size; omega)))
                clear KT
                generalize World.setCell (World.setCell we ⟨w.heap.size, 0, none⟩ (.slice A1 m1 c1)) ⟨w.heap.size, 1, none⟩ (.slice (some ⟨gu, 0, none⟩) m2 c2) = w9 at EQ OC O9 R9 ⊢
                have z0 : w9.cell? ⟨w.heap.size, 0, none⟩ = some (.slice A1 m1 c1) := EQ.out.cell 0
                have z1 : w9.cell? ⟨w.heap.size, 1, none⟩ = some (.slice (some ⟨gu, 0, none⟩) m2 c2) := EQ.out.cell 1
                have lr := (Hs9.out).room_le
                have ll := OC.out.len
                refine bodyPost_ret (v := .agg #[(.slice A1 m1 c1), (.slice (some ⟨gu, 0, none⟩) m2 c2)]) (by simp [results, Tryz.results44, go_sem, z0, z1]) rfl (by unfold DrawnCl; exact ⟨_, _, _, _, _, _, _, _, rfl, fun u hk => (OC.out.keepTU hk).rd, (Hs9.out).shU (by omega), by omega, ll.2.2.1, ll.2.2.2, O9.out, _, by omega, R9.out⟩)
              · go_simp
                refine (l91Task_any g _ (1 + (ra : Int)) _ S34.out.r (by omega)).mono ?_; rintro e u45 ⟨bx, xs, rfl, hxw, hxl, _, o48, qx, hqx, v49⟩
                have S46 := qh (S34.out.only o48 v49)
                have O47 := qh (O35.out.trans o48)
                have X0 := qh (own_lo (OwI.own hxw hxl) S34.out.o.size)
                have XL := qh hxl
                clear o48 v49 hxw hxl
                ((try dsimp only); refine nxK hK _ _ (S46.out.cells.2.1) ?_; clear hK K; (try simp only [Act.put, pS, pZ, pC]))
                refine wpMix_fork (by rfl) (by rfl) (fun K hK => ?_) (fun K hK => ?_)
                · have q1 := (O47.out.cell (p := ⟨gu, k * 2 + 1, none⟩) hgu2 (by show gu ≠ g; omega)).trans HL8
                  go_simp
                  clear q1
                  ((try dsimp only); refine nxK hK _ _ (S46.out.cells.2.1) ?_; clear hK K; (try simp only [Act.put, pS, pZ, pC]))
                  have S50 := qh (S46.out.below (alloc_up u45 (.cells #[.int .i64 (1 + (ra : Int)), .slice (some ⟨bx, 0, none⟩) 3 3] 43)))
                  have O51 := qh (O47.out.alloc (.cells #[.int .i64 (1 + (ra : Int)), .slice (some ⟨bx, 0, none⟩) 3 3] 43))
                  have X1 := qh (own_alloc X0.out (.cells #[.int .i64 (1 + (ra : Int)), .slice (some ⟨bx, 0, none⟩) 3 3] 43))
                  have X3 := qh (lit2 u45 43 (.int .i64 (1 + (ra : Int))) (.slice (some ⟨bx, 0, none⟩) 3 3))
                  (refine wpMix_bar (by rfl) (fun K hK => ?_); go_simp)
                  ((try dsimp only); refine nxK hK _ _ (S50.out.cells.2.1) ?_; clear hK K; (try simp only [Act.put, pS, pZ, pC]))
                  clear X0 S46 O47
                  generalize u45.heap.size = gx at X3 ⊢
                  generalize u45.alloc (.cells #[.int .i64 (1 + (ra : Int)), .slice (some ⟨bx, 0, none⟩) 3 3] 43) = u3 at S50 O51 X1 X3 ⊢
                  have KT := keepTU_rdr S8.out.r O51.out
                  have N3 := qh (N8.out.keepTI KT.ti)
                  have R3 := qh (own_keepTI R8.out (.inr rfl) KT.ti)
                  have V3 := qh (V8.out.keepTI KT.ti)
                  have M3 := qh (own_keepTI M8.out (.inl rfl) KT.ti)
                  have U3 := qh (own_keepB U8.out (fun b cs _ hc => KT b ⟨_, cs, .inr (.inr rfl), hc⟩))
                  have z3 := S50.out.o.size
                  clear KT
                  refine wpMix_bar (by rfl) (fun K hK => ?_)
                  rw [if_pos (by rfl)]
                  refine wp_append_src _ _ _ 27 (by rfl) w.heap.size 43 t0 _ 2 32 Tryz.underlying27 ht0 htz0 htz1 htz2 rfl (by omega) (.slice At mt ct) mt vt (by rfl) R3.out (some ⟨gx, 0, none⟩) 1 1 [.int .i64 (1 + (ra : Int)), .slice (some ⟨bx, 0, none⟩) 3 3] (by rfl) X3.out (one2 _ _ rfl rfl) (by unfold maxLen; omega) (by omega) (by omega) ?_
                  intro v6 u4 hown6 hgrow6 hrow6
                  obtain ⟨A9, c9, rfl⟩ := own_shape hown6
                  have R4 := qh hown6
                  have E4 := own_keep X1.out (fun b hb => hgrow6.block b (X1.out.lt b hb).2 (fun e => own_types R3.out X1.out (by decide) e.symm hb))
                  have V4 := qh ((V3.out.grown R3.out (by decide) hgrow6).snoc (id := 1 + (ra : Int)) (xs := xs) E4)
                  have N4 := qh (N3.out.grow hkl (by rw [Htk.out]; exact hgrow6) R4.out V4.out (by rw [Htk.out]; exact hrow6))
                  have M4 := qh (own_keep M3.out (fun b hb => hgrow6.block b (M3.out.lt b hb).2 (fun e => own_types R3.out M3.out (by decide) e.symm hb)))
                  have U4 := qh (own_keep U3.out (fun b hb => hgrow6.block b (U3.out.lt b hb).2 (fun e => own_types R3.out U3.out (by decide) e.symm hb)))
                  have C4 := qh (S50.out.c.grown hgrow6 (fun e => own_blk_ne R3.out S50.out.c (by decide) e.symm))
                  have Z4 := qh (S50.out.z.grown hgrow6 (fun e => own_blk_ne R3.out S50.out.z (by decide) e.symm))
                  have O4 := qh (S50.out.o.grown hgrow6 (fun r hr => (R3.out.lt r hr).1))
                  have Rd4 := qh (S50.out.r.keep (fun b hb => hgrow6.block b (by have := S50.out.r.lt; omega) (fun e => by have := (R3.out.lt b e.symm).1; have := S50.out.lg; omega)))
                  have lcz := S50.out.lc
                  have lzz := S50.out.lz
                  have lne := S50.out.ne
                  have K4 : u4.cell? ⟨C, 1, none⟩ = some (.slice (some ⟨gu, 0, none⟩) m2 c2) := C4.out.cell 1
                  clear hown6 hgrow6 hrow6 E4 R3 X1 X3 N3 V3 M3 U3 S50 O51
                  ((try dsimp only); refine nxK hK _ _ (K4) ?_; clear hK K; (try simp only [Act.put, pS, pZ, pC]))
                  repeat ((first | refine wpMix_skip (by rfl) (by rfl) ?_ | (refine wpMix_take (v := ?_) (by rfl) (by rfl) (fun wS hSt => ?_) ?_; rotate_left; (focus ((try dsimp only at hSt); (go_simp <;> with_reducible rfl); done)))); (try simp only [Act.put, pS, pZ, pC]))
                  have u1 := U4.out.cells (g := gu) rfl (k * 2 + 1) (tk k) (N8.out.2.2.1 k hkl).2.1
                  rw [addr_add, Nat.zero_add, Htk.out] at u1
                  have f1 := U4.out.frozenAt (k * 2 + 1)
                  (refine wpMix_bar (by rfl) (fun K hK => ?_); go_simp)
                  clear u1 f1 K4
                  obtain ⟨_, curU, eU, _, hbU⟩ := own_row U4.out (by omega)
                  injection eU with eU
                  injection eU with eU
                  subst eU
                  have S9 := qh (ClW.setU C4.out Z4.out O4.out Rd4.out lcz lzz lne lg hbU hgu1 hne hnz M4.out U4.out N4.out)
                  clear hbU C4 Z4 O4 Rd4 M4 U4 N4 V4 R4
                  ((try dsimp only); refine nxK hK _ _ (S9.out.cells.2.1) ?_; clear hK K; (try simp only [Act.put, pS, pZ, pC]))
                  generalize u4.setCell ⟨gu, k * 2 + 1, none⟩ (.slice A9 (mt + 1) c9) = we at S9 ⊢
                  have Hs9 := qh ((Hsh.out.more (show 15 ≤ 16 by omega)).set_ (op := (us[k]?.getD (false, [])).1) k (T := (us[k]?.getD (false, [])).2 ++ [(1 + (ra : Int), xs)]) ⟨by rw [List.length_append, List.length_singleton]; have := (Hsh.out.at_ k).1; omega, fun t ht => by
                    rcases List.mem_append.1 ht with ht | ht
                    · exact (Hsh.out.at_ k).2 t ht
                    · rw [List.mem_singleton.1 ht]; exact Nat.le_of_eq XL.out⟩)
                  refine wpMix_nil ?_
                  have x0 := S9.out.z.cell 0
                  have x1 := S9.out.z.cell 1
                  have x2 := S9.out.z.frozen 0
                  have x3 := S9.out.z.frozen 1
                  have p0 := S9.out.cells.1
                  have p1 := S9.out.cells.2.1
                  simp only [gT, gZ, gS] at x0 x1
                  go_wp2_with fail
                  have KT := (KeepTU.set_ S9.out.z (by decide) (by decide) (by decide) 0 (.slice A1 m1 c1)).trans (KeepTU.set_ (S9.out.z.set_ 0 (.slice A1 m1 c1)) (by decide) (by decide) (by decide) 1 (.slice (some ⟨gu, 0, none⟩) m2 c2))
                  have EQ := qh ((S9.out.z.set_ 0 (.slice A1 m1 c1)).set_ 1 (.slice (some ⟨gu, 0, none⟩) m2 c2))
                  have OC := qh (S9.out.oc.keepTU KT)
                  have O9 := qh ((S9.out.o.set_new (p := ⟨w.heap.size, 0, none⟩) (Nat.le_refl _) (.slice A1 m1 c1)).set_new (p := ⟨w.heap.size, 1, none⟩) (Nat.le_refl _) (.slice (some ⟨gu, 0, none⟩) m2 c2))
                  have R9 := qh ((S9.out.r.keep (fun b hb => Below.heap_setCell _ ⟨w.heap.size, 0, none⟩ (.slice A1 m1 c1) _ (by show b ≠ w.heap.size; omega))).keep (fun b hb => Below.heap_setCell _ ⟨w.heap.size, 1, none⟩ (.slice (some ⟨gu, 0, none⟩) m2 c2) _ (by show b ≠ w.heap.size; omega)))
                  clear KT
                  generalize World.setCell (World.setCell we ⟨w.heap.size, 0, none⟩ (.slice A1 m1 c1)) ⟨w.heap.size, 1, none⟩ (.slice (some ⟨gu, 0, none⟩) m2 c2) = w9 at EQ OC O9 R9 ⊢
                  have z0 : w9.cell? ⟨w.heap.size, 0, none⟩ = some (.slice A1 m1 c1) := EQ.out.cell 0
                  have z1 : w9.cell? ⟨w.heap.size, 1, none⟩ = some (.slice (some ⟨gu, 0, none⟩) m2 c2) := EQ.out.cell 1
                  have lr := (Hs9.out).room_le
                  have ll := OC.out.len
                  refine bodyPost_ret (v := .agg #[(.slice A1 m1 c1), (.slice (some ⟨gu, 0, none⟩) m2 c2)]) (by simp [results, Tryz.results44, go_sem, z0, z1]) rfl (by unfold DrawnCl; exact ⟨_, _, _, _, _, _, _, _, rfl, fun u hk => (OC.out.keepTU hk).rd, (Hs9.out).shU (by omega), by omega, ll.2.2.1, ll.2.2.2, O9.out, _, by omega, R9.out⟩)
                · have S52 := qh (S46.out.below (alloc_up u45 (.cells #[.int .i64 (1 + (ra : Int)), .slice (some ⟨bx, 0, none⟩) 3 3] 43)))
                  have O53 := qh (O47.out.alloc (.cells #[.int .i64 (1 + (ra : Int)), .slice (some ⟨bx, 0, none⟩) 3 3] 43))
                  have X1 := qh (own_alloc X0.out (.cells #[.int .i64 (1 + (ra : Int)), .slice (some ⟨bx, 0, none⟩) 3 3] 43))
                  have X3 := qh (lit2 u45 43 (.int .i64 (1 + (ra : Int))) (.slice (some ⟨bx, 0, none⟩) 3 3))
                  go_simp
                  ((try dsimp only); refine nxK hK _ _ (S52.out.cells.2.1) ?_; clear hK K; (try simp only [Act.put, pS, pZ, pC]))
                  clear X0 S46 O47
                  generalize u45.heap.size = gx at X3 ⊢
                  generalize u45.alloc (.cells #[.int .i64 (1 + (ra : Int)), .slice (some ⟨bx, 0, none⟩) 3 3] 43) = u3 at S52 O53 X1 X3 ⊢
                  have q1 := (O53.out.cell (p := ⟨gu, k * 2 + 1, none⟩) hgu2 (by show gu ≠ g; omega)).trans HL8
                  (refine wpMix_bar (by rfl) (fun K hK => ?_); go_simp)
                  clear q1
                  ((try dsimp only); refine nxK hK _ _ (S52.out.cells.2.1) ?_; clear hK K; (try simp only [Act.put, pS, pZ, pC]))
                  have KT := keepTU_rdr S8.out.r O53.out
                  have N3 := qh (N8.out.keepTI KT.ti)
                  have R3 := qh (own_keepTI R8.out (.inr rfl) KT.ti)
                  have V3 := qh (V8.out.keepTI KT.ti)
                  have M3 := qh (own_keepTI M8.out (.inl rfl) KT.ti)
                  have U3 := qh (own_keepB U8.out (fun b cs _ hc => KT b ⟨_, cs, .inr (.inr rfl), hc⟩))
                  have z3 := S52.out.o.size
                  clear KT
                  refine wpMix_bar (by rfl) (fun K hK => ?_)
                  rw [if_pos (by rfl)]
                  refine wp_append_src _ _ _ 27 (by rfl) w.heap.size 43 t0 _ 2 32 Tryz.underlying27 ht0 htz0 htz1 htz2 rfl (by omega) (.slice At mt ct) mt vt (by rfl) R3.out (some ⟨gx, 0, none⟩) 1 1 [.int .i64 (1 + (ra : Int)), .slice (some ⟨bx, 0, none⟩) 3 3] (by rfl) X3.out (one2 _ _ rfl rfl) (by unfold maxLen; omega) (by omega) (by omega) ?_
                  intro v6 u4 hown6 hgrow6 hrow6
                  obtain ⟨A9, c9, rfl⟩ := own_shape hown6
                  have R4 := qh hown6
                  have E4 := own_keep X1.out (fun b hb => hgrow6.block b (X1.out.lt b hb).2 (fun e => own_types R3.out X1.out (by decide) e.symm hb))
                  have V4 := qh ((V3.out.grown R3.out (by decide) hgrow6).snoc (id := 1 + (ra : Int)) (xs := xs) E4)
                  have N4 := qh (N3.out.grow hkl (by rw [Htk.out]; exact hgrow6) R4.out V4.out (by rw [Htk.out]; exact hrow6))
                  have M4 := qh (own_keep M3.out (fun b hb => hgrow6.block b (M3.out.lt b hb).2 (fun e => own_types R3.out M3.out (by decide) e.symm hb)))
                  have U4 := qh (own_keep U3.out (fun b hb => hgrow6.block b (U3.out.lt b hb).2 (fun e => own_types R3.out U3.out (by decide) e.symm hb)))
                  have C4 := qh (S52.out.c.grown hgrow6 (fun e => own_blk_ne R3.out S52.out.c (by decide) e.symm))
                  have Z4 := qh (S52.out.z.grown hgrow6 (fun e => own_blk_ne R3.out S52.out.z (by decide) e.symm))
                  have O4 := qh (S52.out.o.grown hgrow6 (fun r hr => (R3.out.lt r hr).1))
                  have Rd4 := qh (S52.out.r.keep (fun b hb => hgrow6.block b (by have := S52.out.r.lt; omega) (fun e => by have := (R3.out.lt b e.symm).1; have := S52.out.lg; omega)))
                  have lcz := S52.out.lc
                  have lzz := S52.out.lz
                  have lne := S52.out.ne
                  have K4 : u4.cell? ⟨C, 1, none⟩ = some (.slice (some ⟨gu, 0, none⟩) m2 c2) := C4.out.cell 1
                  clear hown6 hgrow6 hrow6 E4 R3 X1 X3 N3 V3 M3 U3 S52 O53
                  ((try dsimp only); refine nxK hK _ _ (K4) ?_; clear hK K; (try simp only [Act.put, pS, pZ, pC]))
                  repeat ((first | refine wpMix_skip (by rfl) (by rfl) ?_ | (refine wpMix_take (v := ?_) (by rfl) (by rfl) (fun wS hSt => ?_) ?_; rotate_left; (focus ((try dsimp only at hSt); (go_simp <;> with_reducible rfl); done)))); (try simp only [Act.put, pS, pZ, pC]))
                  have u1 := U4.out.cells (g := gu) rfl (k * 2 + 1) (tk k) (N8.out.2.2.1 k hkl).2.1
                  rw [addr_add, Nat.zero_add, Htk.out] at u1
                  have f1 := U4.out.frozenAt (k * 2 + 1)
                  (refine wpMix_bar (by rfl) (fun K hK => ?_); go_simp)
                  clear u1 f1 K4
                  obtain ⟨_, curU, eU, _, hbU⟩ := own_row U4.out (by omega)
                  injection eU with eU
                  injection eU with eU
                  subst eU
                  have S9 := qh (ClW.setU C4.out Z4.out O4.out Rd4.out lcz lzz lne lg hbU hgu1 hne hnz M4.out U4.out N4.out)
                  clear hbU C4 Z4 O4 Rd4 M4 U4 N4 V4 R4
                  ((try dsimp only); refine nxK hK _ _ (S9.out.cells.2.1) ?_; clear hK K; (try simp only [Act.put, pS, pZ, pC]))
                  generalize u4.setCell ⟨gu, k * 2 + 1, none⟩ (.slice A9 (mt + 1) c9) = we at S9 ⊢
                  have Hs9 := qh ((Hsh.out.more (show 15 ≤ 16 by omega)).set_ (op := (us[k]?.getD (false, [])).1) k (T := (us[k]?.getD (false, [])).2 ++ [(1 + (ra : Int), xs)]) ⟨by rw [List.length_append, List.length_singleton]; have := (Hsh.out.at_ k).1; omega, fun t ht => by
                    rcases List.mem_append.1 ht with ht | ht
                    · exact (Hsh.out.at_ k).2 t ht
                    · rw [List.mem_singleton.1 ht]; exact Nat.le_of_eq XL.out⟩)
                  refine wpMix_nil ?_
                  have x0 := S9.out.z.cell 0
                  have x1 := S9.out.z.cell 1
                  have x2 := S9.out.z.frozen 0
                  have x3 := S9.out.z.frozen 1
                  have p0 := S9.out.cells.1
                  have p1 := S9.out.cells.2.1
                  simp only [gT, gZ, gS] at x0 x1
                  go_wp2_with fail
                  have KT := (KeepTU.set_ S9.out.z (by decide) (by decide) (by decide) 0 (.slice A1 m1 c1)).trans (KeepTU.set_ (S9.out.z.set_ 0 (.slice A1 m1 c1)) (by decide) (by decide) (by decide) 1 (.slice (some ⟨gu, 0, none⟩) m2 c2))
                  have EQ := qh ((S9.out.z.set_ 0 (.slice A1 m1 c1)).set_ 1 (.slice (some ⟨gu, 0, none⟩) m2 c2))
                  have OC := qh (S9.out.oc.keepTU KT)
                  have O9 := qh ((S9.out.o.set_new (p := ⟨w.heap.size, 0, none⟩) (Nat.le_refl _) (.slice A1 m1 c1)).set_new (p := ⟨w.heap.size, 1, none⟩) (Nat.le_refl _) (.slice (some ⟨gu, 0, none⟩) m2 c2))
                  have R9 := qh ((S9.out.r.keep (fun b hb => Below.heap_setCell _ ⟨w.heap.size, 0, none⟩ (.slice A1 m1 c1) _ (by show b ≠ w.heap.size; omega))).keep (fun b hb => Below.heap_setCell _ ⟨w.heap.size, 1, none⟩ (.slice (some ⟨gu, 0, none⟩) m2 c2) _ (by show b ≠ w.heap.size; omega)))
                  clear KT
                  generalize World.setCell (World.setCell we ⟨w.heap.size, 0, none⟩ (.slice A1 m1 c1)) ⟨w.heap.size, 1, none⟩ (.slice (some ⟨gu, 0, none⟩) m2 c2) = w9 at EQ OC O9 R9 ⊢
                  have z0 : w9.cell? ⟨w.heap.size, 0, none⟩ = some (.slice A1 m1 c1) := EQ.out.cell 0
                  have z1 : w9.cell? ⟨w.heap.size, 1, none⟩ = some (.slice (some ⟨gu, 0, none⟩) m2 c2) := EQ.out.cell 1
                  have lr := (Hs9.out).room_le
                  have ll := OC.out.len
                  refine bodyPost_ret (v := .agg #[(.slice A1 m1 c1), (.slice (some ⟨gu, 0, none⟩) m2 c2)]) (by simp [results, Tryz.results44, go_sem, z0, z1]) rfl (by unfold DrawnCl; exact ⟨_, _, _, _, _, _, _, _, rfl, fun u hk => (OC.out.keepTU hk).rd, (Hs9.out).shU (by omega), by omega, ll.2.2.1, ll.2.2.2, O9.out, _, by omega, R9.out⟩)
          · have x1 : ((r : Int) == 1) = false := by simpa using (show ¬ (r : Int) = 1 by omega)
            by_cases h2 : r = 2
            · subst h2
              clear x0 x1
              have hroom : room.length = 3 := by
                rcases Hsh.out.1 with h | ⟨_, h⟩
                · exact h
                · have := Sc.out.len; rw [h] at this; simp at this; omega
              have hm3 : m1 = 3 := by have := Sc.out.len; omega
              subst hm3
              obtain ⟨gr, _, eA, _, _⟩ := own_row Sc.out.oc.1 (by omega)
              subst eA
              have lcap := Sc.out.len
              have x0 := Sc.out.z.cell 0
              have x1 := Sc.out.z.cell 1
              have p0 := Sc.out.cells.1
              have p1 := Sc.out.cells.2.1
              have p2 := Sc.out.cells.2.2.1
              simp only [gT, gZ, gS] at x0 x1
              have CE := qh (Sc.out.c.set_ 0 (.slice (some ⟨gr, 1, none⟩) 2 (c1 - 1)))
              have ZE := qh (Sc.out.z.far (p := ⟨C, 0, none⟩) (fun e => Sc.out.ne e.symm) (.slice (some ⟨gr, 1, none⟩) 2 (c1 - 1)))
              have OE := qh (Sc.out.oc.keepTU (KeepTU.set_ Sc.out.c (by decide) (by decide) (by decide) 0 (.slice (some ⟨gr, 1, none⟩) 2 (c1 - 1))))
              have OF := qh (Sc.out.o.set_new (p := ⟨C, 0, none⟩) Sc.out.lc (.slice (some ⟨gr, 1, none⟩) 2 (c1 - 1)))
              have RE := qh (Sc.out.r.keep (fun b hb => Below.heap_setCell _ ⟨C, 0, none⟩ (.slice (some ⟨gr, 1, none⟩) 2 (c1 - 1)) _ (by show b ≠ C; have := Sc.out.lc; omega)))
              have y0 := ZE.out.frozen 0
              have y1 := ZE.out.frozen 1
              have y2 : (wc.setCell ⟨C, 0, none⟩ (.slice (some ⟨gr, 1, none⟩) 2 (c1 - 1))).cell? ⟨C, 0, none⟩ = some (.slice (some ⟨gr, 1, none⟩) 2 (c1 - 1)) := CE.out.cell 0
              have y3 : (wc.setCell ⟨C, 0, none⟩ (.slice (some ⟨gr, 1, none⟩) 2 (c1 - 1))).cell? ⟨C, 1, none⟩ = some (.slice A2 m2 c2) := CE.out.cell 1
              have y4 := ZE.out.cell 0
              have y5 := ZE.out.cell 1
              simp only [gT, gZ, gS] at y4 y5
              go_wp2_with fail
              have w4 := KeepTU.set_ ZE.out (by decide) (by decide) (by decide) 0 (.slice (some ⟨gr, 1, none⟩) 2 (c1 - 1))
              have KT := w4.trans (KeepTU.set_ (ZE.out.set_ 0 (.slice (some ⟨gr, 1, none⟩) 2 (c1 - 1))) (by decide) (by decide) (by decide) 1 (.slice A2 m2 c2))
              have EQ := qh ((ZE.out.set_ 0 (.slice (some ⟨gr, 1, none⟩) 2 (c1 - 1))).set_ 1 (.slice A2 m2 c2))
              have OC := qh (OE.out.keepTU KT)
              have O9 := qh ((OF.out.set_new (p := ⟨w.heap.size, 0, none⟩) (Nat.le_refl _) (.slice (some ⟨gr, 1, none⟩) 2 (c1 - 1))).set_new (p := ⟨w.heap.size, 1, none⟩) (Nat.le_refl _) (.slice A2 m2 c2))
              have R9 := qh ((RE.out.keep (fun b hb => Below.heap_setCell _ ⟨w.heap.size, 0, none⟩ (.slice (some ⟨gr, 1, none⟩) 2 (c1 - 1)) _ (by show b ≠ w.heap.size; omega))).keep (fun b hb => Below.heap_setCell _ ⟨w.heap.size, 1, none⟩ (.slice A2 m2 c2) _ (by show b ≠ w.heap.size; omega)))
              clear KT w4
              generalize World.setCell (World.setCell (wc.setCell ⟨C, 0, none⟩ (.slice (some ⟨gr, 1, none⟩) 2 (c1 - 1))) ⟨w.heap.size, 0, none⟩ (.slice (some ⟨gr, 1, none⟩) 2 (c1 - 1))) ⟨w.heap.size, 1, none⟩ (.slice A2 m2 c2) = w9 at EQ OC O9 R9 ⊢
              have z0 : w9.cell? ⟨w.heap.size, 0, none⟩ = some (.slice (some ⟨gr, 1, none⟩) 2 (c1 - 1)) := EQ.out.cell 0
              have z1 : w9.cell? ⟨w.heap.size, 1, none⟩ = some (.slice A2 m2 c2) := EQ.out.cell 1
              refine bodyPost_ret (v := .agg #[.slice (some ⟨gr, 1, none⟩) 2 (c1 - 1), .slice A2 m2 c2]) (by simp [results, Tryz.results44, go_sem, z0, z1]) rfl (by unfold DrawnCl; exact ⟨_, _, _, _, _, _, _, _, rfl, fun u hk => ⟨(OC.out.keepTU hk).rd.a.drop1, (OC.out.keepTU hk).rd.b⟩, Hsh.out.shU (by omega), by omega, by omega, lcap.2.2.2, O9.out, _, by omega, R9.out⟩)
            · have x2 : ((r : Int) == 2) = false := by simpa using (show ¬ (r : Int) = 2 by omega)
              have x0 := Sc.out.z.cell 0
              have x1 := Sc.out.z.cell 1
              have x2 := Sc.out.z.frozen 0
              have x3 := Sc.out.z.frozen 1
              have p0 := Sc.out.cells.1
              have p1 := Sc.out.cells.2.1
              simp only [gT, gZ, gS] at x0 x1
              go_wp2_with fail
              have KT := (KeepTU.set_ Sc.out.z (by decide) (by decide) (by decide) 0 (.slice A1 m1 c1)).trans (KeepTU.set_ (Sc.out.z.set_ 0 (.slice A1 m1 c1)) (by decide) (by decide) (by decide) 1 (.slice A2 m2 c2))
              have EQ := qh ((Sc.out.z.set_ 0 (.slice A1 m1 c1)).set_ 1 (.slice A2 m2 c2))
              have OC := qh (Sc.out.oc.keepTU KT)
              have O9 := qh ((Sc.out.o.set_new (p := ⟨w.heap.size, 0, none⟩) (Nat.le_refl _) (.slice A1 m1 c1)).set_new (p := ⟨w.heap.size, 1, none⟩) (Nat.le_refl _) (.slice A2 m2 c2))
              have R9 := qh ((Sc.out.r.keep (fun b hb => Below.heap_setCell _ ⟨w.heap.size, 0, none⟩ (.slice A1 m1 c1) _ (by show b ≠ w.heap.size; omega))).keep (fun b hb => Below.heap_setCell _ ⟨w.heap.size, 1, none⟩ (.slice A2 m2 c2) _ (by show b ≠ w.heap.size; omega)))
              clear KT
              generalize World.setCell (World.setCell wc ⟨w.heap.size, 0, none⟩ (.slice A1 m1 c1)) ⟨w.heap.size, 1, none⟩ (.slice A2 m2 c2) = w9 at EQ OC O9 R9 ⊢
              have z0 : w9.cell? ⟨w.heap.size, 0, none⟩ = some (.slice A1 m1 c1) := EQ.out.cell 0
              have z1 : w9.cell? ⟨w.heap.size, 1, none⟩ = some (.slice A2 m2 c2) := EQ.out.cell 1
              have lr := (Hsh.out).room_le
              have ll := OC.out.len
              refine bodyPost_ret (v := .agg #[(.slice A1 m1 c1), (.slice A2 m2 c2)]) (by simp [results, Tryz.results44, go_sem, z0, z1]) rfl (by unfold DrawnCl; exact ⟨_, _, _, _, _, _, _, _, rfl, fun u hk => (OC.out.keepTU hk).rd, (Hsh.out).shU (by omega), by omega, ll.2.2.1, ll.2.2.2, O9.out, _, by omega, R9.out⟩)
      · have hm0 : m2 = 0 := by omega
        subst hm0
        have x0 := S0.out.z.cell 0
        have x1 := S0.out.z.cell 1
        have x2 := S0.out.z.frozen 0
        have x3 := S0.out.z.frozen 1
        have p0 := S0.out.cells.1
        have p1 := S0.out.cells.2.1
        simp only [gT, gZ, gS] at x0 x1
        go_wp2_with fail
        have KT := (KeepTU.set_ S0.out.z (by decide) (by decide) (by decide) 0 (.slice A1 m1 c1)).trans (KeepTU.set_ (S0.out.z.set_ 0 (.slice A1 m1 c1)) (by decide) (by decide) (by decide) 1 (.slice A2 0 c2))
        have EQ := qh ((S0.out.z.set_ 0 (.slice A1 m1 c1)).set_ 1 (.slice A2 0 c2))
        have OC := qh (S0.out.oc.keepTU KT)
        have O9 := qh ((S0.out.o.set_new (p := ⟨w.heap.size, 0, none⟩) (Nat.le_refl _) (.slice A1 m1 c1)).set_new (p := ⟨w.heap.size, 1, none⟩) (Nat.le_refl _) (.slice A2 0 c2))
        have R9 := qh ((S0.out.r.keep (fun b hb => Below.heap_setCell _ ⟨w.heap.size, 0, none⟩ (.slice A1 m1 c1) _ (by show b ≠ w.heap.size; omega))).keep (fun b hb => Below.heap_setCell _ ⟨w.heap.size, 1, none⟩ (.slice A2 0 c2) _ (by show b ≠ w.heap.size; omega)))
        clear KT
        generalize World.setCell (World.setCell wr ⟨w.heap.size, 0, none⟩ (.slice A1 m1 c1)) ⟨w.heap.size, 1, none⟩ (.slice A2 0 c2) = w9 at EQ OC O9 R9 ⊢
        have z0 : w9.cell? ⟨w.heap.size, 0, none⟩ = some (.slice A1 m1 c1) := EQ.out.cell 0
        have z1 : w9.cell? ⟨w.heap.size, 1, none⟩ = some (.slice A2 0 c2) := EQ.out.cell 1
        have lr := (Hsh.out).room_le
        have ll := OC.out.len
        refine bodyPost_ret (v := .agg #[(.slice A1 m1 c1), (.slice A2 0 c2)]) (by simp [results, Tryz.results44, go_sem, z0, z1]) rfl (by unfold DrawnCl; exact ⟨_, _, _, _, _, _, _, _, rfl, fun u hk => (OC.out.keepTU hk).rd, (Hsh.out).shU (by omega), by omega, ll.2.2.1, ll.2.2.2, O9.out, _, by omega, R9.out⟩)
theorem OnlyG.belowB {w w' : World} {g B : Nat} (h : OnlyG w w' g) (hB : B ≤ g) (hb : B ≤ w.heap.size) : Below B w w' := ⟨h.os, h.tape, h.output, h.size, fun k hk => h.block k (by omega) (by omega)⟩
end Go.Proofs.YtjjnbbkdjimcoaaGreat
