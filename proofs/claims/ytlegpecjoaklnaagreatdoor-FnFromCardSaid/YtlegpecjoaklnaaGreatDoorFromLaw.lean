/- Walks: l92Damage, DrawClusterFrom, the law FnFrom. -/
import Derived.Test.YtlegpecjoaklnaaGreatDoorClDraw
import Derived.Test.YtlegpecjoaklnaaGreatDoorClBytesI
import Derived.Test.YtlegpecjoaklnaaGreatDoorClSame
import Derived.Test.YtlegpecjoaklnaaGreatDoorClImplF
namespace Go.Proofs.YtlegpecjoaklnaaGreatDoor
open Go Go.RowKit
attribute [local go_sem ↓] Go.wp_at_zero Go.wp_at_succ

theorem OnlyG.belowB {w w' : World} {g B : Nat} (h : OnlyG w w' g) (hB : B ≤ g) (hb : B ≤ w.heap.size) : Below B w w' := ⟨h.os, h.tape, h.output, h.size, fun k hk => h.block k (by omega) (by omega)⟩

theorem fromC_sh (zs : List Int) : ShU (fromC zs).2 := by
  cases h : fromS zs with
  | none => unfold fromC; rw [h]; exact (Sh.empty (B := 14)).shU (by omega)
  | some c => unfold fromC; rw [h]; exact (Sh.of_ok (fromS_last h).1).shU (by omega)

theorem fromC_room (zs : List Int) : (fromC zs).1.length ≤ 3 := by
  cases h : fromS zs with
  | none => unfold fromC; rw [h]; exact Nat.zero_le _
  | some c => unfold fromC; rw [h]; exact Nat.le_of_eq (clOk_facts (fromS_last h).1).1

set_option maxRecDepth 100000 in
set_option maxHeartbeats 3200000 in
theorem l92Damage_any (B g p base : Nat) (A : Option Addr) (n c : Nat) (xs : List Int) (w : World) (h : w.ownsRow base 3 1 (.slice A n c) n (xs.map (Value.int .i64))) (hr : Rdr w g p) (hp : p ≤ 900000) (hg : g < base) (hn : n ≤ 1000) (hB : B ≤ g) (hbw : base ≤ w.heap.size) :
    Calls Tryz.prog 67 #[.pointer (some ⟨g, 0, none⟩), .slice A n c] w fun e w' => ∃ A' n' c' ys, e = .returned (.slice A' n' c') ∧ RdI w' w'.heap.size A' n' ys ∧ n' ≤ c' ∧ Below B w w' := by
  obtain ⟨i0, hi0, hz0, hz1, hz2⟩ := info_parts ownI_info
  have H := Lib.hid h
  have R := Lib.hid hr
  clear h hr
  go_enter Tryz.func67, Tryz.ntmps67
  by_cases hn0 : n = 0
  · subst hn0
    have hc := own_cap' H.out
    go_wp2
    go_ret
    exact ⟨A, 0, c, xs, rfl, own_rdI H.out (own_le H.out), hc, Below.refl _ _⟩
  have e9 : ((n : Int) == 0) = false := by simp; omega
  go_wp2_with fail
  refine (pick_at n R.out rfl (by omega) (by omega) (by omega)).mono ?_; rintro e w2 ⟨k, rfl, hk, r2, o2⟩
  have H2 := Lib.hid (own_only H.out o2 hg)
  have B2 := Lib.hid (o2.belowB hB (by omega))
  have R2 := Lib.hid r2
  have s2 := o2.size
  clear r2 o2 H R e9
  go_wp2_with fail
  refine (pick_at 8 R2.out rfl (by omega) (by omega) (by omega)).mono ?_; rintro e w3 ⟨r, rfl, hr8, r3, o3⟩
  have H3 := Lib.hid (own_only H2.out o3 hg)
  have B3 := Lib.hid (B2.out.trans (o3.belowB hB (by omega)))
  have R3 := Lib.hid r3
  have s3 := o3.size
  clear r3 o3 H2 R2 B2
  have hc3 := own_cap' H3.out
  obtain ⟨b, _, rfl, hb, _⟩ := own_row H3.out (by omega)
  have k1 : (0 : Int) ≤ (k : Int) := by omega
  have k2 : (k : Int) < (n : Int) := by omega
  have k3 : (k : Int) ≤ (c : Int) := by omega
  by_cases h0 : r = 0
  · subst h0
    have Rk := Lib.hid (rdPart (own_rdI H3.out (own_le H3.out)) (i := 0) (m := k) (by omega))
    go_wp2_with fail
    go_ret
    exact ⟨_, _, _, _, rfl, Rk.out, by omega, B3.out⟩
  · have x0 : ((r : Int) == 0) = false := by simpa using h0
    by_cases h1 : r = 1
    · subst h1
      clear x0 h0
      go_wp2_with fail
      refine (pick_at 258 R3.out rfl (by omega) (by omega) (by omega)).mono ?_; rintro e w4 ⟨v, rfl, hv, r4, o4⟩
      have H4 := Lib.hid (own_only H3.out o4 hg)
      have B4 := Lib.hid (B3.out.trans (o4.belowB hB (by omega)))
      clear r4 o4 H3 R3 B3
      have v1 : IntKind.i64.wrap ((v : Int) - 1) = (v : Int) - 1 := wr64 (by omega) (by omega)
      have f4 := H4.out.frozenAt k
      obtain ⟨u, hu⟩ : ∃ u, ((xs.map (Value.int .i64))[k]?) = some u := ⟨_, List.getElem?_eq_getElem (by have := own_len H4.out; rw [List.length_map]; omega)⟩
      have u4 := H4.out.cells (g := b) rfl k u hu
      rw [addr_add, Nat.zero_add] at u4
      have own5 := own_set H4.out k (.int .i64 ((v : Int) - 1))
      rw [← List.map_set] at own5
      have Own5 := Lib.hid own5
      have B5 := Lib.hid (B4.out.setCell (p := ⟨b, k, none⟩) (by show B ≤ b; omega) (.int .i64 ((v : Int) - 1)))
      clear own5 hu
      go_wp2_with fail
      go_ret
      exact ⟨_, _, _, _, rfl, own_rdI Own5.out (own_le Own5.out), hc3, B5.out⟩
    · have x1 : ((r : Int) == 1) = false := by simpa using (show ¬ (r : Int) = 1 by omega)
      by_cases h2 : r = 2
      · subst h2
        clear x0 x1 h0 h1
        go_wp2_with fail
        refine (pick_at 9 R3.out rfl (by omega) (by omega) (by omega)).mono ?_; rintro e w4 ⟨v, rfl, hv, r4, o4⟩
        have H4 := own_only H3.out o4 hg
        have B4 := B3.out.trans (o4.belowB hB (by omega))
        have s4 := o4.size
        have H5 := Lib.hid (own_alloc H4 (.cells #[.int .i64 (v : Int)] 3))
        have B5 := Lib.hid (B4.alloc (by omega) (.cells #[.int .i64 (v : Int)] 3))
        have X5 := Lib.hid (lit1 w4 3 (.int .i64 (v : Int)))
        have s5 : (w4.alloc (.cells #[.int .i64 (v : Int)] 3)).heap.size = w4.heap.size + 1 := World.size_alloc _ _
        clear r4 o4 H3 R3 B3 H4 B4
        go_wp2_with (at_builtin; go_loud (refine wpList_append_src _ rfl _ _ 23 rfl base 3 i0 _ 1 8 Tryz.underlying23 hi0 hz0 hz1 hz2 rfl (by omega) (.slice (some ⟨b, 0, none⟩) n c) n _ rfl H5.out _ 1 1 [.int .i64 (v : Int)] rfl X5.out (one1 _ rfl) (by unfold maxLen; omega) (by omega) (by omega) ?_); intro v' w6 hown6 hgrow6 hat6; have B6 := Lib.hid (B5.out.grown hgrow6 (by omega) (fun j e => by have := (H5.out.lt j e).1; omega)); rw [show xs.map (Value.int .i64) ++ [Value.int .i64 (v : Int)] = (xs ++ [(v : Int)]).map (Value.int .i64) by rw [List.map_append]; rfl] at hown6; obtain ⟨A6, c6, rfl⟩ := own_shape hown6; have O6 := Lib.hid hown6; clear hown6 hgrow6 hat6)
        go_ret
        exact ⟨_, _, _, _, rfl, own_rdI O6.out (own_le O6.out), own_cap' O6.out, B6.out⟩
      · have x2 : ((r : Int) == 2) = false := by simpa using (show ¬ (r : Int) = 2 by omega)
        go_wp2_with fail
        go_ret
        exact ⟨_, _, _, _, rfl, own_rdI H3.out (own_le H3.out), hc3, B3.out⟩

set_option maxRecDepth 100000 in
set_option maxHeartbeats 1600000 in
theorem drawClusterFrom_any (A : Option Addr) (n c : Nat) (w : World) (h : RdU w w.heap.size A n) (hc : n ≤ c) (hcm : c ≤ 9223372036854775807) :
    Calls Tryz.prog 21 #[.slice A n c] w fun e w' => ∃ A' n' c' ys, e = .returned (.slice A' n' c') ∧ RdI w' w'.heap.size A' n' ys ∧ n' ≤ c' ∧ Below w.heap.size w w' := by
  go_enter Tryz.func21, Tryz.ntmps21
  go_wp2_with fail
  refine (l6Open_any A n c w h hc hcm).mono ?_; rintro e w2 ⟨rfl, R2, hb2⟩
  have B2 := Lib.hid hb2
  have HR2 := Lib.hid R2
  clear hb2 R2 h
  go_wp2_with fail
  refine (l92Cluster_any w.heap.size 0 w2 HR2.out (by omega)).mono ?_; rintro e w3 hD
  obtain ⟨A1, m1, c1, A2, m2, c2, room, us, rfl, hr, hs, hm1, hc1, hc2, o3, q, hq, r3⟩ := hD
  have B3 := Lib.hid (o3.to_below B2.out (Nat.le_refl _))
  have C3 := Lib.hid (hr w3 (fun _ _ => rfl))
  have Hs := Lib.hid hs
  have R3 := Lib.hid r3
  clear hr hs o3 HR2 r3
  go_wp2_with fail
  refine (clusterBytesS_any A1 A2 m1 c1 m2 c2 room us w3 C3.out Hs.out (by omega)).mono ?_; rintro e w4 ⟨A4, m4, c4, rfl, hown, hb4⟩
  have B4 := Lib.hid (below_to B3.out hb4)
  have R4 := Lib.hid (R3.out.below hb4)
  have O4 := Lib.hid hown
  have hm4 : m4 ≤ 1000 := by
    have hl := own_len hown
    cases hok : clOk room us with
    | false => rw [bytesOr_no hok] at hl; simp at hl; omega
    | true => rw [bytesOr_yes hok] at hl; have := (bytes_bytes hok).2.1; omega
  have lw : w.heap.size < w3.heap.size := R3.out.lt
  have s4 := hb4.size
  clear hown hb4 B3 C3 R3
  go_wp2_with fail
  refine (l92Damage_any w.heap.size w.heap.size q w3.heap.size A4 m4 c4 _ w4 O4.out R4.out (by omega) lw hm4 (Nat.le_refl _) s4).mono ?_; rintro e w5 ⟨A5, n5, c5, ys, rfl, hr5, hc5, hb5⟩
  have B5 := Lib.hid (B4.out.trans hb5)
  have R5 := Lib.hid hr5
  clear hr5 hb5
  go_wp2
  go_ret
  exact ⟨A5, n5, c5, ys, rfl, R5.out, hc5, B5.out⟩

set_option maxRecDepth 100000 in
set_option maxHeartbeats 3200000 in
theorem from_walk (A : Option Addr) (n c : Nat) (w : World) (h : RdU w w.heap.size A n) (hc : n ≤ c) (hcm : c ≤ 9223372036854775807) (hh : HandleMet w) :
    Calls Tryz.prog 4 #[.slice A n c] w fun e w' => e = .returned (.bool true) ∧ Below w.heap.size w w' := by
  by_cases kn : 1048576 < n
  · go_enter Tryz.func4, Tryz.ntmps4
    go_wp2
    go_ret
    exact ⟨rfl, Below.refl _ _⟩
  have lh := hh.lt
  go_enter Tryz.func4, Tryz.ntmps4
  go_wp2_with fail
  refine (drawClusterFrom_any A n c w h hc hcm).mono ?_; rintro e w1 ⟨A0, n0, c0, zs, rfl, hr1, hc1, hb1⟩
  have B1 := Lib.hid hb1
  have R1 := Lib.hid hr1
  clear h hb1 hr1
  go_wp2_with fail
  refine (clusterFromI_any A0 n0 c0 zs w1 R1.out hc1 (hh.up B1.out lh)).mono ?_; rintro e w2 ⟨A1, m1, d1, A2, m2, d2, rfl, hoc, hb2⟩
  have hsh := fromC_sh zs
  have hx := alloc_up w2 (.cells #[.slice A1 m1 d1, .slice A2 m2 d2] 26)
  have hoc2 := hoc.rd (by have := hoc.len; have := fromC_room zs; omega) hsh
  have B3 := Lib.hid (below_to (below_to B1.out hb2) hx)
  have R3 := Lib.hid ((R1.out.up hb2).up hx)
  have C3 := Lib.hid (hoc2.up hx)
  have P3 := Lib.hid (Blk.new w2 26 #[.slice A1 m1 d1, .slice A2 m2 d2])
  clear hoc hoc2 hb2 hx B1 R1
  go_wp2_with fail
  generalize w2.heap.size = p at P3 ⊢
  generalize w2.alloc (.cells #[.slice A1 m1 d1, .slice A2 m2 d2] 26) = w3 at B3 R3 C3 P3 ⊢
  refine (clusterFromS_any A0 n0 c0 zs w3 R3.out hc1).mono ?_; rintro e w4 ⟨A3, m3, d3, A4, m4, d4, rfl, hoc, hb4⟩
  have hx := alloc_up w4 (.cells #[.slice A3 m3 d3, .slice A4 m4 d4] 26)
  have hoc2 := hoc.rd (by have := hoc.len; have := fromC_room zs; omega) hsh
  have B5 := Lib.hid (below_to (below_to B3.out hb4) hx)
  have R5 := Lib.hid ((R3.out.up hb4).up hx)
  have C5 := Lib.hid ((C3.out.up hb4).up hx)
  have P5 := Lib.hid ((P3.out.below hb4 P3.out.lt).below hx (by have := P3.out.lt; have := hb4.size; omega))
  have E5 := Lib.hid (hoc2.up hx)
  have Q5 := Lib.hid (Blk.new w4 26 #[.slice A3 m3 d3, .slice A4 m4 d4])
  have e1 : m3 = m1 := by have := E5.out.a.len; have := C5.out.a.len; omega
  have e2 : m4 = m2 := by have := E5.out.b.len; have := C5.out.b.len; omega
  subst e1 e2
  clear hoc hoc2 hb4 hx B3 R3 C3 P3
  have y0 := P5.out.cell 0
  have y1 := P5.out.cell 1
  have x0 := Q5.out.cell 0
  have x1 := Q5.out.cell 1
  simp only [List.getElem?_toArray, List.getElem?_cons_zero, List.getElem?_cons_succ] at y0 y1 x0 x1
  cases hf : (fromS zs).isSome with
  | false =>
    have hne : (false != false) = false := rfl
    go_wp2_with fail
    generalize w4.heap.size = p2 at Q5 x0 x1 ⊢
    generalize w4.alloc (.cells #[.slice A3 m3 d3, .slice A4 m4 d4] 26) = w5 at B5 R5 C5 P5 E5 Q5 y0 y1 x0 x1 ⊢
    refine (sameCluster_any A1 A2 A3 A4 m3 d1 m4 d2 d3 d4 _ _ w5 C5.out E5.out).mono ?_; rintro e w6 ⟨rfl, hb6⟩
    have B6 := Lib.hid (below_to B5.out hb6)
    have C6 := Lib.hid (C5.out.up hb6)
    have E6 := Lib.hid (E5.out.up hb6)
    have P6 := P5.out.below hb6 P5.out.lt
    have Q6 := Q5.out.below hb6 Q5.out.lt
    clear y0 y1 x0 x1 hb6
    have y0 := P6.cell 0
    have y1 := P6.cell 1
    have x0 := Q6.cell 0
    have x1 := Q6.cell 1
    simp only [List.getElem?_toArray, List.getElem?_cons_zero, List.getElem?_cons_succ] at y0 y1 x0 x1
    go_wp2_with fail
    refine (sameCluster_any A1 A2 A3 A4 m3 d1 m4 d2 d3 d4 _ _ w6 C6.out E6.out).mono ?_; rintro e w7 ⟨rfl, hb7⟩
    have B7 := Lib.hid (below_to B6.out hb7)
    go_wp2
    go_ret
    exact ⟨rfl, B7.out⟩
  | true =>
    have hne : (true != true) = false := rfl
    obtain ⟨cl, hcl⟩ := Option.isSome_iff_exists.1 hf
    obtain ⟨room, us⟩ := cl
    have hfc : fromC zs = (room, us) := by unfold fromC; rw [hcl]; rfl
    rw [hfc] at C5 E5 hsh
    obtain ⟨hok, hzs⟩ := fromS_last hcl
    dsimp only at hok hzs
    have hyes := Lib.hid (bytesOr_yes hok)
    have Hok := Lib.hid hok
    have Hzs := Lib.hid hzs
    have Hsh := Lib.hid hsh
    clear hcl hfc hsh hok hzs
    go_wp2_with fail
    generalize w4.heap.size = p2 at Q5 x0 x1 ⊢
    generalize w4.alloc (.cells #[.slice A3 m3 d3, .slice A4 m4 d4] 26) = w5 at B5 R5 C5 P5 E5 Q5 y0 y1 x0 x1 ⊢
    refine (sameCluster_any A1 A2 A3 A4 m3 d1 m4 d2 d3 d4 _ _ w5 C5.out E5.out).mono ?_; rintro e w6 ⟨rfl, hb6⟩
    have B6 := Lib.hid (below_to B5.out hb6)
    have C6 := Lib.hid (C5.out.up hb6)
    have R6 := Lib.hid (R5.out.up hb6)
    have P6 := Lib.hid (P5.out.below hb6 P5.out.lt)
    clear y0 y1 x0 x1 hb6 B5 R5 C5 P5 E5 Q5
    have y0 := P6.out.cell 0
    have y1 := P6.out.cell 1
    simp only [List.getElem?_toArray, List.getElem?_cons_zero, List.getElem?_cons_succ] at y0 y1
    go_wp2_with fail
    refine (clusterBytesI_any A1 A2 m3 d1 m4 d2 room us w6 C6.out Hsh.out (by have := C6.out.a.len; have := (clOk_facts Hok.out).1; omega)).mono ?_; rintro e w7 ⟨A7, m7, c7, rfl, hr7, hc7, hb7⟩
    rw [Hok.out]
    rw [hyes.out, ← Hzs.out] at hr7
    have e7 : m7 = n0 := by have := hr7.len; have := R6.out.len; omega
    subst e7
    have B7 := Lib.hid (below_to B6.out hb7)
    have C7 := Lib.hid (C6.out.up hb7)
    have R7 := Lib.hid (R6.out.up hb7)
    have S7 := Lib.hid hr7
    have P7 := Lib.hid (P6.out.below hb7 P6.out.lt)
    clear hr7 hb7 y0 y1 B6 C6 R6 P6
    go_wp2_with fail
    refine (sameInts_any A7 A0 m7 c7 c0 _ _ _ w7 S7.out R7.out).mono ?_; rintro e w8 ⟨rfl, m8, rfl⟩
    have B8 := Lib.hid (below_drewN B7.out m8)
    have C8 := Lib.hid (C7.out.up (drew_below w7 m8))
    have P8 := Lib.hid (P7.out.drewN m8)
    clear B7 C7 R7 S7 P7
    generalize w7.drewN m8 = w8 at B8 C8 P8 ⊢
    have y0 := P8.out.cell 0
    have y1 := P8.out.cell 1
    simp only [List.getElem?_toArray, List.getElem?_cons_zero, List.getElem?_cons_succ] at y0 y1
    go_wp2_with fail
    refine (clusterValidI_any A1 A2 m3 d1 m4 d2 room us w8 C8.out Hsh.out).mono ?_; rintro e w9 ⟨rfl, hb9⟩
    rw [Hok.out]
    have B9 := Lib.hid (below_to B8.out hb9)
    clear y0 y1
    go_wp2
    go_ret
    exact ⟨rfl, B9.out⟩
end Go.Proofs.YtlegpecjoaklnaaGreatDoor
