/- The walk of the law FnBytesDamage. -/
import Derived.Test.YtfkobleefhpggaaDoorBytesLaw
namespace Go.Proofs.YtfkobleefhpggaaDoor
open Go Go.RowKit
attribute [local go_sem ↓] Go.wp_at_zero Go.wp_at_succ

set_option maxRecDepth 100000 in
set_option maxHeartbeats 3200000 in
theorem bytesDamage_walk (A A' : Option Addr) (n c n' c' : Nat) (w : World) (h : RdU w w.heap.size A n) (hc : n ≤ c) (hcm : c ≤ 9223372036854775807) (hh : HandleMet w) :
    Calls Tryd.prog 4 #[.slice A n c, .slice A' n' c'] w fun e w' => e = .returned (.bool true) ∧ Below w.heap.size w w' := by
  by_cases kn : 1048576 < n
  · go_enter Tryd.func4, Tryd.ntmps4
    go_wp2
    go_ret
    exact ⟨rfl, Below.refl _ _⟩
  by_cases km : 1048576 < n'
  · go_enter Tryd.func4, Tryd.ntmps4
    go_wp2
    go_ret
    exact ⟨rfl, Below.refl _ _⟩
  have lh := hh.lt
  obtain ⟨i0, hi0, hz0, hz1, hz2⟩ := info_parts ownI_info
  go_enter Tryd.func4, Tryd.ntmps4
  go_wp2_with fail
  refine (drawClusterBytes_any A n c w h hc hcm).mono ?_; rintro e w1 hD
  obtain ⟨A1, m1, c1, A2, m2, c2, room, us, rfl, hr, hs, hm1, hc1, hc2, hb1⟩ := hD
  have d2 := alloc_up w1 (.cells #[.slice A1 m1 c1, .slice A2 m2 c2] 25)
  have B2 := Lib.hid (below_to hb1 d2)
  have P2 := Lib.hid (Blk.new w1 25 #[.slice A1 m1 c1, .slice A2 m2 c2])
  have C2 := Lib.hid (hr _ (KeepTU.up d2))
  have Hs := Lib.hid hs
  clear h hr hs hb1 d2
  have y0 := P2.out.cell 0
  have y1 := P2.out.cell 1
  simp only [List.getElem?_toArray, List.getElem?_cons_zero, List.getElem?_cons_succ] at y0 y1
  go_wp2_with fail
  generalize w1.heap.size = p at P2 y0 y1 ⊢
  generalize w1.alloc (.cells #[.slice A1 m1 c1, .slice A2 m2 c2] 25) = w2 at B2 P2 C2 y0 y1 ⊢
  refine (clusterBytesI_any A1 A2 m1 c1 m2 c2 room us w2 C2.out Hs.out (by omega)).mono ?_; rintro e w3 ⟨A3, m3, c3, rfl, hr3, hc3, hb3⟩
  have B3 := Lib.hid (below_to B2.out hb3)
  have P3 := Lib.hid (P2.out.below hb3 P2.out.lt)
  have C3 := Lib.hid (C2.out.up hb3)
  have R3 := Lib.hid hr3
  clear hr3 hb3 y0 y1 B2 P2 C2
  have y0 := P3.out.cell 0
  have y1 := P3.out.cell 1
  simp only [List.getElem?_toArray, List.getElem?_cons_zero, List.getElem?_cons_succ] at y0 y1
  go_wp2_with fail
  refine (clusterBytesS_any A1 A2 m1 c1 m2 c2 room us w3 C3.out Hs.out (by omega)).mono ?_; rintro e w4 ⟨A4, m4, c4, rfl, hown, hb4⟩
  have em : m4 = m3 := by have := own_len hown; have := R3.out.len; omega
  subst em
  have B4 := Lib.hid (below_to B3.out hb4)
  have P4 := Lib.hid (P3.out.below hb4 P3.out.lt)
  have C4 := Lib.hid (C3.out.up hb4)
  have R4 := Lib.hid (R3.out.up hb4)
  have Q4 := Lib.hid (own_rdI hown (own_le hown))
  clear hown hb4 y0 y1 B3 P3 C3 R3
  cases hok : clOk room us with
  | false =>
    have hne : (false != false) = false := rfl
    go_wp2_with fail
    refine (sameInts_any A3 A4 m4 c3 c4 _ _ _ w4 R4.out Q4.out).mono ?_; rintro e w5 ⟨rfl, m5, rfl⟩
    have B5 := Lib.hid (below_drewN B4.out m5)
    have R5 := Lib.hid (R4.out.drewN m5)
    have Q5 := Lib.hid (Q4.out.drewN m5)
    generalize w4.drewN m5 = w5 at B5 R5 Q5 ⊢
    go_wp2_with fail
    refine (sameInts_any A3 A4 m4 c3 c4 _ _ _ w5 R5.out Q5.out).mono ?_; rintro e w6 ⟨rfl, m6, rfl⟩
    have B6 := Lib.hid (below_drewN B5.out m6)
    go_wp2
    go_ret
    exact ⟨rfl, B6.out⟩
  | true =>
    have hyes := bytesOr_yes hok
    have hdam := Lib.hid (fun (k : Nat) (hk : k < m4) => from_damaged hok (k := k) (by rw [← hyes, R4.out.len]; exact hk))
    have hcut := Lib.hid (from_cut hok)
    have hbb := Lib.hid (bytes_bytes hok)
    rw [hyes] at R4 Q4
    clear hyes hok
    have hne : (true != true) = false := rfl
    go_wp2_with fail
    refine (sameInts_any A3 A4 m4 c3 c4 _ _ _ w4 R4.out Q4.out).mono ?_; rintro e w5 ⟨rfl, m5, rfl⟩
    have B5 := Lib.hid (below_drewN B4.out m5)
    have P5 := Lib.hid (P4.out.drewN m5)
    have C5 := Lib.hid (C4.out.up (drew_below w4 m5))
    have R5 := Lib.hid (show RdI (w4.drewN m5) (w4.drewN m5).heap.size A3 m4 (bytesP room us) from R4.out.drewN m5)
    clear B4 P4 C4 R4 Q4
    generalize w4.drewN m5 = w5 at B5 P5 C5 R5 ⊢
    have hlen := Lib.hid (R5.out.len)
    have hm4 : 4 ≤ m4 ∧ m4 ≤ 80 := by have := hbb.out.2.1; have := hbb.out.2.2; have := hlen.out; omega
    have e9 : ((m4 : Int) == 0) = false := by simp; omega
    have hw9 : 0 < (m4 : Int) := by omega
    have hrem : ((n' : Int).tmod (m4 : Int)) = ((n' % m4 : Nat) : Int) := rfl
    obtain ⟨k, hkd⟩ : ∃ k, k = n' % m4 := ⟨_, rfl⟩
    have hlt0 : k < m4 := by rw [hkd]; exact Nat.mod_lt _ (by omega)
    rw [← hkd] at hrem
    have k1 : (0 : Int) ≤ (k : Int) := by omega
    have k2 : (k : Int) < (m4 : Int) := by omega
    clear hkd
    have hb6 := alloc_up w5 (.cells #[] 3)
    have O6 := Lib.hid (show (w5.alloc (.cells #[] 3)).ownsRow w5.heap.size 3 1 (.slice (some ⟨w5.heap.size, 0, none⟩) 0 0) 0 [] from World.ownsRow_lit (base := w5.heap.size) (e := 3) (size := 1) w5 #[] 0 (Nat.le_refl _) (by unfold maxLen; omega) rfl)
    have B6 := Lib.hid (below_to B5.out hb6)
    have D6 := Lib.hid hb6
    have S6 := Lib.hid (srcOfI (R5.out.up hb6))
    have N6 := Lib.hid (ints_cell1 (bytesP room us))
    have lz6 := hb6.size
    clear hb6
    obtain ⟨b3, o3, rfl, _, _⟩ := R5.out.at_ hlt0
    have hx : k < (bytesP room us).length := by rw [hlen.out]; exact hlt0
    obtain ⟨bv, hbv⟩ : ∃ bv, bv = (bytesP room us)[k]?.getD 0 := ⟨_, rfl⟩
    have hbk : 0 ≤ bv ∧ bv ≤ 255 := by rw [hbv, List.getElem?_eq_getElem hx]; exact hbb.out.1 _ (List.getElem_mem hx)
    have Hdk := Lib.hid (show fromS ((bytesP room us).set k ((bv + 1) % 256)) = none by rw [hbv]; exact hdam.out k hlt0)
    have hgm := Lib.hid (show ((bytesP room us).map (Value.int .i64))[k]? = some (.int .i64 bv) by rw [List.getElem?_map, hbv, List.getElem?_eq_getElem hx]; rfl)
    clear hbv hx
    have v1 : IntKind.i64.wrap (bv + 1) = bv + 1 := wr64 (by omega) (by omega)
    have v2 : (bv + 1).tmod 256 = (bv + 1) % 256 := Int.tmod_eq_emod_of_nonneg (by omega)
    have v3 : IntKind.i64.wrap ((bv + 1) % 256) = (bv + 1) % 256 := wr64 (by omega) (by omega)
    go_wp2_with (at_builtin; go_loud (refine wpList_append_src _ rfl _ _ 22 rfl w5.heap.size 3 i0 _ 1 8 Tryd.underlying22 hi0 hz0 hz1 hz2 rfl (by omega) (.slice (some ⟨w5.heap.size, 0, none⟩) 0 0) 0 [] rfl O6.out _ m4 c3 _ rfl S6.out N6.out (by unfold maxLen; omega) (by omega) lz6 ?_); intro v' w7 hown7 hgrow7 hat7; go_loud (rw [Nat.zero_add, List.nil_append] at hown7); obtain ⟨A7, c7, rfl⟩ := own_shape hown7; obtain ⟨g7, _, rfl, _, _⟩ := own_row hown7 (by omega); have D7 := Lib.hid (D6.out.grown hgrow7 lz6 (fun j e => (O6.out.lt j e).1)); have u7 := hown7.cells (g := g7) rfl k _ hgm.out; rw [addr_add, Nat.zero_add] at u7; have f7 := hown7.frozenAt k; have Ow7 := Lib.hid hown7; clear hown7 hgrow7 hat7 hrem)
    have lg7 : w5.heap.size ≤ g7 := (Ow7.out.lt g7 rfl).1
    have D8 := Lib.hid (D7.out.setCell (p := ⟨g7, k, none⟩) lg7 (.int .i64 ((bv + 1) % 256)))
    have own8 := own_set Ow7.out k (.int .i64 ((bv + 1) % 256))
    rw [← List.map_set] at own8
    have R8 := Lib.hid (own_rdI own8 (own_le own8))
    have hc8 := own_cap' own8
    clear own8 Ow7 D7 u7 f7 v1 v2 v3 lg7
    generalize w7.setCell ⟨g7, k, none⟩ (.int .i64 ((bv + 1) % 256)) = w8 at D8 R8 ⊢
    have B8 := Lib.hid (below_to B5.out D8.out)
    have R58 := Lib.hid (R5.out.up D8.out)
    clear D8 B5 R5
    refine (clusterFromI_any (some ⟨g7, 0, none⟩) m4 c7 _ w8 R8.out hc8 (hh.up B8.out lh)).mono ?_; rintro e w9 ⟨A5, m5, c5, A6, m6, c6, rfl, _, hb9⟩
    have hno1 : (fromS ((bytesP room us).set k ((bv + 1) % 256))).isSome = false := by rw [Hdk.out]; rfl
    rw [hno1]
    have d10 := alloc_up w9 (.cells #[.slice A5 m5 c5, .slice A6 m6 c6] 25)
    have Ba := Lib.hid (below_to (below_to B8.out hb9) d10)
    have Ra := Lib.hid ((R58.out.up hb9).up d10)
    clear hb9 d10 B8 R58 R8 Hdk hno1
    obtain ⟨q, hq⟩ : ∃ q, m4 = q + 1 := ⟨m4 - 1, by omega⟩
    have w3 : IntKind.i64.wrap ((m4 : Int) - 1) = (q : Int) := by rw [wr64 (by omega) (by omega)]; omega
    have j1 : (0 : Int) ≤ (q : Int) := by omega
    have j2 : (q : Int) ≤ (c3 : Int) := by omega
    have Rq := Lib.hid (show RdI (w9.alloc (.cells #[.slice A5 m5 c5, .slice A6 m6 c6] 25)) (w9.alloc (.cells #[.slice A5 m5 c5, .slice A6 m6 c6] 25)).heap.size (some ⟨b3, o3, none⟩) q (encC room us) from by
      have h1 := rdPart Ra.out (i := 0) (m := q) (by omega)
      rw [List.drop_zero, Nat.add_zero] at h1
      have e : (bytesP room us).take q = encC room us := by rw [bytesP, List.take_left' (by have := hlen.out; rw [bytesP, List.length_append, List.length_singleton] at this; omega)]
      rwa [e] at h1)
    go_wp2_with fail
    generalize w9.alloc (.cells #[.slice A5 m5 c5, .slice A6 m6 c6] 25) = wa at Ba Rq ⊢
    refine (clusterFromI_any (some ⟨b3, o3, none⟩) q _ _ wa Rq.out (by omega) (hh.up Ba.out lh)).mono ?_; rintro e wb ⟨A8, m8, c8, A9, m9, c9, rfl, _, hbb2⟩
    rw [hcut.out]
    have Bb := Lib.hid (below_to Ba.out hbb2)
    clear hbb2
    go_wp2
    go_ret
    exact ⟨rfl, Bb.out.trans (by
      have := alloc_up wb (.cells #[.slice A8 m8 c8, .slice A9 m9 c9] 25)
      exact this.mono (by have := Bb.out.size; omega))⟩
end Go.Proofs.YtfkobleefhpggaaDoor
