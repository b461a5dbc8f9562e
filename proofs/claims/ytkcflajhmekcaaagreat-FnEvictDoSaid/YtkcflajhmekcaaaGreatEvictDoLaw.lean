/- The walk of the law FnEvictDo. -/
import Derived.Test.YtkcflajhmekcaaaGreatEvictEachLaw
import Derived.Test.YtkcflajhmekcaaaGreatEvictDoS
import Derived.Test.YtkcflajhmekcaaaGreatSameTasks
namespace Go.Proofs.YtkcflajhmekcaaaGreat
open Go Go.RowKit
attribute [local go_sem ↓] Go.wp_at_zero Go.wp_at_succ

theorem rdT_nil {w : World} {B : Nat} {A : Option Addr} : RdT w B A 0 [] := ⟨rfl, by omega, fun h => by omega⟩
theorem ownTs_len {w : World} {base n c : Nat} {A : Option Addr} {ts : List Tk} (h : OwnTs w base (.slice A n c) n ts) : ts.length = n ∧ n ≤ c := by
  obtain ⟨vs, nd, h1, h2⟩ := h
  exact ⟨h2.1, own_cap' h1⟩
theorem kept_short {room : List Int} {ts : List Tk} {rk : List Int} {id r : Int} {xs : List Int} (h : evOk room ts rk (id, xs) r = true) (g : Nat → Bool) : ∀ t ∈ keptP ts g ts.length ++ [(id, xs)], t.2.length ≤ 9223372036854775807 := by
  obtain ⟨_, _, f3, f4, _⟩ := evOk_facts h
  intro t ht
  rcases List.mem_append.1 ht with h1 | h1
  · exact keptP_has (p := fun t : Tk => t.2.length ≤ 9223372036854775807) (fun j hj => by rw [List.getElem?_eq_getElem hj, Option.getD_some, vecOk_len (f3 _ (List.getElem_mem hj))]; omega) _ (Nat.le_refl _) t h1
  · rw [List.mem_singleton] at h1
    rw [h1]; show xs.length ≤ 9223372036854775807; have : xs.length = 3 := vecOk_len f4; omega

set_option maxRecDepth 100000 in
set_option maxHeartbeats 3200000 in
theorem evictDo_walk (A : Option Addr) (n c : Nat) (w : World) (h : RdU w w.heap.size A n) (hc : n ≤ c) (hcm : c ≤ 9223372036854775807) :
    Calls Tryz.prog 4 #[.slice A n c] w fun e w' => e = .returned (.bool true) ∧ Below w.heap.size w w' := by
  obtain ⟨i0, hi0, hz0, hz1, hz2⟩ := info_parts task_info
  by_cases k1 : 1048576 < n
  · go_enter Tryz.func4, Tryz.ntmps4
    go_wp2
    go_ret
    exact ⟨rfl, Below.refl _ _⟩
  go_enter Tryz.func4, Tryz.ntmps4
  go_wp2_with fail
  refine (drawEvictDo_any A n c w h hc hcm).mono ?_; rintro e w1 ⟨A1, A2, A3, A4, n2, n3, c2, c3, room, ts, rk, id, xs, r, rfl, hR, hc2, hn2, hn3, B1⟩
  have HR := Lib.hid hR
  have HB1 := Lib.hid B1
  have HL2 := Lib.hid hR.b.len
  have B2 := alloc_up w1 (.cells #[.int .i64 id, .slice A4 3 3] 33)
  have hk := Lib.hid (fun w' => box_two 33 w1 (.int .i64 id) (.slice A4 3 3) (w' := w'))
  have sz : (w1.alloc (.cells #[.int .i64 id, .slice A4 3 3] 33)).heap.size = w1.heap.size + 1 := World.size_alloc _ _
  clear hR B1
  obtain ⟨x0, x1⟩ := hk.out _ (Below.refl _ _)
  go_wp2_with fail
  generalize w1.alloc (.cells #[.int .i64 id, .slice A4 3 3] 33) = w2 at B2 hk sz x0 x1 ⊢
  rw [← sz] at hk
  have HR2 := Lib.hid (HR.out.up B2)
  have HB2 := Lib.hid (below_to HB1.out B2)
  clear sz B2
  have hzm : n2 ≤ 1048576 := by omega
  refine (evictDoI_any A1 A2 A3 A4 3 3 n2 c2 n3 c3 3 3 room rk ts id xs r w2 HR2.out.a HR2.out.b HR2.out.c HR2.out.d hc2 (Nat.le_refl _) hzm).mono ?_; rintro e w3 ⟨hres, d3⟩
  have D3 := Lib.hid d3
  have HR3 := Lib.hid (HR2.out.up d3)
  have HB3 := Lib.hid (below_to HB2.out d3)
  clear d3 x0 x1
  obtain ⟨x0, x1⟩ := hk.out w3 D3.out
  have hspec := Lib.hid (evictDoS_any A1 A2 A3 A4 3 3 n2 c2 n3 c3 3 3 room rk ts id xs r w3 HR3.out.a HR3.out.b HR3.out.c HR3.out.d hc2 (Nat.le_refl _) hzm)
  rcases hres with ⟨hg, rfl⟩ | ⟨g, A5, m5, c5, hg, rfl, hown⟩
  · have Hg := Lib.hid hg
    clear hg
    go_wp2_with fail
    refine hspec.out.mono ?_; rintro e w4 ⟨hres, d4⟩
    have HB4 := Lib.hid (below_to HB3.out d4)
    clear d4 hspec
    rcases hres with ⟨_, A6, c6, rfl⟩ | ⟨g, _, _, _, hg, _, _⟩
    · go_wp2_with fail
      refine (sameTasks_any none A6 0 0 c6 0 0 [] _ rdT_nil rdT_nil).mono ?_; rintro e w5 ⟨rfl, m6, rfl⟩
      go_wp2_with fail
      refine (sameTasks_any none A6 0 0 c6 0 0 [] _ rdT_nil rdT_nil).mono ?_; rintro e w5 ⟨rfl, m7, rfl⟩
      go_wp2
      go_ret
      exact ⟨rfl, below_drewN HB4.out _⟩
    · rw [Hg.out] at hg; cases hg
  have Hg := Lib.hid hg
  obtain ⟨hok, hgo⟩ := evP_facts hg
  have hshort := Lib.hid (kept_short hok g)
  obtain ⟨hlen5, hcap5⟩ := ownTs_len hown
  have Hlen5 := Lib.hid hlen5
  have Hcap5 := Lib.hid hcap5
  have hm5 : m5 ≤ 9 := by have := keptP_len ts g ts.length; have := HL2.out; rw [List.length_append, List.length_singleton] at hlen5; omega
  have R5' := Lib.hid (hown.rd (by omega) hshort.out)
  clear hg hown hok hgo hlen5 hcap5
  go_wp2_with fail
  refine hspec.out.mono ?_; rintro e w4 ⟨hres, d4⟩
  have HB4 := Lib.hid (below_to HB3.out d4)
  have D4 := Lib.hid (below_to D3.out d4)
  have HR4 := Lib.hid (HR3.out.up d4)
  have R5 := Lib.hid (R5'.out.up d4)
  clear d4 hspec x0 x1 R5'
  rcases hres with ⟨hg, _⟩ | ⟨g', A6, m6, c6, hg, rfl, hown⟩
  · rw [Hg.out] at hg; cases hg
  obtain rfl : g = g' := by rw [Hg.out] at hg; injection hg
  obtain rfl : m5 = m6 := by have := (ownTs_len hown).1; have := Hlen5.out; omega
  have R6 := Lib.hid (hown.rd (by omega) hshort.out)
  clear hg hown
  go_wp2_with fail
  refine (sameTasks_any A5 A6 m5 c5 c6 _ _ _ _ R5.out R6.out).mono ?_; rintro e w5 ⟨rfl, m7, rfl⟩
  have HB5 := Lib.hid (below_drewN HB4.out m7)
  have D5 := Lib.hid (below_drewN D4.out m7)
  have HR5 := Lib.hid (HR4.out.up (drew_below w4 m7))
  have R55 := Lib.hid (R5.out.up (drew_below w4 m7))
  generalize (w4.drewN m7) = w5 at HB5 D5 HR5 R55 ⊢
  clear HR4 HB4 D4 R5 R6 HR3 HB3 D3 HR2 HB2
  obtain ⟨x0, x1⟩ := hk.out _ D5.out
  go_wp2_with fail
  refine (evictListI_any A1 A2 A3 A4 3 3 n2 c2 n3 c3 3 3 room rk ts id xs r _ HR5.out.a HR5.out.b HR5.out.c HR5.out.d hc2 (Nat.le_refl _) hzm).mono ?_; rintro e v0 ⟨hres, d6⟩
  have HBw := Lib.hid (below_to HB5.out d6)
  have DW := Lib.hid (below_to D5.out d6)
  have HRw := Lib.hid (HR5.out.up d6)
  have RD := Lib.hid (R55.out.up d6)
  clear d6 x0 x1 HB5 D5 HR5 R55
  rcases hres with ⟨hg, _⟩ | ⟨g', A7, m9, c7, hg, rfl, hown⟩
  · rw [Hg.out] at hg; cases hg
  obtain rfl : g = g' := by rw [Hg.out] at hg; injection hg
  have hlen := own_len hown
  have hm9 : m9 ≤ 8 := by have := listG_len g ts.length; have := HL2.out; omega
  have RO := Lib.hid (own_rdI hown (by omega))
  have Hlen := Lib.hid hlen
  have ts_ := Lib.hid (evRoom Hg.out)
  have Hany := Lib.hid (fun i (hi : i < ts.length) => listG_any (g := g) hi)
  clear hg hown hlen hshort
  have Ow0 := Lib.hid (show (v0.alloc (.cells #[] 33)).ownsRow v0.heap.size 33 2 (.slice (some ⟨v0.heap.size, 0, none⟩) 0 0) 0 [] from World.ownsRow_made v0 #[] 0 (Nat.le_refl _) (by unfold maxLen; omega) rfl)
  have Bw0 := Lib.hid (alloc_up v0 (.cells #[] 33))
  go_wp2_with fail
  go_loopw [14, 15] (fun v i wr => ∃ (k : Nat) (A0 : Option Addr) (m0 c0 : Nat) (vs : List Value), i = .int .i64 k ∧ k ≤ n2 ∧ v = .slice A0 m0 c0 ∧ Below v0.heap.size v0 wr ∧ Hid (m0 = (keptP ts g k).length) ∧
    wr.ownsRow v0.heap.size 33 2 (.slice A0 m0 c0) m0 vs ∧ TkCells wr v0.heap.size vs (keptP ts g k)) (fun _ i _ => n2 - (intOf i).toNat)
  case atStart => exact ⟨0, _, _, _, [], rfl, Nat.zero_le _, rfl, Bw0.out, Lib.hid rfl, Ow0.out, TkCells.nil⟩
  case round =>
    clear Ow0 Bw0
    obtain ⟨k, A0, m0, c0, vs, rfl, hk', rfl, Hbel0, hm, hown, htk⟩ := hrel
    have Hbel := Lib.hid Hbel0
    have Hown := Lib.hid hown
    have Htk := Lib.hid htk
    clear hown htk
    by_cases hlt : k < n2
    · obtain ⟨b1, o1, A3', m3, c3', rfl, lb1, hc1, hc3, hle3, hr3⟩ := (HRw.out.b.below Hbel0).at_ hlt
      have Hr3 := Lib.hid hr3
      have lz := Hbel0.size
      have lm : m0 ≤ 8 := by have := keptP_len ts g k; have := hm.out; omega
      have kk1 : (0 : Int) ≤ (k : Int) := by omega
      have kk2 : (k : Int) < (n2 : Int) := by omega
      have ROw := Lib.hid (RO.out.below Hbel0)
      have hAk := Lib.hid (Hany.out k (by have := HL2.out; omega))
      clear hr3 Hbel0
      go_wp2_with fail
      go_loop [16, 17] (fun v d => ∃ j : Nat, d = .int .i64 j ∧ j ≤ m9 ∧ v = .bool (((listG g ts.length).take j).any (fun x => x == (k : Int)))) (fun _ d => m9 - (intOf d).toNat)
      case atStart => exact ⟨0, rfl, Nat.zero_le _, by simp⟩
      case round =>
        obtain ⟨j, rfl, hj, rfl⟩ := hrel
        by_cases hjm : j < m9
        · obtain ⟨q', _, _, hq'⟩ := listG_at (g := g) (n := ts.length) (j := j) (by rw [Hlen.out]; exact hjm)
          obtain ⟨b4, o4, hA4, lb4, hco⟩ := ROw.out.at_ hjm
          subst hA4
          rw [hq'] at hco
          have hstep : ((listG g ts.length).take (j + 1)).any (fun x => x == (k : Int)) = (((listG g ts.length).take j).any (fun x => x == (k : Int)) || ((q' : Int) == (k : Int))) := by
            have hjl : j < (listG g ts.length).length := by rw [Hlen.out]; exact hjm
            rw [List.getElem?_eq_getElem hjl] at hq'
            rw [List.take_add_one, List.getElem?_eq_getElem hjl, List.any_append]
            simp only [Option.getD_some] at hq'
            simp [hq']
          have Hstep := Lib.hid hstep
          have j1 : (0 : Int) ≤ (j : Int) := by omega
          have j2 : (j : Int) < (m9 : Int) := by omega
          clear hstep hq'
          generalize ((listG g ts.length).take j).any (fun x => x == (k : Int)) = B0 at Hstep ⊢
          cases B0 with
          | true =>
            go_wp2_with fail
            go_round
            case rel => exact ⟨j + 1, by go_num, by omega, by rw [Hstep.out]; simp⟩
            case measure => simp [intOf]; omega
          | false =>
            by_cases hxk : q' = k
            · have e7 : ((q' : Int) == (k : Int)) = true := by simp [hxk]
              have Hxk := Lib.hid hxk
              clear hxk
              go_wp2_with fail
              go_round
              case rel => exact ⟨j + 1, by go_num, by omega, by rw [Hstep.out]; simp [Hxk.out]⟩
              case measure => simp [intOf]; omega
            · have e7 : ((q' : Int) == (k : Int)) = false := by simp; omega
              have Hxk := Lib.hid e7
              clear hxk
              go_wp2_with fail
              go_round
              case rel => exact ⟨j + 1, by go_num, by omega, by rw [Hstep.out, Hxk.out]; simp⟩
              case measure => simp [intOf]; omega
        · obtain rfl : j = m9 := by omega
          rw [List.take_of_length_le (by rw [Hlen.out]; exact Nat.le_refl _), hAk.out]
          cases hgk : g k with
          | true =>
            have Hgk := Lib.hid hgk
            clear hgk
            go_wp2_with fail
            go_roundw
            case measure => simp [intOf]; omega
            case rel => exact ⟨k + 1, A0, m0, c0, vs, by go_num, by omega, rfl, Hbel.out, by rw [keptP, if_pos Hgk.out]; exact hm, Hown.out, by rw [keptP, if_pos Hgk.out]; exact Htk.out⟩
          | false =>
            have Hgk := Lib.hid hgk
            clear hgk
            have Hal := Lib.hid (alloc_up wr (.cells #[.int .i64 (ts[k]?.getD (0, [])).1, .slice A3' m3 c3'] 33))
            have Ho := Lib.hid (own_keep Hown.out (w' := wr.alloc (.cells #[.int .i64 (ts[k]?.getD (0, [])).1, .slice A3' m3 c3'] 33)) (fun b hb => Below.heap_alloc _ _ _ (Hown.out.lt b hb).2))
            have Hx := Lib.hid (own_src (own_built (w := wr) (base := 0) 33 (.int .i64 (ts[k]?.getD (0, [])).1) (.slice A3' m3 c3') (by omega)))
            have lz1 : v0.heap.size ≤ (wr.alloc (.cells #[.int .i64 (ts[k]?.getD (0, [])).1, .slice A3' m3 c3'] 33)).heap.size := by simp; omega
            go_wp2_with (at_builtin; refine wpList_append_src _ rfl _ _ 31 rfl v0.heap.size 33 i0 _ 2 32 Tryz.underlying31 hi0 hz0 hz1 hz2 rfl (by omega) (.slice A0 m0 c0) m0 vs rfl Ho.out (some ⟨wr.heap.size, 0, none⟩) 1 1 [.int .i64 (ts[k]?.getD (0, [])).1, .slice A3' m3 c3'] rfl Hx.out (by simp [Value.oneCell']) (by unfold maxLen; omega) (by omega) lz1 ?_; intro v' w9 hown9 hgrow hat)
            have hb' : Below v0.heap.size v0 w9 := (Hbel.out.alloc lz _).grown hgrow lz1 (fun j e => (Ho.out.lt j e).1)
            have ht' := ((Htk.out.keep (w' := wr.alloc (.cells #[.int .i64 (ts[k]?.getD (0, [])).1, .slice A3' m3 c3'] 33)) (fun p hp => Hal.out.cell (by omega)) (Nat.le_refl _)).append (TkCells.single (id := (ts[k]?.getD (0, [])).1) (Hr3.out.keep (w' := wr.alloc (.cells #[.int .i64 (ts[k]?.getD (0, [])).1, .slice A3' m3 c3'] 33)) (fun p hp => Hal.out.cell (by omega)) (Nat.le_refl _)) hle3)).below ((Below.refl v0.heap.size _).grown hgrow lz1 (fun j e => (Ho.out.lt j e).1))
            obtain ⟨A9, c9, rfl⟩ := own_shape hown9
            have Hown9 := Lib.hid hown9
            have Ht := Lib.hid ht'
            have Hb' := Lib.hid hb'
            clear hown9 ht' hgrow hat hb' Hal Ho Hx
            go_roundw
            case measure => simp [intOf]; omega
            case rel => exact ⟨k + 1, A9, m0 + 1, c9, _, by go_num, by omega, rfl, Hb'.out, Lib.hid (by rw [keptP, if_neg (by rw [Hgk.out]; simp), List.length_append, ← hm.out]; rfl), Hown9.out, by rw [keptP, if_neg (by rw [Hgk.out]; simp)]; exact Ht.out⟩
    · have ek : k = ts.length := by have := HL2.out; omega
      have hts := Lib.hid (show keptP ts g k = keptP ts g ts.length by rw [ek])
      clear ek
      rw [← hts.out] at ts_ RD Hlen5
      have em : m5 = m0 + 1 := by have h1 := Hlen5.out; rw [List.length_append, List.length_singleton] at h1; have := hm.out; omega
      clear Hlen5
      subst em
      obtain ⟨x0, x1⟩ := hk.out wr (below_to DW.out Hbel0)
      have lm' : m0 ≤ 8 := by omega
      have lz := Hbel.out.size
      have HX := Lib.hid (own_src (own_built (w := wr) (base := 0) 33 (.int .i64 id) (.slice A4 3 3) (by omega)))
      have Ho := Lib.hid (own_keep Hown.out (w' := wr.alloc (.cells #[.int .i64 id, .slice A4 3 3] 33)) (fun b hb => Below.heap_alloc _ _ _ (Hown.out.lt b hb).2))
      have lz1 : v0.heap.size ≤ (wr.alloc (.cells #[.int .i64 id, .slice A4 3 3] 33)).heap.size := by simp; omega
      go_wp2_with (at_builtin; refine wpList_append_srcG (by rfl) _ _ 31 rfl v0.heap.size 33 i0 _ 2 32 Tryz.underlying31 hi0 hz0 hz1 hz2 rfl (by omega) (.slice A0 m0 c0) m0 vs rfl Ho.out (some ⟨wr.heap.size, 0, none⟩) 1 1 [.int .i64 id, .slice A4 3 3] rfl HX.out (by simp [Value.oneCell']) (by unfold maxLen; omega) (by omega) lz1 ?_; intro v' w9 hown9 hgrow hat; obtain ⟨A9, c9, rfl⟩ := own_shape hown9)
      have hb' : Below v0.heap.size v0 w9 := (Hbel.out.alloc lz _).grown hgrow lz1 (fun j e => (Ho.out.lt j e).1)
      have hdx := HRw.out.d
      have ht' := ((Htk.out.below (alloc_up wr (.cells #[.int .i64 id, .slice A4 3 3] 33) |>.mono lz)).append (TkCells.single (id := id) (hdx.below (Hbel.out.alloc lz (.cells #[.int .i64 id, .slice A4 3 3] 33))) (Nat.le_refl 3))).below ((Below.refl v0.heap.size _).grown hgrow lz1 (fun j e => (Ho.out.lt j e).1))
      have HT9 := Lib.hid (RdT.of_own hown9 ht' hb'.size (by omega))
      have HB9 := Lib.hid hb'
      clear hown9 ht' hgrow hat hb' hdx Ho HX x0 x1
      go_wp2_with fail
      refine (sameTasks_any A9 A5 (m0 + 1) c9 c5 _ _ _ w9 HT9.out (RD.out.below HB9.out)).mono ?_; rintro e w10 ⟨rfl, m10, rfl⟩
      have HB9' := Lib.hid (below_drewN HB9.out m10)
      clear HB9 HT9
      generalize w9.drewN m10 = u9 at HB9' ⊢
      have SZ9 := HB9'.out.size
      have HB10 := Lib.hid (HB9'.out.alloc SZ9 (.cells #[.slice A5 (m0 + 1) c5] 31))
      have HR10 := Lib.hid (RdB.one (Blk.new u9 31 #[.slice A5 (m0 + 1) c5]) Hcap5.out (RD.out.up HB10.out))
      go_wp2_with fail
      refine (binsValidI_any A1 _ 3 3 1 1 room _ _ (HRw.out.a.up HB10.out) HR10.out (by have := hm.out; simp; omega)).mono ?_; rintro e w11 ⟨rfl, hb11⟩
      rw [ts_.out]
      go_wp2
      go_ret
      exact ⟨rfl, below_to HBw.out (below_to HB10.out hb11)⟩

end Go.Proofs.YtkcflajhmekcaaaGreat
