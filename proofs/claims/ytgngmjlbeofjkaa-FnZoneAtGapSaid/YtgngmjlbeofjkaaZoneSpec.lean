/- Walks: spec.l43Ok, l43Counts, ZoneCounts, ZoneGap. -/
import Derived.Test.YtgngmjlbeofjkaaZonePure
namespace Go.Proofs.Ytgngmjlbeofjkaa
open Go.RowKit

set_option maxRecDepth 100000 in
set_option maxHeartbeats 800000 in
theorem l43Ok_any (A1 A2 A3 A4 : Option Addr) (n1 c1 n2 c2 n3 c3 n4 c4 : Nat) (room zones ids : List Int) (bs : List (List Tk)) (w : World) (h1 : RdI w w.heap.size A1 n1 room) (h2 : RdB w w.heap.size A2 n2 bs)
    (h3 : RdI w w.heap.size A3 n3 zones) (h4 : RdI w w.heap.size A4 n4 ids) (hz : bs.flatten.length ≤ 1048576) :
    Calls Try.prog 39 #[.slice A1 n1 c1, .slice A2 n2 c2, .slice A3 n3 c3, .slice A4 n4 c4] w fun e w' => e = .returned (.bool (zonesOk room bs zones ids)) ∧ Below w.heap.size w w' := by
  have l2 := Lib.hid h2.len
  have l3 := Lib.hid h3.len
  have l4 := Lib.hid h4.len
  have b2 := h2.le
  have b3 := h3.le
  have b4 := h4.le
  have H1 := Lib.hid h1
  have H2 := Lib.hid h2
  have H3 := Lib.hid h3
  have H4 := Lib.hid h4
  clear h1 h2 h3 h4
  go_enter Try.func39, Try.ntmps39
  go_wp2
  go_loop [9] (fun i => ∃ k : Nat, i = .int .i64 k ∧ k ≤ n3 ∧ (∀ j, j < k → inR 0 3 (zones[j]?.getD 0) = true)) (fun i => n3 - (intOf i).toNat)
  case atStart => exact ⟨0, rfl, Nat.zero_le _, by intro j hj; omega⟩
  case round =>
    obtain ⟨k, rfl, hk, hall⟩ := hrel
    have Hall := Lib.hid hall
    clear hall
    by_cases hlt : k < n3
    · obtain ⟨b, o, rfl, hb, hc⟩ := H3.out.at_ hlt
      by_cases hin : inR 0 3 (zones[k]?.getD 0) = true
      · have Hin := Lib.hid hin
        go_wp2_with (go_at_call 61; refine (l6In_any _ _ _ _).mono ?_; rintro e w' ⟨rfl, rfl⟩)
        go_round
        case rel => exact ⟨k + 1, by go_num, by omega, fun j hj => by
          by_cases e : j = k
          · rw [e]; exact Hin.out
          · exact Hall.out j (by omega)⟩
        case measure => simp [intOf]; omega
      · have hin : inR 0 3 (zones[k]?.getD 0) = false := by simpa using hin
        go_wp2_with (go_at_call 61; refine (l6In_any _ _ _ _).mono ?_; rintro e w' ⟨rfl, rfl⟩)
        go_ret
        exact ⟨ret_bool (zonesOk_bad_zone (by rw [l3.out]; exact hlt) hin).symm, Below.refl _ _⟩
    · have ek : k = n3 := by omega
      subst ek
      have Hz := Lib.hid (fun j hj => Hall.out j (by have := l3.out; omega) : ∀ j, j < zones.length → inR 0 3 (zones[j]?.getD 0) = true)
      clear Hall
      go_wp2
      go_loopw [10] (fun i wr => ∃ k m : Nat, i = .int .i64 k ∧ k ≤ n4 ∧ wr = w.drewN m ∧ (∀ j, j < k → inR 1 40 (ids[j]?.getD 0) = true ∧ ∀ i, i < j → ids[i]?.getD 0 ≠ ids[j]?.getD 0)) (fun i _ => n4 - (intOf i).toNat)
      case atStart => exact ⟨0, 0, rfl, Nat.zero_le _, rfl, by intro j hj; omega⟩
      case round =>
        obtain ⟨k, m, rfl, hk4, rfl, hall⟩ := hrel
        have Hall := Lib.hid hall
        clear hall
        by_cases hlt4 : k < n4
        · obtain ⟨b, o, rfl, hb, hc⟩ := H4.out.at_ hlt4
          by_cases hin : inR 1 40 (ids[k]?.getD 0) = true
          · have Hin := Lib.hid hin
            go_wp2_with (go_at_call 61; refine (l6In_any _ _ _ _).mono ?_; rintro e w' ⟨rfl, rfl⟩)
            go_loopw [11] (fun i wr => ∃ q m : Nat, i = .int .i64 q ∧ q ≤ k ∧ wr = w.drewN m ∧ (∀ j, j < q → ids[j]?.getD 0 ≠ ids[k]?.getD 0)) (fun i _ => k - (intOf i).toNat)
            case atStart => exact ⟨0, m, rfl, Nat.zero_le _, rfl, by intro j hj; omega⟩
            case round =>
              obtain ⟨q, m, rfl, hq, rfl, hallq⟩ := hrel
              have Hallq := Lib.hid hallq
              clear hallq
              by_cases hqk : q < k
              · obtain ⟨b', o', e', hb', hcq⟩ := H4.out.at_ (show q < n4 by omega)
                injection e' with e'
                injection e' with e1 e2
                subst e1 e2
                have k1 : (0 : Int) ≤ (k : Int) := by omega
                have k2 : (k : Int) < (n4 : Int) := by omega
                have k3 : (0 : Int) ≤ (q : Int) := by omega
                have k4 : (q : Int) < (n4 : Int) := by omega
                by_cases he : (ids[q]?.getD 0 == ids[k]?.getD 0) = true
                · go_wp2
                  go_quiet (fail)
                  go_wp2
                  go_ret
                  exact ⟨ret_bool (zonesOk_twice (by rw [l4.out]; exact hlt4) hqk (by simpa using he)).symm, below_drewN (below_drewN (Below.refl _ _) _) _⟩
                · have he : (ids[q]?.getD 0 == ids[k]?.getD 0) = false := by simpa using he
                  have He := Lib.hid he
                  go_wp2
                  go_quiet (fail)
                  go_wp2
                  go_roundw
                  case rel => exact ⟨q + 1, _, by go_num, by omega, rfl, fun j hj => by
                    by_cases e : j = q
                    · rw [e]; simpa using He.out
                    · exact Hallq.out j (by omega)⟩
                  case measure => simp [intOf]; omega
              · have eq : q = k := by omega
                have Eq := Lib.hid eq
                clear eq
                go_wp2
                go_roundw
                case rel => exact ⟨k + 1, _, by go_num, by omega, rfl, fun j hj => by
                  by_cases e : j = k
                  · rw [e]; exact ⟨Hin.out, by rw [Eq.out] at Hallq; exact Hallq.out⟩
                  · exact Hall.out j (by omega)⟩
                case measure => simp [intOf]; omega
          · have hin : inR 1 40 (ids[k]?.getD 0) = false := by simpa using hin
            go_wp2_with (go_at_call 61; refine (l6In_any _ _ _ _).mono ?_; rintro e w' ⟨rfl, rfl⟩)
            go_ret
            exact ⟨ret_bool (zonesOk_bad_id (by rw [l4.out]; exact hlt4) hin).symm, below_drewN (Below.refl _ _) _⟩
        · have Hi := Lib.hid (fun j hj => Hall.out j (by have := l4.out; omega) : ∀ j, j < ids.length → inR 1 40 (ids[j]?.getD 0) = true ∧ ∀ i, i < j → ids[i]?.getD 0 ≠ ids[j]?.getD 0)
          clear Hall
          by_cases hbo : binsOk room bs = true
          · go_wp2_with (go_at_call 62; refine (binsValidS_any _ _ _ _ _ _ _ _ _ (H1.out.drewN m) (H2.out.drewN m) hz).mono ?_; rintro e w1 ⟨rfl, hb1⟩)
            go_ret
            refine ⟨ret_bool ?_, (below_drewN (Below.refl _ _) m).trans hb1⟩
            rw [zonesOk_rest Hz.out Hi.out, hbo, l2.out, l3.out, Bool.true_and, Bool.eq_iff_iff]
            simp
            omega
          · have hbo : binsOk room bs = false := by simpa using hbo
            go_wp2_with (go_at_call 62; refine (binsValidS_any _ _ _ _ _ _ _ _ _ (H1.out.drewN m) (H2.out.drewN m) hz).mono ?_; rintro e w1 ⟨rfl, hb1⟩)
            go_ret
            refine ⟨ret_bool ?_, (below_drewN (Below.refl _ _) m).trans hb1⟩
            rw [zonesOk_rest Hz.out Hi.out, hbo]
            simp

theorem ints_set (c : List Int) (j : Nat) (x : Int) : ((c.map (Value.int .i64)).toArray.setIfInBounds j (.int .i64 x)) = ((c.set j x).map (Value.int .i64)).toArray := by
  simp [List.map_set]

set_option maxRecDepth 100000 in
set_option maxHeartbeats 1600000 in
theorem l43Counts_any (A2 A3 A4 : Option Addr) (n2 c2 n3 c3 n4 c4 : Nat) (zones ids : List Int) (bs : List (List Tk)) (w : World) (h2 : RdB w w.heap.size A2 n2 bs)
    (h3 : RdI w w.heap.size A3 n3 zones) (h4 : RdI w w.heap.size A4 n4 ids) (hz : n3 = n2) (hzz : ∀ j : Nat, 0 ≤ zones[j]?.getD 0 ∧ zones[j]?.getD 0 ≤ 3) :
    Calls Try.prog 40 #[.slice A2 n2 c2, .slice A3 n3 c3, .slice A4 n4 c4] w fun e w' => ∃ g, e = .returned (.slice (some ⟨g, 0, none⟩) 4 4) ∧ w.heap.size ≤ g ∧ Blk w' g 3 ((countsP bs zones ids).map (Value.int .i64)).toArray ∧ Below w.heap.size w w' := by
  have l2 := Lib.hid h2.len
  have l4 := Lib.hid h4.len
  have b2 := h2.le
  have b4 := h4.le
  have H2 := Lib.hid h2
  have H3 := Lib.hid h3
  have H4 := Lib.hid h4
  have Hz := Lib.hid hzz
  clear h2 h3 h4 hzz
  subst hz
  have hmk : ∀ w, (Instr.makeSlice 22 (.int .i64 4) (.int .i64 4)).run Try.prog w = .ok (.slice (some ⟨w.heap.size, 0, none⟩) 4 4) (w.alloc (.cells #[.int .i64 0, .int .i64 0, .int .i64 0, .int .i64 0] 3)) := fun _ => by kernel_rfl
  go_enter Try.func40, Try.ntmps40
  go_wp2
  clear hmk
  go_loopw [8] (fun i wr => ∃ k : Nat, i = .int .i64 k ∧ k ≤ n4 ∧ Below w.heap.size w wr ∧ Blk wr w.heap.size 3 ((countsP bs zones (ids.take k)).map (Value.int .i64)).toArray) (fun i _ => n4 - (intOf i).toNat)
  case atStart => exact ⟨0, rfl, Nat.zero_le _, (Below.refl _ _).alloc (Nat.le_refl _) _, Blk.new w _ _⟩
  case round =>
    obtain ⟨k, rfl, hk, hbel, hblk⟩ := hrel
    have Hblk := Lib.hid hblk
    clear hblk
    by_cases hlt : k < n4
    · obtain ⟨b, o, rfl, hb, hc⟩ := (H4.out.below hbel).at_ hlt
      have hkl : Hid (k < ids.length) := by have := l4.out; show _ < _; omega
      have lz := hbel.size
      rcases whereP_cases bs (ids[k]?.getD 0) with ⟨hw, _⟩ | ⟨p, hp, hw, _⟩
      · have Hw := Lib.hid hw
        have ecall : ∀ W, (RdB W W.heap.size A2 n3 bs) → Calls Try.prog 63 #[.slice A2 n3 c2, .int .i64 (ids[k]?.getD 0)] W fun e w' => e = .returned (.int .i64 (-1)) ∧ ∃ m, W.drewN m = w' := by
          intro W hW; rw [← hw]; exact l2Where_any _ _ _ _ _ _ hW
        have Ecall := Lib.hid ecall
        clear ecall hw
        go_wp2_with (go_at_call 63; refine (Ecall.out _ ((H2.out.below hbel).more lz)).mono ?_; rintro e w1 ⟨rfl, m, rfl⟩)
        go_roundw
        case rel => exact ⟨k + 1, by go_num, by omega, below_drewN hbel _, by rw [countsP_succ hkl.out, stepC, if_neg (by rw [Hw.out]; omega)]; exact Hblk.out.drewN _⟩
        case measure => simp [intOf]; omega
      · have Hw := Lib.hid hw
        have ecall : ∀ W, (RdB W W.heap.size A2 n3 bs) → Calls Try.prog 63 #[.slice A2 n3 c2, .int .i64 (ids[k]?.getD 0)] W fun e w' => e = .returned (.int .i64 (p : Int)) ∧ ∃ m, W.drewN m = w' := by
          intro W hW; rw [← hw]; exact l2Where_any _ _ _ _ _ _ hW
        have Ecall := Lib.hid ecall
        have hpn : p < n3 := by have := l2.out; omega
        obtain ⟨b3, o3, rfl, hb3, hc3⟩ := (H3.out.below hbel).at_ hpn
        obtain ⟨z, hz⟩ := Int.eq_ofNat_of_zero_le (Hz.out p).1
        have hz3 : z ≤ 3 := by have := (Hz.out p).2; omega
        have hlen := countsP_len bs zones (ids.take k)
        have hcz : wr.cell? ⟨w.heap.size, z, none⟩ = some (.int .i64 ((countsP bs zones (ids.take k))[z]?.getD 0)) := by
          rw [Hblk.out.cell]
          simp [List.getElem?_eq_getElem (show z < (countsP bs zones (ids.take k)).length by omega)]
        have hfz : wr.frozen? ⟨w.heap.size, z, none⟩ = false := Hblk.out.frozen _
        have hbd := countsP_bd bs zones (ids.take k) z
        have hle : (ids.take k).length ≤ k := List.length_take_le _ _
        obtain ⟨v, hv⟩ : ∃ v, v = (countsP bs zones (ids.take k))[z]?.getD 0 := ⟨_, rfl⟩
        rw [← hv] at hcz hbd
        have Hv := Lib.hid hv
        have Hzz := Lib.hid hz
        rw [hz] at hc3
        have v1 : 0 ≤ v := hbd.1
        have v2 : v ≤ (k : Int) := by omega
        have q1 : (0 : Int) ≤ (p : Int) := by omega
        have q2 : (p : Int) < (n3 : Int) := by omega
        have q3 : (0 : Int) ≤ (z : Int) := by omega
        have q4 : (z : Int) < 4 := by omega
        clear ecall hw hlen hbd hle hv hz
        go_wp2_with (go_at_call 63; refine (Ecall.out _ ((H2.out.below hbel).more lz)).mono ?_; rintro e w1 ⟨rfl, m, rfl⟩; obtain ⟨wq, hwq⟩ : ∃ wq, wr.drewN m = wq := ⟨_, rfl⟩; have hcz' : wq.cell? ⟨w.heap.size, z, none⟩ = some (.int .i64 v) := by rw [← hwq]; exact hcz
                     have hc3' : wq.cell? ⟨b3, o3 + p, none⟩ = some (.int .i64 (z : Int)) := by rw [← hwq]; exact hc3
                     have hfz' : wq.frozen? ⟨w.heap.size, z, none⟩ = false := by rw [← hwq]; exact hfz
                     rw [hwq]; have Hwq := Lib.hid hwq; clear hwq hcz hc3 hfz hc)
        go_region
        go_wp2
        go_roundw
        case rel =>
          have hq : Below w.heap.size w wq := by rw [← Hwq.out]; exact below_drewN hbel _
          have hbq : Blk wq w.heap.size 3 ((countsP bs zones (ids.take k)).map (Value.int .i64)).toArray := by rw [← Hwq.out]; exact Hblk.out.drewN _
          refine ⟨k + 1, by go_num, by omega, (hq.setCell (p := ⟨w.heap.size, z, none⟩) (Nat.le_refl _) _).drew, ?_⟩
          have := (hbq.set_ z (.int .i64 (v + 1))).drew
          rw [ints_set] at this
          rw [countsP_succ hkl.out, stepC, if_pos (by rw [Hw.out]; omega), bump, Hw.out, Int.toNat_natCast, Hzz.out, Int.toNat_natCast, ← Hv.out]
          exact this
        case measure => simp [intOf]; omega
    · have ek : k = n4 := by omega
      have Ek := Lib.hid ek
      clear ek
      go_wp2
      go_ret
      refine ⟨_, rfl, Nat.le_refl _, ?_, hbel⟩
      have := Hblk.out
      rw [Ek.out, List.take_of_length_le (by have := l4.out; omega)] at this
      exact this

/-- The four counts, read. -/
theorem counts_cell {w : World} {g : Nat} {t : TypeId} {c : List Int} (h : Blk w g t (c.map (Value.int .i64)).toArray) (hl : c.length = 4) {z : Nat} (hz : z ≤ 3) : w.cell? ⟨g, z, none⟩ = some (.int .i64 (c[z]?.getD 0)) := by
  rw [h.cell]
  simp [List.getElem?_eq_getElem (show z < c.length by omega)]

/-- The greatest of some counts, from a start on. -/
def mostP (c zones : List Int) (s : Int) : Int := zones.foldl (fun m z => max m (c[z.toNat]?.getD 0)) s
def leastP (c zones : List Int) (s : Int) : Int := zones.foldl (fun m z => min m (c[z.toNat]?.getD 0)) s
theorem mostP_succ {c zones : List Int} {s : Int} {k : Nat} (h : k < zones.length) : mostP c (zones.take (k + 1)) s = max (mostP c (zones.take k) s) (c[(zones[k]?.getD 0).toNat]?.getD 0) := by
  unfold mostP
  rw [List.take_succ_eq_append_getElem h, List.foldl_append, List.getElem?_eq_getElem h]
  rfl
theorem leastP_succ {c zones : List Int} {s : Int} {k : Nat} (h : k < zones.length) : leastP c (zones.take (k + 1)) s = min (leastP c (zones.take k) s) (c[(zones[k]?.getD 0).toNat]?.getD 0) := by
  unfold leastP
  rw [List.take_succ_eq_append_getElem h, List.foldl_append, List.getElem?_eq_getElem h]
  rfl
/-- ZoneGap. -/
def gapP (room : List Int) (bs : List (List Tk)) (zones ids : List Int) : Int :=
  if zonesOk room bs zones ids then max (mostP (countsP bs zones ids) zones 0 - leastP (countsP bs zones ids) zones 14) 0 else -1
theorem fold_bd (c zones : List Int) {N : Int} (hc : ∀ i : Nat, 0 ≤ c[i]?.getD 0 ∧ c[i]?.getD 0 ≤ N) : ∀ s : Int, 0 ≤ s → s ≤ N → (0 ≤ mostP c zones s ∧ mostP c zones s ≤ N) ∧ (0 ≤ leastP c zones s ∧ leastP c zones s ≤ N) := by
  induction zones with
  | nil => intro s h1 h2; exact ⟨⟨h1, h2⟩, h1, h2⟩
  | cons z zones ih =>
    intro s h1 h2
    have := hc z.toNat
    exact ⟨(ih (max s (c[z.toNat]?.getD 0)) (by omega) (by omega)).1, (ih (min s (c[z.toNat]?.getD 0)) (by omega) (by omega)).2⟩

set_option maxRecDepth 100000 in
set_option maxHeartbeats 1600000 in
theorem zoneGapS_any (A1 A2 A3 A4 : Option Addr) (n1 c1 n2 c2 n3 c3 n4 c4 : Nat) (room zones ids : List Int) (bs : List (List Tk)) (w : World) (h1 : RdI w w.heap.size A1 n1 room) (h2 : RdB w w.heap.size A2 n2 bs)
    (h3 : RdI w w.heap.size A3 n3 zones) (h4 : RdI w w.heap.size A4 n4 ids) (hz : bs.flatten.length ≤ 1048576) :
    Calls Try.prog 14 #[.slice A1 n1 c1, .slice A2 n2 c2, .slice A3 n3 c3, .slice A4 n4 c4] w fun e w' => e = .returned (.int .i64 (gapP room bs zones ids)) ∧ Below w.heap.size w w' := by
  have l2 := Lib.hid h2.len
  have l3 := Lib.hid h3.len
  have l4 := Lib.hid h4.len
  have b3 := h3.le
  have b4 := h4.le
  have H1 := Lib.hid h1
  have H2 := Lib.hid h2
  have H3 := Lib.hid h3
  have H4 := Lib.hid h4
  clear h1 h2 h3 h4
  by_cases hok : zonesOk room bs zones ids = true
  · have Hok := Lib.hid hok
    go_enter Try.func14, Try.ntmps14
    go_wp2_with fail
    refine (l43Ok_any _ _ _ _ _ _ _ _ _ _ _ _ _ _ _ _ _ H1.out H2.out H3.out H4.out hz).mono ?_; rintro e w1 ⟨rfl, hb1⟩
    go_wp2_with fail
    refine (l43Counts_any _ _ _ _ _ _ _ _ _ _ _ _ _ (H2.out.up hb1) (H3.out.up hb1) (H4.out.up hb1) (by have := zonesOk_len Hok.out; have := l2.out; have := l3.out; omega) (zonesOk_zone Hok.out)).mono ?_; rintro e w2 ⟨g, rfl, hg, hblk, hb2⟩
    have hB : Below w.heap.size w w2 := hb1.trans (hb2.mono hb1.size)
    obtain ⟨C, hC⟩ : ∃ C, C = countsP bs zones ids := ⟨_, rfl⟩
    rw [← hC] at hblk
    have HC := Lib.hid hC
    have hcl : Hid (C.length = 4) := by rw [hC]; exact countsP_len _ _ _
    have hcb : Hid (∀ i : Nat, 0 ≤ C[i]?.getD 0 ∧ C[i]?.getD 0 ≤ 9223372036854775807) := by
      intro i; rw [hC]; have := countsP_bd bs zones ids i; have := l4.out; omega
    have Hblk := Lib.hid hblk
    clear hC hblk hok
    go_wp2
    go_loop [10, 11, 12] (fun m l i => ∃ k : Nat, i = .int .i64 k ∧ k ≤ n3 ∧ m = .int .i64 (mostP C (zones.take k) 0) ∧ l = .int .i64 (leastP C (zones.take k) 14)) (fun _ _ i => n3 - (intOf i).toNat)
    case atStart => exact ⟨0, rfl, Nat.zero_le _, rfl, rfl⟩
    case round =>
      obtain ⟨k, rfl, hk, rfl, rfl⟩ := hrel
      by_cases hlt : k < n3
      · obtain ⟨b, o, rfl, hb, hc⟩ := (H3.out.below hB).at_ hlt
        have hkl : Hid (k < zones.length) := by have := l3.out; show _ < _; omega
        obtain ⟨z, hz⟩ := Int.eq_ofNat_of_zero_le (zonesOk_zone Hok.out k).1
        have hz3 : z ≤ 3 := by have := (zonesOk_zone Hok.out k).2; omega
        have hcz := counts_cell Hblk.out hcl.out hz3
        rw [hz] at hc
        have Hz := Lib.hid hz
        clear hz
        go_wp2
        go_round
        case rel => exact ⟨k + 1, by go_num, by omega, by rw [mostP_succ hkl.out, Hz.out, Int.toNat_natCast]; congr 1; split <;> omega, by rw [leastP_succ hkl.out, Hz.out, Int.toNat_natCast]; congr 1; split <;> omega⟩
        case measure => simp [intOf]; omega
      · have ek : k = n3 := by omega
        have e0 : zones.take k = zones := List.take_of_length_le (by have := l3.out; omega)
        have E0 := Lib.hid e0
        rw [e0]
        obtain ⟨⟨m1, m2⟩, m3, m4⟩ := fold_bd C zones hcb.out 0 (by omega) (by omega)
        obtain ⟨_, p3, p4⟩ := fold_bd C zones hcb.out 14 (by omega) (by omega)
        clear ek e0 m3 m4
        go_wp2
        all_goals
          go_ret
          refine ⟨ret_int ?_, hB⟩
          rw [gapP, Hok.out, ← HC.out, if_pos rfl]
          omega
  · have hok : zonesOk room bs zones ids = false := by simpa using hok
    have Hok := Lib.hid hok
    go_enter Try.func14, Try.ntmps14
    go_wp2_with fail
    refine (l43Ok_any _ _ _ _ _ _ _ _ _ _ _ _ _ _ _ _ _ H1.out H2.out H3.out H4.out hz).mono ?_; rintro e w1 ⟨rfl, hb1⟩
    go_wp2
    go_ret
    exact ⟨ret_int (by rw [gapP, Hok.out]; simp), hb1⟩

/-- ZoneCounts of the reference: four counts in new memory, or nothing. -/
theorem zoneCountsS_any (A1 A2 A3 A4 : Option Addr) (n1 c1 n2 c2 n3 c3 n4 c4 : Nat) (room zones ids : List Int) (bs : List (List Tk)) (w : World) (h1 : RdI w w.heap.size A1 n1 room) (h2 : RdB w w.heap.size A2 n2 bs)
    (h3 : RdI w w.heap.size A3 n3 zones) (h4 : RdI w w.heap.size A4 n4 ids) (hz : bs.flatten.length ≤ 1048576) :
    Calls Try.prog 22 #[.slice A1 n1 c1, .slice A2 n2 c2, .slice A3 n3 c3, .slice A4 n4 c4] w fun e w' =>
      (if zonesOk room bs zones ids = true then ∃ g, e = .returned (.slice (some ⟨g, 0, none⟩) 4 4) ∧ w.heap.size ≤ g ∧ Blk w' g 3 ((countsP bs zones ids).map (Value.int .i64)).toArray else ∃ A c, e = .returned (.slice A 0 c)) ∧ Below w.heap.size w w' := by
  have l2 := Lib.hid h2.len
  have l3 := Lib.hid h3.len
  have H1 := Lib.hid h1
  have H2 := Lib.hid h2
  have H3 := Lib.hid h3
  have H4 := Lib.hid h4
  clear h1 h2 h3 h4
  by_cases hok : zonesOk room bs zones ids = true
  · have Hok := Lib.hid hok
    simp only [hok, if_true]
    go_enter Try.func22, Try.ntmps22
    go_wp2_with fail
    refine (l43Ok_any _ _ _ _ _ _ _ _ _ _ _ _ _ _ _ _ _ H1.out H2.out H3.out H4.out hz).mono ?_; rintro e w1 ⟨rfl, hb1⟩
    go_wp2_with fail
    refine (l43Counts_any _ _ _ _ _ _ _ _ _ _ _ _ _ (H2.out.up hb1) (H3.out.up hb1) (H4.out.up hb1) (by have := zonesOk_len Hok.out; have := l2.out; have := l3.out; omega) (zonesOk_zone Hok.out)).mono ?_; rintro e w2 ⟨g, rfl, hg, hblk, hb2⟩
    have Hblk := Lib.hid hblk
    clear hblk hok
    go_wp2
    go_ret
    exact ⟨⟨g, rfl, Nat.le_trans hb1.size hg, Hblk.out⟩, hb1.trans (hb2.mono hb1.size)⟩
  · have hok : zonesOk room bs zones ids = false := by simpa using hok
    simp only [hok, Bool.false_eq_true, if_false]
    go_enter Try.func22, Try.ntmps22
    go_wp2_with fail
    refine (l43Ok_any _ _ _ _ _ _ _ _ _ _ _ _ _ _ _ _ _ H1.out H2.out H3.out H4.out hz).mono ?_; rintro e w1 ⟨rfl, hb1⟩
    go_wp2
    go_ret
    exact ⟨⟨_, _, rfl⟩, hb1.alloc hb1.size _⟩
end Go.Proofs.Ytgngmjlbeofjkaa
