/- Walks: the program's zonesValid, countsOf, ZoneGap, ZoneCounts. -/
import Derived.Test.YtgngmjlbeofjkaaImplWhere
import Derived.Test.YtgngmjlbeofjkaaGapPure
namespace Go.Proofs.Ytgngmjlbeofjkaa
open Go.RowKit

theorem zeroBool (w : World) : (zeroValue 4).run Try.prog w = .ok (.bool false) w := by kernel_rfl

theorem mem_take_iff {ids : List Int} {k : Nat} {id : Int} (hk : k ≤ ids.length) : id ∈ ids.take k ↔ ∃ i, i < k ∧ ids[i]?.getD 0 = id := by
  rw [List.mem_take_iff_getElem]
  constructor
  · rintro ⟨i, hi, rfl⟩
    exact ⟨i, by omega, by rw [List.getElem?_eq_getElem (by omega)]; rfl⟩
  · rintro ⟨i, hi, he⟩
    rw [List.getElem?_eq_getElem (by omega)] at he
    exact ⟨i, by omega, by simpa using he⟩

set_option maxRecDepth 100000 in
set_option maxHeartbeats 1600000 in
theorem zonesValid_any (A1 A2 A3 A4 : Option Addr) (n1 c1 n2 c2 n3 c3 n4 c4 : Nat) (room zones ids : List Int) (bs : List (List Tk)) (w : World) (h1 : RdI w w.heap.size A1 n1 room) (h2 : RdB w w.heap.size A2 n2 bs)
    (h3 : RdI w w.heap.size A3 n3 zones) (h4 : RdI w w.heap.size A4 n4 ids) (hz : bs.flatten.length ≤ 1048576) :
    Calls Try.prog 42 #[.slice A1 n1 c1, .slice A2 n2 c2, .slice A3 n3 c3, .slice A4 n4 c4] w fun e w' => e = .returned (.bool (zonesOk room bs zones ids)) ∧ Below w.heap.size w w' := by
  have l2 := Lib.hid h2.len
  have l3 := Lib.hid h3.len
  have l4 := Lib.hid h4.len
  have b2 := h2.le
  have b3 := h3.le
  have b4 := h4.le
  have H1 := Lib.hid h1
  have H2 := Lib.hid h2
  have H3 := Lib.hid h3
  have H4 := Lib.hid h4
  clear h1 h2 h3 h4
  have hbv := binsValidI_any A1 A2 n1 c1 n2 c2 room bs w H1.out H2.out hz
  by_cases hbo : binsOk room bs = true
  · rw [hbo] at hbv
    have Hbo := Lib.hid hbo
    have Hbv := Lib.hid hbv
    clear hbo hbv
    by_cases hlen : n3 = n2
    · subst hlen
      have hmm := @run_makeMap Try.prog
      go_enter Try.func42, Try.ntmps42
      go_wp2_with (go_at_call 36; refine Hbv.out.mono ?_; rintro e w1 ⟨rfl, hb1⟩)
      go_loop [27] (fun i => ∃ k : Nat, i = .int .i64 k ∧ k ≤ n3 ∧ (∀ j, j < k → inR 0 3 (zones[j]?.getD 0) = true)) (fun i => n3 - (intOf i).toNat)
      case atStart => exact ⟨0, rfl, Nat.zero_le _, by intro j hj; omega⟩
      case round =>
        obtain ⟨k, rfl, hk, hall⟩ := hrel
        have Hall := Lib.hid hall
        clear hall
        by_cases hlt : k < n3
        · obtain ⟨b, o, rfl, hb, hc⟩ := (H3.out.below hb1).at_ hlt
          by_cases hin : inR 0 3 (zones[k]?.getD 0) = true
          · have Hin := Lib.hid hin
            go_wp2_with (go_at_call 64; refine (within_any _ _ _ _).mono ?_; rintro e w' ⟨rfl, rfl⟩)
            go_round
            case rel => exact ⟨k + 1, by go_num, by omega, fun j hj => by
              by_cases e : j = k
              · rw [e]; exact Hin.out
              · exact Hall.out j (by omega)⟩
            case measure => simp [intOf]; omega
          · have hin : inR 0 3 (zones[k]?.getD 0) = false := by simpa using hin
            go_wp2_with (go_at_call 64; refine (within_any _ _ _ _).mono ?_; rintro e w' ⟨rfl, rfl⟩)
            go_ret
            exact ⟨ret_bool (zonesOk_bad_zone (by rw [l3.out]; exact hlt) hin).symm, hb1⟩
        · have Hz := Lib.hid (fun j hj => Hall.out j (by have := l3.out; omega) : ∀ j, j < zones.length → inR 0 3 (zones[j]?.getD 0) = true)
          clear Hall
          have lz1 := hb1.size
          go_wp2
          clear hmm
          go_loopw [38] (fun i wr => ∃ k : Nat, i = .int .i64 k ∧ k ≤ n4 ∧ Below w.heap.size w wr ∧ (∃ l, IMap wr w1.heap.size l ∧ l.map (·.1) = ids.take k ∧ ∀ p ∈ l, p.2 = .bool true) ∧ (∀ j, j < k → inR 1 40 (ids[j]?.getD 0) = true ∧ ∀ i, i < j → ids[i]?.getD 0 ≠ ids[j]?.getD 0)) (fun i _ => n4 - (intOf i).toNat)
          case atStart => exact ⟨0, rfl, Nat.zero_le _, hb1.alloc lz1 _, ⟨[], IMap.made w1, rfl, by simp⟩, by intro j hj; omega⟩
          case round =>
            obtain ⟨k, rfl, hk4, hbel, ⟨l, hl1, hl2, hl3⟩, hall⟩ := hrel
            have Hall := Lib.hid hall
            have L1 := Lib.hid hl1
            have L2 := Lib.hid hl2
            have L3 := Lib.hid hl3
            clear hall hl1 hl2 hl3
            have lz := hbel.size
            by_cases hlt4 : k < n4
            · obtain ⟨b, o, rfl, hb, hc⟩ := (H4.out.below hbel).at_ hlt4
              have hkl : Hid (k < ids.length) := by have := l4.out; show _ < _; omega
              generalize hid0 : ids[k]?.getD 0 = id at hc
              have Hid0 := Lib.hid hid0
              clear hid0
              by_cases hh : id ∈ ids.take k
              · obtain ⟨p, hp, hpe, hlook⟩ : ∃ p ∈ l, p.1 = id ∧ lookL l id = some p.2 := by
                  rw [← L2.out, List.mem_map] at hh
                  exact lookL_some hh
                rw [L3.out p hp] at hlook
                have Hlook := Lib.hid hlook
                have Hh := Lib.hid hh
                clear hlook hpe hh
                go_wp2_with (at_lookup; refine wpList_look rfl _ _ 84 rfl 3 4 Try.underlying84 Try.underlying3 _ (zeroBool _) w1.heap.size l rfl L1.out id rfl (.bool true) (by rw [Hlook.out]; rfl) ?_)
                go_ret
                obtain ⟨i, hi, he⟩ := (mem_take_iff (Nat.le_of_lt hkl.out)).1 Hh.out
                exact ⟨ret_bool (zonesOk_twice hkl.out hi (by rw [he, Hid0.out])).symm, hbel⟩
              · have hlook : lookL l id = none := lookL_none (fun p hp he => hh (by rw [← L2.out]; exact List.mem_map.2 ⟨p, hp, he⟩))
                have Hlook := Lib.hid hlook
                have Hh := Lib.hid hh
                clear hlook hh
                by_cases hin : inR 1 40 id = true
                · have Hin := Lib.hid hin
                  go_wp2_with (first
                    | (at_lookup; refine wpList_look rfl _ _ 84 rfl 3 4 Try.underlying84 Try.underlying3 _ (zeroBool _) w1.heap.size l rfl L1.out id rfl (.bool false) (by rw [Hlook.out]; rfl) ?_)
                    | (go_at_call 65; refine (idValid_any _ _).mono ?_; rintro e w' ⟨rfl, rfl⟩)
                    | (at_mapUpdate; refine wpList_put rfl _ _ _ 84 rfl 3 4 Try.underlying84 Try.underlying3 w1.heap.size l rfl L1.out id (.bool true) rfl rfl Hlook.out ?_; intro w2 him2 hgrow2))
                  have him := Lib.hid him2
                  clear him2
                  go_roundw
                  case rel =>
                    refine ⟨k + 1, by go_num, by omega, hbel.grown hgrow2 lz (fun j e => by injection e with e; omega), ⟨_, him.out, ?_, ?_⟩, ?_⟩
                    · rw [List.map_append, L2.out, List.take_succ_eq_append_getElem hkl.out]
                      have := Hid0.out
                      rw [List.getElem?_eq_getElem hkl.out] at this
                      simp only [Option.getD_some] at this
                      simp [this]
                    · intro p hp
                      rw [List.mem_append] at hp
                      rcases hp with hp | hp
                      · exact L3.out p hp
                      · simp at hp; rw [hp]
                    · intro j hj
                      by_cases e : j = k
                      · rw [e, Hid0.out]; exact ⟨Hin.out, fun i hi he => Hh.out ((mem_take_iff (Nat.le_of_lt hkl.out)).2 ⟨i, hi, he⟩)⟩
                      · exact Hall.out j (by omega)
                  case measure => simp [intOf]; omega
                · have hin : inR 1 40 id = false := by simpa using hin
                  have Hin := Lib.hid hin
                  go_wp2_with (first
                    | (at_lookup; refine wpList_look rfl _ _ 84 rfl 3 4 Try.underlying84 Try.underlying3 _ (zeroBool _) w1.heap.size l rfl L1.out id rfl (.bool false) (by rw [Hlook.out]; rfl) ?_)
                    | (go_at_call 65; refine (idValid_any _ _).mono ?_; rintro e w' ⟨rfl, rfl⟩))
                  go_ret
                  exact ⟨ret_bool (zonesOk_bad_id hkl.out (by rw [Hid0.out]; exact Hin.out)).symm, hbel⟩
            · have Hi := Lib.hid (fun j hj => Hall.out j (by have := l4.out; omega) : ∀ j, j < ids.length → inR 1 40 (ids[j]?.getD 0) = true ∧ ∀ i, i < j → ids[i]?.getD 0 ≠ ids[j]?.getD 0)
              clear Hall
              go_wp2
              go_ret
              refine ⟨ret_bool ?_, hbel⟩
              rw [zonesOk_rest Hz.out Hi.out, Hbo.out, l2.out, l3.out]
              simp
    · have e3 : ((n3 : Int) != n2) = true := by simp; omega
      go_enter Try.func42, Try.ntmps42
      go_wp2_with (go_at_call 36; refine Hbv.out.mono ?_; rintro e w1 ⟨rfl, hb1⟩)
      go_ret
      refine ⟨ret_bool ?_, hb1⟩
      symm
      rw [← Bool.not_eq_true]
      intro hh
      have := zonesOk_len hh
      have := l2.out
      have := l3.out
      omega
  · have hbo : binsOk room bs = false := by simpa using hbo
    rw [hbo] at hbv
    have Hbo := Lib.hid hbo
    have Hbv := Lib.hid hbv
    clear hbo hbv
    go_enter Try.func42, Try.ntmps42
    go_wp2_with (go_at_call 36; refine Hbv.out.mono ?_; rintro e w1 ⟨rfl, hb1⟩)
    go_ret
    exact ⟨ret_bool (by rw [zonesOk, Hbo.out]; simp), hb1⟩

theorem four {C : List Int} (h : C.length = 4) : C = [C[0]?.getD 0, C[1]?.getD 0, C[2]?.getD 0, C[3]?.getD 0] := by
  match C, h with
  | [a, b, c, d], _ => rfl

set_option maxRecDepth 100000 in
set_option maxHeartbeats 1600000 in
theorem countsOf_any (A2 A3 A4 : Option Addr) (n2 c2 n3 c3 n4 c4 : Nat) (zones ids : List Int) (bs : List (List Tk)) (w : World) (h2 : RdB w w.heap.size A2 n2 bs)
    (h3 : RdI w w.heap.size A3 n3 zones) (h4 : RdI w w.heap.size A4 n4 ids) (hz : n3 = n2) (hzz : ∀ j : Nat, 0 ≤ zones[j]?.getD 0 ∧ zones[j]?.getD 0 ≤ 3) :
    Calls Try.prog 43 #[.slice A2 n2 c2, .slice A3 n3 c3, .slice A4 n4 c4] w fun e w' => e = .returned (.agg ((countsP bs zones ids).map (Value.int .i64)).toArray) ∧ Below w.heap.size w w' := by
  have l2 := Lib.hid h2.len
  have l4 := Lib.hid h4.len
  have b2 := h2.le
  have b4 := h4.le
  have H2 := Lib.hid h2
  have H3 := Lib.hid h3
  have H4 := Lib.hid h4
  have Hz := Lib.hid hzz
  clear h2 h3 h4 hzz
  subst hz
  go_enter Try.func43, Try.ntmps43
  go_wp2
  go_loopw [13] (fun i wr => ∃ k : Nat, i = .int .i64 k ∧ k ≤ n4 ∧ Below w.heap.size w wr ∧ Blk wr w.heap.size 61 #[.int .i64 0, .int .i64 0, .int .i64 0, .int .i64 0] ∧ Blk wr (w.heap.size + 1) 61 ((countsP bs zones (ids.take k)).map (Value.int .i64)).toArray) (fun i _ => n4 - (intOf i).toNat)
  case atStart =>
    refine ⟨0, rfl, Nat.zero_le _, ((Below.refl _ _).alloc (Nat.le_refl _) _).alloc (by simp) _, (Blk.new w _ _).alloc _, ?_⟩
    have := Blk.new (w.alloc (.cells #[.int .i64 0, .int .i64 0, .int .i64 0, .int .i64 0] 61)) 61 #[.int .i64 0, .int .i64 0, .int .i64 0, .int .i64 0]
    rw [World.size_alloc] at this
    exact this
  case round =>
    obtain ⟨k, rfl, hk, hbel, hblk0, hblk⟩ := hrel
    have Hblk := Lib.hid hblk
    have Hblk0 := Lib.hid hblk0
    clear hblk hblk0
    by_cases hlt : k < n4
    · obtain ⟨b, o, rfl, hb, hc⟩ := (H4.out.below hbel).at_ hlt
      have hkl : Hid (k < ids.length) := by have := l4.out; show _ < _; omega
      have lz := hbel.size
      rcases whereP_cases bs (ids[k]?.getD 0) with ⟨hw, _⟩ | ⟨p, hp, hw, _⟩
      · have Hw := Lib.hid hw
        have ecall : ∀ W, (RdB W W.heap.size A2 n3 bs) → Calls Try.prog 48 #[.slice A2 n3 c2, .int .i64 (ids[k]?.getD 0)] W fun e w' => e = .returned (.int .i64 (-1)) ∧ Below W.heap.size W w' := by
          intro W hW; rw [← hw]; exact whereOf_any _ _ _ _ _ _ hW
        have Ecall := Lib.hid ecall
        clear ecall hw
        go_wp2_with (go_at_call 48; refine (Ecall.out _ ((H2.out.below hbel).more lz)).mono ?_; rintro e w1 ⟨rfl, hb1⟩)
        go_roundw
        case rel => exact ⟨k + 1, by go_num, by omega, hbel.trans (hb1.mono lz), Hblk0.out.below hb1 Hblk0.out.lt, by rw [countsP_succ hkl.out, stepC, if_neg (by rw [Hw.out]; omega)]; exact Hblk.out.below hb1 Hblk.out.lt⟩
        case measure => simp [intOf]; omega
      · have Hw := Lib.hid hw
        have ecall : ∀ W, (RdB W W.heap.size A2 n3 bs) → Calls Try.prog 48 #[.slice A2 n3 c2, .int .i64 (ids[k]?.getD 0)] W fun e w' => e = .returned (.int .i64 (p : Int)) ∧ Below W.heap.size W w' := by
          intro W hW; rw [← hw]; exact whereOf_any _ _ _ _ _ _ hW
        have Ecall := Lib.hid ecall
        have hpn : p < n3 := by have := l2.out; omega
        obtain ⟨z, hz⟩ := Int.eq_ofNat_of_zero_le (Hz.out p).1
        have hz3 : z ≤ 3 := by have := (Hz.out p).2; omega
        have hbd := countsP_bd bs zones (ids.take k) z
        have hle : (ids.take k).length ≤ k := List.length_take_le _ _
        obtain ⟨v, hv⟩ : ∃ v, v = (countsP bs zones (ids.take k))[z]?.getD 0 := ⟨_, rfl⟩
        rw [← hv] at hbd
        have Hv := Lib.hid hv
        have Hzz := Lib.hid hz
        have v1 : 0 ≤ v := hbd.1
        have v2 : v ≤ (k : Int) := by omega
        have q1 : (0 : Int) ≤ (p : Int) := by omega
        have q2 : (p : Int) < (n3 : Int) := by omega
        have q3 : (0 : Int) ≤ (z : Int) := by omega
        have q4 : (z : Int) < 4 := by omega
        clear ecall hw hbd hle hv hz
        go_wp2_with fail
        refine (Ecall.out _ ((H2.out.below hbel).more lz)).mono ?_; rintro e w1 ⟨rfl, hb1⟩
        have hbel1 : Below w.heap.size w w1 := hbel.trans (hb1.mono lz)
        have Hblk1 := Lib.hid (Hblk.out.below hb1 Hblk.out.lt)
        have Hblk01 := Lib.hid (Hblk0.out.below hb1 Hblk0.out.lt)
        obtain ⟨b3, o3, rfl, hb3, hc3⟩ := (H3.out.below hbel1).at_ hpn
        rw [Hzz.out] at hc3
        have hcz : w1.cell? ⟨w.heap.size + 1, z, none⟩ = some (.int .i64 v) := by rw [Hv.out]; exact counts_cell Hblk1.out (countsP_len _ _ _) hz3
        have hfz : w1.frozen? ⟨w.heap.size + 1, z, none⟩ = false := Hblk1.out.frozen _
        clear hc
        go_wp2
        go_roundw
        case rel =>
          refine ⟨k + 1, by go_num, by omega, hbel1.setCell (p := ⟨w.heap.size + 1, z, none⟩) (by simp) _, Hblk01.out.far (p := ⟨w.heap.size + 1, z, none⟩) (by simp) _, ?_⟩
          have := Hblk1.out.set_ z (.int .i64 (v + 1))
          rw [ints_set] at this
          rw [countsP_succ hkl.out, stepC, if_pos (by rw [Hw.out]; omega), bump, Hw.out, Int.toNat_natCast, Hzz.out, Int.toNat_natCast, ← Hv.out]
          exact this
        case measure => simp [intOf]; omega
    · have ek : k = n4 := by omega
      have e0 : ids.take k = ids := List.take_of_length_le (by have := l4.out; omega)
      have hblk := Hblk.out
      rw [e0] at hblk
      have e4 := four (countsP_len bs zones ids)
      obtain ⟨C, hC⟩ : ∃ C, C = countsP bs zones ids := ⟨_, rfl⟩
      rw [← hC] at hblk e4
      have Hb := Lib.hid hblk
      have HC := Lib.hid hC
      clear hC
      generalize C[0]?.getD 0 = x0 at e4
      generalize C[1]?.getD 0 = x1 at e4
      generalize C[2]?.getD 0 = x2 at e4
      generalize C[3]?.getD 0 = x3 at e4
      subst e4
      have k0 : wr.cell? ⟨w.heap.size + 1, 0, none⟩ = some (.int .i64 x0) := by rw [Hb.out.cell]; rfl
      have k1 : wr.cell? ⟨w.heap.size + 1, 1, none⟩ = some (.int .i64 x1) := by rw [Hb.out.cell]; rfl
      have k2 : wr.cell? ⟨w.heap.size + 1, 2, none⟩ = some (.int .i64 x2) := by rw [Hb.out.cell]; rfl
      have k3 : wr.cell? ⟨w.heap.size + 1, 3, none⟩ = some (.int .i64 x3) := by rw [Hb.out.cell]; rfl
      have r0 : wr.cell? ⟨w.heap.size, 0, none⟩ = some (.int .i64 0) := by rw [Hblk0.out.cell]; rfl
      have r1 : wr.cell? ⟨w.heap.size, 1, none⟩ = some (.int .i64 0) := by rw [Hblk0.out.cell]; rfl
      have r2 : wr.cell? ⟨w.heap.size, 2, none⟩ = some (.int .i64 0) := by rw [Hblk0.out.cell]; rfl
      have r3 : wr.cell? ⟨w.heap.size, 3, none⟩ = some (.int .i64 0) := by rw [Hblk0.out.cell]; rfl
      have f0 : wr.frozen? ⟨w.heap.size, 0, none⟩ = false := Hblk0.out.frozen _
      have f1 : wr.frozen? ⟨w.heap.size, 1, none⟩ = false := Hblk0.out.frozen _
      have f2 : wr.frozen? ⟨w.heap.size, 2, none⟩ = false := Hblk0.out.frozen _
      have f3 : wr.frozen? ⟨w.heap.size, 3, none⟩ = false := Hblk0.out.frozen _
      clear hblk ek e0
      go_wp2
      refine bodyPost_ret (v := .agg #[.int .i64 x0, .int .i64 x1, .int .i64 x2, .int .i64 x3]) (by simp [results, Try.results43, go_sem, r0, r1, r2, r3]) rfl ⟨?_, ?_⟩
      · rw [← HC.out]; rfl
      · exact (((hbel.setCell (p := ⟨w.heap.size, 0, none⟩) (Nat.le_refl _) _).setCell (p := ⟨w.heap.size, 1, none⟩) (Nat.le_refl _) _).setCell (p := ⟨w.heap.size, 2, none⟩) (Nat.le_refl _) _).setCell (p := ⟨w.heap.size, 3, none⟩) (Nat.le_refl _) _

/-- The counts, written out. -/
theorem countsOf_four (A2 A3 A4 : Option Addr) (n2 c2 n3 c3 n4 c4 : Nat) (zones ids : List Int) (bs : List (List Tk)) (w : World) (h2 : RdB w w.heap.size A2 n2 bs)
    (h3 : RdI w w.heap.size A3 n3 zones) (h4 : RdI w w.heap.size A4 n4 ids) (hz : n3 = n2) (hzz : ∀ j : Nat, 0 ≤ zones[j]?.getD 0 ∧ zones[j]?.getD 0 ≤ 3) :
    ∃ x0 x1 x2 x3 : Int, Hid ([x0, x1, x2, x3] = countsP bs zones ids) ∧ Calls Try.prog 43 #[.slice A2 n2 c2, .slice A3 n3 c3, .slice A4 n4 c4] w fun e w' => e = .returned (.agg #[.int .i64 x0, .int .i64 x1, .int .i64 x2, .int .i64 x3]) ∧ Below w.heap.size w w' := by
  have h := countsOf_any A2 A3 A4 n2 c2 n3 c3 n4 c4 zones ids bs w h2 h3 h4 hz hzz
  have e4 := four (countsP_len bs zones ids)
  refine ⟨_, _, _, _, e4.symm, ?_⟩
  rw [e4] at h
  exact h

theorem counts4_cell {w : World} {g : Nat} {t : TypeId} {x0 x1 x2 x3 : Int} {C : List Int} (hC : [x0, x1, x2, x3] = C) (h : Blk w g t #[.int .i64 x0, .int .i64 x1, .int .i64 x2, .int .i64 x3]) {z : Nat} (hz : z ≤ 3) : w.cell? ⟨g, z, none⟩ = some (.int .i64 (C[z]?.getD 0)) := by
  subst hC
  exact counts_cell (c := [x0, x1, x2, x3]) h rfl hz

set_option maxRecDepth 100000 in
set_option maxHeartbeats 1600000 in
theorem zoneGapI_any (A1 A2 A3 A4 : Option Addr) (n1 c1 n2 c2 n3 c3 n4 c4 : Nat) (room zones ids : List Int) (bs : List (List Tk)) (w : World) (h1 : RdI w w.heap.size A1 n1 room) (h2 : RdB w w.heap.size A2 n2 bs)
    (h3 : RdI w w.heap.size A3 n3 zones) (h4 : RdI w w.heap.size A4 n4 ids) (hz : bs.flatten.length ≤ 1048576) :
    Calls Try.prog 17 #[.slice A1 n1 c1, .slice A2 n2 c2, .slice A3 n3 c3, .slice A4 n4 c4] w fun e w' => e = .returned (.int .i64 (gapP room bs zones ids)) ∧ Below w.heap.size w w' := by
  have l2 := Lib.hid h2.len
  have l3 := Lib.hid h3.len
  have l4 := Lib.hid h4.len
  have b3 := h3.le
  have b4 := h4.le
  have H1 := Lib.hid h1
  have H2 := Lib.hid h2
  have H3 := Lib.hid h3
  have H4 := Lib.hid h4
  clear h1 h2 h3 h4
  have hzv := zonesValid_any A1 A2 A3 A4 n1 c1 n2 c2 n3 c3 n4 c4 room zones ids bs w H1.out H2.out H3.out H4.out hz
  by_cases hok : zonesOk room bs zones ids = true
  · rw [hok] at hzv
    have Hok := Lib.hid hok
    have Hzv := Lib.hid hzv
    clear hok hzv
    by_cases h0 : 0 < n3
    · have e0 : ((n3 : Int) == 0) = false := by simp; omega
      go_enter Try.func17, Try.ntmps17
      go_wp2_with fail
      refine Hzv.out.mono ?_; rintro e w1 ⟨rfl, hb1⟩
      go_wp2_with fail
      obtain ⟨x0, x1, x2, x3, HC, hcall⟩ := countsOf_four A2 A3 A4 n2 c2 n3 c3 n4 c4 zones ids bs w1 (H2.out.up hb1) (H3.out.up hb1) (H4.out.up hb1) (by have := zonesOk_len Hok.out; have := l2.out; have := l3.out; omega) (zonesOk_zone Hok.out)
      refine hcall.mono ?_; rintro e w2 ⟨rfl, hb2⟩
      clear hcall
      have hB : Below w.heap.size w w2 := hb1.trans (hb2.mono hb1.size)
      have hB3 : Below w.heap.size w (w2.alloc (.cells #[.int .i64 x0, .int .i64 x1, .int .i64 x2, .int .i64 x3] 61)) := hB.alloc hB.size _
      have hblk := Blk.new w2 61 #[.int .i64 x0, .int .i64 x1, .int .i64 x2, .int .i64 x3]
      have Hblk := Lib.hid hblk
      clear hblk
      obtain ⟨z0, hz0⟩ := Int.eq_ofNat_of_zero_le (zonesOk_zone Hok.out 0).1
      have hz03 : z0 ≤ 3 := by have := (zonesOk_zone Hok.out 0).2; omega
      have Hz0 := Lib.hid hz0
      clear hz0
      obtain ⟨b, o, rfl, hb, hc⟩ := (H3.out.below hB3).at_ h0
      rw [Hz0.out, Nat.add_zero] at hc
      obtain ⟨C, hC⟩ : ∃ C, C = countsP bs zones ids := ⟨_, rfl⟩
      have HC' : Hid ([x0, x1, x2, x3] = C) := by show _ = _; rw [hC]; exact HC.out
      have hcc := Lib.hid (countsP_le Hok.out)
      rw [← hC] at hcc
      have HC0 := Lib.hid hC
      clear hC
      have hcz := counts4_cell HC'.out Hblk.out hz03
      have q0 : (0 : Int) ≤ (z0 : Int) := by omega
      have q1 : (z0 : Int) < 4 := by omega
      have q2 : (0 : Int) < (n3 : Int) := by omega
      have s0b := hcc.out z0
      obtain ⟨s0, hs0⟩ : ∃ s0, s0 = C[z0]?.getD 0 := ⟨_, rfl⟩
      rw [← hs0] at hcz s0b
      have Hs0 := Lib.hid hs0
      clear hs0
      go_wp2
      go_quiet (fail)
      go_wp2
      go_loop [10, 11, 39] (fun l m i => ∃ k : Nat, i = .int .i64 k ∧ k ≤ n3 ∧ m = .int .i64 (mostP C (zones.take k) s0) ∧ l = .int .i64 (leastP C (zones.take k) s0)) (fun _ _ i => n3 - (intOf i).toNat)
      case atStart => exact ⟨0, rfl, Nat.zero_le _, rfl, rfl⟩
      case round =>
        obtain ⟨k, rfl, hk, rfl, rfl⟩ := hrel
        clear hc hcz
        by_cases hlt : k < n3
        · obtain ⟨b', o', e', hb', hc'⟩ := (H3.out.below hB3).at_ hlt
          injection e' with e'
          injection e' with e1 e2
          subst e1 e2
          have hkl : Hid (k < zones.length) := by have := l3.out; show _ < _; omega
          obtain ⟨z, hz⟩ := Int.eq_ofNat_of_zero_le (zonesOk_zone Hok.out k).1
          have hz3 : z ≤ 3 := by have := (zonesOk_zone Hok.out k).2; omega
          have hcz := counts4_cell HC'.out Hblk.out hz3
          rw [hz] at hc'
          have Hz := Lib.hid hz
          have q3 : (0 : Int) ≤ (z : Int) := by omega
          have q4 : (z : Int) < 4 := by omega
          clear hz
          go_wp2
          go_round
          case rel => exact ⟨k + 1, by go_num, by omega, by rw [mostP_succ hkl.out, Hz.out, Int.toNat_natCast]; congr 1; split <;> omega, by rw [leastP_succ hkl.out, Hz.out, Int.toNat_natCast]; congr 1; split <;> omega⟩
          case measure => simp [intOf]; omega
        · have e0 : zones.take k = zones := List.take_of_length_le (by have := l3.out; omega)
          rw [e0]
          have fb := fold_bd C zones hcc.out s0 s0b.1 s0b.2
          obtain ⟨⟨m1, m2⟩, m3, m4⟩ := fb
          clear e0
          go_wp2
          go_ret
          refine ⟨ret_int ?_, below_drewN hB3 _⟩
          rw [gapP_eq Hok.out (by have := l3.out; omega), ← HC0.out, Hz0.out, Int.toNat_natCast, ← Hs0.out]
    · have en : n3 = 0 := by omega
      subst en
      have ez : zones = [] := List.eq_nil_of_length_eq_zero l3.out
      go_enter Try.func17, Try.ntmps17
      go_wp2_with fail
      refine Hzv.out.mono ?_; rintro e w1 ⟨rfl, hb1⟩
      go_wp2
      go_ret
      refine ⟨ret_int ?_, hb1⟩
      subst ez
      exact (gapP_nil Hok.out).symm
  · have hok : zonesOk room bs zones ids = false := by simpa using hok
    rw [hok] at hzv
    have Hok := Lib.hid hok
    have Hzv := Lib.hid hzv
    clear hok hzv
    go_enter Try.func17, Try.ntmps17
    go_wp2_with fail
    refine Hzv.out.mono ?_; rintro e w1 ⟨rfl, hb1⟩
    go_wp2
    go_ret
    exact ⟨ret_int (by rw [gapP, Hok.out]; rfl), hb1⟩

/-- ZoneCounts of the program: four counts in new memory, or nothing. -/
theorem zoneCountsI_any (A1 A2 A3 A4 : Option Addr) (n1 c1 n2 c2 n3 c3 n4 c4 : Nat) (room zones ids : List Int) (bs : List (List Tk)) (w : World) (h1 : RdI w w.heap.size A1 n1 room) (h2 : RdB w w.heap.size A2 n2 bs)
    (h3 : RdI w w.heap.size A3 n3 zones) (h4 : RdI w w.heap.size A4 n4 ids) (hz : bs.flatten.length ≤ 1048576) :
    Calls Try.prog 21 #[.slice A1 n1 c1, .slice A2 n2 c2, .slice A3 n3 c3, .slice A4 n4 c4] w fun e w' =>
      (if zonesOk room bs zones ids = true then ∃ g, e = .returned (.slice (some ⟨g, 0, none⟩) 4 4) ∧ w.heap.size ≤ g ∧ Blk w' g 61 ((countsP bs zones ids).map (Value.int .i64)).toArray else ∃ A c, e = .returned (.slice A 0 c)) ∧ Below w.heap.size w w' := by
  have l2 := Lib.hid h2.len
  have l3 := Lib.hid h3.len
  have H1 := Lib.hid h1
  have H2 := Lib.hid h2
  have H3 := Lib.hid h3
  have H4 := Lib.hid h4
  clear h1 h2 h3 h4
  have hzv := zonesValid_any A1 A2 A3 A4 n1 c1 n2 c2 n3 c3 n4 c4 room zones ids bs w H1.out H2.out H3.out H4.out hz
  by_cases hok : zonesOk room bs zones ids = true
  · rw [hok] at hzv
    have Hok := Lib.hid hok
    have Hzv := Lib.hid hzv
    simp only [hok, if_true]
    clear hok hzv
    go_enter Try.func21, Try.ntmps21
    go_wp2_with fail
    refine Hzv.out.mono ?_; rintro e w1 ⟨rfl, hb1⟩
    go_wp2_with fail
    obtain ⟨x0, x1, x2, x3, HC, hcall⟩ := countsOf_four A2 A3 A4 n2 c2 n3 c3 n4 c4 zones ids bs w1 (H2.out.up hb1) (H3.out.up hb1) (H4.out.up hb1) (by have := zonesOk_len Hok.out; have := l2.out; have := l3.out; omega) (zonesOk_zone Hok.out)
    refine hcall.mono ?_; rintro e w2 ⟨rfl, hb2⟩
    clear hcall
    have hB : Below w.heap.size w w2 := hb1.trans (hb2.mono hb1.size)
    go_wp2
    go_ret
    refine ⟨⟨w2.heap.size, rfl, hB.size, ?_⟩, hB.alloc hB.size _⟩
    rw [← HC.out]
    exact Blk.new w2 _ _
  · have hok : zonesOk room bs zones ids = false := by simpa using hok
    rw [hok] at hzv
    have Hzv := Lib.hid hzv
    simp only [hok, Bool.false_eq_true, if_false]
    clear hok hzv
    go_enter Try.func21, Try.ntmps21
    go_wp2_with fail
    refine Hzv.out.mono ?_; rintro e w1 ⟨rfl, hb1⟩
    go_wp2
    go_ret
    exact ⟨⟨_, _, rfl⟩, hb1⟩
end Go.Proofs.Ytgngmjlbeofjkaa
