/- The walk of the law FnZoneGap: a gap is between two zones. -/
import Derived.Test.YtgngmjlbeofjkaaZoneCountsLaw
namespace Go.Proofs.Ytgngmjlbeofjkaa
open Go.RowKit

/-- The count of the zone of node i. -/
def cz (C zones : List Int) (i : Nat) : Int := C[(zones[i]?.getD 0).toNat]?.getD 0
theorem most_mem (C : List Int) : ∀ (zones : List Int) (s : Int) (k : Nat), k < zones.length → cz C zones k ≤ mostP C zones s
  | [], _, k, h => by simp at h
  | z :: zones, s, 0, _ => by
    have := most_ge C zones (max s (C[z.toNat]?.getD 0))
    simp only [mostP, List.foldl_cons] at this ⊢
    simp only [cz, List.getElem?_cons_zero, Option.getD_some]
    omega
  | z :: zones, s, k + 1, h => by
    have := most_mem C zones (max s (C[z.toNat]?.getD 0)) k (by simpa using h)
    simp only [mostP, List.foldl_cons] at this ⊢
    simp only [cz, List.getElem?_cons_succ] at this ⊢
    exact this
theorem least_mem (C : List Int) : ∀ (zones : List Int) (s : Int) (k : Nat), k < zones.length → leastP C zones s ≤ cz C zones k
  | [], _, k, h => by simp at h
  | z :: zones, s, 0, _ => by
    have := least_le C zones (min s (C[z.toNat]?.getD 0))
    simp only [leastP, List.foldl_cons] at this ⊢
    simp only [cz, List.getElem?_cons_zero, Option.getD_some]
    omega
  | z :: zones, s, k + 1, h => by
    have := least_mem C zones (min s (C[z.toNat]?.getD 0)) k (by simpa using h)
    simp only [leastP, List.foldl_cons] at this ⊢
    simp only [cz, List.getElem?_cons_succ] at this ⊢
    exact this
theorem most_hit (C : List Int) : ∀ (zones : List Int) (s : Int), mostP C zones s = s ∨ ∃ k, k < zones.length ∧ mostP C zones s = cz C zones k
  | [], _ => .inl rfl
  | z :: zones, s => by
    have e : mostP C (z :: zones) s = mostP C zones (max s (C[z.toNat]?.getD 0)) := rfl
    rw [e]
    rcases most_hit C zones (max s (C[z.toNat]?.getD 0)) with h | ⟨k, hk, h⟩
    · rw [h]
      by_cases hs : C[z.toNat]?.getD 0 ≤ s
      · exact .inl (by omega)
      · exact .inr ⟨0, by simp, by simp only [cz, List.getElem?_cons_zero, Option.getD_some]; omega⟩
    · exact .inr ⟨k + 1, by simpa using hk, by rw [h]; simp only [cz, List.getElem?_cons_succ]⟩
theorem least_hit (C : List Int) : ∀ (zones : List Int) (s : Int), leastP C zones s = s ∨ ∃ k, k < zones.length ∧ leastP C zones s = cz C zones k
  | [], _ => .inl rfl
  | z :: zones, s => by
    have e : leastP C (z :: zones) s = leastP C zones (min s (C[z.toNat]?.getD 0)) := rfl
    rw [e]
    rcases least_hit C zones (min s (C[z.toNat]?.getD 0)) with h | ⟨k, hk, h⟩
    · rw [h]
      by_cases hs : s ≤ C[z.toNat]?.getD 0
      · exact .inl (by omega)
      · exact .inr ⟨0, by simp, by simp only [cz, List.getElem?_cons_zero, Option.getD_some]; omega⟩
    · exact .inr ⟨k + 1, by simpa using hk, by rw [h]; simp only [cz, List.getElem?_cons_succ]⟩
theorem gap_le {room : List Int} {bs : List (List Tk)} {zones ids : List Int} (h : zonesOk room bs zones ids = true) {i k : Nat} (hi : i < zones.length) (hk : k < zones.length) : cz (countsP bs zones ids) zones i - cz (countsP bs zones ids) zones k ≤ gapP room bs zones ids := by
  rw [gapP_eq h (by omega)]
  have h1 := most_mem (countsP bs zones ids) zones ((countsP bs zones ids)[(zones[0]?.getD 0).toNat]?.getD 0) i hi
  have h2 := least_mem (countsP bs zones ids) zones ((countsP bs zones ids)[(zones[0]?.getD 0).toNat]?.getD 0) k hk
  omega
theorem gap_hit {room : List Int} {bs : List (List Tk)} {zones ids : List Int} (h : zonesOk room bs zones ids = true) : gapP room bs zones ids = 0 ∨ ∃ i k, i < zones.length ∧ k < zones.length ∧ cz (countsP bs zones ids) zones i - cz (countsP bs zones ids) zones k = gapP room bs zones ids := by
  by_cases hz : 0 < zones.length
  · rw [gapP_eq h hz]
    have h1 := most_hit (countsP bs zones ids) zones ((countsP bs zones ids)[(zones[0]?.getD 0).toNat]?.getD 0)
    have h2 := least_hit (countsP bs zones ids) zones ((countsP bs zones ids)[(zones[0]?.getD 0).toNat]?.getD 0)
    have g1 : ∃ i, i < zones.length ∧ mostP (countsP bs zones ids) zones ((countsP bs zones ids)[(zones[0]?.getD 0).toNat]?.getD 0) = cz (countsP bs zones ids) zones i := h1.elim (fun e => ⟨0, hz, e⟩) id
    have g2 : ∃ i, i < zones.length ∧ leastP (countsP bs zones ids) zones ((countsP bs zones ids)[(zones[0]?.getD 0).toNat]?.getD 0) = cz (countsP bs zones ids) zones i := h2.elim (fun e => ⟨0, hz, e⟩) id
    obtain ⟨i, hi, ei⟩ := g1
    obtain ⟨k, hk, ek⟩ := g2
    exact .inr ⟨i, k, hi, hk, by rw [ei, ek]⟩
  · have : zones = [] := List.eq_nil_of_length_eq_zero (by omega)
    subst this
    exact .inl (gapP_nil h)
theorem gap_ge {room : List Int} {bs : List (List Tk)} {zones ids : List Int} (h : zonesOk room bs zones ids = true) : 0 ≤ gapP room bs zones ids := by
  rw [gapP, if_pos h]; omega

set_option maxRecDepth 100000 in
set_option maxHeartbeats 3200000 in
theorem zoneGap_walk (A : Option Addr) (n c : Nat) (w : World) (h : RdU w w.heap.size A n) (hc : n ≤ c) (hcm : c ≤ 9223372036854775807) :
    Calls Try.prog 7 #[.slice A n c] w fun e w' => e = .returned (.bool true) ∧ Below w.heap.size w w' := by
  by_cases kn : 1048576 < n
  · go_enter Try.func7, Try.ntmps7
    go_wp2
    go_ret
    exact ⟨rfl, Below.refl _ _⟩
  go_enter Try.func7, Try.ntmps7
  go_wp2_with fail
  refine (drawZoneGap_any A n c w h hc hcm).mono ?_; rintro e w1 ⟨A1, A2, A3, A4, n2, n3, n4, c2, c3, c4, room, bs, zones, ids, rfl, D1, B1⟩
  have hfl := D1.flat
  have l3 := Lib.hid D1.r.c.len
  have hn3 := D1.le3
  clear h
  by_cases hz : zonesOk room bs zones ids = true
  · have Hle := Lib.hid (fun (i k : Nat) (hi : i < zones.length) (hk : k < zones.length) => gap_le hz hi hk)
    have Hhit := Lib.hid (gap_hit hz)
    have G0 := gap_ge hz
    have Gu : gapP room bs zones ids ≤ 14 := by
      rcases gap_hit hz with e | ⟨i, k, hi, hk, e⟩
      · omega
      · rw [← e]
        have h1 := countsP_le hz (zones[i]?.getD 0).toNat
        have h2 := countsP_le hz (zones[k]?.getD 0).toNat
        unfold cz
        omega
    have HZ := Lib.hid hz
    have hzi := Lib.hid (zonesOk_zone hz)
    have hcb := Lib.hid (countsP_le hz)
    go_wp2_with fail
    refine (zoneGapI_any _ _ _ _ _ _ _ _ _ _ _ _ _ _ _ _ _ D1.r.a D1.r.b D1.r.c D1.r.d (by omega)).mono ?_; rintro e w2 ⟨rfl, d2⟩
    have B2 := below_to B1 d2
    have D2 := D1.up d2
    go_wp2_with fail
    refine (zoneGapS_any _ _ _ _ _ _ _ _ _ _ _ _ _ _ _ _ _ D2.r.a D2.r.b D2.r.c D2.r.d (by omega)).mono ?_; rintro e w3 ⟨rfl, d3⟩
    have B3 := below_to B2 d3
    have D3 := D2.up d3
    clear hz D1 D2 d2 d3 B1 B2
    have hI : Calls Try.prog 21 #[.slice A1 3 3, .slice A2 n2 c2, .slice A3 n3 c3, .slice A4 n4 c4] w3 fun e w' => (∃ g, e = .returned (.slice (some ⟨g, 0, none⟩) 4 4) ∧ w3.heap.size ≤ g ∧ Blk w' g 61 ((countsP bs zones ids).map (Value.int .i64)).toArray) ∧ Below w3.heap.size w3 w' :=
      (zoneCountsI_any A1 A2 A3 A4 3 3 n2 c2 n3 c3 n4 c4 room zones ids bs w3 D3.r.a D3.r.b D3.r.c D3.r.d (by omega)).mono (fun e w' hh => ⟨by have := hh.1; rwa [if_pos HZ.out] at this, hh.2⟩)
    generalize gapP room bs zones ids = G at Hle Hhit G0 Gu ⊢
    go_wp2_with fail
    refine hI.mono ?_; rintro e w4 ⟨⟨g4, rfl, hg4, hb4⟩, d4⟩
    have B4 := Lib.hid (below_to B3 d4)
    have D4 := Lib.hid (D3.up d4)
    have HB4 := Lib.hid hb4
    have hC4 := Lib.hid (countsP_len bs zones ids)
    clear hI B3 D3 d4 hb4
    generalize countsP bs zones ids = C at Hle Hhit HB4 hcb hC4
    have key := Lib.hid (show ∀ i, i < n3 → ∃ (b o q : Nat), A3 = some ⟨b, o, none⟩ ∧ q < 4 ∧ w4.cell? ⟨b, o + i, none⟩ = some (.int .i64 (q : Int)) ∧ w4.cell? ⟨g4, q, none⟩ = some (.int .i64 (cz C zones i)) ∧ 0 ≤ cz C zones i ∧ cz C zones i ≤ 14 from fun i hi => by
      obtain ⟨b, o, e1, e2, e3⟩ := D4.out.r.c.at_ hi
      have h1 := hzi.out i
      have h2 := hcb.out (zones[i]?.getD 0).toNat
      refine ⟨b, o, (zones[i]?.getD 0).toNat, e1, by omega, by rw [Int.toNat_of_nonneg h1.1]; exact e3, ?_, h2.1, h2.2⟩
      rw [HB4.out.cell]
      simp only [cz]
      rw [List.getElem?_toArray, List.getElem?_map, List.getElem?_eq_getElem (by have := hC4.out; omega)]
      rfl)
    have hG : G = 0 → decide (G = 0) = true := fun e => by simp [e]
    have hGb : ((G == 0) = decide (G = 0)) := by cases h : decide (G = 0) <;> simp_all
    generalize decide (G = 0) = s0 at hG hGb
    have HG := Lib.hid hG
    clear hG
    have hGn : ¬ G < 0 := by omega
    go_wp2_with fail
    clear hGb
    go_loopw [10, 11] (fun s i wr => ∃ (I m : Nat) (b : Bool), i = .int .i64 I ∧ I ≤ n3 ∧ s = .bool b ∧ (G = 0 → b = true) ∧ (∀ i k, i < I → k < n3 → cz C zones i - cz C zones k = G → b = true) ∧ wr = w4.drewN m) (fun _ i _ => n3 - (intOf i).toNat)
    case atStart => exact ⟨0, 0, s0, rfl, Nat.zero_le _, rfl, HG.out, fun i k hi => absurd hi (by omega), rfl⟩
    case round =>
      obtain ⟨I, m, b0, rfl, hI, rfl, hb0, hbI, rfl⟩ := hrel
      have Hb0 := Lib.hid hb0
      have HbI := Lib.hid hbI
      clear hb0 hbI
      by_cases hlt : I < n3
      · go_wp2_with fail
        go_loopw [10, 12] (fun s k wr => ∃ (K m : Nat) (b : Bool), k = .int .i64 K ∧ K ≤ n3 ∧ s = .bool b ∧ (b0 = true → b = true) ∧ (∀ k, k < K → cz C zones I - cz C zones k = G → b = true) ∧ wr = w4.drewN m) (fun _ k _ => n3 - (intOf k).toNat)
        case atStart => exact ⟨0, m, b0, rfl, Nat.zero_le _, rfl, id, fun k hk => absurd hk (by omega), rfl⟩
        case round =>
          obtain ⟨K, m', b, rfl, hK, rfl, hb, hbK, rfl⟩ := hrel
          have Hb := Lib.hid hb
          have HbK := Lib.hid hbK
          clear hb hbK
          by_cases hlk : K < n3
          · obtain ⟨bz, oz, qI, rfl, hqI, xI, yI, cI0, cI1⟩ := key.out I hlt
            obtain ⟨bz', oz', qK, e', hqK, xK, yK, cK0, cK1⟩ := key.out K hlk
            injection e' with e'
            injection e' with e1 e2
            subst e1 e2
            have hle := Hle.out I K (by have := l3.out; omega) (by have := l3.out; omega)
            have HbK' := Lib.hid (fun b' (h1 : b = true → b' = true) (h2 : cz C zones I - cz C zones K = G → b' = true) (k : Nat) (hk : k < K + 1) (he : cz C zones I - cz C zones k = G) => (by
              by_cases e : k = K
              · subst e; exact h2 he
              · exact h1 (HbK.out k (by omega) he) : b' = true))
            generalize cz C zones I = cI at yI cI0 cI1 hle HbK'
            generalize cz C zones K = cK at yK cK0 cK1 hle HbK'
            have xI' : (w4.drewN m').cell? ⟨bz, oz + I, none⟩ = some (.int .i64 (qI : Int)) := xI
            have xK' : (w4.drewN m').cell? ⟨bz, oz + K, none⟩ = some (.int .i64 (qK : Int)) := xK
            have yI' : (w4.drewN m').cell? ⟨g4, qI, none⟩ = some (.int .i64 cI) := yI
            have yK' : (w4.drewN m').cell? ⟨g4, qK, none⟩ = some (.int .i64 cK) := yK
            have k1 : (0 : Int) ≤ (I : Int) := by omega
            have k2 : (I : Int) < (n3 : Int) := by omega
            have k3 : (0 : Int) ≤ (K : Int) := by omega
            have k4 : (K : Int) < (n3 : Int) := by omega
            have k5 : (0 : Int) ≤ (qI : Int) := by omega
            have k6 : (qI : Int) < 4 := by omega
            have k7 : (0 : Int) ≤ (qK : Int) := by omega
            have k8 : (qK : Int) < 4 := by omega
            have e1 : IntKind.i64.wrap (cI - cK) = cI - cK := wr64 (by omega) (by omega)
            have hd : ¬ G < cI - cK := by omega
            go_wp2_with fail
            go_quiet (fail)
            clear xI xK yI yK
            cases b with
            | true =>
              go_wp2
              go_roundw
              case rel => exact ⟨K + 1, _, true, by go_num, by omega, rfl, fun _ => rfl, fun _ _ _ => rfl, rfl⟩
              case measure => simp [intOf]; omega
            | false =>
              by_cases hdG : cI - cK = G
              · have hdb : (cI - cK == G) = true := by simp [hdG]
                have HdG := Lib.hid hdG
                clear hdG
                go_wp2
                go_roundw
                case rel => exact ⟨K + 1, _, true, by go_num, by omega, rfl, fun _ => rfl, fun _ _ _ => rfl, rfl⟩
                case measure => simp [intOf]; omega
              · have hdb : (cI - cK == G) = false := by simp [hdG]
                go_wp2
                go_roundw
                case rel => exact ⟨K + 1, _, false, by go_num, by omega, rfl, Hb.out, fun k hk he => HbK'.out false id (fun h => absurd h hdG) k hk he, rfl⟩
                case measure => simp [intOf]; omega
          · obtain ⟨K1, hK1⟩ : ∃ K1 : Nat, K1 = K := ⟨K, rfl⟩
            subst hK1
            go_wp2
            go_roundw
            case rel => exact ⟨I + 1, m', b, by go_num, by omega, rfl, fun e => Hb.out (Hb0.out e), fun i k hi hk he => by
              by_cases e : i = I
              · subst e; exact HbK.out k (by omega) he
              · exact Hb.out (HbI.out i k (by omega) hk he), rfl⟩
            case measure => simp [intOf]; omega
      · have hb : b0 = true := by
          rcases Hhit.out with e | ⟨i, k, hi, hk, e⟩
          · exact Hb0.out e
          · exact HbI.out i k (by have := l3.out; omega) (by have := l3.out; omega) e
        subst hb
        go_wp2
        go_ret
        exact ⟨rfl, below_drewN B4.out _⟩
  · have hg : gapP room bs zones ids = -1 := by rw [gapP, if_neg hz]
    have hI := zoneGapI_any A1 A2 A3 A4 3 3 n2 c2 n3 c3 n4 c4 room zones ids bs w1 D1.r.a D1.r.b D1.r.c D1.r.d (by omega)
    rw [hg] at hI
    go_wp2_with fail
    refine hI.mono ?_; rintro e w2 ⟨rfl, d2⟩
    have B2 := below_to B1 d2
    have D2 := D1.up d2
    clear hI
    have hS := zoneGapS_any A1 A2 A3 A4 3 3 n2 c2 n3 c3 n4 c4 room zones ids bs w2 D2.r.a D2.r.b D2.r.c D2.r.d (by omega)
    rw [hg] at hS
    go_wp2_with fail
    refine hS.mono ?_; rintro e w3 ⟨rfl, d3⟩
    have B3 := Lib.hid (below_to B2 d3)
    clear hS D1 D2 d2 d3 B1 B2 hz hg
    go_wp2
    go_ret
    exact ⟨rfl, B3.out⟩
end Go.Proofs.Ytgngmjlbeofjkaa
