/- Several texts in one. -/
import Derived.Test.YtdgeicdiiakhjaaGreatW8
import Derived.Test.YtdgeicdiiakhjaaGreatW21
import Derived.Test.YtdgeicdiiakhjaaGreatW19
import Derived.Deep.DrawnRows
import Derived.Test.YtdgeicdiiakhjaaGreatW3
namespace Go.Proofs.YtdgeicdiiakhjaaGreat
set_option linter.unusedSimpArgs false
set_option linter.unusedVariables false
open Go Go.RowKit
attribute [local go_sem ↓] Go.wp_at_zero Go.wp_at_succ

theorem vecs_at {b : List Tk} (h : ∀ t ∈ b, vecOk t.2 = true) : (∀ j, j < b.length → (b[j]?.getD (0, [])).2.length = 3) ∧ (∀ j i : Nat, 0 ≤ (b[j]?.getD (0, [])).2[i]?.getD 0 ∧ (b[j]?.getD (0, [])).2[i]?.getD 0 ≤ 1000) := by
  constructor
  · intro j hj
    exact vecOk_len (h _ (getD_mem hj))
  · intro j i
    rcases Nat.lt_or_ge j b.length with hj | hj
    · have := vecOk_bd (h _ (getD_mem hj)) i; omega
    · rw [List.getElem?_eq_none hj]; simp

set_option maxRecDepth 100000 in
set_option maxHeartbeats 3200000 in
theorem l12At_any (A1 A2 A5 : Option Addr) (n1 c1 n2 c2 c5 : Nat) (room : List Int) (bs : List (List Tk)) (id : Int) (xs : List Int) (w : World) (h1 : RdI w w.heap.size A1 n1 room) (h2 : RdB w w.heap.size A2 n2 bs) (h5 : RdI w w.heap.size A5 3 xs)
    (hn1 : 3 ≤ n1) (hbs : ∀ k, k < n2 → (bs[k]?.getD []).length ≤ 900 ∧ ∀ t ∈ bs[k]?.getD [], vecOk t.2 = true) (hx : ∀ j : Nat, j < 3 → 0 ≤ xs[j]?.getD 0 ∧ xs[j]?.getD 0 ≤ 1000) (hr : ∀ j : Nat, j < 3 → 0 ≤ room[j]?.getD 0 ∧ room[j]?.getD 0 ≤ 1000) :
    Calls Tryz.prog 49 #[.slice A1 n1 c1, .slice A2 n2 c2, .agg #[.int .i64 id, .slice A5 3 c5]] w fun e w' => e = .returned (.int .i64 (bestB room bs (id, xs))) ∧ Below w.heap.size w w' := by
  have B0 := qh (alloc_up w (.cells #[.int .i64 id, .slice A5 3 c5] 43))
  have P0 := qh (Blk.new w 43 #[.int .i64 id, .slice A5 3 c5])
  have I0 := qh (h1.up B0.out)
  have N0 := qh (h2.up B0.out)
  have X0 := qh (h5.up B0.out)
  have Hl := qh h2.len
  have hnm := h2.2.1
  have Hbs := qh hbs
  have Hx := qh hx
  have Hr := qh hr
  clear h1 h2 h5 hbs hx hr
  go_enter Tryz.func49, Tryz.ntmps49
  go_wp2_with fail
  generalize hgx : w.heap.size = gx at P0 ⊢
  generalize w.alloc (.cells #[.int .i64 id, .slice A5 3 c5] 43) = w1 at B0 P0 I0 N0 X0 ⊢
  have lgx := P0.out.lt
  go_loopw [7, 8] (fun b i wr => ∃ (k : Nat) (bv sv : Int), i = .int .i64 (k : Nat) ∧ k ≤ n2 ∧ b = .int .i64 bv ∧ BestIs room bs xs k bv sv ∧ Below w1.heap.size w1 wr) (fun _ i _ => n2 - (intOf i).toNat)
  case atStart => exact ⟨0, -1, -1, rfl, Nat.zero_le _, rfl, BestIs.zero, Below.refl _ _⟩
  case round =>
    obtain ⟨k, bv, sv, rfl, hk, rfl, hbest, hup⟩ := hrel
    have Hup := qh hup
    have Hbest := qh hbest
    have lzr : w1.heap.size ≤ wr.heap.size := hup.size
    clear hup hbest
    by_cases hlt : k < n2
    · have q1 : (0 : Int) ≤ (k : Int) := by omega
      have q2 : (k : Int) < (n2 : Int) := by omega
      have v1 : IntKind.i64.wrap ((k : Int) + 1) = (k : Int) + 1 := wr64 (by omega) (by omega)
      obtain ⟨b, o, A', m', c', rfl, lb, hc1, hmc, hrd⟩ := N0.out.at_ hlt
      have hm9 : m' ≤ 900 := by have := (Hbs.out k hlt).1; have := hrd.len; omega
      have Hrd := qh hrd
      have Hlen := qh hrd.len
      have Hve := qh (vecs_at (Hbs.out k hlt).2)
      have Hop := qh (show ∀ W : World, Below w1.heap.size w1 W → W.cell? ⟨b, o + k, none⟩ = some (.slice A' m' c') ∧ W.cell? ⟨gx, 0, none⟩ = some (.int .i64 id) ∧ W.cell? ⟨gx, 1, none⟩ = some (.slice A5 3 c5) from fun W hW =>
        ⟨(hW.cell (p := ⟨b, o + k, none⟩) lb).trans hc1, (P0.out.below hW P0.out.lt).cell 0, (P0.out.below hW P0.out.lt).cell 1⟩)
      have Hx6 := qh (show ∀ j, j < 3 → -1000000 ≤ xs[j]?.getD 0 ∧ xs[j]?.getD 0 ≤ 1000000 from fun j hj => by have := Hx.out j hj; omega)
      clear hc1 hrd
      cases hf : fits3 (add3 (loadP (bs[k]?.getD [])) xs) room with
      | false =>
        have Hf := qh (show roomB room bs xs k = false from hf)
        go_wp2_with fail
        refine wp_region_mixL (.take 0 (.take 1 (.take 2 (.take 3 (.take 4 (.take 5 (.bar 6 (.take 7 (.take 8 (.take 9 (.take 10 (.take 11 (.take 12 (.take 13 (.take 14 (.take 15 (.take 16 (.take 17 (.take 18 (.take 19 (.take 20 (.take 21 (.take 22 (.take 23 (.take 24 (.take 25 (.take 26 (.take 27 .nil)))))))))))))))))))))))))))) [] (fun w' => w'.cell? ⟨b, o + k, none⟩ = some (.slice A' m' c') ∧ w'.cell? ⟨gx, 0, none⟩ = some (.int .i64 id) ∧ w'.cell? ⟨gx, 1, none⟩ = some (.slice A5 3 c5)) (by kernel_rfl) (by kernel_rfl) (Hop.out _ Hup.out.drew) (fun _ => ?_)
        have U2 := qh Hup.out.drew
        have lz2 : w1.heap.size ≤ wr.drew.heap.size := lzr
        generalize wr.drew = w2 at U2 lz2 ⊢
        repeat ((first | refine wpMixL_skip (by rfl) (by rfl) ?_ | (refine wpMixL_take (v := ?_) (by rfl) (by rfl) (fun wS hSt => ?_) ?_; rotate_left; (focus ((try dsimp only at hSt); (go_simp <;> with_reducible rfl); done)))); (try simp only [Act.put, pS, pZ, pC]))
        (refine wpMixL_bar (by rfl) (fun K hK => ?_); go_simp)
        refine (l11Fits_any A1 A' A5 n1 c1 m' c' c5 room (bs[k]?.getD []) id xs w2 (I0.out.up U2.out) (Hrd.out.up U2.out) (X0.out.up U2.out) hn1 hm9 (fun a ha => Hve.out.1 a (by have := Hlen.out; omega)) (fun a x => by have := Hve.out.2 a x; omega) Hx6.out).mono ?_
        rintro e w3 ⟨rfl, hb3⟩
        have U3 := qh (U2.out.trans (hb3.mono lz2))
        rw [hf]
        ((try dsimp only); refine nxK hK _ _ (Hop.out _ U3.out) ?_; clear hK K; (try simp only [Act.put, pS, pZ, pC]))
        clear hb3 hf
        repeat ((first | refine wpMixL_skip (by rfl) (by rfl) ?_ | (refine wpMixL_take (v := ?_) (by rfl) (by rfl) (fun wS hSt => ?_) ?_; rotate_left; (focus ((try dsimp only at hSt); (go_simp <;> with_reducible rfl); done)))); (try simp only [Act.put, pS, pZ, pC]))
        refine wpMixL_nil ?_
        go_wp2_with fail
        go_roundw
        case measure => simp [intOf]; omega
        case rel => exact ⟨k + 1, bv, sv, by go_num, by omega, rfl, Hbest.out.full Hf.out, U3.out⟩
      | true =>
        have Hf := qh (show roomB room bs xs k = true from hf)
        have Hx0 := qh (show ∀ j : Nat, j < 3 → 0 ≤ xs[j]?.getD 0 from fun j hj => (Hx.out j hj).1)
        rcases Hbest.out.2 with ⟨hb0, hs0⟩ | ⟨a, ha, hba, hsa, hs0⟩
        · subst hb0 hs0
          go_wp2_with fail
          refine wp_region_mixL (.take 0 (.take 1 (.take 2 (.take 3 (.take 4 (.take 5 (.bar 6 (.take 7 (.take 8 (.take 9 (.take 10 (.take 11 (.take 12 (.take 13 (.take 14 (.take 15 (.take 16 (.take 17 (.take 18 (.take 19 (.take 20 (.take 21 (.take 22 (.take 23 (.take 24 (.take 25 (.take 26 (.take 27 .nil)))))))))))))))))))))))))))) [] (fun w' => w'.cell? ⟨b, o + k, none⟩ = some (.slice A' m' c') ∧ w'.cell? ⟨gx, 0, none⟩ = some (.int .i64 id) ∧ w'.cell? ⟨gx, 1, none⟩ = some (.slice A5 3 c5)) (by kernel_rfl) (by kernel_rfl) (Hop.out _ Hup.out.drew) (fun _ => ?_)
          have U2 := qh Hup.out.drew
          have lz2 : w1.heap.size ≤ wr.drew.heap.size := lzr
          generalize wr.drew = w2 at U2 lz2 ⊢
          repeat ((first | refine wpMixL_skip (by rfl) (by rfl) ?_ | (refine wpMixL_take (v := ?_) (by rfl) (by rfl) (fun wS hSt => ?_) ?_; rotate_left; (focus ((try dsimp only at hSt); (go_simp <;> with_reducible rfl); done)))); (try simp only [Act.put, pS, pZ, pC]))
          (refine wpMixL_bar (by rfl) (fun K hK => ?_); go_simp)
          refine (l11Fits_any A1 A' A5 n1 c1 m' c' c5 room (bs[k]?.getD []) id xs w2 (I0.out.up U2.out) (Hrd.out.up U2.out) (X0.out.up U2.out) hn1 hm9 (fun a ha => Hve.out.1 a (by have := Hlen.out; omega)) (fun a x => by have := Hve.out.2 a x; omega) Hx6.out).mono ?_
          rintro e w3 ⟨rfl, hb3⟩
          have U3 := qh (U2.out.trans (hb3.mono lz2))
          rw [hf]
          ((try dsimp only); refine nxK hK _ _ (Hop.out _ U3.out) ?_; clear hK K; (try simp only [Act.put, pS, pZ, pC]))
          clear hb3 hf
          repeat ((first | refine wpMixL_skip (by rfl) (by rfl) ?_ | (refine wpMixL_take (v := ?_) (by rfl) (by rfl) (fun wS hSt => ?_) ?_; rotate_left; (focus ((try dsimp only at hSt); (go_simp <;> with_reducible rfl); done)))); (try simp only [Act.put, pS, pZ, pC]))
          refine wpMixL_nil ?_
          go_wp2_with fail
          go_roundw
          case measure => simp [intOf]; omega
          case rel => exact ⟨k + 1, _, _, by go_num, by omega, rfl, Hbest.out.more Hx0.out Hf.out (by have := score_pos Hx0.out Hf.out; omega), U3.out⟩
        · subst hba
          have a1 : (0 : Int) ≤ (a : Int) := by omega
          have a2 : (a : Int) < (n2 : Int) := by omega
          have a3 : ((a : Int) < 0) = False := by simp
          obtain ⟨b', o', A8, m8, c8, hA2, lb', hc8, hm8, hrd8⟩ := N0.out.at_ (show a < n2 by omega)
          injection hA2 with hA2
          injection hA2 with hA2 hA3
          subst hA2 hA3
          have hn8 : m8 ≤ 900 := by have := (Hbs.out a (by omega)).1; have := hrd8.len; omega
          have Hrd8 := qh hrd8
          have Hlen8 := qh hrd8.len
          have Hve8 := qh (vecs_at (Hbs.out a (by omega)).2)
          have Hop8 := qh (show ∀ W : World, Below w1.heap.size w1 W → (W.cell? ⟨b, o + k, none⟩ = some (.slice A' m' c') ∧ W.cell? ⟨gx, 0, none⟩ = some (.int .i64 id) ∧ W.cell? ⟨gx, 1, none⟩ = some (.slice A5 3 c5)) ∧ W.cell? ⟨b, o + a, none⟩ = some (.slice A8 m8 c8) from fun W hW => ⟨Hop.out W hW, (hW.cell (p := ⟨b, o + a, none⟩) lb).trans hc8⟩)
          clear hc8 hrd8 lb' hm8
          go_wp2_with fail
          refine wp_region_mixL (.take 0 (.take 1 (.take 2 (.take 3 (.take 4 (.take 5 (.bar 6 (.take 7 (.take 8 (.take 9 (.take 10 (.take 11 (.take 12 (.take 13 (.take 14 (.take 15 (.take 16 (.take 18 (.take 19 (.take 20 (.take 21 (.take 22 (.take 23 (.bar 17 (.bar 24 (.take 25 (.take 26 (.take 27 .nil)))))))))))))))))))))))))))) [] (fun w' => (w'.cell? ⟨b, o + k, none⟩ = some (.slice A' m' c') ∧ w'.cell? ⟨gx, 0, none⟩ = some (.int .i64 id) ∧ w'.cell? ⟨gx, 1, none⟩ = some (.slice A5 3 c5)) ∧ w'.cell? ⟨b, o + a, none⟩ = some (.slice A8 m8 c8)) (by kernel_rfl) (by kernel_rfl) (Hop8.out _ Hup.out.drew) (fun _ => ?_)
          have U2 := qh Hup.out.drew
          have lz2 : w1.heap.size ≤ wr.drew.heap.size := lzr
          generalize wr.drew = w2 at U2 lz2 ⊢
          repeat ((first | refine wpMixL_skip (by rfl) (by rfl) ?_ | (refine wpMixL_take (v := ?_) (by rfl) (by rfl) (fun wS hSt => ?_) ?_; rotate_left; (focus ((try dsimp only at hSt); (go_simp <;> with_reducible rfl); done)))); (try simp only [Act.put, pS, pZ, pC]))
          (refine wpMixL_bar (by rfl) (fun K hK => ?_); go_simp)
          refine (l11Fits_any A1 A' A5 n1 c1 m' c' c5 room (bs[k]?.getD []) id xs w2 (I0.out.up U2.out) (Hrd.out.up U2.out) (X0.out.up U2.out) hn1 hm9 (fun a ha => Hve.out.1 a (by have := Hlen.out; omega)) (fun a x => by have := Hve.out.2 a x; omega) Hx6.out).mono ?_
          rintro e w3 ⟨rfl, hb3⟩
          have U3 := qh (U2.out.trans (hb3.mono lz2))
          rw [hf]
          ((try dsimp only); refine nxK hK _ _ (Hop8.out _ U3.out) ?_; clear hK K; (try simp only [Act.put, pS, pZ, pC]))
          clear hb3 hf
          have lz3 : w1.heap.size ≤ w3.heap.size := U3.out.size
          repeat ((first | refine wpMixL_skip (by rfl) (by rfl) ?_ | (refine wpMixL_take (v := ?_) (by rfl) (by rfl) (fun wS hSt => ?_) ?_; rotate_left; (focus ((try dsimp only at hSt); (go_simp <;> with_reducible rfl); done)))); (try simp only [Act.put, pS, pZ, pC]))
          (refine wpMixL_bar (by rfl) (fun K hK => ?_); go_simp)
          refine (l12Score_any A1 A' A5 n1 c1 m' c' c5 room (bs[k]?.getD []) id xs w3 (I0.out.up U3.out) (Hrd.out.up U3.out) (X0.out.up U3.out) hn1 hm9 (fun a ha => Hve.out.1 a (by have := Hlen.out; omega)) Hve.out.2 Hx.out Hr.out).mono ?_
          rintro e w4 ⟨rfl, hb4⟩
          have U4 := qh (U3.out.trans (hb4.mono lz3))
          ((try dsimp only); refine nxK hK _ _ (Hop8.out _ U4.out) ?_; clear hK K; (try simp only [Act.put, pS, pZ, pC]))
          clear hb4
          have lz4 : w1.heap.size ≤ w4.heap.size := U4.out.size
          repeat ((first | refine wpMixL_skip (by rfl) (by rfl) ?_ | (refine wpMixL_take (v := ?_) (by rfl) (by rfl) (fun wS hSt => ?_) ?_; rotate_left; (focus ((try dsimp only at hSt); (go_simp <;> with_reducible rfl); done)))); (try simp only [Act.put, pS, pZ, pC]))
          (refine wpMixL_bar (by rfl) (fun K hK => ?_); go_simp)
          refine (l12Score_any A1 A8 A5 n1 c1 m8 c8 c5 room (bs[a]?.getD []) id xs w4 (I0.out.up U4.out) (Hrd8.out.up U4.out) (X0.out.up U4.out) hn1 hn8 (fun a ha => Hve8.out.1 a (by have := Hlen8.out; omega)) Hve8.out.2 Hx.out Hr.out).mono ?_
          rintro e w5 ⟨rfl, hb5⟩
          have U5 := qh (U4.out.trans (hb5.mono lz4))
          ((try dsimp only); refine nxK hK _ _ (Hop8.out _ U5.out) ?_; clear hK K; (try simp only [Act.put, pS, pZ, pC]))
          clear hb5
          rw [← hsa]
          have Hsa := qh hsa
          clear hsa
          by_cases hgt : sv < scoreP room (bs[k]?.getD []) xs
          · have Hgt := qh hgt
            generalize hsk : scoreP room (bs[k]?.getD []) xs = sk at hgt ⊢
            have Hsk := qh hsk
            clear hsk
            repeat ((first | refine wpMixL_skip (by rfl) (by rfl) ?_ | (refine wpMixL_take (v := ?_) (by rfl) (by rfl) (fun wS hSt => ?_) ?_; rotate_left; (focus ((try dsimp only at hSt); (go_simp <;> with_reducible rfl); done)))); (try simp only [Act.put, pS, pZ, pC]))
            refine wpMixL_nil ?_
            go_wp2_with fail
            go_roundw
            case measure => simp [intOf]; omega
            case rel => exact ⟨k + 1, _, sk, by go_num, by omega, rfl, Hsk.out ▸ Hbest.out.more Hx0.out Hf.out Hgt.out, U5.out⟩
          · have Hgt := qh hgt
            generalize hsk : scoreP room (bs[k]?.getD []) xs = sk at hgt ⊢
            clear hsk
            repeat ((first | refine wpMixL_skip (by rfl) (by rfl) ?_ | (refine wpMixL_take (v := ?_) (by rfl) (by rfl) (fun wS hSt => ?_) ?_; rotate_left; (focus ((try dsimp only at hSt); (go_simp <;> with_reducible rfl); done)))); (try simp only [Act.put, pS, pZ, pC]))
            refine wpMixL_nil ?_
            go_wp2_with fail
            go_roundw
            case measure => simp [intOf]; omega
            case rel => exact ⟨k + 1, _, _, by go_num, by omega, rfl, Hbest.out.less Hgt.out Hf.out, U5.out⟩
    · obtain rfl : k = n2 := by omega
      have e : bestB room bs (id, xs) = bv := by have h := Hbest.out; rw [← Hl.out] at h; exact h.done
      go_wp2_with fail
      go_ret
      rw [e]
      exact ⟨rfl, B0.out.trans (Hup.out.mono (by omega))⟩
end Go.Proofs.YtdgeicdiiakhjaaGreat

namespace Go.Proofs.YtdgeicdiiakhjaaGreat
set_option linter.unusedSimpArgs false
set_option linter.unusedVariables false
open Go Go.RowKit
attribute [local go_sem ↓] Go.wp_at_zero Go.wp_at_succ

theorem obr_up {w w' : World} {base n : Nat} {v : Value} {bs : List (List Tk)} (h : OwnBR w base v n bs) (hb : Below w.heap.size w w') : OwnBR w' base v n bs := by
  obtain ⟨vs, h1, h2⟩ := h
  exact ⟨vs, own_up' h1 hb, h2.keepTI (KeepTI.up hb)⟩
theorem room_bd {room : List Int} {ts : List Tk} (h : tasksOk room ts = true) : ∀ j : Nat, j < 3 → 0 ≤ room[j]?.getD 0 ∧ room[j]?.getD 0 ≤ 1000 := fun j hj => by
  have := vecOk_bd (roomOk_vec (tasksOk_room' h)) j; omega

set_option maxRecDepth 100000 in
set_option maxHeartbeats 3200000 in
theorem bestAllS_any (A1 A : Option Addr) (n1 c1 n c : Nat) (room : List Int) (ts : List Tk) (w : World) (h1 : RdI w w.heap.size A1 n1 room) (h : RdT w w.heap.size A n ts) :
    Calls Tryz.prog 23 #[.slice A1 n1 c1, .slice A n c] w fun e w' => ∃ A' m c', e = .returned (.slice A' m c') ∧ OwnBR w' w.heap.size (.slice A' m c') m (bestAllP room ts) ∧ Below w.heap.size w w' := by
  have hnm : n ≤ 9223372036854775807 := h.le
  have H1 := qh h1
  have H := qh h
  have Hl := qh h.len
  clear h1 h
  have O0 := qh (show (w.alloc (.cells #[] 24)).ownsRow w.heap.size 24 1 (.slice (some ⟨w.heap.size, 0, none⟩) 0 0) 0 [] from World.ownsRow_made w #[] 0 (Nat.le_refl _) (by unfold maxLen; omega) rfl)
  have B0 := qh (alloc_up w (.cells #[] 24))
  go_enter Tryz.func23, Tryz.ntmps23
  go_wp2_with fail
  go_loopw [5, 6] (fun v i wr => ∃ (k m cc : Nat) (Ab : Option Addr), i = .int .i64 (k : Int) ∧ k ≤ n ∧ v = .slice Ab m cc ∧ OwnBR wr w.heap.size (.slice Ab m cc) m (allB (bestB room) (ts.take k)) ∧ Below w.heap.size w wr ∧ (tasksOk room ts = false → k = 0)) (fun _ i _ => n - (intOf i).toNat)
  case atStart => exact ⟨0, 0, 0, _, rfl, Nat.zero_le _, rfl, ⟨[], O0.out, NdBR.nil⟩, B0.out, fun _ => rfl⟩
  case round =>
    clear O0 B0
    obtain ⟨k, m, cc, Ab, rfl, hk, rfl, hO, hB, hz⟩ := hrel
    have HO := qh hO
    have HB := qh hB
    have Hz := qh hz
    have lz := hB.size
    clear hO hB hz
    have key := tasksValidS_any A1 A n1 c1 n c room ts wr (H1.out.up HB.out) (H.out.up HB.out)
    by_cases hlt : k < n
    · have k1 : (0 : Int) ≤ (k : Int) := by omega
      have k2 : (k : Int) < (n : Int) := by omega
      have k3 : 0 ≤ (k : Int) * 2 := by omega
      cases hok : tasksOk room ts with
      | false =>
        have hk0 := Hz.out hok
        have E0 := qh (show bestAllP room ts = [] by unfold bestAllP; rw [hok]; rfl)
        rw [hok] at key
        have Key := qh key
        clear key hok
        go_wp2_with (go_at_call 9; refine Key.out.mono ?_; rintro e w9 ⟨rfl, mq, hw⟩; have hb := below_drewN (Below.refl wr.heap.size wr) mq; rw [hw] at hb; have HB9 := qh hb; clear hw hb)
        go_ret
        refine ⟨_, _, _, rfl, ?_, HB.out.trans (HB9.out.mono lz)⟩
        rw [E0.out]
        have hO := HO.out
        subst hk0
        exact obr_up hO HB9.out
      | true =>
        have Hok := qh hok
        rw [hok] at key
        have Key := qh key
        clear key hok
        go_wp2_with (first | (go_at_call 9; refine Key.out.mono ?_; rintro e w9 ⟨rfl, mq, hw⟩; have hb := below_drewN (Below.refl wr.heap.size wr) mq; rw [hw] at hb; have HO9 := qh (obr_up HO.out hb); have HB9 := qh (HB.out.trans (hb.mono lz)); clear hw hb) | fail)
        clear Key HO HB lz
        have lz := HB9.out.size
        have hn14 : n ≤ 14 := by rw [← Hl.out]; exact tasksOk_len Hok.out
        have hn1 : 3 ≤ n1 := by have := H1.out.len; have := roomOk_len Hok.out; omega
        have Hrm := qh (room_bd Hok.out)
        have hS := all_small (best_tells room) Hok.out k
        rw [obr_len HO9.out] at hS
        have HS := qh hS
        have hm14 : m ≤ 14 := hS.1
        clear hS
        obtain ⟨bt, ot, Ax, mx, cx, rfl, lt, ht0, ht1, hcx, hrx⟩ := (H.out.up HB9.out).at_ hlt
        have hn3 := need3 Hok.out (k := k) (by have := Hl.out; omega)
        have HT := qh (all_take (c := bestB room) (ts := ts) (k := k) (by have := Hl.out; omega))
        have HTL := qh (best_tells room (allB (bestB room) (ts.take k)) (ts[k]?.getD (0, [])))
        generalize ts[k]?.getD (0, []) = tj at *
        obtain ⟨tid, txs⟩ := tj
        dsimp only at ht0 hrx hn3
        obtain rfl : mx = 3 := by have := hrx.len; omega
        have HX := qh hrx
        have H3 := qh hn3
        clear hrx hn3
        generalize allB (bestB room) (ts.take k) = bs at *
        refine wp_region_mix (.take 0 (.take 1 (.take 2 (.take 3 (.take 4 (.take 5 (.take 6 (.take 8 (.take 9 (.take 10 (.take 11 (.bar 7 (.bar 12 (.take 13 .nil)))))))))))))) (fun w' => w'.cell? ⟨bt, ot + k * 2, none⟩ = some (.int .i64 tid) ∧ w'.cell? ⟨bt, ot + k * 2 + 1, none⟩ = some (.slice Ax 3 cx)) (by kernel_rfl) (by kernel_rfl) ⟨ht0, ht1⟩ (fun _ => ?_)
        have D0 := qh ((Below.refl w9.heap.size w9).drew)
        have HKS := qh (fun w' (hb : Below w9.heap.size w9 w') => (⟨(hb.cell (p := ⟨bt, ot + k * 2, none⟩) lt).trans ht0, (hb.cell (p := ⟨bt, ot + k * 2 + 1, none⟩) lt).trans ht1⟩ : w'.cell? ⟨bt, ot + k * 2, none⟩ = some (.int .i64 tid) ∧ w'.cell? ⟨bt, ot + k * 2 + 1, none⟩ = some (.slice Ax 3 cx)))
        clear ht0 ht1
        generalize w9.drew = u0 at D0 ⊢
        repeat ((first | refine wpMix_skip (by rfl) (by rfl) ?_ | (refine wpMix_take (v := ?_) (by rfl) (by rfl) (fun wS hSt => ?_) ?_; rotate_left; (focus ((try dsimp only at hSt); (go_simp <;> with_reducible rfl); done)))); (try simp only [Act.put, pS, pZ, pC]))
        (refine wpMix_bar (by rfl) (fun K hK => ?_); go_simp)
        refine (l12At_any A1 Ab Ax n1 c1 m cc cx room bs tid txs u0 ((H1.out.up HB9.out).up D0.out) (HO9.out.rd.up D0.out) (HX.out.up D0.out) hn1 (fun j hj => ⟨by have := (HS.out.2 j hj).1; omega, (HS.out.2 j hj).2⟩) (fun j hj => by have := H3.out.2 j; omega) Hrm.out).mono ?_; rintro e u1 ⟨rfl, hb⟩
        have D1 := qh (D0.out.trans (hb.mono D0.out.size))
        ((try dsimp only); refine nxK hK _ _ (HKS.out _ D1.out) ?_; clear hK K; (try simp only [Act.put, pS, pZ, pC]))
        clear hb
        refine wpMix_bar (by rfl) (fun K hK => ?_)
        rw [if_pos (by rfl)]
        rcases HTL.out with hf | ⟨i, hi, hf, _⟩
        · have e1 : putB bs (bestB room bs (tid, txs)) (tid, txs) = bs ++ [[(tid, txs)]] := by rw [hf]; rfl
          rw [e1] at HT
          rw [hf]
          go_simp
          refine (l11PutN_any Ab Ax m cc 3 cx bs tid txs u1 (HO9.out.rd.up D1.out) (by omega) (fun j hj => ⟨by have := (HS.out.2 j hj).1; omega, fun a ha => by have := vecOk_len ((HS.out.2 j hj).2 _ (getD_mem ha)); omega⟩) (HX.out.up D1.out) (by omega)).mono ?_; rintro e u2 ⟨A9, c9, rfl, hO9, hb⟩
          have D2 := qh (D1.out.trans (hb.mono D1.out.size))
          have HO2 := qh hO9
          ((try dsimp only); refine nxK hK _ _ (HKS.out _ D2.out) ?_; clear hK K; (try simp only [Act.put, pS, pZ, pC]))
          clear hb hO9
          repeat ((first | refine wpMix_skip (by rfl) (by rfl) ?_ | (refine wpMix_take (v := ?_) (by rfl) (by rfl) (fun wS hSt => ?_) ?_; rotate_left; (focus ((try dsimp only at hSt); (go_simp <;> with_reducible rfl); done)))); (try simp only [Act.put, pS, pZ, pC]))
          refine wpMix_nil ?_
          go_wp2_with fail
          go_roundw
          case measure => simp [intOf]; omega
          case rel => exact ⟨k + 1, m + 1, c9, A9, by go_num, by omega, rfl, by rw [HT.out]; exact obr_low HO2.out (by have := D1.out.size; omega), HB9.out.trans (D2.out.mono lz), fun h => by cases h⟩
        · have e1 : putB bs (bestB room bs (tid, txs)) (tid, txs) = putAt bs i (tid, txs) := by rw [hf]; unfold putB putAt; rw [if_neg (by omega), Int.toNat_natCast]
          rw [e1] at HT
          rw [hf]
          go_simp
          refine (l11Put_any Ab Ax m cc 3 cx i bs tid txs u1 (HO9.out.rd.up D1.out) (by omega) (fun j hj => ⟨by have := (HS.out.2 j hj).1; omega, fun a ha => by have := vecOk_len ((HS.out.2 j hj).2 _ (getD_mem ha)); omega⟩) (by have := obr_len HO9.out; omega) (HX.out.up D1.out) (by omega)).mono ?_; rintro e u2 ⟨A9, c9, rfl, hO9, hb⟩
          have D2 := qh (D1.out.trans (hb.mono D1.out.size))
          have HO2 := qh hO9
          ((try dsimp only); refine nxK hK _ _ (HKS.out _ D2.out) ?_; clear hK K; (try simp only [Act.put, pS, pZ, pC]))
          clear hb hO9
          repeat ((first | refine wpMix_skip (by rfl) (by rfl) ?_ | (refine wpMix_take (v := ?_) (by rfl) (by rfl) (fun wS hSt => ?_) ?_; rotate_left; (focus ((try dsimp only at hSt); (go_simp <;> with_reducible rfl); done)))); (try simp only [Act.put, pS, pZ, pC]))
          refine wpMix_nil ?_
          go_wp2_with fail
          go_roundw
          case measure => simp [intOf]; omega
          case rel => exact ⟨k + 1, m, c9, A9, by go_num, by omega, rfl, by rw [HT.out]; exact obr_low HO2.out (by have := D1.out.size; omega), HB9.out.trans (D2.out.mono lz), fun h => by cases h⟩
    · obtain rfl : k = n := by omega
      rw [List.take_of_length_le (by have := Hl.out; omega)] at HO
      have E0 : allB (bestB room) ts = bestAllP room ts := by
        unfold bestAllP
        cases hok : tasksOk room ts with
        | true => rfl
        | false =>
          have h0 := Hz.out hok
          have h1 : ts = [] := List.length_eq_zero_iff.1 (by have := Hl.out; omega)
          subst h1; rfl
      rw [E0] at HO
      clear key
      go_wp2_with fail
      go_ret
      exact ⟨_, _, _, rfl, HO.out, HB.out⟩
end Go.Proofs.YtdgeicdiiakhjaaGreat

namespace Go.Proofs.YtdgeicdiiakhjaaGreat
set_option linter.unusedVariables false
set_option linter.unusedSimpArgs false

def gTk (l : List Tk) (i : Nat) : Tk := l[i]?.getD (0, [])
def swapP (l : List Tk) (i j : Nat) : List Tk := (l.set i (gTk l j)).set j (gTk l i)
/-- The child that comes first. -/
def childP (l : List Tk) (i n : Nat) : Nat := if 2 * i + 2 < n ∧ befP (gTk l (2 * i + 2)) (gTk l (2 * i + 1)) = true then 2 * i + 2 else 2 * i + 1
/-- heap.down. -/
def downP : Nat → List Tk → Nat → Nat → List Tk
  | 0, l, _, _ => l
  | f + 1, l, i, n => if n ≤ 2 * i + 1 then l else if befP (gTk l (childP l i n)) (gTk l i) = true then downP f (swapP l i (childP l i n)) (childP l i n) n else l
/-- heap.Init's loop, with i nodes before it. -/
def initP : Nat → List Tk → List Tk
  | 0, l => l
  | i + 1, l => initP i (downP l.length l i l.length)
/-- What heap.Pop leaves in the row. -/
def popP (l : List Tk) (m : Nat) : List Tk := downP m (swapP l 0 m) 0 m
/-- The loop of sorted. -/
def drainP : Nat → List Tk → List Tk
  | 0, _ => []
  | m + 1, l => gTk (popP l m) m :: drainP m ((popP l m).take m)
def heapP (ts : List Tk) : List Tk := drainP ts.length (initP (ts.length / 2) ts)

theorem bef_ntrans {a b c : Tk} (h : befP a b = false) (h' : befP b c = false) : befP a c = false := by
  rw [Bool.eq_false_iff] at h h' ⊢
  rw [Ne, bef_iff] at h h' ⊢
  omega
theorem swap_len (l : List Tk) (i j : Nat) : (swapP l i j).length = l.length := by simp [swapP]
theorem gTk_set_self {l : List Tk} {i : Nat} {x : Tk} (h : i < l.length) : gTk (l.set i x) i = x := by unfold gTk; rw [List.getElem?_set_self h]; rfl
theorem gTk_set_ne {l : List Tk} {i j : Nat} {x : Tk} (h : i ≠ j) : gTk (l.set i x) j = gTk l j := by unfold gTk; rw [List.getElem?_set_ne h]
theorem swap_left {l : List Tk} {i j : Nat} (hi : i < l.length) (hj : j < l.length) : gTk (swapP l i j) i = gTk l j := by
  unfold swapP
  by_cases e : j = i
  · subst e; rw [gTk_set_self (by simpa using hj)]
  · rw [gTk_set_ne e, gTk_set_self hi]
theorem swap_right {l : List Tk} {i j : Nat} (hj : j < l.length) : gTk (swapP l i j) j = gTk l i := by
  unfold swapP; rw [gTk_set_self (by simpa using hj)]
theorem swap_far {l : List Tk} {i j k : Nat} (hi : k ≠ i) (hj : k ≠ j) : gTk (swapP l i j) k = gTk l k := by
  unfold swapP; rw [gTk_set_ne hj.symm, gTk_set_ne hi.symm]
theorem set_perm : ∀ {l : List Tk} {i : Nat} (x : Tk), i < l.length → (gTk l i :: l.set i x).Perm (x :: l)
  | [], _, _, h => by simp at h
  | a :: l, 0, x, _ => by unfold gTk; simpa using List.Perm.swap x a l
  | a :: l, i + 1, x, h => by
    have ih := set_perm (l := l) (i := i) x (by simpa using h)
    have e : gTk (a :: l) (i + 1) = gTk l i := by unfold gTk; simp
    rw [e, pC]
    exact (List.Perm.swap a _ _).trans ((ih.cons a).trans (List.Perm.swap x a l))
theorem swap_perm {l : List Tk} {i j : Nat} (hi : i < l.length) (hj : j < l.length) : (swapP l i j).Perm l := by
  by_cases e : i = j
  · subst e
    unfold swapP
    rw [List.set_set]
    have : l.set i (gTk l i) = l := by
      unfold gTk; rw [List.getElem?_eq_getElem hi]; simp
    rw [this]
  · have h1 := set_perm (l := l) (i := i) (gTk l j) hi
    have h2 := set_perm (l := l.set i (gTk l j)) (i := j) (gTk l i) (by simpa using hj)
    rw [gTk_set_ne e] at h2
    exact ((h2.trans h1)).cons_inv
theorem child_or {l : List Tk} {i n : Nat} (h : ¬ n ≤ 2 * i + 1) : (childP l i n = 2 * i + 1 ∨ childP l i n = 2 * i + 2) ∧ childP l i n < n := by
  unfold childP
  split
  · rename_i hc; exact ⟨.inr rfl, hc.1⟩
  · exact ⟨.inl rfl, by omega⟩
/-- The other child does not come before it. -/
theorem child_first {l : List Tk} {i n k : Nat} (hk : k < n) (hp : k = 2 * i + 1 ∨ k = 2 * i + 2) : befP (gTk l k) (gTk l (childP l i n)) = false := by
  unfold childP
  split
  · rename_i hc
    rcases hp with rfl | rfl
    · exact bef_asymm hc.2
    · exact bef_irr _
  · rename_i hc
    rcases hp with rfl | rfl
    · exact bef_irr _
    · exact Bool.eq_false_iff.2 fun h => hc ⟨hk, h⟩
theorem down_len : ∀ (f : Nat) (l : List Tk) (i n : Nat), (downP f l i n).length = l.length
  | 0, _, _, _ => rfl
  | f + 1, l, i, n => by
    unfold downP
    split
    · rfl
    · split
      · rw [down_len f, swap_len]
      · rfl
theorem down_perm : ∀ (f : Nat) (l : List Tk) (i n : Nat), n ≤ l.length → (downP f l i n).Perm l
  | 0, _, _, _, _ => List.Perm.refl _
  | f + 1, l, i, n, hn => by
    unfold downP
    split
    · exact List.Perm.refl _
    · rename_i hle
      have hc := child_or (l := l) hle
      split
      · exact (down_perm f _ _ n (by rw [swap_len]; exact hn)).trans (swap_perm (by omega) (by omega))
      · exact List.Perm.refl _
theorem down_far : ∀ (f : Nat) (l : List Tk) (i n k : Nat), n ≤ k → gTk (downP f l i n) k = gTk l k
  | 0, _, _, _, _, _ => rfl
  | f + 1, l, i, n, k, hk => by
    unfold downP
    split
    · rfl
    · rename_i hle
      have hc := child_or (l := l) hle
      split
      · rw [down_far f _ _ n k hk, swap_far (by omega) (by omega)]
      · rfl
/-- A heap, from the node s on. -/
def Hp (l : List Tk) (n s : Nat) : Prop := ∀ k p, k < n → s ≤ p → (k = 2 * p + 1 ∨ k = 2 * p + 2) → befP (gTk l k) (gTk l p) = false
/-- A heap but for the node i. -/
def Hole (l : List Tk) (n s i : Nat) : Prop := s ≤ i ∧ (∀ k p, k < n → s ≤ p → p ≠ i → (k = 2 * p + 1 ∨ k = 2 * p + 2) → befP (gTk l k) (gTk l p) = false) ∧
  ∀ k q, k < n → (k = 2 * i + 1 ∨ k = 2 * i + 2) → s ≤ q → (i = 2 * q + 1 ∨ i = 2 * q + 2) → befP (gTk l k) (gTk l q) = false
theorem down_heap : ∀ (f : Nat) (l : List Tk) (i n s : Nat), n ≤ l.length → n ≤ i + f → Hole l n s i → Hp (downP f l i n) n s
  | 0, l, i, n, s, hn, hf, h => by
    intro k p hk hp hkp
    exact h.2.1 k p hk hp (by omega) hkp
  | f + 1, l, i, n, s, hn, hf, h => by
    unfold downP
    split
    · intro k p hk hp hkp
      exact h.2.1 k p hk hp (by omega) hkp
    · rename_i hle
      have hc := child_or (l := l) hle
      have hfirst : ∀ k, k < n → (k = 2 * i + 1 ∨ k = 2 * i + 2) → befP (gTk l k) (gTk l (childP l i n)) = false := fun k hk hp => child_first hk hp
      generalize childP l i n = j at *
      split
      · rename_i hb
        refine down_heap f _ j n s (by rw [swap_len]; exact hn) (by omega) ⟨by have := h.1; omega, fun k p hk hp hpj hkp => ?_, fun k q hk hkj hq hqj => ?_⟩
        · by_cases e1 : k = i
          · subst e1
            rw [swap_left (by omega) (by omega), swap_far (by omega) (by omega)]
            exact h.2.2 j p hc.2 hc.1 hp hkp
          · by_cases e2 : p = i
            · subst e2
              rw [swap_left (by omega) (by omega)]
              by_cases e3 : k = j
              · subst e3
                rw [swap_right (by omega)]
                exact bef_asymm hb
              · rw [swap_far (by omega) e3]
                exact hfirst k hk hkp
            · rw [swap_far e1 (by omega), swap_far e2 hpj]
              exact h.2.1 k p hk hp e2 hkp
        · have hqi : q = i := by omega
          subst hqi
          rw [swap_left (by omega) (by omega), swap_far (by omega) (by omega)]
          exact h.2.1 k j hk (by have := h.1; omega) (by omega) hkj
      · rename_i hb
        intro k p hk hp hkp
        by_cases e : p = i
        · subst e
          exact bef_ntrans (hfirst k hk hkp) (Bool.eq_false_iff.2 hb)
        · exact h.2.1 k p hk hp e hkp
theorem root_first {l : List Tk} {n : Nat} (h : Hp l n 0) : ∀ k, k < n → befP (gTk l k) (gTk l 0) = false := by
  intro k
  induction k using Nat.strongRecOn with
  | ind k ih =>
    intro hk
    by_cases h0 : k = 0
    · subst h0; exact bef_irr _
    · exact bef_ntrans (h k ((k - 1) / 2) hk (Nat.zero_le _) (by omega)) (ih _ (by omega) (by omega))
theorem init_len : ∀ (i : Nat) (l : List Tk), (initP i l).length = l.length
  | 0, _ => rfl
  | i + 1, l => by rw [initP, init_len i, down_len]
theorem init_perm : ∀ (i : Nat) (l : List Tk), (initP i l).Perm l
  | 0, _ => List.Perm.refl _
  | i + 1, l => by rw [initP]; exact (init_perm i _).trans (down_perm _ _ _ _ (Nat.le_refl _))
theorem init_heap : ∀ (i : Nat) (l : List Tk), Hp l l.length i → Hp (initP i l) l.length 0
  | 0, _, h => h
  | i + 1, l, h => by
    rw [initP]
    have := init_heap i (downP l.length l i l.length) (by
      rw [down_len]
      exact down_heap _ l i _ i (Nat.le_refl _) (by omega) ⟨Nat.le_refl _, fun k p hk hp hpi hkp => h k p hk (by omega) hkp, fun k q hk hki hq hqi => by omega⟩)
    rwa [down_len] at this
theorem init_all (l : List Tk) : Hp (initP (l.length / 2) l) l.length 0 := init_heap _ l (fun k p hk hp hkp => by omega)
theorem pop_len (l : List Tk) (m : Nat) : (popP l m).length = l.length := by rw [popP, down_len, swap_len]
theorem pop_perm {l : List Tk} {m : Nat} (h : l.length = m + 1) : (popP l m).Perm l := (down_perm _ _ _ _ (by rw [swap_len]; omega)).trans (swap_perm (by omega) (by omega))
theorem pop_last {l : List Tk} {m : Nat} (h : l.length = m + 1) : gTk (popP l m) m = gTk l 0 := by
  rw [popP, down_far _ _ _ _ _ (Nat.le_refl _), swap_right (by omega)]
theorem pop_split {l : List Tk} {m : Nat} (h : l.length = m + 1) : popP l m = (popP l m).take m ++ [gTk l 0] := by
  have hl : (popP l m).length = m + 1 := by rw [pop_len, h]
  have e := pop_last h
  unfold gTk at e
  rw [List.getElem?_eq_getElem (by omega)] at e
  conv => lhs; rw [← List.take_append_drop m (popP l m)]
  congr 1
  rw [List.drop_eq_getElem_cons (by omega), List.drop_eq_nil_of_le (by omega)]
  exact congrArg (fun x => [x]) e
theorem gTk_take {l : List Tk} {m k : Nat} (h : k < m) : gTk (l.take m) k = gTk l k := by unfold gTk; rw [List.getElem?_take, if_pos h]
theorem pop_heap {l : List Tk} {m : Nat} (h : l.length = m + 1) (hp : Hp l (m + 1) 0) : Hp ((popP l m).take m) m 0 := by
  have hd : Hp (popP l m) m 0 := by
    refine down_heap m (swapP l 0 m) 0 m 0 (by rw [swap_len]; omega) (by omega) ⟨Nat.le_refl _, fun k p hk _ hp0 hkp => ?_, fun k q hk _ _ hq => by omega⟩
    rw [swap_far (by omega) (by omega), swap_far hp0 (by omega)]
    exact hp k p (by omega) (Nat.zero_le _) hkp
  intro k p hk hp' hkp
  rw [gTk_take hk, gTk_take (by omega)]
  exact hd k p hk hp' hkp
theorem drain_perm : ∀ (m : Nat) (l : List Tk), l.length = m → (drainP m l).Perm l
  | 0, l, h => by rw [List.eq_nil_of_length_eq_zero h]; exact List.Perm.refl _
  | m + 1, l, h => by
    rw [drainP, pop_last h]
    refine ((drain_perm m _ (by rw [List.length_take, pop_len, h]; omega)).cons _).trans ?_
    have := pop_perm h
    rw [pop_split h] at this
    exact (List.perm_append_comm (l₁ := [gTk l 0])).trans this
theorem drain_order : ∀ (m : Nat) (l : List Tk), l.length = m → Hp l m 0 → (l.map (·.1)).Nodup → InOrder (drainP m l)
  | 0, _, _, _, _ => List.Pairwise.nil
  | m + 1, l, h, hp, hd => by
    have hpp := pop_perm h
    have hlen : ((popP l m).take m).length = m := by rw [List.length_take, pop_len, h]; omega
    have hsp := pop_split h
    have hd2 : (((popP l m).take m ++ [gTk l 0]).map (·.1)).Nodup := by rw [← hsp]; exact (List.Perm.nodup_iff (hpp.map _)).2 hd
    have hd3 := hd2
    rw [List.map_append, List.nodup_append] at hd2
    rw [drainP, pop_last h]
    refine List.pairwise_cons.2 ⟨fun z hz => ?_, drain_order m _ hlen (pop_heap h hp) hd2.1⟩
    have hz' : z ∈ (popP l m).take m := (drain_perm m _ hlen).subset hz
    have hne := hd2.2.2 z.1 (List.mem_map_of_mem hz') (gTk l 0).1 (by simp)
    refine (bef_total (a := gTk l 0) (b := z) (fun e => hne e.symm)).resolve_right ?_
    have hz2 : z ∈ l := hpp.subset (by rw [hsp]; exact List.mem_append_left _ hz')
    obtain ⟨k, hk, he⟩ := List.getElem_of_mem hz2
    have := root_first hp k (by omega)
    unfold gTk at this ⊢
    rw [List.getElem?_eq_getElem hk, he] at this
    intro hb
    rw [show (some z).getD (0, []) = z from rfl] at this
    rw [this] at hb
    cases hb
/-- What the heap yields. -/
theorem heap_sort {ts : List Tk} (hd : (ts.map (·.1)).Nodup) : heapP ts = sortP ts := by
  have hl := init_len (ts.length / 2) ts
  have hp := init_perm (ts.length / 2) ts
  refine order_unique (((drain_perm _ _ hl).trans hp).trans (sort_perm ts).symm) (drain_order _ _ hl (init_all ts) ?_) (sort_order hd)
  exact (List.Perm.nodup_iff (hp.map _)).2 hd
theorem heap_len (ts : List Tk) : (heapP ts).length = ts.length := by
  rw [heapP, (drain_perm _ _ (init_len _ _)).length_eq, init_len]
end Go.Proofs.YtdgeicdiiakhjaaGreat

namespace Go.Proofs.YtdgeicdiiakhjaaGreat
set_option linter.unusedSimpArgs false
set_option linter.unusedVariables false
open Go Go.RowKit
attribute [local go_sem ↓] Go.wp_at_zero Go.wp_at_succ

theorem sum_succ {xs : List Int} {k : Nat} (h : k < xs.length) : (xs.take (k + 1)).sum = (xs.take k).sum + xs[k]?.getD 0 := by
  rw [List.take_succ_eq_append_getElem h, List.sum_append, List.getElem?_eq_getElem h]; simp
theorem sum_bd {xs : List Int} (hb : ∀ x ∈ xs, -1000000 ≤ x ∧ x ≤ 1000000) : ∀ k : Nat, -1000000 * (k : Int) ≤ (xs.take k).sum ∧ (xs.take k).sum ≤ 1000000 * (k : Int) := by
  intro k
  induction k with
  | zero => simp
  | succ k ih =>
    by_cases h : k < xs.length
    · rw [sum_succ h, List.getElem?_eq_getElem h]
      have := hb _ (List.getElem_mem h)
      simp only [Option.getD_some]
      omega
    · rw [List.take_of_length_le (by omega)] at ih ⊢
      omega

set_option maxHeartbeats 800000 in
theorem total_any (A : Option Addr) (n c B : Nat) (xs : List Int) (w : World) (h : RdI w B A n xs) (hn : n ≤ 1000) (hb : ∀ x ∈ xs, -1000000 ≤ x ∧ x ≤ 1000000) :
    Calls Tryz.prog 119 #[.slice A n c] w fun e w' => e = .returned (.int .i64 xs.sum) ∧ w = w' := by
  have hl := qh h.len
  have H := qh h
  have Hb := qh (sum_bd hb)
  have Hx := qh hb
  clear h hb
  go_enter Tryz.func119, Tryz.ntmps119
  go_wp2
  go_loop [3, 8] (fun s i => ∃ k : Nat, i = .int .i64 k ∧ k ≤ n ∧ s = .int .i64 (xs.take k).sum) (fun _ i => n - (intOf i).toNat)
  case atStart => exact ⟨0, rfl, Nat.zero_le _, rfl⟩
  case round =>
    obtain ⟨k, rfl, hk, rfl⟩ := hrel
    by_cases hlt : k < n
    · obtain ⟨b, o, rfl, hb, hc⟩ := H.out.at_ hlt
      have Hs := qh (sum_succ (xs := xs) (k := k) (by have := hl.out; omega))
      have hk1 := Hb.out k
      have hk2 := Hb.out (k + 1)
      rw [Hs.out] at hk2
      have v1 : IntKind.i64.wrap ((k : Int) + 1) = (k : Int) + 1 := wr64 (by omega) (by omega)
      have v2 : IntKind.i64.wrap ((xs.take k).sum + xs[k]?.getD 0) = (xs.take k).sum + xs[k]?.getD 0 := wr64 (by omega) (by omega)
      go_wp2
      go_round
      case rel => exact ⟨k + 1, by go_num, by omega, by rw [Hs.out]⟩
      case measure => simp [intOf]; omega
    · go_wp2
      go_ret
      refine ⟨ret_int ?_, rfl⟩
      rw [List.take_of_length_le (by have := hl.out; omega)]

theorem isNaN_any (x : Int) (w : World) : Calls Tryz.prog 120 #[.int .i64 x] w fun e w' => e = .returned (.bool false) ∧ w = w' := by
  have h : ((x : Int) != x) = false := by simp
  go_enter Tryz.func120, Tryz.ntmps120
  go_wp2
  go_ret
  exact ⟨rfl, rfl⟩
/-- cmp.Compare. -/
def cmpP (x y : Int) : Int := if x < y then -1 else if y < x then 1 else 0
theorem cmpInt_any (x y : Int) (w : World) : Calls Tryz.prog 118 #[.int .i64 x, .int .i64 y] w fun e w' => e = .returned (.int .i64 (cmpP x y)) ∧ w = w' := by
  by_cases h1 : x < y
  · go_enter Tryz.func118, Tryz.ntmps118
    go_wp2_with (go_at_call 120; refine (isNaN_any _ _).mono ?_; rintro e w' ⟨rfl, rfl⟩)
    go_ret
    exact ⟨ret_int (by rw [cmpP, if_pos h1]), rfl⟩
  · by_cases h2 : y < x
    · go_enter Tryz.func118, Tryz.ntmps118
      go_wp2_with (go_at_call 120; refine (isNaN_any _ _).mono ?_; rintro e w' ⟨rfl, rfl⟩)
      go_ret
      exact ⟨ret_int (by rw [cmpP, if_neg (by omega), if_pos (by omega)]), rfl⟩
    · go_enter Tryz.func118, Tryz.ntmps118
      go_wp2_with (go_at_call 120; refine (isNaN_any _ _).mono ?_; rintro e w' ⟨rfl, rfl⟩)
      go_ret
      exact ⟨ret_int (by rw [cmpP, if_neg (by omega), if_neg (by omega)]), rfl⟩
/-- cmp.Or of two. -/
def orP (x y : Int) : Int := if x = 0 then y else x
theorem orTwo_any (b c : Nat) (x y : Int) (w : World) (h0 : w.cell? ⟨b, 0, none⟩ = some (.int .i64 x)) (h1 : w.cell? ⟨b, 1, none⟩ = some (.int .i64 y)) :
    Calls Tryz.prog 117 #[.slice (some ⟨b, 0, none⟩) 2 c] w fun e w' => e = .returned (.int .i64 (orP x y)) ∧ w = w' := by
  go_enter Tryz.func117, Tryz.ntmps117
  go_wp2
  go_loop [8] (fun i => ∃ k : Nat, i = .int .i64 k ∧ k ≤ 2 ∧ (0 < k → x = 0) ∧ (1 < k → y = 0)) (fun i => 2 - (intOf i).toNat)
  case atStart => exact ⟨0, rfl, Nat.zero_le _, fun h => by omega, fun h => by omega⟩
  case round =>
    obtain ⟨k, rfl, hk, hx, hy⟩ := hrel
    have Hx := qh hx
    have Hy := qh hy
    clear hx hy
    have hk3 : k = 0 ∨ k = 1 ∨ k = 2 := by omega
    clear hk
    rcases hk3 with rfl | rfl | rfl
    · by_cases hx : x = 0
      · have hb : ((x : Int) != 0) = false := by simp [hx]
        have HX := qh hx
        clear hx
        go_wp2
        go_round
        case rel => exact ⟨1, by go_num, by omega, fun _ => HX.out, fun h => by omega⟩
        case measure => simp [intOf]
      · have hb : ((x : Int) != 0) = true := by simp [hx]
        have HX := qh hx
        clear hx
        go_wp2
        go_ret
        exact ⟨ret_int (by have := HX.out; simp [orP, this]), rfl⟩
    · by_cases hy : y = 0
      · have hb : ((y : Int) != 0) = false := by simp [hy]
        have HY := qh hy
        clear hy
        go_wp2
        go_round
        case rel => exact ⟨2, by go_num, by omega, fun _ => Hx.out (by omega), fun _ => HY.out⟩
        case measure => simp [intOf]
      · have hb : ((y : Int) != 0) = true := by simp [hy]
        have HY := qh hy
        clear hy
        go_wp2
        go_ret
        exact ⟨ret_int (by have := Hx.out (by omega); simp [orP, this]), rfl⟩
    · go_wp2
      go_ret
      exact ⟨ret_int (by have h1 := Hx.out (by omega); have h2 := Hy.out (by omega); simp [orP, h1, h2]), rfl⟩
/-- compare. -/
def compP (a b : Tk) : Int := orP (cmpP b.2.sum a.2.sum) (cmpP a.1 b.1)
theorem comp_bef (a b : Tk) : decide (compP a b < 0) = befP a b := by
  rw [Bool.eq_iff_iff, bef_iff, decide_eq_true_eq]
  unfold compP orP cmpP
  by_cases h1 : b.2.sum < a.2.sum
  · simp [h1]
  · by_cases h2 : a.2.sum < b.2.sum
    · simp [h1, h2]; omega
    · by_cases h3 : a.1 < b.1
      · simp [h1, h2, h3]; omega
      · by_cases h4 : b.1 < a.1
        · simp [h1, h2, h3, h4]
        · simp [h1, h2, h3, h4]
end Go.Proofs.YtdgeicdiiakhjaaGreat
