/- Several texts in one. -/
import Derived.Test.YtdgeicdiiakhjaaGreatW20
namespace Go.Proofs.YtdgeicdiiakhjaaGreat
set_option linter.unusedSimpArgs false
set_option linter.unusedVariables false
open Go Go.RowKit
attribute [local go_sem ↓] Go.wp_at_zero Go.wp_at_succ

/-- All tasks by first fit, or nothing. -/
def firstAllP (room : List Int) (ts : List Tk) : List (List Tk) := if tasksOk room ts = true then allB (firstB room) ts else []
def bestAllP (room : List Int) (ts : List Tk) : List (List Tk) := if tasksOk room ts = true then allB (bestB room) ts else []
theorem roomOk_len {room : List Int} {ts : List Tk} (h : tasksOk room ts = true) : room.length = 3 := by
  simp only [tasksOk, roomOk, Bool.and_eq_true] at h
  exact vecOk_len h.1.1.1.1

set_option maxRecDepth 100000 in
set_option maxHeartbeats 800000 in
theorem firstAllS_any (A1 A : Option Addr) (n1 c1 n c : Nat) (room : List Int) (ts : List Tk) (w : World) (h1 : RdI w w.heap.size A1 n1 room) (h : RdT w w.heap.size A n ts) :
    Calls Tryz.prog 22 #[.slice A1 n1 c1, .slice A n c] w fun e w' => ∃ A' m c', e = .returned (.slice A' m c') ∧ OwnBR w' w.heap.size (.slice A' m c') m (firstAllP room ts) ∧ Below w.heap.size w w' := by
  have H1 := qh h1
  have H := qh h
  clear h1 h
  go_enter Tryz.func22, Tryz.ntmps22
  go_wp2_with fail
  refine (tasksValidS_any A1 A n1 c1 n c room ts w H1.out H.out).mono ?_; rintro e w1 ⟨rfl, mq, hw⟩
  have hb := below_drewN (Below.refl w.heap.size w) mq
  rw [hw] at hb
  have HB := qh hb
  clear hw hb
  have lz := HB.out.size
  cases hok : tasksOk room ts with
  | false =>
    have e0 : firstAllP room ts = [] := by unfold firstAllP; rw [hok]; rfl
    have E0 := qh e0
    clear e0
    have O0 := qh (show (w1.alloc (.cells #[] 24)).ownsRow w.heap.size 24 1 (.slice (some ⟨w1.heap.size, 0, none⟩) 0 0) 0 [] from World.ownsRow_made w1 #[] 0 lz (by unfold maxLen; omega) rfl)
    have B0 := qh (HB.out.alloc lz (.cells #[] 24))
    go_wp2_with fail
    go_ret
    exact ⟨_, _, _, rfl, by rw [E0.out]; exact ⟨[], O0.out, NdBR.nil⟩, B0.out⟩
  | true =>
    have e0 : firstAllP room ts = allB (firstB room) ts := by unfold firstAllP; rw [hok]; rfl
    have E0 := qh e0
    have Hok := qh hok
    have hn1 : 3 ≤ n1 := by have := H1.out.len; have := roomOk_len hok; omega
    clear e0 hok
    go_wp2_with fail
    refine (l11All_any A1 A n1 c1 n c room ts w1 (H1.out.up HB.out) (H.out.up HB.out) Hok.out hn1).mono ?_; rintro e w2 ⟨A', m, c', rfl, hO, hb⟩
    have HO := qh hO
    have B2 := qh (HB.out.trans (hb.mono lz))
    clear hO hb
    go_wp2_with fail
    go_ret
    exact ⟨_, _, _, rfl, by rw [E0.out]; exact obr_low HO.out lz, B2.out⟩

/-- The first k products, summed. -/
def dotTo (xs ys : List Int) : Nat → Int
  | 0 => 0
  | k + 1 => dotTo xs ys k + xs[k]?.getD 0 * ys[k]?.getD 0
theorem dotTo_bd {xs ys : List Int} (hx : ∀ j : Nat, j < 3 → 0 ≤ xs[j]?.getD 0 ∧ xs[j]?.getD 0 ≤ 1000) (hy : ∀ j : Nat, j < 3 → -1000000 ≤ ys[j]?.getD 0 ∧ ys[j]?.getD 0 ≤ 1000000) : ∀ k : Nat, k ≤ 3 → -1000000000 * (k : Int) ≤ dotTo xs ys k ∧ dotTo xs ys k ≤ 1000000000 * (k : Int) ∧ (k < 3 → -1000000000 ≤ xs[k]?.getD 0 * ys[k]?.getD 0 ∧ xs[k]?.getD 0 * ys[k]?.getD 0 ≤ 1000000000) := by
  have key : ∀ k : Nat, k < 3 → -1000000000 ≤ xs[k]?.getD 0 * ys[k]?.getD 0 ∧ xs[k]?.getD 0 * ys[k]?.getD 0 ≤ 1000000000 := fun k hk => by
    obtain ⟨a1, a2⟩ := hx k hk
    obtain ⟨b1, b2⟩ := hy k hk
    generalize xs[k]?.getD 0 = a at *
    generalize ys[k]?.getD 0 = b at *
    have h1 : a * b ≤ a * 1000000 := Int.mul_le_mul_of_nonneg_left b2 a1
    have h2 : a * (-1000000) ≤ a * b := Int.mul_le_mul_of_nonneg_left b1 a1
    constructor <;> omega
  intro k
  induction k with
  | zero => intro _; simp [dotTo]; exact key 0 (by omega)
  | succ k ih =>
    intro hk
    have := ih (by omega)
    have := key k (by omega)
    rw [dotTo]
    refine ⟨by omega, by omega, key (k + 1)⟩

set_option maxRecDepth 100000 in
set_option maxHeartbeats 800000 in
theorem l1Dot_any (A1 A2 : Option Addr) (n1 c1 n2 c2 B1 B2 : Nat) (xs ys : List Int) (w : World) (h1 : RdI w B1 A1 n1 xs) (h2 : RdI w B2 A2 n2 ys) (hn1 : 3 ≤ n1) (hn2 : 3 ≤ n2)
    (hx : ∀ j : Nat, j < 3 → 0 ≤ xs[j]?.getD 0 ∧ xs[j]?.getD 0 ≤ 1000) (hy : ∀ j : Nat, j < 3 → -1000000 ≤ ys[j]?.getD 0 ∧ ys[j]?.getD 0 ≤ 1000000) :
    Calls Tryz.prog 89 #[.slice A1 n1 c1, .slice A2 n2 c2] w fun e w' => e = .returned (.int .i64 (dotTo xs ys 3)) ∧ ∃ m, w.drewN m = w' := by
  have Hd := qh (dotTo_bd hx hy)
  clear hx hy
  go_enter Tryz.func89, Tryz.ntmps89
  go_wp2
  go_loopw [5, 6] (fun v i wr => ∃ k m : Nat, i = .int .i64 k ∧ k ≤ 3 ∧ v = .int .i64 (dotTo xs ys k) ∧ wr = w.drewN m) (fun _ i _ => 3 - (intOf i).toNat)
  case atStart => exact ⟨0, 0, rfl, Nat.zero_le _, rfl, rfl⟩
  case round =>
    obtain ⟨k, m, rfl, hk, rfl, rfl⟩ := hrel
    obtain ⟨d1, d2, d3⟩ := Hd.out k hk
    by_cases hlt : k < 3
    · obtain ⟨d3, d4⟩ := d3 hlt
      obtain ⟨b1, o1, rfl, hb1, hc1⟩ := h1.at_ (show k < n1 by omega)
      obtain ⟨b2, o2, rfl, hb2, hc2⟩ := h2.at_ (show k < n2 by omega)
      have H1 := qh h1
      have H2 := qh h2
      have Hs := qh (show dotTo xs ys (k + 1) = dotTo xs ys k + xs[k]?.getD 0 * ys[k]?.getD 0 from rfl)
      clear h1 h2
      have k1 : (0 : Int) ≤ (k : Int) := by omega
      have k2 : (k : Int) < (n1 : Int) := by omega
      have k3 : (k : Int) < (n2 : Int) := by omega
      generalize xs[k]?.getD 0 = x at *
      generalize ys[k]?.getD 0 = y at *
      generalize dotTo xs ys k = dk at *
      have e1 : IntKind.i64.wrap (x * y) = x * y := wr64 (by omega) (by omega)
      have e2 : IntKind.i64.wrap (dk + x * y) = dk + x * y := wr64 (by omega) (by omega)
      go_wp2
      go_quiet (fail)
      go_wp2
      go_roundw
      case rel => exact ⟨k + 1, _, by go_num, by omega, by rw [Hs.out], rfl⟩
      case measure => simp [intOf]; omega
    · obtain rfl : k = 3 := by omega
      have H1 := qh h1
      have H2 := qh h2
      clear h1 h2
      go_wp2
      go_ret
      exact ⟨rfl, m, rfl⟩
end Go.Proofs.YtdgeicdiiakhjaaGreat

namespace Go.Proofs.YtdgeicdiiakhjaaGreat
set_option linter.unusedSimpArgs false
set_option linter.unusedVariables false
open Go Go.RowKit

/-- A vector less another one. -/
def sub3 (a b : List Int) : List Int := [a[0]?.getD 0 + -b[0]?.getD 0, a[1]?.getD 0 + -b[1]?.getD 0, a[2]?.getD 0 + -b[2]?.getD 0]
theorem sub3_at {a b : List Int} {j : Nat} (h : j < 3) : (sub3 a b)[j]?.getD 0 = a[j]?.getD 0 + -b[j]?.getD 0 := by
  match j, h with
  | 0, _ => rfl
  | 1, _ => rfl
  | 2, _ => rfl
theorem sub3_take_succ (a b : List Int) {k : Nat} (h : k < 3) : (sub3 a b).take (k + 1) = (sub3 a b).take k ++ [a[k]?.getD 0 + -b[k]?.getD 0] := by
  match k, h with
  | 0, _ => rfl
  | 1, _ => rfl
  | 2, _ => rfl

set_option maxRecDepth 100000 in
set_option maxHeartbeats 1600000 in
theorem l1Sub_any (A1 A2 : Option Addr) (n1 c1 n2 c2 : Nat) (xs ys : List Int) (w : World) (h1 : RdI w w.heap.size A1 n1 xs) (h2 : RdI w w.heap.size A2 n2 ys) (hn1 : 3 ≤ n1) (hn2 : 3 ≤ n2)
    (hb1 : ∀ j, j < 3 → -1000000 ≤ xs[j]?.getD 0 ∧ xs[j]?.getD 0 ≤ 1000000) (hb2 : ∀ j, j < 3 → -1000000 ≤ ys[j]?.getD 0 ∧ ys[j]?.getD 0 ≤ 1000000) :
    Calls Tryz.prog 87 #[.slice A1 n1 c1, .slice A2 n2 c2, .int .i64 (-1)] w fun e w' => ∃ A c, e = .returned (.slice A 3 c) ∧ RdI w' w'.heap.size A 3 (sub3 xs ys) ∧ Below w.heap.size w w' := by
  obtain ⟨i0, hi0, hz0, hz1, hz2⟩ := info_parts int_info
  have Hb1 := qh hb1
  have Hb2 := qh hb2
  clear hb1 hb2
  go_enter Tryz.func87, Tryz.ntmps87
  go_wp2
  go_loopw [7, 8] (fun v i wr => ∃ k : Nat, i = .int .i64 k ∧ k ≤ 3 ∧ wr.ownsRow w.heap.size 3 1 v k (((sub3 xs ys).take k).map (Value.int .i64)) ∧ Below w.heap.size w wr ∧ ∃ A c, v = .slice A k c) (fun _ i _ => 3 - (intOf i).toNat)
  case atStart => exact ⟨0, rfl, Nat.zero_le _, World.ownsRow_made w #[] 0 (Nat.le_refl _) (by unfold maxLen; omega) rfl, (Below.refl _ _).alloc (Nat.le_refl _) _, _, _, rfl⟩
  case round =>
    obtain ⟨k, rfl, hk, hown, hbel, A, c, rfl⟩ := hrel
    by_cases hlt : k < 3
    · obtain ⟨b1, o1, rfl, lb1, hc1⟩ := (h1.below hbel).at_ (show k < n1 by omega)
      obtain ⟨b2, o2, rfl, lb2, hc2⟩ := (h2.below hbel).at_ (show k < n2 by omega)
      have H1 := qh h1
      have H2 := qh h2
      clear h1 h2
      have k1 : (0 : Int) ≤ (k : Int) := by omega
      have k2 : (k : Int) < (n1 : Int) := by omega
      have k3 : (k : Int) < (n2 : Int) := by omega
      obtain ⟨p1, p2⟩ := Hb1.out k hlt
      obtain ⟨p3, p4⟩ := Hb2.out k hlt
      have lz := hbel.size
      have bs1 : b1 < wr.heap.size := by omega
      have bs2 : b2 < wr.heap.size := by omega
      have ne1 := own_ne hown lb1
      have ne2 := own_ne hown lb2
      have e1 : IntKind.i64.wrap (-ys[k]?.getD 0) = -ys[k]?.getD 0 := wr64 (by omega) (by omega)
      have e2 : IntKind.i64.wrap (xs[k]?.getD 0 + -ys[k]?.getD 0) = xs[k]?.getD 0 + -ys[k]?.getD 0 := wr64 (by omega) (by omega)
      go_wp2
      go_region_held3 (fun w' => w'.cell? ⟨b1, o1 + k, none⟩ = some (.int .i64 (xs[k]?.getD 0)) ∧ w'.cell? ⟨b2, o2 + k, none⟩ = some (.int .i64 (ys[k]?.getD 0)))
        (first
          | go_keep
          | (go_split_ands
             refine ⟨?_, ?_⟩
             · (rw [hgrow.cell_far _ (by simp; omega) (Ne.symm ne1)]; assumption)
             · (rw [hgrow.cell_far _ (by simp; omega) (Ne.symm ne2)]; assumption)))
        ((refine step_append_lies _ (by rfl) _ _ _ (by rfl) w.heap.size 3 i0 _ 1 8 Tryz.underlying23 hi0 hz0 hz1 hz2 rfl (by omega) (.slice A k c) k _ (by rfl) ((hown.alloc _).drew) ⟨wr.heap.size, 0, none⟩ 1 1 [.int .i64 (xs[k]?.getD 0 + -ys[k]?.getD 0)] (by rfl) (by rfl) (World.news_of_block (cs := #[.int .i64 (xs[k]?.getD 0 + -ys[k]?.getD 0)]) (t := 3) (fr := (0, 0)) (heap_alloc_new wr _)) (by simp [Value.oneCell']) (by omega) (by unfold maxLen; omega) (by omega) (by simp; omega) (wr.heap.size + 1) (by simp) ?_; intro gg cap w1 hown1 hgrow hat hltg))
      have hb' : Below w.heap.size w w1 := ((hbel.alloc lz _).drew).grown hgrow (by simp; omega) (fun j e => (hown.lt j e).1)
      have Hown := qh hown1
      clear e1 e2 hown hown1
      go_wp2
      go_roundw
      case rel => exact ⟨k + 1, by go_num, by omega, by rw [sub3_take_succ _ _ hlt, List.map_append]; exact Hown.out, hb', _, _, rfl⟩
      case measure => simp [intOf]; omega
    · have ek : 3 = k := by omega
      have Ek := qh ek
      have Hown := qh hown
      clear ek hown
      go_wp2
      go_ret
      have hown := Hown.out
      have := Ek.out
      subst this
      exact ⟨_, _, rfl, RdI.of_own hown (by omega), hbel⟩

end Go.Proofs.YtdgeicdiiakhjaaGreat

namespace Go.Proofs.YtdgeicdiiakhjaaGreat
set_option linter.unusedSimpArgs false
set_option linter.unusedVariables false
open Go Go.RowKit
attribute [local go_sem ↓] Go.wp_at_zero Go.wp_at_succ

theorem score_dot (room xs : List Int) (ts : List Tk) : dotTo xs (sub3 room (loadP ts)) 3 = scoreP room ts xs := by
  simp only [dotTo, sub3_at (show 0 < 3 by omega), sub3_at (show 1 < 3 by omega), sub3_at (show 2 < 3 by omega), scoreP, Int.sub_eq_add_neg, Int.zero_add]

set_option maxRecDepth 100000 in
set_option maxHeartbeats 1600000 in
theorem l12Score_any (A1 A2 A3 : Option Addr) (n1 c1 n2 c2 c3 : Nat) (room : List Int) (ts : List Tk) (id : Int) (xs : List Int) (w : World) (h1 : RdI w w.heap.size A1 n1 room) (h2 : RdT w w.heap.size A2 n2 ts) (h3 : RdI w w.heap.size A3 3 xs)
    (hn1 : 3 ≤ n1) (hn2 : n2 ≤ 900) (hl : ∀ j, j < n2 → (ts[j]?.getD (0, [])).2.length = 3) (hb : ∀ j i : Nat, 0 ≤ (ts[j]?.getD (0, [])).2[i]?.getD 0 ∧ (ts[j]?.getD (0, [])).2[i]?.getD 0 ≤ 1000)
    (hx : ∀ j : Nat, j < 3 → 0 ≤ xs[j]?.getD 0 ∧ xs[j]?.getD 0 ≤ 1000) (hr : ∀ j : Nat, j < 3 → 0 ≤ room[j]?.getD 0 ∧ room[j]?.getD 0 ≤ 1000) :
    Calls Tryz.prog 74 #[.slice A1 n1 c1, .slice A2 n2 c2, .agg #[.int .i64 id, .slice A3 3 c3]] w fun e w' => e = .returned (.int .i64 (scoreP room ts xs)) ∧ Below w.heap.size w w' := by
  have HL := qh (show ∀ i, i < 3 → 0 ≤ (loadP ts)[i]?.getD 0 ∧ (loadP ts)[i]?.getD 0 ≤ 900000 from fun i hi => by
    have := loadP_bd hb (k := ts.length) (Nat.le_refl _) i hi
    rw [List.take_length] at this
    have := h2.len
    omega)
  have H1 := qh h1
  have H2 := qh h2
  have H3 := qh h3
  have Hl := qh hl
  have Hb := qh hb
  have Hx := qh hx
  have Hr := qh hr
  clear h1 h2 h3 hl hb hx hr
  have B1 := qh (alloc_up w (.cells #[.int .i64 id, .slice A3 3 c3] 43))
  have P1 := qh (Blk.new w 43 #[.int .i64 id, .slice A3 3 c3])
  go_enter Tryz.func74, Tryz.ntmps74
  go_wp2_with fail
  generalize w.alloc (.cells #[.int .i64 id, .slice A3 3 c3] 43) = w1 at B1 P1 ⊢
  have lp := P1.out.lt
  have x1 : w1.cell? ⟨w.heap.size, 1, none⟩ = some (.slice A3 3 c3) := P1.out.cell 1
  refine wp_region_mix (.take 0 (.take 1 (.take 2 (.take 3 (.bar 4 (.bar 5 (.bar 6 (.take 7 .nil)))))))) (fun w' => w'.cell? ⟨w.heap.size, 1, none⟩ = some (.slice A3 3 c3)) (by kernel_rfl) (by kernel_rfl) x1 (fun _ => ?_)
  have D0 := qh ((Below.refl w1.heap.size w1).drew)
  have HS := qh (fun w' (hb : Below w1.heap.size w1 w') => (hb.cell (p := ⟨w.heap.size, 1, none⟩) lp).trans x1)
  clear x1
  generalize w1.drew = u0 at D0 ⊢
  repeat ((first | refine wpMix_skip (by rfl) (by rfl) ?_ | (refine wpMix_take (v := ?_) (by rfl) (by rfl) (fun wS hSt => ?_) ?_; rotate_left; (focus ((try dsimp only at hSt); (go_simp <;> with_reducible rfl); done)))); (try simp only [Act.put, pS, pZ, pC]))
  (refine wpMix_bar (by rfl) (fun K hK => ?_); go_simp)
  refine (l2Load_any A2 n2 c2 ts u0 ((H2.out.up B1.out).up D0.out) hn2 Hl.out Hb.out).mono ?_; rintro e u1 ⟨A4, c4, rfl, hR, hb⟩
  have D1 := qh (D0.out.trans (hb.mono D0.out.size))
  have R1 := qh hR
  ((try dsimp only); refine nxK hK _ _ (HS.out _ D1.out) ?_; clear hK K; (try simp only [Act.put, pS, pZ, pC]))
  clear hR hb
  (refine wpMix_bar (by rfl) (fun K hK => ?_); go_simp)
  refine (l1Sub_any A1 A4 n1 c1 3 c4 _ _ u1 ((H1.out.up B1.out).up D1.out) R1.out hn1 (Nat.le_refl _) (fun j hj => by have := Hr.out j hj; omega) (fun j hj => by have := HL.out j hj; omega)).mono ?_; rintro e u2 ⟨A5, c5, rfl, hR, hb⟩
  have D2 := qh (D1.out.trans (hb.mono D1.out.size))
  have R2 := qh hR
  ((try dsimp only); refine nxK hK _ _ (HS.out _ D2.out) ?_; clear hK K; (try simp only [Act.put, pS, pZ, pC]))
  clear hR hb
  (refine wpMix_bar (by rfl) (fun K hK => ?_); go_simp)
  refine (l1Dot_any A3 A5 3 c3 3 c5 _ _ _ _ u2 ((H3.out.up B1.out).up D2.out) R2.out (Nat.le_refl _) (Nat.le_refl _) Hx.out (fun j hj => by rw [sub3_at hj]; have := HL.out j hj; have := Hr.out j hj; omega)).mono ?_; rintro e u3 ⟨rfl, mq, hw⟩
  have hb := below_drewN D2.out mq
  rw [hw] at hb
  have D3 := qh hb
  rw [score_dot]
  ((try dsimp only); refine nxK hK _ _ (HS.out _ D3.out) ?_; clear hK K; (try simp only [Act.put, pS, pZ, pC]))
  clear hw hb
  repeat ((first | refine wpMix_skip (by rfl) (by rfl) ?_ | (refine wpMix_take (v := ?_) (by rfl) (by rfl) (fun wS hSt => ?_) ?_; rotate_left; (focus ((try dsimp only at hSt); (go_simp <;> with_reducible rfl); done)))); (try simp only [Act.put, pS, pZ, pC]))
  refine wpMix_nil ?_
  go_wp2_with fail
  go_ret
  exact ⟨rfl, B1.out.trans (D3.out.mono B1.out.size)⟩
end Go.Proofs.YtdgeicdiiakhjaaGreat

namespace Go.Proofs.YtdgeicdiiakhjaaGreat
set_option linter.unusedVariables false
set_option linter.unusedSimpArgs false

section
variable {room : List Int} {bs : List (List Tk)} {xs : List Int}
theorem score_pos (hx : ∀ j : Nat, j < 3 → 0 ≤ xs[j]?.getD 0) {k : Nat} (h : roomB room bs xs k = true) : 0 ≤ scoreP room (bs[k]?.getD []) xs := by
  have hf := fits3_iff.1 (show fits3 (add3 (loadP (bs[k]?.getD [])) xs) room = true from h)
  have h0 := hf 0 (by omega)
  have h1 := hf 1 (by omega)
  have h2 := hf 2 (by omega)
  rw [add3_at (by omega)] at h0 h1 h2
  have m0 := Int.mul_nonneg (hx 0 (by omega)) (show 0 ≤ room[0]?.getD 0 - (loadP (bs[k]?.getD []))[0]?.getD 0 by have := hx 0 (by omega); omega)
  have m1 := Int.mul_nonneg (hx 1 (by omega)) (show 0 ≤ room[1]?.getD 0 - (loadP (bs[k]?.getD []))[1]?.getD 0 by have := hx 1 (by omega); omega)
  have m2 := Int.mul_nonneg (hx 2 (by omega)) (show 0 ≤ room[2]?.getD 0 - (loadP (bs[k]?.getD []))[2]?.getD 0 by have := hx 2 (by omega); omega)
  unfold scoreP
  omega
/-- The best so far: none, or one with room, and its score. -/
def BestIs (room : List Int) (bs : List (List Tk)) (xs : List Int) (n : Nat) (b s : Int) : Prop := bestTo room bs xs n = (b, s) ∧ ((b = -1 ∧ s = -1) ∨ ∃ i : Nat, i < n ∧ b = (i : Int) ∧ s = scoreP room (bs[i]?.getD []) xs ∧ 0 ≤ s)
theorem BestIs.zero : BestIs room bs xs 0 (-1) (-1) := ⟨rfl, .inl ⟨rfl, rfl⟩⟩
theorem BestIs.full {n : Nat} {b s : Int} (h : BestIs room bs xs n b s) (hr : roomB room bs xs n = false) : BestIs room bs xs (n + 1) b s := by
  obtain ⟨h1, h2⟩ := h
  refine ⟨?_, h2.imp id (fun ⟨i, a, c⟩ => ⟨i, by omega, c⟩)⟩
  have hb := (bestTo_facts room bs xs n).1
  rw [bestTo, hr, h1]
  rw [h1] at hb
  rw [if_neg (by simp; exact hb)]
theorem BestIs.more {n : Nat} {b s : Int} (hx : ∀ j : Nat, j < 3 → 0 ≤ xs[j]?.getD 0) (h : BestIs room bs xs n b s) (hr : roomB room bs xs n = true) (hs : s < scoreP room (bs[n]?.getD []) xs) : BestIs room bs xs (n + 1) (n : Int) (scoreP room (bs[n]?.getD []) xs) := by
  obtain ⟨h1, h2⟩ := h
  refine ⟨?_, .inr ⟨n, by omega, rfl, rfl, score_pos hx hr⟩⟩
  rw [bestTo, h1]
  simp only [hr, if_true]
  rw [if_pos hs]
theorem BestIs.less {n : Nat} {b s : Int} (h : BestIs room bs xs n b s) (hs : ¬ s < scoreP room (bs[n]?.getD []) xs) (hr : roomB room bs xs n = true) : BestIs room bs xs (n + 1) b s := by
  obtain ⟨h1, h2⟩ := h
  refine ⟨?_, h2.imp id (fun ⟨i, a, c⟩ => ⟨i, by omega, c⟩)⟩
  rw [bestTo, h1]
  simp only [hr, if_true]
  rw [if_neg hs]
theorem BestIs.done {b s : Int} {t : Tk} (h : BestIs room bs t.2 bs.length b s) : bestB room bs t = b := by unfold bestB; rw [h.1]
end
end Go.Proofs.YtdgeicdiiakhjaaGreat
