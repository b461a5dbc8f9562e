/- Several texts in one. -/
import Derived.Test.YtdgeicdiiakhjaaGreatW24
import Derived.Test.YtdgeicdiiakhjaaGreatW23
import Derived.Test.YtdgeicdiiakhjaaGreatW15
import Derived.Test.YtdgeicdiiakhjaaGreatW5
import Derived.Test.YtdgeicdiiakhjaaGreatW8
import Derived.Deep.LoopGhost
namespace Go.Proofs.YtdgeicdiiakhjaaGreat
set_option linter.unusedSimpArgs false
set_option linter.unusedVariables false
open Go Go.RowKit

def dif3 (a b : List Int) : List Int := [a[0]?.getD 0 - b[0]?.getD 0, a[1]?.getD 0 - b[1]?.getD 0, a[2]?.getD 0 - b[2]?.getD 0]
theorem dif3_sub (a b : List Int) : dif3 a b = sub3 a b := by unfold dif3 sub3; simp only [Int.sub_eq_add_neg]
theorem dif3_at {a b : List Int} {j : Nat} (h : j < 3) : (dif3 a b)[j]?.getD 0 = a[j]?.getD 0 - b[j]?.getD 0 := by
  match j, h with
  | 0, _ => rfl
  | 1, _ => rfl
  | 2, _ => rfl
def fil3 (xs ys : List Int) (k : Nat) : List Int := (dif3 xs ys).take k ++ List.replicate (3 - k) 0
theorem fil3_set (xs ys : List Int) {k : Nat} (h : k < 3) : (fil3 xs ys k).set k (xs[k]?.getD 0 - ys[k]?.getD 0) = fil3 xs ys (k + 1) := by
  have := fill_set (dif3 xs ys) 0 (k := k) (by simp [dif3]; omega)
  have e := dif3_at (a := xs) (b := ys) h
  rw [List.getElem?_eq_getElem (by simp [dif3]; omega)] at e
  simp only [Option.getD_some] at e
  rw [e] at this
  exact this
theorem fil3_len (xs ys : List Int) {k : Nat} (h : k ≤ 3) : (fil3 xs ys k).length = 3 := by simp [fil3, dif3]; omega
theorem fil3_all (xs ys : List Int) : fil3 xs ys 3 = dif3 xs ys := rfl

set_option maxRecDepth 100000 in
set_option maxHeartbeats 800000 in
theorem minus_any (A1 A2 : Option Addr) (n1 c1 n2 c2 : Nat) (xs ys : List Int) (w : World) (h1 : RdI w w.heap.size A1 n1 xs) (h2 : RdI w w.heap.size A2 n2 ys) (hn1 : 3 ≤ n1) (hn2 : 3 ≤ n2)
    (hb1 : ∀ j, j < 3 → -1000000 ≤ xs[j]?.getD 0 ∧ xs[j]?.getD 0 ≤ 1000000) (hb2 : ∀ j, j < 3 → -1000000 ≤ ys[j]?.getD 0 ∧ ys[j]?.getD 0 ≤ 1000000) :
    Calls Tryz.prog 80 #[.slice A1 n1 c1, .slice A2 n2 c2] w fun e w' => ∃ A c, e = .returned (.slice A 3 c) ∧ RdI w' w'.heap.size A 3 (sub3 xs ys) ∧ Below w.heap.size w w' := by
  have Hb1 := qh hb1
  have Hb2 := qh hb2
  have H1 := qh h1
  have H2 := qh h2
  clear hb1 hb2 h1 h2
  have hmk : ∀ w, (Instr.makeSlice 50 (.int .i64 3) (.int .i64 3)).run Tryz.prog w = .ok (.slice (some ⟨w.heap.size, 0, none⟩) 3 3) (w.alloc (.cells #[.int .i64 0, .int .i64 0, .int .i64 0] 3)) := fun _ => by kernel_rfl
  go_enter Tryz.func80, Tryz.ntmps80
  go_wp2
  clear hmk
  go_loopw [10] (fun i wr => ∃ k : Nat, i = .int .i64 k ∧ k ≤ 3 ∧ Below w.heap.size w wr ∧ Blk wr w.heap.size 3 ((fil3 xs ys k).map (Value.int .i64)).toArray) (fun i _ => 3 - (intOf i).toNat)
  case atStart => exact ⟨0, rfl, Nat.zero_le _, (Below.refl _ _).alloc (Nat.le_refl _) _, Blk.new w _ _⟩
  case round =>
    obtain ⟨k, rfl, hk, hbel, hblk⟩ := hrel
    have Hblk := qh hblk
    clear hblk
    by_cases hlt : k < 3
    · obtain ⟨b1, o1, rfl, lb1, hc1⟩ := (H1.out.below hbel).at_ (show k < n1 by omega)
      obtain ⟨b2, o2, rfl, lb2, hc2⟩ := (H2.out.below hbel).at_ (show k < n2 by omega)
      have lz := hbel.size
      obtain ⟨p1, p2⟩ := Hb1.out k hlt
      obtain ⟨p3, p4⟩ := Hb2.out k hlt
      have k1 : (0 : Int) ≤ (k : Int) := by omega
      have k2 : (k : Int) < (n1 : Int) := by omega
      have k3 : (k : Int) < (n2 : Int) := by omega
      have k4 : (k : Int) < 3 := by omega
      have hcz : wr.cell? ⟨w.heap.size, k, none⟩ = some (.int .i64 ((fil3 xs ys k)[k]?.getD 0)) := by
        rw [Hblk.out.cell]
        simp [List.getElem?_eq_getElem (show k < (fil3 xs ys k).length by rw [fil3_len _ _ hk]; exact hlt)]
      have hfz : wr.frozen? ⟨w.heap.size, k, none⟩ = false := Hblk.out.frozen _
      generalize (fil3 xs ys k)[k]?.getD 0 = old at hcz
      go_wp2
      go_region
      go_wp2
      go_roundw
      case rel =>
        refine ⟨k + 1, by go_num, by omega, (hbel.setCell (p := ⟨w.heap.size, k, none⟩) (Nat.le_refl _) _).drew, ?_⟩
        have := (Hblk.out.set_ k (.int .i64 (xs[k]?.getD 0 - ys[k]?.getD 0))).drew
        rw [ints_set, fil3_set _ _ hlt] at this
        exact this
      case measure => simp [intOf]; omega
    · have ek : k = 3 := by omega
      subst ek
      go_wp2
      go_ret
      refine ⟨_, _, rfl, RdI.of_blk (by have := Hblk.out; rw [fil3_all, dif3_sub] at this; exact this) rfl (by omega), hbel⟩


set_option maxRecDepth 100000 in
set_option maxHeartbeats 800000 in
theorem dotI_any (A1 A2 : Option Addr) (c1 n2 c2 B1 B2 : Nat) (xs ys : List Int) (w : World) (h1 : RdI w B1 A1 3 xs) (h2 : RdI w B2 A2 n2 ys) (hn2 : 3 ≤ n2)
    (hx : ∀ j : Nat, j < 3 → 0 ≤ xs[j]?.getD 0 ∧ xs[j]?.getD 0 ≤ 1000) (hy : ∀ j : Nat, j < 3 → -1000000 ≤ ys[j]?.getD 0 ∧ ys[j]?.getD 0 ≤ 1000000) :
    Calls Tryz.prog 81 #[.slice A1 3 c1, .slice A2 n2 c2] w fun e w' => e = .returned (.int .i64 (dotTo xs ys 3)) ∧ w = w' := by
  have Hd := qh (dotTo_bd hx hy)
  have H1 := qh h1
  have H2 := qh h2
  clear hx hy h1 h2
  go_enter Tryz.func81, Tryz.ntmps81
  go_wp2
  go_loop [5, 10] (fun v i => ∃ k : Nat, i = .int .i64 k ∧ k ≤ 3 ∧ v = .int .i64 (dotTo xs ys k)) (fun _ i => 3 - (intOf i).toNat)
  case atStart => exact ⟨0, rfl, Nat.zero_le _, rfl⟩
  case round =>
    obtain ⟨k, rfl, hk, rfl⟩ := hrel
    obtain ⟨d1, d2, d3⟩ := Hd.out k hk
    by_cases hlt : k < 3
    · obtain ⟨d3, d4⟩ := d3 hlt
      obtain ⟨b1, o1, rfl, hb1, hc1⟩ := H1.out.at_ hlt
      obtain ⟨b2, o2, rfl, hb2, hc2⟩ := H2.out.at_ (show k < n2 by omega)
      have Hs := qh (show dotTo xs ys (k + 1) = dotTo xs ys k + xs[k]?.getD 0 * ys[k]?.getD 0 from rfl)
      have k1 : (0 : Int) ≤ (k : Int) := by omega
      have k2 : (k : Int) < 3 := by omega
      have k3 : (k : Int) < (n2 : Int) := by omega
      generalize xs[k]?.getD 0 = x at *
      generalize ys[k]?.getD 0 = y at *
      generalize dotTo xs ys k = dk at *
      have e1 : IntKind.i64.wrap (x * y) = x * y := wr64 (by omega) (by omega)
      have e2 : IntKind.i64.wrap (dk + x * y) = dk + x * y := wr64 (by omega) (by omega)
      go_wp2
      go_round
      case rel => exact ⟨k + 1, by go_num, by omega, by rw [Hs.out]⟩
      case measure => simp [intOf]; omega
    · obtain rfl : k = 3 := by omega
      go_wp2
      go_ret
      exact ⟨rfl, rfl⟩

theorem fits_left (room ld xs : List Int) : fits3 xs (sub3 room ld) = fits3 (add3 ld xs) room := by
  rw [Bool.eq_iff_iff, fits3_iff, fits3_iff]
  constructor
  · intro h j hj
    have := h j hj
    rw [sub3_at hj] at this
    rw [add3_at hj]; omega
  · intro h j hj
    have := h j hj
    rw [add3_at hj] at this
    rw [sub3_at hj]; omega

/-- What a node is for a task: its score, or that it is full. -/
def scV (f : Bool) (s : Int) : Value := if f = true then .iface 86 (.int .i64 s) else .iface 88 (.agg #[])

set_option maxRecDepth 100000 in
set_option maxHeartbeats 800000 in
theorem scoreNumber_yes (s : Int) (w : World) : Calls Tryz.prog 56 #[scV true s] w fun e w' => e = .returned (.int .i64 s) ∧ Below w.heap.size w w' := by
  have e0 : scV true s = .iface 86 (.int .i64 s) := rfl
  rw [e0]
  clear e0
  have a1 : ∀ W, (Instr.typeAssert (.iface 86 (.int .i64 s)) 66 86 true).run Tryz.prog W = .ok (.tuple #[.int .i64 s, .bool true]) W := fun W => by kernel_rfl
  go_enter Tryz.func56, Tryz.ntmps56
  go_wp2
  go_ret
  exact ⟨rfl, Below.refl _ _⟩
set_option maxRecDepth 100000 in
set_option maxHeartbeats 800000 in
theorem scoreNumber_no (s : Int) (w : World) : Calls Tryz.prog 56 #[scV false s] w fun e w' => e = .returned (.int .i64 (-1)) ∧ Below w.heap.size w w' := by
  have e0 : scV false s = .iface 88 (.agg #[]) := rfl
  rw [e0]
  clear e0
  have B0 := qh (alloc_up w (.cells #[] 88))
  have a1 : ∀ W, (Instr.typeAssert (.iface 88 (.agg #[])) 66 86 true).run Tryz.prog W = .ok (.tuple #[.int .i64 0, .bool false]) W := fun W => by kernel_rfl
  have a2 : ∀ W, (Instr.typeAssert (.iface 88 (.agg #[])) 66 88 true).run Tryz.prog W = .ok (.tuple #[.agg #[], .bool true]) W := fun W => by kernel_rfl
  go_enter Tryz.func56, Tryz.ntmps56
  go_wp2
  go_ret
  exact ⟨rfl, B0.out⟩

set_option maxRecDepth 100000 in
set_option maxHeartbeats 1600000 in
theorem scoreOf_any (A1 A2 A3 : Option Addr) (n1 c1 n2 c2 c3 : Nat) (room : List Int) (ts : List Tk) (id : Int) (xs : List Int) (w : World) (h1 : RdI w w.heap.size A1 n1 room) (h2 : RdT w w.heap.size A2 n2 ts) (h3 : RdI w w.heap.size A3 3 xs)
    (hn1 : 3 ≤ n1) (hn2 : n2 ≤ 900) (hl : ∀ j, j < n2 → (ts[j]?.getD (0, [])).2.length = 3) (hb : ∀ j i : Nat, 0 ≤ (ts[j]?.getD (0, [])).2[i]?.getD 0 ∧ (ts[j]?.getD (0, [])).2[i]?.getD 0 ≤ 1000)
    (hx : ∀ j : Nat, j < 3 → 0 ≤ xs[j]?.getD 0 ∧ xs[j]?.getD 0 ≤ 1000) (hr : ∀ j : Nat, j < 3 → 0 ≤ room[j]?.getD 0 ∧ room[j]?.getD 0 ≤ 1000) :
    Calls Tryz.prog 57 #[.slice A1 n1 c1, .slice A2 n2 c2, .agg #[.int .i64 id, .slice A3 3 c3]] w fun e w' => e = .returned (scV (fits3 (add3 (loadP ts) xs) room) (scoreP room ts xs)) ∧ Below w.heap.size w w' := by
  have HL := qh (show ∀ i, i < 3 → 0 ≤ (loadP ts)[i]?.getD 0 ∧ (loadP ts)[i]?.getD 0 ≤ 900000 from fun i hi => by
    have := loadP_bd hb (k := ts.length) (Nat.le_refl _) i hi
    rw [List.take_length] at this
    have := h2.len
    omega)
  have B1 := qh (alloc_up w (.cells #[.int .i64 id, .slice A3 3 c3] 43))
  have P1 := qh (Blk.new w 43 #[.int .i64 id, .slice A3 3 c3])
  have H1 := qh (h1.up B1.out)
  have H2 := qh (h2.up B1.out)
  have H3 := qh (h3.up B1.out)
  have Hl := qh hl
  have Hb := qh hb
  have Hx := qh hx
  have Hr := qh hr
  clear h1 h2 h3 hl hb hx hr
  go_enter Tryz.func57, Tryz.ntmps57
  go_wp2_with fail
  generalize hgx : w.heap.size = gx at P1 ⊢
  generalize w.alloc (.cells #[.int .i64 id, .slice A3 3 c3] 43) = w1 at B1 P1 H1 H2 H3 ⊢
  have lp := P1.out.lt
  refine (loadOf_any A2 n2 c2 ts w1 H2.out hn2 Hl.out Hb.out).mono ?_; rintro e w2 ⟨A4, c4, rfl, hR, hb2⟩
  have R2 := qh hR
  have B2 := qh hb2
  clear hR hb2
  go_wp2_with fail
  refine (minus_any A1 A4 n1 c1 3 c4 room (loadP ts) w2 (H1.out.up B2.out) R2.out hn1 (Nat.le_refl _) (fun j hj => by have := Hr.out j hj; omega) (fun j hj => by have := HL.out j hj; omega)).mono ?_; rintro e w3 ⟨A5, c5, rfl, hR, hb3⟩
  have R3 := qh hR
  have B3 := qh (B2.out.trans (hb3.mono B2.out.size))
  have x1 : w3.cell? ⟨gx, 1, none⟩ = some (.slice A3 3 c3) := (P1.out.below B3.out lp).cell 1
  have H33 := qh (H3.out.up B3.out)
  have BF := qh (B1.out.trans (B3.out.mono (by omega)))
  have HY := qh (show ∀ j : Nat, j < 3 → -1000000 ≤ (sub3 room (loadP ts))[j]?.getD 0 ∧ (sub3 room (loadP ts))[j]?.getD 0 ≤ 1000000 from fun j hj => by rw [sub3_at hj]; have := HL.out j hj; have := Hr.out j hj; omega)
  clear hR hb3 R2
  have ef := fits_any A3 A5 c3 3 c5 _ _ xs (sub3 room (loadP ts)) w3 H33.out R3.out (Nat.le_refl _)
  rw [fits_left] at ef
  cases hf : fits3 (add3 (loadP ts) xs) room with
  | false =>
    rw [hf] at ef
    have Ef := qh ef
    have Hf := qh hf
    clear ef hf
    go_wp2_with (first | (go_at_call 39; refine Ef.out.mono ?_; rintro e w' ⟨rfl, rfl⟩) | fail)
    go_ret
    exact ⟨by rw [Hf.out]; rfl, BF.out⟩
  | true =>
    rw [hf] at ef
    have Ef := qh ef
    have Hf := qh hf
    clear ef hf
    have Ed := qh (dotI_any A3 A5 c3 3 c5 _ _ xs (sub3 room (loadP ts)) w3 H33.out R3.out (Nat.le_refl _) Hx.out HY.out)
    have Es := qh (score_dot room xs ts)
    go_wp2_with (first | (go_at_call 39; refine Ef.out.mono ?_; rintro e w' ⟨rfl, rfl⟩) | (go_at_call 81; refine Ed.out.mono ?_; rintro e w' ⟨rfl, rfl⟩; rw [Es.out]) | fail)
    go_ret
    exact ⟨by rw [Hf.out]; rfl, BF.out⟩

set_option maxRecDepth 100000 in
set_option maxHeartbeats 3200000 in
theorem bestOf_any (A1 A2 A5 : Option Addr) (n1 c1 n2 c2 c5 : Nat) (room : List Int) (bs : List (List Tk)) (id : Int) (xs : List Int) (w : World) (h1 : RdI w w.heap.size A1 n1 room) (h2 : RdB w w.heap.size A2 n2 bs) (h5 : RdI w w.heap.size A5 3 xs)
    (hn1 : 3 ≤ n1) (hbs : ∀ k, k < n2 → (bs[k]?.getD []).length ≤ 900 ∧ ∀ t ∈ bs[k]?.getD [], vecOk t.2 = true) (hx : ∀ j : Nat, j < 3 → 0 ≤ xs[j]?.getD 0 ∧ xs[j]?.getD 0 ≤ 1000) (hr : ∀ j : Nat, j < 3 → 0 ≤ room[j]?.getD 0 ∧ room[j]?.getD 0 ≤ 1000) :
    Calls Tryz.prog 33 #[.slice A1 n1 c1, .slice A2 n2 c2, .agg #[.int .i64 id, .slice A5 3 c5]] w fun e w' => e = .returned (.int .i64 (bestB room bs (id, xs))) ∧ Below w.heap.size w w' := by
  have B0 := qh (alloc_up w (.cells #[.int .i64 id, .slice A5 3 c5] 43))
  have P0 := qh (Blk.new w 43 #[.int .i64 id, .slice A5 3 c5])
  have I0 := qh (h1.up B0.out)
  have N0 := qh (h2.up B0.out)
  have X0 := qh (h5.up B0.out)
  have Hl := qh h2.len
  have hnm := h2.2.1
  have Hbs := qh hbs
  have Hx := qh hx
  have Hr := qh hr
  have Hx0 := qh (show ∀ j : Nat, j < 3 → 0 ≤ xs[j]?.getD 0 from fun j hj => (hx j hj).1)
  clear h1 h2 h5 hbs hx hr
  go_enter Tryz.func33, Tryz.ntmps33
  go_wp2_with fail
  generalize hgx : w.heap.size = gx at P0 ⊢
  generalize w.alloc (.cells #[.int .i64 id, .slice A5 3 c5] 43) = w1 at B0 P0 I0 N0 X0 ⊢
  have lgx := P0.out.lt
  go_loopw [7, 8, 14] (fun b s i wr => ∃ (k : Nat) (bv sv : Int), i = .int .i64 (k : Nat) ∧ k ≤ n2 ∧ b = .int .i64 bv ∧ s = .int .i64 sv ∧ BestIs room bs xs k bv sv ∧ Below w1.heap.size w1 wr) (fun _ _ i _ => n2 - (intOf i).toNat)
  case atStart => exact ⟨0, -1, -1, rfl, Nat.zero_le _, rfl, rfl, BestIs.zero, Below.refl _ _⟩
  case round =>
    obtain ⟨k, bv, sv, rfl, hk, rfl, rfl, hbest, hup⟩ := hrel
    have Hup := qh hup
    have Hbest := qh hbest
    have lzr : w1.heap.size ≤ wr.heap.size := hup.size
    clear hup
    by_cases hlt : k < n2
    · have q1 : (0 : Int) ≤ (k : Int) := by omega
      have q2 : (k : Int) < (n2 : Int) := by omega
      have v1 : IntKind.i64.wrap ((k : Int) + 1) = (k : Int) + 1 := wr64 (by omega) (by omega)
      obtain ⟨b, o, A', m', c', rfl, lb, hc1, hmc, hrd⟩ := (N0.out.up Hup.out).at_ hlt
      have hm9 : m' ≤ 900 := by have := (Hbs.out k hlt).1; have := hrd.len; omega
      have Hrd := qh hrd
      have Hlen := qh hrd.len
      have Hve := qh (vecs_at (Hbs.out k hlt).2)
      have PW := P0.out.below Hup.out lgx
      have x0 : wr.cell? ⟨gx, 0, none⟩ = some (.int .i64 id) := PW.cell 0
      have x1 : wr.cell? ⟨gx, 1, none⟩ = some (.slice A5 3 c5) := PW.cell 1
      clear hrd PW hbest
      go_wp2_with fail
      refine (scoreOf_any A1 A' A5 n1 c1 m' c' c5 room (bs[k]?.getD []) id xs wr (I0.out.up Hup.out) Hrd.out (X0.out.up Hup.out) hn1 hm9 (fun a ha => Hve.out.1 a (by have := Hlen.out; omega)) Hve.out.2 Hx.out Hr.out).mono ?_
      rintro e w3 ⟨rfl, hb3⟩
      have U3 := qh (Hup.out.trans (hb3.mono lzr))
      have lz3 : w1.heap.size ≤ w3.heap.size := U3.out.size
      clear x0 x1 hb3
      cases hf : fits3 (add3 (loadP (bs[k]?.getD [])) xs) room with
      | false =>
        have Hf := qh (show roomB room bs xs k = false from hf)
        clear hf
        go_wp2_with fail
        refine (scoreNumber_no _ w3).mono ?_; rintro e w4 ⟨rfl, hb4⟩
        have U4 := qh (U3.out.trans (hb4.mono lz3))
        clear hb4
        have hs1 : ¬ sv < -1 := by rcases Hbest.out.2 with ⟨_, h⟩ | ⟨_, _, _, _, h⟩ <;> omega
        go_wp2_with fail
        go_roundw
        case measure => simp [intOf]; omega
        case rel => exact ⟨k + 1, bv, sv, by go_num, by omega, rfl, rfl, Hbest.out.full Hf.out, U4.out⟩
      | true =>
        have Hf := qh (show roomB room bs xs k = true from hf)
        clear hf
        go_wp2_with fail
        refine (scoreNumber_yes _ w3).mono ?_; rintro e w4 ⟨rfl, hb4⟩
        have U4 := qh (U3.out.trans (hb4.mono lz3))
        clear hb4
        by_cases hgt : sv < scoreP room (bs[k]?.getD []) xs
        · have Hm := qh (Hbest.out.more Hx0.out Hf.out hgt)
          generalize scoreP room (bs[k]?.getD []) xs = sk at Hm hgt ⊢
          go_wp2_with fail
          go_roundw
          case measure => simp [intOf]; omega
          case rel => exact ⟨k + 1, _, sk, by go_num, by omega, rfl, rfl, Hm.out, U4.out⟩
        · have Hm := qh (Hbest.out.less hgt Hf.out)
          generalize scoreP room (bs[k]?.getD []) xs = sk at hgt ⊢
          go_wp2_with fail
          go_roundw
          case measure => simp [intOf]; omega
          case rel => exact ⟨k + 1, bv, sv, by go_num, by omega, rfl, rfl, Hm.out, U4.out⟩
    · obtain rfl : k = n2 := by omega
      have e : bestB room bs (id, xs) = bv := by have h := Hbest.out; rw [← Hl.out] at h; exact h.done
      clear hbest
      go_wp2_with fail
      go_ret
      rw [e]
      exact ⟨rfl, B0.out.trans (Hup.out.mono (by omega))⟩
end Go.Proofs.YtdgeicdiiakhjaaGreat

namespace Go.Proofs.YtdgeicdiiakhjaaGreat
set_option linter.unusedSimpArgs false
set_option linter.unusedVariables false
open Go Go.RowKit
attribute [local go_sem ↓] Go.wp_at_zero Go.wp_at_succ

/-- A cell of a row of the call's own is set. -/
theorem own_setS {w : World} {base g n c j s : Nat} {t : TypeId} {vs : List Value} (h : w.ownsRow base t s (.slice (some ⟨g, 0, none⟩) n c) n vs) (u : Value) :
    (w.setCell ⟨g, j, none⟩ u).ownsRow base t s (.slice (some ⟨g, 0, none⟩) n c) n (vs.set j u) := by
  have hl := h.1
  refine ⟨by rw [List.length_set]; exact hl, ?_⟩
  rcases h.2 with ⟨e, _⟩ | ⟨g', cap, cur, e, h1, h2, h3, h4, h5, h6⟩
  · cases e
  · injection e with e1 e2 e3
    injection e1 with e1
    injection e1 with e1
    subst e1 e3
    have hb := Blk.set_ (show Blk w g t cur from h2) j u
    refine .inr ⟨g, c, _, rfl, h1, hb, h3, h4, by rw [Array.size_setIfInBounds]; exact h5, ?_⟩
    rw [Array.toList_setIfInBounds, List.take_set, h6]
/-- The cells with two elements exchanged. -/
def swV (vs : List Value) (i k : Nat) (x0 x1 y0 y1 : Value) : List Value := (((vs.set (i * 2) y0).set (i * 2 + 1) y1).set (k * 2) x0).set (k * 2 + 1) x1
theorem NdR.swap {w : World} {base n i k : Nat} {vs : List Value} {ts : List Tk} {x0 x1 y0 y1 : Value} (h : NdR w base n vs ts) (hi : i < n) (hk : k < n) (a0 : vs[i * 2]? = some x0) (a1 : vs[i * 2 + 1]? = some x1) (b0 : vs[k * 2]? = some y0) (b1 : vs[k * 2 + 1]? = some y1) :
    NdR w base n (swV vs i k x0 x1 y0 y1) (swapP ts i k) := by
  have l1 := h.1
  have l2 := h.2.1
  refine ⟨by rw [swap_len]; exact h.1, by unfold swV; simp only [List.length_set]; exact h.2.1, fun j hj => ?_⟩
  change ∃ A m c, (swV vs i k x0 x1 y0 y1)[j * 2]? = some (.int .i64 (gTk (swapP ts i k) j).1) ∧ (swV vs i k x0 x1 y0 y1)[j * 2 + 1]? = some (.slice A m c) ∧ w.ownsRow base 3 1 (.slice A m c) m ((gTk (swapP ts i k) j).2.map (Value.int .i64))
  by_cases e1 : j = k
  · subst e1
    obtain ⟨A, m, c, h1, h2, h3⟩ := h.2.2 i hi
    rw [swap_right (by omega)]
    refine ⟨A, m, c, ?_, ?_, h3⟩
    · unfold swV
      rw [List.getElem?_set_ne (by omega), List.getElem?_set_self (by simp only [List.length_set]; omega), ← a0, h1]; rfl
    · unfold swV
      rw [List.getElem?_set_self (by simp only [List.length_set]; omega), ← a1, h2]
  · by_cases e2 : j = i
    · subst e2
      obtain ⟨A, m, c, h1, h2, h3⟩ := h.2.2 k hk
      rw [swap_left (by omega) (by omega)]
      refine ⟨A, m, c, ?_, ?_, h3⟩
      · unfold swV
        rw [List.getElem?_set_ne (by omega), List.getElem?_set_ne (by omega), List.getElem?_set_ne (by omega), List.getElem?_set_self (by omega), ← b0, h1]; rfl
      · unfold swV
        rw [List.getElem?_set_ne (by omega), List.getElem?_set_ne (by omega), List.getElem?_set_self (by simp only [List.length_set]; omega), ← b1, h2]
    · obtain ⟨A, m, c, h1, h2, h3⟩ := h.2.2 j hj
      rw [swap_far e2 e1]
      refine ⟨A, m, c, ?_, ?_, h3⟩
      · unfold swV
        rw [List.getElem?_set_ne (by omega), List.getElem?_set_ne (by omega), List.getElem?_set_ne (by omega), List.getElem?_set_ne (by omega), h1]; rfl
      · unfold swV
        rw [List.getElem?_set_ne (by omega), List.getElem?_set_ne (by omega), List.getElem?_set_ne (by omega), List.getElem?_set_ne (by omega), h2]
/-- A world that differs in a row of tasks alone keeps the needs. -/
theorem NdR.only {w w' : World} {base n base' m g c : Nat} {vs vt : List Value} {ts : List Tk} (h : NdR w base n vs ts) (ho : w.ownsRow base' 43 2 (.slice (some ⟨g, 0, none⟩) m c) m vt) (hg : OnlyG w w' g) : NdR w' base n vs ts :=
  ⟨h.1, h.2.1, fun j hj => by
    obtain ⟨A, m', c', h1, h2, h3⟩ := h.2.2 j hj
    exact ⟨A, m', c', h1, h2, own_keep h3 (fun b hb => hg.block b (h3.lt b hb).2 (fun e => own_types ho h3 (by decide) (by rw [e]; rfl) hb))⟩⟩

set_option maxRecDepth 100000 in
set_option maxHeartbeats 1600000 in
theorem swap_any (base g n c i k : Nat) (vs : List Value) (ts : List Tk) (w : World) (ho : w.ownsRow base 43 2 (.slice (some ⟨g, 0, none⟩) n c) n vs) (hn : NdR w base n vs ts) (hi : i < n) (hk : k < n) :
    Calls Tryz.prog 115 #[.slice (some ⟨g, 0, none⟩) n c, .int .i64 (i : Int), .int .i64 (k : Int)] w fun e w' => e = .returned (.tuple #[]) ∧ (∃ vs', w'.ownsRow base 43 2 (.slice (some ⟨g, 0, none⟩) n c) n vs' ∧ NdR w' base n vs' (swapP ts i k)) ∧ OnlyG w w' g := by
  obtain ⟨Ai, mi, ci, a0, a1, _⟩ := hn.2.2 i hi
  obtain ⟨Ak, mk, ck, b0, b1, _⟩ := hn.2.2 k hk
  have p0 := ho.cells (g := g) rfl _ _ a0
  have p1 := ho.cells (g := g) rfl _ _ a1
  have q0 := ho.cells (g := g) rfl _ _ b0
  have q1 := ho.cells (g := g) rfl _ _ b1
  rw [addr_add, Nat.zero_add] at p0 p1 q0 q1
  have hle := own_le ho
  obtain ⟨cur, hb, _⟩ := own_blk ho
  have f0 := hb.frozen (i * 2)
  have f1 := hb.frozen (i * 2 + 1)
  have f2 := hb.frozen (k * 2)
  have f3 := hb.frozen (k * 2 + 1)
  have i0 : (0 : Int) ≤ (i : Int) := by omega
  have i1 : (i : Int) < (n : Int) := by omega
  have k0 : (0 : Int) ≤ (k : Int) := by omega
  have k1 : (k : Int) < (n : Int) := by omega
  have i3 : 0 ≤ (i : Int) * 2 := by omega
  have k3 : 0 ≤ (k : Int) * 2 := by omega
  have hend := qh (show ∀ W, W = (((w.drew.setCell ⟨g, i * 2, none⟩ (.int .i64 (ts[k]?.getD (0, [])).1)).setCell ⟨g, i * 2 + 1, none⟩ (.slice Ak mk ck)).setCell ⟨g, k * 2, none⟩ (.int .i64 (ts[i]?.getD (0, [])).1)).setCell ⟨g, k * 2 + 1, none⟩ (.slice Ai mi ci) →
      (∃ vs', W.ownsRow base 43 2 (.slice (some ⟨g, 0, none⟩) n c) n vs' ∧ NdR W base n vs' (swapP ts i k)) ∧ OnlyG w W g from fun W hW => by
    have hO : OnlyG w W g := by
      subst hW
      exact ((((OnlyG.refl w g).drew.set_g _ _).set_g _ _).set_g _ _).set_g _ _
    refine ⟨⟨swV vs i k _ _ _ _, ?_, (hn.swap hi hk a0 a1 b0 b1).only ho hO⟩, hO⟩
    subst hW
    exact own_setS (own_setS (own_setS (own_setS (show w.drew.ownsRow base 43 2 (.slice (some ⟨g, 0, none⟩) n c) n vs from ho) _) _) _) _)
  generalize (ts[i]?.getD (0, [])).1 = xi at *
  generalize (ts[k]?.getD (0, [])).1 = xk at *
  clear hn ho hb a0 a1 b0 b1
  by_cases hik : i = k
  · subst hik
    have e1 : xi = xk := by rw [p0] at q0; simpa using q0
    have e2 : (Value.slice Ai mi ci) = .slice Ak mk ck := by rw [p1] at q1; simpa using q1
    injection e2 with e2 e3 e4
    subst e1 e2 e3 e4
    clear q0 q1 f2 f3
    go_enter Tryz.func115, Tryz.ntmps115
    go_wp2_with fail
    go_region
    go_wp2
    refine ⟨rfl, .tuple #[], by simp [results, Tryz.results115, go_sem], rfl, hend.out _ rfl⟩
  · have n0 : ¬ i * 2 = k * 2 := by omega
    have n1 : ¬ i * 2 = k * 2 + 1 := by omega
    have n2 : ¬ i * 2 + 1 = k * 2 := by omega
    have n3 : ¬ i * 2 + 1 = k * 2 + 1 := by omega
    have n4 : ¬ k * 2 = i * 2 := by omega
    have n5 : ¬ k * 2 + 1 = i * 2 := by omega
    have n6 : ¬ k * 2 = i * 2 + 1 := by omega
    have n7 : ¬ k * 2 + 1 = i * 2 + 1 := by omega
    go_enter Tryz.func115, Tryz.ntmps115
    go_wp2_with fail
    go_region
    go_wp2
    refine ⟨rfl, .tuple #[], by simp [results, Tryz.results115, go_sem], rfl, hend.out _ rfl⟩
end Go.Proofs.YtdgeicdiiakhjaaGreat

namespace Go.Proofs.YtdgeicdiiakhjaaGreat
set_option linter.unusedSimpArgs false
set_option linter.unusedVariables false
open Go Go.RowKit
attribute [local go_sem ↓] Go.wp_at_zero Go.wp_at_succ

/-- A queue behind a pointer, with its tasks. -/
structure QH (w : World) (base q g n c : Nat) (ts : List Tk) : Prop where
  bq : Blk w q 90 #[.slice (some ⟨g, 0, none⟩) n c]
  ne : q ≠ g
  own : ∃ vs, w.ownsRow base 43 2 (.slice (some ⟨g, 0, none⟩) n c) n vs ∧ NdR w base n vs ts
/-- The interface value. -/
abbrev qIf (q : Nat) : Value := .iface 92 (.pointer (some ⟨q, 0, none⟩))

section
variable {w : World} {q : Nat} {v : Value}
theorem m_less (h : w.cell? ⟨q, 0, none⟩ = some v) : (Go.method 228 92 (.pointer (some ⟨q, 0, none⟩)) "Less").run Tryz.prog w = .ok (114, v) w := by
  have e : (Go.method 228 92 (.pointer (some ⟨q, 0, none⟩)) "Less").run Tryz.prog w = (do let v ← loadVar 90 ⟨q, 0, none⟩; pure ((114 : FuncId), v)).run Tryz.prog w := by kernel_rfl
  rw [e]
  simp [go_sem, h]
theorem m_len (h : w.cell? ⟨q, 0, none⟩ = some v) : (Go.method 228 92 (.pointer (some ⟨q, 0, none⟩)) "Len").run Tryz.prog w = .ok (84, v) w := by
  have e : (Go.method 228 92 (.pointer (some ⟨q, 0, none⟩)) "Len").run Tryz.prog w = (do let v ← loadVar 90 ⟨q, 0, none⟩; pure ((84 : FuncId), v)).run Tryz.prog w := by kernel_rfl
  rw [e]
  simp [go_sem, h]
theorem m_swap (h : w.cell? ⟨q, 0, none⟩ = some v) : (Go.method 228 92 (.pointer (some ⟨q, 0, none⟩)) "Swap").run Tryz.prog w = .ok (115, v) w := by
  have e : (Go.method 228 92 (.pointer (some ⟨q, 0, none⟩)) "Swap").run Tryz.prog w = (do let v ← loadVar 90 ⟨q, 0, none⟩; pure ((115 : FuncId), v)).run Tryz.prog w := by kernel_rfl
  rw [e]
  simp [go_sem, h]
theorem m_pop (q : Nat) (w : World) : (Go.method 228 92 (.pointer (some ⟨q, 0, none⟩)) "Pop").run Tryz.prog w = .ok (121, .pointer (some ⟨q, 0, none⟩)) w := by kernel_rfl
end
section
variable {w w' : World} {base q g n c : Nat} {ts : List Tk}
theorem QH.len (h : QH w base q g n c ts) : ts.length = n := by obtain ⟨vs, _, h2⟩ := h.own; exact h2.1
theorem QH.cell (h : QH w base q g n c ts) : w.cell? ⟨q, 0, none⟩ = some (.slice (some ⟨g, 0, none⟩) n c) := by have := h.bq.cell 0; simpa using this
theorem QH.lt (h : QH w base q g n c ts) : g < w.heap.size := by obtain ⟨vs, h1, _⟩ := h.own; exact (h1.lt g rfl).2
theorem QH.up (h : QH w base q g n c ts) (hb : Below w.heap.size w w') : QH w' base q g n c ts := ⟨h.bq.below hb h.bq.lt, h.ne, by
  obtain ⟨vs, h1, h2⟩ := h.own
  exact ⟨vs, own_up' h1 hb, h2.keepTI (KeepTI.up hb)⟩⟩
theorem QH.drew (h : QH w base q g n c ts) : QH w.drew base q g n c ts := h.up ((Below.refl _ _).drew)
end

set_option maxRecDepth 100000 in
set_option maxHeartbeats 3200000 in
theorem down_any (base q g n0 c i n f : Nat) (ts : List Tk) (w : World) (h : QH w base q g n0 c ts) (hs : SmT ts) (hn : n ≤ n0) (hn0 : n0 ≤ 1000) (hi : i ≤ n0) (hf : n ≤ i + f) :
    Calls Tryz.prog 92 #[qIf q, .int .i64 (i : Int), .int .i64 (n : Int)] w fun e w' => (∃ b, e = .returned (.bool b)) ∧ QH w' base q g n0 c (downP f ts i n) ∧ OnlyG w w' g := by
  have H := qh h
  have Hs := qh hs
  have Hf := qh hf
  clear h hs hf
  go_enter Tryz.func92, Tryz.ntmps92
  go_wp2_with fail
  go_loopw [7] (fun v wr => ∃ (j f' : Nat) (ts' : List Tk), v = .int .i64 (j : Nat) ∧ j ≤ n0 ∧ QH wr base q g n0 c ts' ∧ SmT ts' ∧ n ≤ j + f' ∧ downP f' ts' j n = downP f ts i n ∧ OnlyG w wr g) (fun v _ => n0 + 1 - (intOf v).toNat)
  case atStart => exact ⟨i, f, ts, rfl, hi, H.out, Hs.out, Hf.out, rfl, OnlyG.refl _ _⟩
  case round =>
    clear H Hs Hf
    obtain ⟨j, f', ts', rfl, hj, hq, hs, hf, he, hg⟩ := hrel
    have HQ := qh hq
    have HS := qh hs
    have HE := qh he
    have HG := qh hg
    have Hfl := qh hf
    have HQL := qh hq.len
    clear hq hs he hg hf
    have v0 : IntKind.i64.wrap (2 * (j : Int)) = 2 * (j : Int) := wr64 (by omega) (by omega)
    have v1 : IntKind.i64.wrap (2 * (j : Int) + 1) = 2 * (j : Int) + 1 := wr64 (by omega) (by omega)
    have v2 : IntKind.i64.wrap (2 * (j : Int) + 1 + 1) = 2 * (j : Int) + 1 + 1 := wr64 (by omega) (by omega)
    by_cases hlt : 2 * j + 1 < n
    · have t1 : decide ((n : Int) ≤ 2 * (j : Int) + 1) = false := by simp; omega
      have t2 : decide (2 * (j : Int) + 1 < 0) = false := by simp; omega
      obtain ⟨f2, rfl⟩ : ∃ f2, f' = f2 + 1 := ⟨f' - 1, by have := Hfl.out; omega⟩
      by_cases h2 : 2 * j + 1 + 1 < n
      · have t3 : decide (2 * (j : Int) + 1 + 1 < (n : Int)) = true := by simp; omega
        have hm := m_less HQ.out.cell
        obtain ⟨vs, hown, hnd⟩ := HQ.out.own
        have hc := less_any base g n0 c (2 * j + 1 + 1) (2 * j + 1) vs ts' wr hown hnd HS.out (by omega) (by omega)
        rw [show ((2 * j + 1 + 1 : Nat) : Int) = 2 * (j : Int) + 1 + 1 from by omega, show ((2 * j + 1 : Nat) : Int) = 2 * (j : Int) + 1 from by omega] at hc
        have HC := qh hc
        clear hown hnd hc
        go_wp2_with fail
        refine HC.out.mono ?_; rintro e w2 ⟨rfl, hb⟩
        have HQ2 := qh (HQ.out.up hb)
        have HG2 := qh (HG.out.below hb)
        clear HC hm HQ HG hb
        cases hcc : befP (gTk ts' (2 * j + 1 + 1)) (gTk ts' (2 * j + 1)) with
        | true =>
          have HCH := qh (show childP ts' j n = 2 * j + 1 + 1 by unfold childP; rw [if_pos ⟨h2, hcc⟩])
          clear hcc
          have hm := m_less HQ2.out.cell
          obtain ⟨vs, hown, hnd⟩ := HQ2.out.own
          have hc := less_any base g n0 c (2 * j + 1 + 1) j vs ts' w2 hown hnd HS.out (by omega) (by omega)
          rw [show ((2 * j + 1 + 1 : Nat) : Int) = 2 * (j : Int) + 1 + 1 from by omega] at hc
          have HC3 := qh hc
          clear hown hnd hc
          go_wp2_with fail
          refine HC3.out.mono ?_; rintro e w3 ⟨rfl, hb⟩
          have HQ3 := qh (HQ2.out.up hb)
          have HG3 := qh (HG2.out.below hb)
          clear HC3 hm HQ2 HG2 hb
          cases hb3 : befP (gTk ts' (2 * j + 1 + 1)) (gTk ts' j) with
          | true =>
            have HB3 := qh hb3
            have hm := m_swap HQ3.out.cell
            obtain ⟨vs, hown, hnd⟩ := HQ3.out.own
            have hc := swap_any base g n0 c j (2 * j + 1 + 1) vs ts' w3 hown hnd (by omega) (by omega)
            rw [show ((2 * j + 1 + 1 : Nat) : Int) = 2 * (j : Int) + 1 + 1 from by omega] at hc
            have HC4 := qh hc
            clear hown hnd hc hb3
            go_wp2_with fail
            refine HC4.out.mono ?_; rintro e w4 ⟨rfl, ⟨vs4, ho4, hn4⟩, hg4⟩
            have HQ4 := qh (show QH w4 base q g n0 c (swapP ts' j (2 * j + 1 + 1)) from ⟨hg4.blk HQ3.out.bq HQ3.out.ne, HQ3.out.ne, vs4, ho4, hn4⟩)
            have HG4 := qh (HG3.out.trans hg4)
            clear HC4 hm HQ3 HG3 ho4 hn4 hg4
            go_wp2_with fail
            go_roundw
            case rel => exact ⟨2 * j + 1 + 1, f2, swapP ts' j (2 * j + 1 + 1), by go_num, by omega, HQ4.out, HS.out.perm (swap_perm (by have := HQL.out; omega) (by have := HQL.out; omega)), by have := Hfl.out; omega, by rw [← HE.out, downP, if_neg (by omega), HCH.out, if_pos HB3.out], HG4.out⟩
            case measure => simp [intOf]; omega
          | false =>
            have HB3 := qh hb3
            clear hb3
            go_wp2_with fail
            go_ret
            refine ⟨⟨_, rfl⟩, ?_, HG3.out⟩
            rw [← HE.out, downP, if_neg (by omega), HCH.out, if_neg (by rw [HB3.out]; simp)]
            exact HQ3.out
        | false =>
          have HCH := qh (show childP ts' j n = 2 * j + 1 by unfold childP; rw [if_neg (fun h => by rw [hcc] at h; cases h.2)])
          clear hcc
          have hm := m_less HQ2.out.cell
          obtain ⟨vs, hown, hnd⟩ := HQ2.out.own
          have hc := less_any base g n0 c (2 * j + 1) j vs ts' w2 hown hnd HS.out (by omega) (by omega)
          rw [show ((2 * j + 1 : Nat) : Int) = 2 * (j : Int) + 1 from by omega] at hc
          have HC3 := qh hc
          clear hown hnd hc
          go_wp2_with fail
          refine HC3.out.mono ?_; rintro e w3 ⟨rfl, hb⟩
          have HQ3 := qh (HQ2.out.up hb)
          have HG3 := qh (HG2.out.below hb)
          clear HC3 hm HQ2 HG2 hb
          cases hb3 : befP (gTk ts' (2 * j + 1)) (gTk ts' j) with
          | true =>
            have HB3 := qh hb3
            have hm := m_swap HQ3.out.cell
            obtain ⟨vs, hown, hnd⟩ := HQ3.out.own
            have hc := swap_any base g n0 c j (2 * j + 1) vs ts' w3 hown hnd (by omega) (by omega)
            rw [show ((2 * j + 1 : Nat) : Int) = 2 * (j : Int) + 1 from by omega] at hc
            have HC4 := qh hc
            clear hown hnd hc hb3
            go_wp2_with fail
            refine HC4.out.mono ?_; rintro e w4 ⟨rfl, ⟨vs4, ho4, hn4⟩, hg4⟩
            have HQ4 := qh (show QH w4 base q g n0 c (swapP ts' j (2 * j + 1)) from ⟨hg4.blk HQ3.out.bq HQ3.out.ne, HQ3.out.ne, vs4, ho4, hn4⟩)
            have HG4 := qh (HG3.out.trans hg4)
            clear HC4 hm HQ3 HG3 ho4 hn4 hg4
            go_wp2_with fail
            go_roundw
            case rel => exact ⟨2 * j + 1, f2, swapP ts' j (2 * j + 1), by go_num, by omega, HQ4.out, HS.out.perm (swap_perm (by have := HQL.out; omega) (by have := HQL.out; omega)), by have := Hfl.out; omega, by rw [← HE.out, downP, if_neg (by omega), HCH.out, if_pos HB3.out], HG4.out⟩
            case measure => simp [intOf]; omega
          | false =>
            have HB3 := qh hb3
            clear hb3
            go_wp2_with fail
            go_ret
            refine ⟨⟨_, rfl⟩, ?_, HG3.out⟩
            rw [← HE.out, downP, if_neg (by omega), HCH.out, if_neg (by rw [HB3.out]; simp)]
            exact HQ3.out
      · have t3 : decide (2 * (j : Int) + 1 + 1 < (n : Int)) = false := by simp; omega
        have HCH := qh (show childP ts' j n = 2 * j + 1 by unfold childP; rw [if_neg (fun h => h2 h.1)])
        have hm := m_less HQ.out.cell
        obtain ⟨vs, hown, hnd⟩ := HQ.out.own
        have hc := less_any base g n0 c (2 * j + 1) j vs ts' wr hown hnd HS.out (by omega) (by omega)
        rw [show ((2 * j + 1 : Nat) : Int) = 2 * (j : Int) + 1 from by omega] at hc
        have HC3 := qh hc
        clear hown hnd hc
        go_wp2_with fail
        refine HC3.out.mono ?_; rintro e w3 ⟨rfl, hb⟩
        have HQ3 := qh (HQ.out.up hb)
        have HG3 := qh (HG.out.below hb)
        clear HC3 hm HQ HG hb
        cases hb3 : befP (gTk ts' (2 * j + 1)) (gTk ts' j) with
        | true =>
          have HB3 := qh hb3
          have hm := m_swap HQ3.out.cell
          obtain ⟨vs, hown, hnd⟩ := HQ3.out.own
          have hc := swap_any base g n0 c j (2 * j + 1) vs ts' w3 hown hnd (by omega) (by omega)
          rw [show ((2 * j + 1 : Nat) : Int) = 2 * (j : Int) + 1 from by omega] at hc
          have HC4 := qh hc
          clear hown hnd hc hb3
          go_wp2_with fail
          refine HC4.out.mono ?_; rintro e w4 ⟨rfl, ⟨vs4, ho4, hn4⟩, hg4⟩
          have HQ4 := qh (show QH w4 base q g n0 c (swapP ts' j (2 * j + 1)) from ⟨hg4.blk HQ3.out.bq HQ3.out.ne, HQ3.out.ne, vs4, ho4, hn4⟩)
          have HG4 := qh (HG3.out.trans hg4)
          clear HC4 hm HQ3 HG3 ho4 hn4 hg4
          go_wp2_with fail
          go_roundw
          case rel => exact ⟨2 * j + 1, f2, swapP ts' j (2 * j + 1), by go_num, by omega, HQ4.out, HS.out.perm (swap_perm (by have := HQL.out; omega) (by have := HQL.out; omega)), by have := Hfl.out; omega, by rw [← HE.out, downP, if_neg (by omega), HCH.out, if_pos HB3.out], HG4.out⟩
          case measure => simp [intOf]; omega
        | false =>
          have HB3 := qh hb3
          clear hb3
          go_wp2_with fail
          go_ret
          refine ⟨⟨_, rfl⟩, ?_, HG3.out⟩
          rw [← HE.out, downP, if_neg (by omega), HCH.out, if_neg (by rw [HB3.out]; simp)]
          exact HQ3.out
    · have t1 : decide ((n : Int) ≤ 2 * (j : Int) + 1) = true := by simp; omega
      go_wp2_with fail
      go_ret
      refine ⟨⟨_, rfl⟩, ?_, HG.out⟩
      rw [← HE.out]
      cases f' with
      | zero => exact HQ.out
      | succ f2 => rw [downP, if_pos (by omega)]; exact HQ.out
end Go.Proofs.YtdgeicdiiakhjaaGreat
