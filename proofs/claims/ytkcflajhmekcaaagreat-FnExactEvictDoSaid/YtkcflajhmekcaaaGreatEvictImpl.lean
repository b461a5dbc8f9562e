/- Walks: the program's evictions: fits, weakest. -/
import Derived.Test.YtkcflajhmekcaaaGreatFlags
import Derived.Test.YtkcflajhmekcaaaGreatImplVec
import Derived.BigQuiet
namespace Go.Proofs.YtkcflajhmekcaaaGreat
open Go.RowKit

theorem sumK_bd {ts : List Tk} {g : Nat → Bool} {i : Nat} (hb : ∀ j : Nat, 0 ≤ (ts[j]?.getD (0, [])).2[i]?.getD 0 ∧ (ts[j]?.getD (0, [])).2[i]?.getD 0 ≤ 1000) (n : Nat) : 0 ≤ sumK ts g i n ∧ sumK ts g i n ≤ 1000 * n := by
  induction n with
  | zero => exact ⟨Int.le_refl _, by simp [sumK]⟩
  | succ n ih =>
    have := hb n
    rw [sumK]
    split <;> omega

theorem evNew (w : World) (o : Obj) : Below w.heap.size w (w.alloc o) := (Below.refl _ _).alloc (Nat.le_refl _) _

/-- The block eb holds an eviction. -/
def EvB (w : World) (eb fb : Nat) (A1 A2 A3 : Option Addr) (n1 c1 n2 c2 n3 c3 : Nat) : Prop :=
  Blk w eb 63 #[.slice A1 n1 c1, .slice A2 n2 c2, .slice A3 n3 c3, .slice (some ⟨fb, 0, none⟩) n2 n2]
theorem EvB.cells {w : World} {eb fb : Nat} {A1 A2 A3 : Option Addr} {n1 c1 n2 c2 n3 c3 : Nat} (h : EvB w eb fb A1 A2 A3 n1 c1 n2 c2 n3 c3) :
    w.cell? ⟨eb, 0, none⟩ = some (.slice A1 n1 c1) ∧ w.cell? ⟨eb, 1, none⟩ = some (.slice A2 n2 c2) ∧ w.cell? ⟨eb, 2, none⟩ = some (.slice A3 n3 c3) ∧ w.cell? ⟨eb, 3, none⟩ = some (.slice (some ⟨fb, 0, none⟩) n2 n2) :=
  ⟨Blk.cell h 0, Blk.cell h 1, Blk.cell h 2, Blk.cell h 3⟩
theorem EvB.below {w w' : World} {B eb fb : Nat} {A1 A2 A3 : Option Addr} {n1 c1 n2 c2 n3 c3 : Nat} (h : EvB w eb fb A1 A2 A3 n1 c1 n2 c2 n3 c3) (hb : Below B w w') (hB : eb < B) : EvB w' eb fb A1 A2 A3 n1 c1 n2 c2 n3 c3 :=
  Blk.below h hb hB
theorem EvB.lt {w : World} {eb fb : Nat} {A1 A2 A3 : Option Addr} {n1 c1 n2 c2 n3 c3 : Nat} (h : EvB w eb fb A1 A2 A3 n1 c1 n2 c2 n3 c3) : eb < w.heap.size := Blk.lt h

set_option maxRecDepth 100000 in
set_option maxHeartbeats 1600000 in
theorem evFits_any (eb fb : Nat) (A1 A2 A3 A4 : Option Addr) (n1 c1 n2 c2 n3 c3 c4 : Nat) (room : List Int) (ts : List Tk) (id : Int) (xs : List Int) (g : Nat → Bool) (w : World)
    (hE : EvB w eb fb A1 A2 A3 n1 c1 n2 c2 n3 c3) (hF : RdF w w.heap.size (some ⟨fb, 0, none⟩) n2 (fun j => !g j)) (h1 : RdI w w.heap.size A1 n1 room) (h2 : RdT w w.heap.size A2 n2 ts) (h4 : RdI w w.heap.size A4 3 xs)
    (hn1 : 3 ≤ n1) (hn2 : n2 ≤ 900) (h3 : ∀ j, j < n2 → (ts[j]?.getD (0, [])).2.length = 3)
    (hb : ∀ j i : Nat, 0 ≤ (ts[j]?.getD (0, [])).2[i]?.getD 0 ∧ (ts[j]?.getD (0, [])).2[i]?.getD 0 ≤ 1000) (hx : ∀ j, j < 3 → -1000 ≤ xs[j]?.getD 0 ∧ xs[j]?.getD 0 ≤ 1000) :
    Calls Tryz.prog 53 #[.pointer (some ⟨eb, 0, none⟩), .agg #[.int .i64 id, .slice A4 3 c4]] w fun e w' => e = .returned (.bool (fitE room ts xs g)) ∧ Below w.heap.size w w' := by
  have Hb := Lib.hid hb
  have H3 := Lib.hid h3
  have hl := Lib.hid h2.len
  have H1 := Lib.hid h1
  have H2 := Lib.hid h2
  have H4 := Lib.hid h4
  have Hx := Lib.hid hx
  have HF := Lib.hid hF
  have HE := Lib.hid hE
  have lE := hE.lt
  have B0 := Lib.hid (evNew w (.cells #[.int .i64 id, .slice A4 3 c4] 33))
  have x1 := (Blk.new w 33 #[.int .i64 id, .slice A4 3 c4]).cell 1
  simp only [List.getElem?_toArray, List.getElem?_cons_zero, List.getElem?_cons_succ] at x1
  obtain ⟨y0, y1, y2, y3⟩ := (hE.below B0.out lE).cells
  clear hb h3 h1 h2 h4 hx hF hE
  go_enter Tryz.func53, Tryz.ntmps53
  go_wp2_with fail
  clear x1 y0 y1 y2 y3
  generalize hW : w.alloc (.cells #[.int .i64 id, .slice A4 3 c4] 33) = W at B0 ⊢
  clear hW
  go_loopw [5, 16] (fun v i wr => ∃ k : Nat, i = .int .i64 k ∧ k ≤ n2 ∧ Below w.heap.size w wr ∧ ∃ A c ss, v = .slice A 3 c ∧ RdI wr wr.heap.size A 3 ss ∧ Hid (∀ j, j < 3 → ss[j]?.getD 0 = xs[j]?.getD 0 + sumK ts g j k)) (fun _ i _ => n2 - (intOf i).toNat)
  case atStart => exact ⟨0, rfl, Nat.zero_le _, B0.out, _, _, xs, rfl, H4.out.up B0.out, Lib.hid (fun j _ => by simp [sumK])⟩
  case round =>
    obtain ⟨k, rfl, hk, hbel, A', c', ss, rfl, hr, hss⟩ := hrel
    have Hr := Lib.hid hr
    clear hr
    have bs : ∀ j : Nat, j < 3 → (ss[j]?.getD 0 : Int) ≤ 1000 + 1000 * (k : Int) ∧ (-1000 : Int) ≤ ss[j]?.getD 0 := fun j hj => by
      have a := hss.out j hj
      have b := sumK_bd (g := g) (i := j) (fun i => Hb.out i j) k
      have c := Hx.out j hj
      omega
    have Bs := Lib.hid bs
    clear bs
    have lz := hbel.size
    by_cases hlt : k < n2
    · obtain ⟨b1, o1, A2', m2, c2', rfl, lb1, hc1, hc2, _, hr2⟩ := (H2.out.below hbel).at_ hlt
      have em : m2 = 3 := by rw [← hr2.len]; exact H3.out k hlt
      have Hr2 := Lib.hid (hr2.more lz)
      clear hr2
      subst em
      have Hal := Lib.hid (show ∀ o : Obj, Below wr.heap.size wr (wr.alloc o) from fun o => (Below.refl _ _).alloc (Nat.le_refl _) _)
      obtain ⟨b2, o2, e', hb2, hc3⟩ := HF.out.at_ hlt
      injection e' with e'
      injection e' with e1 e2
      subst e1 e2
      obtain ⟨y0, y1, y2, y3⟩ := (HE.out.below (hbel.trans ((Hal.out (.cells #[.int .i64 (ts[k]?.getD (0, [])).1, .slice A2' 3 c2'] 33)).mono lz)) lE).cells
      have z1 := (hbel.trans ((Hal.out (.cells #[.int .i64 (ts[k]?.getD (0, [])).1, .slice A2' 3 c2'] 33)).mono lz)).cell (p := ⟨fb, 0 + k, none⟩) hb2
      rw [hc3] at z1
      rw [Nat.zero_add] at z1
      clear hc3
      cases hg : g k with
      | true =>
        rw [hg] at z1
        have Hg := Lib.hid hg
        clear hg
        go_wp2_with fail
        go_roundw
        case rel => exact ⟨k + 1, by go_num, by omega, hbel.alloc lz _, _, _, ss, rfl, Hr.out.up (Hal.out _), Lib.hid (fun j hj => by rw [sumK, if_pos Hg.out, hss.out j hj]; omega)⟩
        case measure => simp [intOf]; omega
      | false =>
        rw [hg] at z1
        have Hg := Lib.hid hg
        clear hg
        go_wp2_with fail
        refine (plus_any _ _ _ _ _ _ _ _ _ (Hr.out.up (Hal.out _)) (Hr2.out.up (Hal.out _)) (by omega) (by omega) (fun j hj => ?_) (fun j hj => ?_)).mono ?_
        · have := Bs.out j hj; omega
        · have := Hb.out k j; omega
        rintro e w1 ⟨A3, c3, rfl, hr3, hb3⟩
        have Hr3 := Lib.hid hr3
        clear hr3
        go_wp2
        go_roundw
        case rel => exact ⟨k + 1, by go_num, by omega, (hbel.alloc lz _).trans (hb3.mono (by simp; omega)), _, _, _, rfl, Hr3.out, Lib.hid (fun j hj => by rw [add3_at hj, sumK, if_neg (by rw [Hg.out]; simp), hss.out j hj]; omega)⟩
        case measure => simp [intOf]; omega
    · have ek : k = n2 := by omega
      have Ek := Lib.hid ek
      clear ek
      obtain ⟨y0, y1, y2, y3⟩ := (HE.out.below hbel lE).cells
      go_wp2_with fail
      refine (fits_any A' A1 c' n1 c1 _ _ _ _ wr Hr.out (H1.out.below hbel) hn1).mono ?_; rintro e w3 ⟨rfl, rfl⟩
      go_wp2
      go_ret
      refine ⟨ret_bool ?_, hbel⟩
      rw [Bool.eq_iff_iff, fits3_iff, fitE_iff]
      constructor
      · intro h i hi; have a := h i hi; have b := hss.out i hi; rw [Ek.out] at b; rw [hl.out]; omega
      · intro h i hi; have a := h i hi; have b := hss.out i hi; rw [Ek.out] at b; rw [hl.out] at a; omega
set_option maxRecDepth 100000 in
set_option maxHeartbeats 1600000 in
theorem evWeakest_any (eb fb : Nat) (A1 A2 A3 : Option Addr) (n1 c1 n2 c2 n3 c3 : Nat) (rk : List Int) (r : Int) (g : Nat → Bool) (w : World)
    (hE : EvB w eb fb A1 A2 A3 n1 c1 n2 c2 n3 c3) (hF : RdF w w.heap.size (some ⟨fb, 0, none⟩) n2 (fun j => !g j)) (h3 : RdI w w.heap.size A3 n3 rk) (hn : n3 ≤ n2) :
    Calls Tryz.prog 54 #[.pointer (some ⟨eb, 0, none⟩), .int .i64 r] w fun e w' => e = .returned (.int .i64 (lowP rk g r n3)) ∧ w = w' := by
  have hle := h3.le
  have H1 := Lib.hid h3
  have H2 := Lib.hid hF
  obtain ⟨y0, y1, y2, y3⟩ := hE.cells
  clear h3 hF hE
  go_enter Tryz.func54, Tryz.ntmps54
  go_wp2
  go_loop [5, 14] (fun b i => ∃ k : Nat, i = .int .i64 k ∧ k ≤ n3 ∧ b = .int .i64 (lowP rk g r k)) (fun _ i => n3 - (intOf i).toNat)
  case atStart => exact ⟨0, rfl, Nat.zero_le _, rfl⟩
  case round =>
    obtain ⟨k, rfl, hk, rfl⟩ := hrel
    by_cases hlt : k < n3
    · obtain ⟨b1, o1, rfl, hb1, hc1⟩ := H1.out.at_ hlt
      obtain ⟨b2, o2, e', hb2, hc2⟩ := H2.out.at_ (show k < n2 by omega)
      injection e' with e'
      injection e' with e1 e2
      subst e1 e2
      rw [Nat.zero_add] at hc2
      have hs := Lib.hid (lowP_succ rk g r k)
      have k1 : (0 : Int) ≤ (k : Int) := by omega
      have k2 : (k : Int) < (n3 : Int) := by omega
      have k3 : (k : Int) < (n2 : Int) := by omega
      cases hg : g k with
      | true =>
        rw [hg] at hc2
        have Hg := Lib.hid hg
        clear hg
        generalize hv : lowP rk g r k = b at hs ⊢
        go_wp2
        go_round
        case rel => exact ⟨k + 1, by go_num, by omega, by rw [hs.out, lowF, if_neg (fun x => by rw [Hg.out] at x; cases x.1)]⟩
        case measure => simp [intOf]; omega
      | false =>
        rw [hg] at hc2
        have Hg := Lib.hid hg
        clear hg
        by_cases hr : rk[k]?.getD 0 < r
        · have hd : decide (rk[k]?.getD 0 < r) = true := by simpa using hr
          have Hr := Lib.hid hr
          clear hr
          have hbd := lowP_bd rk g r k
          generalize hv : lowP rk g r k = b at hs hbd ⊢
          have Hv := Lib.hid hv
          clear hv
          by_cases hb0 : b < 0
          · have hd2 : decide (b < 0) = true := by simpa using hb0
            have Hb0 := Lib.hid hb0
            clear hb0
            go_wp2
            go_round
            case rel => exact ⟨k + 1, by go_num, by omega, by rw [hs.out, lowF, if_pos ⟨Hg.out, Hr.out, .inl Hb0.out⟩]⟩
            case measure => simp [intOf]; omega
          · obtain ⟨q, rfl⟩ := Int.eq_ofNat_of_zero_le (show 0 ≤ b by omega)
            have hd2 : decide ((q : Int) < 0) = false := by simp
            obtain ⟨b1', o1', e', hb1', hc3⟩ := H1.out.at_ (show q < n3 by omega)
            injection e' with e'
            injection e' with e1 e2
            subst e1 e2
            have q1 : (0 : Int) ≤ (q : Int) := by omega
            have q2 : (q : Int) < (n3 : Int) := by omega
            clear hb0
            by_cases hle2 : rk[k]?.getD 0 ≤ rk[q]?.getD 0
            · have hd3 : decide (rk[k]?.getD 0 ≤ rk[q]?.getD 0) = true := by simpa using hle2
              have Hle2 := Lib.hid hle2
              clear hle2
              go_wp2
              go_round
              case rel => exact ⟨k + 1, by go_num, by omega, by rw [hs.out, lowF, if_pos ⟨Hg.out, Hr.out, .inr (by simpa using Hle2.out)⟩]⟩
              case measure => simp [intOf]; omega
            · have hd3 : decide (rk[k]?.getD 0 ≤ rk[q]?.getD 0) = false := by simpa using hle2
              have Hle2 := Lib.hid hle2
              clear hle2
              go_wp2
              go_round
              case rel => exact ⟨k + 1, by go_num, by omega, by rw [hs.out, lowF, if_neg (fun x => x.2.2.elim (fun y => by omega) (fun y => by have := Hle2.out; simp only [Int.toNat_natCast] at y; omega))]⟩
              case measure => simp [intOf]; omega
        · have hd : decide (rk[k]?.getD 0 < r) = false := by simpa using hr
          have Hr := Lib.hid hr
          clear hr
          generalize hv : lowP rk g r k = b at hs ⊢
          go_wp2
          go_round
          case rel => exact ⟨k + 1, by go_num, by omega, by rw [hs.out, lowF, if_neg (fun x => by have := Hr.out; have := x.2.1; omega)]⟩
          case measure => simp [intOf]; omega
    · obtain rfl : k = n3 := by omega
      go_wp2
      go_ret
      exact ⟨rfl, rfl⟩
end Go.Proofs.YtkcflajhmekcaaaGreat
