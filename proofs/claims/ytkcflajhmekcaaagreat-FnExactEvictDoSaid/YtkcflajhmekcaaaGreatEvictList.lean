/- Walks: the program's EvictList and EvictCost. -/
import Derived.Test.YtkcflajhmekcaaaGreatEvictLeave
namespace Go.Proofs.YtkcflajhmekcaaaGreat
open Go.RowKit
attribute [local go_sem ↓] Go.wp_at_zero Go.wp_at_succ

theorem own_lower {w : World} {base base' : Nat} {e : TypeId} {size : Nat} {v : Value} {n : Nat} {xs : List Value} (h : w.ownsRow base' e size v n xs) (hb : base ≤ base') : w.ownsRow base e size v n xs :=
  ⟨h.1, h.2.imp (fun h => h) (fun ⟨g, cap, cur, a, b, c⟩ => ⟨g, cap, cur, a, by omega, c⟩)⟩

/-- Who leaves: none where it fails, or an argument is invalid. -/
def evP (room : List Int) (ts : List Tk) (rk : List Int) (t : Tk) (r : Int) : Option (Nat → Bool) := if evOk room ts rk t r = true then goneP room ts rk t.2 r else none

theorem evOk_facts {room : List Int} {ts : List Tk} {rk : List Int} {t : Tk} {r : Int} (h : evOk room ts rk t r = true) :
    room.length = 3 ∧ ts.length ≤ 13 ∧ (∀ x ∈ ts, vecOk x.2 = true) ∧ vecOk t.2 = true ∧ rk.length = ts.length ∧ (∀ j : Nat, 0 ≤ rk[j]?.getD 0 ∧ rk[j]?.getD 0 ≤ 9) ∧ 0 ≤ r ∧ r ≤ 9 := by
  simp only [evOk, comeOk, Bool.and_eq_true, decide_eq_true_eq] at h
  obtain ⟨⟨⟨h1, _, h3⟩, h4⟩, h5⟩ := h
  have hv := tasksOk_vecs h3
  simp only [List.flatten_cons, List.flatten_nil, List.append_nil] at hv h3
  have hr : roomOk room = true ∧ (ts ++ [t]).length ≤ 14 := by
    simp only [tasksOk, Bool.and_eq_true, decide_eq_true_eq] at h3
    exact ⟨h3.1.1.1, h3.1.1.2⟩
  refine ⟨vecOk_len (by have := hr.1; simp only [roomOk, Bool.and_eq_true] at this; exact this.1), by have := hr.2; simp at this; omega, fun x hx => hv x (by simp [hx]), hv t (by simp), h4, fun j => ?_, (inR_iff.1 h5).1, (inR_iff.1 h5).2⟩
  by_cases hj : j < rk.length
  · exact inR_iff.1 (all_iff_getD.1 h1 j hj)
  · rw [List.getElem?_eq_none (by omega)]; simp

set_option maxRecDepth 100000 in
set_option maxHeartbeats 1600000 in
theorem evictListI_any (A1 A2 A3 A4 : Option Addr) (n1 c1 n2 c2 n3 c3 n4 c4 : Nat) (room rk : List Int) (ts : List Tk) (id : Int) (xs : List Int) (r : Int) (w : World) (h1 : RdI w w.heap.size A1 n1 room) (h2 : RdT w w.heap.size A2 n2 ts)
    (h3 : RdI w w.heap.size A3 n3 rk) (h4 : RdI w w.heap.size A4 n4 xs) (hc2 : n2 ≤ c2) (hc4 : n4 ≤ c4) (hz : n2 ≤ 1048576) :
    Calls Tryz.prog 12 #[.slice A1 n1 c1, .slice A2 n2 c2, .slice A3 n3 c3, .agg #[.int .i64 id, .slice A4 n4 c4], .int .i64 r] w fun e w' =>
      ((evP room ts rk (id, xs) r = none ∧ e = .returned (.tuple #[.slice none 0 0, .bool false])) ∨
       ∃ g A m c, evP room ts rk (id, xs) r = some g ∧ e = .returned (.tuple #[.slice A m c, .bool true]) ∧ w'.ownsRow w.heap.size 3 1 (.slice A m c) m ((listG g ts.length).map (Value.int .i64))) ∧ Below w.heap.size w w' := by
  have hl2 := Lib.hid h2.len
  have hl3 := Lib.hid h3.len
  have hl1 := Lib.hid h1.len
  have hl4 := Lib.hid h4.len
  have hle3 := h3.le
  have H1 := Lib.hid h1
  have H2 := Lib.hid h2
  have H3 := Lib.hid h3
  have H4 := Lib.hid h4
  clear h1 h2 h3 h4
  have B0 := Lib.hid (new_up w (.cells #[.int .i64 id, .slice A4 n4 c4] 33))
  have P0 := Lib.hid (Blk.new w 33 #[.int .i64 id, .slice A4 n4 c4])
  have x0 := (P0.out.alloc (.cells #[.slice A2 n2 c2] 31)).cell 0
  have x1 := (P0.out.alloc (.cells #[.slice A2 n2 c2] 31)).cell 1
  simp only [List.getElem?_toArray, List.getElem?_cons_zero, List.getElem?_cons_succ] at x0 x1
  have sz : (w.alloc (.cells #[.int .i64 id, .slice A4 n4 c4] 33)).heap.size = w.heap.size + 1 := World.size_alloc _ _
  have SZ := Lib.hid sz
  clear sz
  have B1 := Lib.hid (B0.out.alloc B0.out.size (.cells #[.slice A2 n2 c2] 31))
  have P1 := Lib.hid (P0.out.alloc (.cells #[.slice A2 n2 c2] 31))
  have HB := Lib.hid (show RdB ((w.alloc (.cells #[.int .i64 id, .slice A4 n4 c4] 33)).alloc (.cells #[.slice A2 n2 c2] 31)) ((w.alloc (.cells #[.int .i64 id, .slice A4 n4 c4] 33)).alloc (.cells #[.slice A2 n2 c2] 31)).heap.size (some ⟨w.heap.size + 1, 0, none⟩) 1 [ts] from by
    have := RdB.one (Blk.new (w.alloc (.cells #[.int .i64 id, .slice A4 n4 c4] 33)) 31 #[.slice A2 n2 c2]) hc2 (H2.out.up B1.out)
    rwa [SZ.out] at this)
  have hcall := Lib.hid (canCome_any A1 _ A4 n1 c1 1 1 n4 c4 room [ts] id xs _ (H1.out.up B1.out) HB.out (H4.out.up B1.out) hc4 (by have := hl2.out; simp; omega))
  clear HB B0 P0
  cases hcm : comeOk room [ts] (id, xs) with
  | false =>
    rw [hcm] at hcall
    have hno : evP room ts rk (id, xs) r = none := by rw [evP, if_neg (by rw [evOk, hcm]; simp)]
    have Hno := Lib.hid hno
    clear hcm hno
    go_enter Tryz.func12, Tryz.ntmps12
    go_wp2_with fail
    refine hcall.out.mono ?_; rintro e w2 ⟨rfl, hb2⟩
    have B2 := Lib.hid (below_to B1.out hb2)
    clear hb2
    go_wp2_with fail
    go_ret2
    exact ⟨.inl ⟨Hno.out, rfl⟩, B2.out⟩
  | true =>
    rw [hcm] at hcall
    have Hcm := Lib.hid hcm
    clear hcm
    by_cases hlen : n3 = n2
    · have hd : ((n3 : Int) != (n2 : Int)) = false := by simp [hlen]
      have Hlen := Lib.hid hlen
      clear hlen
      cases hin : inR 0 9 r with
      | false =>
        have hno : evP room ts rk (id, xs) r = none := by rw [evP, if_neg (by rw [evOk, hin]; simp)]
        have Hno := Lib.hid hno
        have Hin := Lib.hid hin
        clear hno hin
        go_enter Tryz.func12, Tryz.ntmps12
        go_wp2_with fail
        refine hcall.out.mono ?_; rintro e w2 ⟨rfl, hb2⟩
        have B2 := Lib.hid (below_to B1.out hb2)
        clear hb2
        go_wp2_with (go_at_call 30; refine (within_any _ _ _ _).mono ?_; rintro e w' ⟨rfl, rfl⟩; rw [Hin.out])
        go_ret2
        exact ⟨.inl ⟨Hno.out, rfl⟩, B2.out⟩
      | true =>
        have Hin := Lib.hid hin
        clear hin
        cases hrk : ranksOk rk with
        | false =>
          have hno : evP room ts rk (id, xs) r = none := by rw [evP, if_neg (by rw [evOk, hrk]; simp)]
          have Hno := Lib.hid hno
          have Hrk := Lib.hid hrk
          clear hno hrk
          go_enter Tryz.func12, Tryz.ntmps12
          go_wp2_with fail
          refine hcall.out.mono ?_; rintro e w2 ⟨rfl, hb2⟩
          have B2 := Lib.hid (below_to B1.out hb2)
          clear hb2
          go_wp2_with (go_at_call 30; refine (within_any _ _ _ _).mono ?_; rintro e w' ⟨rfl, rfl⟩; rw [Hin.out])
          refine (containsRank_any A3 n3 c3 _ rk w2 (H3.out.up B2.out)).mono ?_; rintro e w3 ⟨rfl, rfl⟩
          rw [Hrk.out]
          go_wp2_with fail
          go_ret2
          exact ⟨.inl ⟨Hno.out, rfl⟩, B2.out⟩
        | true =>
          have hok : evOk room ts rk (id, xs) r = true := by rw [evOk, hrk, Hcm.out, Hin.out, hl3.out, hl2.out]; simp [Hlen.out]
          have Hev := Lib.hid (show evP room ts rk (id, xs) r = goneP room ts rk xs r by rw [evP, if_pos hok])
          obtain ⟨f1, f2, f3, f4, f5, f6, _, _⟩ := evOk_facts hok
          have F3 := Lib.hid f3
          have F4 := Lib.hid f4
          have F6 := Lib.hid f6
          have hn4 : n4 = 3 := by have e3 : xs.length = 3 := vecOk_len f4; have := hl4.out; omega
          have hn1 : n1 = 3 := by have := hl1.out; omega
          have hn2 : n2 ≤ 13 := by have := hl2.out; omega
          have Hrk := Lib.hid hrk
          have en := Hlen.out
          clear hrk hok f1 f2 f3 f4 f5 f6
          subst hn4 hn1 en
          go_enter Tryz.func12, Tryz.ntmps12
          go_wp2_with fail
          refine hcall.out.mono ?_; rintro e w2 ⟨rfl, hb2⟩
          have B2 := Lib.hid (below_to B1.out hb2)
          have P2 := Lib.hid (P1.out.below hb2 P1.out.lt)
          have hz2 : w.heap.size < w2.heap.size := P2.out.lt
          clear hb2 x0 x1
          generalize ((w.alloc (.cells #[.int .i64 id, .slice A4 3 c4] 33)).alloc (.cells #[.slice A2 n3 c2] 31)) = W1 at *
          go_wp2_with (go_at_call 30; refine (within_any _ _ _ _).mono ?_; rintro e w' ⟨rfl, rfl⟩; rw [Hin.out])
          refine (containsRank_any A3 n3 c3 _ rk w2 (H3.out.up B2.out)).mono ?_; rintro e w3 ⟨rfl, rfl⟩
          rw [Hrk.out]
          go_wp2_with fail
          refine (repeat_any w2.heap.size n3 (w2.alloc (.cells #[.bool true] 4)) (Blk.new w2 4 #[.bool true]) (by omega)).mono ?_; rintro e w3 ⟨fb, rfl, hfb, hblk3, hb3⟩
          have hfb2 : w2.heap.size ≤ fb := by rw [World.size_alloc] at hfb; omega
          have B3 := Lib.hid (below_to (new_up w2 (.cells #[.bool true] 4)) hb3)
          have F3b := Lib.hid hblk3
          have hfl : fb < w3.heap.size := hblk3.lt
          clear hfb hblk3 hb3
          have B4 := Lib.hid (B3.out.alloc (B3.out.size) (.cells #[.slice A1 3 c1, .slice A2 n3 c2, .slice A3 n3 c3, .slice (some ⟨fb, 0, none⟩) n3 n3] 63))
          have F4b := Lib.hid (F3b.out.alloc (.cells #[.slice A1 3 c1, .slice A2 n3 c2, .slice A3 n3 c3, .slice (some ⟨fb, 0, none⟩) n3 n3] 63))
          have E4 := Lib.hid (show EvB (w3.alloc (.cells #[.slice A1 3 c1, .slice A2 n3 c2, .slice A3 n3 c3, .slice (some ⟨fb, 0, none⟩) n3 n3] 63)) w3.heap.size fb A1 A2 A3 3 c1 n3 c2 n3 c3 from Blk.new w3 _ _)
          have P4 := Lib.hid (P2.out.below B4.out P2.out.lt)
          have p0 := P4.out.cell 0
          have p1 := P4.out.cell 1
          (try simp only [List.getElem?_toArray, List.getElem?_cons_zero, List.getElem?_cons_succ] at p0 p1)
          go_wp2_with fail
          clear p0 p1 P4
          generalize w3.alloc (.cells #[.slice A1 3 c1, .slice A2 n3 c2, .slice A3 n3 c3, .slice (some ⟨fb, 0, none⟩) n3 n3] 63) = W4 at B4 F4b E4 ⊢
          refine (leave_any w2.heap.size w3.heap.size fb A1 A2 A3 A4 3 c1 n3 c2 c3 c4 room rk ts id xs r W4 E4.out F4b.out (by omega) hfb2 ((H1.out.up B2.out).below B4.out) ((H2.out.up B2.out).below B4.out) ((H3.out.up B2.out).below B4.out) ((H4.out.up B2.out).below B4.out) (by omega) (by omega) F3.out F4.out F6.out).mono ?_
          rintro e w5 ⟨hres, hb5⟩
          have B5 := Lib.hid (B2.out.trans ((B4.out.trans hb5).mono (by omega)))
          have hz4 : w.heap.size ≤ W4.heap.size := by have := B4.out.size; omega
          clear hb5
          rcases hres with ⟨hg, rfl⟩ | ⟨g, A5, m5, c5, hg, rfl, hown⟩
          · have Hg := Lib.hid hg
            clear hg
            go_wp2_with fail
            go_ret2
            exact ⟨.inl ⟨by rw [Hev.out]; exact Hg.out, rfl⟩, B5.out⟩
          · have Hg := Lib.hid hg
            have Hown := Lib.hid (own_lower hown hz4)
            clear hg hown
            go_wp2_with fail
            go_ret2
            exact ⟨.inr ⟨g, A5, m5, c5, by rw [Hev.out]; exact Hg.out, rfl, by rw [hl2.out]; exact Hown.out⟩, B5.out⟩
    · have hd : ((n3 : Int) != (n2 : Int)) = true := by simp; omega
      have hno : evP room ts rk (id, xs) r = none := by rw [evP, if_neg (by rw [evOk, hl2.out, hl3.out]; simp [hlen])]
      have Hno := Lib.hid hno
      clear hlen hno
      go_enter Tryz.func12, Tryz.ntmps12
      go_wp2_with fail
      refine hcall.out.mono ?_; rintro e w2 ⟨rfl, hb2⟩
      have B2 := Lib.hid (below_to B1.out hb2)
      clear hb2
      go_wp2_with fail
      go_ret2
      exact ⟨.inl ⟨Hno.out, rfl⟩, B2.out⟩
end Go.Proofs.YtkcflajhmekcaaaGreat
