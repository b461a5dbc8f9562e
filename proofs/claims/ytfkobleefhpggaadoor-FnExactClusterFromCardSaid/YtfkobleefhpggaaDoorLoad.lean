/- Walks: spec.VecFits, l2Room, l2Has, l1Add, l2Load. -/
import Derived.Test.YtfkobleefhpggaaDoorVec
namespace Go.Proofs.YtfkobleefhpggaaDoor
open Go.RowKit

theorem int_info : (Tryd.prog.info? 3).map (fun i => (i.zero, i.size, i.bytes)) = some (some (.int .i64 0), 1, 8) := by kernel_rfl
theorem task_info : (Tryd.prog.info? 66).map (fun i => (i.zero, i.size, i.bytes)) = some (some (.agg #[.int .i64 0, .slice none 0 0]), 2, 32) := by kernel_rfl

set_option maxHeartbeats 400000 in
theorem vecFits_any (A1 A2 : Option Addr) (n1 c1 n2 c2 B1 B2 : Nat) (xs ys : List Int) (w : World) (h1 : RdI w B1 A1 n1 xs) (h2 : RdI w B2 A2 n2 ys) :
    Calls Tryd.prog 91 #[.slice A1 n1 c1, .slice A2 n2 c2] w fun e w' => e = .returned (.bool (vecFits xs ys)) ∧ ∃ m, w.drewN m = w' := by
  have H1 := Lib.hid h1
  have H2 := Lib.hid h2
  clear h1 h2
  by_cases hx : vecOk xs = true
  · by_cases hy : vecOk ys = true
    · have l1 : 3 ≤ n1 := by have := H1.out.len; have := vecOk_len hx; omega
      have l2 : 3 ≤ n2 := by have := H2.out.len; have := vecOk_len hy; omega
      go_enter Tryd.func91, Tryd.ntmps91
      go_wp2_with fail
      refine (vecValid_any _ _ _ _ _ _ H1.out).mono ?_; rintro e w1 ⟨rfl, rfl⟩
      go_wp2_with fail
      refine (vecValid_any _ _ _ _ _ _ H2.out).mono ?_; rintro e w1 ⟨rfl, rfl⟩
      go_wp2_with fail
      refine (l1Fits_any _ _ _ _ _ _ _ _ _ _ _ H1.out H2.out l1 l2).mono ?_; rintro e w1 ⟨rfl, m, rfl⟩
      go_wp2
      go_ret
      exact ⟨ret_bool (by simp [vecFits, hx, hy]), m, rfl⟩
    · have hy : vecOk ys = false := by simpa using hy
      go_enter Tryd.func91, Tryd.ntmps91
      go_wp2_with fail
      refine (vecValid_any _ _ _ _ _ _ H1.out).mono ?_; rintro e w1 ⟨rfl, rfl⟩
      go_wp2_with fail
      refine (vecValid_any _ _ _ _ _ _ H2.out).mono ?_; rintro e w1 ⟨rfl, rfl⟩
      go_wp2
      go_ret
      exact ⟨ret_bool (by simp [vecFits, hy]), 0, rfl⟩
  · have hx : vecOk xs = false := by simpa using hx
    go_enter Tryd.func91, Tryd.ntmps91
    go_wp2_with fail
    refine (vecValid_any _ _ _ _ _ _ H1.out).mono ?_; rintro e w1 ⟨rfl, rfl⟩
    go_wp2
    go_ret
    exact ⟨ret_bool (by simp [vecFits, hx]), 0, rfl⟩

set_option maxHeartbeats 400000 in
theorem l2Room_any (A : Option Addr) (n c B : Nat) (xs : List Int) (w : World) (h : RdI w B A n xs) :
    Calls Tryd.prog 72 #[.slice A n c] w fun e w' => e = .returned (.bool (roomOk xs)) ∧ w = w' := by
  have hn := h.le
  have hl := Lib.hid h.len
  go_enter Tryd.func72, Tryd.ntmps72
  go_wp2
  go_loop [3] (fun i => ∃ k : Nat, i = .int .i64 k ∧ k ≤ n ∧ (∀ j, j < k → 1 ≤ xs[j]?.getD 0)) (fun i => n - (intOf i).toNat)
  case atStart => exact ⟨0, rfl, Nat.zero_le _, by intro j hj; omega⟩
  case round =>
    obtain ⟨k, rfl, hk, hall⟩ := hrel
    have Hall := Lib.hid hall
    clear hall
    by_cases hlt : k < n
    · obtain ⟨b, o, rfl, hb, hc⟩ := h.at_ hlt
      have H := Lib.hid h
      clear h
      by_cases hin : xs[k]?.getD 0 < 1
      · go_wp2
        go_ret
        refine ⟨ret_bool ?_, rfl⟩
        symm
        rw [roomOk, Bool.and_eq_false_iff]; right
        rw [← Bool.not_eq_true, all_iff_getD]
        intro hh
        have := hh k (by rw [hl.out]; exact hlt)
        simp at this; omega
      · go_wp2
        go_round
        case rel => exact ⟨k + 1, by go_num, by omega, fun j hj => by
          by_cases e : j = k
          · rw [e]; omega
          · exact Hall.out j (by omega)⟩
        case measure => simp [intOf]; omega
    · have H := Lib.hid h
      clear h
      go_wp2_with (go_at_call 88; refine (vecValid_any _ _ _ _ _ _ H.out).mono ?_; rintro e w1 ⟨rfl, rfl⟩)
      go_ret
      refine ⟨ret_bool ?_, rfl⟩
      rw [roomOk, all_iff_getD.2 (fun j hj => by simp; exact Hall.out j (by have := hl.out; omega)), Bool.and_true]

theorem hasP_take_succ {ts : List Tk} {k : Nat} {id : Int} (h : k < ts.length) : hasP (ts.take (k + 1)) id = (hasP (ts.take k) id || ((ts[k]?.getD (0, [])).1 == id)) := by
  unfold hasP
  rw [List.take_succ_eq_append_getElem h, List.getElem?_eq_getElem h, List.any_append]
  simp only [List.any_cons, List.any_nil, Bool.or_false, Option.getD_some]

set_option maxHeartbeats 400000 in
theorem l2Has_any (A : Option Addr) (n c B : Nat) (ts : List Tk) (many id : Int) (w : World) (h : RdT w B A n ts) (h0 : 0 ≤ many) (hm : many ≤ n) :
    Calls Tryd.prog 90 #[.slice A n c, .int .i64 many, .int .i64 id] w fun e w' => e = .returned (.bool (hasP (ts.take many.toNat) id)) ∧ w = w' := by
  obtain ⟨mn, rfl⟩ := Int.eq_ofNat_of_zero_le h0
  have hn := h.le
  have hl := Lib.hid h.len
  go_enter Tryd.func90, Tryd.ntmps90
  go_wp2
  go_loop [7] (fun i => ∃ k : Nat, i = .int .i64 k ∧ k ≤ mn ∧ hasP (ts.take k) id = false) (fun i => mn - (intOf i).toNat)
  case atStart => exact ⟨0, rfl, Nat.zero_le _, rfl⟩
  case round =>
    obtain ⟨k, rfl, hk, hall⟩ := hrel
    have Hall := Lib.hid hall
    clear hall
    by_cases hlt : k < mn
    · obtain ⟨b, o, A', m', c', rfl, hb, hc, _, _, _⟩ := h.at_ (show k < n by omega)
      have H := Lib.hid h
      clear h
      have hkl : Hid (k < ts.length) := by have := hl.out; show _ < _; omega
      have hkn : k < n := by omega
      by_cases hin : ((ts[k]?.getD (0, [])).1 == id) = true
      · go_wp2
        go_ret
        refine ⟨ret_bool ?_, rfl⟩
        symm
        have e := hasP_take_succ (id := id) hkl.out
        rw [hin, Bool.or_true] at e
        simp only [hasP, List.any_eq_true] at e ⊢
        obtain ⟨t, ht, he⟩ := e
        refine ⟨t, ?_, he⟩
        exact (List.take_sublist_take_left (by omega)).subset ht
      · have hin : ((ts[k]?.getD (0, [])).1 == id) = false := by simpa using hin
        have Hin := Lib.hid hin
        go_wp2
        go_round
        case rel => exact ⟨k + 1, by go_num, by omega, by rw [hasP_take_succ hkl.out, Hall.out, Hin.out]; rfl⟩
        case measure => simp [intOf]; omega
    · have H := Lib.hid h
      clear h
      have ek : k = mn := by omega
      have Ek := Lib.hid ek
      clear ek
      go_wp2
      go_ret
      exact ⟨ret_bool (by have := Hall.out; rw [Ek.out] at this; rw [this]), rfl⟩

theorem add3_take_succ (xs ys : List Int) {k : Nat} (h : k < 3) : (add3 xs ys).take (k + 1) = (add3 xs ys).take k ++ [xs[k]?.getD 0 + ys[k]?.getD 0] := by
  rw [List.take_succ_eq_append_getElem (by simp; omega)]
  congr 2
  have := add3_at (a := xs) (b := ys) h
  rwa [List.getElem?_eq_getElem (by simp; omega)] at this

/-- What the call owns reads. -/
theorem RdI.of_own {w : World} {base : Nat} {e : TypeId} {A : Option Addr} {n c : Nat} {xs : List Int} (h : w.ownsRow base e 1 (.slice A n c) n (xs.map (Value.int .i64))) (hn : n ≤ 9223372036854775807) : RdI w w.heap.size A n xs := by
  refine ⟨by have := h.1; simpa using this, hn, fun hp => ?_⟩
  obtain ⟨g, cap, hv, _, hlt⟩ := h.form hp
  have hA : A = some ⟨g, 0, none⟩ := by injection hv
  subst hA
  refine ⟨g, 0, rfl, hlt, fun j hj => ?_⟩
  have hl : xs.length = n := by have := h.1; simpa using this
  have := h.cells (g := g) rfl j (.int .i64 (xs[j]?.getD 0)) (by simp [List.getElem?_eq_getElem (show j < xs.length by omega)])
  have hadd : (⟨g, 0, none⟩ : Addr).add j = ⟨g, 0 + j, none⟩ := by unfold Addr.add; split <;> simp_all
  rwa [hadd] at this

set_option maxRecDepth 100000 in
set_option maxHeartbeats 1600000 in
theorem l1Add_any (A1 A2 : Option Addr) (n1 c1 n2 c2 : Nat) (xs ys : List Int) (w : World) (h1 : RdI w w.heap.size A1 n1 xs) (h2 : RdI w w.heap.size A2 n2 ys) (hn1 : 3 ≤ n1) (hn2 : 3 ≤ n2)
    (hb1 : ∀ j, j < 3 → -1000000 ≤ xs[j]?.getD 0 ∧ xs[j]?.getD 0 ≤ 1000000) (hb2 : ∀ j, j < 3 → -1000000 ≤ ys[j]?.getD 0 ∧ ys[j]?.getD 0 ≤ 1000000) :
    Calls Tryd.prog 93 #[.slice A1 n1 c1, .slice A2 n2 c2, .int .i64 1] w fun e w' => ∃ A c, e = .returned (.slice A 3 c) ∧ RdI w' w'.heap.size A 3 (add3 xs ys) ∧ Below w.heap.size w w' := by
  obtain ⟨i0, hi0, hz0, hz1, hz2⟩ := info_parts int_info
  have Hb1 := Lib.hid hb1
  have Hb2 := Lib.hid hb2
  clear hb1 hb2
  go_enter Tryd.func93, Tryd.ntmps93
  go_wp2
  go_loopw [7, 8] (fun v i wr => ∃ k : Nat, i = .int .i64 k ∧ k ≤ 3 ∧ wr.ownsRow w.heap.size 3 1 v k (((add3 xs ys).take k).map (Value.int .i64)) ∧ Below w.heap.size w wr ∧ ∃ A c, v = .slice A k c) (fun _ i _ => 3 - (intOf i).toNat)
  case atStart => exact ⟨0, rfl, Nat.zero_le _, World.ownsRow_made w #[] 0 (Nat.le_refl _) (by unfold maxLen; omega) rfl, (Below.refl _ _).alloc (Nat.le_refl _) _, _, _, rfl⟩
  case round =>
    obtain ⟨k, rfl, hk, hown, hbel, A, c, rfl⟩ := hrel
    by_cases hlt : k < 3
    · obtain ⟨b1, o1, rfl, lb1, hc1⟩ := (h1.below hbel).at_ (show k < n1 by omega)
      obtain ⟨b2, o2, rfl, lb2, hc2⟩ := (h2.below hbel).at_ (show k < n2 by omega)
      have H1 := Lib.hid h1
      have H2 := Lib.hid h2
      clear h1 h2
      have k1 : (0 : Int) ≤ (k : Int) := by omega
      have k2 : (k : Int) < (n1 : Int) := by omega
      have k3 : (k : Int) < (n2 : Int) := by omega
      obtain ⟨p1, p2⟩ := Hb1.out k hlt
      obtain ⟨p3, p4⟩ := Hb2.out k hlt
      have lz := hbel.size
      have bs1 : b1 < wr.heap.size := by omega
      have bs2 : b2 < wr.heap.size := by omega
      have ne1 := own_ne hown lb1
      have ne2 := own_ne hown lb2
      have e1 : IntKind.i64.wrap (ys[k]?.getD 0) = ys[k]?.getD 0 := wr64 (by omega) (by omega)
      have e2 : IntKind.i64.wrap (xs[k]?.getD 0 + ys[k]?.getD 0) = xs[k]?.getD 0 + ys[k]?.getD 0 := wr64 (by omega) (by omega)
      go_wp2
      go_region_held3 (fun w' => w'.cell? ⟨b1, o1 + k, none⟩ = some (.int .i64 (xs[k]?.getD 0)) ∧ w'.cell? ⟨b2, o2 + k, none⟩ = some (.int .i64 (ys[k]?.getD 0)))
        (first
          | go_keep
          | (go_split_ands
             refine ⟨?_, ?_⟩
             · (rw [hgrow.cell_far _ (by simp; omega) (Ne.symm ne1)]; assumption)
             · (rw [hgrow.cell_far _ (by simp; omega) (Ne.symm ne2)]; assumption)))
        ((refine step_append_lies _ (by rfl) _ _ _ (by rfl) w.heap.size 3 i0 _ 1 8 Tryd.underlying22 hi0 hz0 hz1 hz2 rfl (by omega) (.slice A k c) k _ (by rfl) ((hown.alloc _).drew) ⟨wr.heap.size, 0, none⟩ 1 1 [.int .i64 (xs[k]?.getD 0 + ys[k]?.getD 0)] (by rfl) (by rfl) (World.news_of_block (cs := #[.int .i64 (xs[k]?.getD 0 + ys[k]?.getD 0)]) (t := 3) (fr := (0, 0)) (heap_alloc_new wr _)) (by simp [Value.oneCell']) (by omega) (by unfold maxLen; omega) (by omega) (by simp; omega) (wr.heap.size + 1) (by simp) ?_; intro gg cap w1 hown1 hgrow hat hltg))
      have hb' : Below w.heap.size w w1 := ((hbel.alloc lz _).drew).grown hgrow (by simp; omega) (fun j e => (hown.lt j e).1)
      have Hown := Lib.hid hown1
      clear e1 e2 hown hown1
      go_wp2
      go_roundw
      case rel => exact ⟨k + 1, by go_num, by omega, by rw [add3_take_succ _ _ hlt, List.map_append]; exact Hown.out, hb', _, _, rfl⟩
      case measure => simp [intOf]; omega
    · have ek : 3 = k := by omega
      have Ek := Lib.hid ek
      have Hown := Lib.hid hown
      clear ek hown
      go_wp2
      go_ret
      have hown := Hown.out
      have := Ek.out
      subst this
      exact ⟨_, _, rfl, RdI.of_own hown (by omega), hbel⟩

theorem loadP_take_succ {ts : List Tk} {k : Nat} (h : k < ts.length) : loadP (ts.take (k + 1)) = add3 (loadP (ts.take k)) (ts[k]?.getD (0, [])).2 := by
  unfold loadP
  rw [List.take_succ_eq_append_getElem h, List.foldl_append, List.getElem?_eq_getElem h]
  rfl
theorem loadP_bd {ts : List Tk} {k : Nat} (hb : ∀ j i : Nat, 0 ≤ (ts[j]?.getD (0, [])).2[i]?.getD 0 ∧ (ts[j]?.getD (0, [])).2[i]?.getD 0 ≤ 1000) (hk : k ≤ ts.length) (i : Nat) (hi : i < 3) :
    0 ≤ (loadP (ts.take k))[i]?.getD 0 ∧ (loadP (ts.take k))[i]?.getD 0 ≤ 1000 * k := by
  induction k with
  | zero =>
    match i, hi with
    | 0, _ => simp [loadP]
    | 1, _ => simp [loadP]
    | 2, _ => simp [loadP]
  | succ k ih =>
    have := ih (by omega)
    have h2 := hb k i
    rw [loadP_take_succ (by omega), add3_at hi]
    omega
theorem loadP_len (ts : List Tk) : (loadP ts).length = 3 := by
  unfold loadP
  have : ∀ (l : List Tk) (s : List Int), s.length = 3 → (l.foldl (fun s t => add3 s t.2) s).length = 3 := by
    intro l
    induction l with
    | nil => intro s h; exact h
    | cons t l ih => intro s _; exact ih _ rfl
  exact this _ _ rfl

set_option maxRecDepth 100000 in
set_option maxHeartbeats 1600000 in
/-- What tasks need together: at most 1000 tasks, each of which needs three numbers from 0 to 1000. -/
theorem l2Load_any (A : Option Addr) (n c : Nat) (ts : List Tk) (w : World) (h : RdT w w.heap.size A n ts) (hn : n ≤ 900) (h3 : ∀ j, j < n → (ts[j]?.getD (0, [])).2.length = 3)
    (hb : ∀ j i : Nat, 0 ≤ (ts[j]?.getD (0, [])).2[i]?.getD 0 ∧ (ts[j]?.getD (0, [])).2[i]?.getD 0 ≤ 1000) :
    Calls Tryd.prog 80 #[.slice A n c] w fun e w' => ∃ A c, e = .returned (.slice A 3 c) ∧ RdI w' w'.heap.size A 3 (loadP ts) ∧ Below w.heap.size w w' := by
  have Hb := Lib.hid hb
  have H3 := Lib.hid h3
  have hl := Lib.hid h.len
  clear hb h3
  go_enter Tryd.func80, Tryd.ntmps80
  go_wp2
  go_loopw [3, 4] (fun v i wr => ∃ k : Nat, i = .int .i64 k ∧ k ≤ n ∧ Below w.heap.size w wr ∧ ∃ A c, v = .slice A 3 c ∧ RdI wr wr.heap.size A 3 (loadP (ts.take k))) (fun _ i _ => n - (intOf i).toNat)
  case atStart =>
    refine ⟨0, rfl, Nat.zero_le _, (Below.refl _ _).alloc (Nat.le_refl _) _, _, _, rfl, rfl, by omega, fun _ => ⟨w.heap.size, 0, rfl, by simp, fun j hj => ?_⟩⟩
    match j, hj with
    | 0, _ => simp [loadP, World.cell?_alloc_at]
    | 1, _ => simp [loadP, World.cell?_alloc_at]
    | 2, _ => simp [loadP, World.cell?_alloc_at]
  case round =>
    obtain ⟨k, rfl, hk, hbel, A', c', rfl, hr⟩ := hrel
    by_cases hlt : k < n
    · obtain ⟨b1, o1, A2, m2, c2, rfl, lb1, hc1, hc2, _, hr2⟩ := (h.below hbel).at_ hlt
      have lz := hbel.size
      have em : m2 = 3 := by rw [← hr2.len]; exact H3.out k hlt
      have H := Lib.hid h
      have Hr := Lib.hid hr
      have Hr2 := Lib.hid (hr2.more lz)
      clear h hr hr2
      subst em
      go_wp2_with fail
      refine (l1Add_any _ _ _ _ _ _ _ _ _ Hr.out Hr2.out (by omega) (by omega) (fun j hj => ?_) (fun j hj => ?_)).mono ?_
      · have := loadP_bd Hb.out (k := k) (by have := hl.out; omega) j hj; omega
      · have := Hb.out k j; omega
      rintro e w1 ⟨A3, c3, rfl, hr3, hb3⟩
      have Hr3 := Lib.hid hr3
      clear hr3
      go_wp2
      go_roundw
      case rel => exact ⟨k + 1, by go_num, by omega, hbel.trans (hb3.mono lz), _, _, rfl, by rw [loadP_take_succ (by have := hl.out; omega)]; exact Hr3.out⟩
      case measure => simp [intOf]; omega
    · have ek : k = n := by omega
      have Ek := Lib.hid ek
      have Hr := Lib.hid hr
      clear ek hr
      go_wp2
      go_ret
      exact ⟨_, _, rfl, by have h1 := Hr.out; rw [Ek.out, List.take_of_length_le (by have := hl.out; omega)] at h1; exact h1, hbel⟩
theorem ints_set (c : List Int) (j : Nat) (x : Int) : ((c.map (Value.int .i64)).toArray.setIfInBounds j (.int .i64 x)) = ((c.set j x).map (Value.int .i64)).toArray := by
  simp [List.map_set]

end Go.Proofs.YtfkobleefhpggaaDoor
