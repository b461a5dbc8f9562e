/- Several texts in one. -/
import Derived.Test.YtlcgbnmmbheleaaGreatV5
namespace Go.Proofs.YtlcgbnmmbheleaaGreat
open Go.RowKit

theorem int_info : (Tryz.prog.info? 3).map (fun i => (i.zero, i.size, i.bytes)) = some (some (.int .i64 0), 1, 8) := by kernel_rfl
theorem task_info : (Tryz.prog.info? 40).map (fun i => (i.zero, i.size, i.bytes)) = some (some (.agg #[.int .i64 0, .slice none 0 0]), 2, 32) := by kernel_rfl

set_option maxHeartbeats 400000 in
theorem vecFits_any (A1 A2 : Option Addr) (n1 c1 n2 c2 B1 B2 : Nat) (xs ys : List Int) (w : World) (h1 : RdI w B1 A1 n1 xs) (h2 : RdI w B2 A2 n2 ys) :
    Calls Tryz.prog 108 #[.slice A1 n1 c1, .slice A2 n2 c2] w fun e w' => e = .returned (.bool (vecFits xs ys)) ∧ ∃ m, w.drewN m = w' := by
  have H1 := qh h1
  have H2 := qh h2
  clear h1 h2
  by_cases hx : vecOk xs = true
  · by_cases hy : vecOk ys = true
    · have l1 : 3 ≤ n1 := by have := H1.out.len; have := vecOk_len hx; omega
      have l2 : 3 ≤ n2 := by have := H2.out.len; have := vecOk_len hy; omega
      go_enter Tryz.func108, Tryz.ntmps108
      go_wp2_with fail
      refine (vecValid_any _ _ _ _ _ _ H1.out).mono ?_; rintro e w1 ⟨rfl, rfl⟩
      go_wp2_with fail
      refine (vecValid_any _ _ _ _ _ _ H2.out).mono ?_; rintro e w1 ⟨rfl, rfl⟩
      go_wp2_with fail
      refine (l1Fits_any _ _ _ _ _ _ _ _ _ _ _ H1.out H2.out l1 l2).mono ?_; rintro e w1 ⟨rfl, m, rfl⟩
      go_wp2
      go_ret
      exact ⟨ret_bool (by simp [vecFits, hx, hy]), m, rfl⟩
    · have hy : vecOk ys = false := by simpa using hy
      go_enter Tryz.func108, Tryz.ntmps108
      go_wp2_with fail
      refine (vecValid_any _ _ _ _ _ _ H1.out).mono ?_; rintro e w1 ⟨rfl, rfl⟩
      go_wp2_with fail
      refine (vecValid_any _ _ _ _ _ _ H2.out).mono ?_; rintro e w1 ⟨rfl, rfl⟩
      go_wp2
      go_ret
      exact ⟨ret_bool (by simp [vecFits, hy]), 0, rfl⟩
  · have hx : vecOk xs = false := by simpa using hx
    go_enter Tryz.func108, Tryz.ntmps108
    go_wp2_with fail
    refine (vecValid_any _ _ _ _ _ _ H1.out).mono ?_; rintro e w1 ⟨rfl, rfl⟩
    go_wp2
    go_ret
    exact ⟨ret_bool (by simp [vecFits, hx]), 0, rfl⟩

set_option maxHeartbeats 400000 in
theorem l2Room_any (A : Option Addr) (n c B : Nat) (xs : List Int) (w : World) (h : RdI w B A n xs) :
    Calls Tryz.prog 67 #[.slice A n c] w fun e w' => e = .returned (.bool (roomOk xs)) ∧ w = w' := by
  have hn := h.le
  have hl := qh h.len
  go_enter Tryz.func67, Tryz.ntmps67
  go_wp2
  go_loop [3] (fun i => ∃ k : Nat, i = .int .i64 k ∧ k ≤ n ∧ (∀ j, j < k → 1 ≤ xs[j]?.getD 0)) (fun i => n - (intOf i).toNat)
  case atStart => exact ⟨0, rfl, Nat.zero_le _, by intro j hj; omega⟩
  case round =>
    obtain ⟨k, rfl, hk, hall⟩ := hrel
    have Hall := qh hall
    clear hall
    by_cases hlt : k < n
    · obtain ⟨b, o, rfl, hb, hc⟩ := h.at_ hlt
      have H := qh h
      clear h
      by_cases hin : xs[k]?.getD 0 < 1
      · go_wp2
        go_ret
        refine ⟨ret_bool ?_, rfl⟩
        symm
        rw [roomOk, Bool.and_eq_false_iff]; right
        rw [← Bool.not_eq_true, all_iff_getD]
        intro hh
        have := hh k (by rw [hl.out]; exact hlt)
        simp at this; omega
      · go_wp2
        go_round
        case rel => exact ⟨k + 1, by go_num, by omega, fun j hj => by
          by_cases e : j = k
          · rw [e]; omega
          · exact Hall.out j (by omega)⟩
        case measure => simp [intOf]; omega
    · have H := qh h
      clear h
      go_wp2_with (go_at_call 105; refine (vecValid_any _ _ _ _ _ _ H.out).mono ?_; rintro e w1 ⟨rfl, rfl⟩)
      go_ret
      refine ⟨ret_bool ?_, rfl⟩
      rw [roomOk, all_iff_getD.2 (fun j hj => by simp; exact Hall.out j (by have := hl.out; omega)), Bool.and_true]

theorem hasP_take_succ {ts : List Tk} {k : Nat} {id : Int} (h : k < ts.length) : hasP (ts.take (k + 1)) id = (hasP (ts.take k) id || ((ts[k]?.getD (0, [])).1 == id)) := by
  unfold hasP
  rw [List.take_succ_eq_append_getElem h, List.getElem?_eq_getElem h, List.any_append]
  simp only [List.any_cons, List.any_nil, Bool.or_false, Option.getD_some]

set_option maxHeartbeats 400000 in
theorem l2Has_any (A : Option Addr) (n c B : Nat) (ts : List Tk) (many id : Int) (w : World) (h : RdT w B A n ts) (h0 : 0 ≤ many) (hm : many ≤ n) :
    Calls Tryz.prog 107 #[.slice A n c, .int .i64 many, .int .i64 id] w fun e w' => e = .returned (.bool (hasP (ts.take many.toNat) id)) ∧ w = w' := by
  obtain ⟨mn, rfl⟩ := Int.eq_ofNat_of_zero_le h0
  have hn := h.le
  have hl := qh h.len
  go_enter Tryz.func107, Tryz.ntmps107
  go_wp2
  go_loop [7] (fun i => ∃ k : Nat, i = .int .i64 k ∧ k ≤ mn ∧ hasP (ts.take k) id = false) (fun i => mn - (intOf i).toNat)
  case atStart => exact ⟨0, rfl, Nat.zero_le _, rfl⟩
  case round =>
    obtain ⟨k, rfl, hk, hall⟩ := hrel
    have Hall := qh hall
    clear hall
    by_cases hlt : k < mn
    · obtain ⟨b, o, A', m', c', rfl, hb, hc, _, _, _⟩ := h.at_ (show k < n by omega)
      have H := qh h
      clear h
      have hkl : Hid (k < ts.length) := by have := hl.out; show _ < _; omega
      have hkn : k < n := by omega
      by_cases hin : ((ts[k]?.getD (0, [])).1 == id) = true
      · go_wp2
        go_ret
        refine ⟨ret_bool ?_, rfl⟩
        symm
        have e := hasP_take_succ (id := id) hkl.out
        rw [hin, Bool.or_true] at e
        simp only [hasP, List.any_eq_true] at e ⊢
        obtain ⟨t, ht, he⟩ := e
        refine ⟨t, ?_, he⟩
        exact (List.take_sublist_take_left (by omega)).subset ht
      · have hin : ((ts[k]?.getD (0, [])).1 == id) = false := by simpa using hin
        have Hin := qh hin
        go_wp2
        go_round
        case rel => exact ⟨k + 1, by go_num, by omega, by rw [hasP_take_succ hkl.out, Hall.out, Hin.out]; rfl⟩
        case measure => simp [intOf]; omega
    · have H := qh h
      clear h
      have ek : k = mn := by omega
      have Ek := qh ek
      clear ek
      go_wp2
      go_ret
      exact ⟨ret_bool (by have := Hall.out; rw [Ek.out] at this; rw [this]), rfl⟩

theorem add3_take_succ (xs ys : List Int) {k : Nat} (h : k < 3) : (add3 xs ys).take (k + 1) = (add3 xs ys).take k ++ [xs[k]?.getD 0 + ys[k]?.getD 0] := by
  rw [List.take_succ_eq_append_getElem (by simp; omega)]
  congr 2
  have := add3_at (a := xs) (b := ys) h
  rwa [List.getElem?_eq_getElem (by simp; omega)] at this

theorem RdI.of_own {w : World} {base : Nat} {e : TypeId} {A : Option Addr} {n c : Nat} {xs : List Int} (h : w.ownsRow base e 1 (.slice A n c) n (xs.map (Value.int .i64))) (hn : n ≤ 9223372036854775807) : RdI w w.heap.size A n xs := by
  refine ⟨by have := h.1; simpa using this, hn, fun hp => ?_⟩
  obtain ⟨g, cap, hv, _, hlt⟩ := h.form hp
  have hA : A = some ⟨g, 0, none⟩ := by injection hv
  subst hA
  refine ⟨g, 0, rfl, hlt, fun j hj => ?_⟩
  have hl : xs.length = n := by have := h.1; simpa using this
  have := h.cells (g := g) rfl j (.int .i64 (xs[j]?.getD 0)) (by simp [List.getElem?_eq_getElem (show j < xs.length by omega)])
  have hadd : (⟨g, 0, none⟩ : Addr).add j = ⟨g, 0 + j, none⟩ := by unfold Addr.add; split <;> simp_all
  rwa [hadd] at this

set_option maxRecDepth 100000 in
set_option maxHeartbeats 1600000 in
theorem l1Add_any (A1 A2 : Option Addr) (n1 c1 n2 c2 : Nat) (xs ys : List Int) (w : World) (h1 : RdI w w.heap.size A1 n1 xs) (h2 : RdI w w.heap.size A2 n2 ys) (hn1 : 3 ≤ n1) (hn2 : 3 ≤ n2)
    (hb1 : ∀ j, j < 3 → -1000000 ≤ xs[j]?.getD 0 ∧ xs[j]?.getD 0 ≤ 1000000) (hb2 : ∀ j, j < 3 → -1000000 ≤ ys[j]?.getD 0 ∧ ys[j]?.getD 0 ≤ 1000000) :
    Calls Tryz.prog 53 #[.slice A1 n1 c1, .slice A2 n2 c2, .int .i64 1] w fun e w' => ∃ A c, e = .returned (.slice A 3 c) ∧ RdI w' w'.heap.size A 3 (add3 xs ys) ∧ Below w.heap.size w w' := by
  obtain ⟨i0, hi0, hz0, hz1, hz2⟩ := info_parts int_info
  have Hb1 := qh hb1
  have Hb2 := qh hb2
  clear hb1 hb2
  go_enter Tryz.func53, Tryz.ntmps53
  go_wp2
  go_loopw [7, 8] (fun v i wr => ∃ k : Nat, i = .int .i64 k ∧ k ≤ 3 ∧ wr.ownsRow w.heap.size 3 1 v k (((add3 xs ys).take k).map (Value.int .i64)) ∧ Below w.heap.size w wr ∧ ∃ A c, v = .slice A k c) (fun _ i _ => 3 - (intOf i).toNat)
  case atStart => exact ⟨0, rfl, Nat.zero_le _, World.ownsRow_made w #[] 0 (Nat.le_refl _) (by unfold maxLen; omega) rfl, (Below.refl _ _).alloc (Nat.le_refl _) _, _, _, rfl⟩
  case round =>
    obtain ⟨k, rfl, hk, hown, hbel, A, c, rfl⟩ := hrel
    by_cases hlt : k < 3
    · obtain ⟨b1, o1, rfl, lb1, hc1⟩ := (h1.below hbel).at_ (show k < n1 by omega)
      obtain ⟨b2, o2, rfl, lb2, hc2⟩ := (h2.below hbel).at_ (show k < n2 by omega)
      have H1 := qh h1
      have H2 := qh h2
      clear h1 h2
      have k1 : (0 : Int) ≤ (k : Int) := by omega
      have k2 : (k : Int) < (n1 : Int) := by omega
      have k3 : (k : Int) < (n2 : Int) := by omega
      obtain ⟨p1, p2⟩ := Hb1.out k hlt
      obtain ⟨p3, p4⟩ := Hb2.out k hlt
      have lz := hbel.size
      have bs1 : b1 < wr.heap.size := by omega
      have bs2 : b2 < wr.heap.size := by omega
      have ne1 := own_ne hown lb1
      have ne2 := own_ne hown lb2
      have e1 : IntKind.i64.wrap (ys[k]?.getD 0) = ys[k]?.getD 0 := wr64 (by omega) (by omega)
      have e2 : IntKind.i64.wrap (xs[k]?.getD 0 + ys[k]?.getD 0) = xs[k]?.getD 0 + ys[k]?.getD 0 := wr64 (by omega) (by omega)
      go_wp2
      go_region_held3 (fun w' => w'.cell? ⟨b1, o1 + k, none⟩ = some (.int .i64 (xs[k]?.getD 0)) ∧ w'.cell? ⟨b2, o2 + k, none⟩ = some (.int .i64 (ys[k]?.getD 0)))
        (first
          | go_keep
          | (go_split_ands
             refine ⟨?_, ?_⟩
             · (rw [hgrow.cell_far _ (by simp; omega) (Ne.symm ne1)]; assumption)
             · (rw [hgrow.cell_far _ (by simp; omega) (Ne.symm ne2)]; assumption)))
        ((refine step_append_lies _ (by rfl) _ _ _ (by rfl) w.heap.size 3 i0 _ 1 8 Tryz.underlying23 hi0 hz0 hz1 hz2 rfl (by omega) (.slice A k c) k _ (by rfl) ((hown.alloc _).drew) ⟨wr.heap.size, 0, none⟩ 1 1 [.int .i64 (xs[k]?.getD 0 + ys[k]?.getD 0)] (by rfl) (by rfl) (World.news_of_block (cs := #[.int .i64 (xs[k]?.getD 0 + ys[k]?.getD 0)]) (t := 3) (fr := (0, 0)) (heap_alloc_new wr _)) (by simp [Value.oneCell']) (by omega) (by unfold maxLen; omega) (by omega) (by simp; omega) (wr.heap.size + 1) (by simp) ?_; intro gg cap w1 hown1 hgrow hat hltg))
      have hb' : Below w.heap.size w w1 := ((hbel.alloc lz _).drew).grown hgrow (by simp; omega) (fun j e => (hown.lt j e).1)
      have Hown := qh hown1
      clear e1 e2 hown hown1
      go_wp2
      go_roundw
      case rel => exact ⟨k + 1, by go_num, by omega, by rw [add3_take_succ _ _ hlt, List.map_append]; exact Hown.out, hb', _, _, rfl⟩
      case measure => simp [intOf]; omega
    · have ek : 3 = k := by omega
      have Ek := qh ek
      have Hown := qh hown
      clear ek hown
      go_wp2
      go_ret
      have hown := Hown.out
      have := Ek.out
      subst this
      exact ⟨_, _, rfl, RdI.of_own hown (by omega), hbel⟩

theorem loadP_take_succ {ts : List Tk} {k : Nat} (h : k < ts.length) : loadP (ts.take (k + 1)) = add3 (loadP (ts.take k)) (ts[k]?.getD (0, [])).2 := by
  unfold loadP
  rw [List.take_succ_eq_append_getElem h, List.foldl_append, List.getElem?_eq_getElem h]
  rfl
theorem loadP_bd {ts : List Tk} {k : Nat} (hb : ∀ j i : Nat, 0 ≤ (ts[j]?.getD (0, [])).2[i]?.getD 0 ∧ (ts[j]?.getD (0, [])).2[i]?.getD 0 ≤ 1000) (hk : k ≤ ts.length) (i : Nat) (hi : i < 3) :
    0 ≤ (loadP (ts.take k))[i]?.getD 0 ∧ (loadP (ts.take k))[i]?.getD 0 ≤ 1000 * k := by
  induction k with
  | zero =>
    match i, hi with
    | 0, _ => simp [loadP]
    | 1, _ => simp [loadP]
    | 2, _ => simp [loadP]
  | succ k ih =>
    have := ih (by omega)
    have h2 := hb k i
    rw [loadP_take_succ (by omega), add3_at hi]
    omega
theorem loadP_len (ts : List Tk) : (loadP ts).length = 3 := by
  unfold loadP
  have : ∀ (l : List Tk) (s : List Int), s.length = 3 → (l.foldl (fun s t => add3 s t.2) s).length = 3 := by
    intro l
    induction l with
    | nil => intro s h; exact h
    | cons t l ih => intro s _; exact ih _ rfl
  exact this _ _ rfl

set_option maxRecDepth 100000 in
set_option maxHeartbeats 1600000 in
theorem l2Load_any (A : Option Addr) (n c : Nat) (ts : List Tk) (w : World) (h : RdT w w.heap.size A n ts) (hn : n ≤ 900) (h3 : ∀ j, j < n → (ts[j]?.getD (0, [])).2.length = 3)
    (hb : ∀ j i : Nat, 0 ≤ (ts[j]?.getD (0, [])).2[i]?.getD 0 ∧ (ts[j]?.getD (0, [])).2[i]?.getD 0 ≤ 1000) :
    Calls Tryz.prog 26 #[.slice A n c] w fun e w' => ∃ A c, e = .returned (.slice A 3 c) ∧ RdI w' w'.heap.size A 3 (loadP ts) ∧ Below w.heap.size w w' := by
  have Hb := qh hb
  have H3 := qh h3
  have hl := qh h.len
  clear hb h3
  go_enter Tryz.func26, Tryz.ntmps26
  go_wp2
  go_loopw [3, 4] (fun v i wr => ∃ k : Nat, i = .int .i64 k ∧ k ≤ n ∧ Below w.heap.size w wr ∧ ∃ A c, v = .slice A 3 c ∧ RdI wr wr.heap.size A 3 (loadP (ts.take k))) (fun _ i _ => n - (intOf i).toNat)
  case atStart =>
    refine ⟨0, rfl, Nat.zero_le _, (Below.refl _ _).alloc (Nat.le_refl _) _, _, _, rfl, rfl, by omega, fun _ => ⟨w.heap.size, 0, rfl, by simp, fun j hj => ?_⟩⟩
    match j, hj with
    | 0, _ => simp [loadP, World.cell?_alloc_at]
    | 1, _ => simp [loadP, World.cell?_alloc_at]
    | 2, _ => simp [loadP, World.cell?_alloc_at]
  case round =>
    obtain ⟨k, rfl, hk, hbel, A', c', rfl, hr⟩ := hrel
    by_cases hlt : k < n
    · obtain ⟨b1, o1, A2, m2, c2, rfl, lb1, hc1, hc2, _, hr2⟩ := (h.below hbel).at_ hlt
      have lz := hbel.size
      have em : m2 = 3 := by rw [← hr2.len]; exact H3.out k hlt
      have H := qh h
      have Hr := qh hr
      have Hr2 := qh (hr2.more lz)
      clear h hr hr2
      subst em
      go_wp2_with fail
      refine (l1Add_any _ _ _ _ _ _ _ _ _ Hr.out Hr2.out (by omega) (by omega) (fun j hj => ?_) (fun j hj => ?_)).mono ?_
      · have := loadP_bd Hb.out (k := k) (by have := hl.out; omega) j hj; omega
      · have := Hb.out k j; omega
      rintro e w1 ⟨A3, c3, rfl, hr3, hb3⟩
      have Hr3 := qh hr3
      clear hr3
      go_wp2
      go_roundw
      case rel => exact ⟨k + 1, by go_num, by omega, hbel.trans (hb3.mono lz), _, _, rfl, by rw [loadP_take_succ (by have := hl.out; omega)]; exact Hr3.out⟩
      case measure => simp [intOf]; omega
    · have ek : k = n := by omega
      have Ek := qh ek
      have Hr := qh hr
      clear ek hr
      go_wp2
      go_ret
      exact ⟨_, _, rfl, by have h1 := Hr.out; rw [Ek.out, List.take_of_length_le (by have := hl.out; omega)] at h1; exact h1, hbel⟩
theorem ints_set (c : List Int) (j : Nat) (x : Int) : ((c.map (Value.int .i64)).toArray.setIfInBounds j (.int .i64 x)) = ((c.set j x).map (Value.int .i64)).toArray := by
  simp [List.map_set]

end Go.Proofs.YtlcgbnmmbheleaaGreat

namespace Go.Proofs.YtlcgbnmmbheleaaGreat
open Go.RowKit

def Src (w : World) (size : Nat) (A : Option Addr) (m : Nat) (news : List Value) : Prop :=
  news.length = m * size ∧ (0 < m → ∃ ad, A = some ad ∧ ∀ j u, news[j]? = some u → w.cell? (ad.add j) = some u)

section
variable {P : Program} (w : World)

theorem run_append_zero (base : Nat) (t ty e : TypeId) (i : TypeInfo) (size : Nat) (ht : P.underlying t = some (.slice e)) (hi : P.info? e = some i)
    (v : Value) (n : Nat) (xs : List Value) (hown : w.ownsRow base e size v n xs) (c : Nat) : (Builtin.append_ #[t, t] ty #[v, .slice none 0 c]).run P w = .ok v w := by
  rcases hown.2 with ⟨rfl, rfl⟩ | ⟨g, cap, cur, rfl, _, _, hnc, _⟩
  · simp [Builtin.append_, run_underlying ht, sizeOf, typeInfo, hi, Builtin.lenOf, Builtin.firstCells]
  · simp [Builtin.append_, run_underlying ht, sizeOf, typeInfo, hi, Builtin.lenOf, Builtin.firstCells, hnc, storeCells]

theorem run_append_src (base : Nat) (t ty e : TypeId) (i : TypeInfo) (z : Value) (size bytes : Nat) (ht : P.underlying t = some (.slice e)) (hi : P.info? e = some i) (hz : i.zero = some z)
    (hsize : i.size = size) (hby : i.bytes = bytes) (hzs : z.cells.size = size) (hsz : 0 < size)
    (v : Value) (n : Nat) (xs : List Value) (hown : w.ownsRow base e size v n xs)
    (A : Option Addr) (m c : Nat) (news : List Value) (hr : Src w size A m news) (h1 : ∀ u ∈ news, u.oneCell' = true)
    (h63 : n + m ≤ maxLen) (hbytes : (n + m) * bytes ≤ 140737488355328) (hbase : base ≤ w.heap.size) :
    ∃ v' w', (Builtin.append_ #[t, t] ty #[v, .slice A m c]).run P w = .ok v' w' ∧ w'.ownsRow base e size v' (n + m) (xs ++ news) ∧ w.grownBy w' v.ownBlock ∧
      (v'.ownBlock = v.ownBlock ∨ v'.ownBlock = some w.heap.size) := by
  cases A with
  | none =>
    have hm : m = 0 := by
      rcases Nat.eq_zero_or_pos m with h0 | h0
      · exact h0
      · obtain ⟨ad, h, _⟩ := hr.2 h0
        cases h
    subst hm
    have hn : news = [] := List.eq_nil_of_length_eq_zero (by simpa using hr.1)
    subst hn
    exact ⟨v, w, run_append_zero w base t ty e i size ht hi v n xs hown c, by simpa using hown, World.grownBy.refl w _, .inl rfl⟩
  | some ad =>
    have hcells : ∀ j u, news[j]? = some u → w.cell? (ad.add j) = some u := by
      intro j u hu
      rcases Nat.eq_zero_or_pos m with h0 | h0
      · have hn : news = [] := List.eq_nil_of_length_eq_zero (by rw [hr.1, h0]; simp)
        rw [hn] at hu
        simp at hu
      · obtain ⟨ad', h, hc⟩ := hr.2 h0
        injection h with h
        subst h
        exact hc j u hu
    obtain ⟨v', w', hrun, h2, h3, _, h5⟩ := run_append_own_at (P := P) w base t ty e i z size bytes ht hi hz hsize hby hzs hsz v n xs hown ad m c news hr.1 hcells h1 h63 hbytes hbase
    exact ⟨v', w', hrun, h2, h3, h5⟩

theorem wp_append_src {o : Oper} {a : Act} {K : Act → World → Prop} {Q : Exit → Act → World → Prop} (s x : Operand) (t : TypeId)
    (ho : o.op = .call { callee := .builtin .append, args := #[s, x], argTypes := #[t, t] })
    (base : Nat) (e : TypeId) (i : TypeInfo) (z : Value) (size bytes : Nat) (ht : P.underlying t = some (.slice e)) (hi : P.info? e = some i) (hz : i.zero = some z)
    (hsize : i.size = size) (hby : i.bytes = bytes) (hzs : z.cells.size = size) (hsz : 0 < size)
    (v : Value) (n : Nat) (xs : List Value) (hs : a.eval s = v) (hown : w.ownsRow base e size v n xs)
    (A : Option Addr) (m c : Nat) (news : List Value) (hx : a.eval x = .slice A m c) (hr : Src w size A m news) (h1 : ∀ u ∈ news, u.oneCell' = true)
    (h63 : n + m ≤ maxLen) (hbytes : (n + m) * bytes ≤ 140737488355328) (hbase : base ≤ w.heap.size)
    (h : ∀ v' w', w'.ownsRow base e size v' (n + m) (xs ++ news) → w.grownBy w' v.ownBlock → (v'.ownBlock = v.ownBlock ∨ v'.ownBlock = some w.heap.size) → K (a.put o.dst v') w') : o.wp P a w K Q := by
  obtain ⟨v', w', hrun, h2, h3, h4⟩ := run_append_src (P := P) w base t o.type e i z size bytes ht hi hz hsize hby hzs hsz v n xs hown A m c news hr h1 h63 hbytes hbase
  unfold Oper.wp execOp
  simp only [ho, resolve, invoke, builtin, Sem.run_bind, Sem.run_pure, Result.andThen_ok, List.map_toArray, List.map_cons, List.map_nil, hs, hx, hrun]
  exact h v' w' h2 h3 h4

theorem wpList_append_src {ops : Array Oper} {rest : List Oper} {o : Oper} {a : Act} {Q : Exit → Act → World → Prop} (hgd : o.guard = none) (s x : Operand) (t : TypeId)
    (ho : o.op = .call { callee := .builtin .append, args := #[s, x], argTypes := #[t, t] })
    (base : Nat) (e : TypeId) (i : TypeInfo) (z : Value) (size bytes : Nat) (ht : P.underlying t = some (.slice e)) (hi : P.info? e = some i) (hz : i.zero = some z)
    (hsize : i.size = size) (hby : i.bytes = bytes) (hzs : z.cells.size = size) (hsz : 0 < size)
    (v : Value) (n : Nat) (xs : List Value) (hs : a.eval s = v) (hown : w.ownsRow base e size v n xs)
    (A : Option Addr) (m c : Nat) (news : List Value) (hx : a.eval x = .slice A m c) (hr : Src w size A m news) (h1 : ∀ u ∈ news, u.oneCell' = true)
    (h63 : n + m ≤ maxLen) (hbytes : (n + m) * bytes ≤ 140737488355328) (hbase : base ≤ w.heap.size)
    (h : ∀ v' w', w'.ownsRow base e size v' (n + m) (xs ++ news) → w.grownBy w' v.ownBlock → (v'.ownBlock = v.ownBlock ∨ v'.ownBlock = some w.heap.size) → wpList P ops Q rest (a.put o.dst v') w') : wpList P ops Q (o :: rest) a w :=
  wpList_plain hgd fun _ hK => wp_append_src w s x t ho base e i z size bytes ht hi hz hsize hby hzs hsz v n xs hs hown A m c news hx hr h1 h63 hbytes hbase fun v' w' h2 h3 h4 => hK _ _ (h v' w' h2 h3 h4)

end

def TkCells (w : World) (B : Nat) (vs : List Value) (ts : List Tk) : Prop :=
  vs.length = ts.length * 2 ∧ ∀ j, j < ts.length → ∃ A' m c, vs[j * 2]? = some (.int .i64 (ts[j]?.getD (0, [])).1) ∧ vs[j * 2 + 1]? = some (.slice A' m c) ∧ m ≤ c ∧ RdI w B A' m (ts[j]?.getD (0, [])).2

section
variable {w w' : World} {B B' : Nat} {vs vs' : List Value} {ts ts' : List Tk}
theorem TkCells.nil : TkCells w B [] [] := ⟨rfl, fun j hj => by simp at hj⟩
theorem TkCells.keep (h : TkCells w B vs ts) (hk : ∀ p : Addr, p.block < B → w'.cell? p = w.cell? p) (hB : B ≤ B') : TkCells w' B' vs ts :=
  ⟨h.1, fun j hj => by obtain ⟨A', m, c, h1, h2, h3, h4⟩ := h.2 j hj; exact ⟨A', m, c, h1, h2, h3, h4.keep hk hB⟩⟩
theorem TkCells.below (h : TkCells w B vs ts) (hb : Below B w w') : TkCells w' B vs ts := h.keep (fun _ hp => hb.cell hp) (Nat.le_refl _)
theorem TkCells.append (h : TkCells w B vs ts) (h' : TkCells w B vs' ts') : TkCells w B (vs ++ vs') (ts ++ ts') := by
  refine ⟨by simp [h.1, h'.1]; omega, fun j hj => ?_⟩
  by_cases hl : j < ts.length
  · obtain ⟨A', m, c, h1, h2, h3, h4⟩ := h.2 j hl
    refine ⟨A', m, c, ?_, ?_, h3, ?_⟩
    · rw [List.getElem?_append_left (by have := h.1; omega), List.getElem?_append_left hl]; exact h1
    · rw [List.getElem?_append_left (by have := h.1; omega)]; exact h2
    · rw [List.getElem?_append_left hl]; exact h4
  · obtain ⟨A', m, c, h1, h2, h3, h4⟩ := h'.2 (j - ts.length) (by simp at hj; omega)
    refine ⟨A', m, c, ?_, ?_, h3, ?_⟩
    · rw [List.getElem?_append_right (by have := h.1; omega), List.getElem?_append_right (by omega), show j * 2 - vs.length = (j - ts.length) * 2 from by have := h.1; omega]; exact h1
    · rw [List.getElem?_append_right (by have := h.1; omega), show j * 2 + 1 - vs.length = (j - ts.length) * 2 + 1 from by have := h.1; omega]; exact h2
    · rw [List.getElem?_append_right (by omega)]; exact h4
theorem TkCells.one (h : TkCells w B vs ts) : ∀ u ∈ vs, u.oneCell' = true := by
  intro u hu
  obtain ⟨i, hi, rfl⟩ := List.getElem_of_mem hu
  obtain ⟨A', m, c, h1, h2, _⟩ := h.2 (i / 2) (by have := h.1; omega)
  rcases Nat.mod_two_eq_zero_or_one i with e | e
  · rw [show i / 2 * 2 = i from by omega, List.getElem?_eq_getElem hi] at h1
    injection h1 with h1; rw [h1]; rfl
  · rw [show i / 2 * 2 + 1 = i from by omega, List.getElem?_eq_getElem hi] at h2
    injection h2 with h2; rw [h2]; rfl

theorem addr_add (b o j : Nat) : (⟨b, o, none⟩ : Addr).add j = ⟨b, o + j, none⟩ := by unfold Addr.add; split <;> simp_all

theorem RdT.src {A : Option Addr} {n : Nat} (h : RdT w B A n ts) : ∃ vs, Src w 2 A n vs ∧ TkCells w B vs ts := by
  rcases Nat.eq_zero_or_pos n with h0 | h0
  · subst h0
    have : ts = [] := List.eq_nil_of_length_eq_zero h.1
    subst this
    exact ⟨[], ⟨rfl, fun h => absurd h (by omega)⟩, TkCells.nil⟩
  · obtain ⟨b, o, rfl, hb, hc⟩ := h.2.2 h0
    have hl := h.1
    let f : Nat → Value := fun i => (w.cell? ⟨b, o + i, none⟩).getD undef
    have hf : ∀ i, i < n * 2 → w.cell? ⟨b, o + i, none⟩ = some (f i) := by
      intro i hi
      obtain ⟨A', m, c, h1, h2, _⟩ := hc (i / 2) (by omega)
      rcases Nat.mod_two_eq_zero_or_one i with e | e
      · rw [show i / 2 * 2 = i from by omega] at h1
        simp only [f, h1, Option.getD_some]
      · rw [show o + i / 2 * 2 + 1 = o + i from by omega] at h2
        simp only [f, h2, Option.getD_some]
    have hg : ∀ i, i < n * 2 → ((List.range (n * 2)).map f)[i]? = some (f i) := by
      intro i hi
      rw [List.getElem?_map, List.getElem?_range hi]; rfl
    refine ⟨(List.range (n * 2)).map f, ⟨by simp, fun _ => ⟨_, rfl, fun j u hu => ?_⟩⟩, ⟨by simp [hl], fun j hj => ?_⟩⟩
    · have hj : j < n * 2 := by
        rcases Nat.lt_or_ge j (n * 2) with h | h
        · exact h
        · rw [List.getElem?_eq_none (by simpa using h)] at hu; cases hu
      rw [hg j hj] at hu
      injection hu with hu
      rw [addr_add, hf j hj, hu]
    · obtain ⟨A', m, c, h1, h2, h3, h4⟩ := hc j (by omega)
      refine ⟨A', m, c, ?_, ?_, h3, h4⟩
      · rw [hg _ (by omega)]
        have := hf (j * 2) (by omega)
        rw [h1] at this
        exact this.symm
      · rw [hg _ (by omega)]
        have := hf (j * 2 + 1) (by omega)
        rw [← Nat.add_assoc, h2] at this
        exact this.symm

theorem RdT.of_own {base : Nat} {e : TypeId} {A : Option Addr} {n c : Nat} (h : w.ownsRow base e 2 (.slice A n c) n vs) (ht : TkCells w B vs ts) (hB : B ≤ w.heap.size) (hn : n ≤ 9223372036854775807) : RdT w w.heap.size A n ts := by
  have hl : ts.length = n := by have := h.1; have := ht.1; omega
  refine ⟨hl, hn, fun hp => ?_⟩
  obtain ⟨g, cap, hv, _, hlt⟩ := h.form hp
  have hA : A = some ⟨g, 0, none⟩ := by injection hv
  subst hA
  refine ⟨g, 0, rfl, hlt, fun j hj => ?_⟩
  obtain ⟨A', m, c', h1, h2, h3, h4⟩ := ht.2 j (by omega)
  have e1 := h.cells (g := g) rfl _ _ h1
  have e2 := h.cells (g := g) rfl _ _ h2
  rw [addr_add] at e1 e2
  exact ⟨A', m, c', e1, e2, h3, h4.more hB⟩
end
end Go.Proofs.YtlcgbnmmbheleaaGreat

namespace Go.Proofs.YtlcgbnmmbheleaaGreat
open Go.RowKit

theorem hasP_take_iff {ts : List Tk} {k : Nat} {id : Int} (hk : k ≤ ts.length) : hasP (ts.take k) id = true ↔ ∃ i, i < k ∧ (ts[i]?.getD (0, [])).1 = id := by
  simp only [hasP, List.any_eq_true, beq_iff_eq]
  constructor
  · rintro ⟨t, ht, he⟩
    obtain ⟨i, hi, rfl⟩ := List.getElem_of_mem ht
    have hi' : i < k := by simp at hi; omega
    refine ⟨i, hi', ?_⟩
    rw [List.getElem?_eq_getElem (by omega)]
    simpa using he
  · rintro ⟨i, hi, he⟩
    rw [List.getElem?_eq_getElem (by omega)] at he
    refine ⟨ts[i], ?_, by simpa using he⟩
    rw [List.mem_take_iff_getElem]
    exact ⟨i, by omega, rfl⟩

theorem nodup_iff {ts : List Tk} : (ts.map (·.1)).Nodup ↔ ∀ j, j < ts.length → hasP (ts.take j) (ts[j]?.getD (0, [])).1 = false := by
  unfold List.Nodup
  rw [List.pairwise_iff_getElem]
  constructor
  · intro h j hj
    rw [← Bool.not_eq_true, hasP_take_iff (by omega)]
    rintro ⟨i, hi, he⟩
    have := h i j (by simp; omega) (by simpa using hj) hi
    rw [List.getElem?_eq_getElem (by omega), List.getElem?_eq_getElem hj] at he
    exact this (by simpa using he)
  · intro h i j hi hj hij he
    have := h j (by simpa using hj)
    rw [← Bool.not_eq_true, hasP_take_iff (by simp at hj; omega)] at this
    refine this ⟨i, hij, ?_⟩
    rw [List.getElem?_eq_getElem (by simpa using hi), List.getElem?_eq_getElem (by simpa using hj)]
    simpa using he

theorem allT_iff {ts : List Tk} {p : Tk → Bool} : ts.all p = true ↔ ∀ j, j < ts.length → p (ts[j]?.getD (0, [])) = true := by
  rw [List.all_eq_true]
  constructor
  · intro h j hj
    rw [List.getElem?_eq_getElem hj]
    exact h _ (List.getElem_mem _)
  · intro h x hx
    obtain ⟨j, hj, rfl⟩ := List.getElem_of_mem hx
    have := h j hj
    rwa [List.getElem?_eq_getElem hj] at this

theorem tasksOk_all {room : List Int} {ts : List Tk} (hr : roomOk room = true) (h : ∀ j, j < ts.length → taskOk room (ts[j]?.getD (0, [])) = true ∧ hasP (ts.take j) (ts[j]?.getD (0, [])).1 = false) :
    tasksOk room ts = decide (ts.length ≤ 14) := by
  unfold tasksOk
  rw [hr, allT_iff.2 (fun j hj => (h j hj).1), decide_eq_true (nodup_iff.2 (fun j hj => (h j hj).2))]
  simp
theorem tasksOk_room {room : List Int} {ts : List Tk} (hr : roomOk room = false) : tasksOk room ts = false := by simp [tasksOk, hr]
theorem tasksOk_bad {room : List Int} {ts : List Tk} {k : Nat} (hk : k < ts.length) (h : taskOk room (ts[k]?.getD (0, [])) = false) : tasksOk room ts = false := by
  rw [← Bool.not_eq_true]; intro hh
  simp only [tasksOk, Bool.and_eq_true] at hh
  have := allT_iff.1 hh.1.2 k hk
  rw [h] at this; cases this
theorem tasksOk_twice {room : List Int} {ts : List Tk} {k : Nat} (hk : k < ts.length) (h : hasP (ts.take k) (ts[k]?.getD (0, [])).1 = true) : tasksOk room ts = false := by
  rw [← Bool.not_eq_true]; intro hh
  simp only [tasksOk, Bool.and_eq_true, decide_eq_true_eq] at hh
  have := nodup_iff.1 hh.2 k hk
  rw [h] at this; cases this
theorem tasksOk_room' {room : List Int} {ts : List Tk} (h : tasksOk room ts = true) : roomOk room = true := by
  simp only [tasksOk, Bool.and_eq_true] at h; exact h.1.1.1
theorem tasksOk_len {room : List Int} {ts : List Tk} (h : tasksOk room ts = true) : ts.length ≤ 14 := by
  simp only [tasksOk, Bool.and_eq_true, decide_eq_true_eq] at h; exact h.1.1.2
theorem tasksOk_mem {room : List Int} {ts : List Tk} (h : tasksOk room ts = true) {t : Tk} (ht : t ∈ ts) : taskOk room t = true := by
  simp only [tasksOk, Bool.and_eq_true, decide_eq_true_eq] at h; exact List.all_eq_true.1 h.1.2 t ht
theorem taskOk_vec {room : List Int} {t : Tk} (h : taskOk room t = true) : vecOk t.2 = true := by
  simp only [taskOk, vecFits, Bool.and_eq_true] at h; exact h.2.1.1
theorem roomOk_vec {room : List Int} (h : roomOk room = true) : vecOk room = true := by
  simp only [roomOk, Bool.and_eq_true] at h; exact h.1

set_option maxRecDepth 100000 in
set_option maxHeartbeats 400000 in
theorem tasksValidS_any (A1 A2 : Option Addr) (n1 c1 n2 c2 : Nat) (room : List Int) (ts : List Tk) (w : World) (h1 : RdI w w.heap.size A1 n1 room) (h2 : RdT w w.heap.size A2 n2 ts) :
    Calls Tryz.prog 71 #[.slice A1 n1 c1, .slice A2 n2 c2] w fun e w' => e = .returned (.bool (tasksOk room ts)) ∧ ∃ m, w.drewN m = w' := by
  have hl := qh h2.len
  have hn := h2.le
  have H1 := qh h1
  clear h1
  by_cases hr : roomOk room = true
  · have Hr := qh hr
    go_enter Tryz.func71, Tryz.ntmps71
    go_wp2_with (go_at_call 67; refine (l2Room_any _ _ _ _ _ _ H1.out).mono ?_; rintro e w1 ⟨rfl, rfl⟩)
    go_loopw [5] (fun i wr => ∃ k m : Nat, i = .int .i64 k ∧ k ≤ n2 ∧ wr = w.drewN m ∧ (∀ j, j < k → taskOk room (ts[j]?.getD (0, [])) = true ∧ hasP (ts.take j) (ts[j]?.getD (0, [])).1 = false)) (fun i _ => n2 - (intOf i).toNat)
    case atStart => exact ⟨0, 0, rfl, Nat.zero_le _, rfl, by intro j hj; omega⟩
    case round =>
      obtain ⟨k, m, rfl, hk, rfl, hall⟩ := hrel
      have Hall := qh hall
      clear hall
      by_cases hlt : k < n2
      · obtain ⟨b, o, A', m', c', rfl, hb, hc1, hc2, hmc, hrd⟩ := h2.at_ hlt
        have H2 := qh h2
        have Hrd := qh hrd
        clear h2 hrd
        by_cases hid : inR 1 40 (ts[k]?.getD (0, [])).1 = true
        · by_cases hh : hasP (ts.take k) (ts[k]?.getD (0, [])).1 = true
          · go_wp2_with fail
            refine (l6In_any _ _ _ _).mono ?_; rintro e w1 ⟨rfl, rfl⟩
            go_wp2_with fail
            refine (l2Has_any _ _ _ _ _ _ _ _ (H2.out.drewN m) (by omega) (by omega)).mono ?_; rintro e w1 ⟨rfl, rfl⟩
            rw [Int.toNat_natCast]
            go_wp2
            go_ret
            exact ⟨ret_bool (tasksOk_twice (by have := hl.out; omega) hh).symm, _, rfl⟩
          · have hh : hasP (ts.take k) (ts[k]?.getD (0, [])).1 = false := by simpa using hh
            by_cases hf : vecFits (ts[k]?.getD (0, [])).2 room = true
            · go_wp2_with fail
              refine (l6In_any _ _ _ _).mono ?_; rintro e w1 ⟨rfl, rfl⟩
              go_wp2_with fail
              refine (l2Has_any _ _ _ _ _ _ _ _ (H2.out.drewN m) (by omega) (by omega)).mono ?_; rintro e w1 ⟨rfl, rfl⟩
              rw [Int.toNat_natCast]
              go_wp2_with fail
              refine (vecFits_any _ _ _ _ _ _ _ _ _ _ _ (Hrd.out.drewN m) (H1.out.drewN m)).mono ?_; rintro e w1 ⟨rfl, q, rfl⟩
              have Hid := qh hid
              have Hh := qh hh
              have Hf := qh hf
              go_wp2
              go_roundw
              case rel => exact ⟨k + 1, _, by go_num, by omega, rfl, fun j hj => by
                by_cases e : j = k
                · rw [e]; exact ⟨by simp [taskOk, Hid.out, Hf.out], Hh.out⟩
                · exact Hall.out j (by omega)⟩
              case measure => simp [intOf]; omega
            · have hf : vecFits (ts[k]?.getD (0, [])).2 room = false := by simpa using hf
              go_wp2_with fail
              refine (l6In_any _ _ _ _).mono ?_; rintro e w1 ⟨rfl, rfl⟩
              go_wp2_with fail
              refine (l2Has_any _ _ _ _ _ _ _ _ (H2.out.drewN m) (by omega) (by omega)).mono ?_; rintro e w1 ⟨rfl, rfl⟩
              rw [Int.toNat_natCast]
              go_wp2_with fail
              refine (vecFits_any _ _ _ _ _ _ _ _ _ _ _ (Hrd.out.drewN m) (H1.out.drewN m)).mono ?_; rintro e w1 ⟨rfl, q, rfl⟩
              go_wp2
              go_ret
              exact ⟨ret_bool (tasksOk_bad (k := k) (by have := hl.out; omega) (by simp [taskOk, hf])).symm, _, rfl⟩
        · have hid : inR 1 40 (ts[k]?.getD (0, [])).1 = false := by simpa using hid
          go_wp2_with fail
          refine (l6In_any _ _ _ _).mono ?_; rintro e w1 ⟨rfl, rfl⟩
          go_wp2
          go_ret
          exact ⟨ret_bool (tasksOk_bad (k := k) (by have := hl.out; omega) (by simp [taskOk, hid])).symm, _, rfl⟩
      · have H2 := qh h2
        clear h2
        go_wp2
        go_ret
        refine ⟨ret_bool ?_, _, rfl⟩
        rw [tasksOk_all Hr.out (fun j hj => Hall.out j (by have := hl.out; omega)), hl.out, Bool.eq_iff_iff]
        simp
        omega
  · have hr : roomOk room = false := by simpa using hr
    go_enter Tryz.func71, Tryz.ntmps71
    go_wp2_with (go_at_call 67; refine (l2Room_any _ _ _ _ _ _ H1.out).mono ?_; rintro e w1 ⟨rfl, rfl⟩)
    go_ret
    exact ⟨ret_bool (tasksOk_room hr).symm, 0, rfl⟩

theorem flat_take_succ {bs : List (List Tk)} {k : Nat} (h : k < bs.length) : (bs.take (k + 1)).flatten = (bs.take k).flatten ++ bs[k]?.getD [] := by
  rw [List.take_succ_eq_append_getElem h, List.flatten_append, List.getElem?_eq_getElem h]
  simp
theorem flat_take_le {bs : List (List Tk)} (k : Nat) : (bs.take k).flatten.length ≤ bs.flatten.length := by
  conv => rhs; rw [← List.take_append_drop k bs, List.flatten_append, List.length_append]
  omega

set_option maxRecDepth 100000 in
set_option maxHeartbeats 400000 in
theorem l2All_any (A : Option Addr) (n c : Nat) (bs : List (List Tk)) (w : World) (h : RdB w w.heap.size A n bs) (hz : bs.flatten.length ≤ 1048576) :
    Calls Tryz.prog 27 #[.slice A n c] w fun e w' => ∃ A m c, e = .returned (.slice A m c) ∧ RdT w' w'.heap.size A m bs.flatten ∧ Below w.heap.size w w' := by
  obtain ⟨i0, hi0, hz0, hz1, hz2⟩ := info_parts task_info
  have hl := qh h.len
  have hn := h.le
  go_enter Tryz.func27, Tryz.ntmps27
  go_wp2
  go_loopw [3, 4] (fun v i wr => ∃ k : Nat, i = .int .i64 k ∧ k ≤ n ∧ Below w.heap.size w wr ∧ ∃ A c vs, v = .slice A (bs.take k).flatten.length c ∧ wr.ownsRow w.heap.size 40 2 v (bs.take k).flatten.length vs ∧ TkCells wr w.heap.size vs (bs.take k).flatten) (fun _ i _ => n - (intOf i).toNat)
  case atStart => exact ⟨0, rfl, Nat.zero_le _, (Below.refl _ _).alloc (Nat.le_refl _) _, _, _, [], rfl, World.ownsRow_made w #[] 0 (Nat.le_refl _) (by unfold maxLen; omega) rfl, TkCells.nil⟩
  case round =>
    obtain ⟨k, rfl, hk, hbel, A0, c0, vs, rfl, hown, htk⟩ := hrel
    by_cases hlt : k < n
    · obtain ⟨b1, o1, A2, m2, c2, rfl, lb1, hc1, _, hr2⟩ := (h.below hbel).at_ hlt
      obtain ⟨news, hsrc, htn⟩ := hr2.src
      have lz := hbel.size
      have H := qh h
      have Hr2 := qh hr2
      have e1 := flat_take_succ (bs := bs) (k := k) (by have := hl.out; omega)
      have e2 : m2 = (bs[k]?.getD []).length := hr2.len.symm
      have e3 := flat_take_le (bs := bs) (k + 1)
      have e4 : (bs.take k).flatten.length + m2 ≤ 1048576 := by rw [e1, List.length_append, ← e2] at e3; omega
      have E1 := qh e1
      have E2 := qh e2
      clear h hr2 e1 e2 e3
      go_wp2_with (at_builtin; go_loud (refine wpList_append_src _ rfl _ _ 30 rfl w.heap.size 40 i0 _ 2 32 Tryz.underlying30 hi0 hz0 hz1 hz2 rfl (by omega) (.slice A0 _ c0) _ vs rfl hown A2 m2 c2 news rfl hsrc htn.one (by unfold maxLen; omega) (by omega) lz ?_); intro v' w1 hown1 hgrow hat)
      have hb' : Below w.heap.size w w1 := hbel.grown hgrow lz (fun j e => (hown.lt j e).1)
      have ht' := (htk.append htn).below ((Below.refl w.heap.size wr).grown hgrow lz (fun j e => (hown.lt j e).1))
      obtain ⟨A1, c1, rfl⟩ := own_shape hown1
      have Hown := qh hown1
      have Ht := qh ht'
      clear hown hown1 ht' htk htn hsrc
      go_roundw
      case rel => exact ⟨k + 1, by go_num, by omega, hb', A1, c1, _, by rw [E1.out, List.length_append, ← E2.out], by rw [E1.out, List.length_append, ← E2.out]; exact Hown.out, by rw [E1.out]; exact Ht.out⟩
      case measure => simp [intOf]; omega
    · have ek : k = n := by omega
      have e0 : bs.take k = bs := List.take_of_length_le (by have := hl.out; omega)
      rw [e0] at hown htk
      have Hown := qh hown
      have Ht := qh htk
      have E0 := qh e0
      clear ek hown htk e0 h
      go_wp2
      go_ret
      exact ⟨A0, bs.flatten.length, c0, congrArg (fun l => Ending.returned (.slice A0 (List.length (List.flatten l)) c0)) E0.out, RdT.of_own Hown.out Ht.out hbel.size (by omega), hbel⟩

theorem bin_mem {bs : List (List Tk)} {k : Nat} (h : k < bs.length) {t : Tk} (ht : t ∈ bs[k]?.getD []) : t ∈ bs.flatten := by
  rw [List.getElem?_eq_getElem h] at ht
  exact List.mem_flatten.2 ⟨_, List.getElem_mem h, ht⟩
theorem bin_len {bs : List (List Tk)} {k : Nat} (h : k < bs.length) : (bs[k]?.getD []).length ≤ bs.flatten.length := by
  have h1 := flat_take_succ h
  have h2 := flat_take_le (bs := bs) (k + 1)
  rw [h1, List.length_append] at h2
  omega
theorem tk_default {ts : List Tk} {p : Tk → Prop} (h : ∀ t ∈ ts, p t) (h0 : p (0, [])) (j : Nat) : p (ts[j]?.getD (0, [])) := by
  by_cases hj : j < ts.length
  · rw [List.getElem?_eq_getElem hj]; exact h _ (List.getElem_mem hj)
  · rw [List.getElem?_eq_none (by omega)]; exact h0
theorem tk_at {ts : List Tk} {p : Tk → Prop} (h : ∀ t ∈ ts, p t) {j : Nat} (hj : j < ts.length) : p (ts[j]?.getD (0, [])) := by
  rw [List.getElem?_eq_getElem hj]; exact h _ (List.getElem_mem hj)
theorem load_ok {ts : List Tk} (h : ∀ t ∈ ts, vecOk t.2 = true) : (∀ j, j < ts.length → (ts[j]?.getD (0, [])).2.length = 3) ∧ (∀ j i : Nat, 0 ≤ (ts[j]?.getD (0, [])).2[i]?.getD 0 ∧ (ts[j]?.getD (0, [])).2[i]?.getD 0 ≤ 1000) :=
  ⟨fun _ hj => tk_at (p := fun t => t.2.length = 3) (fun t ht => vecOk_len (h t ht)) hj,
   fun j i => tk_default (p := fun t => 0 ≤ t.2[i]?.getD 0 ∧ t.2[i]?.getD 0 ≤ 1000) (fun t ht => by have := vecOk_bd (h t ht) i; omega) (by simp) j⟩
theorem tasksOk_vecs {room : List Int} {ts : List Tk} (h : tasksOk room ts = true) : ∀ t ∈ ts, vecOk t.2 = true := fun _ ht => taskOk_vec (tasksOk_mem h ht)

theorem allB_iff {bs : List (List Tk)} {p : List Tk → Bool} : bs.all p = true ↔ ∀ j, j < bs.length → p (bs[j]?.getD []) = true := by
  rw [List.all_eq_true]
  constructor
  · intro h j hj
    rw [List.getElem?_eq_getElem hj]
    exact h _ (List.getElem_mem _)
  · intro h x hx
    obtain ⟨j, hj, rfl⟩ := List.getElem_of_mem hx
    have := h j hj
    rwa [List.getElem?_eq_getElem hj] at this
set_option maxRecDepth 100000 in
set_option maxHeartbeats 800000 in
theorem binsValidS_any (A1 A2 : Option Addr) (n1 c1 n2 c2 : Nat) (room : List Int) (bs : List (List Tk)) (w : World) (h1 : RdI w w.heap.size A1 n1 room) (h2 : RdB w w.heap.size A2 n2 bs) (hz : bs.flatten.length ≤ 1048576) :
    Calls Tryz.prog 52 #[.slice A1 n1 c1, .slice A2 n2 c2] w fun e w' => e = .returned (.bool (binsOk room bs)) ∧ Below w.heap.size w w' := by
  have hl := qh h2.len
  have hn := h2.le
  have H1 := qh h1
  have H2 := qh h2
  clear h1 h2
  by_cases hr : tasksOk room bs.flatten = true
  · by_cases h14 : n2 ≤ 14
    · go_enter Tryz.func52, Tryz.ntmps52
      go_wp2_with fail
      refine (l2All_any _ _ _ _ _ H2.out hz).mono ?_; rintro e w1 ⟨A3, n3, c3, rfl, hr3, hb3⟩
      have Hr3 := qh hr3
      clear hr3
      go_wp2_with fail
      refine (tasksValidS_any _ _ _ _ _ _ _ _ _ (H1.out.up hb3) Hr3.out).mono ?_; rintro e w2 ⟨rfl, m, rfl⟩
      have Hr := qh hr
      go_wp2
      go_loopw [5] (fun i wr => ∃ k : Nat, i = .int .i64 k ∧ k ≤ n2 ∧ Below w.heap.size w wr ∧ (∀ j, j < k → fits3 (loadP (bs[j]?.getD [])) room = true)) (fun i _ => n2 - (intOf i).toNat)
      case atStart => exact ⟨0, rfl, Nat.zero_le _, below_drewN hb3 _, by intro j hj; omega⟩
      case round =>
        obtain ⟨k, rfl, hk, hbel, hall⟩ := hrel
        have Hall := qh hall
        clear hall
        by_cases hlt : k < n2
        · obtain ⟨b, o, A', m', c', rfl, hb, hc1, hmc, hrd⟩ := (H2.out.below hbel).at_ hlt
          have lz := hbel.size
          have hkl : Hid (k < bs.length) := by have := hl.out; show _ < _; omega
          have Hrd := qh (hrd.more lz)
          have hm : m' ≤ 14 := by have := hrd.len; have := bin_len hkl.out; have := tasksOk_len Hr.out; omega
          clear hrd
          have lo := qh (load_ok (fun t ht => tasksOk_vecs Hr.out t (bin_mem hkl.out ht)))
          by_cases hf : fits3 (loadP (bs[k]?.getD [])) room = true
          · go_wp2_with fail
            refine (l2Load_any _ _ _ _ _ Hrd.out (by omega) (fun j hj => lo.out.1 j (by have := Hrd.out.len; omega)) lo.out.2).mono ?_; rintro e w1 ⟨A4, c4, rfl, hr4, hb4⟩
            have Hr4 := qh hr4
            clear hr4
            go_wp2_with fail
            refine (l1Fits_any _ _ _ _ _ _ _ _ _ _ _ Hr4.out ((H1.out.below hbel).below (hb4.mono lz)) (by omega) (by have := H1.out.len; have := vecOk_len (roomOk_vec (tasksOk_room' Hr.out)); omega)).mono ?_; rintro e w3 ⟨rfl, q, rfl⟩
            have Hf := qh hf
            go_wp2
            go_roundw
            case rel => exact ⟨k + 1, by go_num, by omega, below_drewN (hbel.trans (hb4.mono lz)) _, fun j hj => by
              by_cases e : j = k
              · rw [e]; exact Hf.out
              · exact Hall.out j (by omega)⟩
            case measure => simp [intOf]; omega
          · have hf : fits3 (loadP (bs[k]?.getD [])) room = false := by simpa using hf
            go_wp2_with fail
            refine (l2Load_any _ _ _ _ _ Hrd.out (by omega) (fun j hj => lo.out.1 j (by have := Hrd.out.len; omega)) lo.out.2).mono ?_; rintro e w1 ⟨A4, c4, rfl, hr4, hb4⟩
            have Hr4 := qh hr4
            clear hr4
            go_wp2_with fail
            refine (l1Fits_any _ _ _ _ _ _ _ _ _ _ _ Hr4.out ((H1.out.below hbel).below (hb4.mono lz)) (by omega) (by have := H1.out.len; have := vecOk_len (roomOk_vec (tasksOk_room' Hr.out)); omega)).mono ?_; rintro e w3 ⟨rfl, q, rfl⟩
            go_wp2
            go_ret
            refine ⟨ret_bool ?_, below_drewN (hbel.trans (hb4.mono lz)) _⟩
            symm
            rw [binsOk, Bool.and_eq_false_iff]; right
            rw [← Bool.not_eq_true, allB_iff]
            intro hh
            have := hh k hkl.out
            rw [hf] at this; cases this
        · go_wp2
          go_ret
          refine ⟨ret_bool ?_, hbel⟩
          symm
          rw [binsOk, Hr.out, allB_iff.2 (fun j hj => Hall.out j (by have := hl.out; omega))]
          simp
          have := hl.out; omega
    · go_enter Tryz.func52, Tryz.ntmps52
      go_wp2_with fail
      refine (l2All_any _ _ _ _ _ H2.out hz).mono ?_; rintro e w1 ⟨A3, n3, c3, rfl, hr3, hb3⟩
      have Hr3 := qh hr3
      clear hr3
      go_wp2_with fail
      refine (tasksValidS_any _ _ _ _ _ _ _ _ _ (H1.out.up hb3) Hr3.out).mono ?_; rintro e w2 ⟨rfl, m, rfl⟩
      go_wp2
      go_ret
      exact ⟨ret_bool (by symm; rw [binsOk, decide_eq_false (by have := hl.out; omega)]; simp), below_drewN hb3 _⟩
  · have hr : tasksOk room bs.flatten = false := by simpa using hr
    go_enter Tryz.func52, Tryz.ntmps52
    go_wp2_with fail
    refine (l2All_any _ _ _ _ _ H2.out hz).mono ?_; rintro e w1 ⟨A3, n3, c3, rfl, hr3, hb3⟩
    have Hr3 := qh hr3
    clear hr3
    go_wp2_with fail
    refine (tasksValidS_any _ _ _ _ _ _ _ _ _ (H1.out.up hb3) Hr3.out).mono ?_; rintro e w2 ⟨rfl, m, rfl⟩
    go_wp2
    go_ret
    exact ⟨ret_bool (by symm; simp [binsOk, hr]), below_drewN hb3 _⟩

theorem whereP_none {bs : List (List Tk)} {id : Int} (h : ∀ j, j < bs.length → hasP (bs[j]?.getD []) id = false) : whereP bs id = -1 := by
  have : bs.findIdx? (fun b => hasP b id) = none := by
    rw [List.findIdx?_eq_none_iff]
    intro b hb
    obtain ⟨j, hj, rfl⟩ := List.getElem_of_mem hb
    have := h j hj
    rwa [List.getElem?_eq_getElem hj] at this
  rw [whereP, this]
theorem whereP_some {bs : List (List Tk)} {id : Int} {k : Nat} (hk : k < bs.length) (hh : hasP (bs[k]?.getD []) id = true) (h : ∀ j, j < k → hasP (bs[j]?.getD []) id = false) : whereP bs id = k := by
  have : bs.findIdx? (fun b => hasP b id) = some k := by
    rw [List.findIdx?_eq_some_iff_getElem]
    refine ⟨hk, by rwa [List.getElem?_eq_getElem hk] at hh, fun j hj => ?_⟩
    have := h j hj
    rw [List.getElem?_eq_getElem (by omega)] at this
    simpa using this
  rw [whereP, this]
theorem quiet_add_left {P : Program} {f : FuncId} {args : Array Value} {w : World} {a n : Nat} {v : Value}
    (h : Calls P f args (w.drewN (a + n)) fun e w' => e = .returned v ∧ w.drewN (a + n) = w') : Calls P f args (w.drewN (a + n)) fun e w'' => e = .returned v ∧ ∃ m, w'' = w.drewN (a + m) :=
  h.mono fun _ _ ⟨he, hm⟩ => ⟨he, n, hm.symm⟩
set_option maxRecDepth 100000 in
set_option maxHeartbeats 400000 in
theorem l2Where_any (A : Option Addr) (n c : Nat) (bs : List (List Tk)) (id : Int) (w : World) (h : RdB w w.heap.size A n bs) :
    Calls Tryz.prog 69 #[.slice A n c, .int .i64 id] w fun e w' => e = .returned (.int .i64 (whereP bs id)) ∧ ∃ m, w.drewN m = w' := by
  have hl := qh h.len
  have hn := h.le
  have H := qh h
  clear h
  go_enter Tryz.func69, Tryz.ntmps69
  go_wp2
  go_loopw [5] (fun i wr => ∃ k m : Nat, i = .int .i64 k ∧ k ≤ n ∧ wr = w.drewN m ∧ (∀ j, j < k → hasP (bs[j]?.getD []) id = false)) (fun i _ => n - (intOf i).toNat)
  case atStart => exact ⟨0, 0, rfl, Nat.zero_le _, rfl, by intro j hj; omega⟩
  case round =>
    obtain ⟨k, m, rfl, hk, rfl, hall⟩ := hrel
    have Hall := qh hall
    clear hall
    by_cases hlt : k < n
    · obtain ⟨b, o, A', m', c', rfl, hb, hc1, hmc, hrd⟩ := H.out.at_ hlt
      have Hrd := qh hrd
      have hkl : Hid (k < bs.length) := by have := hl.out; show _ < _; omega
      clear hrd
      have k1 : (0 : Int) ≤ (k : Int) := by omega
      have k2 : (k : Int) < (n : Int) := by omega
      have ecall : (∀ q, Calls Tryz.prog 107 #[.slice A' m' c', .int .i64 (m' : Int), .int .i64 id] (w.drewN q) fun e w' => e = .returned (.bool (hasP (bs[k]?.getD []) id)) ∧ w.drewN q = w') := by
        intro q
        have := l2Has_any A' m' c' w.heap.size _ (m' : Int) id (w.drewN q) (Hrd.out.drewN q) (by omega) (by omega)
        rw [Int.toNat_natCast, List.take_of_length_le (by have := Hrd.out.len; omega)] at this
        exact this
      by_cases hh : hasP (bs[k]?.getD []) id = true
      · rw [hh] at ecall
        have Ecall := qh ecall
        clear ecall
        go_wp2
        go_quiet ((go_at_call 107; exact quiet_add_left (Ecall.out _)))
        go_wp2
        go_ret
        exact ⟨ret_int (whereP_some hkl.out hh Hall.out).symm, _, (World.drewN_drewN _ _ _).symm⟩
      · have hh : hasP (bs[k]?.getD []) id = false := by simpa using hh
        have Hh := qh hh
        rw [hh] at ecall
        have Ecall := qh ecall
        clear ecall hh
        go_wp2
        go_quiet ((go_at_call 107; exact quiet_add_left (Ecall.out _)))
        go_wp2
        go_roundw
        case rel => exact ⟨k + 1, _, by go_num, by omega, rfl, fun j hj => by
          by_cases e : j = k
          · rw [e]; exact Hh.out
          · exact Hall.out j (by omega)⟩
        case measure => simp [intOf]; omega
    · go_wp2
      go_ret
      exact ⟨ret_int (whereP_none (fun j hj => Hall.out j (by have := hl.out; omega))).symm, _, rfl⟩
end Go.Proofs.YtlcgbnmmbheleaaGreat
