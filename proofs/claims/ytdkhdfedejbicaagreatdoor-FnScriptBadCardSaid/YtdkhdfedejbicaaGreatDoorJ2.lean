/- Several texts in one. -/
import Derived.Test.YtdkhdfedejbicaaGreatDoorJ1
import Derived.Deep.DrawnRows
import Derived.MapKept
import Derived.Maps.OwnSet
import Derived.Maps.OwnOps
import Derived.Lib.AppendZeros
namespace Go.Proofs.YtdkhdfedejbicaaGreatDoor
open Go.RowKit

def idxP {α : Type} (p : α → Bool) (xs : List α) : Int := match xs.findIdx? p with | some i => i | none => -1
theorem idxP_none {α : Type} {p : α → Bool} {xs : List α} {d : α} (h : ∀ j, j < xs.length → p (xs[j]?.getD d) = false) : idxP p xs = -1 := by
  have : xs.findIdx? p = none := by
    rw [List.findIdx?_eq_none_iff]
    intro b hb
    obtain ⟨j, hj, rfl⟩ := List.getElem_of_mem hb
    have := h j hj
    rwa [List.getElem?_eq_getElem hj] at this
  rw [idxP, this]
theorem idxP_some {α : Type} {p : α → Bool} {xs : List α} {d : α} {k : Nat} (hk : k < xs.length) (hh : p (xs[k]?.getD d) = true) (h : ∀ j, j < k → p (xs[j]?.getD d) = false) : idxP p xs = k := by
  have : xs.findIdx? p = some k := by
    rw [List.findIdx?_eq_some_iff_getElem]
    refine ⟨hk, by rwa [List.getElem?_eq_getElem hk] at hh, fun j hj => ?_⟩
    have := h j hj
    rw [List.getElem?_eq_getElem (by omega)] at this
    simpa using this
  rw [idxP, this]
theorem idxP_ge {α : Type} (p : α → Bool) (xs : List α) : decide (0 ≤ idxP p xs) = xs.any p := by
  unfold idxP
  cases h : xs.findIdx? p with
  | none =>
    rw [List.findIdx?_eq_none_iff] at h
    simp only [Int.reduceNeg, show ¬ (0 : Int) ≤ -1 by omega, decide_false]
    symm
    rw [← Bool.not_eq_true, List.any_eq_true]
    rintro ⟨x, hx, hp⟩
    rw [h x hx] at hp; cases hp
  | some i =>
    rw [List.findIdx?_eq_some_iff_getElem] at h
    obtain ⟨hi, hp, _⟩ := h
    simp only [show (0 : Int) ≤ (i : Int) by omega, decide_true]
    symm
    rw [List.any_eq_true]
    exact ⟨_, List.getElem_mem hi, hp⟩

set_option maxHeartbeats 400000 in
theorem within_any (n lo hi : Int) (w : World) :
    Calls Tryz.prog 35 #[.int .i64 n, .int .i64 lo, .int .i64 hi] w fun e w' => e = .returned (.bool (inR lo hi n)) ∧ w = w' := by
  by_cases h1 : lo ≤ n
  · go_enter Tryz.func35, Tryz.ntmps35
    go_wp2
    go_ret
    simp [inR, h1]
  · have h2 : decide (lo ≤ n) = false := by simpa using h1
    go_enter Tryz.func35, Tryz.ntmps35
    go_wp2
    go_ret
    simp [inR]
    omega

set_option maxHeartbeats 400000 in
theorem idValid_any (n : Int) (w : World) :
    Calls Tryz.prog 97 #[.int .i64 n] w fun e w' => e = .returned (.bool (inR 1 40 n)) ∧ w = w' := by
  go_enter Tryz.func97, Tryz.ntmps97
  go_wp2_with (go_at_call 35; refine (within_any _ _ _ _).mono ?_; rintro e w' ⟨rfl, rfl⟩)
  go_ret
  exact ⟨rfl, rfl⟩

set_option maxHeartbeats 400000 in
theorem badNum_any (n : Int) (w : World) :
    Calls Tryz.prog 124 #[.int .i64 n] w fun e w' => e = .returned (.bool (!inR 0 20 n)) ∧ w = w' := by
  go_enter Tryz.func124, Tryz.ntmps124
  go_wp2_with (go_at_call 35; refine (within_any _ _ _ _).mono ?_; rintro e w' ⟨rfl, rfl⟩)
  go_ret
  exact ⟨rfl, rfl⟩

set_option maxHeartbeats 400000 in
theorem indexBad_any (A : Option Addr) (n c B : Nat) (xs : List Int) (w : World) (h : RdI w B A n xs) :
    Calls Tryz.prog 158 #[.slice A n c, .func (.func 124) #[] #[]] w fun e w' => e = .returned (.int .i64 (idxP (fun x => !inR 0 20 x) xs)) ∧ w = w' := by
  have hn := h.le
  have hl := qh h.len
  have H := qh h
  clear h
  go_enter Tryz.func158, Tryz.ntmps158
  go_wp2
  go_loop [8] (fun i => ∃ k : Nat, i = .int .i64 k ∧ k ≤ n ∧ (∀ j, j < k → inR 0 20 (xs[j]?.getD 0) = true)) (fun i => n - (intOf i).toNat)
  case atStart => exact ⟨0, rfl, Nat.zero_le _, by intro j hj; omega⟩
  case round =>
    obtain ⟨k, rfl, hk, hall⟩ := hrel
    have Hall := qh hall
    clear hall
    by_cases hlt : k < n
    · obtain ⟨b, o, rfl, hb, hc⟩ := H.out.at_ hlt
      by_cases hin : inR 0 20 (xs[k]?.getD 0) = true
      · have Hin := qh hin
        go_wp2_with (go_at_call 124; refine (badNum_any _ _).mono ?_; rintro e w' ⟨rfl, rfl⟩)
        go_round
        case rel => exact ⟨k + 1, by go_num, by omega, fun j hj => by
          by_cases e : j = k
          · rw [e]; exact Hin.out
          · exact Hall.out j (by omega)⟩
        case measure => simp [intOf]; omega
      · have hin : inR 0 20 (xs[k]?.getD 0) = false := by simpa using hin
        have Hin := qh hin
        go_wp2_with (go_at_call 124; refine (badNum_any _ _).mono ?_; rintro e w' ⟨rfl, rfl⟩)
        go_ret
        exact ⟨ret_int (idxP_some (d := 0) (by rw [hl.out]; exact hlt) (by simp [Hin.out]) (fun j hj => by simp [Hall.out j hj])).symm, rfl⟩
    · go_wp2
      go_ret
      exact ⟨ret_int (idxP_none (d := 0) (fun j hj => by simp [Hall.out j (by have := hl.out; omega)])).symm, rfl⟩

set_option maxHeartbeats 400000 in
theorem containsBad_any (A : Option Addr) (n c B : Nat) (xs : List Int) (w : World) (h : RdI w B A n xs) :
    Calls Tryz.prog 123 #[.slice A n c, .func (.func 124) #[] #[]] w fun e w' => e = .returned (.bool (xs.any (fun x => !inR 0 20 x))) ∧ w = w' := by
  have H := qh h
  clear h
  go_enter Tryz.func123, Tryz.ntmps123
  go_wp2_with (go_at_call 158; refine (indexBad_any _ _ _ _ _ _ H.out).mono ?_; rintro e w' ⟨rfl, rfl⟩)
  go_ret
  exact ⟨ret_bool (idxP_ge _ _), rfl⟩

set_option maxHeartbeats 400000 in
theorem valid_any (A : Option Addr) (n c B : Nat) (xs : List Int) (w : World) (h : RdI w B A n xs) :
    Calls Tryz.prog 89 #[.slice A n c] w fun e w' => e = .returned (.bool (vecOk xs)) ∧ w = w' := by
  have hl := qh h.len
  have H := qh h
  clear h
  by_cases h3 : n = 3
  · subst h3
    go_enter Tryz.func89, Tryz.ntmps89
    go_wp2_with (go_at_call 123; refine (containsBad_any _ _ _ _ _ _ H.out).mono ?_; rintro e w' ⟨rfl, rfl⟩)
    go_ret
    refine ⟨ret_bool ?_, rfl⟩
    rw [vecOk, hl.out]
    simp [List.any_eq_not_all_not]
  · have e3 : ((n : Int) == 3) = false := by simp; omega
    go_enter Tryz.func89, Tryz.ntmps89
    go_wp2
    go_ret
    refine ⟨ret_bool ?_, rfl⟩
    symm
    rw [vecOk, hl.out]
    simp [h3]

set_option maxHeartbeats 400000 in
theorem vecValidI_any (A : Option Addr) (n c B : Nat) (xs : List Int) (w : World) (h : RdI w B A n xs) :
    Calls Tryz.prog 58 #[.slice A n c] w fun e w' => e = .returned (.bool (vecOk xs)) ∧ w = w' := by
  have H := qh h
  clear h
  go_enter Tryz.func58, Tryz.ntmps58
  go_wp2_with (go_at_call 89; refine (valid_any _ _ _ _ _ _ H.out).mono ?_; rintro e w' ⟨rfl, rfl⟩)
  go_ret
  exact ⟨rfl, rfl⟩

set_option maxHeartbeats 400000 in
theorem bothValid_any (A1 A2 : Option Addr) (n1 c1 n2 c2 B1 B2 : Nat) (xs ys : List Int) (w : World) (h1 : RdI w B1 A1 n1 xs) (h2 : RdI w B2 A2 n2 ys) :
    Calls Tryz.prog 177 #[.slice A1 n1 c1, .slice A2 n2 c2] w fun e w' => e = .returned (.bool (vecOk xs && vecOk ys)) ∧ w = w' := by
  have H1 := qh h1
  have H2 := qh h2
  clear h1 h2
  by_cases hx : vecOk xs = true
  · go_enter Tryz.func177, Tryz.ntmps177
    go_wp2_with fail
    refine (vecValidI_any _ _ _ _ _ _ H1.out).mono ?_; rintro e w1 ⟨rfl, rfl⟩
    go_wp2_with fail
    refine (vecValidI_any _ _ _ _ _ _ H2.out).mono ?_; rintro e w1 ⟨rfl, rfl⟩
    go_wp2
    go_ret
    exact ⟨ret_bool (by simp [hx]), rfl⟩
  · have hx : vecOk xs = false := by simpa using hx
    go_enter Tryz.func177, Tryz.ntmps177
    go_wp2_with fail
    refine (vecValidI_any _ _ _ _ _ _ H1.out).mono ?_; rintro e w1 ⟨rfl, rfl⟩
    go_wp2
    go_ret
    exact ⟨ret_bool (by simp [hx]), rfl⟩

set_option maxHeartbeats 400000 in
theorem fits_any (A1 A2 : Option Addr) (c1 n2 c2 B1 B2 : Nat) (xs ys : List Int) (w : World) (h1 : RdI w B1 A1 3 xs) (h2 : RdI w B2 A2 n2 ys) (hn2 : 3 ≤ n2) :
    Calls Tryz.prog 108 #[.slice A1 3 c1, .slice A2 n2 c2] w fun e w' => e = .returned (.bool (fits3 xs ys)) ∧ w = w' := by
  have H1 := qh h1
  have H2 := qh h2
  clear h1 h2
  go_enter Tryz.func108, Tryz.ntmps108
  go_wp2
  go_loop [9] (fun i => ∃ k : Nat, i = .int .i64 k ∧ k ≤ 3 ∧ (∀ j, j < k → xs[j]?.getD 0 ≤ ys[j]?.getD 0)) (fun i => 3 - (intOf i).toNat)
  case atStart => exact ⟨0, rfl, Nat.zero_le _, by intro j hj; omega⟩
  case round =>
    obtain ⟨k, rfl, hk, hall⟩ := hrel
    have Hall := qh hall
    clear hall
    by_cases hlt : k < 3
    · obtain ⟨b1, o1, rfl, hb1, hc1⟩ := H1.out.at_ hlt
      have hk2 : k < n2 := by omega
      obtain ⟨b2, o2, rfl, hb2, hc2⟩ := H2.out.at_ hk2
      by_cases hle : ys[k]?.getD 0 < xs[k]?.getD 0
      · go_wp2
        go_ret
        exact ⟨ret_bool (fits3_no hlt hle).symm, rfl⟩
      · go_wp2
        go_round
        case rel => exact ⟨k + 1, by go_num, by omega, fun j hj => by
          by_cases e : j = k
          · rw [e]; omega
          · exact Hall.out j (by omega)⟩
        case measure => simp [intOf]; omega
    · go_wp2
      go_ret
      exact ⟨ret_bool (fits3_iff.2 (fun j hj => Hall.out j (by omega))).symm, rfl⟩

set_option maxHeartbeats 400000 in
theorem vecFitsI_any (A1 A2 : Option Addr) (n1 c1 n2 c2 B1 B2 : Nat) (xs ys : List Int) (w : World) (h1 : RdI w B1 A1 n1 xs) (h2 : RdI w B2 A2 n2 ys) :
    Calls Tryz.prog 141 #[.slice A1 n1 c1, .slice A2 n2 c2] w fun e w' => e = .returned (.bool (vecFits xs ys)) ∧ w = w' := by
  have H1 := qh h1
  have H2 := qh h2
  clear h1 h2
  have hbv := bothValid_any A1 A2 n1 c1 n2 c2 B1 B2 xs ys w H1.out H2.out
  by_cases hx : (vecOk xs && vecOk ys) = true
  · rw [hx] at hbv
    have Hbv := qh hbv
    have Hx := qh hx
    simp only [Bool.and_eq_true] at hx
    have l1 : n1 = 3 := by have := H1.out.len; have := vecOk_len hx.1; omega
    have l2 : 3 ≤ n2 := by have := H2.out.len; have := vecOk_len hx.2; omega
    subst l1
    clear hx hbv
    go_enter Tryz.func141, Tryz.ntmps141
    go_wp2_with fail
    refine Hbv.out.mono ?_; rintro e w1 ⟨rfl, rfl⟩
    go_wp2_with fail
    refine (fits_any _ _ _ _ _ _ _ _ _ _ H1.out H2.out l2).mono ?_; rintro e w1 ⟨rfl, rfl⟩
    go_wp2
    go_ret
    exact ⟨ret_bool (by simp [vecFits, Hx.out]), rfl⟩
  · have hx : (vecOk xs && vecOk ys) = false := by simpa using hx
    rw [hx] at hbv
    have Hbv := qh hbv
    have Hx := qh hx
    clear hx hbv
    go_enter Tryz.func141, Tryz.ntmps141
    go_wp2_with fail
    refine Hbv.out.mono ?_; rintro e w1 ⟨rfl, rfl⟩
    go_wp2
    go_ret
    exact ⟨ret_bool (by simp [vecFits, Hx.out]), rfl⟩

set_option maxHeartbeats 400000 in
theorem min3_any (A : Option Addr) (c B : Nat) (xs : List Int) (w : World) (h : RdI w B A 3 xs) :
    Calls Tryz.prog 59 #[.slice A 3 c] w fun e w' => ∃ r : Int, e = .returned (.int .i64 r) ∧ (1 ≤ r ↔ ∀ j, j < 3 → 1 ≤ xs[j]?.getD 0) ∧ w = w' := by
  have H := qh h
  clear h
  obtain ⟨b, o, rfl, hb, hc⟩ := H.out.at_ (show 0 < 3 by omega)
  rw [Nat.add_zero] at hc
  go_enter Tryz.func59, Tryz.ntmps59
  go_wp2
  clear hc
  go_loop [3, 4] (fun m i => ∃ (k : Nat) (r : Int), i = .int .i64 k ∧ 1 ≤ k ∧ k ≤ 3 ∧ m = .int .i64 r ∧ (1 ≤ r ↔ ∀ j, j < k → 1 ≤ xs[j]?.getD 0)) (fun _ i => 3 - (intOf i).toNat)
  case atStart =>
    refine ⟨1, xs[0]?.getD 0, rfl, by omega, by omega, rfl, ?_⟩
    constructor
    · intro h j hj
      obtain rfl : j = 0 := by omega
      exact h
    · intro h
      exact h 0 (by omega)
  case round =>
    obtain ⟨k, r, rfl, hk1, hk, rfl, hr⟩ := hrel
    have Hr := qh hr
    clear hr
    by_cases hlt : k < 3
    · obtain ⟨b', o', e', hb', hc⟩ := H.out.at_ hlt
      injection e' with e'
      injection e' with e1 e2
      subst e1 e2
      go_wp2
      go_round
      case rel =>
        refine ⟨k + 1, min r (xs[k]?.getD 0), by go_num, by omega, by omega, by congr 1; split <;> omega, ?_⟩
        constructor
        · intro h j hj
          by_cases e : j = k
          · rw [e]; omega
          · exact Hr.out.1 (by omega) j (by omega)
        · intro h
          have h1 := Hr.out.2 (fun j hj => h j (by omega))
          have h2 := h k (by omega)
          omega
      case measure => simp [intOf]; omega
    · have ek : k = 3 := by omega
      subst ek
      go_wp2
      go_ret
      exact ⟨_, rfl, Hr.out, rfl⟩

set_option maxHeartbeats 400000 in
theorem roomValid_any (A : Option Addr) (n c B : Nat) (xs : List Int) (w : World) (h : RdI w B A n xs) :
    Calls Tryz.prog 34 #[.slice A n c] w fun e w' => e = .returned (.bool (roomOk xs)) ∧ w = w' := by
  have hl := qh h.len
  have H := qh h
  clear h
  have hv := vecValidI_any A n c B xs w H.out
  by_cases hx : vecOk xs = true
  · rw [hx] at hv
    have Hv := qh hv
    have Hx := qh hx
    have l1 : n = 3 := by have := H.out.len; have := vecOk_len hx; omega
    subst l1
    clear hx hv
    go_enter Tryz.func34, Tryz.ntmps34
    go_wp2_with fail
    refine Hv.out.mono ?_; rintro e w1 ⟨rfl, rfl⟩
    go_wp2_with fail
    refine (min3_any _ _ _ _ _ H.out).mono ?_; rintro e w1 ⟨r, rfl, hr, rfl⟩
    have Hr := qh hr
    clear hr
    go_wp2
    go_ret
    refine ⟨ret_bool ?_, rfl⟩
    rw [roomOk, Hx.out, Bool.true_and, Bool.eq_iff_iff, decide_eq_true_iff, Hr.out, all_iff_getD, hl.out]
    simp
  · have hx : vecOk xs = false := by simpa using hx
    rw [hx] at hv
    have Hv := qh hv
    have Hx := qh hx
    clear hx hv
    go_enter Tryz.func34, Tryz.ntmps34
    go_wp2_with fail
    refine Hv.out.mono ?_; rintro e w1 ⟨rfl, rfl⟩
    go_wp2
    go_ret
    exact ⟨ret_bool (by simp [roomOk, Hx.out]), rfl⟩

theorem fill_set {α : Type} (ys : List α) (z : α) {k : Nat} (h : k < ys.length) : (ys.take k ++ List.replicate (ys.length - k) z).set k ys[k] = ys.take (k + 1) ++ List.replicate (ys.length - (k + 1)) z := by
  have e : (ys.take k).length = k := by simp; omega
  rw [List.set_append_right _ _ (by omega), e, Nat.sub_self, show ys.length - k = (ys.length - (k + 1)) + 1 from by omega, List.replicate_succ, pZ, List.take_succ_eq_append_getElem h, List.append_assoc]
  rfl

def fill3 (xs ys : List Int) (k : Nat) : List Int := (add3 xs ys).take k ++ List.replicate (3 - k) 0
theorem fill3_set (xs ys : List Int) {k : Nat} (h : k < 3) : (fill3 xs ys k).set k (xs[k]?.getD 0 + ys[k]?.getD 0) = fill3 xs ys (k + 1) := by
  have := fill_set (add3 xs ys) 0 (k := k) (by simp; omega)
  have e := add3_at (a := xs) (b := ys) h
  rw [List.getElem?_eq_getElem (by simp; omega)] at e
  simp only [Option.getD_some] at e
  rw [e] at this
  exact this
theorem fill3_len (xs ys : List Int) {k : Nat} (h : k ≤ 3) : (fill3 xs ys k).length = 3 := by simp [fill3]; omega

theorem fill3_all (xs ys : List Int) : fill3 xs ys 3 = add3 xs ys := rfl

theorem RdI.of_blk {w : World} {g : Nat} {t : TypeId} {xs : List Int} {n : Nat} (h : Blk w g t (xs.map (Value.int .i64)).toArray) (hl : xs.length = n) (hn : n ≤ 9223372036854775807) : RdI w w.heap.size (some ⟨g, 0, none⟩) n xs := by
  refine ⟨hl, hn, fun hp => ⟨g, 0, rfl, h.lt, fun j hj => ?_⟩⟩
  rw [Nat.zero_add, h.cell]
  simp [List.getElem?_eq_getElem (show j < xs.length by omega)]

set_option maxHeartbeats 400000 in
theorem zeros_any (w : World) :
    Calls Tryz.prog 143 #[] w fun e w' => e = .returned (.slice (some ⟨w.heap.size, 0, none⟩) 3 3) ∧ w.alloc (.cells #[.int .i64 0, .int .i64 0, .int .i64 0] 3) = w' := by
  have hmk : ∀ w, (Instr.makeSlice 98 (.int .i64 3) (.int .i64 3)).run Tryz.prog w = .ok (.slice (some ⟨w.heap.size, 0, none⟩) 3 3) (w.alloc (.cells #[.int .i64 0, .int .i64 0, .int .i64 0] 3)) := fun _ => by kernel_rfl
  go_enter Tryz.func143, Tryz.ntmps143
  go_wp2
  go_ret
  exact ⟨rfl, rfl⟩

set_option maxRecDepth 100000 in
set_option maxHeartbeats 800000 in
theorem plus_any (A1 A2 : Option Addr) (n1 c1 n2 c2 : Nat) (xs ys : List Int) (w : World) (h1 : RdI w w.heap.size A1 n1 xs) (h2 : RdI w w.heap.size A2 n2 ys) (hn1 : 3 ≤ n1) (hn2 : 3 ≤ n2)
    (hb1 : ∀ j, j < 3 → -1000000 ≤ xs[j]?.getD 0 ∧ xs[j]?.getD 0 ≤ 1000000) (hb2 : ∀ j, j < 3 → -1000000 ≤ ys[j]?.getD 0 ∧ ys[j]?.getD 0 ≤ 1000000) :
    Calls Tryz.prog 144 #[.slice A1 n1 c1, .slice A2 n2 c2] w fun e w' => ∃ A c, e = .returned (.slice A 3 c) ∧ RdI w' w'.heap.size A 3 (add3 xs ys) ∧ Below w.heap.size w w' := by
  have Hb1 := qh hb1
  have Hb2 := qh hb2
  have H1 := qh h1
  have H2 := qh h2
  clear hb1 hb2 h1 h2
  have hmk : ∀ w, (Instr.makeSlice 98 (.int .i64 3) (.int .i64 3)).run Tryz.prog w = .ok (.slice (some ⟨w.heap.size, 0, none⟩) 3 3) (w.alloc (.cells #[.int .i64 0, .int .i64 0, .int .i64 0] 3)) := fun _ => by kernel_rfl
  go_enter Tryz.func144, Tryz.ntmps144
  go_wp2
  clear hmk
  go_loopw [10] (fun i wr => ∃ k : Nat, i = .int .i64 k ∧ k ≤ 3 ∧ Below w.heap.size w wr ∧ Blk wr w.heap.size 3 ((fill3 xs ys k).map (Value.int .i64)).toArray) (fun i _ => 3 - (intOf i).toNat)
  case atStart => exact ⟨0, rfl, Nat.zero_le _, (Below.refl _ _).alloc (Nat.le_refl _) _, Blk.new w _ _⟩
  case round =>
    obtain ⟨k, rfl, hk, hbel, hblk⟩ := hrel
    have Hblk := qh hblk
    clear hblk
    by_cases hlt : k < 3
    · obtain ⟨b1, o1, rfl, lb1, hc1⟩ := (H1.out.below hbel).at_ (show k < n1 by omega)
      obtain ⟨b2, o2, rfl, lb2, hc2⟩ := (H2.out.below hbel).at_ (show k < n2 by omega)
      have lz := hbel.size
      obtain ⟨p1, p2⟩ := Hb1.out k hlt
      obtain ⟨p3, p4⟩ := Hb2.out k hlt
      have k1 : (0 : Int) ≤ (k : Int) := by omega
      have k2 : (k : Int) < (n1 : Int) := by omega
      have k3 : (k : Int) < (n2 : Int) := by omega
      have k4 : (k : Int) < 3 := by omega
      have hcz : wr.cell? ⟨w.heap.size, k, none⟩ = some (.int .i64 ((fill3 xs ys k)[k]?.getD 0)) := by
        rw [Hblk.out.cell]
        simp [List.getElem?_eq_getElem (show k < (fill3 xs ys k).length by rw [fill3_len _ _ hk]; exact hlt)]
      have hfz : wr.frozen? ⟨w.heap.size, k, none⟩ = false := Hblk.out.frozen _
      generalize (fill3 xs ys k)[k]?.getD 0 = old at hcz
      go_wp2
      go_region
      go_wp2
      go_roundw
      case rel =>
        refine ⟨k + 1, by go_num, by omega, (hbel.setCell (p := ⟨w.heap.size, k, none⟩) (Nat.le_refl _) _).drew, ?_⟩
        have := (Hblk.out.set_ k (.int .i64 (xs[k]?.getD 0 + ys[k]?.getD 0))).drew
        rw [ints_set, fill3_set _ _ hlt] at this
        exact this
      case measure => simp [intOf]; omega
    · have ek : k = 3 := by omega
      subst ek
      go_wp2
      go_ret
      refine ⟨_, _, rfl, RdI.of_blk (by have := Hblk.out; rw [fill3_all] at this; exact this) rfl (by omega), hbel⟩

set_option maxRecDepth 100000 in
set_option maxHeartbeats 800000 in
theorem loadOf_any (A : Option Addr) (n c : Nat) (ts : List Tk) (w : World) (h : RdT w w.heap.size A n ts) (hn : n ≤ 900) (h3 : ∀ j, j < n → (ts[j]?.getD (0, [])).2.length = 3)
    (hb : ∀ j i : Nat, 0 ≤ (ts[j]?.getD (0, [])).2[i]?.getD 0 ∧ (ts[j]?.getD (0, [])).2[i]?.getD 0 ≤ 1000) :
    Calls Tryz.prog 107 #[.slice A n c] w fun e w' => ∃ A c, e = .returned (.slice A 3 c) ∧ RdI w' w'.heap.size A 3 (loadP ts) ∧ Below w.heap.size w w' := by
  have Hb := qh hb
  have H3 := qh h3
  have hl := qh h.len
  have H := qh h
  clear hb h3 h
  go_enter Tryz.func107, Tryz.ntmps107
  go_wp2_with (go_at_call 143; refine (zeros_any _).mono ?_; rintro e w1 ⟨rfl, rfl⟩)
  go_loopw [3, 9] (fun v i wr => ∃ k : Nat, i = .int .i64 k ∧ k ≤ n ∧ Below w.heap.size w wr ∧ ∃ A c, v = .slice A 3 c ∧ RdI wr wr.heap.size A 3 (loadP (ts.take k))) (fun _ i _ => n - (intOf i).toNat)
  case atStart => exact ⟨0, rfl, Nat.zero_le _, (Below.refl _ _).alloc (Nat.le_refl _) _, _, _, rfl, RdI.of_blk (xs := [0, 0, 0]) (Blk.new w _ _) rfl (by omega)⟩
  case round =>
    obtain ⟨k, rfl, hk, hbel, A', c', rfl, hr⟩ := hrel
    have Hr := qh hr
    clear hr
    by_cases hlt : k < n
    · obtain ⟨b1, o1, A2, m2, c2, rfl, lb1, hc1, hc2, _, hr2⟩ := (H.out.below hbel).at_ hlt
      have lz := hbel.size
      have em : m2 = 3 := by rw [← hr2.len]; exact H3.out k hlt
      have Hr2 := qh (hr2.more lz)
      clear hr2
      subst em
      have hal : ∀ o : Obj, Below wr.heap.size wr (wr.alloc o) := fun o => (Below.refl _ _).alloc (Nat.le_refl _) _
      have Hal := qh hal
      clear hal
      go_wp2_with fail
      refine (plus_any _ _ _ _ _ _ _ _ _ (Hr.out.up (Hal.out _)) (Hr2.out.up (Hal.out _)) (by omega) (by omega) (fun j hj => ?_) (fun j hj => ?_)).mono ?_
      · have := loadP_bd Hb.out (k := k) (by have := hl.out; omega) j hj; omega
      · have := Hb.out k j; omega
      rintro e w1 ⟨A3, c3, rfl, hr3, hb3⟩
      have Hr3 := qh hr3
      clear hr3
      go_wp2
      go_roundw
      case rel => exact ⟨k + 1, by go_num, by omega, (hbel.alloc lz _).trans (hb3.mono (by simp; omega)), _, _, rfl, by rw [loadP_take_succ (by have := hl.out; omega)]; exact Hr3.out⟩
      case measure => simp [intOf]; omega
    · have ek : k = n := by omega
      have Ek := qh ek
      clear ek
      go_wp2
      go_ret
      exact ⟨_, _, rfl, by have h1 := Hr.out; rw [Ek.out, List.take_of_length_le (by have := hl.out; omega)] at h1; exact h1, hbel⟩
end Go.Proofs.YtdkhdfedejbicaaGreatDoor

namespace Go.Proofs.YtdkhdfedejbicaaGreatDoor
open Go.RowKit

section
variable {w w' : World} {lo lo' g k : Nat} {xs : List Int} {ts : List Tk} {bs : List (List Tk)} {vs : List Value}

end

end Go.Proofs.YtdkhdfedejbicaaGreatDoor

namespace Go.Proofs.YtdkhdfedejbicaaGreatDoor
open Go.RowKit

end Go.Proofs.YtdkhdfedejbicaaGreatDoor

namespace Go.Proofs.YtdkhdfedejbicaaGreatDoor
open Go.RowKit

end Go.Proofs.YtdkhdfedejbicaaGreatDoor

namespace Go.Proofs.YtdkhdfedejbicaaGreatDoor
open Go.RowKit
attribute [local go_sem ↓] Go.wp_at_zero Go.wp_at_succ





end Go.Proofs.YtdkhdfedejbicaaGreatDoor

namespace Go.Proofs.YtdkhdfedejbicaaGreatDoor
open Go.RowKit Go.MapKept

def IMap (w : World) (b : Nat) (l : List (Int × Value)) : Prop :=
  ∃ es clock, w.heap[b]? = some (.map es clock) ∧ es.toList.map (fun e => (e.key, e.val)) = l.map (fun p => (Value.int .i64 p.1, p.2))
def lookL (l : List (Int × Value)) (q : Int) : Option Value := (l.find? (fun p => p.1 == q)).map (·.2)

theorem lookL_none {l : List (Int × Value)} {q : Int} (h : ∀ p ∈ l, p.1 ≠ q) : lookL l q = none := by
  unfold lookL
  have : l.find? (fun p => p.1 == q) = none := by
    rw [List.find?_eq_none]
    intro p hp
    simpa using h p hp
  rw [this]; rfl
theorem lookL_some {l : List (Int × Value)} {q : Int} (h : ∃ p ∈ l, p.1 = q) : ∃ p ∈ l, p.1 = q ∧ lookL l q = some p.2 := by
  unfold lookL
  cases hf : l.find? (fun p => p.1 == q) with
  | none =>
    rw [List.find?_eq_none] at hf
    obtain ⟨p, hp, he⟩ := h
    have := hf p hp
    simp [he] at this
  | some p =>
    exact ⟨p, List.mem_of_find?_eq_some hf, by have := List.find?_some hf; simpa using this, rfl⟩

theorem findNow_int (q : Int) : ∀ (es : List MapEntry) (l : List (Int × Value)) (i : Nat), es.map (fun e => (e.key, e.val)) = l.map (fun p => (Value.int .i64 p.1, p.2)) →
    ∃ r, Instr.findNow (.int .i64) (.int .i64 q) es i = some r ∧ r.map (·.2) = lookL l q
  | [], [], i, _ => ⟨none, rfl, rfl⟩
  | [], _ :: _, _, h => by cases h
  | _ :: _, [], _, h => by cases h
  | e :: es, p :: l, i, h => by
    simp only [List.map_cons, List.cons.injEq, Prod.mk.injEq] at h
    obtain ⟨⟨h1, h2⟩, h3⟩ := h
    by_cases hq : p.1 = q
    · refine ⟨some (i, e.val), ?_, ?_⟩
      · simp [Instr.findNow, Instr.sameNow, h1, hq]
      · simp [lookL, hq, h2]
    · obtain ⟨r, hr, hl⟩ := findNow_int q es l (i + 1) h3
      refine ⟨r, ?_, ?_⟩
      · have : (q == p.1) = false := by simp; exact fun e => hq e.symm
        simp [Instr.findNow, Instr.sameNow, h1, this, hr]
      · rw [hl]
        have : (p.1 == q) = false := by simp [hq]
        simp [lookL, this]

section
variable {P : Program} {w w' : World} {b : Nat} {l : List (Int × Value)}
theorem IMap.made (w : World) : IMap (w.alloc (.map #[] 0)) w.heap.size [] := ⟨#[], 0, heap_alloc_new w _, rfl⟩
theorem IMap.lt (h : IMap w b l) : b < w.heap.size := by obtain ⟨es, clock, hb, _⟩ := h; exact (Array.getElem?_eq_some_iff.1 hb).1
theorem IMap.of_block (h : IMap w b l) (hb : w'.heap[b]? = w.heap[b]?) : IMap w' b l := by obtain ⟨es, clock, h1, h2⟩ := h; exact ⟨es, clock, hb.trans h1, h2⟩
theorem IMap.alloc (h : IMap w b l) (o : Obj) : IMap (w.alloc o) b l := h.of_block (Below.heap_alloc w o b h.lt)
theorem IMap.drewN (h : IMap w b l) (n : Nat) : IMap (w.drewN n) b l := h
theorem IMap.below {B : Nat} (h : IMap w b l) (hb : Below B w w') (hB : b < B) : IMap w' b l := h.of_block (hb.block b hB)
theorem IMap.setCell (h : IMap w b l) {p : Addr} (hp : b ≠ p.block) (u : Value) : IMap (w.setCell p u) b l := h.of_block (Below.heap_setCell w p u b hp)

theorem IMap.look (h : IMap w b l) {t k e : TypeId} (ht : P.underlying t = some (.map k e)) (hk : P.underlying k = some (.int .i64)) {z : Value} (hz : (zeroValue e).run P w = .ok z w) (q : Int) (c : Bool) :
    (Instr.lookup t (.map (some b)) (.int .i64 q) c).run P w = .ok (if c then .tuple #[(lookL l q).getD z, .bool (lookL l q).isSome] else (lookL l q).getD z) w := by
  obtain ⟨es, clock, hb, hm⟩ := h
  obtain ⟨r, hr, hl⟩ := findNow_int q es.toList l 0 hm
  have hck : (Instr.checkKey es.isEmpty 10000 k (.int .i64 q)).run P w = .ok () w := run_checkKey hk (by simp [IsKey]) _ _
  have hfk : (Instr.findKey k (.int .i64 q) es.toList).run P w = .ok r w := run_findKey hk hr
  have hgo : (getObj b).run P w = .ok (.map es clock) w := by simp [getObj, Sem.run, hb]
  rw [← hl]
  cases r with
  | none =>
    cases c <;> simp [Instr.lookup, run_underlying ht, Result.andThen, hgo, hck, hfk, hz]
  | some r =>
    obtain ⟨i, v⟩ := r
    cases c <;> simp [Instr.lookup, run_underlying ht, Result.andThen, hgo, hck, hfk]

theorem IMap.put (h : IMap w b l) {t k e : TypeId} (ht : P.underlying t = some (.map k e)) (hk : P.underlying k = some (.int .i64)) (q : Int) (v : Value) (hn : lookL l q = none) :
    ∃ w', (Instr.mapUpdate t (.map (some b)) (.int .i64 q) v).run P w = .ok () w' ∧ IMap w' b (l ++ [(q, v)]) ∧ w.grownBy w' (some b) := by
  obtain ⟨es, clock, hb, hm⟩ := h
  obtain ⟨r, hr, hl⟩ := findNow_int q es.toList l 0 hm
  rw [hn] at hl
  have hck : (Instr.checkKey false 10000 k (.int .i64 q)).run P w = .ok () w := run_checkKey hk (by simp [IsKey]) _ _
  have hfk : (Instr.findKey k (.int .i64 q) es.toList).run P w = .ok r w := run_findKey hk hr
  have hgo : (getObj b).run P w = .ok (.map es clock) w := by simp [getObj, Sem.run, hb]
  cases r with
  | some r => cases hl
  | none =>
    refine ⟨{ w with heap := w.heap.setIfInBounds b (.map (es.push { key := .int .i64 q, val := v, born := clock }) (clock + 1)) }, ?_, ⟨_, _, (heap_set hb).1, ?_⟩, ⟨rfl, rfl, rfl, by simp, fun i _ hi => (heap_set hb).2 i (fun e => hi (by rw [e]))⟩⟩
    · simp [Instr.mapUpdate, run_underlying ht, Result.andThen, hgo, hck, hfk, run_setObj_map _ hb]
    · simp [hm]
end

section
variable {P : Program} {w : World} {ops : Array Oper} {rest : List Oper} {o : Oper} {a : Act} {Q : Exit → Act → World → Prop}
theorem wpList_look_ok (hg : o.guard = none) (m x : Operand) (t : TypeId) (hop : o.op = Op.lookup t m x true) (k e : TypeId) (ht : P.underlying t = some (.map k e)) (hk : P.underlying k = some (.int .i64))
    (z : Value) (hz : (zeroValue e).run P w = .ok z w) (b : Nat) (l : List (Int × Value)) (hm : a.eval m = .map (some b)) (him : IMap w b l) (q : Int) (hx : a.eval x = .int .i64 q) (v : Value) (y : Bool)
    (hv : (lookL l q).getD z = v) (hy : (lookL l q).isSome = y) (h : wpList P ops Q rest (a.put o.dst (.tuple #[v, .bool y])) w) : wpList P ops Q (o :: rest) a w := by
  refine wpList_plain hg fun K' hK' => ?_
  have hrun := him.look (P := P) ht hk hz q true
  unfold Oper.wp
  simp [execOp, hop, hm, hx, hrun, Result.andThen, hv, hy]
  exact hK' _ _ h
theorem wpList_look (hg : o.guard = none) (m x : Operand) (t : TypeId) (hop : o.op = Op.lookup t m x false) (k e : TypeId) (ht : P.underlying t = some (.map k e)) (hk : P.underlying k = some (.int .i64))
    (z : Value) (hz : (zeroValue e).run P w = .ok z w) (b : Nat) (l : List (Int × Value)) (hm : a.eval m = .map (some b)) (him : IMap w b l) (q : Int) (hx : a.eval x = .int .i64 q) (v : Value)
    (hv : (lookL l q).getD z = v) (h : wpList P ops Q rest (a.put o.dst v) w) : wpList P ops Q (o :: rest) a w := by
  refine wpList_plain hg fun K' hK' => ?_
  have hrun := him.look (P := P) ht hk hz q false
  unfold Oper.wp
  simp [execOp, hop, hm, hx, hrun, Result.andThen, hv]
  exact hK' _ _ h
theorem wpList_put (hg : o.guard = none) (m x u : Operand) (t : TypeId) (hop : o.op = Op.mapUpdate t m x u) (k e : TypeId) (ht : P.underlying t = some (.map k e)) (hk : P.underlying k = some (.int .i64))
    (b : Nat) (l : List (Int × Value)) (hm : a.eval m = .map (some b)) (him : IMap w b l) (q : Int) (v : Value) (hx : a.eval x = .int .i64 q) (hv : a.eval u = v) (hn : lookL l q = none)
    (h : ∀ w', IMap w' b (l ++ [(q, v)]) → w.grownBy w' (some b) → wpList P ops Q rest (a.put o.dst undef) w') : wpList P ops Q (o :: rest) a w := by
  refine wpList_plain hg fun K' hK' => ?_
  obtain ⟨w', hrun, r1, r2⟩ := him.put (P := P) ht hk q v hn
  unfold Oper.wp
  simp [execOp, hop, hm, hx, hv, hrun, Result.andThen]
  exact hK' _ _ (h w' r1 r2)
end
end Go.Proofs.YtdkhdfedejbicaaGreatDoor

namespace Go.Proofs.YtdkhdfedejbicaaGreatDoor
open Go.RowKit

theorem zeroTask (w : World) : (zeroValue 75).run Tryz.prog w = .ok (.agg #[.int .i64 0, .slice none 0 0]) w := by kernel_rfl

theorem hasP_map {ts : List Tk} {id : Int} : hasP ts id = true ↔ id ∈ ts.map (·.1) := by
  simp only [hasP, List.any_eq_true, beq_iff_eq, List.mem_map]
theorem look_of_has {l : List (Int × Value)} {ts : List Tk} {id : Int} (hm : l.map (·.1) = ts.map (·.1)) (h : hasP ts id = true) : ∃ p ∈ l, p.1 = id ∧ lookL l id = some p.2 := by
  rw [hasP_map, ← hm, List.mem_map] at h
  exact lookL_some h
theorem look_of_not {l : List (Int × Value)} {ts : List Tk} {id : Int} (hm : l.map (·.1) = ts.map (·.1)) (h : hasP ts id = false) : lookL l id = none := by
  refine lookL_none (fun p hp he => ?_)
  have : hasP ts id = true := by rw [hasP_map, ← hm]; exact List.mem_map.2 ⟨p, hp, he⟩
  rw [h] at this; cases this

def IsTaskV (v : Value) : Prop := ∃ i A m c, v = .agg #[.int .i64 i, .slice A m c]

set_option maxRecDepth 100000 in
set_option maxHeartbeats 1600000 in
theorem tasksValidI_any (A1 A2 : Option Addr) (n1 c1 n2 c2 : Nat) (room : List Int) (ts : List Tk) (w : World) (h1 : RdI w w.heap.size A1 n1 room) (h2 : RdT w w.heap.size A2 n2 ts) :
    Calls Tryz.prog 105 #[.slice A1 n1 c1, .slice A2 n2 c2] w fun e w' => e = .returned (.bool (tasksOk room ts)) ∧ Below w.heap.size w w' := by
  have hl := qh h2.len
  have hn := h2.le
  have H1 := qh h1
  have H2 := qh h2
  clear h1 h2
  by_cases hr : roomOk room = true
  · by_cases h14 : n2 ≤ 14
    · have Hr := qh hr
      have hmm := @run_makeMap Tryz.prog
      go_enter Tryz.func105, Tryz.ntmps105
      go_wp2_with (go_at_call 34; refine (roomValid_any _ _ _ _ _ _ H1.out).mono ?_; rintro e w1 ⟨rfl, rfl⟩)
      clear hmm hr
      go_loopw [21] (fun i wr => ∃ k : Nat, i = .int .i64 k ∧ k ≤ n2 ∧ Below w.heap.size w wr ∧ (∃ l, IMap wr w.heap.size l ∧ l.map (·.1) = (ts.take k).map (·.1) ∧ ∀ p ∈ l, IsTaskV p.2) ∧ (∀ j, j < k → taskOk room (ts[j]?.getD (0, [])) = true ∧ hasP (ts.take j) (ts[j]?.getD (0, [])).1 = false)) (fun i _ => n2 - (intOf i).toNat)
      case atStart => exact ⟨0, rfl, Nat.zero_le _, (Below.refl _ _).alloc (Nat.le_refl _) _, ⟨[], IMap.made w, rfl, by simp⟩, by intro j hj; omega⟩
      case round =>
        obtain ⟨k, rfl, hk, hbel, ⟨l, hl1, hl2, hl3⟩, hall⟩ := hrel
        have Hall := qh hall
        have L1 := qh hl1
        have L2 := qh hl2
        have L3 := qh hl3
        clear hall hl1 hl2 hl3
        by_cases hlt : k < n2
        · obtain ⟨b, o, A', m', c', rfl, hb, hc1, hc2, hmc, hrd⟩ := (H2.out.below hbel).at_ hlt
          have lz := hbel.size
          have Hrd := qh hrd
          clear hrd
          have hkl : Hid (k < ts.length) := by have := hl.out; show _ < _; omega
          generalize hid0 : (ts[k]?.getD (0, [])).1 = id at hc1
          have Hid0 := qh hid0
          clear hid0
          have hal : ∀ (o1 o2 : Obj), Below w.heap.size wr ((wr.alloc o1).alloc o2) := fun o1 o2 => ((Below.refl _ _).alloc lz _).alloc (by simp; omega) _
          have Hal := qh hal
          clear hal
          by_cases hh : hasP (ts.take k) id = true
          · obtain ⟨p, hp, hpe, hlook⟩ := look_of_has L2.out hh
            obtain ⟨i', A'', m'', c'', hpv⟩ := L3.out p hp
            rw [hpv] at hlook
            have Hlook := qh hlook
            clear hlook hpv hpe
            go_wp2_with (at_lookup; refine wpList_look_ok rfl _ _ 171 rfl 3 75 Tryz.underlying171 Tryz.underlying3 _ (zeroTask _) w.heap.size l rfl (L1.out.alloc _) id rfl (.agg #[.int .i64 i', .slice A'' m'' c'']) true (by rw [Hlook.out]; rfl) (by rw [Hlook.out]; rfl) ?_)
            go_ret
            exact ⟨ret_bool (tasksOk_twice hkl.out (by rw [Hid0.out]; exact hh)).symm, hbel.trans (Hal.out _ _)⟩
          · have hh : hasP (ts.take k) id = false := by simpa using hh
            have Hlook := qh (look_of_not L2.out hh)
            have Hh := qh hh
            clear hh
            by_cases hid : inR 1 40 id = true
            · by_cases hf : vecFits (ts[k]?.getD (0, [])).2 room = true
              · have Hf := qh hf
                have Hin := qh hid
                go_wp2_with (first
                  | (at_lookup; refine wpList_look_ok rfl _ _ 171 rfl 3 75 Tryz.underlying171 Tryz.underlying3 _ (zeroTask _) w.heap.size l rfl (L1.out.alloc _) id rfl (.agg #[.int .i64 0, .slice none 0 0]) false (by rw [Hlook.out]; rfl) (by rw [Hlook.out]; rfl) ?_)
                  | (go_at_call 97; refine (idValid_any _ _).mono ?_; rintro e w1 ⟨rfl, rfl⟩)
                  | (go_at_call 141; refine (vecFitsI_any _ _ _ _ _ _ _ _ _ _ _ (Hrd.out.below (Hal.out _ _)) (H1.out.below (hbel.trans (Hal.out _ _)))).mono ?_; rintro e w1 ⟨rfl, rfl⟩)
                  | (at_mapUpdate; refine wpList_put rfl _ _ _ 171 rfl 3 75 Tryz.underlying171 Tryz.underlying3 w.heap.size l rfl ((L1.out.alloc _).alloc _) id _ rfl rfl Hlook.out ?_; intro w2 him2 hgrow2))
                have him := qh him2
                clear him2
                go_roundw
                case rel =>
                  refine ⟨k + 1, by go_num, by omega, (hbel.trans (Hal.out _ _)).grown hgrow2 (by simp; omega) (fun j e => by injection e with e; omega), ⟨_, him.out, ?_, ?_⟩, ?_⟩
                  · rw [List.map_append, L2.out, List.take_succ_eq_append_getElem hkl.out, List.map_append]
                    have := Hid0.out
                    rw [List.getElem?_eq_getElem hkl.out] at this
                    simp only [Option.getD_some] at this
                    simp [this]
                  · intro p hp
                    rw [List.mem_append] at hp
                    rcases hp with hp | hp
                    · exact L3.out p hp
                    · simp at hp; rw [hp]; exact ⟨_, _, _, _, rfl⟩
                  · intro j hj
                    by_cases e : j = k
                    · rw [e, Hid0.out]; exact ⟨by rw [taskOk, Hid0.out, Hin.out, Hf.out]; rfl, Hh.out⟩
                    · exact Hall.out j (by omega)
                case measure => simp [intOf]; omega
              · have hf : vecFits (ts[k]?.getD (0, [])).2 room = false := by simpa using hf
                have Hf := qh hf
                go_wp2_with (first
                  | (at_lookup; refine wpList_look_ok rfl _ _ 171 rfl 3 75 Tryz.underlying171 Tryz.underlying3 _ (zeroTask _) w.heap.size l rfl (L1.out.alloc _) id rfl (.agg #[.int .i64 0, .slice none 0 0]) false (by rw [Hlook.out]; rfl) (by rw [Hlook.out]; rfl) ?_)
                  | (go_at_call 97; refine (idValid_any _ _).mono ?_; rintro e w1 ⟨rfl, rfl⟩)
                  | (go_at_call 141; refine (vecFitsI_any _ _ _ _ _ _ _ _ _ _ _ (Hrd.out.below (Hal.out _ _)) (H1.out.below (hbel.trans (Hal.out _ _)))).mono ?_; rintro e w1 ⟨rfl, rfl⟩))
                go_ret
                exact ⟨ret_bool (tasksOk_bad hkl.out (by rw [taskOk, Hf.out, Bool.and_false])).symm, hbel.trans (Hal.out _ _)⟩
            · have hid : inR 1 40 id = false := by simpa using hid
              have Hin := qh hid
              go_wp2_with (first
                | (at_lookup; refine wpList_look_ok rfl _ _ 171 rfl 3 75 Tryz.underlying171 Tryz.underlying3 _ (zeroTask _) w.heap.size l rfl (L1.out.alloc _) id rfl (.agg #[.int .i64 0, .slice none 0 0]) false (by rw [Hlook.out]; rfl) (by rw [Hlook.out]; rfl) ?_)
                | (go_at_call 97; refine (idValid_any _ _).mono ?_; rintro e w1 ⟨rfl, rfl⟩))
              go_ret
              exact ⟨ret_bool (tasksOk_bad hkl.out (by rw [taskOk, Hid0.out, Hin.out, Bool.false_and])).symm, hbel.trans (Hal.out _ _)⟩
        · go_wp2
          go_ret
          refine ⟨ret_bool ?_, hbel⟩
          rw [tasksOk_all Hr.out (fun j hj => Hall.out j (by have := hl.out; omega)), hl.out]
          symm
          simpa using h14
    · have hmm := @run_makeMap Tryz.prog
      go_enter Tryz.func105, Tryz.ntmps105
      go_wp2_with (go_at_call 34; refine (roomValid_any _ _ _ _ _ _ H1.out).mono ?_; rintro e w1 ⟨rfl, rfl⟩)
      go_ret
      refine ⟨ret_bool ?_, Below.refl _ _⟩
      symm
      rw [← Bool.not_eq_true]
      intro hh
      have := tasksOk_len hh
      have := hl.out
      omega
  · have hr : roomOk room = false := by simpa using hr
    go_enter Tryz.func105, Tryz.ntmps105
    go_wp2_with (go_at_call 34; refine (roomValid_any _ _ _ _ _ _ H1.out).mono ?_; rintro e w1 ⟨rfl, rfl⟩)
    go_ret
    exact ⟨ret_bool (tasksOk_room hr).symm, Below.refl _ _⟩

theorem grow_zero (w : World) : Calls Tryz.prog 142 #[.slice none 0 0, .int .i64 0] w fun e w' => e = .returned (.slice none 0 0) ∧ w = w' := by
  go_enter Tryz.func142, Tryz.ntmps142
  go_wp2
  go_ret
  exact ⟨rfl, rfl⟩

theorem own_zero {w : World} {base g : Nat} {t : TypeId} {cap size : Nat} {cs : Array Value} (hb : w.heap[g]? = some (.cells cs t (0, 0))) (hg : base ≤ g) (hm : cap ≤ maxLen) (hs : cs.size = cap * size) :
    w.ownsRow base t size (.slice (some ⟨g, 0, none⟩) 0 cap) 0 [] :=
  ⟨by simp, .inr ⟨g, cap, cs, rfl, hg, hb, Nat.zero_le _, hm, hs, by simp⟩⟩

set_option maxRecDepth 100000 in
set_option maxHeartbeats 800000 in
theorem grow_any (n : Nat) (hn : n ≤ 1048576) (w : World) : Calls Tryz.prog 142 #[.slice none 0 0, .int .i64 (n : Int)] w fun e w' =>
    ∃ A c, e = .returned (.slice A 0 c) ∧ w'.ownsRow w.heap.size 75 2 (.slice A 0 c) 0 [] ∧ Below w.heap.size w w' := by
  rcases Nat.eq_zero_or_pos n with h0 | h0
  · subst h0
    exact (grow_zero w).mono fun e w' ⟨he, hw⟩ => ⟨none, 0, he, by rw [← hw]; exact World.ownsRow_nil _ _ _ _, by rw [← hw]; exact Below.refl _ _⟩
  · obtain ⟨i0, hi0, hz0, hz1, hz2⟩ := info_parts task_info
    have hrun := Lib.run_append_nil_zeros (P := Tryz.prog) w 81 3 81 75 i0 _ .i64 .i64 Tryz.underlying81 Tryz.underlying3 hi0 hz0 n h0 (by omega) (by omega) (by rw [hz2]; omega)
    have hcap := grownCap_le_maxLen w n 0 75 (by unfold maxLen; omega)
    have hge := grownCap_ge w n 0 75
    generalize hgc : grownCap w n 0 75 = gc at hrun hcap hge
    have Hcap := qh hcap
    have Hrun := qh hrun
    have Hgc := qh hgc
    have k1 : (0 : Int) < (n : Int) := by omega
    clear hcap hrun hgc
    go_enter Tryz.func142, Tryz.ntmps142
    go_wp2_with (at_builtin; refine Lib.wpList_append_run _ rfl _ _ _ _ rfl _ _ rfl rfl _ _ Hrun.out ?_)
    go_ret
    refine ⟨_, _, rfl, own_zero (heap_alloc_new w.drew _) (Nat.le_refl _) Hcap.out ?_, (Below.refl _ _).drew.alloc (Nat.le_refl _) _⟩
    simp [size_zeroCells]
    omega

set_option maxRecDepth 100000 in
set_option maxHeartbeats 1600000 in
theorem concat_any (A : Option Addr) (n c : Nat) (bs : List (List Tk)) (w : World) (h : RdB w w.heap.size A n bs) (hz : bs.flatten.length ≤ 1048576) :
    Calls Tryz.prog 106 #[.slice A n c] w fun e w' => ∃ A m c vs, e = .returned (.slice A m c) ∧ w'.ownsRow w.heap.size 75 2 (.slice A m c) m vs ∧ TkCells w' w.heap.size vs bs.flatten ∧ RdT w' w'.heap.size A m bs.flatten ∧ Below w.heap.size w w' := by
  obtain ⟨i0, hi0, hz0, hz1, hz2⟩ := info_parts task_info
  have hl := qh h.len
  have hn := h.le
  have H := qh h
  clear h
  go_enter Tryz.func106, Tryz.ntmps106
  go_wp2
  go_loop [3, 11] (fun s i => ∃ k q : Nat, i = .int .i64 k ∧ k ≤ n ∧ s = .int .i64 q ∧ q ≤ 1048576 ∧ Hid (q = (bs.take k).flatten.length)) (fun _ i => n - (intOf i).toNat)
  case atStart => exact ⟨0, 0, rfl, Nat.zero_le _, rfl, by omega, qh (by simp)⟩
  case round =>
    obtain ⟨k, q, rfl, hk, rfl, hq, hq2⟩ := hrel
    by_cases hlt : k < n
    · obtain ⟨b1, o1, A2, m2, c2, rfl, lb1, hc1, _, hr2⟩ := H.out.at_ hlt
      have hkl : Hid (k < bs.length) := by have := hl.out; show _ < _; omega
      have Hr2 := qh hr2
      clear hr2
      have e4 : q + m2 ≤ 1048576 := by
        have e3 := flat_take_le (bs := bs) (k + 1)
        rw [flat_take_succ hkl.out, List.length_append, Hr2.out.len, ← hq2.out] at e3; omega
      go_wp2
      go_round
      case rel => exact ⟨k + 1, q + m2, by go_num, by omega, by go_num, by omega, qh (by rw [flat_take_succ hkl.out, List.length_append, Hr2.out.len, ← hq2.out])⟩
      case measure => simp [intOf]; omega
    · have ek : k = n := by omega
      have hqf : Hid (q = bs.flatten.length) := by have := hq2.out; rw [ek, List.take_of_length_le (by have := hl.out; omega)] at this; exact this
      clear ek
      go_wp2_with (go_at_call 142; refine (grow_any _ hq _).mono ?_; rintro e w1 ⟨A0, c0, rfl, hown0, hb0⟩)
      have Hown0 := qh hown0
      clear hown0
      go_loopw [6, 27] (fun v i wr => ∃ k : Nat, i = .int .i64 k ∧ k ≤ n ∧ Below w.heap.size w wr ∧ ∃ A c m vs, v = .slice A m c ∧ Hid (m = (bs.take k).flatten.length) ∧ wr.ownsRow w.heap.size 75 2 v m vs ∧ TkCells wr w.heap.size vs (bs.take k).flatten) (fun _ i _ => n - (intOf i).toNat)
      case atStart => exact ⟨0, rfl, Nat.zero_le _, hb0, A0, c0, 0, [], rfl, qh rfl, Hown0.out, TkCells.nil⟩
      case round =>
        obtain ⟨k, rfl, hk, hbel, A1, c1, m1, vs, rfl, hm1, hown, htk⟩ := hrel
        have lz := hbel.size
        by_cases hlt : k < n
        · obtain ⟨b1, o1, A2, m2, c2, rfl, lb1, hc1, _, hr2⟩ := (H.out.below hbel).at_ hlt
          have hkl : Hid (k < bs.length) := by have := hl.out; show _ < _; omega
          obtain ⟨news, hsrc, htn⟩ := hr2.src
          have Hr2 := qh hr2
          clear hr2
          have e4 : m1 + m2 ≤ 1048576 := by
            have e3 := flat_take_le (bs := bs) (k + 1)
            rw [flat_take_succ hkl.out, List.length_append, Hr2.out.len, ← hm1.out] at e3; omega
          go_wp2_with (at_builtin; refine wpList_append_src _ rfl _ _ 81 rfl w.heap.size 75 i0 _ 2 32 Tryz.underlying81 hi0 hz0 hz1 hz2 rfl (by omega) (.slice A1 m1 c1) _ vs rfl hown A2 m2 c2 news rfl hsrc htn.one (by unfold maxLen; omega) (by omega) lz ?_; intro v' w2 hown1 hgrow hat)
          have hb' : Below w.heap.size w w2 := hbel.grown hgrow lz (fun j e => (hown.lt j e).1)
          have ht' := (htk.append htn).below ((Below.refl w.heap.size wr).grown hgrow lz (fun j e => (hown.lt j e).1))
          obtain ⟨A3, c3, rfl⟩ := own_shape hown1
          have Hown := qh hown1
          have Ht := qh ht'
          clear hown hown1 ht' htk htn hsrc
          go_roundw
          case rel => exact ⟨k + 1, by go_num, by omega, hb', A3, c3, m1 + m2, _, rfl, qh (by rw [flat_take_succ hkl.out, List.length_append, Hr2.out.len, ← hm1.out]), Hown.out, by rw [flat_take_succ hkl.out]; exact Ht.out⟩
          case measure => simp [intOf]; omega
        · have ek : k = n := by omega
          have e0 : bs.take k = bs := List.take_of_length_le (by have := hl.out; omega)
          rw [e0] at hm1 htk
          have Hown := qh hown
          have Ht := qh htk
          clear ek hown htk e0
          go_wp2
          go_ret
          exact ⟨A1, m1, c1, vs, rfl, Hown.out, Ht.out, RdT.of_own Hown.out Ht.out lz (by have := hm1.out; omega), hbel⟩

set_option maxRecDepth 100000 in
set_option maxHeartbeats 800000 in
theorem binsValidI_any (A1 A2 : Option Addr) (n1 c1 n2 c2 : Nat) (room : List Int) (bs : List (List Tk)) (w : World) (h1 : RdI w w.heap.size A1 n1 room) (h2 : RdB w w.heap.size A2 n2 bs) (hz : bs.flatten.length ≤ 1048576) :
    Calls Tryz.prog 75 #[.slice A1 n1 c1, .slice A2 n2 c2] w fun e w' => e = .returned (.bool (binsOk room bs)) ∧ Below w.heap.size w w' := by
  have hl := qh h2.len
  have hn := h2.le
  have H1 := qh h1
  have H2 := qh h2
  clear h1 h2
  by_cases h14 : n2 ≤ 14
  · by_cases hr : tasksOk room bs.flatten = true
    · have Hr := qh hr
      go_enter Tryz.func75, Tryz.ntmps75
      go_wp2_with fail
      refine (concat_any _ _ _ _ _ H2.out hz).mono ?_; rintro e w1 ⟨A3, n3, c3, vs, rfl, _, _, hr3, hb3⟩
      have Hr3 := qh hr3
      clear hr3
      go_wp2_with fail
      refine (tasksValidI_any _ _ _ _ _ _ _ _ _ (H1.out.up hb3) Hr3.out).mono ?_; rintro e w2 ⟨rfl, hb4⟩
      have hb5 : Below w.heap.size w w2 := hb3.trans (hb4.mono hb3.size)
      go_wp2
      go_loopw [19] (fun i wr => ∃ k : Nat, i = .int .i64 k ∧ k ≤ n2 ∧ Below w.heap.size w wr ∧ (∀ j, j < k → fits3 (loadP (bs[j]?.getD [])) room = true)) (fun i _ => n2 - (intOf i).toNat)
      case atStart => exact ⟨0, rfl, Nat.zero_le _, hb5, by intro j hj; omega⟩
      case round =>
        obtain ⟨k, rfl, hk, hbel, hall⟩ := hrel
        have Hall := qh hall
        clear hall
        by_cases hlt : k < n2
        · obtain ⟨b, o, A', m', c', rfl, hb, hc1, hmc, hrd⟩ := (H2.out.below hbel).at_ hlt
          have lz := hbel.size
          have hkl : Hid (k < bs.length) := by have := hl.out; show _ < _; omega
          have Hrd := qh (hrd.more lz)
          have hm : m' ≤ 14 := by have := hrd.len; have := bin_len hkl.out; have := tasksOk_len Hr.out; omega
          clear hrd
          have lo := qh (load_ok (fun t ht => tasksOk_vecs Hr.out t (bin_mem hkl.out ht)))
          by_cases hf : fits3 (loadP (bs[k]?.getD [])) room = true
          · go_wp2_with fail
            refine (loadOf_any _ _ _ _ _ Hrd.out (by omega) (fun j hj => lo.out.1 j (by have := Hrd.out.len; omega)) lo.out.2).mono ?_; rintro e w1 ⟨A4, c4, rfl, hr4, hb4⟩
            have Hr4 := qh hr4
            clear hr4
            go_wp2_with fail
            refine (fits_any _ _ _ _ _ _ _ _ _ _ Hr4.out ((H1.out.below hbel).below (hb4.mono lz)) (by have := H1.out.len; have := vecOk_len (roomOk_vec (tasksOk_room' Hr.out)); omega)).mono ?_; rintro e w3 ⟨rfl, rfl⟩
            have Hf := qh hf
            go_wp2
            go_roundw
            case rel => exact ⟨k + 1, by go_num, by omega, (hbel.trans (hb4.mono lz)), fun j hj => by
              by_cases e : j = k
              · rw [e]; exact Hf.out
              · exact Hall.out j (by omega)⟩
            case measure => simp [intOf]; omega
          · have hf : fits3 (loadP (bs[k]?.getD [])) room = false := by simpa using hf
            go_wp2_with fail
            refine (loadOf_any _ _ _ _ _ Hrd.out (by omega) (fun j hj => lo.out.1 j (by have := Hrd.out.len; omega)) lo.out.2).mono ?_; rintro e w1 ⟨A4, c4, rfl, hr4, hb4⟩
            have Hr4 := qh hr4
            clear hr4
            go_wp2_with fail
            refine (fits_any _ _ _ _ _ _ _ _ _ _ Hr4.out ((H1.out.below hbel).below (hb4.mono lz)) (by have := H1.out.len; have := vecOk_len (roomOk_vec (tasksOk_room' Hr.out)); omega)).mono ?_; rintro e w3 ⟨rfl, rfl⟩
            go_wp2
            go_ret
            refine ⟨ret_bool ?_, (hbel.trans (hb4.mono lz))⟩
            symm
            rw [binsOk, Bool.and_eq_false_iff]; right
            rw [← Bool.not_eq_true, allB_iff]
            intro hh
            have := hh k hkl.out
            rw [hf] at this; cases this
        · go_wp2
          go_ret
          refine ⟨ret_bool ?_, hbel⟩
          symm
          rw [binsOk, Hr.out, allB_iff.2 (fun j hj => Hall.out j (by have := hl.out; omega))]
          simp
          have := hl.out; omega
    · have hr : tasksOk room bs.flatten = false := by simpa using hr
      go_enter Tryz.func75, Tryz.ntmps75
      go_wp2_with fail
      refine (concat_any _ _ _ _ _ H2.out hz).mono ?_; rintro e w1 ⟨A3, n3, c3, vs, rfl, _, _, hr3, hb3⟩
      have Hr3 := qh hr3
      clear hr3
      go_wp2_with fail
      refine (tasksValidI_any _ _ _ _ _ _ _ _ _ (H1.out.up hb3) Hr3.out).mono ?_; rintro e w2 ⟨rfl, hb4⟩
      go_wp2
      go_ret
      exact ⟨ret_bool (by symm; simp [binsOk, hr]), hb3.trans (hb4.mono hb3.size)⟩
  · go_enter Tryz.func75, Tryz.ntmps75
    go_wp2
    go_ret
    exact ⟨ret_bool (by symm; rw [binsOk, decide_eq_false (by have := hl.out; omega)]; simp), Below.refl _ _⟩
end Go.Proofs.YtdkhdfedejbicaaGreatDoor

namespace Go.Proofs.YtdkhdfedejbicaaGreatDoor
open Go.RowKit

structure R4 (w : World) (A1 A2 A3 A4 : Option Addr) (n1 n2 n3 n4 : Nat) (room : List Int) (bs : List (List Tk)) (zones ids : List Int) : Prop where
  a : RdI w w.heap.size A1 n1 room
  b : RdB w w.heap.size A2 n2 bs
  c : RdI w w.heap.size A3 n3 zones
  d : RdI w w.heap.size A4 n4 ids
theorem R4.up {w w' : World} {A1 A2 A3 A4 : Option Addr} {n1 n2 n3 n4 : Nat} {room : List Int} {bs : List (List Tk)} {zones ids : List Int} (h : R4 w A1 A2 A3 A4 n1 n2 n3 n4 room bs zones ids) (hb : Below w.heap.size w w') : R4 w' A1 A2 A3 A4 n1 n2 n3 n4 room bs zones ids :=
  ⟨h.a.up hb, h.b.up hb, h.c.up hb, h.d.up hb⟩
theorem below_to {w a b : World} (h : Below w.heap.size w a) (k : Below a.heap.size a b) : Below w.heap.size w b := h.trans (k.mono h.size)
theorem drew_below (w : World) (m : Nat) : Below w.heap.size w (w.drewN m) := below_drewN (Below.refl _ _) m

end Go.Proofs.YtdkhdfedejbicaaGreatDoor
