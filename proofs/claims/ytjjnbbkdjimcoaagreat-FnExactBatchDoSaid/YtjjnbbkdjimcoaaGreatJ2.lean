/- Several texts in one. -/
import Derived.Test.YtjjnbbkdjimcoaaGreatJ1
import Derived.Deep.DrawnRows
import Derived.MapKept
import Derived.Maps.OwnSet
import Derived.Maps.OwnOps
import Derived.Lib.AppendZeros
namespace Go.Proofs.YtjjnbbkdjimcoaaGreat
open Go.RowKit

/-- The first place at which p holds, or -1. -/
def idxP {α : Type} (p : α → Bool) (xs : List α) : Int := match xs.findIdx? p with | some i => i | none => -1
theorem idxP_none {α : Type} {p : α → Bool} {xs : List α} {d : α} (h : ∀ j, j < xs.length → p (xs[j]?.getD d) = false) : idxP p xs = -1 := by
  have : xs.findIdx? p = none := by
    rw [List.findIdx?_eq_none_iff]
    intro b hb
    obtain ⟨j, hj, rfl⟩ := List.getElem_of_mem hb
    have := h j hj
    rwa [List.getElem?_eq_getElem hj] at this
  rw [idxP, this]
theorem idxP_some {α : Type} {p : α → Bool} {xs : List α} {d : α} {k : Nat} (hk : k < xs.length) (hh : p (xs[k]?.getD d) = true) (h : ∀ j, j < k → p (xs[j]?.getD d) = false) : idxP p xs = k := by
  have : xs.findIdx? p = some k := by
    rw [List.findIdx?_eq_some_iff_getElem]
    refine ⟨hk, by rwa [List.getElem?_eq_getElem hk] at hh, fun j hj => ?_⟩
    have := h j hj
    rw [List.getElem?_eq_getElem (by omega)] at this
    simpa using this
  rw [idxP, this]
theorem idxP_ge {α : Type} (p : α → Bool) (xs : List α) : decide (0 ≤ idxP p xs) = xs.any p := by
  unfold idxP
  cases h : xs.findIdx? p with
  | none =>
    rw [List.findIdx?_eq_none_iff] at h
    simp only [Int.reduceNeg, show ¬ (0 : Int) ≤ -1 by omega, decide_false]
    symm
    rw [← Bool.not_eq_true, List.any_eq_true]
    rintro ⟨x, hx, hp⟩
    rw [h x hx] at hp; cases hp
  | some i =>
    rw [List.findIdx?_eq_some_iff_getElem] at h
    obtain ⟨hi, hp, _⟩ := h
    simp only [show (0 : Int) ≤ (i : Int) by omega, decide_true]
    symm
    rw [List.any_eq_true]
    exact ⟨_, List.getElem_mem hi, hp⟩

set_option maxHeartbeats 400000 in
theorem within_any (n lo hi : Int) (w : World) :
    Calls Tryz.prog 76 #[.int .i64 n, .int .i64 lo, .int .i64 hi] w fun e w' => e = .returned (.bool (inR lo hi n)) ∧ w = w' := by
  by_cases h1 : lo ≤ n
  · go_enter Tryz.func76, Tryz.ntmps76
    go_wp2
    go_ret
    simp [inR, h1]
  · have h2 : decide (lo ≤ n) = false := by simpa using h1
    go_enter Tryz.func76, Tryz.ntmps76
    go_wp2
    go_ret
    simp [inR]
    omega

set_option maxHeartbeats 400000 in
theorem idValid_any (n : Int) (w : World) :
    Calls Tryz.prog 122 #[.int .i64 n] w fun e w' => e = .returned (.bool (inR 1 40 n)) ∧ w = w' := by
  go_enter Tryz.func122, Tryz.ntmps122
  go_wp2_with (go_at_call 76; refine (within_any _ _ _ _).mono ?_; rintro e w' ⟨rfl, rfl⟩)
  go_ret
  exact ⟨rfl, rfl⟩

set_option maxHeartbeats 400000 in
theorem badNum_any (n : Int) (w : World) :
    Calls Tryz.prog 161 #[.int .i64 n] w fun e w' => e = .returned (.bool (!inR 0 20 n)) ∧ w = w' := by
  go_enter Tryz.func161, Tryz.ntmps161
  go_wp2_with (go_at_call 76; refine (within_any _ _ _ _).mono ?_; rintro e w' ⟨rfl, rfl⟩)
  go_ret
  exact ⟨rfl, rfl⟩

set_option maxHeartbeats 400000 in
theorem indexBad_any (A : Option Addr) (n c B : Nat) (xs : List Int) (w : World) (h : RdI w B A n xs) :
    Calls Tryz.prog 162 #[.slice A n c, .func (.func 161) #[] #[]] w fun e w' => e = .returned (.int .i64 (idxP (fun x => !inR 0 20 x) xs)) ∧ w = w' := by
  have hn := h.le
  have hl := qh h.len
  have H := qh h
  clear h
  go_enter Tryz.func162, Tryz.ntmps162
  go_wp2
  go_loop [8] (fun i => ∃ k : Nat, i = .int .i64 k ∧ k ≤ n ∧ (∀ j, j < k → inR 0 20 (xs[j]?.getD 0) = true)) (fun i => n - (intOf i).toNat)
  case atStart => exact ⟨0, rfl, Nat.zero_le _, by intro j hj; omega⟩
  case round =>
    obtain ⟨k, rfl, hk, hall⟩ := hrel
    have Hall := qh hall
    clear hall
    by_cases hlt : k < n
    · obtain ⟨b, o, rfl, hb, hc⟩ := H.out.at_ hlt
      by_cases hin : inR 0 20 (xs[k]?.getD 0) = true
      · have Hin := qh hin
        go_wp2_with (go_at_call 161; refine (badNum_any _ _).mono ?_; rintro e w' ⟨rfl, rfl⟩)
        go_round
        case rel => exact ⟨k + 1, by go_num, by omega, fun j hj => by
          by_cases e : j = k
          · rw [e]; exact Hin.out
          · exact Hall.out j (by omega)⟩
        case measure => simp [intOf]; omega
      · have hin : inR 0 20 (xs[k]?.getD 0) = false := by simpa using hin
        have Hin := qh hin
        go_wp2_with (go_at_call 161; refine (badNum_any _ _).mono ?_; rintro e w' ⟨rfl, rfl⟩)
        go_ret
        exact ⟨ret_int (idxP_some (d := 0) (by rw [hl.out]; exact hlt) (by simp [Hin.out]) (fun j hj => by simp [Hall.out j hj])).symm, rfl⟩
    · go_wp2
      go_ret
      exact ⟨ret_int (idxP_none (d := 0) (fun j hj => by simp [Hall.out j (by have := hl.out; omega)])).symm, rfl⟩

set_option maxHeartbeats 400000 in
theorem containsBad_any (A : Option Addr) (n c B : Nat) (xs : List Int) (w : World) (h : RdI w B A n xs) :
    Calls Tryz.prog 160 #[.slice A n c, .func (.func 161) #[] #[]] w fun e w' => e = .returned (.bool (xs.any (fun x => !inR 0 20 x))) ∧ w = w' := by
  have H := qh h
  clear h
  go_enter Tryz.func160, Tryz.ntmps160
  go_wp2_with (go_at_call 162; refine (indexBad_any _ _ _ _ _ _ H.out).mono ?_; rintro e w' ⟨rfl, rfl⟩)
  go_ret
  exact ⟨ret_bool (idxP_ge _ _), rfl⟩

set_option maxHeartbeats 400000 in
theorem valid_any (A : Option Addr) (n c B : Nat) (xs : List Int) (w : World) (h : RdI w B A n xs) :
    Calls Tryz.prog 152 #[.slice A n c] w fun e w' => e = .returned (.bool (vecOk xs)) ∧ w = w' := by
  have hl := qh h.len
  have H := qh h
  clear h
  by_cases h3 : n = 3
  · subst h3
    go_enter Tryz.func152, Tryz.ntmps152
    go_wp2_with (go_at_call 160; refine (containsBad_any _ _ _ _ _ _ H.out).mono ?_; rintro e w' ⟨rfl, rfl⟩)
    go_ret
    refine ⟨ret_bool ?_, rfl⟩
    rw [vecOk, hl.out]
    simp [List.any_eq_not_all_not]
  · have e3 : ((n : Int) == 3) = false := by simp; omega
    go_enter Tryz.func152, Tryz.ntmps152
    go_wp2
    go_ret
    refine ⟨ret_bool ?_, rfl⟩
    symm
    rw [vecOk, hl.out]
    simp [h3]

set_option maxHeartbeats 400000 in
theorem vecValidI_any (A : Option Addr) (n c B : Nat) (xs : List Int) (w : World) (h : RdI w B A n xs) :
    Calls Tryz.prog 138 #[.slice A n c] w fun e w' => e = .returned (.bool (vecOk xs)) ∧ w = w' := by
  have H := qh h
  clear h
  go_enter Tryz.func138, Tryz.ntmps138
  go_wp2_with (go_at_call 152; refine (valid_any _ _ _ _ _ _ H.out).mono ?_; rintro e w' ⟨rfl, rfl⟩)
  go_ret
  exact ⟨rfl, rfl⟩

set_option maxHeartbeats 400000 in
theorem bothValid_any (A1 A2 : Option Addr) (n1 c1 n2 c2 B1 B2 : Nat) (xs ys : List Int) (w : World) (h1 : RdI w B1 A1 n1 xs) (h2 : RdI w B2 A2 n2 ys) :
    Calls Tryz.prog 140 #[.slice A1 n1 c1, .slice A2 n2 c2] w fun e w' => e = .returned (.bool (vecOk xs && vecOk ys)) ∧ w = w' := by
  have H1 := qh h1
  have H2 := qh h2
  clear h1 h2
  by_cases hx : vecOk xs = true
  · go_enter Tryz.func140, Tryz.ntmps140
    go_wp2_with fail
    refine (vecValidI_any _ _ _ _ _ _ H1.out).mono ?_; rintro e w1 ⟨rfl, rfl⟩
    go_wp2_with fail
    refine (vecValidI_any _ _ _ _ _ _ H2.out).mono ?_; rintro e w1 ⟨rfl, rfl⟩
    go_wp2
    go_ret
    exact ⟨ret_bool (by simp [hx]), rfl⟩
  · have hx : vecOk xs = false := by simpa using hx
    go_enter Tryz.func140, Tryz.ntmps140
    go_wp2_with fail
    refine (vecValidI_any _ _ _ _ _ _ H1.out).mono ?_; rintro e w1 ⟨rfl, rfl⟩
    go_wp2
    go_ret
    exact ⟨ret_bool (by simp [hx]), rfl⟩

set_option maxHeartbeats 400000 in
theorem fits_any (A1 A2 : Option Addr) (c1 n2 c2 B1 B2 : Nat) (xs ys : List Int) (w : World) (h1 : RdI w B1 A1 3 xs) (h2 : RdI w B2 A2 n2 ys) (hn2 : 3 ≤ n2) :
    Calls Tryz.prog 117 #[.slice A1 3 c1, .slice A2 n2 c2] w fun e w' => e = .returned (.bool (fits3 xs ys)) ∧ w = w' := by
  have H1 := qh h1
  have H2 := qh h2
  clear h1 h2
  go_enter Tryz.func117, Tryz.ntmps117
  go_wp2
  go_loop [9] (fun i => ∃ k : Nat, i = .int .i64 k ∧ k ≤ 3 ∧ (∀ j, j < k → xs[j]?.getD 0 ≤ ys[j]?.getD 0)) (fun i => 3 - (intOf i).toNat)
  case atStart => exact ⟨0, rfl, Nat.zero_le _, by intro j hj; omega⟩
  case round =>
    obtain ⟨k, rfl, hk, hall⟩ := hrel
    have Hall := qh hall
    clear hall
    by_cases hlt : k < 3
    · obtain ⟨b1, o1, rfl, hb1, hc1⟩ := H1.out.at_ hlt
      have hk2 : k < n2 := by omega
      obtain ⟨b2, o2, rfl, hb2, hc2⟩ := H2.out.at_ hk2
      by_cases hle : ys[k]?.getD 0 < xs[k]?.getD 0
      · go_wp2
        go_ret
        exact ⟨ret_bool (fits3_no hlt hle).symm, rfl⟩
      · go_wp2
        go_round
        case rel => exact ⟨k + 1, by go_num, by omega, fun j hj => by
          by_cases e : j = k
          · rw [e]; omega
          · exact Hall.out j (by omega)⟩
        case measure => simp [intOf]; omega
    · go_wp2
      go_ret
      exact ⟨ret_bool (fits3_iff.2 (fun j hj => Hall.out j (by omega))).symm, rfl⟩

set_option maxHeartbeats 400000 in
theorem vecFitsI_any (A1 A2 : Option Addr) (n1 c1 n2 c2 B1 B2 : Nat) (xs ys : List Int) (w : World) (h1 : RdI w B1 A1 n1 xs) (h2 : RdI w B2 A2 n2 ys) :
    Calls Tryz.prog 123 #[.slice A1 n1 c1, .slice A2 n2 c2] w fun e w' => e = .returned (.bool (vecFits xs ys)) ∧ w = w' := by
  have H1 := qh h1
  have H2 := qh h2
  clear h1 h2
  have hbv := bothValid_any A1 A2 n1 c1 n2 c2 B1 B2 xs ys w H1.out H2.out
  by_cases hx : (vecOk xs && vecOk ys) = true
  · rw [hx] at hbv
    have Hbv := qh hbv
    have Hx := qh hx
    simp only [Bool.and_eq_true] at hx
    have l1 : n1 = 3 := by have := H1.out.len; have := vecOk_len hx.1; omega
    have l2 : 3 ≤ n2 := by have := H2.out.len; have := vecOk_len hx.2; omega
    subst l1
    clear hx hbv
    go_enter Tryz.func123, Tryz.ntmps123
    go_wp2_with fail
    refine Hbv.out.mono ?_; rintro e w1 ⟨rfl, rfl⟩
    go_wp2_with fail
    refine (fits_any _ _ _ _ _ _ _ _ _ _ H1.out H2.out l2).mono ?_; rintro e w1 ⟨rfl, rfl⟩
    go_wp2
    go_ret
    exact ⟨ret_bool (by simp [vecFits, Hx.out]), rfl⟩
  · have hx : (vecOk xs && vecOk ys) = false := by simpa using hx
    rw [hx] at hbv
    have Hbv := qh hbv
    have Hx := qh hx
    clear hx hbv
    go_enter Tryz.func123, Tryz.ntmps123
    go_wp2_with fail
    refine Hbv.out.mono ?_; rintro e w1 ⟨rfl, rfl⟩
    go_wp2
    go_ret
    exact ⟨ret_bool (by simp [vecFits, Hx.out]), rfl⟩

def minP (xs : List Int) : Int := xs.tail.foldl min (xs[0]?.getD 0)

set_option maxHeartbeats 400000 in
/-- slices.Min of three numbers. -/
theorem min3_any (A : Option Addr) (c B : Nat) (xs : List Int) (w : World) (h : RdI w B A 3 xs) :
    Calls Tryz.prog 139 #[.slice A 3 c] w fun e w' => ∃ r : Int, e = .returned (.int .i64 r) ∧ (1 ≤ r ↔ ∀ j, j < 3 → 1 ≤ xs[j]?.getD 0) ∧ w = w' := by
  have H := qh h
  clear h
  obtain ⟨b, o, rfl, hb, hc⟩ := H.out.at_ (show 0 < 3 by omega)
  rw [Nat.add_zero] at hc
  go_enter Tryz.func139, Tryz.ntmps139
  go_wp2
  clear hc
  go_loop [3, 4] (fun m i => ∃ (k : Nat) (r : Int), i = .int .i64 k ∧ 1 ≤ k ∧ k ≤ 3 ∧ m = .int .i64 r ∧ (1 ≤ r ↔ ∀ j, j < k → 1 ≤ xs[j]?.getD 0)) (fun _ i => 3 - (intOf i).toNat)
  case atStart =>
    refine ⟨1, xs[0]?.getD 0, rfl, by omega, by omega, rfl, ?_⟩
    constructor
    · intro h j hj
      obtain rfl : j = 0 := by omega
      exact h
    · intro h
      exact h 0 (by omega)
  case round =>
    obtain ⟨k, r, rfl, hk1, hk, rfl, hr⟩ := hrel
    have Hr := qh hr
    clear hr
    by_cases hlt : k < 3
    · obtain ⟨b', o', e', hb', hc⟩ := H.out.at_ hlt
      injection e' with e'
      injection e' with e1 e2
      subst e1 e2
      go_wp2
      go_round
      case rel =>
        refine ⟨k + 1, min r (xs[k]?.getD 0), by go_num, by omega, by omega, by congr 1; split <;> omega, ?_⟩
        constructor
        · intro h j hj
          by_cases e : j = k
          · rw [e]; omega
          · exact Hr.out.1 (by omega) j (by omega)
        · intro h
          have h1 := Hr.out.2 (fun j hj => h j (by omega))
          have h2 := h k (by omega)
          omega
      case measure => simp [intOf]; omega
    · have ek : k = 3 := by omega
      subst ek
      go_wp2
      go_ret
      exact ⟨_, rfl, Hr.out, rfl⟩

set_option maxHeartbeats 400000 in
theorem roomValid_any (A : Option Addr) (n c B : Nat) (xs : List Int) (w : World) (h : RdI w B A n xs) :
    Calls Tryz.prog 121 #[.slice A n c] w fun e w' => e = .returned (.bool (roomOk xs)) ∧ w = w' := by
  have hl := qh h.len
  have H := qh h
  clear h
  have hv := vecValidI_any A n c B xs w H.out
  by_cases hx : vecOk xs = true
  · rw [hx] at hv
    have Hv := qh hv
    have Hx := qh hx
    have l1 : n = 3 := by have := H.out.len; have := vecOk_len hx; omega
    subst l1
    clear hx hv
    go_enter Tryz.func121, Tryz.ntmps121
    go_wp2_with fail
    refine Hv.out.mono ?_; rintro e w1 ⟨rfl, rfl⟩
    go_wp2_with fail
    refine (min3_any _ _ _ _ _ H.out).mono ?_; rintro e w1 ⟨r, rfl, hr, rfl⟩
    have Hr := qh hr
    clear hr
    go_wp2
    go_ret
    refine ⟨ret_bool ?_, rfl⟩
    rw [roomOk, Hx.out, Bool.true_and, Bool.eq_iff_iff, decide_eq_true_iff, Hr.out, all_iff_getD, hl.out]
    simp
  · have hx : vecOk xs = false := by simpa using hx
    rw [hx] at hv
    have Hv := qh hv
    have Hx := qh hx
    clear hx hv
    go_enter Tryz.func121, Tryz.ntmps121
    go_wp2_with fail
    refine Hv.out.mono ?_; rintro e w1 ⟨rfl, rfl⟩
    go_wp2
    go_ret
    exact ⟨ret_bool (by simp [roomOk, Hx.out]), rfl⟩

theorem fill_set {α : Type} (ys : List α) (z : α) {k : Nat} (h : k < ys.length) : (ys.take k ++ List.replicate (ys.length - k) z).set k ys[k] = ys.take (k + 1) ++ List.replicate (ys.length - (k + 1)) z := by
  have e : (ys.take k).length = k := by simp; omega
  rw [List.set_append_right _ _ (by omega), e, Nat.sub_self, show ys.length - k = (ys.length - (k + 1)) + 1 from by omega, List.replicate_succ, pZ, List.take_succ_eq_append_getElem h, List.append_assoc]
  rfl

/-- k numbers of three are filled in. -/
def fill3 (xs ys : List Int) (k : Nat) : List Int := (add3 xs ys).take k ++ List.replicate (3 - k) 0
theorem fill3_set (xs ys : List Int) {k : Nat} (h : k < 3) : (fill3 xs ys k).set k (xs[k]?.getD 0 + ys[k]?.getD 0) = fill3 xs ys (k + 1) := by
  have := fill_set (add3 xs ys) 0 (k := k) (by simp; omega)
  have e := add3_at (a := xs) (b := ys) h
  rw [List.getElem?_eq_getElem (by simp; omega)] at e
  simp only [Option.getD_some] at e
  rw [e] at this
  exact this
theorem fill3_len (xs ys : List Int) {k : Nat} (h : k ≤ 3) : (fill3 xs ys k).length = 3 := by simp [fill3]; omega

theorem fill3_all (xs ys : List Int) : fill3 xs ys 3 = add3 xs ys := rfl

theorem RdI.of_blk {w : World} {g : Nat} {t : TypeId} {xs : List Int} {n : Nat} (h : Blk w g t (xs.map (Value.int .i64)).toArray) (hl : xs.length = n) (hn : n ≤ 9223372036854775807) : RdI w w.heap.size (some ⟨g, 0, none⟩) n xs := by
  refine ⟨hl, hn, fun hp => ⟨g, 0, rfl, h.lt, fun j hj => ?_⟩⟩
  rw [Nat.zero_add, h.cell]
  simp [List.getElem?_eq_getElem (show j < xs.length by omega)]

set_option maxHeartbeats 400000 in
theorem zeros_any (w : World) :
    Calls Tryz.prog 136 #[] w fun e w' => e = .returned (.slice (some ⟨w.heap.size, 0, none⟩) 3 3) ∧ w.alloc (.cells #[.int .i64 0, .int .i64 0, .int .i64 0] 3) = w' := by
  have hmk : ∀ w, (Instr.makeSlice 138 (.int .i64 3) (.int .i64 3)).run Tryz.prog w = .ok (.slice (some ⟨w.heap.size, 0, none⟩) 3 3) (w.alloc (.cells #[.int .i64 0, .int .i64 0, .int .i64 0] 3)) := fun _ => by kernel_rfl
  go_enter Tryz.func136, Tryz.ntmps136
  go_wp2
  go_ret
  exact ⟨rfl, rfl⟩

set_option maxRecDepth 100000 in
set_option maxHeartbeats 800000 in
theorem plus_any (A1 A2 : Option Addr) (n1 c1 n2 c2 : Nat) (xs ys : List Int) (w : World) (h1 : RdI w w.heap.size A1 n1 xs) (h2 : RdI w w.heap.size A2 n2 ys) (hn1 : 3 ≤ n1) (hn2 : 3 ≤ n2)
    (hb1 : ∀ j, j < 3 → -1000000 ≤ xs[j]?.getD 0 ∧ xs[j]?.getD 0 ≤ 1000000) (hb2 : ∀ j, j < 3 → -1000000 ≤ ys[j]?.getD 0 ∧ ys[j]?.getD 0 ≤ 1000000) :
    Calls Tryz.prog 137 #[.slice A1 n1 c1, .slice A2 n2 c2] w fun e w' => ∃ A c, e = .returned (.slice A 3 c) ∧ RdI w' w'.heap.size A 3 (add3 xs ys) ∧ Below w.heap.size w w' := by
  have Hb1 := qh hb1
  have Hb2 := qh hb2
  have H1 := qh h1
  have H2 := qh h2
  clear hb1 hb2 h1 h2
  have hmk : ∀ w, (Instr.makeSlice 138 (.int .i64 3) (.int .i64 3)).run Tryz.prog w = .ok (.slice (some ⟨w.heap.size, 0, none⟩) 3 3) (w.alloc (.cells #[.int .i64 0, .int .i64 0, .int .i64 0] 3)) := fun _ => by kernel_rfl
  go_enter Tryz.func137, Tryz.ntmps137
  go_wp2
  clear hmk
  go_loopw [10] (fun i wr => ∃ k : Nat, i = .int .i64 k ∧ k ≤ 3 ∧ Below w.heap.size w wr ∧ Blk wr w.heap.size 3 ((fill3 xs ys k).map (Value.int .i64)).toArray) (fun i _ => 3 - (intOf i).toNat)
  case atStart => exact ⟨0, rfl, Nat.zero_le _, (Below.refl _ _).alloc (Nat.le_refl _) _, Blk.new w _ _⟩
  case round =>
    obtain ⟨k, rfl, hk, hbel, hblk⟩ := hrel
    have Hblk := qh hblk
    clear hblk
    by_cases hlt : k < 3
    · obtain ⟨b1, o1, rfl, lb1, hc1⟩ := (H1.out.below hbel).at_ (show k < n1 by omega)
      obtain ⟨b2, o2, rfl, lb2, hc2⟩ := (H2.out.below hbel).at_ (show k < n2 by omega)
      have lz := hbel.size
      obtain ⟨p1, p2⟩ := Hb1.out k hlt
      obtain ⟨p3, p4⟩ := Hb2.out k hlt
      have k1 : (0 : Int) ≤ (k : Int) := by omega
      have k2 : (k : Int) < (n1 : Int) := by omega
      have k3 : (k : Int) < (n2 : Int) := by omega
      have k4 : (k : Int) < 3 := by omega
      have hcz : wr.cell? ⟨w.heap.size, k, none⟩ = some (.int .i64 ((fill3 xs ys k)[k]?.getD 0)) := by
        rw [Hblk.out.cell]
        simp [List.getElem?_eq_getElem (show k < (fill3 xs ys k).length by rw [fill3_len _ _ hk]; exact hlt)]
      have hfz : wr.frozen? ⟨w.heap.size, k, none⟩ = false := Hblk.out.frozen _
      generalize (fill3 xs ys k)[k]?.getD 0 = old at hcz
      go_wp2
      go_region
      go_wp2
      go_roundw
      case rel =>
        refine ⟨k + 1, by go_num, by omega, (hbel.setCell (p := ⟨w.heap.size, k, none⟩) (Nat.le_refl _) _).drew, ?_⟩
        have := (Hblk.out.set_ k (.int .i64 (xs[k]?.getD 0 + ys[k]?.getD 0))).drew
        rw [ints_set, fill3_set _ _ hlt] at this
        exact this
      case measure => simp [intOf]; omega
    · have ek : k = 3 := by omega
      subst ek
      go_wp2
      go_ret
      refine ⟨_, _, rfl, RdI.of_blk (by have := Hblk.out; rw [fill3_all] at this; exact this) rfl (by omega), hbel⟩

set_option maxRecDepth 100000 in
set_option maxHeartbeats 800000 in
theorem loadOf_any (A : Option Addr) (n c : Nat) (ts : List Tk) (w : World) (h : RdT w w.heap.size A n ts) (hn : n ≤ 900) (h3 : ∀ j, j < n → (ts[j]?.getD (0, [])).2.length = 3)
    (hb : ∀ j i : Nat, 0 ≤ (ts[j]?.getD (0, [])).2[i]?.getD 0 ∧ (ts[j]?.getD (0, [])).2[i]?.getD 0 ≤ 1000) :
    Calls Tryz.prog 116 #[.slice A n c] w fun e w' => ∃ A c, e = .returned (.slice A 3 c) ∧ RdI w' w'.heap.size A 3 (loadP ts) ∧ Below w.heap.size w w' := by
  have Hb := qh hb
  have H3 := qh h3
  have hl := qh h.len
  have H := qh h
  clear hb h3 h
  go_enter Tryz.func116, Tryz.ntmps116
  go_wp2_with (go_at_call 136; refine (zeros_any _).mono ?_; rintro e w1 ⟨rfl, rfl⟩)
  go_loopw [3, 9] (fun v i wr => ∃ k : Nat, i = .int .i64 k ∧ k ≤ n ∧ Below w.heap.size w wr ∧ ∃ A c, v = .slice A 3 c ∧ RdI wr wr.heap.size A 3 (loadP (ts.take k))) (fun _ i _ => n - (intOf i).toNat)
  case atStart => exact ⟨0, rfl, Nat.zero_le _, (Below.refl _ _).alloc (Nat.le_refl _) _, _, _, rfl, RdI.of_blk (xs := [0, 0, 0]) (Blk.new w _ _) rfl (by omega)⟩
  case round =>
    obtain ⟨k, rfl, hk, hbel, A', c', rfl, hr⟩ := hrel
    have Hr := qh hr
    clear hr
    by_cases hlt : k < n
    · obtain ⟨b1, o1, A2, m2, c2, rfl, lb1, hc1, hc2, _, hr2⟩ := (H.out.below hbel).at_ hlt
      have lz := hbel.size
      have em : m2 = 3 := by rw [← hr2.len]; exact H3.out k hlt
      have Hr2 := qh (hr2.more lz)
      clear hr2
      subst em
      have hal : ∀ o : Obj, Below wr.heap.size wr (wr.alloc o) := fun o => (Below.refl _ _).alloc (Nat.le_refl _) _
      have Hal := qh hal
      clear hal
      go_wp2_with fail
      refine (plus_any _ _ _ _ _ _ _ _ _ (Hr.out.up (Hal.out _)) (Hr2.out.up (Hal.out _)) (by omega) (by omega) (fun j hj => ?_) (fun j hj => ?_)).mono ?_
      · have := loadP_bd Hb.out (k := k) (by have := hl.out; omega) j hj; omega
      · have := Hb.out k j; omega
      rintro e w1 ⟨A3, c3, rfl, hr3, hb3⟩
      have Hr3 := qh hr3
      clear hr3
      go_wp2
      go_roundw
      case rel => exact ⟨k + 1, by go_num, by omega, (hbel.alloc lz _).trans (hb3.mono (by simp; omega)), _, _, rfl, by rw [loadP_take_succ (by have := hl.out; omega)]; exact Hr3.out⟩
      case measure => simp [intOf]; omega
    · have ek : k = n := by omega
      have Ek := qh ek
      clear ek
      go_wp2
      go_ret
      exact ⟨_, _, rfl, by have h1 := Hr.out; rw [Ek.out, List.take_of_length_le (by have := hl.out; omega)] at h1; exact h1, hbel⟩
end Go.Proofs.YtjjnbbkdjimcoaaGreat

namespace Go.Proofs.YtjjnbbkdjimcoaaGreat
open Go.RowKit

theorem run_make_n {P : Program} (t e : TypeId) (i : TypeInfo) (z : Value) (ht : P.underlying t = some (.slice e)) (hi : P.info? e = some i) (hz : i.zero = some z)
    (n : Nat) (hbytes : i.bytes * n ≤ 281474976710656) (h63 : n ≤ 9223372036854775807) (w : World) :
    (Instr.makeSlice t (.int .i64 (n : Int)) (.int .i64 (n : Int))).run P w = .ok (.slice (some ⟨w.heap.size, 0, none⟩) n n) (w.alloc (.cells (madeCells z.cells (n * i.size)) e)) := by
  have hb : (i.bytes : Int) * (n : Int) ≤ 281474976710656 := by
    have h : ((i.bytes * n : Nat) : Int) ≤ 281474976710656 := by omega
    rwa [Int.natCast_mul] at h
  have hr := run_make (P := P) w t e i z ht hi hz .i64 .i64 n n (by omega) (by omega) hb (by omega)
  simp only [Int.toNat_natCast] at hr
  exact hr

/-- The block g, at or above lo, holds the integers xs. -/
def OwI (w : World) (lo g : Nat) (xs : List Int) : Prop := lo ≤ g ∧ Blk w g 3 (xs.map (Value.int .i64)).toArray

/-- The first k tasks of ts lie in vs, each with a need of its own behind g. -/
def OwTk (w : World) (g k : Nat) (ts : List Tk) (vs : List Value) : Prop :=
  ∀ j, j < k → ∃ g', vs[j * 2]? = some (.int .i64 (ts[j]?.getD (0, [])).1) ∧ vs[j * 2 + 1]? = some (.slice (some ⟨g', 0, none⟩) (ts[j]?.getD (0, [])).2.length (ts[j]?.getD (0, [])).2.length) ∧
    (ts[j]?.getD (0, [])).2.length ≤ 9223372036854775807 ∧ OwI w (g + 1) g' (ts[j]?.getD (0, [])).2
/-- The block g, at or above lo, holds the tasks ts. -/
def OwT (w : World) (lo g : Nat) (ts : List Tk) : Prop := lo ≤ g ∧ ∃ vs : List Value, Blk w g 43 vs.toArray ∧ vs.length = ts.length * 2 ∧ OwTk w g ts.length ts vs

/-- The first k nodes of bs lie in vs. -/
def OwBk (w : World) (g k : Nat) (bs : List (List Tk)) (vs : List Value) : Prop :=
  ∀ j, j < k → ∃ g', vs[j]? = some (.slice (some ⟨g', 0, none⟩) (bs[j]?.getD []).length (bs[j]?.getD []).length) ∧ (bs[j]?.getD []).length ≤ 9223372036854775807 ∧ OwT w (g + 1) g' (bs[j]?.getD [])
/-- The block g, at or above lo, holds the nodes bs. -/
def OwB (w : World) (lo g : Nat) (bs : List (List Tk)) : Prop := lo ≤ g ∧ ∃ vs : List Value, Blk w g 27 vs.toArray ∧ vs.length = bs.length ∧ OwBk w g bs.length bs vs

section
variable {w w' : World} {lo lo' g k : Nat} {xs : List Int} {ts : List Tk} {bs : List (List Tk)} {vs : List Value}

theorem OwI.keep (h : OwI w lo g xs) (hk : ∀ b, lo ≤ b → b < w.heap.size → w'.heap[b]? = w.heap[b]?) (hl : lo' ≤ lo) : OwI w' lo' g xs := ⟨by have := h.1; omega, (hk g h.1 h.2.lt).trans h.2⟩
theorem OwTk.keep (h : OwTk w g k ts vs) (hk : ∀ b, g + 1 ≤ b → b < w.heap.size → w'.heap[b]? = w.heap[b]?) : OwTk w' g k ts vs := fun j hj => by
  obtain ⟨g', h1, h2, h3, h4⟩ := h j hj
  exact ⟨g', h1, h2, h3, h4.keep hk (Nat.le_refl _)⟩
theorem OwT.keep (h : OwT w lo g ts) (hk : ∀ b, lo ≤ b → b < w.heap.size → w'.heap[b]? = w.heap[b]?) (hl : lo' ≤ lo) : OwT w' lo' g ts := by
  obtain ⟨h1, vs, h2, h3, h4⟩ := h
  exact ⟨by omega, vs, (hk g h1 h2.lt).trans h2, h3, h4.keep (fun b hb => hk b (by omega))⟩
theorem OwBk.keep (h : OwBk w g k bs vs) (hk : ∀ b, g + 1 ≤ b → b < w.heap.size → w'.heap[b]? = w.heap[b]?) : OwBk w' g k bs vs := fun j hj => by
  obtain ⟨g', h1, h2, h3⟩ := h j hj
  exact ⟨g', h1, h2, h3.keep hk (Nat.le_refl _)⟩
theorem OwB.keep (h : OwB w lo g bs) (hk : ∀ b, lo ≤ b → b < w.heap.size → w'.heap[b]? = w.heap[b]?) (hl : lo' ≤ lo) : OwB w' lo' g bs := by
  obtain ⟨h1, vs, h2, h3, h4⟩ := h
  exact ⟨by omega, vs, (hk g h1 h2.lt).trans h2, h3, h4.keep (fun b hb => hk b (by omega))⟩

theorem keep_up (hb : Below w.heap.size w w') (lo : Nat) : ∀ b, lo ≤ b → b < w.heap.size → w'.heap[b]? = w.heap[b]? := fun b _ h => hb.block b h
theorem keep_set (w : World) (g i : Nat) (u : Value) : ∀ b, g + 1 ≤ b → b < w.heap.size → (w.setCell ⟨g, i, none⟩ u).heap[b]? = w.heap[b]? := fun b h _ => Below.heap_setCell w ⟨g, i, none⟩ u b (by simp; omega)

theorem OwI.rd (h : OwI w lo g xs) (hn : xs.length ≤ 9223372036854775807) : RdI w w.heap.size (some ⟨g, 0, none⟩) xs.length xs := RdI.of_blk h.2 rfl hn
theorem OwT.rd (h : OwT w lo g ts) (hn : ts.length ≤ 9223372036854775807) : RdT w w.heap.size (some ⟨g, 0, none⟩) ts.length ts := by
  obtain ⟨h1, vs, h2, h3, h4⟩ := h
  refine ⟨rfl, hn, fun _ => ⟨g, 0, rfl, h2.lt, fun j hj => ?_⟩⟩
  obtain ⟨g', e1, e2, e3, e4⟩ := h4 j hj
  refine ⟨_, _, _, ?_, ?_, Nat.le_refl _, e4.rd e3⟩
  · rw [Nat.zero_add, h2.cell]; simpa using e1
  · rw [Nat.zero_add, h2.cell]; simpa using e2
theorem OwB.rd (h : OwB w lo g bs) (hn : bs.length ≤ 9223372036854775807) : RdB w w.heap.size (some ⟨g, 0, none⟩) bs.length bs := by
  obtain ⟨h1, vs, h2, h3, h4⟩ := h
  refine ⟨rfl, hn, fun _ => ⟨g, 0, rfl, h2.lt, fun j hj => ?_⟩⟩
  obtain ⟨g', e1, e3, e4⟩ := h4 j hj
  refine ⟨_, _, _, ?_, Nat.le_refl _, e4.rd e3⟩
  rw [Nat.zero_add, h2.cell]; simpa using e1
end

theorem OwTk.put {w : World} {g k g' : Nat} {ts : List Tk} {vs : List Value} (h : OwTk w g k ts vs) (hl : k * 2 + 1 < vs.length) (hn : (ts[k]?.getD (0, [])).2.length ≤ 9223372036854775807) (ho : OwI w (g + 1) g' (ts[k]?.getD (0, [])).2) :
    OwTk w g (k + 1) ts ((vs.set (k * 2) (.int .i64 (ts[k]?.getD (0, [])).1)).set (k * 2 + 1) (.slice (some ⟨g', 0, none⟩) (ts[k]?.getD (0, [])).2.length (ts[k]?.getD (0, [])).2.length)) := fun j hj => by
  by_cases e : j = k
  · subst e
    refine ⟨g', ?_, ?_, hn, ho⟩
    · rw [List.getElem?_set_ne (by omega), List.getElem?_set_self (by omega)]
    · rw [List.getElem?_set_self (by simp; omega)]
  · obtain ⟨g'', h1, h2, h3⟩ := h j (by omega)
    refine ⟨g'', ?_, ?_, h3⟩
    · rw [List.getElem?_set_ne (by omega), List.getElem?_set_ne (by omega)]; exact h1
    · rw [List.getElem?_set_ne (by omega), List.getElem?_set_ne (by omega)]; exact h2
theorem OwBk.put {w : World} {g k g' : Nat} {bs : List (List Tk)} {vs : List Value} (h : OwBk w g k bs vs) (hl : k < vs.length) (hn : (bs[k]?.getD []).length ≤ 9223372036854775807) (ho : OwT w (g + 1) g' (bs[k]?.getD [])) :
    OwBk w g (k + 1) bs (vs.set k (.slice (some ⟨g', 0, none⟩) (bs[k]?.getD []).length (bs[k]?.getD []).length)) := fun j hj => by
  by_cases e : j = k
  · subst e
    exact ⟨g', by rw [List.getElem?_set_self (by omega)], hn, ho⟩
  · obtain ⟨g'', h1, h2⟩ := h j (by omega)
    exact ⟨g'', by rw [List.getElem?_set_ne (by omega)]; exact h1, h2⟩
end Go.Proofs.YtjjnbbkdjimcoaaGreat

namespace Go.Proofs.YtjjnbbkdjimcoaaGreat
open Go.RowKit

theorem slice_info : (Tryz.prog.info? 27).map (fun i => (i.zero, i.size, i.bytes)) = some (some (.slice none 0 0), 1, 24) := by kernel_rfl

/-- What is left of a number of places, or -1. -/
def SzOk (left : Int) (tot : Nat) (r : Int) : Prop := r = -1 ∨ (0 ≤ r ∧ r + tot = left)
/-- The values in tasks, in nodes. -/
def totT : List Tk → Nat
  | [] => 0
  | t :: ts => 1 + t.2.length + totT ts
def totB : List (List Tk) → Nat
  | [] => 0
  | b :: bs => 1 + totT b + totB bs
theorem totT_append (a b : List Tk) : totT (a ++ b) = totT a + totT b := by
  induction a with
  | nil => simp [totT]
  | cons t a ih => simp only [List.cons_append, totT, ih]; omega
theorem totT_ge (ts : List Tk) : ts.length ≤ totT ts := by
  induction ts with
  | nil => simp [totT]
  | cons t ts ih => simp only [List.length_cons, totT]; omega
theorem totB_append (a b : List (List Tk)) : totB (a ++ b) = totB a + totB b := by
  induction a with
  | nil => simp [totB]
  | cons t a ih => simp only [List.cons_append, totB, ih]; omega
theorem totB_flat (bs : List (List Tk)) : bs.flatten.length + bs.length ≤ totB bs := by
  induction bs with
  | nil => simp [totB]
  | cons b bs ih =>
    have := totT_ge b
    simp only [List.flatten_cons, List.length_append, List.length_cons, totB]
    omega
theorem totT_need {ts : List Tk} {k : Nat} (h : k < ts.length) : (ts[k]?.getD (0, [])).2.length ≤ totT ts := by
  have h1 := totT_append (ts.take k) (ts.drop k)
  rw [List.take_append_drop, List.drop_eq_getElem_cons h] at h1
  rw [List.getElem?_eq_getElem h]
  simp only [totT, Option.getD_some] at h1 ⊢
  omega
theorem totB_bin {bs : List (List Tk)} {k : Nat} (h : k < bs.length) : totT (bs[k]?.getD []) ≤ totB bs := by
  have h1 := totB_append (bs.take k) (bs.drop k)
  rw [List.take_append_drop, List.drop_eq_getElem_cons h] at h1
  rw [List.getElem?_eq_getElem h]
  simp only [totB, Option.getD_some] at h1 ⊢
  omega
/-- The needs of the first k tasks, and of k nodes. -/
def needT (ts : List Tk) : Nat := totT ts - ts.length
def needB (bs : List (List Tk)) : Nat := totB bs - bs.length
theorem needT_succ {ts : List Tk} {k : Nat} (h : k < ts.length) : needT (ts.take (k + 1)) = needT (ts.take k) + (ts[k]?.getD (0, [])).2.length := by
  have h1 := totT_ge (ts.take k)
  rw [needT, needT, List.take_succ_eq_append_getElem h, totT_append, List.getElem?_eq_getElem h]
  simp only [totT, List.length_append, List.length_cons, List.length_nil, Option.getD_some]
  omega
theorem needB_succ {bs : List (List Tk)} {k : Nat} (h : k < bs.length) : needB (bs.take (k + 1)) = needB (bs.take k) + totT (bs[k]?.getD []) := by
  have h1 := totB_flat (bs.take k)
  rw [needB, needB, List.take_succ_eq_append_getElem h, totB_append, List.getElem?_eq_getElem h]
  simp only [totB, List.length_append, List.length_cons, List.length_nil, Option.getD_some]
  omega

set_option maxHeartbeats 400000 in
theorem szIntS_any (A : Option Addr) (n c : Nat) (left : Int) (w : World) (h0 : 0 ≤ left) (h1 : left ≤ 1048576) (hn : n ≤ 9223372036854775807) :
    Calls Tryz.prog 66 #[.slice A n c, .int .i64 left] w fun e w' => ∃ r, e = .returned (.int .i64 r) ∧ SzOk left n r ∧ w = w' := by
  by_cases h : left < n
  · have h' : left - n < 0 := by omega
    go_enter Tryz.func66, Tryz.ntmps66
    go_wp2
    go_ret
    exact ⟨-1, rfl, .inl rfl, rfl⟩
  · have h' : ¬ left - n < 0 := by omega
    go_enter Tryz.func66, Tryz.ntmps66
    go_wp2
    go_ret
    exact ⟨left - n, rfl, .inr ⟨by omega, by omega⟩, rfl⟩

set_option maxHeartbeats 400000 in
theorem szTask_any (A : Option Addr) (n c : Nat) (id left : Int) (w : World) (h0 : 0 ≤ left) (h1 : left ≤ 1048576) (hn : n ≤ 9223372036854775807) :
    Calls Tryz.prog 68 #[.agg #[.int .i64 id, .slice A n c], .int .i64 left] w fun e w' => ∃ r, e = .returned (.int .i64 r) ∧ SzOk left n r ∧ Below w.heap.size w w' := by
  go_enter Tryz.func68, Tryz.ntmps68
  go_wp2_with fail
  refine (szIntS_any _ _ _ _ _ h0 h1 hn).mono ?_; rintro e w1 ⟨r, rfl, hr, rfl⟩
  have hal : Below w.heap.size w (w.alloc (.cells #[.int .i64 id, .slice A n c] 89)) := (Below.refl _ _).alloc (Nat.le_refl _) _
  rcases hr with rfl | ⟨hr, he⟩
  · go_wp2
    go_ret
    exact ⟨-1, rfl, .inl rfl, hal⟩
  · have He := qh he
    have hr' : ¬ r < 0 := by omega
    clear he
    go_wp2
    go_ret
    exact ⟨r, rfl, .inr ⟨hr, He.out⟩, hal⟩

set_option maxRecDepth 100000 in
set_option maxHeartbeats 800000 in
theorem szTaskS_any (A : Option Addr) (n c : Nat) (ts : List Tk) (left : Int) (w : World) (h : RdT w w.heap.size A n ts) (h0 : 0 ≤ left) (h1 : left ≤ 1048576) :
    Calls Tryz.prog 27 #[.slice A n c, .int .i64 left] w fun e w' => ∃ r, e = .returned (.int .i64 r) ∧ SzOk left (totT ts) r ∧ Below w.heap.size w w' := by
  have hl := qh h.len
  have hn := h.le
  have H := qh h
  clear h
  by_cases hlt : left < n
  · have h' : left - n < 0 := by omega
    go_enter Tryz.func27, Tryz.ntmps27
    go_wp2
    go_ret
    exact ⟨-1, rfl, .inl rfl, Below.refl _ _⟩
  · have h' : ¬ left - n < 0 := by omega
    go_enter Tryz.func27, Tryz.ntmps27
    go_wp2
    go_loopw [1, 5] (fun l i wr => ∃ (k : Nat) (r : Int), i = .int .i64 k ∧ k ≤ n ∧ l = .int .i64 r ∧ 0 ≤ r ∧ r ≤ 1048576 ∧ Hid (r + n + needT (ts.take k) = left) ∧ Below w.heap.size w wr) (fun _ i _ => n - (intOf i).toNat)
    case atStart => exact ⟨0, left - n, rfl, Nat.zero_le _, rfl, by omega, by omega, qh (by simp [needT, totT]), Below.refl _ _⟩
    case round =>
      obtain ⟨k, r, rfl, hk, rfl, hr0, hr1, hr, hbel⟩ := hrel
      by_cases hkn : k < n
      · obtain ⟨b, o, A', m', c', rfl, hb, hc1, hc2, hmc, hrd⟩ := (H.out.below hbel).at_ hkn
        have lz := hbel.size
        have hkl : Hid (k < ts.length) := by have := hl.out; show _ < _; omega
        have Hrd := qh hrd
        have hm := hrd.le
        clear hrd
        go_wp2_with fail
        refine (szTask_any _ _ _ _ _ _ hr0 hr1 hm).mono ?_; rintro e w1 ⟨q, rfl, hq, hb1⟩
        have hb2 := hbel.trans (hb1.mono lz)
        rcases hq with rfl | ⟨hq, he⟩
        · go_wp2
          go_ret
          exact ⟨-1, rfl, .inl rfl, hb2⟩
        · have He := qh he
          have hq' : ¬ q < 0 := by omega
          have hq1 : q ≤ 1048576 := by omega
          clear he
          go_wp2
          go_roundw
          case rel => exact ⟨k + 1, q, by go_num, by omega, rfl, hq, hq1, qh (by rw [needT_succ hkl.out, Hrd.out.len]; have := hr.out; have := He.out; omega), hb2⟩
          case measure => simp [intOf]; omega
      · have ek : k = n := by omega
        have Ek := qh ek
        clear ek
        go_wp2
        go_ret
        refine ⟨r, rfl, .inr ⟨hr0, ?_⟩, hbel⟩
        have := hr.out
        rw [Ek.out, List.take_of_length_le (by have := hl.out; omega)] at this
        have := totT_ge ts
        have := hl.out
        unfold needT at *
        omega

end Go.Proofs.YtjjnbbkdjimcoaaGreat

namespace Go.Proofs.YtjjnbbkdjimcoaaGreat
open Go.RowKit

theorem fillI_set (xs : List Int) {k : Nat} (h : k < xs.length) : (xs.take k ++ List.replicate (xs.length - k) 0).set k (xs[k]?.getD 0) = xs.take (k + 1) ++ List.replicate (xs.length - (k + 1)) 0 := by
  rw [List.getElem?_eq_getElem h]; exact fill_set xs 0 h
theorem keep_far (w : World) {lo : Nat} {p : Addr} (hp : p.block < lo) (u : Value) : ∀ b, lo ≤ b → b < w.heap.size → (w.setCell p u).heap[b]? = w.heap[b]? := fun b h _ => Below.heap_setCell w p u b (by omega)

set_option maxRecDepth 100000 in
set_option maxHeartbeats 800000 in
theorem toIntS_any (A : Option Addr) (n c : Nat) (xs : List Int) (w : World) (h : RdI w w.heap.size A n xs) (hm : n ≤ 1048576) :
    Calls Tryz.prog 69 #[.slice A n c] w fun e w' => e = .returned (.slice (some ⟨w.heap.size, 0, none⟩) n n) ∧ OwI w' w.heap.size w.heap.size xs ∧ Below w.heap.size w w' := by
  obtain ⟨i0, hi0, hz0, hz1, hz2⟩ := info_parts int_info
  have hl := qh h.len
  have hn := h.le
  have H := qh h
  clear h
  have hmk := run_make_n (P := Tryz.prog) 23 3 i0 _ Tryz.underlying23 hi0 hz0 n (by rw [hz2]; omega) (by omega)
  clear hi0 hz0 hz2
  go_enter Tryz.func69, Tryz.ntmps69
  go_wp2
  clear hmk
  go_loopw [4] (fun i wr => ∃ k : Nat, i = .int .i64 k ∧ k ≤ n ∧ Below w.heap.size w wr ∧ Blk wr w.heap.size 3 ((xs.take k ++ List.replicate (xs.length - k) 0).map (Value.int .i64)).toArray) (fun i _ => n - (intOf i).toNat)
  case atStart =>
    refine ⟨0, rfl, Nat.zero_le _, (Below.refl _ _).alloc (Nat.le_refl _) _, ?_⟩
    have e : madeCells #[.int .i64 0] n = ((xs.take 0 ++ List.replicate (xs.length - 0) 0).map (Value.int .i64)).toArray := by
      apply Array.toList_inj.1
      rw [hl.out, toList_madeCells_one]
      simp
    rw [← e]
    exact Blk.new w _ _
  case round =>
    obtain ⟨k, rfl, hk, hbel, hblk⟩ := hrel
    have Hblk := qh hblk
    clear hblk
    have lz := hbel.size
    by_cases hlt : k < n
    · obtain ⟨b, o, rfl, hb, hc⟩ := (H.out.below hbel).at_ hlt
      have hkl : Hid (k < xs.length) := by have := hl.out; show _ < _; omega
      obtain ⟨old, hcz⟩ : ∃ old, wr.cell? ⟨w.heap.size, k, none⟩ = some (.int .i64 old) := by
        rw [Hblk.out.cell]
        have hlen : (xs.take k ++ List.replicate (xs.length - k) (0 : Int)).length = xs.length := by simp; have := hkl.out; omega
        exact ⟨_, by rw [gT, List.getElem?_map, List.getElem?_eq_getElem (by rw [hlen]; exact hkl.out)]; rfl⟩
      have hfz : wr.frozen? ⟨w.heap.size, k, none⟩ = false := Hblk.out.frozen _
      go_wp2
      go_roundw
      case rel =>
        refine ⟨k + 1, by go_num, by omega, hbel.setCell (p := ⟨w.heap.size, k, none⟩) (Nat.le_refl _) _, ?_⟩
        have := Hblk.out.set_ k (.int .i64 (xs[k]?.getD 0))
        rw [ints_set, fillI_set _ hkl.out] at this
        exact this
      case measure => simp [intOf]; omega
    · have ek : k = n := by omega
      have Ek := qh ek
      clear ek
      go_wp2
      go_ret
      refine ⟨rfl, ⟨Nat.le_refl _, ?_⟩, hbel⟩
      have := Hblk.out
      rw [Ek.out, List.take_of_length_le (by have := hl.out; omega), show xs.length - n = 0 from by have := hl.out; omega] at this
      simpa using this

set_option maxRecDepth 100000 in
set_option maxHeartbeats 800000 in
theorem toTask_any (A : Option Addr) (m c : Nat) (id : Int) (xs : List Int) (w : World) (h : RdI w w.heap.size A m xs) (hm : m ≤ 1048576) :
    Calls Tryz.prog 71 #[.agg #[.int .i64 id, .slice A m c]] w fun e w' => ∃ g, e = .returned (.agg #[.int .i64 id, .slice (some ⟨g, 0, none⟩) m m]) ∧ OwI w' w.heap.size g xs ∧ Below w.heap.size w w' := by
  have H := qh h
  clear h
  go_enter Tryz.func71, Tryz.ntmps71
  go_wp2_with fail
  have hal : Below w.heap.size w (((w.alloc (.cells #[.int .i64 id, .slice A m c] 89)).alloc (.cells #[.int .i64 0, .slice none 0 0] 43)).alloc (.cells #[.int .i64 id, .slice none 0 0] 43)) :=
    (((Below.refl _ _).alloc (Nat.le_refl _) _).alloc (by simp) _).alloc (by simp; omega) _
  refine (toIntS_any A m c xs _ (H.out.up hal) hm).mono ?_; rintro e w1 ⟨rfl, ho, hb1⟩
  have hbc := bcell hb1
  have Ho := qh ho
  clear ho
  go_wp2
  have c0 : w1.cell? ⟨w.heap.size + 1, 0, none⟩ = some (.int .i64 0) := by rw [hbc.1 _ _ (by simp)]; simp [go_sem]
  have c1 : w1.cell? ⟨w.heap.size + 1, 1, none⟩ = some (.slice none 0 0) := by rw [hbc.1 _ _ (by simp)]; simp [go_sem]
  refine bodyPost_ret (v := .agg #[.int .i64 id, .slice (some ⟨w.heap.size + 1 + 1 + 1, 0, none⟩) m m]) (by simp [results, Tryz.results71, go_sem, c0, c1]) rfl ⟨_, rfl, ?_, ?_⟩
  · have h1 := Ho.out
    simp only [World.size_alloc] at h1
    exact ((h1.keep (keep_far _ (p := ⟨w.heap.size + 1 + 1, 1, none⟩) (by simp) _) (Nat.le_refl _)).keep (keep_far _ (p := ⟨w.heap.size + 1, 0, none⟩) (by simp <;> omega) _) (Nat.le_refl _)).keep (keep_far _ (p := ⟨w.heap.size + 1, 1, none⟩) (by simp <;> omega) _) (by omega)
  · exact (((hal.trans (hb1.mono (by simp <;> omega))).setCell (p := ⟨w.heap.size + 1 + 1, 1, none⟩) (by simp <;> omega) _).setCell (p := ⟨w.heap.size + 1, 0, none⟩) (by simp) _).setCell (p := ⟨w.heap.size + 1, 1, none⟩) (by simp) _

set_option maxRecDepth 100000 in
set_option maxHeartbeats 1600000 in
theorem toTaskS_any (A : Option Addr) (n c : Nat) (ts : List Tk) (w : World) (h : RdT w w.heap.size A n ts) (ht : totT ts ≤ 1048576) :
    Calls Tryz.prog 29 #[.slice A n c] w fun e w' => e = .returned (.slice (some ⟨w.heap.size, 0, none⟩) n n) ∧ OwT w' w.heap.size w.heap.size ts ∧ Below w.heap.size w w' := by
  obtain ⟨i0, hi0, hz0, hz1, hz2⟩ := info_parts task_info
  have hl := qh h.len
  have H := qh h
  have hn : n ≤ 1048576 := by have := totT_ge ts; have := h.len; omega
  have Ht := qh ht
  clear h ht
  have hmk := run_make_n (P := Tryz.prog) 27 43 i0 _ Tryz.underlying27 hi0 hz0 n (by rw [hz2]; omega) (by omega)
  have Hz1 := qh hz1
  clear hi0 hz0 hz2 hz1
  go_enter Tryz.func29, Tryz.ntmps29
  go_wp2
  clear hmk
  go_loopw [4] (fun i wr => ∃ k : Nat, i = .int .i64 k ∧ k ≤ n ∧ Below w.heap.size w wr ∧ ∃ vs : List Value, Blk wr w.heap.size 43 vs.toArray ∧ vs.length = n * 2 ∧ OwTk wr w.heap.size k ts vs) (fun i _ => n - (intOf i).toNat)
  case atStart =>
    refine ⟨0, rfl, Nat.zero_le _, (Below.refl _ _).alloc (Nat.le_refl _) _, (madeCells #[.int .i64 0, .slice none 0 0] (n * i0.size)).toList, ?_, ?_, fun j hj => absurd hj (by omega)⟩
    · rw [Array.toArray_toList]; exact Blk.new w _ _
    · rw [Array.length_toList, size_madeCells, Hz1.out]
  case round =>
    obtain ⟨k, rfl, hk, hbel, vs, hblk, hvl, hown⟩ := hrel
    have Hblk := qh hblk
    have Hvl := qh hvl
    have Hown := qh hown
    clear hblk hown hvl
    have lz := hbel.size
    by_cases hlt : k < n
    · obtain ⟨b, o, A', m', c', rfl, hb, hc1, hc2, hmc, hrd⟩ := (H.out.below hbel).at_ hlt
      have hkl : Hid (k < ts.length) := by have := hl.out; show _ < _; omega
      have Hrd := qh (hrd.more lz)
      have hm8 : m' ≤ 1048576 := by have := hrd.len; have := totT_need hkl.out; have := Ht.out; omega
      clear hrd
      go_wp2_with fail
      refine (toTask_any _ _ _ _ _ _ Hrd.out hm8).mono ?_; rintro e w1 ⟨g1, rfl, ho1, hb1⟩
      have Ho1 := qh ho1
      clear ho1 hc1 hc2
      have hbel1 : Below w.heap.size w w1 := hbel.trans (hb1.mono lz)
      have Hblk1 := qh (Hblk.out.below hb1 Hblk.out.lt)
      have Hown1 := qh (Hown.out.keep (keep_up hb1 _))
      have hk1 : k * 2 < vs.length := by have := Hvl.out; omega
      have hk2 : k * 2 + 1 < vs.length := by have := Hvl.out; omega
      obtain ⟨v1, e1⟩ : ∃ v1, w1.cell? ⟨w.heap.size, k * 2, none⟩ = some v1 := ⟨vs[k * 2], by rw [Hblk1.out.cell, gT, List.getElem?_eq_getElem hk1]⟩
      obtain ⟨v2, e2⟩ : ∃ v2, w1.cell? ⟨w.heap.size, k * 2 + 1, none⟩ = some v2 := ⟨vs[k * 2 + 1], by rw [Hblk1.out.cell, gT, List.getElem?_eq_getElem hk2]⟩
      have f1 : w1.frozen? ⟨w.heap.size, k * 2, none⟩ = false := Hblk1.out.frozen _
      have f2 : w1.frozen? ⟨w.heap.size, k * 2 + 1, none⟩ = false := Hblk1.out.frozen _
      have hg1 : w.heap.size + 1 ≤ g1 := by have := Ho1.out.1; have := Hblk.out.lt; omega
      have Hk2 := qh hk2
      clear hk1 hk2
      go_wp2
      go_roundw
      case rel =>
        refine ⟨k + 1, by go_num, by omega, (hbel1.setCell (p := ⟨w.heap.size, k * 2, none⟩) (Nat.le_refl _) _).setCell (p := ⟨w.heap.size, k * 2 + 1, none⟩) (Nat.le_refl _) _, (vs.set (k * 2) (.int .i64 (ts[k]?.getD (0, [])).1)).set (k * 2 + 1) (.slice (some ⟨g1, 0, none⟩) m' m'), ?_, ?_, ?_⟩
        · have := (Hblk1.out.set_ (k * 2) (.int .i64 (ts[k]?.getD (0, [])).1)).set_ (k * 2 + 1) (.slice (some ⟨g1, 0, none⟩) m' m')
          simp only [pS] at this
          exact this
        · simp [Hvl.out]
        · have hm : m' = (ts[k]?.getD (0, [])).2.length := Hrd.out.len.symm
          have ho : OwI w1 (w.heap.size + 1) g1 (ts[k]?.getD (0, [])).2 := ⟨hg1, Ho1.out.2⟩
          have := (Hown1.out.put Hk2.out (by have := Hrd.out.le; omega) ho)
          rw [← hm] at this
          exact (this.keep (keep_set _ _ _ _)).keep (keep_set _ _ _ _)
      case measure => simp [intOf]; omega
    · have ek : k = n := by omega
      have Ek := qh ek
      clear ek
      go_wp2
      go_ret
      refine ⟨rfl, ⟨Nat.le_refl _, vs, Hblk.out, by rw [Hvl.out, hl.out], ?_⟩, hbel⟩
      have := Hown.out
      rw [Ek.out, ← hl.out] at this
      exact this

end Go.Proofs.YtjjnbbkdjimcoaaGreat

namespace Go.Proofs.YtjjnbbkdjimcoaaGreat
open Go.RowKit
attribute [local go_sem ↓] Go.wp_at_zero Go.wp_at_succ

set_option maxRecDepth 100000 in
set_option maxHeartbeats 800000 in
theorem eqIntS_any (A1 A2 : Option Addr) (n c1 c2 B1 B2 : Nat) (xs : List Int) (w : World) (h1 : RdI w B1 A1 n xs) (h2 : RdI w B2 A2 n xs) :
    Calls Tryz.prog 37 #[.slice A1 n c1, .slice A2 n c2] w fun e w' => e = .returned (.bool true) ∧ ∃ m, w.drewN m = w' := by
  have hn := h1.le
  have H1 := qh h1
  have H2 := qh h2
  clear h1 h2
  go_enter Tryz.func37, Tryz.ntmps37
  go_wp2
  go_loopw [5] (fun i wr => ∃ k m : Nat, i = .int .i64 k ∧ k ≤ n ∧ wr = w.drewN m) (fun i _ => n - (intOf i).toNat)
  case atStart => exact ⟨0, 0, rfl, Nat.zero_le _, rfl⟩
  case round =>
    obtain ⟨k, m, rfl, hk, rfl⟩ := hrel
    by_cases hlt : k < n
    · obtain ⟨b1, o1, rfl, hb1, hc1⟩ := H1.out.at_ hlt
      obtain ⟨b2, o2, rfl, hb2, hc2⟩ := H2.out.at_ hlt
      have k1 : (0 : Int) ≤ (k : Int) := by omega
      have k2 : (k : Int) < (n : Int) := by omega
      go_wp2
      go_quiet (fail)
      go_wp2
      go_roundw
      case rel => exact ⟨k + 1, _, by go_num, by omega, rfl⟩
      case measure => simp [intOf]; omega
    · go_wp2
      go_ret
      exact ⟨rfl, _, rfl⟩

set_option maxRecDepth 100000 in
set_option maxHeartbeats 800000 in
theorem sameInts_any (A1 A2 : Option Addr) (n c1 c2 B1 B2 : Nat) (xs : List Int) (w : World) (h1 : RdI w B1 A1 n xs) (h2 : RdI w B2 A2 n xs) :
    Calls Tryz.prog 23 #[.slice A1 n c1, .slice A2 n c2] w fun e w' => e = .returned (.bool true) ∧ ∃ m, w.drewN m = w' := by
  have hn := h1.le
  have H1 := qh h1
  have H2 := qh h2
  clear h1 h2
  go_enter Tryz.func23, Tryz.ntmps23
  go_wp2
  go_loopw [5] (fun i wr => ∃ k m : Nat, i = .int .i64 k ∧ k ≤ n ∧ wr = w.drewN m) (fun i _ => n - (intOf i).toNat)
  case atStart => exact ⟨0, 0, rfl, Nat.zero_le _, rfl⟩
  case round =>
    obtain ⟨k, m, rfl, hk, rfl⟩ := hrel
    by_cases hlt : k < n
    · obtain ⟨b1, o1, rfl, hb1, hc1⟩ := H1.out.at_ hlt
      obtain ⟨b2, o2, rfl, hb2, hc2⟩ := H2.out.at_ hlt
      have k1 : (0 : Int) ≤ (k : Int) := by omega
      have k2 : (k : Int) < (n : Int) := by omega
      go_wp2
      go_quiet (fail)
      go_wp2
      go_roundw
      case rel => exact ⟨k + 1, _, by go_num, by omega, rfl⟩
      case measure => simp [intOf]; omega
    · go_wp2
      go_ret
      exact ⟨rfl, _, rfl⟩

set_option maxRecDepth 100000 in
set_option maxHeartbeats 800000 in
theorem eqTask_any (A1 A2 : Option Addr) (n c1 c2 : Nat) (id : Int) (xs : List Int) (w : World) (h1 : RdI w w.heap.size A1 n xs) (h2 : RdI w w.heap.size A2 n xs) :
    Calls Tryz.prog 73 #[.agg #[.int .i64 id, .slice A1 n c1], .agg #[.int .i64 id, .slice A2 n c2]] w fun e w' => e = .returned (.bool true) ∧ Below w.heap.size w w' := by
  have H1 := qh h1
  have H2 := qh h2
  clear h1 h2
  have hal : Below w.heap.size w ((w.alloc (.cells #[.int .i64 id, .slice A1 n c1] 43)).alloc (.cells #[.int .i64 id, .slice A2 n c2] 43)) := ((Below.refl _ _).alloc (Nat.le_refl _) _).alloc (by simp) _
  go_enter Tryz.func73, Tryz.ntmps73
  go_wp2_with fail
  refine (eqIntS_any _ _ _ _ _ _ _ _ _ (H1.out.below hal) (H2.out.below hal)).mono ?_; rintro e w1 ⟨rfl, m, rfl⟩
  go_wp2
  go_ret
  exact ⟨rfl, below_drewN hal _⟩

set_option maxRecDepth 100000 in
set_option maxHeartbeats 1600000 in
theorem eqTaskS_any (A1 A2 : Option Addr) (n c1 c2 : Nat) (ts : List Tk) (w : World) (h1 : RdT w w.heap.size A1 n ts) (h2 : RdT w w.heap.size A2 n ts) :
    Calls Tryz.prog 31 #[.slice A1 n c1, .slice A2 n c2] w fun e w' => e = .returned (.bool true) ∧ Below w.heap.size w w' := by
  have hn := h1.le
  have H1 := qh h1
  have H2 := qh h2
  clear h1 h2
  go_enter Tryz.func31, Tryz.ntmps31
  go_wp2
  go_loopw [5] (fun i wr => ∃ k : Nat, i = .int .i64 k ∧ k ≤ n ∧ Below w.heap.size w wr) (fun i _ => n - (intOf i).toNat)
  case atStart => exact ⟨0, rfl, Nat.zero_le _, Below.refl _ _⟩
  case round =>
    obtain ⟨k, rfl, hk, hbel⟩ := hrel
    have lz := hbel.size
    by_cases hlt : k < n
    · obtain ⟨b1, o1, A3, m3, c3, rfl, hb1, hc11, hc12, hmc1, hr1⟩ := (H1.out.below hbel).at_ hlt
      obtain ⟨b2, o2, A4, m4, c4, rfl, hb2, hc21, hc22, hmc2, hr2⟩ := (H2.out.below hbel).at_ hlt
      have em : m4 = m3 := by have := hr1.len; have := hr2.len; omega
      subst em
      have Hr1 := qh (hr1.more lz)
      have Hr2 := qh (hr2.more lz)
      clear hr1 hr2
      have k1 : (0 : Int) ≤ (k : Int) := by omega
      have k2 : (k : Int) < (n : Int) := by omega
      have lb1 : b1 < wr.heap.size := by omega
      have lb2 : b2 < wr.heap.size := by omega
      have k3 : 0 ≤ (k : Int) * 2 := by omega
      generalize (ts[k]?.getD (0, [])).1 = id at hc11 hc21
      go_wp2
      go_region_held3 (fun w' => w'.cell? ⟨b1, o1 + k * 2, none⟩ = some (.int .i64 id) ∧ w'.cell? ⟨b1, o1 + k * 2 + 1, none⟩ = some (.slice A3 m4 c3) ∧ w'.cell? ⟨b2, o2 + k * 2, none⟩ = some (.int .i64 id) ∧ w'.cell? ⟨b2, o2 + k * 2 + 1, none⟩ = some (.slice A4 m4 c4))
        (first
          | go_keep
          | (go_split_ands
             refine ⟨?_, ?_, ?_, ?_⟩
             · (rw [hb3.cell (p := ⟨b1, o1 + k * 2, none⟩) lb1]; assumption)
             · (rw [hb3.cell (p := ⟨b1, o1 + k * 2 + 1, none⟩) lb1]; assumption)
             · (rw [hb3.cell (p := ⟨b2, o2 + k * 2, none⟩) lb2]; assumption)
             · (rw [hb3.cell (p := ⟨b2, o2 + k * 2 + 1, none⟩) lb2]; assumption)))
        (first
          | (go_at_call 73; refine (eqTask_any A3 A4 m4 c3 c4 id _ _ (Hr1.out.drewN 1) (Hr2.out.drewN 1)).mono ?_; rintro e w3 ⟨rfl, hb3⟩))
      go_wp2
      go_roundw
      case rel => exact ⟨k + 1, by go_num, by omega, (below_drewN hbel 1).trans (hb3.mono lz)⟩
      case measure => simp [intOf]; omega
    · go_wp2
      go_ret
      exact ⟨rfl, hbel⟩

end Go.Proofs.YtjjnbbkdjimcoaaGreat

namespace Go.Proofs.YtjjnbbkdjimcoaaGreat
open Go.RowKit Go.MapKept

/-- Block b is a map that holds just the pairs of l. -/
def IMap (w : World) (b : Nat) (l : List (Int × Value)) : Prop :=
  ∃ es clock, w.heap[b]? = some (.map es clock) ∧ es.toList.map (fun e => (e.key, e.val)) = l.map (fun p => (Value.int .i64 p.1, p.2))
/-- What the map has at a key. -/
def lookL (l : List (Int × Value)) (q : Int) : Option Value := (l.find? (fun p => p.1 == q)).map (·.2)

theorem lookL_none {l : List (Int × Value)} {q : Int} (h : ∀ p ∈ l, p.1 ≠ q) : lookL l q = none := by
  unfold lookL
  have : l.find? (fun p => p.1 == q) = none := by
    rw [List.find?_eq_none]
    intro p hp
    simpa using h p hp
  rw [this]; rfl
theorem lookL_some {l : List (Int × Value)} {q : Int} (h : ∃ p ∈ l, p.1 = q) : ∃ p ∈ l, p.1 = q ∧ lookL l q = some p.2 := by
  unfold lookL
  cases hf : l.find? (fun p => p.1 == q) with
  | none =>
    rw [List.find?_eq_none] at hf
    obtain ⟨p, hp, he⟩ := h
    have := hf p hp
    simp [he] at this
  | some p =>
    exact ⟨p, List.mem_of_find?_eq_some hf, by have := List.find?_some hf; simpa using this, rfl⟩

theorem findNow_int (q : Int) : ∀ (es : List MapEntry) (l : List (Int × Value)) (i : Nat), es.map (fun e => (e.key, e.val)) = l.map (fun p => (Value.int .i64 p.1, p.2)) →
    ∃ r, Instr.findNow (.int .i64) (.int .i64 q) es i = some r ∧ r.map (·.2) = lookL l q
  | [], [], i, _ => ⟨none, rfl, rfl⟩
  | [], _ :: _, _, h => by cases h
  | _ :: _, [], _, h => by cases h
  | e :: es, p :: l, i, h => by
    simp only [List.map_cons, List.cons.injEq, Prod.mk.injEq] at h
    obtain ⟨⟨h1, h2⟩, h3⟩ := h
    by_cases hq : p.1 = q
    · refine ⟨some (i, e.val), ?_, ?_⟩
      · simp [Instr.findNow, Instr.sameNow, h1, hq]
      · simp [lookL, hq, h2]
    · obtain ⟨r, hr, hl⟩ := findNow_int q es l (i + 1) h3
      refine ⟨r, ?_, ?_⟩
      · have : (q == p.1) = false := by simp; exact fun e => hq e.symm
        simp [Instr.findNow, Instr.sameNow, h1, this, hr]
      · rw [hl]
        have : (p.1 == q) = false := by simp [hq]
        simp [lookL, this]

section
variable {P : Program} {w w' : World} {b : Nat} {l : List (Int × Value)}
theorem IMap.made (w : World) : IMap (w.alloc (.map #[] 0)) w.heap.size [] := ⟨#[], 0, heap_alloc_new w _, rfl⟩
theorem IMap.lt (h : IMap w b l) : b < w.heap.size := by obtain ⟨es, clock, hb, _⟩ := h; exact (Array.getElem?_eq_some_iff.1 hb).1
theorem IMap.of_block (h : IMap w b l) (hb : w'.heap[b]? = w.heap[b]?) : IMap w' b l := by obtain ⟨es, clock, h1, h2⟩ := h; exact ⟨es, clock, hb.trans h1, h2⟩
theorem IMap.alloc (h : IMap w b l) (o : Obj) : IMap (w.alloc o) b l := h.of_block (Below.heap_alloc w o b h.lt)
theorem IMap.drewN (h : IMap w b l) (n : Nat) : IMap (w.drewN n) b l := h
theorem IMap.below {B : Nat} (h : IMap w b l) (hb : Below B w w') (hB : b < B) : IMap w' b l := h.of_block (hb.block b hB)
theorem IMap.setCell (h : IMap w b l) {p : Addr} (hp : b ≠ p.block) (u : Value) : IMap (w.setCell p u) b l := h.of_block (Below.heap_setCell w p u b hp)

theorem IMap.look (h : IMap w b l) {t k e : TypeId} (ht : P.underlying t = some (.map k e)) (hk : P.underlying k = some (.int .i64)) {z : Value} (hz : (zeroValue e).run P w = .ok z w) (q : Int) (c : Bool) :
    (Instr.lookup t (.map (some b)) (.int .i64 q) c).run P w = .ok (if c then .tuple #[(lookL l q).getD z, .bool (lookL l q).isSome] else (lookL l q).getD z) w := by
  obtain ⟨es, clock, hb, hm⟩ := h
  obtain ⟨r, hr, hl⟩ := findNow_int q es.toList l 0 hm
  have hck : (Instr.checkKey es.isEmpty 10000 k (.int .i64 q)).run P w = .ok () w := run_checkKey hk (by simp [IsKey]) _ _
  have hfk : (Instr.findKey k (.int .i64 q) es.toList).run P w = .ok r w := run_findKey hk hr
  have hgo : (getObj b).run P w = .ok (.map es clock) w := by simp [getObj, Sem.run, hb]
  rw [← hl]
  cases r with
  | none =>
    cases c <;> simp [Instr.lookup, run_underlying ht, Result.andThen, hgo, hck, hfk, hz]
  | some r =>
    obtain ⟨i, v⟩ := r
    cases c <;> simp [Instr.lookup, run_underlying ht, Result.andThen, hgo, hck, hfk]

theorem IMap.put (h : IMap w b l) {t k e : TypeId} (ht : P.underlying t = some (.map k e)) (hk : P.underlying k = some (.int .i64)) (q : Int) (v : Value) (hn : lookL l q = none) :
    ∃ w', (Instr.mapUpdate t (.map (some b)) (.int .i64 q) v).run P w = .ok () w' ∧ IMap w' b (l ++ [(q, v)]) ∧ w.grownBy w' (some b) := by
  obtain ⟨es, clock, hb, hm⟩ := h
  obtain ⟨r, hr, hl⟩ := findNow_int q es.toList l 0 hm
  rw [hn] at hl
  have hck : (Instr.checkKey false 10000 k (.int .i64 q)).run P w = .ok () w := run_checkKey hk (by simp [IsKey]) _ _
  have hfk : (Instr.findKey k (.int .i64 q) es.toList).run P w = .ok r w := run_findKey hk hr
  have hgo : (getObj b).run P w = .ok (.map es clock) w := by simp [getObj, Sem.run, hb]
  cases r with
  | some r => cases hl
  | none =>
    refine ⟨{ w with heap := w.heap.setIfInBounds b (.map (es.push { key := .int .i64 q, val := v, born := clock }) (clock + 1)) }, ?_, ⟨_, _, (heap_set hb).1, ?_⟩, ⟨rfl, rfl, rfl, by simp, fun i _ hi => (heap_set hb).2 i (fun e => hi (by rw [e]))⟩⟩
    · simp [Instr.mapUpdate, run_underlying ht, Result.andThen, hgo, hck, hfk, run_setObj_map _ hb]
    · simp [hm]
end

section
variable {P : Program} {w : World} {ops : Array Oper} {rest : List Oper} {o : Oper} {a : Act} {Q : Exit → Act → World → Prop}
/-- 'v, ok := m[q]' at the operation. -/
theorem wpList_look_ok (hg : o.guard = none) (m x : Operand) (t : TypeId) (hop : o.op = Op.lookup t m x true) (k e : TypeId) (ht : P.underlying t = some (.map k e)) (hk : P.underlying k = some (.int .i64))
    (z : Value) (hz : (zeroValue e).run P w = .ok z w) (b : Nat) (l : List (Int × Value)) (hm : a.eval m = .map (some b)) (him : IMap w b l) (q : Int) (hx : a.eval x = .int .i64 q) (v : Value) (y : Bool)
    (hv : (lookL l q).getD z = v) (hy : (lookL l q).isSome = y) (h : wpList P ops Q rest (a.put o.dst (.tuple #[v, .bool y])) w) : wpList P ops Q (o :: rest) a w := by
  refine wpList_plain hg fun K' hK' => ?_
  have hrun := him.look (P := P) ht hk hz q true
  unfold Oper.wp
  simp [execOp, hop, hm, hx, hrun, Result.andThen, hv, hy]
  exact hK' _ _ h
/-- 'm[q]' at the operation. -/
theorem wpList_look (hg : o.guard = none) (m x : Operand) (t : TypeId) (hop : o.op = Op.lookup t m x false) (k e : TypeId) (ht : P.underlying t = some (.map k e)) (hk : P.underlying k = some (.int .i64))
    (z : Value) (hz : (zeroValue e).run P w = .ok z w) (b : Nat) (l : List (Int × Value)) (hm : a.eval m = .map (some b)) (him : IMap w b l) (q : Int) (hx : a.eval x = .int .i64 q) (v : Value)
    (hv : (lookL l q).getD z = v) (h : wpList P ops Q rest (a.put o.dst v) w) : wpList P ops Q (o :: rest) a w := by
  refine wpList_plain hg fun K' hK' => ?_
  have hrun := him.look (P := P) ht hk hz q false
  unfold Oper.wp
  simp [execOp, hop, hm, hx, hrun, Result.andThen, hv]
  exact hK' _ _ h
/-- 'm[q] = v' at the operation, q being new. -/
theorem wpList_put (hg : o.guard = none) (m x u : Operand) (t : TypeId) (hop : o.op = Op.mapUpdate t m x u) (k e : TypeId) (ht : P.underlying t = some (.map k e)) (hk : P.underlying k = some (.int .i64))
    (b : Nat) (l : List (Int × Value)) (hm : a.eval m = .map (some b)) (him : IMap w b l) (q : Int) (v : Value) (hx : a.eval x = .int .i64 q) (hv : a.eval u = v) (hn : lookL l q = none)
    (h : ∀ w', IMap w' b (l ++ [(q, v)]) → w.grownBy w' (some b) → wpList P ops Q rest (a.put o.dst undef) w') : wpList P ops Q (o :: rest) a w := by
  refine wpList_plain hg fun K' hK' => ?_
  obtain ⟨w', hrun, r1, r2⟩ := him.put (P := P) ht hk q v hn
  unfold Oper.wp
  simp [execOp, hop, hm, hx, hv, hrun, Result.andThen]
  exact hK' _ _ (h w' r1 r2)
end
end Go.Proofs.YtjjnbbkdjimcoaaGreat

namespace Go.Proofs.YtjjnbbkdjimcoaaGreat
open Go.RowKit

theorem zeroTask (w : World) : (zeroValue 43).run Tryz.prog w = .ok (.agg #[.int .i64 0, .slice none 0 0]) w := by kernel_rfl

theorem hasP_map {ts : List Tk} {id : Int} : hasP ts id = true ↔ id ∈ ts.map (·.1) := by
  simp only [hasP, List.any_eq_true, beq_iff_eq, List.mem_map]
theorem look_of_has {l : List (Int × Value)} {ts : List Tk} {id : Int} (hm : l.map (·.1) = ts.map (·.1)) (h : hasP ts id = true) : ∃ p ∈ l, p.1 = id ∧ lookL l id = some p.2 := by
  rw [hasP_map, ← hm, List.mem_map] at h
  exact lookL_some h
theorem look_of_not {l : List (Int × Value)} {ts : List Tk} {id : Int} (hm : l.map (·.1) = ts.map (·.1)) (h : hasP ts id = false) : lookL l id = none := by
  refine lookL_none (fun p hp he => ?_)
  have : hasP ts id = true := by rw [hasP_map, ← hm]; exact List.mem_map.2 ⟨p, hp, he⟩
  rw [h] at this; cases this

/-- The value of a task in a map. -/
def IsTaskV (v : Value) : Prop := ∃ i A m c, v = .agg #[.int .i64 i, .slice A m c]

set_option maxRecDepth 100000 in
set_option maxHeartbeats 1600000 in
theorem tasksValidI_any (A1 A2 : Option Addr) (n1 c1 n2 c2 : Nat) (room : List Int) (ts : List Tk) (w : World) (h1 : RdI w w.heap.size A1 n1 room) (h2 : RdT w w.heap.size A2 n2 ts) :
    Calls Tryz.prog 87 #[.slice A1 n1 c1, .slice A2 n2 c2] w fun e w' => e = .returned (.bool (tasksOk room ts)) ∧ Below w.heap.size w w' := by
  have hl := qh h2.len
  have hn := h2.le
  have H1 := qh h1
  have H2 := qh h2
  clear h1 h2
  by_cases hr : roomOk room = true
  · by_cases h14 : n2 ≤ 14
    · have Hr := qh hr
      have hmm := @run_makeMap Tryz.prog
      go_enter Tryz.func87, Tryz.ntmps87
      go_wp2_with (go_at_call 121; refine (roomValid_any _ _ _ _ _ _ H1.out).mono ?_; rintro e w1 ⟨rfl, rfl⟩)
      clear hmm hr
      go_loopw [21] (fun i wr => ∃ k : Nat, i = .int .i64 k ∧ k ≤ n2 ∧ Below w.heap.size w wr ∧ (∃ l, IMap wr w.heap.size l ∧ l.map (·.1) = (ts.take k).map (·.1) ∧ ∀ p ∈ l, IsTaskV p.2) ∧ (∀ j, j < k → taskOk room (ts[j]?.getD (0, [])) = true ∧ hasP (ts.take j) (ts[j]?.getD (0, [])).1 = false)) (fun i _ => n2 - (intOf i).toNat)
      case atStart => exact ⟨0, rfl, Nat.zero_le _, (Below.refl _ _).alloc (Nat.le_refl _) _, ⟨[], IMap.made w, rfl, by simp⟩, by intro j hj; omega⟩
      case round =>
        obtain ⟨k, rfl, hk, hbel, ⟨l, hl1, hl2, hl3⟩, hall⟩ := hrel
        have Hall := qh hall
        have L1 := qh hl1
        have L2 := qh hl2
        have L3 := qh hl3
        clear hall hl1 hl2 hl3
        by_cases hlt : k < n2
        · obtain ⟨b, o, A', m', c', rfl, hb, hc1, hc2, hmc, hrd⟩ := (H2.out.below hbel).at_ hlt
          have lz := hbel.size
          have Hrd := qh hrd
          clear hrd
          have hkl : Hid (k < ts.length) := by have := hl.out; show _ < _; omega
          generalize hid0 : (ts[k]?.getD (0, [])).1 = id at hc1
          have Hid0 := qh hid0
          clear hid0
          have hal : ∀ (o1 o2 : Obj), Below w.heap.size wr ((wr.alloc o1).alloc o2) := fun o1 o2 => ((Below.refl _ _).alloc lz _).alloc (by simp; omega) _
          have Hal := qh hal
          clear hal
          by_cases hh : hasP (ts.take k) id = true
          · obtain ⟨p, hp, hpe, hlook⟩ := look_of_has L2.out hh
            obtain ⟨i', A'', m'', c'', hpv⟩ := L3.out p hp
            rw [hpv] at hlook
            have Hlook := qh hlook
            clear hlook hpv hpe
            go_wp2_with (at_lookup; refine wpList_look_ok rfl _ _ 144 rfl 3 43 Tryz.underlying144 Tryz.underlying3 _ (zeroTask _) w.heap.size l rfl (L1.out.alloc _) id rfl (.agg #[.int .i64 i', .slice A'' m'' c'']) true (by rw [Hlook.out]; rfl) (by rw [Hlook.out]; rfl) ?_)
            go_ret
            exact ⟨ret_bool (tasksOk_twice hkl.out (by rw [Hid0.out]; exact hh)).symm, hbel.trans (Hal.out _ _)⟩
          · have hh : hasP (ts.take k) id = false := by simpa using hh
            have Hlook := qh (look_of_not L2.out hh)
            have Hh := qh hh
            clear hh
            by_cases hid : inR 1 40 id = true
            · by_cases hf : vecFits (ts[k]?.getD (0, [])).2 room = true
              · have Hf := qh hf
                have Hin := qh hid
                go_wp2_with (first
                  | (at_lookup; refine wpList_look_ok rfl _ _ 144 rfl 3 43 Tryz.underlying144 Tryz.underlying3 _ (zeroTask _) w.heap.size l rfl (L1.out.alloc _) id rfl (.agg #[.int .i64 0, .slice none 0 0]) false (by rw [Hlook.out]; rfl) (by rw [Hlook.out]; rfl) ?_)
                  | (go_at_call 122; refine (idValid_any _ _).mono ?_; rintro e w1 ⟨rfl, rfl⟩)
                  | (go_at_call 123; refine (vecFitsI_any _ _ _ _ _ _ _ _ _ _ _ (Hrd.out.below (Hal.out _ _)) (H1.out.below (hbel.trans (Hal.out _ _)))).mono ?_; rintro e w1 ⟨rfl, rfl⟩)
                  | (at_mapUpdate; refine wpList_put rfl _ _ _ 144 rfl 3 43 Tryz.underlying144 Tryz.underlying3 w.heap.size l rfl ((L1.out.alloc _).alloc _) id _ rfl rfl Hlook.out ?_; intro w2 him2 hgrow2))
                have him := qh him2
                clear him2
                go_roundw
                case rel =>
                  refine ⟨k + 1, by go_num, by omega, (hbel.trans (Hal.out _ _)).grown hgrow2 (by simp; omega) (fun j e => by injection e with e; omega), ⟨_, him.out, ?_, ?_⟩, ?_⟩
                  · rw [List.map_append, L2.out, List.take_succ_eq_append_getElem hkl.out, List.map_append]
                    have := Hid0.out
                    rw [List.getElem?_eq_getElem hkl.out] at this
                    simp only [Option.getD_some] at this
                    simp [this]
                  · intro p hp
                    rw [List.mem_append] at hp
                    rcases hp with hp | hp
                    · exact L3.out p hp
                    · simp at hp; rw [hp]; exact ⟨_, _, _, _, rfl⟩
                  · intro j hj
                    by_cases e : j = k
                    · rw [e, Hid0.out]; exact ⟨by rw [taskOk, Hid0.out, Hin.out, Hf.out]; rfl, Hh.out⟩
                    · exact Hall.out j (by omega)
                case measure => simp [intOf]; omega
              · have hf : vecFits (ts[k]?.getD (0, [])).2 room = false := by simpa using hf
                have Hf := qh hf
                go_wp2_with (first
                  | (at_lookup; refine wpList_look_ok rfl _ _ 144 rfl 3 43 Tryz.underlying144 Tryz.underlying3 _ (zeroTask _) w.heap.size l rfl (L1.out.alloc _) id rfl (.agg #[.int .i64 0, .slice none 0 0]) false (by rw [Hlook.out]; rfl) (by rw [Hlook.out]; rfl) ?_)
                  | (go_at_call 122; refine (idValid_any _ _).mono ?_; rintro e w1 ⟨rfl, rfl⟩)
                  | (go_at_call 123; refine (vecFitsI_any _ _ _ _ _ _ _ _ _ _ _ (Hrd.out.below (Hal.out _ _)) (H1.out.below (hbel.trans (Hal.out _ _)))).mono ?_; rintro e w1 ⟨rfl, rfl⟩))
                go_ret
                exact ⟨ret_bool (tasksOk_bad hkl.out (by rw [taskOk, Hf.out, Bool.and_false])).symm, hbel.trans (Hal.out _ _)⟩
            · have hid : inR 1 40 id = false := by simpa using hid
              have Hin := qh hid
              go_wp2_with (first
                | (at_lookup; refine wpList_look_ok rfl _ _ 144 rfl 3 43 Tryz.underlying144 Tryz.underlying3 _ (zeroTask _) w.heap.size l rfl (L1.out.alloc _) id rfl (.agg #[.int .i64 0, .slice none 0 0]) false (by rw [Hlook.out]; rfl) (by rw [Hlook.out]; rfl) ?_)
                | (go_at_call 122; refine (idValid_any _ _).mono ?_; rintro e w1 ⟨rfl, rfl⟩))
              go_ret
              exact ⟨ret_bool (tasksOk_bad hkl.out (by rw [taskOk, Hid0.out, Hin.out, Bool.false_and])).symm, hbel.trans (Hal.out _ _)⟩
        · go_wp2
          go_ret
          refine ⟨ret_bool ?_, hbel⟩
          rw [tasksOk_all Hr.out (fun j hj => Hall.out j (by have := hl.out; omega)), hl.out]
          symm
          simpa using h14
    · have hmm := @run_makeMap Tryz.prog
      go_enter Tryz.func87, Tryz.ntmps87
      go_wp2_with (go_at_call 121; refine (roomValid_any _ _ _ _ _ _ H1.out).mono ?_; rintro e w1 ⟨rfl, rfl⟩)
      go_ret
      refine ⟨ret_bool ?_, Below.refl _ _⟩
      symm
      rw [← Bool.not_eq_true]
      intro hh
      have := tasksOk_len hh
      have := hl.out
      omega
  · have hr : roomOk room = false := by simpa using hr
    go_enter Tryz.func87, Tryz.ntmps87
    go_wp2_with (go_at_call 121; refine (roomValid_any _ _ _ _ _ _ H1.out).mono ?_; rintro e w1 ⟨rfl, rfl⟩)
    go_ret
    exact ⟨ret_bool (tasksOk_room hr).symm, Below.refl _ _⟩

/-- slices.Grow of nothing: room for n tasks. -/
theorem grow_zero (w : World) : Calls Tryz.prog 135 #[.slice none 0 0, .int .i64 0] w fun e w' => e = .returned (.slice none 0 0) ∧ w = w' := by
  go_enter Tryz.func135, Tryz.ntmps135
  go_wp2
  go_ret
  exact ⟨rfl, rfl⟩

theorem own_zero {w : World} {base g : Nat} {t : TypeId} {cap size : Nat} {cs : Array Value} (hb : w.heap[g]? = some (.cells cs t (0, 0))) (hg : base ≤ g) (hm : cap ≤ maxLen) (hs : cs.size = cap * size) :
    w.ownsRow base t size (.slice (some ⟨g, 0, none⟩) 0 cap) 0 [] :=
  ⟨by simp, .inr ⟨g, cap, cs, rfl, hg, hb, Nat.zero_le _, hm, hs, by simp⟩⟩

set_option maxRecDepth 100000 in
set_option maxHeartbeats 800000 in
theorem grow_any (n : Nat) (hn : n ≤ 1048576) (w : World) : Calls Tryz.prog 135 #[.slice none 0 0, .int .i64 (n : Int)] w fun e w' =>
    ∃ A c, e = .returned (.slice A 0 c) ∧ w'.ownsRow w.heap.size 43 2 (.slice A 0 c) 0 [] ∧ Below w.heap.size w w' := by
  rcases Nat.eq_zero_or_pos n with h0 | h0
  · subst h0
    exact (grow_zero w).mono fun e w' ⟨he, hw⟩ => ⟨none, 0, he, by rw [← hw]; exact World.ownsRow_nil _ _ _ _, by rw [← hw]; exact Below.refl _ _⟩
  · obtain ⟨i0, hi0, hz0, hz1, hz2⟩ := info_parts task_info
    have hrun := Lib.run_append_nil_zeros (P := Tryz.prog) w 27 3 27 43 i0 _ .i64 .i64 Tryz.underlying27 Tryz.underlying3 hi0 hz0 n h0 (by omega) (by omega) (by rw [hz2]; omega)
    have hcap := grownCap_le_maxLen w n 0 43 (by unfold maxLen; omega)
    have hge := grownCap_ge w n 0 43
    generalize hgc : grownCap w n 0 43 = gc at hrun hcap hge
    have Hcap := qh hcap
    have Hrun := qh hrun
    have Hgc := qh hgc
    have k1 : (0 : Int) < (n : Int) := by omega
    clear hcap hrun hgc
    go_enter Tryz.func135, Tryz.ntmps135
    go_wp2_with (at_builtin; refine Lib.wpList_append_run _ rfl _ _ _ _ rfl _ _ rfl rfl _ _ Hrun.out ?_)
    go_ret
    refine ⟨_, _, rfl, own_zero (heap_alloc_new w.drew _) (Nat.le_refl _) Hcap.out ?_, (Below.refl _ _).drew.alloc (Nat.le_refl _) _⟩
    simp [size_zeroCells]
    omega

theorem sum_take_succ {bs : List (List Tk)} {k : Nat} (h : k < bs.length) : ((bs.take (k + 1)).flatten.length : Int) = (bs.take k).flatten.length + (bs[k]?.getD []).length := by
  rw [flat_take_succ h, List.length_append]; omega

set_option maxRecDepth 100000 in
set_option maxHeartbeats 1600000 in
theorem concat_any (A : Option Addr) (n c : Nat) (bs : List (List Tk)) (w : World) (h : RdB w w.heap.size A n bs) (hz : bs.flatten.length ≤ 1048576) :
    Calls Tryz.prog 115 #[.slice A n c] w fun e w' => ∃ A m c vs, e = .returned (.slice A m c) ∧ w'.ownsRow w.heap.size 43 2 (.slice A m c) m vs ∧ TkCells w' w.heap.size vs bs.flatten ∧ RdT w' w'.heap.size A m bs.flatten ∧ Below w.heap.size w w' := by
  obtain ⟨i0, hi0, hz0, hz1, hz2⟩ := info_parts task_info
  have hl := qh h.len
  have hn := h.le
  have H := qh h
  clear h
  go_enter Tryz.func115, Tryz.ntmps115
  go_wp2
  go_loop [3, 11] (fun s i => ∃ k q : Nat, i = .int .i64 k ∧ k ≤ n ∧ s = .int .i64 q ∧ q ≤ 1048576 ∧ Hid (q = (bs.take k).flatten.length)) (fun _ i => n - (intOf i).toNat)
  case atStart => exact ⟨0, 0, rfl, Nat.zero_le _, rfl, by omega, qh (by simp)⟩
  case round =>
    obtain ⟨k, q, rfl, hk, rfl, hq, hq2⟩ := hrel
    by_cases hlt : k < n
    · obtain ⟨b1, o1, A2, m2, c2, rfl, lb1, hc1, _, hr2⟩ := H.out.at_ hlt
      have hkl : Hid (k < bs.length) := by have := hl.out; show _ < _; omega
      have Hr2 := qh hr2
      clear hr2
      have e4 : q + m2 ≤ 1048576 := by
        have e3 := flat_take_le (bs := bs) (k + 1)
        rw [flat_take_succ hkl.out, List.length_append, Hr2.out.len, ← hq2.out] at e3; omega
      go_wp2
      go_round
      case rel => exact ⟨k + 1, q + m2, by go_num, by omega, by go_num, by omega, qh (by rw [flat_take_succ hkl.out, List.length_append, Hr2.out.len, ← hq2.out])⟩
      case measure => simp [intOf]; omega
    · have ek : k = n := by omega
      have hqf : Hid (q = bs.flatten.length) := by have := hq2.out; rw [ek, List.take_of_length_le (by have := hl.out; omega)] at this; exact this
      clear ek
      go_wp2_with (go_at_call 135; refine (grow_any _ hq _).mono ?_; rintro e w1 ⟨A0, c0, rfl, hown0, hb0⟩)
      have Hown0 := qh hown0
      clear hown0
      go_loopw [6, 27] (fun v i wr => ∃ k : Nat, i = .int .i64 k ∧ k ≤ n ∧ Below w.heap.size w wr ∧ ∃ A c m vs, v = .slice A m c ∧ Hid (m = (bs.take k).flatten.length) ∧ wr.ownsRow w.heap.size 43 2 v m vs ∧ TkCells wr w.heap.size vs (bs.take k).flatten) (fun _ i _ => n - (intOf i).toNat)
      case atStart => exact ⟨0, rfl, Nat.zero_le _, hb0, A0, c0, 0, [], rfl, qh rfl, Hown0.out, TkCells.nil⟩
      case round =>
        obtain ⟨k, rfl, hk, hbel, A1, c1, m1, vs, rfl, hm1, hown, htk⟩ := hrel
        have lz := hbel.size
        by_cases hlt : k < n
        · obtain ⟨b1, o1, A2, m2, c2, rfl, lb1, hc1, _, hr2⟩ := (H.out.below hbel).at_ hlt
          have hkl : Hid (k < bs.length) := by have := hl.out; show _ < _; omega
          obtain ⟨news, hsrc, htn⟩ := hr2.src
          have Hr2 := qh hr2
          clear hr2
          have e4 : m1 + m2 ≤ 1048576 := by
            have e3 := flat_take_le (bs := bs) (k + 1)
            rw [flat_take_succ hkl.out, List.length_append, Hr2.out.len, ← hm1.out] at e3; omega
          go_wp2_with (at_builtin; refine wpList_append_src _ rfl _ _ 27 rfl w.heap.size 43 i0 _ 2 32 Tryz.underlying27 hi0 hz0 hz1 hz2 rfl (by omega) (.slice A1 m1 c1) _ vs rfl hown A2 m2 c2 news rfl hsrc htn.one (by unfold maxLen; omega) (by omega) lz ?_; intro v' w2 hown1 hgrow hat)
          have hb' : Below w.heap.size w w2 := hbel.grown hgrow lz (fun j e => (hown.lt j e).1)
          have ht' := (htk.append htn).below ((Below.refl w.heap.size wr).grown hgrow lz (fun j e => (hown.lt j e).1))
          obtain ⟨A3, c3, rfl⟩ := own_shape hown1
          have Hown := qh hown1
          have Ht := qh ht'
          clear hown hown1 ht' htk htn hsrc
          go_roundw
          case rel => exact ⟨k + 1, by go_num, by omega, hb', A3, c3, m1 + m2, _, rfl, qh (by rw [flat_take_succ hkl.out, List.length_append, Hr2.out.len, ← hm1.out]), Hown.out, by rw [flat_take_succ hkl.out]; exact Ht.out⟩
          case measure => simp [intOf]; omega
        · have ek : k = n := by omega
          have e0 : bs.take k = bs := List.take_of_length_le (by have := hl.out; omega)
          rw [e0] at hm1 htk
          have Hown := qh hown
          have Ht := qh htk
          clear ek hown htk e0
          go_wp2
          go_ret
          exact ⟨A1, m1, c1, vs, rfl, Hown.out, Ht.out, RdT.of_own Hown.out Ht.out lz (by have := hm1.out; omega), hbel⟩

set_option maxRecDepth 100000 in
set_option maxHeartbeats 800000 in
theorem binsValidI_any (A1 A2 : Option Addr) (n1 c1 n2 c2 : Nat) (room : List Int) (bs : List (List Tk)) (w : World) (h1 : RdI w w.heap.size A1 n1 room) (h2 : RdB w w.heap.size A2 n2 bs) (hz : bs.flatten.length ≤ 1048576) :
    Calls Tryz.prog 77 #[.slice A1 n1 c1, .slice A2 n2 c2] w fun e w' => e = .returned (.bool (binsOk room bs)) ∧ Below w.heap.size w w' := by
  have hl := qh h2.len
  have hn := h2.le
  have H1 := qh h1
  have H2 := qh h2
  clear h1 h2
  by_cases h14 : n2 ≤ 14
  · by_cases hr : tasksOk room bs.flatten = true
    · have Hr := qh hr
      go_enter Tryz.func77, Tryz.ntmps77
      go_wp2_with fail
      refine (concat_any _ _ _ _ _ H2.out hz).mono ?_; rintro e w1 ⟨A3, n3, c3, vs, rfl, _, _, hr3, hb3⟩
      have Hr3 := qh hr3
      clear hr3
      go_wp2_with fail
      refine (tasksValidI_any _ _ _ _ _ _ _ _ _ (H1.out.up hb3) Hr3.out).mono ?_; rintro e w2 ⟨rfl, hb4⟩
      have hb5 : Below w.heap.size w w2 := hb3.trans (hb4.mono hb3.size)
      go_wp2
      go_loopw [19] (fun i wr => ∃ k : Nat, i = .int .i64 k ∧ k ≤ n2 ∧ Below w.heap.size w wr ∧ (∀ j, j < k → fits3 (loadP (bs[j]?.getD [])) room = true)) (fun i _ => n2 - (intOf i).toNat)
      case atStart => exact ⟨0, rfl, Nat.zero_le _, hb5, by intro j hj; omega⟩
      case round =>
        obtain ⟨k, rfl, hk, hbel, hall⟩ := hrel
        have Hall := qh hall
        clear hall
        by_cases hlt : k < n2
        · obtain ⟨b, o, A', m', c', rfl, hb, hc1, hmc, hrd⟩ := (H2.out.below hbel).at_ hlt
          have lz := hbel.size
          have hkl : Hid (k < bs.length) := by have := hl.out; show _ < _; omega
          have Hrd := qh (hrd.more lz)
          have hm : m' ≤ 14 := by have := hrd.len; have := bin_len hkl.out; have := tasksOk_len Hr.out; omega
          clear hrd
          have lo := qh (load_ok (fun t ht => tasksOk_vecs Hr.out t (bin_mem hkl.out ht)))
          by_cases hf : fits3 (loadP (bs[k]?.getD [])) room = true
          · go_wp2_with fail
            refine (loadOf_any _ _ _ _ _ Hrd.out (by omega) (fun j hj => lo.out.1 j (by have := Hrd.out.len; omega)) lo.out.2).mono ?_; rintro e w1 ⟨A4, c4, rfl, hr4, hb4⟩
            have Hr4 := qh hr4
            clear hr4
            go_wp2_with fail
            refine (fits_any _ _ _ _ _ _ _ _ _ _ Hr4.out ((H1.out.below hbel).below (hb4.mono lz)) (by have := H1.out.len; have := vecOk_len (roomOk_vec (tasksOk_room' Hr.out)); omega)).mono ?_; rintro e w3 ⟨rfl, rfl⟩
            have Hf := qh hf
            go_wp2
            go_roundw
            case rel => exact ⟨k + 1, by go_num, by omega, (hbel.trans (hb4.mono lz)), fun j hj => by
              by_cases e : j = k
              · rw [e]; exact Hf.out
              · exact Hall.out j (by omega)⟩
            case measure => simp [intOf]; omega
          · have hf : fits3 (loadP (bs[k]?.getD [])) room = false := by simpa using hf
            go_wp2_with fail
            refine (loadOf_any _ _ _ _ _ Hrd.out (by omega) (fun j hj => lo.out.1 j (by have := Hrd.out.len; omega)) lo.out.2).mono ?_; rintro e w1 ⟨A4, c4, rfl, hr4, hb4⟩
            have Hr4 := qh hr4
            clear hr4
            go_wp2_with fail
            refine (fits_any _ _ _ _ _ _ _ _ _ _ Hr4.out ((H1.out.below hbel).below (hb4.mono lz)) (by have := H1.out.len; have := vecOk_len (roomOk_vec (tasksOk_room' Hr.out)); omega)).mono ?_; rintro e w3 ⟨rfl, rfl⟩
            go_wp2
            go_ret
            refine ⟨ret_bool ?_, (hbel.trans (hb4.mono lz))⟩
            symm
            rw [binsOk, Bool.and_eq_false_iff]; right
            rw [← Bool.not_eq_true, allB_iff]
            intro hh
            have := hh k hkl.out
            rw [hf] at this; cases this
        · go_wp2
          go_ret
          refine ⟨ret_bool ?_, hbel⟩
          symm
          rw [binsOk, Hr.out, allB_iff.2 (fun j hj => Hall.out j (by have := hl.out; omega))]
          simp
          have := hl.out; omega
    · have hr : tasksOk room bs.flatten = false := by simpa using hr
      go_enter Tryz.func77, Tryz.ntmps77
      go_wp2_with fail
      refine (concat_any _ _ _ _ _ H2.out hz).mono ?_; rintro e w1 ⟨A3, n3, c3, vs, rfl, _, _, hr3, hb3⟩
      have Hr3 := qh hr3
      clear hr3
      go_wp2_with fail
      refine (tasksValidI_any _ _ _ _ _ _ _ _ _ (H1.out.up hb3) Hr3.out).mono ?_; rintro e w2 ⟨rfl, hb4⟩
      go_wp2
      go_ret
      exact ⟨ret_bool (by symm; simp [binsOk, hr]), hb3.trans (hb4.mono hb3.size)⟩
  · go_enter Tryz.func77, Tryz.ntmps77
    go_wp2
    go_ret
    exact ⟨ret_bool (by symm; rw [binsOk, decide_eq_false (by have := hl.out; omega)]; simp), Below.refl _ _⟩
end Go.Proofs.YtjjnbbkdjimcoaaGreat

namespace Go.Proofs.YtjjnbbkdjimcoaaGreat
open Go.RowKit

theorem OwI.rd' {w : World} {lo g n : Nat} {xs : List Int} (h : OwI w lo g xs) (hl : xs.length = n) (hn : n ≤ 9223372036854775807) : RdI w w.heap.size (some ⟨g, 0, none⟩) n xs := by subst hl; exact h.rd hn
theorem OwB.rd' {w : World} {lo g n : Nat} {bs : List (List Tk)} (h : OwB w lo g bs) (hl : bs.length = n) (hn : n ≤ 9223372036854775807) : RdB w w.heap.size (some ⟨g, 0, none⟩) n bs := by subst hl; exact h.rd hn

/-- A room, nodes, zones and numbers, read. -/
structure R4 (w : World) (A1 A2 A3 A4 : Option Addr) (n1 n2 n3 n4 : Nat) (room : List Int) (bs : List (List Tk)) (zones ids : List Int) : Prop where
  a : RdI w w.heap.size A1 n1 room
  b : RdB w w.heap.size A2 n2 bs
  c : RdI w w.heap.size A3 n3 zones
  d : RdI w w.heap.size A4 n4 ids
theorem R4.up {w w' : World} {A1 A2 A3 A4 : Option Addr} {n1 n2 n3 n4 : Nat} {room : List Int} {bs : List (List Tk)} {zones ids : List Int} (h : R4 w A1 A2 A3 A4 n1 n2 n3 n4 room bs zones ids) (hb : Below w.heap.size w w') : R4 w' A1 A2 A3 A4 n1 n2 n3 n4 room bs zones ids :=
  ⟨h.a.up hb, h.b.up hb, h.c.up hb, h.d.up hb⟩
theorem below_to {w a b : World} (h : Below w.heap.size w a) (k : Below a.heap.size a b) : Below w.heap.size w b := h.trans (k.mono h.size)
theorem totB_len (bs : List (List Tk)) : bs.length ≤ totB bs ∧ bs.flatten.length ≤ totB bs := by have := totB_flat bs; omega
theorem drew_below (w : World) (m : Nat) : Below w.heap.size w (w.drewN m) := below_drewN (Below.refl _ _) m

end Go.Proofs.YtjjnbbkdjimcoaaGreat
