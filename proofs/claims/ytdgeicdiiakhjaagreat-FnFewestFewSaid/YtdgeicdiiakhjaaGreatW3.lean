/- Several texts in one. -/
import Derived.Test.YtdgeicdiiakhjaaGreatW2
namespace Go.Proofs.YtdgeicdiiakhjaaGreat
open Go.RowKit

/-- The first place at which p holds, or -1. -/
def idxP {α : Type} (p : α → Bool) (xs : List α) : Int := match xs.findIdx? p with | some i => i | none => -1
theorem idxP_none {α : Type} {p : α → Bool} {xs : List α} {d : α} (h : ∀ j, j < xs.length → p (xs[j]?.getD d) = false) : idxP p xs = -1 := by
  have : xs.findIdx? p = none := by
    rw [List.findIdx?_eq_none_iff]
    intro b hb
    obtain ⟨j, hj, rfl⟩ := List.getElem_of_mem hb
    have := h j hj
    rwa [List.getElem?_eq_getElem hj] at this
  rw [idxP, this]
theorem idxP_some {α : Type} {p : α → Bool} {xs : List α} {d : α} {k : Nat} (hk : k < xs.length) (hh : p (xs[k]?.getD d) = true) (h : ∀ j, j < k → p (xs[j]?.getD d) = false) : idxP p xs = k := by
  have : xs.findIdx? p = some k := by
    rw [List.findIdx?_eq_some_iff_getElem]
    refine ⟨hk, by rwa [List.getElem?_eq_getElem hk] at hh, fun j hj => ?_⟩
    have := h j hj
    rw [List.getElem?_eq_getElem (by omega)] at this
    simpa using this
  rw [idxP, this]
theorem idxP_ge {α : Type} (p : α → Bool) (xs : List α) : decide (0 ≤ idxP p xs) = xs.any p := by
  unfold idxP
  cases h : xs.findIdx? p with
  | none =>
    rw [List.findIdx?_eq_none_iff] at h
    simp only [Int.reduceNeg, show ¬ (0 : Int) ≤ -1 by omega, decide_false]
    symm
    rw [← Bool.not_eq_true, List.any_eq_true]
    rintro ⟨x, hx, hp⟩
    rw [h x hx] at hp; cases hp
  | some i =>
    rw [List.findIdx?_eq_some_iff_getElem] at h
    obtain ⟨hi, hp, _⟩ := h
    simp only [show (0 : Int) ≤ (i : Int) by omega, decide_true]
    symm
    rw [List.any_eq_true]
    exact ⟨_, List.getElem_mem hi, hp⟩

set_option maxHeartbeats 400000 in
theorem within_any (n lo hi : Int) (w : World) :
    Calls Tryz.prog 69 #[.int .i64 n, .int .i64 lo, .int .i64 hi] w fun e w' => e = .returned (.bool (inR lo hi n)) ∧ w = w' := by
  by_cases h1 : lo ≤ n
  · go_enter Tryz.func69, Tryz.ntmps69
    go_wp2
    go_ret
    simp [inR, h1]
  · have h2 : decide (lo ≤ n) = false := by simpa using h1
    go_enter Tryz.func69, Tryz.ntmps69
    go_wp2
    go_ret
    simp [inR]
    omega

set_option maxHeartbeats 400000 in
theorem idValid_any (n : Int) (w : World) :
    Calls Tryz.prog 45 #[.int .i64 n] w fun e w' => e = .returned (.bool (inR 1 40 n)) ∧ w = w' := by
  go_enter Tryz.func45, Tryz.ntmps45
  go_wp2_with (go_at_call 69; refine (within_any _ _ _ _).mono ?_; rintro e w' ⟨rfl, rfl⟩)
  go_ret
  exact ⟨rfl, rfl⟩

set_option maxHeartbeats 400000 in
theorem badNum_any (n : Int) (w : World) :
    Calls Tryz.prog 94 #[.int .i64 n] w fun e w' => e = .returned (.bool (!inR 0 20 n)) ∧ w = w' := by
  go_enter Tryz.func94, Tryz.ntmps94
  go_wp2_with (go_at_call 69; refine (within_any _ _ _ _).mono ?_; rintro e w' ⟨rfl, rfl⟩)
  go_ret
  exact ⟨rfl, rfl⟩

set_option maxHeartbeats 400000 in
theorem indexBad_any (A : Option Addr) (n c B : Nat) (xs : List Int) (w : World) (h : RdI w B A n xs) :
    Calls Tryz.prog 96 #[.slice A n c, .func (.func 94) #[] #[]] w fun e w' => e = .returned (.int .i64 (idxP (fun x => !inR 0 20 x) xs)) ∧ w = w' := by
  have hn := h.le
  have hl := qh h.len
  have H := qh h
  clear h
  go_enter Tryz.func96, Tryz.ntmps96
  go_wp2
  go_loop [8] (fun i => ∃ k : Nat, i = .int .i64 k ∧ k ≤ n ∧ (∀ j, j < k → inR 0 20 (xs[j]?.getD 0) = true)) (fun i => n - (intOf i).toNat)
  case atStart => exact ⟨0, rfl, Nat.zero_le _, by intro j hj; omega⟩
  case round =>
    obtain ⟨k, rfl, hk, hall⟩ := hrel
    have Hall := qh hall
    clear hall
    by_cases hlt : k < n
    · obtain ⟨b, o, rfl, hb, hc⟩ := H.out.at_ hlt
      by_cases hin : inR 0 20 (xs[k]?.getD 0) = true
      · have Hin := qh hin
        go_wp2_with (go_at_call 94; refine (badNum_any _ _).mono ?_; rintro e w' ⟨rfl, rfl⟩)
        go_round
        case rel => exact ⟨k + 1, by go_num, by omega, fun j hj => by
          by_cases e : j = k
          · rw [e]; exact Hin.out
          · exact Hall.out j (by omega)⟩
        case measure => simp [intOf]; omega
      · have hin : inR 0 20 (xs[k]?.getD 0) = false := by simpa using hin
        have Hin := qh hin
        go_wp2_with (go_at_call 94; refine (badNum_any _ _).mono ?_; rintro e w' ⟨rfl, rfl⟩)
        go_ret
        exact ⟨ret_int (idxP_some (d := 0) (by rw [hl.out]; exact hlt) (by simp [Hin.out]) (fun j hj => by simp [Hall.out j hj])).symm, rfl⟩
    · go_wp2
      go_ret
      exact ⟨ret_int (idxP_none (d := 0) (fun j hj => by simp [Hall.out j (by have := hl.out; omega)])).symm, rfl⟩

set_option maxHeartbeats 400000 in
theorem containsBad_any (A : Option Addr) (n c B : Nat) (xs : List Int) (w : World) (h : RdI w B A n xs) :
    Calls Tryz.prog 93 #[.slice A n c, .func (.func 94) #[] #[]] w fun e w' => e = .returned (.bool (xs.any (fun x => !inR 0 20 x))) ∧ w = w' := by
  have H := qh h
  clear h
  go_enter Tryz.func93, Tryz.ntmps93
  go_wp2_with (go_at_call 96; refine (indexBad_any _ _ _ _ _ _ H.out).mono ?_; rintro e w' ⟨rfl, rfl⟩)
  go_ret
  exact ⟨ret_bool (idxP_ge _ _), rfl⟩

set_option maxHeartbeats 400000 in
theorem valid_any (A : Option Addr) (n c B : Nat) (xs : List Int) (w : World) (h : RdI w B A n xs) :
    Calls Tryz.prog 86 #[.slice A n c] w fun e w' => e = .returned (.bool (vecOk xs)) ∧ w = w' := by
  have hl := qh h.len
  have H := qh h
  clear h
  by_cases h3 : n = 3
  · subst h3
    go_enter Tryz.func86, Tryz.ntmps86
    go_wp2_with (go_at_call 93; refine (containsBad_any _ _ _ _ _ _ H.out).mono ?_; rintro e w' ⟨rfl, rfl⟩)
    go_ret
    refine ⟨ret_bool ?_, rfl⟩
    rw [vecOk, hl.out]
    simp [List.any_eq_not_all_not]
  · have e3 : ((n : Int) == 3) = false := by simp; omega
    go_enter Tryz.func86, Tryz.ntmps86
    go_wp2
    go_ret
    refine ⟨ret_bool ?_, rfl⟩
    symm
    rw [vecOk, hl.out]
    simp [h3]

set_option maxHeartbeats 400000 in
theorem vecValidI_any (A : Option Addr) (n c B : Nat) (xs : List Int) (w : World) (h : RdI w B A n xs) :
    Calls Tryz.prog 67 #[.slice A n c] w fun e w' => e = .returned (.bool (vecOk xs)) ∧ w = w' := by
  have H := qh h
  clear h
  go_enter Tryz.func67, Tryz.ntmps67
  go_wp2_with (go_at_call 86; refine (valid_any _ _ _ _ _ _ H.out).mono ?_; rintro e w' ⟨rfl, rfl⟩)
  go_ret
  exact ⟨rfl, rfl⟩

set_option maxHeartbeats 400000 in
theorem bothValid_any (A1 A2 : Option Addr) (n1 c1 n2 c2 B1 B2 : Nat) (xs ys : List Int) (w : World) (h1 : RdI w B1 A1 n1 xs) (h2 : RdI w B2 A2 n2 ys) :
    Calls Tryz.prog 70 #[.slice A1 n1 c1, .slice A2 n2 c2] w fun e w' => e = .returned (.bool (vecOk xs && vecOk ys)) ∧ w = w' := by
  have H1 := qh h1
  have H2 := qh h2
  clear h1 h2
  by_cases hx : vecOk xs = true
  · go_enter Tryz.func70, Tryz.ntmps70
    go_wp2_with fail
    refine (vecValidI_any _ _ _ _ _ _ H1.out).mono ?_; rintro e w1 ⟨rfl, rfl⟩
    go_wp2_with fail
    refine (vecValidI_any _ _ _ _ _ _ H2.out).mono ?_; rintro e w1 ⟨rfl, rfl⟩
    go_wp2
    go_ret
    exact ⟨ret_bool (by simp [hx]), rfl⟩
  · have hx : vecOk xs = false := by simpa using hx
    go_enter Tryz.func70, Tryz.ntmps70
    go_wp2_with fail
    refine (vecValidI_any _ _ _ _ _ _ H1.out).mono ?_; rintro e w1 ⟨rfl, rfl⟩
    go_wp2
    go_ret
    exact ⟨ret_bool (by simp [hx]), rfl⟩

set_option maxHeartbeats 400000 in
theorem fits_any (A1 A2 : Option Addr) (c1 n2 c2 B1 B2 : Nat) (xs ys : List Int) (w : World) (h1 : RdI w B1 A1 3 xs) (h2 : RdI w B2 A2 n2 ys) (hn2 : 3 ≤ n2) :
    Calls Tryz.prog 39 #[.slice A1 3 c1, .slice A2 n2 c2] w fun e w' => e = .returned (.bool (fits3 xs ys)) ∧ w = w' := by
  have H1 := qh h1
  have H2 := qh h2
  clear h1 h2
  go_enter Tryz.func39, Tryz.ntmps39
  go_wp2
  go_loop [9] (fun i => ∃ k : Nat, i = .int .i64 k ∧ k ≤ 3 ∧ (∀ j, j < k → xs[j]?.getD 0 ≤ ys[j]?.getD 0)) (fun i => 3 - (intOf i).toNat)
  case atStart => exact ⟨0, rfl, Nat.zero_le _, by intro j hj; omega⟩
  case round =>
    obtain ⟨k, rfl, hk, hall⟩ := hrel
    have Hall := qh hall
    clear hall
    by_cases hlt : k < 3
    · obtain ⟨b1, o1, rfl, hb1, hc1⟩ := H1.out.at_ hlt
      have hk2 : k < n2 := by omega
      obtain ⟨b2, o2, rfl, hb2, hc2⟩ := H2.out.at_ hk2
      by_cases hle : ys[k]?.getD 0 < xs[k]?.getD 0
      · go_wp2
        go_ret
        exact ⟨ret_bool (fits3_no hlt hle).symm, rfl⟩
      · go_wp2
        go_round
        case rel => exact ⟨k + 1, by go_num, by omega, fun j hj => by
          by_cases e : j = k
          · rw [e]; omega
          · exact Hall.out j (by omega)⟩
        case measure => simp [intOf]; omega
    · go_wp2
      go_ret
      exact ⟨ret_bool (fits3_iff.2 (fun j hj => Hall.out j (by omega))).symm, rfl⟩

set_option maxHeartbeats 400000 in
theorem vecFitsI_any (A1 A2 : Option Addr) (n1 c1 n2 c2 B1 B2 : Nat) (xs ys : List Int) (w : World) (h1 : RdI w B1 A1 n1 xs) (h2 : RdI w B2 A2 n2 ys) :
    Calls Tryz.prog 46 #[.slice A1 n1 c1, .slice A2 n2 c2] w fun e w' => e = .returned (.bool (vecFits xs ys)) ∧ w = w' := by
  have H1 := qh h1
  have H2 := qh h2
  clear h1 h2
  have hbv := bothValid_any A1 A2 n1 c1 n2 c2 B1 B2 xs ys w H1.out H2.out
  by_cases hx : (vecOk xs && vecOk ys) = true
  · rw [hx] at hbv
    have Hbv := qh hbv
    have Hx := qh hx
    simp only [Bool.and_eq_true] at hx
    have l1 : n1 = 3 := by have := H1.out.len; have := vecOk_len hx.1; omega
    have l2 : 3 ≤ n2 := by have := H2.out.len; have := vecOk_len hx.2; omega
    subst l1
    clear hx hbv
    go_enter Tryz.func46, Tryz.ntmps46
    go_wp2_with fail
    refine Hbv.out.mono ?_; rintro e w1 ⟨rfl, rfl⟩
    go_wp2_with fail
    refine (fits_any _ _ _ _ _ _ _ _ _ _ H1.out H2.out l2).mono ?_; rintro e w1 ⟨rfl, rfl⟩
    go_wp2
    go_ret
    exact ⟨ret_bool (by simp [vecFits, Hx.out]), rfl⟩
  · have hx : (vecOk xs && vecOk ys) = false := by simpa using hx
    rw [hx] at hbv
    have Hbv := qh hbv
    have Hx := qh hx
    clear hx hbv
    go_enter Tryz.func46, Tryz.ntmps46
    go_wp2_with fail
    refine Hbv.out.mono ?_; rintro e w1 ⟨rfl, rfl⟩
    go_wp2
    go_ret
    exact ⟨ret_bool (by simp [vecFits, Hx.out]), rfl⟩

def minP (xs : List Int) : Int := xs.tail.foldl min (xs[0]?.getD 0)

set_option maxHeartbeats 400000 in
/-- slices.Min of three numbers. -/
theorem min3_any (A : Option Addr) (c B : Nat) (xs : List Int) (w : World) (h : RdI w B A 3 xs) :
    Calls Tryz.prog 68 #[.slice A 3 c] w fun e w' => ∃ r : Int, e = .returned (.int .i64 r) ∧ (1 ≤ r ↔ ∀ j, j < 3 → 1 ≤ xs[j]?.getD 0) ∧ w = w' := by
  have H := qh h
  clear h
  obtain ⟨b, o, rfl, hb, hc⟩ := H.out.at_ (show 0 < 3 by omega)
  rw [Nat.add_zero] at hc
  go_enter Tryz.func68, Tryz.ntmps68
  go_wp2
  clear hc
  go_loop [3, 4] (fun m i => ∃ (k : Nat) (r : Int), i = .int .i64 k ∧ 1 ≤ k ∧ k ≤ 3 ∧ m = .int .i64 r ∧ (1 ≤ r ↔ ∀ j, j < k → 1 ≤ xs[j]?.getD 0)) (fun _ i => 3 - (intOf i).toNat)
  case atStart =>
    refine ⟨1, xs[0]?.getD 0, rfl, by omega, by omega, rfl, ?_⟩
    constructor
    · intro h j hj
      obtain rfl : j = 0 := by omega
      exact h
    · intro h
      exact h 0 (by omega)
  case round =>
    obtain ⟨k, r, rfl, hk1, hk, rfl, hr⟩ := hrel
    have Hr := qh hr
    clear hr
    by_cases hlt : k < 3
    · obtain ⟨b', o', e', hb', hc⟩ := H.out.at_ hlt
      injection e' with e'
      injection e' with e1 e2
      subst e1 e2
      go_wp2
      go_round
      case rel =>
        refine ⟨k + 1, min r (xs[k]?.getD 0), by go_num, by omega, by omega, by congr 1; split <;> omega, ?_⟩
        constructor
        · intro h j hj
          by_cases e : j = k
          · rw [e]; omega
          · exact Hr.out.1 (by omega) j (by omega)
        · intro h
          have h1 := Hr.out.2 (fun j hj => h j (by omega))
          have h2 := h k (by omega)
          omega
      case measure => simp [intOf]; omega
    · have ek : k = 3 := by omega
      subst ek
      go_wp2
      go_ret
      exact ⟨_, rfl, Hr.out, rfl⟩

set_option maxHeartbeats 400000 in
theorem roomValid_any (A : Option Addr) (n c B : Nat) (xs : List Int) (w : World) (h : RdI w B A n xs) :
    Calls Tryz.prog 44 #[.slice A n c] w fun e w' => e = .returned (.bool (roomOk xs)) ∧ w = w' := by
  have hl := qh h.len
  have H := qh h
  clear h
  have hv := vecValidI_any A n c B xs w H.out
  by_cases hx : vecOk xs = true
  · rw [hx] at hv
    have Hv := qh hv
    have Hx := qh hx
    have l1 : n = 3 := by have := H.out.len; have := vecOk_len hx; omega
    subst l1
    clear hx hv
    go_enter Tryz.func44, Tryz.ntmps44
    go_wp2_with fail
    refine Hv.out.mono ?_; rintro e w1 ⟨rfl, rfl⟩
    go_wp2_with fail
    refine (min3_any _ _ _ _ _ H.out).mono ?_; rintro e w1 ⟨r, rfl, hr, rfl⟩
    have Hr := qh hr
    clear hr
    go_wp2
    go_ret
    refine ⟨ret_bool ?_, rfl⟩
    rw [roomOk, Hx.out, Bool.true_and, Bool.eq_iff_iff, decide_eq_true_iff, Hr.out, all_iff_getD, hl.out]
    simp
  · have hx : vecOk xs = false := by simpa using hx
    rw [hx] at hv
    have Hv := qh hv
    have Hx := qh hx
    clear hx hv
    go_enter Tryz.func44, Tryz.ntmps44
    go_wp2_with fail
    refine Hv.out.mono ?_; rintro e w1 ⟨rfl, rfl⟩
    go_wp2
    go_ret
    exact ⟨ret_bool (by simp [roomOk, Hx.out]), rfl⟩

theorem fill_set {α : Type} (ys : List α) (z : α) {k : Nat} (h : k < ys.length) : (ys.take k ++ List.replicate (ys.length - k) z).set k ys[k] = ys.take (k + 1) ++ List.replicate (ys.length - (k + 1)) z := by
  have e : (ys.take k).length = k := by simp; omega
  rw [List.set_append_right _ _ (by omega), e, Nat.sub_self, show ys.length - k = (ys.length - (k + 1)) + 1 from by omega, List.replicate_succ, pZ, List.take_succ_eq_append_getElem h, List.append_assoc]
  rfl

/-- k numbers of three are filled in. -/
def fill3 (xs ys : List Int) (k : Nat) : List Int := (add3 xs ys).take k ++ List.replicate (3 - k) 0
theorem fill3_set (xs ys : List Int) {k : Nat} (h : k < 3) : (fill3 xs ys k).set k (xs[k]?.getD 0 + ys[k]?.getD 0) = fill3 xs ys (k + 1) := by
  have := fill_set (add3 xs ys) 0 (k := k) (by simp; omega)
  have e := add3_at (a := xs) (b := ys) h
  rw [List.getElem?_eq_getElem (by simp; omega)] at e
  simp only [Option.getD_some] at e
  rw [e] at this
  exact this
theorem fill3_len (xs ys : List Int) {k : Nat} (h : k ≤ 3) : (fill3 xs ys k).length = 3 := by simp [fill3]; omega

theorem fill3_all (xs ys : List Int) : fill3 xs ys 3 = add3 xs ys := rfl

theorem RdI.of_blk {w : World} {g : Nat} {t : TypeId} {xs : List Int} {n : Nat} (h : Blk w g t (xs.map (Value.int .i64)).toArray) (hl : xs.length = n) (hn : n ≤ 9223372036854775807) : RdI w w.heap.size (some ⟨g, 0, none⟩) n xs := by
  refine ⟨hl, hn, fun hp => ⟨g, 0, rfl, h.lt, fun j hj => ?_⟩⟩
  rw [Nat.zero_add, h.cell]
  simp [List.getElem?_eq_getElem (show j < xs.length by omega)]

set_option maxHeartbeats 400000 in
theorem zeros_any (w : World) :
    Calls Tryz.prog 63 #[] w fun e w' => e = .returned (.slice (some ⟨w.heap.size, 0, none⟩) 3 3) ∧ w.alloc (.cells #[.int .i64 0, .int .i64 0, .int .i64 0] 3) = w' := by
  have hmk : ∀ w, (Instr.makeSlice 50 (.int .i64 3) (.int .i64 3)).run Tryz.prog w = .ok (.slice (some ⟨w.heap.size, 0, none⟩) 3 3) (w.alloc (.cells #[.int .i64 0, .int .i64 0, .int .i64 0] 3)) := fun _ => by kernel_rfl
  go_enter Tryz.func63, Tryz.ntmps63
  go_wp2
  go_ret
  exact ⟨rfl, rfl⟩

set_option maxRecDepth 100000 in
set_option maxHeartbeats 800000 in
theorem plus_any (A1 A2 : Option Addr) (n1 c1 n2 c2 : Nat) (xs ys : List Int) (w : World) (h1 : RdI w w.heap.size A1 n1 xs) (h2 : RdI w w.heap.size A2 n2 ys) (hn1 : 3 ≤ n1) (hn2 : 3 ≤ n2)
    (hb1 : ∀ j, j < 3 → -1000000 ≤ xs[j]?.getD 0 ∧ xs[j]?.getD 0 ≤ 1000000) (hb2 : ∀ j, j < 3 → -1000000 ≤ ys[j]?.getD 0 ∧ ys[j]?.getD 0 ≤ 1000000) :
    Calls Tryz.prog 64 #[.slice A1 n1 c1, .slice A2 n2 c2] w fun e w' => ∃ A c, e = .returned (.slice A 3 c) ∧ RdI w' w'.heap.size A 3 (add3 xs ys) ∧ Below w.heap.size w w' := by
  have Hb1 := qh hb1
  have Hb2 := qh hb2
  have H1 := qh h1
  have H2 := qh h2
  clear hb1 hb2 h1 h2
  have hmk : ∀ w, (Instr.makeSlice 50 (.int .i64 3) (.int .i64 3)).run Tryz.prog w = .ok (.slice (some ⟨w.heap.size, 0, none⟩) 3 3) (w.alloc (.cells #[.int .i64 0, .int .i64 0, .int .i64 0] 3)) := fun _ => by kernel_rfl
  go_enter Tryz.func64, Tryz.ntmps64
  go_wp2
  clear hmk
  go_loopw [10] (fun i wr => ∃ k : Nat, i = .int .i64 k ∧ k ≤ 3 ∧ Below w.heap.size w wr ∧ Blk wr w.heap.size 3 ((fill3 xs ys k).map (Value.int .i64)).toArray) (fun i _ => 3 - (intOf i).toNat)
  case atStart => exact ⟨0, rfl, Nat.zero_le _, (Below.refl _ _).alloc (Nat.le_refl _) _, Blk.new w _ _⟩
  case round =>
    obtain ⟨k, rfl, hk, hbel, hblk⟩ := hrel
    have Hblk := qh hblk
    clear hblk
    by_cases hlt : k < 3
    · obtain ⟨b1, o1, rfl, lb1, hc1⟩ := (H1.out.below hbel).at_ (show k < n1 by omega)
      obtain ⟨b2, o2, rfl, lb2, hc2⟩ := (H2.out.below hbel).at_ (show k < n2 by omega)
      have lz := hbel.size
      obtain ⟨p1, p2⟩ := Hb1.out k hlt
      obtain ⟨p3, p4⟩ := Hb2.out k hlt
      have k1 : (0 : Int) ≤ (k : Int) := by omega
      have k2 : (k : Int) < (n1 : Int) := by omega
      have k3 : (k : Int) < (n2 : Int) := by omega
      have k4 : (k : Int) < 3 := by omega
      have hcz : wr.cell? ⟨w.heap.size, k, none⟩ = some (.int .i64 ((fill3 xs ys k)[k]?.getD 0)) := by
        rw [Hblk.out.cell]
        simp [List.getElem?_eq_getElem (show k < (fill3 xs ys k).length by rw [fill3_len _ _ hk]; exact hlt)]
      have hfz : wr.frozen? ⟨w.heap.size, k, none⟩ = false := Hblk.out.frozen _
      generalize (fill3 xs ys k)[k]?.getD 0 = old at hcz
      go_wp2
      go_region
      go_wp2
      go_roundw
      case rel =>
        refine ⟨k + 1, by go_num, by omega, (hbel.setCell (p := ⟨w.heap.size, k, none⟩) (Nat.le_refl _) _).drew, ?_⟩
        have := (Hblk.out.set_ k (.int .i64 (xs[k]?.getD 0 + ys[k]?.getD 0))).drew
        rw [ints_set, fill3_set _ _ hlt] at this
        exact this
      case measure => simp [intOf]; omega
    · have ek : k = 3 := by omega
      subst ek
      go_wp2
      go_ret
      refine ⟨_, _, rfl, RdI.of_blk (by have := Hblk.out; rw [fill3_all] at this; exact this) rfl (by omega), hbel⟩

set_option maxRecDepth 100000 in
set_option maxHeartbeats 800000 in
theorem loadOf_any (A : Option Addr) (n c : Nat) (ts : List Tk) (w : World) (h : RdT w w.heap.size A n ts) (hn : n ≤ 900) (h3 : ∀ j, j < n → (ts[j]?.getD (0, [])).2.length = 3)
    (hb : ∀ j i : Nat, 0 ≤ (ts[j]?.getD (0, [])).2[i]?.getD 0 ∧ (ts[j]?.getD (0, [])).2[i]?.getD 0 ≤ 1000) :
    Calls Tryz.prog 38 #[.slice A n c] w fun e w' => ∃ A c, e = .returned (.slice A 3 c) ∧ RdI w' w'.heap.size A 3 (loadP ts) ∧ Below w.heap.size w w' := by
  have Hb := qh hb
  have H3 := qh h3
  have hl := qh h.len
  have H := qh h
  clear hb h3 h
  go_enter Tryz.func38, Tryz.ntmps38
  go_wp2_with (go_at_call 63; refine (zeros_any _).mono ?_; rintro e w1 ⟨rfl, rfl⟩)
  go_loopw [3, 9] (fun v i wr => ∃ k : Nat, i = .int .i64 k ∧ k ≤ n ∧ Below w.heap.size w wr ∧ ∃ A c, v = .slice A 3 c ∧ RdI wr wr.heap.size A 3 (loadP (ts.take k))) (fun _ i _ => n - (intOf i).toNat)
  case atStart => exact ⟨0, rfl, Nat.zero_le _, (Below.refl _ _).alloc (Nat.le_refl _) _, _, _, rfl, RdI.of_blk (xs := [0, 0, 0]) (Blk.new w _ _) rfl (by omega)⟩
  case round =>
    obtain ⟨k, rfl, hk, hbel, A', c', rfl, hr⟩ := hrel
    have Hr := qh hr
    clear hr
    by_cases hlt : k < n
    · obtain ⟨b1, o1, A2, m2, c2, rfl, lb1, hc1, hc2, _, hr2⟩ := (H.out.below hbel).at_ hlt
      have lz := hbel.size
      have em : m2 = 3 := by rw [← hr2.len]; exact H3.out k hlt
      have Hr2 := qh (hr2.more lz)
      clear hr2
      subst em
      have hal : ∀ o : Obj, Below wr.heap.size wr (wr.alloc o) := fun o => (Below.refl _ _).alloc (Nat.le_refl _) _
      have Hal := qh hal
      clear hal
      go_wp2_with fail
      refine (plus_any _ _ _ _ _ _ _ _ _ (Hr.out.up (Hal.out _)) (Hr2.out.up (Hal.out _)) (by omega) (by omega) (fun j hj => ?_) (fun j hj => ?_)).mono ?_
      · have := loadP_bd Hb.out (k := k) (by have := hl.out; omega) j hj; omega
      · have := Hb.out k j; omega
      rintro e w1 ⟨A3, c3, rfl, hr3, hb3⟩
      have Hr3 := qh hr3
      clear hr3
      go_wp2
      go_roundw
      case rel => exact ⟨k + 1, by go_num, by omega, (hbel.alloc lz _).trans (hb3.mono (by simp; omega)), _, _, rfl, by rw [loadP_take_succ (by have := hl.out; omega)]; exact Hr3.out⟩
      case measure => simp [intOf]; omega
    · have ek : k = n := by omega
      have Ek := qh ek
      clear ek
      go_wp2
      go_ret
      exact ⟨_, _, rfl, by have h1 := Hr.out; rw [Ek.out, List.take_of_length_le (by have := hl.out; omega)] at h1; exact h1, hbel⟩
end Go.Proofs.YtdgeicdiiakhjaaGreat

namespace Go.Proofs.YtdgeicdiiakhjaaGreat
open Go.RowKit

theorem run_make_n {P : Program} (t e : TypeId) (i : TypeInfo) (z : Value) (ht : P.underlying t = some (.slice e)) (hi : P.info? e = some i) (hz : i.zero = some z)
    (n : Nat) (hbytes : i.bytes * n ≤ 281474976710656) (h63 : n ≤ 9223372036854775807) (w : World) :
    (Instr.makeSlice t (.int .i64 (n : Int)) (.int .i64 (n : Int))).run P w = .ok (.slice (some ⟨w.heap.size, 0, none⟩) n n) (w.alloc (.cells (madeCells z.cells (n * i.size)) e)) := by
  have hb : (i.bytes : Int) * (n : Int) ≤ 281474976710656 := by
    have h : ((i.bytes * n : Nat) : Int) ≤ 281474976710656 := by omega
    rwa [Int.natCast_mul] at h
  have hr := run_make (P := P) w t e i z ht hi hz .i64 .i64 n n (by omega) (by omega) hb (by omega)
  simp only [Int.toNat_natCast] at hr
  exact hr

/-- The block g, at or above lo, holds the integers xs. -/
def OwI (w : World) (lo g : Nat) (xs : List Int) : Prop := lo ≤ g ∧ Blk w g 3 (xs.map (Value.int .i64)).toArray

/-- The first k tasks of ts lie in vs, each with a need of its own behind g. -/
def OwTk (w : World) (g k : Nat) (ts : List Tk) (vs : List Value) : Prop :=
  ∀ j, j < k → ∃ g', vs[j * 2]? = some (.int .i64 (ts[j]?.getD (0, [])).1) ∧ vs[j * 2 + 1]? = some (.slice (some ⟨g', 0, none⟩) (ts[j]?.getD (0, [])).2.length (ts[j]?.getD (0, [])).2.length) ∧
    (ts[j]?.getD (0, [])).2.length ≤ 9223372036854775807 ∧ OwI w (g + 1) g' (ts[j]?.getD (0, [])).2
/-- The block g, at or above lo, holds the tasks ts. -/
def OwT (w : World) (lo g : Nat) (ts : List Tk) : Prop := lo ≤ g ∧ ∃ vs : List Value, Blk w g 43 vs.toArray ∧ vs.length = ts.length * 2 ∧ OwTk w g ts.length ts vs

/-- The first k nodes of bs lie in vs. -/
def OwBk (w : World) (g k : Nat) (bs : List (List Tk)) (vs : List Value) : Prop :=
  ∀ j, j < k → ∃ g', vs[j]? = some (.slice (some ⟨g', 0, none⟩) (bs[j]?.getD []).length (bs[j]?.getD []).length) ∧ (bs[j]?.getD []).length ≤ 9223372036854775807 ∧ OwT w (g + 1) g' (bs[j]?.getD [])
/-- The block g, at or above lo, holds the nodes bs. -/
def OwB (w : World) (lo g : Nat) (bs : List (List Tk)) : Prop := lo ≤ g ∧ ∃ vs : List Value, Blk w g 24 vs.toArray ∧ vs.length = bs.length ∧ OwBk w g bs.length bs vs

section
variable {w w' : World} {lo lo' g k : Nat} {xs : List Int} {ts : List Tk} {bs : List (List Tk)} {vs : List Value}

theorem OwI.keep (h : OwI w lo g xs) (hk : ∀ b, lo ≤ b → b < w.heap.size → w'.heap[b]? = w.heap[b]?) (hl : lo' ≤ lo) : OwI w' lo' g xs := ⟨by have := h.1; omega, (hk g h.1 h.2.lt).trans h.2⟩
theorem OwTk.keep (h : OwTk w g k ts vs) (hk : ∀ b, g + 1 ≤ b → b < w.heap.size → w'.heap[b]? = w.heap[b]?) : OwTk w' g k ts vs := fun j hj => by
  obtain ⟨g', h1, h2, h3, h4⟩ := h j hj
  exact ⟨g', h1, h2, h3, h4.keep hk (Nat.le_refl _)⟩
theorem OwT.keep (h : OwT w lo g ts) (hk : ∀ b, lo ≤ b → b < w.heap.size → w'.heap[b]? = w.heap[b]?) (hl : lo' ≤ lo) : OwT w' lo' g ts := by
  obtain ⟨h1, vs, h2, h3, h4⟩ := h
  exact ⟨by omega, vs, (hk g h1 h2.lt).trans h2, h3, h4.keep (fun b hb => hk b (by omega))⟩
theorem OwBk.keep (h : OwBk w g k bs vs) (hk : ∀ b, g + 1 ≤ b → b < w.heap.size → w'.heap[b]? = w.heap[b]?) : OwBk w' g k bs vs := fun j hj => by
  obtain ⟨g', h1, h2, h3⟩ := h j hj
  exact ⟨g', h1, h2, h3.keep hk (Nat.le_refl _)⟩
theorem OwB.keep (h : OwB w lo g bs) (hk : ∀ b, lo ≤ b → b < w.heap.size → w'.heap[b]? = w.heap[b]?) (hl : lo' ≤ lo) : OwB w' lo' g bs := by
  obtain ⟨h1, vs, h2, h3, h4⟩ := h
  exact ⟨by omega, vs, (hk g h1 h2.lt).trans h2, h3, h4.keep (fun b hb => hk b (by omega))⟩

theorem keep_up (hb : Below w.heap.size w w') (lo : Nat) : ∀ b, lo ≤ b → b < w.heap.size → w'.heap[b]? = w.heap[b]? := fun b _ h => hb.block b h
theorem keep_set (w : World) (g i : Nat) (u : Value) : ∀ b, g + 1 ≤ b → b < w.heap.size → (w.setCell ⟨g, i, none⟩ u).heap[b]? = w.heap[b]? := fun b h _ => Below.heap_setCell w ⟨g, i, none⟩ u b (by simp; omega)

theorem OwI.rd (h : OwI w lo g xs) (hn : xs.length ≤ 9223372036854775807) : RdI w w.heap.size (some ⟨g, 0, none⟩) xs.length xs := RdI.of_blk h.2 rfl hn
theorem OwT.rd (h : OwT w lo g ts) (hn : ts.length ≤ 9223372036854775807) : RdT w w.heap.size (some ⟨g, 0, none⟩) ts.length ts := by
  obtain ⟨h1, vs, h2, h3, h4⟩ := h
  refine ⟨rfl, hn, fun _ => ⟨g, 0, rfl, h2.lt, fun j hj => ?_⟩⟩
  obtain ⟨g', e1, e2, e3, e4⟩ := h4 j hj
  refine ⟨_, _, _, ?_, ?_, Nat.le_refl _, e4.rd e3⟩
  · rw [Nat.zero_add, h2.cell]; simpa using e1
  · rw [Nat.zero_add, h2.cell]; simpa using e2
theorem OwB.rd (h : OwB w lo g bs) (hn : bs.length ≤ 9223372036854775807) : RdB w w.heap.size (some ⟨g, 0, none⟩) bs.length bs := by
  obtain ⟨h1, vs, h2, h3, h4⟩ := h
  refine ⟨rfl, hn, fun _ => ⟨g, 0, rfl, h2.lt, fun j hj => ?_⟩⟩
  obtain ⟨g', e1, e3, e4⟩ := h4 j hj
  refine ⟨_, _, _, ?_, Nat.le_refl _, e4.rd e3⟩
  rw [Nat.zero_add, h2.cell]; simpa using e1
end

theorem OwTk.put {w : World} {g k g' : Nat} {ts : List Tk} {vs : List Value} (h : OwTk w g k ts vs) (hl : k * 2 + 1 < vs.length) (hn : (ts[k]?.getD (0, [])).2.length ≤ 9223372036854775807) (ho : OwI w (g + 1) g' (ts[k]?.getD (0, [])).2) :
    OwTk w g (k + 1) ts ((vs.set (k * 2) (.int .i64 (ts[k]?.getD (0, [])).1)).set (k * 2 + 1) (.slice (some ⟨g', 0, none⟩) (ts[k]?.getD (0, [])).2.length (ts[k]?.getD (0, [])).2.length)) := fun j hj => by
  by_cases e : j = k
  · subst e
    refine ⟨g', ?_, ?_, hn, ho⟩
    · rw [List.getElem?_set_ne (by omega), List.getElem?_set_self (by omega)]
    · rw [List.getElem?_set_self (by simp; omega)]
  · obtain ⟨g'', h1, h2, h3⟩ := h j (by omega)
    refine ⟨g'', ?_, ?_, h3⟩
    · rw [List.getElem?_set_ne (by omega), List.getElem?_set_ne (by omega)]; exact h1
    · rw [List.getElem?_set_ne (by omega), List.getElem?_set_ne (by omega)]; exact h2
theorem OwBk.put {w : World} {g k g' : Nat} {bs : List (List Tk)} {vs : List Value} (h : OwBk w g k bs vs) (hl : k < vs.length) (hn : (bs[k]?.getD []).length ≤ 9223372036854775807) (ho : OwT w (g + 1) g' (bs[k]?.getD [])) :
    OwBk w g (k + 1) bs (vs.set k (.slice (some ⟨g', 0, none⟩) (bs[k]?.getD []).length (bs[k]?.getD []).length)) := fun j hj => by
  by_cases e : j = k
  · subst e
    exact ⟨g', by rw [List.getElem?_set_self (by omega)], hn, ho⟩
  · obtain ⟨g'', h1, h2⟩ := h j (by omega)
    exact ⟨g'', by rw [List.getElem?_set_ne (by omega)]; exact h1, h2⟩
end Go.Proofs.YtdgeicdiiakhjaaGreat

namespace Go.Proofs.YtdgeicdiiakhjaaGreat
open Go.RowKit

theorem slice_info : (Tryz.prog.info? 24).map (fun i => (i.zero, i.size, i.bytes)) = some (some (.slice none 0 0), 1, 24) := by kernel_rfl

/-- What is left of a number of places, or -1. -/
def SzOk (left : Int) (tot : Nat) (r : Int) : Prop := r = -1 ∨ (0 ≤ r ∧ r + tot = left)
/-- The values in tasks, in nodes. -/
def totT : List Tk → Nat
  | [] => 0
  | t :: ts => 1 + t.2.length + totT ts
def totB : List (List Tk) → Nat
  | [] => 0
  | b :: bs => 1 + totT b + totB bs
theorem totT_append (a b : List Tk) : totT (a ++ b) = totT a + totT b := by
  induction a with
  | nil => simp [totT]
  | cons t a ih => simp only [List.cons_append, totT, ih]; omega
theorem totT_ge (ts : List Tk) : ts.length ≤ totT ts := by
  induction ts with
  | nil => simp [totT]
  | cons t ts ih => simp only [List.length_cons, totT]; omega
theorem totB_append (a b : List (List Tk)) : totB (a ++ b) = totB a + totB b := by
  induction a with
  | nil => simp [totB]
  | cons t a ih => simp only [List.cons_append, totB, ih]; omega
theorem totB_flat (bs : List (List Tk)) : bs.flatten.length + bs.length ≤ totB bs := by
  induction bs with
  | nil => simp [totB]
  | cons b bs ih =>
    have := totT_ge b
    simp only [List.flatten_cons, List.length_append, List.length_cons, totB]
    omega
theorem totT_need {ts : List Tk} {k : Nat} (h : k < ts.length) : (ts[k]?.getD (0, [])).2.length ≤ totT ts := by
  have h1 := totT_append (ts.take k) (ts.drop k)
  rw [List.take_append_drop, List.drop_eq_getElem_cons h] at h1
  rw [List.getElem?_eq_getElem h]
  simp only [totT, Option.getD_some] at h1 ⊢
  omega
theorem totB_bin {bs : List (List Tk)} {k : Nat} (h : k < bs.length) : totT (bs[k]?.getD []) ≤ totB bs := by
  have h1 := totB_append (bs.take k) (bs.drop k)
  rw [List.take_append_drop, List.drop_eq_getElem_cons h] at h1
  rw [List.getElem?_eq_getElem h]
  simp only [totB, Option.getD_some] at h1 ⊢
  omega
/-- The needs of the first k tasks, and of k nodes. -/
def needT (ts : List Tk) : Nat := totT ts - ts.length
def needB (bs : List (List Tk)) : Nat := totB bs - bs.length
theorem needT_succ {ts : List Tk} {k : Nat} (h : k < ts.length) : needT (ts.take (k + 1)) = needT (ts.take k) + (ts[k]?.getD (0, [])).2.length := by
  have h1 := totT_ge (ts.take k)
  rw [needT, needT, List.take_succ_eq_append_getElem h, totT_append, List.getElem?_eq_getElem h]
  simp only [totT, List.length_append, List.length_cons, List.length_nil, Option.getD_some]
  omega
theorem needB_succ {bs : List (List Tk)} {k : Nat} (h : k < bs.length) : needB (bs.take (k + 1)) = needB (bs.take k) + totT (bs[k]?.getD []) := by
  have h1 := totB_flat (bs.take k)
  rw [needB, needB, List.take_succ_eq_append_getElem h, totB_append, List.getElem?_eq_getElem h]
  simp only [totB, List.length_append, List.length_cons, List.length_nil, Option.getD_some]
  omega




end Go.Proofs.YtdgeicdiiakhjaaGreat

namespace Go.Proofs.YtdgeicdiiakhjaaGreat
open Go.RowKit

theorem fillI_set (xs : List Int) {k : Nat} (h : k < xs.length) : (xs.take k ++ List.replicate (xs.length - k) 0).set k (xs[k]?.getD 0) = xs.take (k + 1) ++ List.replicate (xs.length - (k + 1)) 0 := by
  rw [List.getElem?_eq_getElem h]; exact fill_set xs 0 h
theorem keep_far (w : World) {lo : Nat} {p : Addr} (hp : p.block < lo) (u : Value) : ∀ b, lo ≤ b → b < w.heap.size → (w.setCell p u).heap[b]? = w.heap[b]? := fun b h _ => Below.heap_setCell w p u b (by omega)




end Go.Proofs.YtdgeicdiiakhjaaGreat
