/- Several texts in one. -/
import Derived.Test.YtlcgbnmmbheleaaGreatV8
import Derived.Conc.CompanyMem
namespace Go.Proofs.YtlcgbnmmbheleaaGreat
open Go.RowKit

def idxP {α : Type} (p : α → Bool) (xs : List α) : Int := match xs.findIdx? p with | some i => i | none => -1
theorem idxP_none {α : Type} {p : α → Bool} {xs : List α} {d : α} (h : ∀ j, j < xs.length → p (xs[j]?.getD d) = false) : idxP p xs = -1 := by
  have : xs.findIdx? p = none := by
    rw [List.findIdx?_eq_none_iff]
    intro b hb
    obtain ⟨j, hj, rfl⟩ := List.getElem_of_mem hb
    have := h j hj
    rwa [List.getElem?_eq_getElem hj] at this
  rw [idxP, this]
theorem idxP_some {α : Type} {p : α → Bool} {xs : List α} {d : α} {k : Nat} (hk : k < xs.length) (hh : p (xs[k]?.getD d) = true) (h : ∀ j, j < k → p (xs[j]?.getD d) = false) : idxP p xs = k := by
  have : xs.findIdx? p = some k := by
    rw [List.findIdx?_eq_some_iff_getElem]
    refine ⟨hk, by rwa [List.getElem?_eq_getElem hk] at hh, fun j hj => ?_⟩
    have := h j hj
    rw [List.getElem?_eq_getElem (by omega)] at this
    simpa using this
  rw [idxP, this]
theorem idxP_ge {α : Type} (p : α → Bool) (xs : List α) : decide (0 ≤ idxP p xs) = xs.any p := by
  unfold idxP
  cases h : xs.findIdx? p with
  | none =>
    rw [List.findIdx?_eq_none_iff] at h
    simp only [Int.reduceNeg, show ¬ (0 : Int) ≤ -1 by omega, decide_false]
    symm
    rw [← Bool.not_eq_true, List.any_eq_true]
    rintro ⟨x, hx, hp⟩
    rw [h x hx] at hp; cases hp
  | some i =>
    rw [List.findIdx?_eq_some_iff_getElem] at h
    obtain ⟨hi, hp, _⟩ := h
    simp only [show (0 : Int) ≤ (i : Int) by omega, decide_true]
    symm
    rw [List.any_eq_true]
    exact ⟨_, List.getElem_mem hi, hp⟩

set_option maxHeartbeats 400000 in
theorem within_any (n lo hi : Int) (w : World) :
    Calls Tryz.prog 19 #[.int .i64 n, .int .i64 lo, .int .i64 hi] w fun e w' => e = .returned (.bool (inR lo hi n)) ∧ w = w' := by
  by_cases h1 : lo ≤ n
  · go_enter Tryz.func19, Tryz.ntmps19
    go_wp2
    go_ret
    simp [inR, h1]
  · have h2 : decide (lo ≤ n) = false := by simpa using h1
    go_enter Tryz.func19, Tryz.ntmps19
    go_wp2
    go_ret
    simp [inR]
    omega

set_option maxHeartbeats 400000 in
theorem idValid_any (n : Int) (w : World) :
    Calls Tryz.prog 102 #[.int .i64 n] w fun e w' => e = .returned (.bool (inR 1 40 n)) ∧ w = w' := by
  go_enter Tryz.func102, Tryz.ntmps102
  go_wp2_with (go_at_call 19; refine (within_any _ _ _ _).mono ?_; rintro e w' ⟨rfl, rfl⟩)
  go_ret
  exact ⟨rfl, rfl⟩

set_option maxHeartbeats 400000 in
theorem badNum_any (n : Int) (w : World) :
    Calls Tryz.prog 134 #[.int .i64 n] w fun e w' => e = .returned (.bool (!inR 0 20 n)) ∧ w = w' := by
  go_enter Tryz.func134, Tryz.ntmps134
  go_wp2_with (go_at_call 19; refine (within_any _ _ _ _).mono ?_; rintro e w' ⟨rfl, rfl⟩)
  go_ret
  exact ⟨rfl, rfl⟩

set_option maxHeartbeats 400000 in
theorem indexBad_any (A : Option Addr) (n c B : Nat) (xs : List Int) (w : World) (h : RdI w B A n xs) :
    Calls Tryz.prog 135 #[.slice A n c, .func (.func 134) #[] #[]] w fun e w' => e = .returned (.int .i64 (idxP (fun x => !inR 0 20 x) xs)) ∧ w = w' := by
  have hn := h.le
  have hl := qh h.len
  have H := qh h
  clear h
  go_enter Tryz.func135, Tryz.ntmps135
  go_wp2
  go_loop [8] (fun i => ∃ k : Nat, i = .int .i64 k ∧ k ≤ n ∧ (∀ j, j < k → inR 0 20 (xs[j]?.getD 0) = true)) (fun i => n - (intOf i).toNat)
  case atStart => exact ⟨0, rfl, Nat.zero_le _, by intro j hj; omega⟩
  case round =>
    obtain ⟨k, rfl, hk, hall⟩ := hrel
    have Hall := qh hall
    clear hall
    by_cases hlt : k < n
    · obtain ⟨b, o, rfl, hb, hc⟩ := H.out.at_ hlt
      by_cases hin : inR 0 20 (xs[k]?.getD 0) = true
      · have Hin := qh hin
        go_wp2_with (go_at_call 134; refine (badNum_any _ _).mono ?_; rintro e w' ⟨rfl, rfl⟩)
        go_round
        case rel => exact ⟨k + 1, by go_num, by omega, fun j hj => by
          by_cases e : j = k
          · rw [e]; exact Hin.out
          · exact Hall.out j (by omega)⟩
        case measure => simp [intOf]; omega
      · have hin : inR 0 20 (xs[k]?.getD 0) = false := by simpa using hin
        have Hin := qh hin
        go_wp2_with (go_at_call 134; refine (badNum_any _ _).mono ?_; rintro e w' ⟨rfl, rfl⟩)
        go_ret
        exact ⟨ret_int (idxP_some (d := 0) (by rw [hl.out]; exact hlt) (by simp [Hin.out]) (fun j hj => by simp [Hall.out j hj])).symm, rfl⟩
    · go_wp2
      go_ret
      exact ⟨ret_int (idxP_none (d := 0) (fun j hj => by simp [Hall.out j (by have := hl.out; omega)])).symm, rfl⟩

set_option maxHeartbeats 400000 in
theorem containsBad_any (A : Option Addr) (n c B : Nat) (xs : List Int) (w : World) (h : RdI w B A n xs) :
    Calls Tryz.prog 133 #[.slice A n c, .func (.func 134) #[] #[]] w fun e w' => e = .returned (.bool (xs.any (fun x => !inR 0 20 x))) ∧ w = w' := by
  have H := qh h
  clear h
  go_enter Tryz.func133, Tryz.ntmps133
  go_wp2_with (go_at_call 135; refine (indexBad_any _ _ _ _ _ _ H.out).mono ?_; rintro e w' ⟨rfl, rfl⟩)
  go_ret
  exact ⟨ret_bool (idxP_ge _ _), rfl⟩

set_option maxHeartbeats 400000 in
theorem valid_any (A : Option Addr) (n c B : Nat) (xs : List Int) (w : World) (h : RdI w B A n xs) :
    Calls Tryz.prog 132 #[.slice A n c] w fun e w' => e = .returned (.bool (vecOk xs)) ∧ w = w' := by
  have hl := qh h.len
  have H := qh h
  clear h
  by_cases h3 : n = 3
  · subst h3
    go_enter Tryz.func132, Tryz.ntmps132
    go_wp2_with (go_at_call 133; refine (containsBad_any _ _ _ _ _ _ H.out).mono ?_; rintro e w' ⟨rfl, rfl⟩)
    go_ret
    refine ⟨ret_bool ?_, rfl⟩
    rw [vecOk, hl.out]
    simp [List.any_eq_not_all_not]
  · have e3 : ((n : Int) == 3) = false := by simp; omega
    go_enter Tryz.func132, Tryz.ntmps132
    go_wp2
    go_ret
    refine ⟨ret_bool ?_, rfl⟩
    symm
    rw [vecOk, hl.out]
    simp [h3]

set_option maxHeartbeats 400000 in
theorem vecValidI_any (A : Option Addr) (n c B : Nat) (xs : List Int) (w : World) (h : RdI w B A n xs) :
    Calls Tryz.prog 121 #[.slice A n c] w fun e w' => e = .returned (.bool (vecOk xs)) ∧ w = w' := by
  have H := qh h
  clear h
  go_enter Tryz.func121, Tryz.ntmps121
  go_wp2_with (go_at_call 132; refine (valid_any _ _ _ _ _ _ H.out).mono ?_; rintro e w' ⟨rfl, rfl⟩)
  go_ret
  exact ⟨rfl, rfl⟩

set_option maxHeartbeats 400000 in
theorem bothValid_any (A1 A2 : Option Addr) (n1 c1 n2 c2 B1 B2 : Nat) (xs ys : List Int) (w : World) (h1 : RdI w B1 A1 n1 xs) (h2 : RdI w B2 A2 n2 ys) :
    Calls Tryz.prog 123 #[.slice A1 n1 c1, .slice A2 n2 c2] w fun e w' => e = .returned (.bool (vecOk xs && vecOk ys)) ∧ w = w' := by
  have H1 := qh h1
  have H2 := qh h2
  clear h1 h2
  by_cases hx : vecOk xs = true
  · go_enter Tryz.func123, Tryz.ntmps123
    go_wp2_with fail
    refine (vecValidI_any _ _ _ _ _ _ H1.out).mono ?_; rintro e w1 ⟨rfl, rfl⟩
    go_wp2_with fail
    refine (vecValidI_any _ _ _ _ _ _ H2.out).mono ?_; rintro e w1 ⟨rfl, rfl⟩
    go_wp2
    go_ret
    exact ⟨ret_bool (by simp [hx]), rfl⟩
  · have hx : vecOk xs = false := by simpa using hx
    go_enter Tryz.func123, Tryz.ntmps123
    go_wp2_with fail
    refine (vecValidI_any _ _ _ _ _ _ H1.out).mono ?_; rintro e w1 ⟨rfl, rfl⟩
    go_wp2
    go_ret
    exact ⟨ret_bool (by simp [hx]), rfl⟩

set_option maxHeartbeats 400000 in
theorem fits_any (A1 A2 : Option Addr) (c1 n2 c2 B1 B2 : Nat) (xs ys : List Int) (w : World) (h1 : RdI w B1 A1 3 xs) (h2 : RdI w B2 A2 n2 ys) (hn2 : 3 ≤ n2) :
    Calls Tryz.prog 74 #[.slice A1 3 c1, .slice A2 n2 c2] w fun e w' => e = .returned (.bool (fits3 xs ys)) ∧ w = w' := by
  have H1 := qh h1
  have H2 := qh h2
  clear h1 h2
  go_enter Tryz.func74, Tryz.ntmps74
  go_wp2
  go_loop [9] (fun i => ∃ k : Nat, i = .int .i64 k ∧ k ≤ 3 ∧ (∀ j, j < k → xs[j]?.getD 0 ≤ ys[j]?.getD 0)) (fun i => 3 - (intOf i).toNat)
  case atStart => exact ⟨0, rfl, Nat.zero_le _, by intro j hj; omega⟩
  case round =>
    obtain ⟨k, rfl, hk, hall⟩ := hrel
    have Hall := qh hall
    clear hall
    by_cases hlt : k < 3
    · obtain ⟨b1, o1, rfl, hb1, hc1⟩ := H1.out.at_ hlt
      have hk2 : k < n2 := by omega
      obtain ⟨b2, o2, rfl, hb2, hc2⟩ := H2.out.at_ hk2
      by_cases hle : ys[k]?.getD 0 < xs[k]?.getD 0
      · go_wp2
        go_ret
        exact ⟨ret_bool (fits3_no hlt hle).symm, rfl⟩
      · go_wp2
        go_round
        case rel => exact ⟨k + 1, by go_num, by omega, fun j hj => by
          by_cases e : j = k
          · rw [e]; omega
          · exact Hall.out j (by omega)⟩
        case measure => simp [intOf]; omega
    · go_wp2
      go_ret
      exact ⟨ret_bool (fits3_iff.2 (fun j hj => Hall.out j (by omega))).symm, rfl⟩

set_option maxHeartbeats 400000 in
theorem vecFitsI_any (A1 A2 : Option Addr) (n1 c1 n2 c2 B1 B2 : Nat) (xs ys : List Int) (w : World) (h1 : RdI w B1 A1 n1 xs) (h2 : RdI w B2 A2 n2 ys) :
    Calls Tryz.prog 103 #[.slice A1 n1 c1, .slice A2 n2 c2] w fun e w' => e = .returned (.bool (vecFits xs ys)) ∧ w = w' := by
  have H1 := qh h1
  have H2 := qh h2
  clear h1 h2
  have hbv := bothValid_any A1 A2 n1 c1 n2 c2 B1 B2 xs ys w H1.out H2.out
  by_cases hx : (vecOk xs && vecOk ys) = true
  · rw [hx] at hbv
    have Hbv := qh hbv
    have Hx := qh hx
    simp only [Bool.and_eq_true] at hx
    have l1 : n1 = 3 := by have := H1.out.len; have := vecOk_len hx.1; omega
    have l2 : 3 ≤ n2 := by have := H2.out.len; have := vecOk_len hx.2; omega
    subst l1
    clear hx hbv
    go_enter Tryz.func103, Tryz.ntmps103
    go_wp2_with fail
    refine Hbv.out.mono ?_; rintro e w1 ⟨rfl, rfl⟩
    go_wp2_with fail
    refine (fits_any _ _ _ _ _ _ _ _ _ _ H1.out H2.out l2).mono ?_; rintro e w1 ⟨rfl, rfl⟩
    go_wp2
    go_ret
    exact ⟨ret_bool (by simp [vecFits, Hx.out]), rfl⟩
  · have hx : (vecOk xs && vecOk ys) = false := by simpa using hx
    rw [hx] at hbv
    have Hbv := qh hbv
    have Hx := qh hx
    clear hx hbv
    go_enter Tryz.func103, Tryz.ntmps103
    go_wp2_with fail
    refine Hbv.out.mono ?_; rintro e w1 ⟨rfl, rfl⟩
    go_wp2
    go_ret
    exact ⟨ret_bool (by simp [vecFits, Hx.out]), rfl⟩

set_option maxHeartbeats 400000 in
theorem min3_any (A : Option Addr) (c B : Nat) (xs : List Int) (w : World) (h : RdI w B A 3 xs) :
    Calls Tryz.prog 122 #[.slice A 3 c] w fun e w' => ∃ r : Int, e = .returned (.int .i64 r) ∧ (1 ≤ r ↔ ∀ j, j < 3 → 1 ≤ xs[j]?.getD 0) ∧ w = w' := by
  have H := qh h
  clear h
  obtain ⟨b, o, rfl, hb, hc⟩ := H.out.at_ (show 0 < 3 by omega)
  rw [Nat.add_zero] at hc
  go_enter Tryz.func122, Tryz.ntmps122
  go_wp2
  clear hc
  go_loop [3, 4] (fun m i => ∃ (k : Nat) (r : Int), i = .int .i64 k ∧ 1 ≤ k ∧ k ≤ 3 ∧ m = .int .i64 r ∧ (1 ≤ r ↔ ∀ j, j < k → 1 ≤ xs[j]?.getD 0)) (fun _ i => 3 - (intOf i).toNat)
  case atStart =>
    refine ⟨1, xs[0]?.getD 0, rfl, by omega, by omega, rfl, ?_⟩
    constructor
    · intro h j hj
      obtain rfl : j = 0 := by omega
      exact h
    · intro h
      exact h 0 (by omega)
  case round =>
    obtain ⟨k, r, rfl, hk1, hk, rfl, hr⟩ := hrel
    have Hr := qh hr
    clear hr
    by_cases hlt : k < 3
    · obtain ⟨b', o', e', hb', hc⟩ := H.out.at_ hlt
      injection e' with e'
      injection e' with e1 e2
      subst e1 e2
      go_wp2
      go_round
      case rel =>
        refine ⟨k + 1, min r (xs[k]?.getD 0), by go_num, by omega, by omega, by congr 1; split <;> omega, ?_⟩
        constructor
        · intro h j hj
          by_cases e : j = k
          · rw [e]; omega
          · exact Hr.out.1 (by omega) j (by omega)
        · intro h
          have h1 := Hr.out.2 (fun j hj => h j (by omega))
          have h2 := h k (by omega)
          omega
      case measure => simp [intOf]; omega
    · have ek : k = 3 := by omega
      subst ek
      go_wp2
      go_ret
      exact ⟨_, rfl, Hr.out, rfl⟩

set_option maxHeartbeats 400000 in
theorem roomValid_any (A : Option Addr) (n c B : Nat) (xs : List Int) (w : World) (h : RdI w B A n xs) :
    Calls Tryz.prog 101 #[.slice A n c] w fun e w' => e = .returned (.bool (roomOk xs)) ∧ w = w' := by
  have hl := qh h.len
  have H := qh h
  clear h
  have hv := vecValidI_any A n c B xs w H.out
  by_cases hx : vecOk xs = true
  · rw [hx] at hv
    have Hv := qh hv
    have Hx := qh hx
    have l1 : n = 3 := by have := H.out.len; have := vecOk_len hx; omega
    subst l1
    clear hx hv
    go_enter Tryz.func101, Tryz.ntmps101
    go_wp2_with fail
    refine Hv.out.mono ?_; rintro e w1 ⟨rfl, rfl⟩
    go_wp2_with fail
    refine (min3_any _ _ _ _ _ H.out).mono ?_; rintro e w1 ⟨r, rfl, hr, rfl⟩
    have Hr := qh hr
    clear hr
    go_wp2
    go_ret
    refine ⟨ret_bool ?_, rfl⟩
    rw [roomOk, Hx.out, Bool.true_and, Bool.eq_iff_iff, decide_eq_true_iff, Hr.out, all_iff_getD, hl.out]
    simp
  · have hx : vecOk xs = false := by simpa using hx
    rw [hx] at hv
    have Hv := qh hv
    have Hx := qh hx
    clear hx hv
    go_enter Tryz.func101, Tryz.ntmps101
    go_wp2_with fail
    refine Hv.out.mono ?_; rintro e w1 ⟨rfl, rfl⟩
    go_wp2
    go_ret
    exact ⟨ret_bool (by simp [roomOk, Hx.out]), rfl⟩

theorem fill_set {α : Type} (ys : List α) (z : α) {k : Nat} (h : k < ys.length) : (ys.take k ++ List.replicate (ys.length - k) z).set k ys[k] = ys.take (k + 1) ++ List.replicate (ys.length - (k + 1)) z := by
  have e : (ys.take k).length = k := by simp; omega
  rw [List.set_append_right _ _ (by omega), e, Nat.sub_self, show ys.length - k = (ys.length - (k + 1)) + 1 from by omega, List.replicate_succ, pZ, List.take_succ_eq_append_getElem h, List.append_assoc]
  rfl

def fill3 (xs ys : List Int) (k : Nat) : List Int := (add3 xs ys).take k ++ List.replicate (3 - k) 0
theorem fill3_set (xs ys : List Int) {k : Nat} (h : k < 3) : (fill3 xs ys k).set k (xs[k]?.getD 0 + ys[k]?.getD 0) = fill3 xs ys (k + 1) := by
  have := fill_set (add3 xs ys) 0 (k := k) (by simp; omega)
  have e := add3_at (a := xs) (b := ys) h
  rw [List.getElem?_eq_getElem (by simp; omega)] at e
  simp only [Option.getD_some] at e
  rw [e] at this
  exact this
theorem fill3_len (xs ys : List Int) {k : Nat} (h : k ≤ 3) : (fill3 xs ys k).length = 3 := by simp [fill3]; omega

theorem fill3_all (xs ys : List Int) : fill3 xs ys 3 = add3 xs ys := rfl

theorem RdI.of_blk {w : World} {g : Nat} {t : TypeId} {xs : List Int} {n : Nat} (h : Blk w g t (xs.map (Value.int .i64)).toArray) (hl : xs.length = n) (hn : n ≤ 9223372036854775807) : RdI w w.heap.size (some ⟨g, 0, none⟩) n xs := by
  refine ⟨hl, hn, fun hp => ⟨g, 0, rfl, h.lt, fun j hj => ?_⟩⟩
  rw [Nat.zero_add, h.cell]
  simp [List.getElem?_eq_getElem (show j < xs.length by omega)]

set_option maxHeartbeats 400000 in
theorem zeros_any (w : World) :
    Calls Tryz.prog 45 #[] w fun e w' => e = .returned (.slice (some ⟨w.heap.size, 0, none⟩) 3 3) ∧ w.alloc (.cells #[.int .i64 0, .int .i64 0, .int .i64 0] 3) = w' := by
  have hmk : ∀ w, (Instr.makeSlice 48 (.int .i64 3) (.int .i64 3)).run Tryz.prog w = .ok (.slice (some ⟨w.heap.size, 0, none⟩) 3 3) (w.alloc (.cells #[.int .i64 0, .int .i64 0, .int .i64 0] 3)) := fun _ => by kernel_rfl
  go_enter Tryz.func45, Tryz.ntmps45
  go_wp2
  go_ret
  exact ⟨rfl, rfl⟩

set_option maxRecDepth 100000 in
set_option maxHeartbeats 800000 in
theorem plus_any (A1 A2 : Option Addr) (n1 c1 n2 c2 : Nat) (xs ys : List Int) (w : World) (h1 : RdI w w.heap.size A1 n1 xs) (h2 : RdI w w.heap.size A2 n2 ys) (hn1 : 3 ≤ n1) (hn2 : 3 ≤ n2)
    (hb1 : ∀ j, j < 3 → -1000000 ≤ xs[j]?.getD 0 ∧ xs[j]?.getD 0 ≤ 1000000) (hb2 : ∀ j, j < 3 → -1000000 ≤ ys[j]?.getD 0 ∧ ys[j]?.getD 0 ≤ 1000000) :
    Calls Tryz.prog 46 #[.slice A1 n1 c1, .slice A2 n2 c2] w fun e w' => ∃ A c, e = .returned (.slice A 3 c) ∧ RdI w' w'.heap.size A 3 (add3 xs ys) ∧ Below w.heap.size w w' := by
  have Hb1 := qh hb1
  have Hb2 := qh hb2
  have H1 := qh h1
  have H2 := qh h2
  clear hb1 hb2 h1 h2
  have hmk : ∀ w, (Instr.makeSlice 48 (.int .i64 3) (.int .i64 3)).run Tryz.prog w = .ok (.slice (some ⟨w.heap.size, 0, none⟩) 3 3) (w.alloc (.cells #[.int .i64 0, .int .i64 0, .int .i64 0] 3)) := fun _ => by kernel_rfl
  go_enter Tryz.func46, Tryz.ntmps46
  go_wp2
  clear hmk
  go_loopw [10] (fun i wr => ∃ k : Nat, i = .int .i64 k ∧ k ≤ 3 ∧ Below w.heap.size w wr ∧ Blk wr w.heap.size 3 ((fill3 xs ys k).map (Value.int .i64)).toArray) (fun i _ => 3 - (intOf i).toNat)
  case atStart => exact ⟨0, rfl, Nat.zero_le _, (Below.refl _ _).alloc (Nat.le_refl _) _, Blk.new w _ _⟩
  case round =>
    obtain ⟨k, rfl, hk, hbel, hblk⟩ := hrel
    have Hblk := qh hblk
    clear hblk
    by_cases hlt : k < 3
    · obtain ⟨b1, o1, rfl, lb1, hc1⟩ := (H1.out.below hbel).at_ (show k < n1 by omega)
      obtain ⟨b2, o2, rfl, lb2, hc2⟩ := (H2.out.below hbel).at_ (show k < n2 by omega)
      have lz := hbel.size
      obtain ⟨p1, p2⟩ := Hb1.out k hlt
      obtain ⟨p3, p4⟩ := Hb2.out k hlt
      have k1 : (0 : Int) ≤ (k : Int) := by omega
      have k2 : (k : Int) < (n1 : Int) := by omega
      have k3 : (k : Int) < (n2 : Int) := by omega
      have k4 : (k : Int) < 3 := by omega
      have hcz : wr.cell? ⟨w.heap.size, k, none⟩ = some (.int .i64 ((fill3 xs ys k)[k]?.getD 0)) := by
        rw [Hblk.out.cell]
        simp [List.getElem?_eq_getElem (show k < (fill3 xs ys k).length by rw [fill3_len _ _ hk]; exact hlt)]
      have hfz : wr.frozen? ⟨w.heap.size, k, none⟩ = false := Hblk.out.frozen _
      generalize (fill3 xs ys k)[k]?.getD 0 = old at hcz
      go_wp2
      go_region
      go_wp2
      go_roundw
      case rel =>
        refine ⟨k + 1, by go_num, by omega, (hbel.setCell (p := ⟨w.heap.size, k, none⟩) (Nat.le_refl _) _).drew, ?_⟩
        have := (Hblk.out.set_ k (.int .i64 (xs[k]?.getD 0 + ys[k]?.getD 0))).drew
        rw [ints_set, fill3_set _ _ hlt] at this
        exact this
      case measure => simp [intOf]; omega
    · have ek : k = 3 := by omega
      subst ek
      go_wp2
      go_ret
      refine ⟨_, _, rfl, RdI.of_blk (by have := Hblk.out; rw [fill3_all] at this; exact this) rfl (by omega), hbel⟩

set_option maxRecDepth 100000 in
set_option maxHeartbeats 800000 in
theorem loadOf_any (A : Option Addr) (n c : Nat) (ts : List Tk) (w : World) (h : RdT w w.heap.size A n ts) (hn : n ≤ 900) (h3 : ∀ j, j < n → (ts[j]?.getD (0, [])).2.length = 3)
    (hb : ∀ j i : Nat, 0 ≤ (ts[j]?.getD (0, [])).2[i]?.getD 0 ∧ (ts[j]?.getD (0, [])).2[i]?.getD 0 ≤ 1000) :
    Calls Tryz.prog 50 #[.slice A n c] w fun e w' => ∃ A c, e = .returned (.slice A 3 c) ∧ RdI w' w'.heap.size A 3 (loadP ts) ∧ Below w.heap.size w w' := by
  have Hb := qh hb
  have H3 := qh h3
  have hl := qh h.len
  have H := qh h
  clear hb h3 h
  go_enter Tryz.func50, Tryz.ntmps50
  go_wp2_with (go_at_call 45; refine (zeros_any _).mono ?_; rintro e w1 ⟨rfl, rfl⟩)
  go_loopw [3, 9] (fun v i wr => ∃ k : Nat, i = .int .i64 k ∧ k ≤ n ∧ Below w.heap.size w wr ∧ ∃ A c, v = .slice A 3 c ∧ RdI wr wr.heap.size A 3 (loadP (ts.take k))) (fun _ i _ => n - (intOf i).toNat)
  case atStart => exact ⟨0, rfl, Nat.zero_le _, (Below.refl _ _).alloc (Nat.le_refl _) _, _, _, rfl, RdI.of_blk (xs := [0, 0, 0]) (Blk.new w _ _) rfl (by omega)⟩
  case round =>
    obtain ⟨k, rfl, hk, hbel, A', c', rfl, hr⟩ := hrel
    have Hr := qh hr
    clear hr
    by_cases hlt : k < n
    · obtain ⟨b1, o1, A2, m2, c2, rfl, lb1, hc1, hc2, _, hr2⟩ := (H.out.below hbel).at_ hlt
      have lz := hbel.size
      have em : m2 = 3 := by rw [← hr2.len]; exact H3.out k hlt
      have Hr2 := qh (hr2.more lz)
      clear hr2
      subst em
      have hal : ∀ o : Obj, Below wr.heap.size wr (wr.alloc o) := fun o => (Below.refl _ _).alloc (Nat.le_refl _) _
      have Hal := qh hal
      clear hal
      go_wp2_with fail
      refine (plus_any _ _ _ _ _ _ _ _ _ (Hr.out.up (Hal.out _)) (Hr2.out.up (Hal.out _)) (by omega) (by omega) (fun j hj => ?_) (fun j hj => ?_)).mono ?_
      · have := loadP_bd Hb.out (k := k) (by have := hl.out; omega) j hj; omega
      · have := Hb.out k j; omega
      rintro e w1 ⟨A3, c3, rfl, hr3, hb3⟩
      have Hr3 := qh hr3
      clear hr3
      go_wp2
      go_roundw
      case rel => exact ⟨k + 1, by go_num, by omega, (hbel.alloc lz _).trans (hb3.mono (by simp; omega)), _, _, rfl, by rw [loadP_take_succ (by have := hl.out; omega)]; exact Hr3.out⟩
      case measure => simp [intOf]; omega
    · have ek : k = n := by omega
      have Ek := qh ek
      clear ek
      go_wp2
      go_ret
      exact ⟨_, _, rfl, by have h1 := Hr.out; rw [Ek.out, List.take_of_length_le (by have := hl.out; omega)] at h1; exact h1, hbel⟩
end Go.Proofs.YtlcgbnmmbheleaaGreat

namespace Go.Proofs.YtlcgbnmmbheleaaGreat
open Go Go.Conc Go.RowKit
set_option linter.unusedVariables false
set_option linter.unusedSimpArgs false

section
variable {w w' : World} {A : Option Addr} {n B : Nat}
theorem GR.cell (h : GR w w') {p : Addr} (hp : p.block < w.heap.size) : w'.cell? p = w.cell? p := World.cell?_of_block (h.rows _ hp)
theorem GR.frozen (h : GR w w') {p : Addr} (hp : p.block < w.heap.size) : w'.frozen? p = w.frozen? p := by unfold World.frozen?; rw [h.rows _ hp]
theorem RdI.gr {xs : List Int} (h : RdI w w.heap.size A n xs) (r : GR w w') : RdI w' w'.heap.size A n xs := h.keep (fun _ hp => r.cell hp) r.size
theorem RdT.gr {ts : List Tk} (h : RdT w w.heap.size A n ts) (r : GR w w') : RdT w' w'.heap.size A n ts := h.keep (fun _ hp => r.cell hp) r.size
theorem Blk.gr {g : Nat} {t : TypeId} {cs : Array Value} (h : Blk w g t cs) (r : GR w w') : Blk w' g t cs := (r.rows g h.lt).trans h
theorem GR.alloc (w : World) (o : Obj) : GR w (w.alloc o) := ⟨rfl, rfl, by show _ ≤ (w.heap.push o).size; simp, fun b hb => by show (w.heap.push o)[b]? = _; rw [Array.getElem?_push, if_neg (by omega)]⟩
end

theorem DG.alloc {B : Nat} (v : World) (h : B ≤ v.heap.size) (cs : Array Value) (ty : TypeId) (fr : Nat × Nat) {es : Array Event} (hes : ∀ e ∈ es, EvG B e) : DG B v (v.alloc (.cells cs ty fr)) es :=
  ⟨rfl, rfl, fun b hb => (GR.alloc v _).rows b (by omega), .alloc _ _ _ _, hes⟩
theorem DG.setCell {B : Nat} (v : World) {p : Addr} (h : B ≤ p.block) {x y : Value} (hc : v.cell? p = some y) {es : Array Event} (hes : ∀ e ∈ es, EvG B e) : DG B v (v.setCell p x) es :=
  ⟨rfl, rfl, fun b hb => Below.heap_setCell _ _ _ _ (by omega), .setCell _ _ _ hc, hes⟩
theorem DG.setCell2 {B : Nat} (v : World) {g : Nat} (h : B ≤ g) {x y x' y' : Value} (hc : v.cell? ⟨g, 0, none⟩ = some x) (hd : v.cell? ⟨g, 1, none⟩ = some y) {es : Array Event} (hes : ∀ e ∈ es, EvG B e) : DG B v ((v.setCell ⟨g, 0, none⟩ x').setCell ⟨g, 1, none⟩ y') es :=
  ⟨rfl, rfl, fun b hb => (Below.heap_setCell _ _ _ _ (show b ≠ g by omega)).trans (Below.heap_setCell _ _ _ _ (show b ≠ g by omega)),
   (Cellish.setCell _ _ _ hc).trans (Cellish.setCell _ _ _ ((World.cell?_setCell_other _ _ _ _ (by simp)).trans hd)), hes⟩
theorem DG.still {B : Nat} (v : World) {es : Array Event} (hes : ∀ e ∈ es, EvG B e) : DG B v v es := ⟨rfl, rfl, fun _ _ => rfl, .same rfl, hes⟩
theorem GR.setCell {v0 v : World} (h : GR v0 v) {p : Addr} (hp : v0.heap.size ≤ p.block) (x : Value) : GR v0 (v.setCell p x) :=
  ⟨h.os, h.output, by rw [World.size_setCell]; exact h.size, fun b hb => (Below.heap_setCell _ _ _ _ (by omega)).trans (h.rows b hb)⟩

structure H0 (v0 v : World) : Prop where
  gr : GR v0 v
theorem H0.rely {v0 v v₁ : World} (h : H0 v0 v) (r : GR v v₁) : H0 v0 v₁ := ⟨h.gr.trans r⟩
structure H1 (v0 : World) (A : Option Addr) (xs : List Int) (v : World) : Prop where
  gr : GR v0 v
  rd : RdI v v.heap.size A 3 xs
theorem H1.rely {v0 : World} {A : Option Addr} {xs : List Int} {v v₁ : World} (h : H1 v0 A xs v) (r : GR v v₁) : H1 v0 A xs v₁ := ⟨h.gr.trans r, h.rd.gr r⟩
theorem H0.made {v0 v : World} (h : H0 v0 v) : H1 v0 (some ⟨v.heap.size, 0, none⟩) [0, 0, 0] (v.alloc (.cells #[.int .i64 0, .int .i64 0, .int .i64 0] 3)) :=
  ⟨h.gr.trans (GR.alloc v _), RdI.of_blk (xs := [0, 0, 0]) (Blk.new v _ _) rfl (by omega)⟩

section
variable {mn : Bool}
set_option maxRecDepth 100000 in
theorem zeros_c (B : Nat) : ∃ n, ∀ v : World, B ≤ v.heap.size → CallsC Tryz.prog mn GR (DG B) 45 #[] n v fun r v' => ∃ A c, r = .slice A 3 c ∧ H1 v A [0, 0, 0] v' := by
  have hmk : ∀ w, (Instr.makeSlice 48 (.int .i64 3) (.int .i64 3)).run Tryz.prog w = .ok (.slice (some ⟨w.heap.size, 0, none⟩) 3 3) (w.alloc (.cells #[.int .i64 0, .int .i64 0, .int .i64 0] 3)) := fun _ => by kernel_rfl
  have hme : ∀ w es, (Instr.makeSlice 48 (.int .i64 3) (.int .i64 3)).events Tryz.prog w es = es := fun _ _ => by kernel_rfl
  co_apply Exists.intro
  intro v hB
  co_apply callsC_of_wpC Tryz.func45 (by rfl) rfl
  simp only [Tryz.ntmps45, List.size_toArray, List.length_cons, List.length_nil, Nat.reduceAdd, Nat.reduceSub, Array.replicate_succ, Array.replicate_zero, List.push_toArray, List.append_toArray, List.nil_append, List.cons_append]
  have hF : H0 v v := ⟨.refl v⟩
  co_stmt (termsG B) H0.rely hF (co_quiet (termsG B))
  co_apply wpC_seq (termsG B)
  co_reg (termsG B)
  co_opw H0.rely hF (skip) (exact DG.alloc _ (Nat.le_trans hB hF.gr.size) _ _ _ (by co_evs (skip)))
  have hP := hF.made
  clear hF
  co_go (termsG B) H1.rely hP (co_quiet (termsG B))
  exact ⟨rfl, _, resultsC_tmp (by rfl) _, _, _, rfl, hP⟩
end

structure HU (v0 : World) (b1 o1 b2 o2 : Nat) (xs ys : List Int) (v : World) : Prop where
  gr : GR v0 v
  l1 : b1 < v0.heap.size
  l2 : b2 < v0.heap.size
  c1 : ∀ j, j < 3 → v.cell? ⟨b1, o1 + j, none⟩ = some (.int .i64 (xs[j]?.getD 0))
  c2 : ∀ j, j < 3 → v.cell? ⟨b2, o2 + j, none⟩ = some (.int .i64 (ys[j]?.getD 0))
structure HV (v0 : World) (g b1 o1 b2 o2 : Nat) (xs ys : List Int) (k : Nat) (v : World) : Prop where
  hu : HU v0 b1 o1 b2 o2 xs ys v
  lg : v0.heap.size ≤ g
  blk : Blk v g 3 ((fill3 xs ys k).map (Value.int .i64)).toArray
section
variable {v0 v v₁ : World} {g b1 o1 b2 o2 : Nat} {xs ys : List Int} {k : Nat}
theorem HU.rely (h : HU v0 b1 o1 b2 o2 xs ys v) (r : GR v v₁) : HU v0 b1 o1 b2 o2 xs ys v₁ :=
  ⟨h.gr.trans r, h.l1, h.l2, fun j hj => (r.cell (p := ⟨b1, o1 + j, none⟩) (Nat.lt_of_lt_of_le h.l1 h.gr.size)).trans (h.c1 j hj), fun j hj => (r.cell (p := ⟨b2, o2 + j, none⟩) (Nat.lt_of_lt_of_le h.l2 h.gr.size)).trans (h.c2 j hj)⟩
theorem HV.rely (h : HV v0 g b1 o1 b2 o2 xs ys k v) (r : GR v v₁) : HV v0 g b1 o1 b2 o2 xs ys k v₁ := ⟨h.hu.rely r, h.lg, h.blk.gr r⟩
theorem HU.made (h : HU v0 b1 o1 b2 o2 xs ys v) : HV v0 v.heap.size b1 o1 b2 o2 xs ys 0 (v.alloc (.cells #[.int .i64 0, .int .i64 0, .int .i64 0] 3)) :=
  ⟨h.rely (GR.alloc v _), h.gr.size, Blk.new v _ _⟩
theorem HV.put (h : HV v0 g b1 o1 b2 o2 xs ys k v) (hk : k < 3) : HV v0 g b1 o1 b2 o2 xs ys (k + 1) (v.setCell ⟨g, k, none⟩ (.int .i64 (xs[k]?.getD 0 + ys[k]?.getD 0))) := by
  have n1 : ∀ j, (⟨g, k, none⟩ : Addr) ≠ ⟨b1, j, none⟩ := fun j e => by have := h.hu.l1; have := h.lg; cases e; omega
  have n2 : ∀ j, (⟨g, k, none⟩ : Addr) ≠ ⟨b2, j, none⟩ := fun j e => by have := h.hu.l2; have := h.lg; cases e; omega
  refine ⟨⟨h.hu.gr.setCell h.lg _, h.hu.l1, h.hu.l2, fun j hj => (World.cell?_setCell_other _ _ _ _ (n1 _)).trans (h.hu.c1 j hj), fun j hj => (World.cell?_setCell_other _ _ _ _ (n2 _)).trans (h.hu.c2 j hj)⟩, h.lg, ?_⟩
  have := h.blk.set_ k (.int .i64 (xs[k]?.getD 0 + ys[k]?.getD 0))
  rw [ints_set, fill3_set _ _ hk] at this
  exact this
theorem HV.cellAt (h : HV v0 g b1 o1 b2 o2 xs ys k v) {j : Nat} (hk : k ≤ 3) (hj : j < 3) : v.cell? ⟨g, j, none⟩ = some (.int .i64 ((fill3 xs ys k)[j]?.getD 0)) ∧ v.frozen? ⟨g, j, none⟩ = false := by
  refine ⟨?_, h.blk.frozen _⟩
  rw [h.blk.cell]
  simp [List.getElem?_eq_getElem (show j < (fill3 xs ys k).length by rw [fill3_len _ _ hk]; exact hj)]
end

def HW (v0 : World) (g b1 o1 b2 o2 : Nat) (xs ys : List Int) (k : Nat) (v : World) : Prop := HV v0 g b1 o1 b2 o2 xs ys k v ∨ HV v0 g b1 o1 b2 o2 xs ys (k + 1) v
section
variable {v0 v v₁ : World} {g b1 o1 b2 o2 : Nat} {xs ys : List Int} {k : Nat}
theorem HW.rely (h : HW v0 g b1 o1 b2 o2 xs ys k v) (r : GR v v₁) : HW v0 g b1 o1 b2 o2 xs ys k v₁ := h.imp (·.rely r) (·.rely r)
theorem HW.hu (h : HW v0 g b1 o1 b2 o2 xs ys k v) : HU v0 b1 o1 b2 o2 xs ys v := h.elim (·.hu) (·.hu)
theorem HW.lg (h : HW v0 g b1 o1 b2 o2 xs ys k v) : v0.heap.size ≤ g := h.elim (·.lg) (·.lg)
end

theorem opC_k {P : Program} {R : World → World → Prop} {D : World → World → Array Event → Prop} {fn : FuncId} {ops : Array Oper} {i : Nat} {o : Oper} {K : Act → World → Prop} {a : Act} {w : World} (ho : ops[i]? = some o) (hw : Region.wanted o (yielded ops a.tmps) = true)
    (h : ∀ w₁, R w w₁ → ∀ K' : Act → World → Prop, (∀ a' w', D w₁ w' (listed P fn a o w₁) ∧ K a' w' → K' a' w') → uponK o a K' ((execOp a.eval o).run P w₁)) : OpC P R D fn ops i K a w := by
  unfold OpC
  simp only [ho, hw, if_true]
  exact fun w₁ h₁ => h w₁ h₁ _ fun _ _ x => x

def InvP (v0 : World) (g b1 o1 b2 o2 n1 c1 n2 c2 : Nat) (xs ys : List Int) (a : Act) (v : World) : Prop :=
  ∃ (k : Nat) (u2 u3 u4 u6 u7 u11 u12 u13 u14 u15 u16 u17 u18 u19 u20 u21 u22 u23 u24 u25 u26 : Value), k ≤ 3 ∧ HV v0 g b1 o1 b2 o2 xs ys k v ∧
    a = { tmps := #[.slice (some ⟨b1, o1, none⟩) n1 c1, .slice (some ⟨b2, o2, none⟩) n2 c2, u2, u3, u4, .slice (some ⟨g, 0, none⟩) 3 3, u6, u7, .slice (some ⟨g, 0, none⟩) 3 3, .int .i64 3, .int .i64 k, u11, u12, u13, u14, u15, u16, u17, u18, u19, u20, u21, u22, u23, u24, u25, u26], defers := [] }
def MuP (a : Act) (_ : World) : Nat := match a.tmps.getD 10 undef with | .int _ j => 3 - j.toNat | _ => 0

section
variable {mn : Bool}
set_option maxRecDepth 100000 in
set_option maxHeartbeats 800000 in
theorem plus_c (B : Nat) : ∃ n, ∀ (A1 A2 : Option Addr) (n1 c1 n2 c2 : Nat) (xs ys : List Int) (v : World), B ≤ v.heap.size → RdI v v.heap.size A1 n1 xs → RdI v v.heap.size A2 n2 ys → 3 ≤ n1 → 3 ≤ n2 →
    (∀ j, j < 3 → -1000000 ≤ xs[j]?.getD 0 ∧ xs[j]?.getD 0 ≤ 1000000) → (∀ j, j < 3 → -1000000 ≤ ys[j]?.getD 0 ∧ ys[j]?.getD 0 ≤ 1000000) →
    CallsC Tryz.prog mn GR (DG B) 46 #[.slice A1 n1 c1, .slice A2 n2 c2] n v fun r v' => ∃ A c, r = .slice A 3 c ∧ H1 v A (add3 xs ys) v' := by
  have hmk : ∀ w, (Instr.makeSlice 48 (.int .i64 3) (.int .i64 3)).run Tryz.prog w = .ok (.slice (some ⟨w.heap.size, 0, none⟩) 3 3) (w.alloc (.cells #[.int .i64 0, .int .i64 0, .int .i64 0] 3)) := fun _ => by kernel_rfl
  have hme : ∀ w es, (Instr.makeSlice 48 (.int .i64 3) (.int .i64 3)).events Tryz.prog w es = es := fun _ _ => by kernel_rfl
  co_apply Exists.intro
  intro A1 A2 n1 c1 n2 c2 xs ys v hB h1 h2 hn1 hn2 hb1 hb2
  obtain ⟨b1, o1, rfl, lb1, hc1⟩ := h1.2.2 (by omega)
  obtain ⟨b2, o2, rfl, lb2, hc2⟩ := h2.2.2 (by omega)
  have hF : HU v b1 o1 b2 o2 xs ys v := ⟨.refl v, lb1, lb2, fun j hj => hc1 j (by omega), fun j hj => hc2 j (by omega)⟩
  clear h1 h2 hc1 hc2
  co_apply callsC_of_wpC Tryz.func46 (by rfl) rfl
  simp only [Tryz.ntmps46, List.size_toArray, List.length_cons, List.length_nil, Nat.reduceAdd, Nat.reduceSub, Array.replicate_succ, Array.replicate_zero, List.push_toArray, List.append_toArray, List.nil_append, List.cons_append]
  co_stmt (termsG B) HU.rely hF (co_quiet (termsG B))
  co_apply wpC_seq (termsG B)
  co_reg (termsG B)
  co_opw HU.rely hF (skip) (exact DG.alloc _ (Nat.le_trans hB hF.gr.size) _ _ _ (by co_evs (skip)))
  have hP := hF.made
  clear hF
  rename_i w₁
  generalize w₁.heap.size = g at hP ⊢
  generalize w₁.alloc _ = w₂ at hP ⊢
  co_go (termsG B) HV.rely hP (co_quiet (termsG B))
  co_apply wpC_loop (termsG B) (InvP v g b1 o1 b2 o2 n1 c1 n2 c2 xs ys) MuP _ 3
  · exact ⟨0, _, _, _, _, _, _, _, _, _, _, _, _, _, _, _, _, _, _, _, _, _, by omega, hP, rfl⟩
  · simp [MuP]
  · rintro a w' ⟨k, u2, u3, u4, u6, u7, u11, u12, u13, u14, u15, u16, u17, u18, u19, u20, u21, u22, u23, u24, u25, u26, hk, hF, rfl⟩
    co_go (termsG B) HV.rely hF (co_quiet (termsG B))
    co_split (termsG B) (decide ((k : Int) < 3))
    · intro hlt
      have hlt : k < 3 := by have := of_decide_eq_true hlt; omega
      have k1 : (0 : Int) ≤ (k : Int) := by omega
      have k2 : (k : Int) < (n1 : Int) := by omega
      have k3 : (k : Int) < (n2 : Int) := by omega
      have k4 : (k : Int) < 3 := by omega
      co_go (termsG B) HV.rely hF (co_quiet (termsG B))
      co_held (termsG B) (drawG B) ownDrawG (HW v g b1 o1 b2 o2 xs ys k) HV.rely hF
      have hW : HW v g b1 o1 b2 o2 xs ys k _ := .inl hF
      co_take 0 (termsG B) HW.rely hW hw (skip) (co_quiet (termsG B))
      co_take 1 (termsG B) HW.rely hW hw (skip) (co_quiet (termsG B))
      co_take 2 (termsG B) HW.rely hW hw (skip) (co_quiet (termsG B))
      co_take 3 (termsG B) HW.rely hW hw (skip) (co_quiet (termsG B))
      co_take 4 (termsG B) HW.rely hW hw (skip) (co_still (termsG B))
      co_take 5 (termsG B) HW.rely hW hw (have hc := hw.hu.c1 k hlt) (exact DG.still _ (by co_evs (exact ⟨_, rfl, rfl, by simp⟩)))
      co_take 6 (termsG B) HW.rely hW hw (skip) (co_quiet (termsG B))
      co_take 7 (termsG B) HW.rely hW hw (skip) (co_quiet (termsG B))
      co_take 8 (termsG B) HW.rely hW hw (skip) (co_still (termsG B))
      co_take 9 (termsG B) HW.rely hW hw (have hc := hw.hu.c2 k hlt) (exact DG.still _ (by co_evs (exact ⟨_, rfl, rfl, by simp⟩)))
      co_take 10 (termsG B) HW.rely hW hw (skip) (co_quiet (termsG B))
      co_take 11 (termsG B) HW.rely hW hw (skip) (co_still (termsG B))
      refine anyCH_all (rs := [12]) (by first | kernel_rfl | decide +kernel) (by simp) ?_
      intro i hi
      obtain rfl : i = 12 := by simpa using hi
      clear hi
      refine opC_k rfl (by rfl) ?_
      intro w₁ hR K hK
      replace hF := hF.rely hR
      clear hR hW
      have hcz := hF.cellAt hk hlt
      have hc := hcz.1
      have hz := hcz.2
      go_simp
      try (unfold stored; go_simp)
      have hwr : IntKind.i64.wrap (xs[k]?.getD 0 + ys[k]?.getD 0) = xs[k]?.getD 0 + ys[k]?.getD 0 := by rw [IntKind.wrap_i64]; have := hb1 k hlt; have := hb2 k hlt; omega
      have hBg : B ≤ g := Nat.le_trans hB hF.lg
      simp only [hwr] at hK ⊢
      refine hK _ _ ⟨DG.setCell w₁ (p := ⟨g, k, none⟩) hBg hc (by co_evs (exact ⟨_, rfl, rfl, fun _ => hBg⟩)), .inr (hF.put hlt), ?_⟩
      replace hF := hF.put hlt
      clear hK K hc hz hcz
      co_done
      co_go (termsG B) HV.rely hF (co_quiet (termsG B))
      have e : IntKind.i64.wrap ((k : Int) + 1) = ((k + 1 : Nat) : Int) := by rw [IntKind.wrap_i64]; omega
      simp only [e]
      refine ⟨⟨k + 1, _, _, _, _, _, _, _, _, _, _, _, _, _, _, _, _, _, _, _, _, _, by omega, hF, rfl⟩, ?_⟩
      simp [MuP]
      omega
    · intro hlt
      have ek : k = 3 := by have := of_decide_eq_false hlt; omega
      subst ek
      co_go (termsG B) HV.rely hF (co_quiet (termsG B))
      exact ⟨rfl, _, resultsC_tmp (by rfl) _, _, _, rfl, hF.hu.gr, RdI.of_blk (xs := add3 xs ys) (by have := hF.blk; rw [fill3_all] at this; exact this) rfl (by omega)⟩
end

theorem opsC_callE {P : Program} {main : Bool} {R : World → World → Prop} {D : World → World → Array Event → Prop} (T : Terms R D) {fn : FuncId} {Q : Exit → Act → World → Prop} {a : Act} {w : World} {ops : Array Oper} {i : Nat} {rest : List Nat} {o : Oper} {f : FuncId} {args : Array Operand} {ats : Array TypeId} {vs : Array Value} {nf n : Nat} {Post : Value → World → Prop}
    (ho : ops[i]? = some o) (hw : Region.wanted o (yielded ops a.tmps) = true) (hop : o.op = .call { callee := .value (.func f), args, argTypes := ats })
    (hcall : CallsC P main R D f vs nf w Post) (hargs : args.map a.eval = vs) (hnext : ∀ v w', Post v w' → OpsC P main R D fn ops rest n Q (a.put o.dst v) w') : OpsC P main R D fn ops (i :: rest) (n + nf + 3) Q a w :=
  opsC_call T ho hw hop (by rw [hargs]; exact hcall) hnext

structure HL (v0 : World) (A : Option Addr) (n : Nat) (ts : List Tk) (v : World) : Prop where
  gr : GR v0 v
  tk : RdT v v0.heap.size A n ts
structure HS (v0 : World) (A : Option Addr) (n : Nat) (ts : List Tk) (k : Nat) (As : Option Addr) (v : World) : Prop where
  hl : HL v0 A n ts v
  sm : RdI v v.heap.size As 3 (loadP (ts.take k))
structure HX (v0 : World) (A : Option Addr) (n : Nat) (ts : List Tk) (k : Nat) (As : Option Addr) (g : Nat) (x y : Value) (v : World) : Prop where
  hl : HL v0 A n ts v
  sm : RdI v g As 3 (loadP (ts.take k))
  lg : v0.heap.size ≤ g
  blk : Blk v g 40 #[x, y]
section
variable {v0 v v₁ : World} {A As : Option Addr} {n k g : Nat} {ts : List Tk} {x y : Value}
theorem HL.rely (h : HL v0 A n ts v) (r : GR v v₁) : HL v0 A n ts v₁ := ⟨h.gr.trans r, h.tk.keep (fun _ hp => r.cell (Nat.lt_of_lt_of_le hp h.gr.size)) (Nat.le_refl _)⟩
theorem HS.rely (h : HS v0 A n ts k As v) (r : GR v v₁) : HS v0 A n ts k As v₁ := ⟨h.hl.rely r, h.sm.gr r⟩
theorem HX.rely (h : HX v0 A n ts k As g x y v) (r : GR v v₁) : HX v0 A n ts k As g x y v₁ := ⟨h.hl.rely r, h.sm.keep (fun _ hp => r.cell (Nat.lt_trans hp h.blk.lt)) (Nat.le_refl _), h.lg, h.blk.gr r⟩
theorem HS.made (h : HS v0 A n ts k As v) : HX v0 A n ts k As v.heap.size x y (v.alloc (.cells #[x, y] 40)) :=
  ⟨h.hl.rely (GR.alloc v _), h.sm.keep (fun _ hp => (GR.alloc v _).cell hp) (Nat.le_refl _), h.hl.gr.size, Blk.new v _ _⟩
theorem HX.put (h : HX v0 A n ts k As g x y v) (x' y' : Value) : HX v0 A n ts k As g x' y' ((v.setCell ⟨g, 0, none⟩ x').setCell ⟨g, 1, none⟩ y') := by
  have ne : ∀ (p : Addr) o, p.block < g → (⟨g, o, none⟩ : Addr) ≠ p := fun p o hp e => by subst e; exact absurd hp (Nat.lt_irrefl _)
  have keep : ∀ p : Addr, p.block < g → ((v.setCell ⟨g, 0, none⟩ x').setCell ⟨g, 1, none⟩ y').cell? p = v.cell? p := fun p hp => (World.cell?_setCell_other _ _ _ _ (ne p _ hp)).trans (World.cell?_setCell_other _ _ _ _ (ne p _ hp))
  refine ⟨⟨(h.hl.gr.setCell (p := ⟨g, 0, none⟩) h.lg x').setCell (p := ⟨g, 1, none⟩) h.lg y', h.hl.tk.keep (fun p hp => keep p (Nat.lt_of_lt_of_le hp h.lg)) (Nat.le_refl _)⟩, h.sm.keep keep (Nat.le_refl _), h.lg, ?_⟩
  exact (h.blk.set_ 0 x').set_ 1 y'
theorem HX.cell1 (h : HX v0 A n ts k As g x y v) (u : Value) : (v.setCell ⟨g, 0, none⟩ u).cell? ⟨g, 1, none⟩ = some y := (World.cell?_setCell_other _ _ _ _ (by simp)).trans (by rw [h.blk.cell]; rfl)
theorem HX.frozen1 (h : HX v0 A n ts k As g x y v) (u : Value) : (v.setCell ⟨g, 0, none⟩ u).frozen? ⟨g, 1, none⟩ = false := by rw [World.frozen?_setCell]; exact h.blk.frozen _
theorem HX.cells (h : HX v0 A n ts k As g x y v) : v.cell? ⟨g, 0, none⟩ = some x ∧ v.cell? ⟨g, 1, none⟩ = some y ∧ v.frozen? ⟨g, 0, none⟩ = false ∧ v.frozen? ⟨g, 1, none⟩ = false :=
  ⟨by rw [h.blk.cell]; rfl, by rw [h.blk.cell]; rfl, h.blk.frozen _, h.blk.frozen _⟩
end
def InvL (v0 : World) (A : Option Addr) (n c : Nat) (ts : List Tk) (a : Act) (v : World) : Prop :=
  ∃ (k : Nat) (As : Option Addr) (cs : Nat) (u1 u2 u4 u5 u6 u10 u11 u12 u13 u14 u15 u16 u17 u18 : Value), k ≤ n ∧ HS v0 A n ts k As v ∧
    a = { tmps := #[.slice A n c, u1, u2, .slice As 3 cs, u4, u5, u6, .slice A n c, .int .i64 n, .int .i64 k, u10, u11, u12, u13, u14, u15, u16, u17, u18], defers := [] }
def MuL (n : Nat) (a : Act) (_ : World) : Nat := match a.tmps.getD 9 undef with | .int _ j => n - j.toNat | _ => 0

section
variable {mn : Bool}
set_option maxRecDepth 100000 in
set_option maxHeartbeats 800000 in
theorem loadOf_c (B : Nat) : ∃ m, ∀ (A : Option Addr) (n c : Nat) (ts : List Tk) (v : World), B ≤ v.heap.size → RdT v v.heap.size A n ts → n ≤ 900 → (∀ j, j < n → (ts[j]?.getD (0, [])).2.length = 3) →
    (∀ j i : Nat, 0 ≤ (ts[j]?.getD (0, [])).2[i]?.getD 0 ∧ (ts[j]?.getD (0, [])).2[i]?.getD 0 ≤ 1000) →
    CallsC Tryz.prog mn GR (DG B) 50 #[.slice A n c] m v fun r v' => ∃ A c, r = .slice A 3 c ∧ H1 v A (loadP ts) v' := by
  obtain ⟨nz, hz⟩ := zeros_c (mn := mn) B
  obtain ⟨np, hp⟩ := plus_c (mn := mn) B
  co_apply Exists.intro
  intro A n c ts v hB h hn h3 hb
  have hl := h.len
  have hF : HL v A n ts v := ⟨.refl v, h⟩
  co_apply callsC_of_wpC Tryz.func50 (by rfl) rfl
  simp only [Tryz.ntmps50, List.size_toArray, List.length_cons, List.length_nil, Nat.reduceAdd, Nat.reduceSub, Array.replicate_succ, Array.replicate_zero, List.push_toArray, List.append_toArray, List.nil_append, List.cons_append]
  co_stmt (termsG B) HL.rely hF (co_quiet (termsG B))
  co_apply wpC_seq (termsG B)
  co_reg (termsG B)
  co_apply opsC_callE (termsG B) rfl (by rfl) rfl (hz _ (Nat.le_trans hB hF.gr.size)) (by simp [Act.eval])
  rintro r w1 ⟨As, cs, rfl, h1⟩
  have hP : HS v A n ts 0 As w1 := ⟨hF.rely h1.gr, h1.rd⟩
  clear hF h1
  co_go (termsG B) HS.rely hP (co_quiet (termsG B))
  co_apply wpC_loop (termsG B) (InvL v A n c ts) (MuL n) _ 900
  · exact ⟨0, _, _, _, _, _, _, _, _, _, _, _, _, _, _, _, _, by omega, hP, rfl⟩
  · simp [MuL]; omega
  · rintro a w' ⟨k, As, cs, u1, u2, u4, u5, u6, u10, u11, u12, u13, u14, u15, u16, u17, u18, hk, hF, rfl⟩
    co_go (termsG B) HS.rely hF (co_quiet (termsG B))
    co_split (termsG B) (decide ((k : Int) < (n : Int)))
    · intro hlt
      have hlt : k < n := by have := of_decide_eq_true hlt; omega
      have k1 : (0 : Int) ≤ (k : Int) := by omega
      have k2 : (k : Int) < (n : Int) := by omega
      obtain ⟨b1, o1, A2, m2, c2, rfl, lb1, hv1, hv2, _, hr2⟩ := h.at_ hlt
      have em : m2 = 3 := by rw [← hr2.len]; exact h3 k hlt
      subst em
      (repeat (first | co_reg (termsG B) | (co_ctl (termsG B); try co_then) | co_cond (termsG B)))
      co_opw HS.rely hF (skip) (co_still (termsG B))
      co_opw HS.rely hF (have hc1 := (hF.hl.gr.cell (p := ⟨b1, o1 + k * 2, none⟩) lb1).trans hv1; have hc2 := (hF.hl.gr.cell (p := ⟨b1, o1 + k * 2 + 1, none⟩) lb1).trans hv2) (refine DG.still _ (fun e he => ?_); have hm := mem_listed he; simp [go_sem, *] at hm; rcases hm with rfl | rfl <;> exact ⟨_, rfl, rfl, by simp⟩)
      clear hc1 hc2
      co_opw HS.rely hF (skip) (exact DG.alloc _ (Nat.le_trans hB hF.hl.gr.size) _ _ _ (by co_evs (skip)))
      have hX := hF.made (x := .int .i64 0) (y := .slice none 0 0)
      clear hF
      rename_i w₁
      generalize w₁.heap.size = g at hX ⊢
      generalize w₁.alloc _ = w₂ at hX ⊢
      generalize hx0 : (ts[k]).fst = x0
      co_opw HX.rely hX (have hc1 := hX.cells.1; have hc2 := hX.cells.2.1; have hz1 := hX.cells.2.2.1; have hz2 := hX.cells.2.2.2) (exact DG.setCell2 _ (Nat.le_trans hB hX.lg) hc1 hc2 (fun e he => by
        have hBg : B ≤ g := Nat.le_trans hB hX.lg
        have hm := mem_listed he
        have hc3 := hX.cell1
        have hz3 := hX.frozen1
        simp [go_sem, *] at hm
        rw [events_store _ _ _ _ _ _ (by rfl), hc3] at hm
        simp only [hz3] at hm
        simp at hm
        rcases hm with rfl | rfl <;> exact ⟨_, rfl, rfl, fun _ => hBg⟩))
      clear hc1 hc2 hz1 hz2
      replace hX := hX.put (.int .i64 x0) (.slice A2 3 c2)
      (repeat (first | co_reg (termsG B) | (co_ctl (termsG B); try co_then) | co_cond (termsG B)))
      co_op HX.rely hX (co_quiet (termsG B))
      co_op HX.rely hX (co_quiet (termsG B))
      co_opw HX.rely hX (have hc2 := hX.cells.2.1) (exact DG.still _ (by co_evs (exact ⟨_, rfl, rfl, by simp⟩)))
      co_apply opsC_callE (termsG B) rfl (by rfl) rfl (hp As A2 3 cs 3 c2 (loadP (ts.take k)) (ts[k]?.getD (0, [])).2 _ (Nat.le_trans hB hX.hl.gr.size) (hX.sm.more (Nat.le_of_lt hX.blk.lt)) (hr2.gr hX.hl.gr) (by omega) (by omega)
        (fun j hj => by have := loadP_bd hb (k := k) (by omega) j hj; omega) (fun j hj => by have := hb k j; omega)) (by simp [Act.eval])
      rintro r w3 ⟨As', cs', rfl, h1⟩
      have hS : HS v (some ⟨b1, o1, none⟩) n ts (k + 1) As' w3 := ⟨hX.hl.rely h1.gr, by rw [loadP_take_succ (by omega)]; exact h1.rd⟩
      clear hX h1 hc2
      co_go (termsG B) HS.rely hS (co_quiet (termsG B))
      have e : IntKind.i64.wrap ((k : Int) + 1) = ((k + 1 : Nat) : Int) := by rw [IntKind.wrap_i64]; omega
      simp only [e]
      refine ⟨⟨k + 1, As', cs', _, _, _, _, _, _, _, _, _, _, _, _, _, _, by omega, hS, rfl⟩, ?_⟩
      simp [MuL]
      omega
    · intro hlt
      have ek : k = n := by have := of_decide_eq_false hlt; omega
      co_go (termsG B) HS.rely hF (co_quiet (termsG B))
      refine ⟨rfl, _, resultsC_tmp (by rfl) _, As, cs, rfl, hF.hl.gr, ?_⟩
      have := hF.sm
      rw [ek, List.take_of_length_le (by omega)] at this
      exact this
end
end Go.Proofs.YtlcgbnmmbheleaaGreat
