/- Walks: the helpers of the exact laws: szIntS .. szTaskSS, toIntS .. toTaskSS, eqIntS .. eqTaskSS. -/
import Derived.Test.YtkcflajhmekcaaaGreatOwn
namespace Go.Proofs.YtkcflajhmekcaaaGreat
open Go.RowKit

theorem slice_info : (Tryz.prog.info? 31).map (fun i => (i.zero, i.size, i.bytes)) = some (some (.slice none 0 0), 1, 24) := by kernel_rfl

/-- What is left of a number of places, or -1. -/
def SzOk (left : Int) (tot : Nat) (r : Int) : Prop := r = -1 ∨ (0 ≤ r ∧ r + tot = left)
/-- The values in tasks, in nodes. -/
def totT : List Tk → Nat
  | [] => 0
  | t :: ts => 1 + t.2.length + totT ts
def totB : List (List Tk) → Nat
  | [] => 0
  | b :: bs => 1 + totT b + totB bs
theorem totT_append (a b : List Tk) : totT (a ++ b) = totT a + totT b := by
  induction a with
  | nil => simp [totT]
  | cons t a ih => simp only [List.cons_append, totT, ih]; omega
theorem totT_ge (ts : List Tk) : ts.length ≤ totT ts := by
  induction ts with
  | nil => simp [totT]
  | cons t ts ih => simp only [List.length_cons, totT]; omega
theorem totB_append (a b : List (List Tk)) : totB (a ++ b) = totB a + totB b := by
  induction a with
  | nil => simp [totB]
  | cons t a ih => simp only [List.cons_append, totB, ih]; omega
theorem totB_flat (bs : List (List Tk)) : bs.flatten.length + bs.length ≤ totB bs := by
  induction bs with
  | nil => simp [totB]
  | cons b bs ih =>
    have := totT_ge b
    simp only [List.flatten_cons, List.length_append, List.length_cons, totB]
    omega
theorem totT_need {ts : List Tk} {k : Nat} (h : k < ts.length) : (ts[k]?.getD (0, [])).2.length ≤ totT ts := by
  have h1 := totT_append (ts.take k) (ts.drop k)
  rw [List.take_append_drop, List.drop_eq_getElem_cons h] at h1
  rw [List.getElem?_eq_getElem h]
  simp only [totT, Option.getD_some] at h1 ⊢
  omega
theorem totB_bin {bs : List (List Tk)} {k : Nat} (h : k < bs.length) : totT (bs[k]?.getD []) ≤ totB bs := by
  have h1 := totB_append (bs.take k) (bs.drop k)
  rw [List.take_append_drop, List.drop_eq_getElem_cons h] at h1
  rw [List.getElem?_eq_getElem h]
  simp only [totB, Option.getD_some] at h1 ⊢
  omega
/-- The needs of the first k tasks, and of k nodes. -/
def needT (ts : List Tk) : Nat := totT ts - ts.length
def needB (bs : List (List Tk)) : Nat := totB bs - bs.length
theorem needT_succ {ts : List Tk} {k : Nat} (h : k < ts.length) : needT (ts.take (k + 1)) = needT (ts.take k) + (ts[k]?.getD (0, [])).2.length := by
  have h1 := totT_ge (ts.take k)
  rw [needT, needT, List.take_succ_eq_append_getElem h, totT_append, List.getElem?_eq_getElem h]
  simp only [totT, List.length_append, List.length_cons, List.length_nil, Option.getD_some]
  omega
theorem needB_succ {bs : List (List Tk)} {k : Nat} (h : k < bs.length) : needB (bs.take (k + 1)) = needB (bs.take k) + totT (bs[k]?.getD []) := by
  have h1 := totB_flat (bs.take k)
  rw [needB, needB, List.take_succ_eq_append_getElem h, totB_append, List.getElem?_eq_getElem h]
  simp only [totB, List.length_append, List.length_cons, List.length_nil, Option.getD_some]
  omega

set_option maxHeartbeats 400000 in
theorem szIntS_any (A : Option Addr) (n c : Nat) (left : Int) (w : World) (h0 : 0 ≤ left) (h1 : left ≤ 1048576) (hn : n ≤ 9223372036854775807) :
    Calls Tryz.prog 26 #[.slice A n c, .int .i64 left] w fun e w' => ∃ r, e = .returned (.int .i64 r) ∧ SzOk left n r ∧ w = w' := by
  by_cases h : left < n
  · have h' : left - n < 0 := by omega
    go_enter Tryz.func26, Tryz.ntmps26
    go_wp2
    go_ret
    exact ⟨-1, rfl, .inl rfl, rfl⟩
  · have h' : ¬ left - n < 0 := by omega
    go_enter Tryz.func26, Tryz.ntmps26
    go_wp2
    go_ret
    exact ⟨left - n, rfl, .inr ⟨by omega, by omega⟩, rfl⟩

set_option maxHeartbeats 400000 in
theorem szTask_any (A : Option Addr) (n c : Nat) (id left : Int) (w : World) (h0 : 0 ≤ left) (h1 : left ≤ 1048576) (hn : n ≤ 9223372036854775807) :
    Calls Tryz.prog 7 #[.agg #[.int .i64 id, .slice A n c], .int .i64 left] w fun e w' => ∃ r, e = .returned (.int .i64 r) ∧ SzOk left n r ∧ Below w.heap.size w w' := by
  go_enter Tryz.func7, Tryz.ntmps7
  go_wp2_with fail
  refine (szIntS_any _ _ _ _ _ h0 h1 hn).mono ?_; rintro e w1 ⟨r, rfl, hr, rfl⟩
  have hal : Below w.heap.size w (w.alloc (.cells #[.int .i64 id, .slice A n c] 25)) := (Below.refl _ _).alloc (Nat.le_refl _) _
  rcases hr with rfl | ⟨hr, he⟩
  · go_wp2
    go_ret
    exact ⟨-1, rfl, .inl rfl, hal⟩
  · have He := Lib.hid he
    have hr' : ¬ r < 0 := by omega
    clear he
    go_wp2
    go_ret
    exact ⟨r, rfl, .inr ⟨hr, He.out⟩, hal⟩

set_option maxRecDepth 100000 in
set_option maxHeartbeats 800000 in
theorem szTaskS_any (A : Option Addr) (n c : Nat) (ts : List Tk) (left : Int) (w : World) (h : RdT w w.heap.size A n ts) (h0 : 0 ≤ left) (h1 : left ≤ 1048576) :
    Calls Tryz.prog 6 #[.slice A n c, .int .i64 left] w fun e w' => ∃ r, e = .returned (.int .i64 r) ∧ SzOk left (totT ts) r ∧ Below w.heap.size w w' := by
  have hl := Lib.hid h.len
  have hn := h.le
  have H := Lib.hid h
  clear h
  by_cases hlt : left < n
  · have h' : left - n < 0 := by omega
    go_enter Tryz.func6, Tryz.ntmps6
    go_wp2
    go_ret
    exact ⟨-1, rfl, .inl rfl, Below.refl _ _⟩
  · have h' : ¬ left - n < 0 := by omega
    go_enter Tryz.func6, Tryz.ntmps6
    go_wp2
    go_loopw [1, 5] (fun l i wr => ∃ (k : Nat) (r : Int), i = .int .i64 k ∧ k ≤ n ∧ l = .int .i64 r ∧ 0 ≤ r ∧ r ≤ 1048576 ∧ Hid (r + n + needT (ts.take k) = left) ∧ Below w.heap.size w wr) (fun _ i _ => n - (intOf i).toNat)
    case atStart => exact ⟨0, left - n, rfl, Nat.zero_le _, rfl, by omega, by omega, Lib.hid (by simp [needT, totT]), Below.refl _ _⟩
    case round =>
      obtain ⟨k, r, rfl, hk, rfl, hr0, hr1, hr, hbel⟩ := hrel
      by_cases hkn : k < n
      · obtain ⟨b, o, A', m', c', rfl, hb, hc1, hc2, hmc, hrd⟩ := (H.out.below hbel).at_ hkn
        have lz := hbel.size
        have hkl : Hid (k < ts.length) := by have := hl.out; show _ < _; omega
        have Hrd := Lib.hid hrd
        have hm := hrd.le
        clear hrd
        go_wp2_with fail
        refine (szTask_any _ _ _ _ _ _ hr0 hr1 hm).mono ?_; rintro e w1 ⟨q, rfl, hq, hb1⟩
        have hb2 := hbel.trans (hb1.mono lz)
        rcases hq with rfl | ⟨hq, he⟩
        · go_wp2
          go_ret
          exact ⟨-1, rfl, .inl rfl, hb2⟩
        · have He := Lib.hid he
          have hq' : ¬ q < 0 := by omega
          have hq1 : q ≤ 1048576 := by omega
          clear he
          go_wp2
          go_roundw
          case rel => exact ⟨k + 1, q, by go_num, by omega, rfl, hq, hq1, Lib.hid (by rw [needT_succ hkl.out, Hrd.out.len]; have := hr.out; have := He.out; omega), hb2⟩
          case measure => simp [intOf]; omega
      · have ek : k = n := by omega
        have Ek := Lib.hid ek
        clear ek
        go_wp2
        go_ret
        refine ⟨r, rfl, .inr ⟨hr0, ?_⟩, hbel⟩
        have := hr.out
        rw [Ek.out, List.take_of_length_le (by have := hl.out; omega)] at this
        have := totT_ge ts
        have := hl.out
        unfold needT at *
        omega

end Go.Proofs.YtkcflajhmekcaaaGreat
