/- sumOf, and plain laws on the sum of zone counts. -/
import Derived.Test.YtgngmjlbeofjkaaGapPure
import Derived.Test.YtgngmjlbeofjkaaLawEq
namespace Go.Proofs.Ytgngmjlbeofjkaa
open Go.RowKit

theorem isum_take_succ {xs : List Int} {k : Nat} (h : k < xs.length) : (xs.take (k + 1)).sum = (xs.take k).sum + xs[k]?.getD 0 := by
  rw [List.take_succ_eq_append_getElem h, List.sum_append, List.getElem?_eq_getElem h]; simp
theorem isum_bd {xs : List Int} (h : ∀ i : Nat, 0 ≤ xs[i]?.getD 0 ∧ xs[i]?.getD 0 ≤ 1000000) : ∀ k : Nat, k ≤ xs.length → 0 ≤ (xs.take k).sum ∧ (xs.take k).sum ≤ 1000000 * k := by
  intro k
  induction k with
  | zero => intro _; simp
  | succ k ih =>
    intro hk
    have h1 := ih (by omega)
    have h2 := h k
    rw [isum_take_succ (by omega)]
    omega

set_option maxRecDepth 100000 in
set_option maxHeartbeats 400000 in
theorem sumOf_any (A : Option Addr) (n c B : Nat) (xs : List Int) (w : World) (h : RdI w B A n xs) (hn : n ≤ 1000) (hb : ∀ i : Nat, 0 ≤ xs[i]?.getD 0 ∧ xs[i]?.getD 0 ≤ 1000000) :
    Calls Try.prog 26 #[.slice A n c] w fun e w' => e = .returned (.int .i64 xs.sum) ∧ w = w' := by
  have hl := Lib.hid h.len
  have H := Lib.hid h
  have Hb := Lib.hid hb
  clear h hb
  go_enter Try.func26, Try.ntmps26
  go_wp2
  go_loop [3, 4] (fun s i => ∃ k : Nat, i = .int .i64 k ∧ k ≤ n ∧ s = .int .i64 (xs.take k).sum) (fun _ i => n - (intOf i).toNat)
  case atStart => exact ⟨0, rfl, Nat.zero_le _, rfl⟩
  case round =>
    obtain ⟨k, rfl, hk, rfl⟩ := hrel
    have hsb := isum_bd Hb.out k (by have := hl.out; omega)
    have hxb := Hb.out k
    by_cases hlt : k < n
    · obtain ⟨b, o, rfl, hbB, hc⟩ := H.out.at_ hlt
      have E := Lib.hid (isum_take_succ (xs := xs) (k := k) (by have := hl.out; omega))
      have k1 : (0 : Int) ≤ (k : Int) := by omega
      have k2 : (k : Int) < (n : Int) := by omega
      generalize (xs.take k).sum = s at hsb E ⊢
      generalize xs[k]?.getD 0 = x at hxb hc E
      have e1 : IntKind.i64.wrap (s + x) = s + x := wr64 (by omega) (by omega)
      go_wp2
      go_round
      case rel => exact ⟨k + 1, by go_num, by omega, by rw [E.out]⟩
      case measure => simp [intOf]; omega
    · have ek : k = n := by omega
      have e0 : xs.take k = xs := List.take_of_length_le (by have := hl.out; omega)
      have E0 := Lib.hid e0
      clear e0 ek
      go_wp2
      go_ret
      exact ⟨ret_int (by rw [E0.out]), rfl⟩

theorem four_cells {c : List Int} (h : c.length = 4) : ∃ a b d e, c = [a, b, d, e] := by
  match c, h with
  | [a, b, d, e], _ => exact ⟨a, b, d, e, rfl⟩
theorem bump_sum {c : List Int} {z : Int} (h : c.length = 4) (h0 : 0 ≤ z) (h1 : z ≤ 3) : (bump c z).sum = c.sum + 1 := by
  obtain ⟨a, b, d, e, rfl⟩ := four_cells h
  have : z = 0 ∨ z = 1 ∨ z = 2 ∨ z = 3 := by omega
  rcases this with rfl | rfl | rfl | rfl <;> simp [bump] <;> omega
theorem fold_sum {bs : List (List Tk)} {zones : List Int} (hz : ∀ k : Nat, 0 ≤ zones[k]?.getD 0 ∧ zones[k]?.getD 0 ≤ 3) : ∀ (l c : List Int), c.length = 4 → (l.foldl (stepC bs zones) c).sum = c.sum + (foundP bs l).length
  | [], c, _ => by simp [foundP]
  | id :: l, c, hc => by
    rw [List.foldl_cons, fold_sum hz l _ (by rw [stepC_len]; exact hc)]
    by_cases hw : 0 ≤ whereP bs id
    · rw [stepC, if_pos hw, bump_sum hc (hz _).1 (hz _).2]
      have e : (foundP bs (id :: l)).length = (foundP bs l).length + 1 := by simp [foundP, hw]
      rw [e]
      omega
    · rw [stepC, if_neg hw]
      have e : (foundP bs (id :: l)).length = (foundP bs l).length := by simp [foundP, hw]
      rw [e]
/-- Zones have all tasks that are somewhere. -/
theorem counts_sum {room : List Int} {bs : List (List Tk)} {zones ids : List Int} (h : zonesOk room bs zones ids = true) : (countsP bs zones ids).sum = (foundP bs ids).length := by
  rw [countsP, fold_sum (zonesOk_zone h) ids _ rfl]
  simp
theorem found_take_succ {bs : List (List Tk)} {ids : List Int} {k : Nat} (h : k < ids.length) : (foundP bs (ids.take (k + 1))).length = (foundP bs (ids.take k)).length + (if 0 ≤ whereP bs (ids[k]?.getD 0) then 1 else 0) := by
  rw [foundP, List.take_succ_eq_append_getElem h, List.filter_append, List.length_append, List.getElem?_eq_getElem h]
  simp only [Option.getD_some]
  split
  · rename_i hw; simp [foundP, hw]
  · rename_i hw; simp [foundP, hw]
end Go.Proofs.Ytgngmjlbeofjkaa
