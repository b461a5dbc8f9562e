/- Several texts in one. -/
import Derived.Test.YtlcgbnmmbheleaaV30
namespace Go.Proofs.Ytlcgbnmmbheleaa
open Go.RowKit

end Go.Proofs.Ytlcgbnmmbheleaa

namespace Go.Proofs.Ytlcgbnmmbheleaa

end Go.Proofs.Ytlcgbnmmbheleaa

namespace Go.Proofs.Ytlcgbnmmbheleaa
open Go.RowKit

theorem isum_take_succ {xs : List Int} {k : Nat} (h : k < xs.length) : (xs.take (k + 1)).sum = (xs.take k).sum + xs[k]?.getD 0 := by
  rw [List.take_succ_eq_append_getElem h, List.sum_append, List.getElem?_eq_getElem h]; simp
theorem isum_bd {xs : List Int} (h : ∀ i : Nat, 0 ≤ xs[i]?.getD 0 ∧ xs[i]?.getD 0 ≤ 1000000) : ∀ k : Nat, k ≤ xs.length → 0 ≤ (xs.take k).sum ∧ (xs.take k).sum ≤ 1000000 * k := by
  intro k
  induction k with
  | zero => intro _; simp
  | succ k ih =>
    intro hk
    have h1 := ih (by omega)
    have h2 := h k
    rw [isum_take_succ (by omega)]
    omega

set_option maxRecDepth 100000 in
set_option maxHeartbeats 400000 in
theorem sumOf_any (A : Option Addr) (n c B : Nat) (xs : List Int) (w : World) (h : RdI w B A n xs) (hn : n ≤ 1000) (hb : ∀ i : Nat, 0 ≤ xs[i]?.getD 0 ∧ xs[i]?.getD 0 ≤ 1000000) :
    Calls Try.prog 9 #[.slice A n c] w fun e w' => e = .returned (.int .i64 xs.sum) ∧ w = w' := by
  have hl := qh h.len
  have H := qh h
  have Hb := qh hb
  clear h hb
  go_enter Try.func9, Try.ntmps9
  go_wp2
  go_loop [3, 4] (fun s i => ∃ k : Nat, i = .int .i64 k ∧ k ≤ n ∧ s = .int .i64 (xs.take k).sum) (fun _ i => n - (intOf i).toNat)
  case atStart => exact ⟨0, rfl, Nat.zero_le _, rfl⟩
  case round =>
    obtain ⟨k, rfl, hk, rfl⟩ := hrel
    have hsb := isum_bd Hb.out k (by have := hl.out; omega)
    have hxb := Hb.out k
    by_cases hlt : k < n
    · obtain ⟨b, o, rfl, hbB, hc⟩ := H.out.at_ hlt
      have E := qh (isum_take_succ (xs := xs) (k := k) (by have := hl.out; omega))
      have k1 : (0 : Int) ≤ (k : Int) := by omega
      have k2 : (k : Int) < (n : Int) := by omega
      generalize (xs.take k).sum = s at hsb E ⊢
      generalize xs[k]?.getD 0 = x at hxb hc E
      have e1 : IntKind.i64.wrap (s + x) = s + x := wr64 (by omega) (by omega)
      go_wp2
      go_round
      case rel => exact ⟨k + 1, by go_num, by omega, by rw [E.out]⟩
      case measure => simp [intOf]; omega
    · have ek : k = n := by omega
      have e0 : xs.take k = xs := List.take_of_length_le (by have := hl.out; omega)
      have E0 := qh e0
      clear e0 ek
      go_wp2
      go_ret
      exact ⟨ret_int (by rw [E0.out]), rfl⟩

end Go.Proofs.Ytlcgbnmmbheleaa
