/- The walks of the laws FnEvictRank and FnEvictSame. -/
import Derived.Test.YtkcflajhmekcaaaGreatDrawEvicts
import Derived.Test.YtkcflajhmekcaaaGreatLawEq
namespace Go.Proofs.YtkcflajhmekcaaaGreat
open Go Go.RowKit

theorem evP_more {room : List Int} {ts : List Tk} {rk : List Int} {t : Tk} {r : Int} {g : Nat → Bool} (h : evP room ts rk t r = some g) (hr : ¬ r = 9) : evP room ts rk t (r + 1) = some g := by
  obtain ⟨h1, h2⟩ := evP_facts h
  obtain ⟨_, _, _, _, _, _, g1, g2⟩ := evOk_facts h1
  rw [evP, if_pos, goneP_more h2]
  have h3 : inR 0 9 (r + 1) = true := inR_iff.2 ⟨by omega, by omega⟩
  simp only [evOk, Bool.and_eq_true] at h1 ⊢
  exact ⟨h1.1, h3⟩



end Go.Proofs.YtkcflajhmekcaaaGreat
