/- Walk: RequestValid of the reference (printed by gen_sprq.py). -/
import Derived.Test.YtdkhdfedejbicaaGreatDoorRqI
namespace Go.Proofs.YtdkhdfedejbicaaGreatDoor
set_option linter.unusedSimpArgs false
set_option linter.unusedVariables false
open Go Go.RowKit
attribute [local go_sem ↓] Go.wp_at_zero Go.wp_at_succ

set_option maxRecDepth 100000 in
set_option maxHeartbeats 3200000 in
theorem requestValidS_any (r : Rq) (A : Option Addr) (n c : Nat) (w : World) (hr : RdI w w.heap.size A n r.xs) :
    Calls Tryz.prog 82 #[rqV r A n c] w fun e w' => e = .returned (.bool (rqOk r)) ∧ Below w.heap.size w w' := by
  have B1 := qh (alloc_up w (.cells (rqC r A n c) 77))
  have P1 := qh (Blk.new w 77 (rqC r A n c))
  have Hn := qh hr.len
  have R1 := qh (hr.up B1.out)
  obtain ⟨kind, id, xs, grant, num⟩ := r
  dsimp only [rqV, rqC] at *
  clear hr
  go_enter Tryz.func82, Tryz.ntmps82
  have p0 := P1.out.cell 0
  have p1 := P1.out.cell 1
  have p2 := P1.out.cell 2
  have p3 := P1.out.cell 3
  have p4 := P1.out.cell 4
  simp only [gT, gZ, gS] at p0 p1 p2 p3 p4
  by_cases k1 : kind = 1
  · subst k1
    go_wp2_with fail
    refine (l6In_any id 1 40 _).mono ?_; rintro e w3 ⟨rfl, rfl⟩
    cases hi : inR 1 40 id with
    | false =>
      go_wp2_with fail
      go_ret
      exact ⟨by simp [rqOk, hi], B1.out⟩
    | true =>
      have Hi := qh hi
      clear hi
      go_wp2_with fail
      refine (vecValid_any A n c _ xs _ R1.out).mono ?_; rintro e w3 ⟨rfl, rfl⟩
      cases hv : vecOk xs with
      | false =>
        go_wp2_with fail
        go_ret
        exact ⟨by simp [rqOk, Hi.out, hv], B1.out⟩
      | true =>
        have Hv := qh hv
        clear hv
        by_cases hz : num = 0
        · subst hz
          go_wp2_with fail
          go_ret
          exact ⟨by simp [rqOk, Hi.out, Hv.out], B1.out⟩
        · go_wp2_with fail
          go_ret
          exact ⟨by simp [rqOk, Hi.out, Hv.out], B1.out⟩
  · by_cases k2 : kind = 2
    · subst k2
      by_cases h1 : id = 0
      · subst h1
        by_cases h2 : n = 0
        · have Hx := qh (show xs.length = 0 from Hn.out.trans h2)
          have h2' : (n : Int) = 0 := by omega
          clear h2
          cases grant with
          | false =>
            go_wp2_with fail
            refine (l6In_any num 1 40 _).mono ?_; rintro e w3 ⟨rfl, rfl⟩
            go_wp2_with fail
            go_ret
            exact ⟨by simp [rqOk, bareOk, Hx.out], B1.out⟩
          | true =>
            go_wp2_with fail
            go_ret
            exact ⟨by simp [rqOk, bareOk], B1.out⟩
        · have e : xs ≠ [] := fun e => h2 (by rw [← Hn.out, e]; rfl)
          have He := qh e
          have h2' : ¬ (n : Int) = 0 := by omega
          clear e
          go_wp2_with fail
          go_ret
          exact ⟨by simp [rqOk, bareOk, He.out], B1.out⟩
      · go_wp2_with fail
        go_ret
        exact ⟨by simp [rqOk, bareOk, h1], B1.out⟩
    · by_cases k3 : kind = 3
      · subst k3
        by_cases h1 : id = 0
        · subst h1
          by_cases h2 : n = 0
          · have Hx := qh (show xs.length = 0 from Hn.out.trans h2)
            have h2' : (n : Int) = 0 := by omega
            clear h2
            cases grant with
            | false =>
              go_wp2_with fail
              refine (l6In_any num 0 9 _).mono ?_; rintro e w3 ⟨rfl, rfl⟩
              go_wp2_with fail
              go_ret
              exact ⟨by simp [rqOk, bareOk, Hx.out], B1.out⟩
            | true =>
              go_wp2_with fail
              go_ret
              exact ⟨by simp [rqOk, bareOk], B1.out⟩
          · have e : xs ≠ [] := fun e => h2 (by rw [← Hn.out, e]; rfl)
            have He := qh e
            have h2' : ¬ (n : Int) = 0 := by omega
            clear e
            go_wp2_with fail
            go_ret
            exact ⟨by simp [rqOk, bareOk, He.out], B1.out⟩
        · go_wp2_with fail
          go_ret
          exact ⟨by simp [rqOk, bareOk, h1], B1.out⟩
      · by_cases k4 : kind = 4
        · subst k4
          by_cases h1 : id = 0
          · subst h1
            by_cases h2 : n = 0
            · have Hx := qh (show xs.length = 0 from Hn.out.trans h2)
              have h2' : (n : Int) = 0 := by omega
              clear h2
              cases grant with
              | false =>
                go_wp2_with fail
                refine (l6In_any num 0 9 _).mono ?_; rintro e w3 ⟨rfl, rfl⟩
                go_wp2_with fail
                go_ret
                exact ⟨by simp [rqOk, bareOk, Hx.out], B1.out⟩
              | true =>
                go_wp2_with fail
                go_ret
                exact ⟨by simp [rqOk, bareOk], B1.out⟩
            · have e : xs ≠ [] := fun e => h2 (by rw [← Hn.out, e]; rfl)
              have He := qh e
              have h2' : ¬ (n : Int) = 0 := by omega
              clear e
              go_wp2_with fail
              go_ret
              exact ⟨by simp [rqOk, bareOk, He.out], B1.out⟩
          · go_wp2_with fail
            go_ret
            exact ⟨by simp [rqOk, bareOk, h1], B1.out⟩
        · by_cases k5 : kind = 5
          · subst k5
            by_cases h1 : id = 0
            · subst h1
              by_cases h2 : n = 0
              · have Hx := qh (show xs.length = 0 from Hn.out.trans h2)
                have h2' : (n : Int) = 0 := by omega
                clear h2
                cases grant with
                | false =>
                  go_wp2_with fail
                  refine (l6In_any num 0 20 _).mono ?_; rintro e w3 ⟨rfl, rfl⟩
                  go_wp2_with fail
                  go_ret
                  exact ⟨by simp [rqOk, bareOk, Hx.out], B1.out⟩
                | true =>
                  go_wp2_with fail
                  go_ret
                  exact ⟨by simp [rqOk, bareOk], B1.out⟩
              · have e : xs ≠ [] := fun e => h2 (by rw [← Hn.out, e]; rfl)
                have He := qh e
                have h2' : ¬ (n : Int) = 0 := by omega
                clear e
                go_wp2_with fail
                go_ret
                exact ⟨by simp [rqOk, bareOk, He.out], B1.out⟩
            · go_wp2_with fail
              go_ret
              exact ⟨by simp [rqOk, bareOk, h1], B1.out⟩
          · go_wp2_with fail
            go_ret
            exact ⟨by simp [rqOk, k1, k2, k3, k4, k5], B1.out⟩
end Go.Proofs.YtdkhdfedejbicaaGreatDoor
