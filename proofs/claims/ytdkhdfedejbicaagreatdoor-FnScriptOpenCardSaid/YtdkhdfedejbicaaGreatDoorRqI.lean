/- Walks: requests of the program: bare, RequestValid, the wrappers. -/
import Derived.Test.YtdkhdfedejbicaaGreatDoorHostDo
namespace Go.Proofs.YtdkhdfedejbicaaGreatDoor
set_option linter.unusedSimpArgs false
set_option linter.unusedVariables false
open Go Go.RowKit Go.MuLone
attribute [local go_sem ↓] Go.wp_at_zero Go.wp_at_succ

abbrev rqV (r : Rq) (A : Option Addr) (n c : Nat) : Value := .agg #[.int .i64 r.kind, .int .i64 r.id, .slice A n c, .bool r.grant, .int .i64 r.num]
abbrev rqC (r : Rq) (A : Option Addr) (n c : Nat) : Array Value := #[.int .i64 r.kind, .int .i64 r.id, .slice A n c, .bool r.grant, .int .i64 r.num]

set_option maxRecDepth 100000 in
set_option maxHeartbeats 1600000 in
theorem bare_any (r : Rq) (A : Option Addr) (n c : Nat) (lo hi : Int) (w : World) (hn : r.xs.length = n) :
    Calls Tryz.prog 98 #[rqV r A n c, .int .i64 lo, .int .i64 hi] w fun e w' => e = .returned (.bool (bareOk r lo hi)) ∧ Below w.heap.size w w' := by
  have B1 := qh (alloc_up w (.cells (rqC r A n c) 77))
  have P1 := qh (Blk.new w 77 (rqC r A n c))
  obtain ⟨kind, id, xs, grant, num⟩ := r
  dsimp only [rqV, rqC] at *
  go_enter Tryz.func98, Tryz.ntmps98
  have p1 := P1.out.cell 1
  have p2 := P1.out.cell 2
  have p3 := P1.out.cell 3
  have p4 := P1.out.cell 4
  simp only [gT, gZ, gS] at p1 p2 p3 p4
  by_cases h1 : id = 0
  · subst h1
    by_cases h2 : n = 0
    · have h2' : (n : Int) = 0 := by omega
      have Hx := qh (show xs.length = 0 from hn.trans h2)
      clear hn h2
      cases grant with
      | false =>
        go_wp2_with fail
        refine (within_any num lo hi _).mono ?_; rintro e w3 ⟨rfl, rfl⟩
        go_wp2_with fail
        go_ret
        exact ⟨by simp [bareOk, Hx.out], B1.out⟩
      | true =>
        go_wp2_with fail
        go_ret
        exact ⟨by simp [bareOk], B1.out⟩
    · have h2' : ¬ (n : Int) = 0 := by omega
      have Hx := qh (show ¬ xs.length = 0 from fun e => h2 (hn.symm.trans e))
      clear hn
      go_wp2_with fail
      go_ret
      have e : xs ≠ [] := fun e => Hx.out (by rw [e]; rfl)
      exact ⟨by simp [bareOk, e], B1.out⟩
  · clear hn
    go_wp2_with fail
    go_ret
    exact ⟨by simp [bareOk, h1], B1.out⟩

set_option maxRecDepth 100000 in
set_option maxHeartbeats 1600000 in
theorem requestValid_any (r : Rq) (A : Option Addr) (n c : Nat) (w : World) (hr : RdI w w.heap.size A n r.xs) :
    Calls Tryz.prog 69 #[rqV r A n c] w fun e w' => e = .returned (.bool (rqOk r)) ∧ Below w.heap.size w w' := by
  have B1 := qh (alloc_up w (.cells (rqC r A n c) 77))
  have P1 := qh (Blk.new w 77 (rqC r A n c))
  have Hn := qh hr.len
  have R1 := qh (hr.up B1.out)
  obtain ⟨kind, id, xs, grant, num⟩ := r
  dsimp only [rqV, rqC] at *
  clear hr
  go_enter Tryz.func69, Tryz.ntmps69
  have p0 := P1.out.cell 0
  have p1 := P1.out.cell 1
  have p2 := P1.out.cell 2
  have p3 := P1.out.cell 3
  have p4 := P1.out.cell 4
  simp only [gT, gZ, gS] at p0 p1 p2 p3 p4
  by_cases k1 : kind = 1
  · subst k1
    go_wp2_with fail
    refine (idValid_any id _).mono ?_; rintro e w3 ⟨rfl, rfl⟩
    cases hi : inR 1 40 id with
    | false =>
      go_wp2_with fail
      go_ret
      exact ⟨by simp [rqOk, hi], B1.out⟩
    | true =>
      have Hi := qh hi
      clear hi
      go_wp2_with fail
      refine (vecValidI_any A n c _ xs _ R1.out).mono ?_; rintro e w3 ⟨rfl, rfl⟩
      cases hv : vecOk xs with
      | false =>
        go_wp2_with fail
        go_ret
        exact ⟨by simp [rqOk, Hi.out, hv], B1.out⟩
      | true =>
        have Hv := qh hv
        clear hv
        by_cases hz : num = 0
        · subst hz
          go_wp2_with fail
          go_ret
          exact ⟨by simp [rqOk, Hi.out, Hv.out], B1.out⟩
        · go_wp2_with fail
          go_ret
          exact ⟨by simp [rqOk, Hi.out, Hv.out], B1.out⟩
  · by_cases k2 : kind = 2
    · subst k2
      go_wp2_with fail
      refine (bare_any ⟨2, id, xs, grant, num⟩ A n c 1 40 _ Hn.out).mono ?_; rintro e w3 ⟨rfl, hb3⟩
      go_wp2_with fail
      go_ret
      exact ⟨rfl, B1.out.trans (hb3.mono B1.out.size)⟩
    · by_cases k3 : kind = 3
      · subst k3
        go_wp2_with fail
        refine (bare_any ⟨3, id, xs, grant, num⟩ A n c 0 9 _ Hn.out).mono ?_; rintro e w3 ⟨rfl, hb3⟩
        go_wp2_with fail
        go_ret
        exact ⟨rfl, B1.out.trans (hb3.mono B1.out.size)⟩
      · by_cases k4 : kind = 4
        · subst k4
          go_wp2_with fail
          refine (bare_any ⟨4, id, xs, grant, num⟩ A n c 0 9 _ Hn.out).mono ?_; rintro e w3 ⟨rfl, hb3⟩
          go_wp2_with fail
          go_ret
          exact ⟨rfl, B1.out.trans (hb3.mono B1.out.size)⟩
        · by_cases k5 : kind = 5
          · subst k5
            go_wp2_with fail
            refine (bare_any ⟨5, id, xs, grant, num⟩ A n c 0 20 _ Hn.out).mono ?_; rintro e w3 ⟨rfl, hb3⟩
            go_wp2_with fail
            go_ret
            exact ⟨rfl, B1.out.trans (hb3.mono B1.out.size)⟩
          · go_wp2_with fail
            go_ret
            exact ⟨by simp [rqOk, k1, k2, k3, k4, k5], B1.out⟩

set_option maxRecDepth 100000 in
set_option maxHeartbeats 1600000 in
theorem rqArrive_any (base hb : Nat) (A1 A3 : Option Addr) (n1 c1 n n3 c3 : Nat) (room : List Int) (us : List Un) (r : Rq) (w : World) (h : HostR w base hb 0 A1 n1 c1 n room us) (hbz : base ≤ w.heap.size) (hok : clOk room us = true) (hx : RdI w w.heap.size A3 n3 r.xs) (hc3 : n3 ≤ c3) :
    Calls Tryz.prog 70 #[rqV r A3 n3 c3, .pointer (some ⟨hb, 0, none⟩)] w fun e w' => e = .returned (.int .i64 (cavP room us r.id r.xs r.grant).2.2) ∧ HostP w' hb A1 n1 c1 n room (cavP room us r.id r.xs r.grant).2.1 ∧ Below base w w' := by
  have al := alloc_up w (.cells (rqC r A3 n3 c3) 77)
  have B1 := qh (al.mono hbz)
  have P1 := qh (Blk.new w 77 (rqC r A3 n3 c3))
  have R1 := qh (hx.up al)
  obtain ⟨vs, zs, tk, X⟩ := h
  have X1 := qh (X.up al)
  have Hok := qh hok
  obtain ⟨kind, id, xs, grant, num⟩ := r
  dsimp only [rqV, rqC] at *
  clear hx al X hok
  go_enter Tryz.func70, Tryz.ntmps70
  have p1 := P1.out.cell 1
  have p2 := P1.out.cell 2
  have p3 := P1.out.cell 3
  have p4 := P1.out.cell 4
  simp only [gT, gZ, gS] at p1 p2 p3 p4
  go_wp2_with fail
  generalize w.alloc (.cells #[.int .i64 kind, .int .i64 id, .slice A3 n3 c3, .bool grant, .int .i64 num] 77) = w1 at B1 P1 R1 X1 p1 p2 p3 p4 ⊢
  refine (arriveH_any base hb A1 A3 n1 c1 n n3 c3 room us id xs grant w1 ⟨vs, zs, tk, X1.out⟩ Hok.out R1.out hc3).mono ?_; rintro e w2 ⟨rfl, hp, hb2⟩
  clear p1 p2 p3 p4
  have Hp := qh hp
  have B2 := qh (B1.out.trans hb2)
  clear hp hb2
  go_wp2_with fail
  go_ret
  exact ⟨rfl, Hp.out, B2.out⟩

set_option maxRecDepth 100000 in
set_option maxHeartbeats 1600000 in
theorem rqDepart_any (base hb : Nat) (A1 A3 : Option Addr) (n1 c1 n n3 c3 : Nat) (room : List Int) (us : List Un) (r : Rq) (w : World) (h : HostR w base hb 0 A1 n1 c1 n room us) (hbz : base ≤ w.heap.size) (hok : clOk room us = true) (hx : RdI w w.heap.size A3 n3 r.xs) (hc3 : n3 ≤ c3) :
    Calls Tryz.prog 71 #[rqV r A3 n3 c3, .pointer (some ⟨hb, 0, none⟩)] w fun e w' => e = .returned (.int .i64 (depP room us r.num).2.2) ∧ HostP w' hb A1 n1 c1 n room (depP room us r.num).2.1 ∧ Below base w w' := by
  have al := alloc_up w (.cells (rqC r A3 n3 c3) 77)
  have B1 := qh (al.mono hbz)
  have P1 := qh (Blk.new w 77 (rqC r A3 n3 c3))
  have R1 := qh (hx.up al)
  obtain ⟨vs, zs, tk, X⟩ := h
  have X1 := qh (X.up al)
  have Hok := qh hok
  obtain ⟨kind, id, xs, grant, num⟩ := r
  dsimp only [rqV, rqC] at *
  clear hx al X hok
  go_enter Tryz.func71, Tryz.ntmps71
  have p1 := P1.out.cell 1
  have p2 := P1.out.cell 2
  have p3 := P1.out.cell 3
  have p4 := P1.out.cell 4
  simp only [gT, gZ, gS] at p1 p2 p3 p4
  go_wp2_with fail
  generalize w.alloc (.cells #[.int .i64 kind, .int .i64 id, .slice A3 n3 c3, .bool grant, .int .i64 num] 77) = w1 at B1 P1 R1 X1 p1 p2 p3 p4 ⊢
  refine (departH_any base hb A1 n1 c1 n room us num w1 ⟨vs, zs, tk, X1.out⟩ Hok.out).mono ?_; rintro e w2 ⟨rfl, hp, hb2⟩
  clear p1 p2 p3 p4
  have Hp := qh hp
  have B2 := qh (B1.out.trans hb2)
  clear hp hb2
  go_wp2_with fail
  go_ret
  exact ⟨rfl, Hp.out, B2.out⟩

set_option maxRecDepth 100000 in
set_option maxHeartbeats 1600000 in
theorem rqOpen_any (base hb : Nat) (A1 A3 : Option Addr) (n1 c1 n n3 c3 : Nat) (room : List Int) (us : List Un) (r : Rq) (w : World) (h : HostR w base hb 0 A1 n1 c1 n room us) (hbz : base ≤ w.heap.size) (hok : clOk room us = true) (hx : RdI w w.heap.size A3 n3 r.xs) (hc3 : n3 ≤ c3) :
    Calls Tryz.prog 72 #[rqV r A3 n3 c3, .pointer (some ⟨hb, 0, none⟩)] w fun e w' => e = .returned (.int .i64 (opnP room us r.num true).2.2) ∧ HostP w' hb A1 n1 c1 n room (opnP room us r.num true).2.1 ∧ Below base w w' := by
  have al := alloc_up w (.cells (rqC r A3 n3 c3) 77)
  have B1 := qh (al.mono hbz)
  have P1 := qh (Blk.new w 77 (rqC r A3 n3 c3))
  have R1 := qh (hx.up al)
  obtain ⟨vs, zs, tk, X⟩ := h
  have X1 := qh (X.up al)
  have Hok := qh hok
  obtain ⟨kind, id, xs, grant, num⟩ := r
  dsimp only [rqV, rqC] at *
  clear hx al X hok
  go_enter Tryz.func72, Tryz.ntmps72
  have p1 := P1.out.cell 1
  have p2 := P1.out.cell 2
  have p3 := P1.out.cell 3
  have p4 := P1.out.cell 4
  simp only [gT, gZ, gS] at p1 p2 p3 p4
  go_wp2_with fail
  generalize w.alloc (.cells #[.int .i64 kind, .int .i64 id, .slice A3 n3 c3, .bool grant, .int .i64 num] 77) = w1 at B1 P1 R1 X1 p1 p2 p3 p4 ⊢
  refine (openH_any base hb A1 n1 c1 n room us num true w1 ⟨vs, zs, tk, X1.out⟩ Hok.out).mono ?_; rintro e w2 ⟨rfl, hp, hb2⟩
  clear p1 p2 p3 p4
  have Hp := qh hp
  have B2 := qh (B1.out.trans hb2)
  clear hp hb2
  go_wp2_with fail
  go_ret
  exact ⟨rfl, Hp.out, B2.out⟩

set_option maxRecDepth 100000 in
set_option maxHeartbeats 1600000 in
theorem rqClose_any (base hb : Nat) (A1 A3 : Option Addr) (n1 c1 n n3 c3 : Nat) (room : List Int) (us : List Un) (r : Rq) (w : World) (h : HostR w base hb 0 A1 n1 c1 n room us) (hbz : base ≤ w.heap.size) (hok : clOk room us = true) (hx : RdI w w.heap.size A3 n3 r.xs) (hc3 : n3 ≤ c3) :
    Calls Tryz.prog 73 #[rqV r A3 n3 c3, .pointer (some ⟨hb, 0, none⟩)] w fun e w' => e = .returned (.int .i64 (opnP room us r.num false).2.2) ∧ HostP w' hb A1 n1 c1 n room (opnP room us r.num false).2.1 ∧ Below base w w' := by
  have al := alloc_up w (.cells (rqC r A3 n3 c3) 77)
  have B1 := qh (al.mono hbz)
  have P1 := qh (Blk.new w 77 (rqC r A3 n3 c3))
  have R1 := qh (hx.up al)
  obtain ⟨vs, zs, tk, X⟩ := h
  have X1 := qh (X.up al)
  have Hok := qh hok
  obtain ⟨kind, id, xs, grant, num⟩ := r
  dsimp only [rqV, rqC] at *
  clear hx al X hok
  go_enter Tryz.func73, Tryz.ntmps73
  have p1 := P1.out.cell 1
  have p2 := P1.out.cell 2
  have p3 := P1.out.cell 3
  have p4 := P1.out.cell 4
  simp only [gT, gZ, gS] at p1 p2 p3 p4
  go_wp2_with fail
  generalize w.alloc (.cells #[.int .i64 kind, .int .i64 id, .slice A3 n3 c3, .bool grant, .int .i64 num] 77) = w1 at B1 P1 R1 X1 p1 p2 p3 p4 ⊢
  refine (openH_any base hb A1 n1 c1 n room us num false w1 ⟨vs, zs, tk, X1.out⟩ Hok.out).mono ?_; rintro e w2 ⟨rfl, hp, hb2⟩
  clear p1 p2 p3 p4
  have Hp := qh hp
  have B2 := qh (B1.out.trans hb2)
  clear hp hb2
  go_wp2_with fail
  go_ret
  exact ⟨rfl, Hp.out, B2.out⟩
end Go.Proofs.YtdkhdfedejbicaaGreatDoor
