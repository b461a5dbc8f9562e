/- Walks: the draw of a script: some string. (Printed by gen_scdraw.py.) -/
import Derived.Test.YtdkhdfedejbicaaGreatDoorScExact
namespace Go.Proofs.YtdkhdfedejbicaaGreatDoor
set_option linter.unusedSimpArgs false
set_option linter.unusedVariables false
open Go Go.RowKit
attribute [local go_sem ↓] Go.wp_at_zero Go.wp_at_succ

theorem rdr_ne {w : World} {g p gs : Nat} {cs : Array Value} (h : Rdr w g p) (hs : Blk w gs 9 cs) : gs ≠ g := by
  obtain ⟨_, _, _, hb, _⟩ := h
  exact blk_ne9 hs hb (by decide)

set_option maxRecDepth 100000 in
set_option maxHeartbeats 3200000 in
theorem of_any (g p gs : Nat) (ss : List Bs) (w : World) (h : Rdr w g p) (hs : Blk w gs 9 (ss.map strV).toArray) (h1 : 1 ≤ ss.length) (h2 : ss.length ≤ 100) (hp : p ≤ 900000) :
    Calls Tryz.prog 33 #[.pointer (some ⟨g, 0, none⟩), .slice (some ⟨gs, 0, none⟩) ss.length ss.length] w fun e w' => ∃ l : Bs, l ∈ ss ∧ e = .returned (.string (bs l)) ∧ Rdr w' g (p + 1) ∧ OnlyG w w' g := by
  have H := qh h
  have HS := qh hs
  have Hc := qh (show ∀ v, Blk v gs 9 (ss.map strV).toArray → ∀ j, j < ss.length → v.cell? ⟨gs, j, none⟩ = some (.string (bs (ss[j]?.getD []))) from fun v hv j hj => by rw [hv.cell]; simp [hj, strV])
  have Hm := qh (show ∀ j, j < ss.length → ss[j]?.getD [] ∈ ss from fun j hj => by rw [List.getElem?_eq_getElem hj]; exact List.getElem_mem hj)
  have hne := rdr_ne h hs
  clear h hs
  generalize hn : ss.length = n at *
  clear hn
  go_enter Tryz.func33, Tryz.ntmps33
  go_wp2_with fail
  refine (pick_at n H.out rfl (by omega) h1 (by omega)).mono ?_; rintro e w1 ⟨r, rfl, hr, R1, O1⟩
  have q1 : (0 : Int) ≤ (r : Int) := by omega
  have q2 : (r : Int) < (n : Int) := by omega
  have x0 := Hc.out w1 (O1.blk HS.out hne) r hr
  have Hr := qh (Hm.out r hr)
  have R2 := qh R1
  have O2 := qh O1
  clear R1 O1
  generalize ss[r]?.getD [] = x at *
  generalize hsx : bs x = sx at *
  have Hsx := qh hsx
  clear hsx
  go_wp2_with fail
  go_ret
  exact ⟨x, Hr.out, by rw [Hsx.out]; rfl, R2.out, O2.out⟩

set_option maxRecDepth 100000 in
set_option maxHeartbeats 6400000 in
theorem l92Line_any (g p : Nat) (w : World) (h : Rdr w g p) (hp : p ≤ 800000) :
    Calls Tryz.prog 19 #[.pointer (some ⟨g, 0, none⟩)] w fun e w' => ∃ l : Bs, e = .returned (.string (bs l)) ∧ l.length ≤ 40 ∧ OnlyG w w' g ∧ ∃ q, q ≤ p + 6 ∧ Rdr w' g q := by
  go_enter Tryz.func19, Tryz.ntmps19
  go_wp2_with fail
  refine (pick_at 10 h rfl (by omega) (by omega) (by omega)).mono ?_; rintro e w1 ⟨r, rfl, hr, R1, O1⟩
  have R1' := qh R1
  have O1' := qh O1
  clear R1 O1 h
  by_cases c0 : r = 0
  · have t0 : ((r : Int) == 0) = true := by simp [c0]
    go_wp2_with fail
    refine (pick_at 9 R1'.out rfl (by omega) (by omega) (by omega)).mono ?_; rintro e w2 ⟨k, rfl, hk, R2, O2⟩
    have R2' := qh R2
    have O2' := qh (O1'.out.trans O2)
    clear R2 O2
    have v1 : IntKind.i64.wrap (1 + (k : Int)) = 1 + (k : Int) := wr64 (by omega) (by omega)
    have HD3 := qh (l6Dec_any (1 + (k : Int)) (by omega) (by omega) w2)
    have hd3 := (decD_len (1 + (k : Int))).2
    have a1 : ∀ W, (Op.stringOp .add ⟨#[100, 101, 112, 97, 114, 116, 32]⟩ (bs (decD (1 + (k : Int))))).run Tryz.prog W = .ok (.string (bs ([100, 101, 112, 97, 114, 116, 32] ++ decD (1 + (k : Int))))) W := add_run [100, 101, 112, 97, 114, 116, 32] (decD (1 + (k : Int))) (by simp; omega)
    have hz : ([100, 101, 112, 97, 114, 116, 32] ++ decD (1 + (k : Int))).length ≤ 40 := by simp; omega
    generalize [100, 101, 112, 97, 114, 116, 32] ++ decD (1 + (k : Int)) = z at *
    generalize decD (1 + (k : Int)) = d at *
    go_wp2_with fail
    refine HD3.out.mono ?_; rintro e w3 ⟨rfl, hb⟩
    have R3' := qh (R2'.out.below hb)
    have O3' := qh (O2'.out.below hb)
    clear hb
    go_wp2_with fail
    go_ret
    exact ⟨z, rfl, hz, O3'.out, _, by omega, R3'.out⟩
  · have t0 : ((r : Int) == 0) = false := by simp; omega
    by_cases c1 : r = 1
    · have t1 : ((r : Int) == 1) = true := by simp [c1]
      have al := alloc_up w1 (.cells #[.string ⟨#[111, 112, 101, 110, 32]⟩, .string ⟨#[99, 108, 111, 115, 101, 32]⟩] 9)
      have R2' := qh (R1'.out.below al)
      have O2' := qh (O1'.out.alloc (.cells #[.string ⟨#[111, 112, 101, 110, 32]⟩, .string ⟨#[99, 108, 111, 115, 101, 32]⟩] 9))
      have S2 := qh (Blk.new w1 9 #[.string ⟨#[111, 112, 101, 110, 32]⟩, .string ⟨#[99, 108, 111, 115, 101, 32]⟩])
      clear al
      go_wp2_with fail
      generalize w1.heap.size = gs2 at S2 ⊢
      generalize w1.alloc (.cells #[.string ⟨#[111, 112, 101, 110, 32]⟩, .string ⟨#[99, 108, 111, 115, 101, 32]⟩] 9) = y2 at R2' O2' S2 ⊢
      refine (of_any g _ gs2 [[111, 112, 101, 110, 32], [99, 108, 111, 115, 101, 32]] y2 R2'.out S2.out (by decide) (by decide) (by omega)).mono ?_; rintro e w3 ⟨x, hmx, rfl, R3, O3⟩
      have hlx := (show ∀ x ∈ ([[111, 112, 101, 110, 32], [99, 108, 111, 115, 101, 32]] : List Bs), x.length ≤ 20 by decide) x hmx
      have R3' := qh R3
      have O3' := qh (O2'.out.trans O3)
      clear R3 O3 hmx
      go_wp2_with fail
      refine (pick_at 5 R3'.out rfl (by omega) (by omega) (by omega)).mono ?_; rintro e w4 ⟨k, rfl, hk, R4, O4⟩
      have R4' := qh R4
      have O4' := qh (O3'.out.trans O4)
      clear R4 O4
      have HD5 := qh (l6Dec_any ((k : Int)) (by omega) (by omega) w4)
      have hd5 := (decD_len ((k : Int))).2
      have a1 := add_run x (decD (k : Int)) (by omega)
      have hz : (x ++ decD (k : Int)).length ≤ 40 := by simp; omega
      generalize x ++ decD (k : Int) = z at *
      generalize decD ((k : Int)) = d at *
      go_wp2_with fail
      refine HD5.out.mono ?_; rintro e w5 ⟨rfl, hb⟩
      have R5' := qh (R4'.out.below hb)
      have O5' := qh (O4'.out.below hb)
      clear hb
      go_wp2_with fail
      go_ret
      exact ⟨z, rfl, hz, O5'.out, _, by omega, R5'.out⟩
    · have t1 : ((r : Int) == 1) = false := by simp; omega
      by_cases c2 : r = 2
      · have t2 : ((r : Int) == 2) = true := by simp [c2]
        go_wp2_with fail
        refine (pick_at 6 R1'.out rfl (by omega) (by omega) (by omega)).mono ?_; rintro e w2 ⟨k, rfl, hk, R2, O2⟩
        have R2' := qh R2
        have O2' := qh (O1'.out.trans O2)
        clear R2 O2
        have HD3 := qh (l6Dec_any ((k : Int)) (by omega) (by omega) w2)
        have hd3 := (decD_len ((k : Int))).2
        have a1 : ∀ W, (Op.stringOp .add ⟨#[103, 97, 116, 104, 101, 114, 32]⟩ (bs (decD (k : Int)))).run Tryz.prog W = .ok (.string (bs ([103, 97, 116, 104, 101, 114, 32] ++ decD (k : Int)))) W := add_run [103, 97, 116, 104, 101, 114, 32] (decD (k : Int)) (by simp; omega)
        have hz : ([103, 97, 116, 104, 101, 114, 32] ++ decD (k : Int)).length ≤ 40 := by simp; omega
        generalize [103, 97, 116, 104, 101, 114, 32] ++ decD (k : Int) = z at *
        generalize decD ((k : Int)) = d at *
        go_wp2_with fail
        refine HD3.out.mono ?_; rintro e w3 ⟨rfl, hb⟩
        have R3' := qh (R2'.out.below hb)
        have O3' := qh (O2'.out.below hb)
        clear hb
        go_wp2_with fail
        go_ret
        exact ⟨z, rfl, hz, O3'.out, _, by omega, R3'.out⟩
      · have t2 : ((r : Int) == 2) = false := by simp; omega
        by_cases c3 : r = 3
        · have t3 : ((r : Int) == 3) = true := by simp [c3]
          have al := alloc_up w1 (.cells #[.string ⟨#[115, 104, 111, 119]⟩, .string ⟨#[119, 104, 97, 116]⟩, .string ⟨#[]⟩, .string ⟨#[97, 114, 114, 105, 118, 101, 32, 49]⟩, .string ⟨#[111, 112, 101, 110, 32, 120]⟩, .string ⟨#[115, 104, 111, 119, 32, 49]⟩, .string ⟨#[103, 97, 116, 104, 101, 114, 32, 50, 49]⟩, .string ⟨#[97, 114, 114, 105, 118, 101, 32, 49, 32, 49, 32, 49, 32, 48, 49]⟩, .string ⟨#[100, 101, 112, 97, 114, 116, 32, 48]⟩] 9)
          have R2' := qh (R1'.out.below al)
          have O2' := qh (O1'.out.alloc (.cells #[.string ⟨#[115, 104, 111, 119]⟩, .string ⟨#[119, 104, 97, 116]⟩, .string ⟨#[]⟩, .string ⟨#[97, 114, 114, 105, 118, 101, 32, 49]⟩, .string ⟨#[111, 112, 101, 110, 32, 120]⟩, .string ⟨#[115, 104, 111, 119, 32, 49]⟩, .string ⟨#[103, 97, 116, 104, 101, 114, 32, 50, 49]⟩, .string ⟨#[97, 114, 114, 105, 118, 101, 32, 49, 32, 49, 32, 49, 32, 48, 49]⟩, .string ⟨#[100, 101, 112, 97, 114, 116, 32, 48]⟩] 9))
          have S2 := qh (Blk.new w1 9 #[.string ⟨#[115, 104, 111, 119]⟩, .string ⟨#[119, 104, 97, 116]⟩, .string ⟨#[]⟩, .string ⟨#[97, 114, 114, 105, 118, 101, 32, 49]⟩, .string ⟨#[111, 112, 101, 110, 32, 120]⟩, .string ⟨#[115, 104, 111, 119, 32, 49]⟩, .string ⟨#[103, 97, 116, 104, 101, 114, 32, 50, 49]⟩, .string ⟨#[97, 114, 114, 105, 118, 101, 32, 49, 32, 49, 32, 49, 32, 48, 49]⟩, .string ⟨#[100, 101, 112, 97, 114, 116, 32, 48]⟩])
          clear al
          go_wp2_with fail
          generalize w1.heap.size = gs2 at S2 ⊢
          generalize w1.alloc (.cells #[.string ⟨#[115, 104, 111, 119]⟩, .string ⟨#[119, 104, 97, 116]⟩, .string ⟨#[]⟩, .string ⟨#[97, 114, 114, 105, 118, 101, 32, 49]⟩, .string ⟨#[111, 112, 101, 110, 32, 120]⟩, .string ⟨#[115, 104, 111, 119, 32, 49]⟩, .string ⟨#[103, 97, 116, 104, 101, 114, 32, 50, 49]⟩, .string ⟨#[97, 114, 114, 105, 118, 101, 32, 49, 32, 49, 32, 49, 32, 48, 49]⟩, .string ⟨#[100, 101, 112, 97, 114, 116, 32, 48]⟩] 9) = y2 at R2' O2' S2 ⊢
          refine (of_any g _ gs2 [[115, 104, 111, 119], [119, 104, 97, 116], [], [97, 114, 114, 105, 118, 101, 32, 49], [111, 112, 101, 110, 32, 120], [115, 104, 111, 119, 32, 49], [103, 97, 116, 104, 101, 114, 32, 50, 49], [97, 114, 114, 105, 118, 101, 32, 49, 32, 49, 32, 49, 32, 48, 49], [100, 101, 112, 97, 114, 116, 32, 48]] y2 R2'.out S2.out (by decide) (by decide) (by omega)).mono ?_; rintro e w3 ⟨x, hmx, rfl, R3, O3⟩
          have hlx := (show ∀ x ∈ ([[115, 104, 111, 119], [119, 104, 97, 116], [], [97, 114, 114, 105, 118, 101, 32, 49], [111, 112, 101, 110, 32, 120], [115, 104, 111, 119, 32, 49], [103, 97, 116, 104, 101, 114, 32, 50, 49], [97, 114, 114, 105, 118, 101, 32, 49, 32, 49, 32, 49, 32, 48, 49], [100, 101, 112, 97, 114, 116, 32, 48]] : List Bs), x.length ≤ 20 by decide) x hmx
          have R3' := qh R3
          have O3' := qh (O2'.out.trans O3)
          clear R3 O3 hmx
          go_wp2_with fail
          go_ret
          exact ⟨x, rfl, (by omega), O3'.out, _, by omega, R3'.out⟩
        · have t3 : ((r : Int) == 3) = false := by simp; omega
          have al := alloc_up w1 (.cells #[.string ⟨#[97, 114, 114, 105, 118, 101, 32]⟩, .string ⟨#[103, 114, 97, 110, 116, 32]⟩, .string ⟨#[103, 114, 97, 110, 116, 32]⟩] 9)
          have R2' := qh (R1'.out.below al)
          have O2' := qh (O1'.out.alloc (.cells #[.string ⟨#[97, 114, 114, 105, 118, 101, 32]⟩, .string ⟨#[103, 114, 97, 110, 116, 32]⟩, .string ⟨#[103, 114, 97, 110, 116, 32]⟩] 9))
          have S2 := qh (Blk.new w1 9 #[.string ⟨#[97, 114, 114, 105, 118, 101, 32]⟩, .string ⟨#[103, 114, 97, 110, 116, 32]⟩, .string ⟨#[103, 114, 97, 110, 116, 32]⟩])
          clear al
          go_wp2_with fail
          generalize w1.heap.size = gs2 at S2 ⊢
          generalize w1.alloc (.cells #[.string ⟨#[97, 114, 114, 105, 118, 101, 32]⟩, .string ⟨#[103, 114, 97, 110, 116, 32]⟩, .string ⟨#[103, 114, 97, 110, 116, 32]⟩] 9) = y2 at R2' O2' S2 ⊢
          refine (of_any g _ gs2 [[97, 114, 114, 105, 118, 101, 32], [103, 114, 97, 110, 116, 32], [103, 114, 97, 110, 116, 32]] y2 R2'.out S2.out (by decide) (by decide) (by omega)).mono ?_; rintro e w3 ⟨x, hmx, rfl, R3, O3⟩
          have hlx := (show ∀ x ∈ ([[97, 114, 114, 105, 118, 101, 32], [103, 114, 97, 110, 116, 32], [103, 114, 97, 110, 116, 32]] : List Bs), x.length ≤ 20 by decide) x hmx
          have R3' := qh R3
          have O3' := qh (O2'.out.trans O3)
          clear R3 O3 hmx
          go_wp2_with fail
          refine (pick_at 12 R3'.out rfl (by omega) (by omega) (by omega)).mono ?_; rintro e w4 ⟨k, rfl, hk, R4, O4⟩
          have R4' := qh R4
          have O4' := qh (O3'.out.trans O4)
          clear R4 O4
          have v1 : IntKind.i64.wrap (1 + (k : Int)) = 1 + (k : Int) := wr64 (by omega) (by omega)
          have HD5 := qh (l6Dec_any (1 + (k : Int)) (by omega) (by omega) w4)
          have hd5 := (decD_len (1 + (k : Int))).2
          have a1 := add_run x (decD (1 + (k : Int))) (by omega)
          have hz1 : (x ++ decD (1 + (k : Int))).length ≤ 22 := by simp; omega
          generalize x ++ decD (1 + (k : Int)) = z1 at *
          have a2 : ∀ W, (Op.stringOp .add (bs z1) ⟨#[32]⟩).run Tryz.prog W = .ok (.string (bs (z1 ++ [32]))) W := add_run z1 [32] (by simp; omega)
          have hz2 : (z1 ++ [32]).length ≤ 23 := by simp; omega
          generalize z1 ++ [32] = y1 at *
          generalize decD (1 + (k : Int)) = d1 at *
          go_wp2_with fail
          refine HD5.out.mono ?_; rintro e w5 ⟨rfl, hb⟩
          have R5' := qh (R4'.out.below hb)
          have O5' := qh (O4'.out.below hb)
          clear hb
          go_wp2_with fail
          refine (pick_at 7 R5'.out rfl (by omega) (by omega) (by omega)).mono ?_; rintro e w6 ⟨k2, rfl, hk2, R6, O6⟩
          have R6' := qh R6
          have O6' := qh (O5'.out.trans O6)
          clear R6 O6
          have HD7 := qh (l6Dec_any ((k2 : Int)) (by omega) (by omega) w6)
          have hd7 := (decD_len ((k2 : Int))).2
          have b2 := add_run y1 (decD (k2 : Int)) (by omega)
          have hz21 : (y1 ++ decD (k2 : Int)).length ≤ 25 := by simp; omega
          generalize y1 ++ decD (k2 : Int) = z2 at *
          have e2 : ∀ W, (Op.stringOp .add (bs z2) ⟨#[32]⟩).run Tryz.prog W = .ok (.string (bs (z2 ++ [32]))) W := add_run z2 [32] (by simp; omega)
          have hz22 : (z2 ++ [32]).length ≤ 26 := by simp; omega
          generalize z2 ++ [32] = y2 at *
          generalize decD ((k2 : Int)) = d2 at *
          go_wp2_with fail
          refine HD7.out.mono ?_; rintro e w7 ⟨rfl, hb⟩
          have R7' := qh (R6'.out.below hb)
          have O7' := qh (O6'.out.below hb)
          clear hb
          go_wp2_with fail
          refine (pick_at 7 R7'.out rfl (by omega) (by omega) (by omega)).mono ?_; rintro e w8 ⟨k3, rfl, hk3, R8, O8⟩
          have R8' := qh R8
          have O8' := qh (O7'.out.trans O8)
          clear R8 O8
          have HD9 := qh (l6Dec_any ((k3 : Int)) (by omega) (by omega) w8)
          have hd9 := (decD_len ((k3 : Int))).2
          have b3 := add_run y2 (decD (k3 : Int)) (by omega)
          have hz31 : (y2 ++ decD (k3 : Int)).length ≤ 28 := by simp; omega
          generalize y2 ++ decD (k3 : Int) = z3 at *
          have e3 : ∀ W, (Op.stringOp .add (bs z3) ⟨#[32]⟩).run Tryz.prog W = .ok (.string (bs (z3 ++ [32]))) W := add_run z3 [32] (by simp; omega)
          have hz32 : (z3 ++ [32]).length ≤ 29 := by simp; omega
          generalize z3 ++ [32] = y3 at *
          generalize decD ((k3 : Int)) = d3 at *
          go_wp2_with fail
          refine HD9.out.mono ?_; rintro e w9 ⟨rfl, hb⟩
          have R9' := qh (R8'.out.below hb)
          have O9' := qh (O8'.out.below hb)
          clear hb
          go_wp2_with fail
          refine (pick_at 7 R9'.out rfl (by omega) (by omega) (by omega)).mono ?_; rintro e w10 ⟨k4, rfl, hk4, R10, O10⟩
          have R10' := qh R10
          have O10' := qh (O9'.out.trans O10)
          clear R10 O10
          have HD11 := qh (l6Dec_any ((k4 : Int)) (by omega) (by omega) w10)
          have hd11 := (decD_len ((k4 : Int))).2
          have b4 := add_run y3 (decD (k4 : Int)) (by omega)
          have hz41 : (y3 ++ decD (k4 : Int)).length ≤ 31 := by simp; omega
          generalize y3 ++ decD (k4 : Int) = z4 at *
          generalize decD ((k4 : Int)) = d4 at *
          go_wp2_with fail
          refine HD11.out.mono ?_; rintro e w11 ⟨rfl, hb⟩
          have R11' := qh (R10'.out.below hb)
          have O11' := qh (O10'.out.below hb)
          clear hb
          go_wp2_with fail
          go_ret
          exact ⟨z4, rfl, (by omega), O11'.out, _, by omega, R11'.out⟩
end Go.Proofs.YtdkhdfedejbicaaGreatDoor
