/- The law FnUsageArrive, beside leavers. (The program of this text: gen_usarrl.py.) -/
import Derived.Test.YtlcgbnmmbheleaaGreatVK
namespace Go.Proofs.YtlcgbnmmbheleaaGreat
open Go Go.Conc Go.RowKit
set_option linter.unusedVariables false
set_option linter.unusedSimpArgs false

noncomputable def uaBody : Code := Tryz.f4.body.getD .skip
noncomputable def uaC0 : Code := match uaBody with | .seq a _ => a | _ => .skip
noncomputable def uaC1 : Code := match uaBody with | .seq _ (.seq a _) => a | _ => .skip
noncomputable def uaC3 : Code := match uaBody with | .seq _ (.seq _ (.seq a _)) => a | _ => .skip
noncomputable def uaOps4 : Array Oper := match uaBody with | .seq _ (.seq _ (.seq _ (.seq (.region _ ops _) _))) => ops | _ => #[]
noncomputable def uaC5 : Code := match uaBody with | .seq _ (.seq _ (.seq _ (.seq _ (.seq a _)))) => a | _ => .skip
noncomputable def uaC6 : Code := match uaBody with | .seq _ (.seq _ (.seq _ (.seq _ (.seq _ (.seq a _))))) => a | _ => .skip
noncomputable def uaC8 : Code := match uaBody with | .seq _ (.seq _ (.seq _ (.seq _ (.seq _ (.seq _ (.seq a _)))))) => a | _ => .skip
noncomputable def uaC9 : Code := match uaBody with | .seq _ (.seq _ (.seq _ (.seq _ (.seq _ (.seq _ (.seq _ (.seq a _))))))) => a | _ => .skip
noncomputable def uaOps11 : Array Oper := match uaBody with | .seq _ (.seq _ (.seq _ (.seq _ (.seq _ (.seq _ (.seq _ (.seq _ (.seq (.region _ ops _) _)))))))) => ops | _ => #[]
noncomputable def uaC12 : Code := match uaBody with | .seq _ (.seq _ (.seq _ (.seq _ (.seq _ (.seq _ (.seq _ (.seq _ (.seq _ (.seq a _))))))))) => a | _ => .skip
noncomputable def uaOps14 : Array Oper := match uaBody with | .seq _ (.seq _ (.seq _ (.seq _ (.seq _ (.seq _ (.seq _ (.seq _ (.seq _ (.seq _ (.seq (.region _ ops _) _)))))))))) => ops | _ => #[]
noncomputable def uaE : Code := match uaBody with | .seq _ (.seq _ (.seq _ (.seq _ (.seq _ (.seq _ (.seq _ (.seq _ (.seq _ (.seq _ (.seq _ r)))))))))) => r | _ => .skip
theorem uaBody_eq : ∃ i j k, uaBody = .seq uaC0 (.seq uaC1 (.seq uaC3 (.seq (.region i uaOps4 false) (.seq uaC5 (.seq uaC6 (.seq uaC8 (.seq uaC9 (.seq (.region j uaOps11 false) (.seq uaC12 (.seq (.region k uaOps14 false) uaE)))))))))) := ⟨_, _, _, by rfl⟩

section
variable {H : Nat → Prop} {v : World} {A : Option Addr} {n c : Nat}
set_option maxRecDepth 100000 in
theorem ua_c3 (A : Option Addr) (n c : Nat) (v : World) (h : RdU v v.heap.size A n) (hc : n ≤ c) (hcm : c ≤ 9223372036854775807) :
    uaC3.wp Tryz.prog (fun e a v' => (e = .normal ∧ ∃ gc A1 n1 c1 A2 n2 c2 room us, a = ⟨#[.slice A n c, undef, .bool false, .pointer (some ⟨gc, 0, none⟩), undef, undef, undef, undef, undef, undef, .slice A n c, .int .i64 n, .bool false, .slice A n c, .agg #[.slice A1 n1 c1, .slice A2 n2 c2], undef, undef, undef, undef, undef, undef, undef, undef, undef, undef, undef, undef, undef, undef, undef, undef, undef, undef, undef, undef, undef, undef, undef, undef, undef, undef, undef, undef, undef, undef, undef, undef, undef, undef, undef, undef, undef, undef, undef, undef, undef, undef, undef, undef, undef, undef, undef, undef, undef, undef, undef, undef, undef, undef, undef, undef, undef, undef, undef, undef, undef, undef, undef, undef, undef, undef, undef], []⟩ ∧ RdC v' A1 A2 n1 n2 room us ∧ ShU us ∧ Blk v' gc 26 #[.slice A1 n1 c1, .slice A2 n2 c2] ∧ GR v v') ∨ (e = .ret ∧ False)) ⟨#[.slice A n c, undef, .bool false, undef, undef, undef, undef, undef, undef, undef, .slice A n c, .int .i64 n, .bool false, undef, undef, undef, undef, undef, undef, undef, undef, undef, undef, undef, undef, undef, undef, undef, undef, undef, undef, undef, undef, undef, undef, undef, undef, undef, undef, undef, undef, undef, undef, undef, undef, undef, undef, undef, undef, undef, undef, undef, undef, undef, undef, undef, undef, undef, undef, undef, undef, undef, undef, undef, undef, undef, undef, undef, undef, undef, undef, undef, undef, undef, undef, undef, undef, undef, undef, undef, undef, undef], []⟩ v := by
  simp only [uaC3, uaBody, Tryz.f4, Option.getD_some]
  go_wp2_with fail
  refine (drawUsageOf_any A n c v h hc hcm).mono ?_; rintro e w2 ⟨A1, n1, c1, A2, n2, c2, room, us, rfl, hr, hs, h1, h2, h3, hb⟩
  have B2 := qh hb
  have R2 := qh hr
  have Hs := qh hs
  clear hr hs hb h1 h2 h3
  have Z3 := qh (Blk.new w2 26 #[.slice none 0 0, .slice none 0 0])
  have y0 := Z3.out.cell 0
  have y1 := Z3.out.cell 1
  simp only [gT, gZ, gS] at y0 y1
  have y2 := Z3.out.frozen 0
  have y3 := Z3.out.frozen 1
  go_wp2_with fail
  exact ⟨_, A1, n1, c1, A2, n2, c2, ⟨rfl, ⟨rfl, rfl, rfl⟩, rfl, rfl, rfl⟩, room, us, R2.out.up (alloc_up w2 _), Hs.out, Blk.new w2 _ _, below_gr (below_to B2.out (alloc_up w2 _))⟩
set_option maxRecDepth 100000 in
theorem ua_c5 (A A1 A2 A5 : Option Addr) (n c n1 c1 n2 c2 gc m c5 : Nat) (room : List Int) (us : List Un) (v : World) (h : RdC v A1 A2 n1 n2 room us) (hs : ShU us) (hbox : Blk v gc 26 #[.slice A1 n1 c1, .slice A2 n2 c2]) (hm : (uofP room us).length = m) :
    uaC5.wp Tryz.prog (fun e a v' => (e = .normal ∧ ∃ A6 c6, a = ⟨#[.slice A n c, undef, .bool false, .pointer (some ⟨gc, 0, none⟩), .slice A5 m c5, .slice A6 m c6, undef, undef, undef, undef, .slice A n c, .int .i64 n, .bool false, .slice A n c, .agg #[.slice A1 n1 c1, .slice A2 n2 c2], .agg #[.slice A1 n1 c1, .slice A2 n2 c2], .slice A5 m c5, .agg #[.slice A1 n1 c1, .slice A2 n2 c2], .slice A6 m c6, undef, undef, undef, undef, undef, undef, undef, undef, undef, undef, undef, undef, undef, undef, undef, undef, undef, undef, undef, undef, undef, undef, undef, undef, undef, undef, undef, undef, undef, undef, undef, undef, undef, undef, undef, undef, undef, undef, undef, undef, undef, undef, undef, undef, undef, undef, undef, undef, undef, undef, undef, undef, undef, undef, undef, undef, undef, undef, undef, undef, undef, undef, undef], []⟩ ∧ RdI v' v'.heap.size A6 m (uofP room us) ∧ GR v v') ∨ (e = .ret ∧ False)) ⟨#[.slice A n c, undef, .bool false, .pointer (some ⟨gc, 0, none⟩), .slice A5 m c5, undef, undef, undef, undef, undef, .slice A n c, .int .i64 n, .bool false, .slice A n c, .agg #[.slice A1 n1 c1, .slice A2 n2 c2], .agg #[.slice A1 n1 c1, .slice A2 n2 c2], .slice A5 m c5, undef, undef, undef, undef, undef, undef, undef, undef, undef, undef, undef, undef, undef, undef, undef, undef, undef, undef, undef, undef, undef, undef, undef, undef, undef, undef, undef, undef, undef, undef, undef, undef, undef, undef, undef, undef, undef, undef, undef, undef, undef, undef, undef, undef, undef, undef, undef, undef, undef, undef, undef, undef, undef, undef, undef, undef, undef, undef, undef, undef, undef, undef, undef, undef, undef], []⟩ v := by
  have x0 := hbox.cell 0
  have x1 := hbox.cell 1
  simp only [gT, gZ, gS] at x0 x1
  have Hr := qh h
  have Hs := qh hs
  have Hm := qh hm
  clear h hs hbox hm
  simp only [uaC5, uaBody, Tryz.f4, Option.getD_some]
  go_wp2_with fail
  clear x0 x1
  refine (usageOfS_any A1 A2 n1 c1 n2 c2 room us v Hr.out Hs.out).mono ?_; rintro e w2 ⟨A6, m6, c6, rfl, hr6, hb2⟩
  obtain rfl : m6 = m := by have := hr6.len; have := Hm.out; omega
  have B2 := qh hb2
  have R6 := qh hr6
  clear hb2 hr6 Hm
  go_wp2_with fail
  exact ⟨R6.out, below_gr B2.out⟩
set_option maxRecDepth 100000 in
theorem ua_c6 (A A1 A2 A5 A6 : Option Addr) (n c n1 c1 n2 c2 gc m c5 c6 : Nat) (xs : List Int) (v : World) (h5 : RdI v v.heap.size A5 m xs) (h6 : RdI v v.heap.size A6 m xs) :
    uaC6.wp Tryz.prog (fun e a v' => (e = .normal ∧ m ≠ 0 ∧ a = ⟨#[.slice A n c, undef, .bool false, .pointer (some ⟨gc, 0, none⟩), .slice A5 m c5, .slice A6 m c6, undef, undef, undef, undef, .slice A n c, .int .i64 n, .bool false, .slice A n c, .agg #[.slice A1 n1 c1, .slice A2 n2 c2], .agg #[.slice A1 n1 c1, .slice A2 n2 c2], .slice A5 m c5, .agg #[.slice A1 n1 c1, .slice A2 n2 c2], .slice A6 m c6, .slice A5 m c5, .slice A6 m c6, .bool true, .bool false, .bool false, .slice A6 m c6, .int .i64 m, .bool false, .bool false, undef, undef, undef, undef, undef, undef, undef, undef, undef, undef, undef, undef, undef, undef, undef, undef, undef, undef, undef, undef, undef, undef, undef, undef, undef, undef, undef, undef, undef, undef, undef, undef, undef, undef, undef, undef, undef, undef, undef, undef, undef, undef, undef, undef, undef, undef, undef, undef, undef, undef, undef, undef, undef, undef], []⟩ ∧ GR v v') ∨ (e = .ret ∧ a.defers = [] ∧ a.tmps.getD 2 undef = .bool true ∧ GR v v')) ⟨#[.slice A n c, undef, .bool false, .pointer (some ⟨gc, 0, none⟩), .slice A5 m c5, .slice A6 m c6, undef, undef, undef, undef, .slice A n c, .int .i64 n, .bool false, .slice A n c, .agg #[.slice A1 n1 c1, .slice A2 n2 c2], .agg #[.slice A1 n1 c1, .slice A2 n2 c2], .slice A5 m c5, .agg #[.slice A1 n1 c1, .slice A2 n2 c2], .slice A6 m c6, undef, undef, undef, undef, undef, undef, undef, undef, undef, undef, undef, undef, undef, undef, undef, undef, undef, undef, undef, undef, undef, undef, undef, undef, undef, undef, undef, undef, undef, undef, undef, undef, undef, undef, undef, undef, undef, undef, undef, undef, undef, undef, undef, undef, undef, undef, undef, undef, undef, undef, undef, undef, undef, undef, undef, undef, undef, undef, undef, undef, undef, undef, undef], []⟩ v := by
  have H5 := qh h5
  have H6 := qh h6
  clear h5 h6
  simp only [uaC6, uaBody, Tryz.f4, Option.getD_some]
  go_wp2_with fail
  refine (sameInts_any A5 A6 m c5 c6 _ _ xs v H5.out H6.out).mono ?_; rintro e w2 ⟨rfl, mq, hw⟩
  have hb := drew_below v mq
  rw [hw] at hb
  have B2 := qh hb
  have K5 := qh (H5.out.up hb)
  have K6 := qh (H6.out.up hb)
  clear hw hb H5 H6
  by_cases h0 : m = 0
  · subst h0
    go_wp2_with fail
    refine (sameInts_any A5 A6 0 c5 c6 _ _ xs w2 K5.out K6.out).mono ?_; rintro e w3 ⟨rfl, mq2, hw⟩
    have hb := drew_below w2 mq2
    rw [hw] at hb
    have B3 := qh (below_to B2.out hb)
    clear hw hb B2 K5 K6
    go_wp2_with fail
    exact below_gr B3.out
  · have q : ((m : Int) == 0) = false := by simp; omega
    have H0 := qh h0
    clear h0
    go_wp2_with fail
    exact ⟨H0.out, below_gr B2.out⟩
set_option maxRecDepth 100000 in
set_option maxHeartbeats 2000000 in
theorem ua_c9 (A A1 A2 A5 A6 : Option Addr) (n c n1 c1 n2 c2 gc m c5 c6 : Nat) (room : List Int) (us : List Un) (v : World) (h : RdC v A1 A2 n1 n2 room us) (hs : ShU us) (hbox : Blk v gc 26 #[.slice A1 n1 c1, .slice A2 n2 c2]) (hok : clOk room us = true) :
    uaC9.wp Tryz.prog (fun e a v' => (e = .normal ∧ ∃ (i : Nat) (y31 y32 y33 y34 y35 y36 y37 y38 y39 y40 : Value), 1 ≤ i ∧ i ≤ 15 ∧ whereP (us.map (·.2)) (i : Int) = -1 ∧ a = ⟨#[.slice A n c, undef, .bool false, .pointer (some ⟨gc, 0, none⟩), .slice A5 m c5, .slice A6 m c6, .int .i64 (i : Nat), undef, undef, undef, .slice A n c, .int .i64 n, .bool false, .slice A n c, .agg #[.slice A1 n1 c1, .slice A2 n2 c2], .agg #[.slice A1 n1 c1, .slice A2 n2 c2], .slice A5 m c5, .agg #[.slice A1 n1 c1, .slice A2 n2 c2], .slice A6 m c6, .slice A5 m c5, .slice A6 m c6, .bool true, .bool false, .bool false, .slice A6 m c6, .int .i64 m, .bool false, .bool false, undef, undef, undef, y31, y32, y33, y34, y35, y36, y37, y38, y39, y40, undef, undef, undef, undef, undef, undef, undef, undef, undef, undef, undef, undef, undef, undef, undef, undef, undef, undef, undef, undef, undef, undef, undef, undef, undef, undef, undef, undef, undef, undef, undef, undef, undef, undef, undef, undef, undef, undef, undef, undef, undef], []⟩ ∧ GR v v') ∨ (e = .ret ∧ False)) ⟨#[.slice A n c, undef, .bool false, .pointer (some ⟨gc, 0, none⟩), .slice A5 m c5, .slice A6 m c6, .int .i64 1, undef, undef, undef, .slice A n c, .int .i64 n, .bool false, .slice A n c, .agg #[.slice A1 n1 c1, .slice A2 n2 c2], .agg #[.slice A1 n1 c1, .slice A2 n2 c2], .slice A5 m c5, .agg #[.slice A1 n1 c1, .slice A2 n2 c2], .slice A6 m c6, .slice A5 m c5, .slice A6 m c6, .bool true, .bool false, .bool false, .slice A6 m c6, .int .i64 m, .bool false, .bool false, undef, undef, undef, undef, undef, undef, undef, undef, undef, undef, undef, undef, undef, undef, undef, undef, undef, undef, undef, undef, undef, undef, undef, undef, undef, undef, undef, undef, undef, undef, undef, undef, undef, undef, undef, undef, undef, undef, undef, undef, undef, undef, undef, undef, undef, undef, undef, undef, undef, undef, undef, undef, undef, undef], []⟩ v := by
  have Hr := qh h
  have Hs := qh hs
  have Hb := qh hbox
  have Hok := qh hok
  clear h hs hbox hok
  simp only [uaC9, uaBody, Tryz.f4, Option.getD_some]
  go_wp2_with fail
  go_loopw [6] (fun kv wr => ∃ k : Nat, kv = .int .i64 (k : Nat) ∧ 1 ≤ k ∧ (∀ j : Nat, 1 ≤ j → j < k → ¬ whereP (us.map (·.2)) (j : Int) < 0) ∧ Below v.heap.size v wr) (fun kv _ => 41 - (intOf kv).toNat)
  case atStart => exact ⟨1, rfl, Nat.le_refl _, fun j h1 h2 => absurd h2 (by omega), Below.refl _ _⟩
  case round =>
    obtain ⟨k, rfl, h1, hj, hb⟩ := hrel
    have hk := free_small Hok.out hj
    have B1 := qh hb
    have R1 := qh (Hr.out.up hb)
    have P1 := qh (Hb.out.below hb Hb.out.lt)
    have Hj := qh hj
    clear hb hj
    have x0 := P1.out.cell 0
    have x1 := P1.out.cell 1
    simp only [gT, gZ, gS] at x0 x1
    have q1 : decide ((k : Int) ≤ 40) = true := by simp; omega
    have q2 : (k : Int) ≤ 40 := by omega
    have q3 : (0 : Int) ≤ (k : Int) := by omega
    have v1 : IntKind.i64.wrap ((k : Int) + 1) = (k : Int) + 1 := wr64 (by omega) (by omega)
    go_wp2_with fail
    clear x0 x1
    refine (clusterWhereI_any A1 A2 n1 c1 n2 c2 room us (k : Int) _ R1.out Hs.out).mono ?_; rintro e w2 ⟨rfl, hb2⟩
    have B2 := qh (below_to B1.out hb2)
    have Q := qh (show cwhereP room us (k : Int) = whereP (us.map (·.2)) (k : Int) from by unfold cwhereP; rw [if_pos Hok.out])
    clear hb2 B1 R1 P1
    rw [Q.out]
    rcases whereP_or (us.map (·.2)) (k : Int) with hw | ⟨p, hw, hp⟩
    · have Hw := qh hw
      rw [hw]
      clear hw
      go_wp2_with fail
      exact ⟨k, h1, hk, Hw.out, rfl, below_gr B2.out⟩
    · have Hw := qh hw
      rw [hw]
      have q4 : decide ((0 : Int) ≤ (p : Int)) = true := by simp
      clear hw
      go_wp2_with fail
      go_roundw
      case rel => exact ⟨k + 1, by go_num, by omega, fun j h1 h2 => by
        rcases Nat.lt_or_ge j k with hlt | hge
        · have := Hj.out j h1 hlt; omega
        · obtain rfl : j = k := by omega
          rw [Hw.out]
          omega, B2.out⟩
      case measure => simp [intOf]; omega
set_option maxRecDepth 100000 in
set_option maxHeartbeats 2000000 in
theorem ua_end (A A1 A2 A3 A4 A5 A6 A9 : Option Addr) (n c n1 c1 n2 c2 c3 c4 gc gs gx i m c5 c6 c9 : Nat) (code : Int) (y31 y32 y33 y34 y35 y36 y37 y38 y39 y40 : Value) (xs ys : List Int) (v : World) (hm : m = 3) (h5 : RdI v v.heap.size A5 m xs) (h9 : RdI v v.heap.size A9 3 ys) (he : ys = add3 xs [1, 0, 1]) (hx : ∀ k : Nat, k < 3 → 0 ≤ xs[k]?.getD 0 ∧ xs[k]?.getD 0 ≤ 1000000) :
    uaE.wp Tryz.prog (fun e a v' => e = .ret ∧ a.defers = [] ∧ a.tmps.getD 2 undef = .bool true ∧ GR v v') ⟨#[.slice A n c, undef, .bool false, .pointer (some ⟨gc, 0, none⟩), .slice A5 m c5, .slice A6 m c6, .int .i64 (i : Nat), .pointer (some ⟨gx, 0, none⟩), .int .i64 code, .slice A9 3 c9, .slice A n c, .int .i64 n, .bool false, .slice A n c, .agg #[.slice A1 n1 c1, .slice A2 n2 c2], .agg #[.slice A1 n1 c1, .slice A2 n2 c2], .slice A5 m c5, .agg #[.slice A1 n1 c1, .slice A2 n2 c2], .slice A6 m c6, .slice A5 m c5, .slice A6 m c6, .bool true, .bool false, .bool false, .slice A6 m c6, .int .i64 m, .bool false, .bool false, undef, undef, undef, y31, y32, y33, y34, y35, y36, y37, y38, y39, y40, .tuple #[.agg #[.slice A3 n1 c3, .slice A4 n2 c4], .int .i64 code], .agg #[.slice A1 n1 c1, .slice A2 n2 c2], .int .i64 (i : Nat), .slice (some ⟨gs, 0, none⟩) 3 3, .agg #[.int .i64 (i : Nat), .slice (some ⟨gs, 0, none⟩) 3 3], .tuple #[.agg #[.slice A3 n1 c3, .slice A4 n2 c4], .int .i64 code], .agg #[.slice A3 n1 c3, .slice A4 n2 c4], .int .i64 code, .int .i64 code, .bool false, undef, undef, .agg #[.slice A3 n1 c3, .slice A4 n2 c4], .slice A9 3 c9, undef, undef, undef, undef, undef, undef, undef, undef, undef, undef, undef, undef, undef, undef, undef, undef, undef, undef, undef, undef, undef, undef, undef, undef, undef, undef, undef], []⟩ v := by
  subst hm
  obtain ⟨b5, o5, rfl, l5, d5⟩ := h5.2.2 (by omega)
  obtain ⟨b9, o9, rfl, l9, d9⟩ := h9.2.2 (by omega)
  have x0 := d5 0 (by omega)
  have x1 := d5 1 (by omega)
  have x2 := d5 2 (by omega)
  have z0 := d9 0 (by omega)
  have z1 := d9 1 (by omega)
  have z2 := d9 2 (by omega)
  have b0 := hx 0 (by omega)
  have b1 := hx 1 (by omega)
  have b2 := hx 2 (by omega)
  rw [he, add3_at (by omega)] at z0 z1 z2
  clear h5 h9 d5 d9 hx he
  generalize xs[0]?.getD 0 = a0 at x0 z0 b0
  generalize xs[1]?.getD 0 = a1 at x1 z1 b1
  generalize xs[2]?.getD 0 = a2 at x2 z2 b2
  simp only [gZ, gS, Option.getD_some] at z0 z1 z2
  rw [show a1 + 0 = a1 by omega] at z1
  rw [Nat.add_zero] at x0 z0
  have v0 : IntKind.i64.wrap (a0 + 1) = a0 + 1 := wr64 (by omega) (by omega)
  have v2 : IntKind.i64.wrap (a2 + 1) = a2 + 1 := wr64 (by omega) (by omega)
  clear b0 b1 b2
  simp only [uaE, uaBody, Tryz.f4, Option.getD_some]
  go_wp2_with fail
  go_quiet (fail)
  go_wp2_with fail
  exact below_gr (drew_below v _)
set_option maxRecDepth 100000 in
theorem ua_c12 (A A1 A2 A3 A4 A5 A6 : Option Addr) (n c n1 c1 n2 c2 c3 c4 gc gs gx i m c5 c6 : Nat) (code : Int) (y31 y32 y33 y34 y35 y36 y37 y38 y39 y40 : Value) (v : World) (hc : code = 3 ∨ code = 0) :
    uaC12.wp Tryz.prog (fun e a v' => (e = .normal ∧ code = 0 ∧ a = ⟨#[.slice A n c, undef, .bool false, .pointer (some ⟨gc, 0, none⟩), .slice A5 m c5, .slice A6 m c6, .int .i64 (i : Nat), .pointer (some ⟨gx, 0, none⟩), .int .i64 code, undef, .slice A n c, .int .i64 n, .bool false, .slice A n c, .agg #[.slice A1 n1 c1, .slice A2 n2 c2], .agg #[.slice A1 n1 c1, .slice A2 n2 c2], .slice A5 m c5, .agg #[.slice A1 n1 c1, .slice A2 n2 c2], .slice A6 m c6, .slice A5 m c5, .slice A6 m c6, .bool true, .bool false, .bool false, .slice A6 m c6, .int .i64 m, .bool false, .bool false, undef, undef, undef, y31, y32, y33, y34, y35, y36, y37, y38, y39, y40, .tuple #[.agg #[.slice A3 n1 c3, .slice A4 n2 c4], .int .i64 code], .agg #[.slice A1 n1 c1, .slice A2 n2 c2], .int .i64 (i : Nat), .slice (some ⟨gs, 0, none⟩) 3 3, .agg #[.int .i64 (i : Nat), .slice (some ⟨gs, 0, none⟩) 3 3], .tuple #[.agg #[.slice A3 n1 c3, .slice A4 n2 c4], .int .i64 code], .agg #[.slice A3 n1 c3, .slice A4 n2 c4], .int .i64 code, .int .i64 code, .bool false, undef, undef, undef, undef, undef, undef, undef, undef, undef, undef, undef, undef, undef, undef, undef, undef, undef, undef, undef, undef, undef, undef, undef, undef, undef, undef, undef, undef, undef, undef, undef], []⟩ ∧ v' = v) ∨ (e = .ret ∧ code = 3 ∧ a.defers = [] ∧ a.tmps.getD 2 undef = .bool true ∧ v' = v)) ⟨#[.slice A n c, undef, .bool false, .pointer (some ⟨gc, 0, none⟩), .slice A5 m c5, .slice A6 m c6, .int .i64 (i : Nat), .pointer (some ⟨gx, 0, none⟩), .int .i64 code, undef, .slice A n c, .int .i64 n, .bool false, .slice A n c, .agg #[.slice A1 n1 c1, .slice A2 n2 c2], .agg #[.slice A1 n1 c1, .slice A2 n2 c2], .slice A5 m c5, .agg #[.slice A1 n1 c1, .slice A2 n2 c2], .slice A6 m c6, .slice A5 m c5, .slice A6 m c6, .bool true, .bool false, .bool false, .slice A6 m c6, .int .i64 m, .bool false, .bool false, undef, undef, undef, y31, y32, y33, y34, y35, y36, y37, y38, y39, y40, .tuple #[.agg #[.slice A3 n1 c3, .slice A4 n2 c4], .int .i64 code], .agg #[.slice A1 n1 c1, .slice A2 n2 c2], .int .i64 (i : Nat), .slice (some ⟨gs, 0, none⟩) 3 3, .agg #[.int .i64 (i : Nat), .slice (some ⟨gs, 0, none⟩) 3 3], .tuple #[.agg #[.slice A3 n1 c3, .slice A4 n2 c4], .int .i64 code], .agg #[.slice A3 n1 c3, .slice A4 n2 c4], .int .i64 code, undef, undef, undef, undef, undef, undef, undef, undef, undef, undef, undef, undef, undef, undef, undef, undef, undef, undef, undef, undef, undef, undef, undef, undef, undef, undef, undef, undef, undef, undef, undef, undef, undef], []⟩ v := by
  simp only [uaC12, uaBody, Tryz.f4, Option.getD_some]
  rcases hc with rfl | rfl <;> go_wp2
set_option maxRecDepth 100000 in
set_option maxHeartbeats 2000000 in
theorem ua_tail {cs : List Frame} {ri rj : Nat} (A A1 A2 A5 A6 : Option Addr) (n c n1 c1 n2 c2 gc i m c5 c6 : Nat) (y31 y32 y33 y34 y35 y36 y37 y38 y39 y40 : Value) (room : List Int) (us : List Un) (w : World) (h : RdC w A1 A2 n1 n2 room us) (hs : ShU us)
    (hbox : Blk w gc 26 #[.slice A1 n1 c1, .slice A2 n2 c2]) (hok : clOk room us = true) (hm : m = 3) (h5 : RdI w w.heap.size A5 m (uofP room us)) (h1 : 1 ≤ i) (h15 : i ≤ 15) (hw : whereP (us.map (·.2)) (i : Int) = -1) :
    KV Tryz.prog H (RetV Tryz.prog 4 cs (fun x v' => x = .bool true ∧ GR w v')) (G ((base 4).at ⟨#[.slice A n c, undef, .bool false, .pointer (some ⟨gc, 0, none⟩), .slice A5 m c5, .slice A6 m c6, .int .i64 (i : Nat), undef, undef, undef, .slice A n c, .int .i64 n, .bool false, .slice A n c, .agg #[.slice A1 n1 c1, .slice A2 n2 c2], .agg #[.slice A1 n1 c1, .slice A2 n2 c2], .slice A5 m c5, .agg #[.slice A1 n1 c1, .slice A2 n2 c2], .slice A6 m c6, .slice A5 m c5, .slice A6 m c6, .bool true, .bool false, .bool false, .slice A6 m c6, .int .i64 m, .bool false, .bool false, undef, undef, undef, y31, y32, y33, y34, y35, y36, y37, y38, y39, y40, undef, undef, undef, undef, undef, undef, undef, undef, undef, undef, undef, undef, undef, undef, undef, undef, undef, undef, undef, undef, undef, undef, undef, undef, undef, undef, undef, undef, undef, undef, undef, undef, undef, undef, undef, undef, undef, undef, undef, undef, undef], []⟩ [.code (.seq (.region ri uaOps11 false) (.seq uaC12 (.seq (.region rj uaOps14 false) uaE)))]) cs) w := by
  have Hm := qh hm
  clear hm
  refine KV.ctl rfl (fun w => stepG_seq) ?_
  refine KV.ctl rfl (fun w => stepG_region) ?_
  rw [show List.range uaOps11.size = [0, 1, 2, 3, 4, 5, 6, 7, 8, 9, 10] from rfl]
  simp only [uaOps11, uaBody, Tryz.f4, Option.getD_some]
  refine KV.op anaA_good rfl (by rfl) (by decide) (by kernel_rfl) (fun t => anaA.noTr_spec (by kernel_rfl) t) (fun v₁ hs K' hK' => ?_)
  have hbx := ViewOf_cells_of hbox hs.heap
  have x0 := hbx.cell 0
  have x1 := hbx.cell 1
  simp only [gT, gZ, gS] at x0 x1
  clear hbx
  go_simp
  refine hK' _ _ ?_
  try walk_nrm
  clear hK' K' x0 x1
  refine KV.heap (v := w) ?_ hs.sym
  clear hs v₁
  refine KV.op anaA_good rfl (by rfl) (by decide) (by kernel_rfl) (fun t => anaA.noTr_spec (by kernel_rfl) t) (fun v₁ hs K' hK' => ?_)
  go_simp
  refine hK' _ _ ?_
  try walk_nrm
  clear hK' K'
  refine KV.heap (v := w) ?_ hs.sym
  clear hs v₁
  refine KV.op anaA_good rfl (by rfl) (by decide) (by kernel_rfl) (fun t => anaA.noTr_spec (by kernel_rfl) t) (fun v₁ hs K' hK' => ?_)
  go_simp
  refine hK' _ _ ?_
  try walk_nrm
  clear hK' K'
  rw [hs.heap]
  refine KV.heap (v := w.alloc (.cells #[.int .i64 1, .int .i64 0, .int .i64 1] 3)) ?_ (hs.alloc _).sym
  clear hs v₁
  have g1 : GR w (w.alloc (.cells #[.int .i64 1, .int .i64 0, .int .i64 1] 3)) := below_gr (alloc_up w _)
  have S1 : RdI (w.alloc (.cells #[.int .i64 1, .int .i64 0, .int .i64 1] 3)) (w.alloc (.cells #[.int .i64 1, .int .i64 0, .int .i64 1] 3)).heap.size (some ⟨w.heap.size, 0, none⟩) 3 [1, 0, 1] := by
    have hb := Blk.new w 3 #[.int .i64 1, .int .i64 0, .int .i64 1]
    refine ⟨rfl, by omega, fun _ => ⟨_, _, rfl, hb.lt, fun j hj => ?_⟩⟩
    match j, hj with
    | 0, _ => simp
    | 1, _ => simp
    | 2, _ => simp
  generalize w.heap.size = gs at S1 ⊢
  have r1 := h.gr g1
  generalize w.alloc (.cells #[.int .i64 1, .int .i64 0, .int .i64 1] 3) = w1 at S1 g1 r1 ⊢
  refine KV.op anaA_good rfl (by rfl) (by decide) (by kernel_rfl) (fun t => anaA.noTr_spec (by kernel_rfl) t) (fun v₁ hs K' hK' => ?_)
  go_simp
  refine hK' _ _ ?_
  try walk_nrm
  clear hK' K'
  refine KV.heap (v := w1) ?_ hs.sym
  clear hs v₁
  refine KV.callM rfl (by rfl) (by decide) rfl (Post := fun x v' => ∃ A3 c3 A4 c4, x = .tuple #[.agg #[.slice A3 n1 c3, .slice A4 n2 c4], .int .i64 (cavP room us i [1, 0, 1] true).2.2] ∧ RdC v' A3 A4 n1 n2 room (cavP room us i [1, 0, 1] true).2.1 ∧ GR w1 v') ?_ (fun x v5 hp => ?_)
  · have hus := clusterArrive_v (H := H) (c1 := c1) (c2 := c2) (some ⟨gs, 0, none⟩) 3 3 (i : Int) [1, 0, 1] true r1 hok S1 (Nat.le_refl _)
    simpa [Act.eval, Act.put] using hus
  obtain ⟨A3, c3, A4, c4, rfl, hx, g5⟩ := hp
  have hcode := arr_code hok h1 h15 hw
  have hok' := (cav_facts (id := (i : Int)) (xs := [1, 0, 1]) (g := true) hok).2.1
  generalize (cavP room us i [1, 0, 1] true).2.2 = code at hcode ⊢
  generalize (cavP room us i [1, 0, 1] true).2.1 = us' at hx hcode hok' ⊢
  replace g5 := g1.trans g5
  clear g1 S1 r1
  try walk_nrm
  refine KV.op anaA_good rfl (by rfl) (by decide) (by kernel_rfl) (fun t => anaA.noTr_spec (by kernel_rfl) t) (fun v₁ hs K' hK' => ?_)
  go_simp
  refine hK' _ _ ?_
  try walk_nrm
  clear hK' K'
  refine KV.heap (v := v5) ?_ hs.sym
  clear hs v₁
  refine KV.op anaA_good rfl (by rfl) (by decide) (by kernel_rfl) (fun t => anaA.noTr_spec (by kernel_rfl) t) (fun v₁ hs K' hK' => ?_)
  go_simp
  refine hK' _ _ ?_
  try walk_nrm
  clear hK' K'
  refine KV.heap (v := v5) ?_ hs.sym
  clear hs v₁
  refine KV.op anaA_good rfl (by rfl) (by decide) (by kernel_rfl) (fun t => anaA.noTr_spec (by kernel_rfl) t) (fun v₁ hs K' hK' => ?_)
  go_simp
  refine hK' _ _ ?_
  try walk_nrm
  clear hK' K'
  refine KV.heap (v := v5) ?_ hs.sym
  clear hs v₁
  refine KV.op anaA_good rfl (by rfl) (by decide) (by kernel_rfl) (fun t => anaA.noTr_spec (by kernel_rfl) t) (fun v₁ hs K' hK' => ?_)
  go_simp
  refine hK' _ _ ?_
  try walk_nrm
  clear hK' K'
  rw [hs.heap]
  refine KV.heap (v := v5.alloc (.cells #[.slice none 0 0, .slice none 0 0] 26)) ?_ (hs.alloc _).sym
  clear hs v₁
  have Z6 := Blk.new v5 26 #[.slice none 0 0, .slice none 0 0]
  have g6 : GB v5.heap.size v5 (v5.alloc (.cells #[.slice none 0 0, .slice none 0 0] 26)) := GB.new _ (Nat.le_refl _)
  generalize hgx : v5.heap.size = gx at Z6 g6 ⊢
  generalize v5.alloc (.cells #[.slice none 0 0, .slice none 0 0] 26) = v6 at Z6 g6 ⊢
  refine KV.op anaA_good rfl (by rfl) (by decide) (by kernel_rfl) (fun t => anaA.noTr_spec (by kernel_rfl) t) (fun v₁ hs K' hK' => ?_)
  have hbx := ViewOf_cells_of Z6 hs.heap
  have y0 := hbx.cell 0
  have y1 := hbx.cell 1
  simp only [gT, gZ, gS] at y0 y1
  have y2 := hbx.frozen 0
  have y3 := hbx.frozen 1
  clear hbx
  go_simp
  refine hK' _ _ ?_
  try walk_nrm
  clear hK' K' y0 y1 y2 y3
  refine KV.heap (v := (v6.setCell ⟨gx, 0, none⟩ (.slice A3 n1 c3)).setCell ⟨gx, 1, none⟩ (.slice A4 n2 c4)) ?_ ((hs.set _ _).set _ _).sym
  clear hs v₁
  have EQ : Blk ((v6.setCell ⟨gx, 0, none⟩ (.slice A3 n1 c3)).setCell ⟨gx, 1, none⟩ (.slice A4 n2 c4)) gx 26 #[.slice A3 n1 c3, .slice A4 n2 c4] := (Z6.set_ 0 (.slice A3 n1 c3)).set_ 1 (.slice A4 n2 c4)
  have g7 := (g6.trans (GB.set (p := ⟨gx, 0, none⟩) (by show gx ≤ gx; omega) (.slice A3 n1 c3))).trans (GB.set (p := ⟨gx, 1, none⟩) (by show gx ≤ gx; omega) (.slice A4 n2 c4))
  subst hgx
  have g8 := g7.gr
  have h7 := hx.gr g8
  replace g5 := g5.trans g8
  replace h5 := h5.gr g5
  generalize v5.heap.size = gx at EQ g5 h5 h7 ⊢
  generalize (v6.setCell ⟨gx, 0, none⟩ (.slice A3 n1 c3)).setCell ⟨gx, 1, none⟩ (.slice A4 n2 c4) = v7 at EQ g5 h5 h7 ⊢
  clear g7 g8 g6 Z6 hx
  refine KV.op anaA_good rfl (by rfl) (by decide) (by kernel_rfl) (fun t => anaA.noTr_spec (by kernel_rfl) t) (fun v₁ hs K' hK' => ?_)
  go_simp
  refine hK' _ _ ?_
  try walk_nrm
  clear hK' K'
  refine KV.heap (v := v7) ?_ hs.sym
  clear hs v₁
  refine KV.ctl rfl (fun w => stepG_region_end) ?_
  refine KV.seqC anaA_good (Nm := fun v₁ a v' => code = 0 ∧ a = ⟨#[.slice A n c, undef, .bool false, .pointer (some ⟨gc, 0, none⟩), .slice A5 m c5, .slice A6 m c6, .int .i64 (i : Nat), .pointer (some ⟨gx, 0, none⟩), .int .i64 code, undef, .slice A n c, .int .i64 n, .bool false, .slice A n c, .agg #[.slice A1 n1 c1, .slice A2 n2 c2], .agg #[.slice A1 n1 c1, .slice A2 n2 c2], .slice A5 m c5, .agg #[.slice A1 n1 c1, .slice A2 n2 c2], .slice A6 m c6, .slice A5 m c5, .slice A6 m c6, .bool true, .bool false, .bool false, .slice A6 m c6, .int .i64 m, .bool false, .bool false, undef, undef, undef, y31, y32, y33, y34, y35, y36, y37, y38, y39, y40, .tuple #[.agg #[.slice A3 n1 c3, .slice A4 n2 c4], .int .i64 code], .agg #[.slice A1 n1 c1, .slice A2 n2 c2], .int .i64 (i : Nat), .slice (some ⟨gs, 0, none⟩) 3 3, .agg #[.int .i64 (i : Nat), .slice (some ⟨gs, 0, none⟩) 3 3], .tuple #[.agg #[.slice A3 n1 c3, .slice A4 n2 c4], .int .i64 code], .agg #[.slice A3 n1 c3, .slice A4 n2 c4], .int .i64 code, .int .i64 code, .bool false, undef, undef, undef, undef, undef, undef, undef, undef, undef, undef, undef, undef, undef, undef, undef, undef, undef, undef, undef, undef, undef, undef, undef, undef, undef, undef, undef, undef, undef, undef, undef], []⟩ ∧ v' = v₁) (Rt := fun v₁ a v' => code = 3 ∧ a.defers = [] ∧ a.tmps.getD 2 undef = .bool true ∧ v' = v₁) (by kernel_rfl) (by kernel_rfl) rfl (by kernel_rfl) (fun v₁ hs => ?_) (fun v₁ a' v' hs hq => ?_) (fun v₁ a' v' todo hs hq => ?_)
  · refine ua_c12 A A1 A2 A3 A4 A5 A6 n c n1 c1 n2 c2 c3 c4 gc gs gx i m c5 c6 code y31 y32 y33 y34 y35 y36 y37 y38 y39 y40 v₁ ?_
    exact hcode.imp id (fun h => h.1)
  · obtain ⟨h0, rfl, rfl⟩ := hq
    subst h0
    obtain ⟨-, k, hk, hus⟩ := hcode.resolve_left (by decide)
    refine KV.heap (v := v7) ?_ hs.sym
    clear hs
    have he := uof_arr (t := ((i : Int), [1, 0, 1])) hok hok' hk hus
    have hub : ∀ k : Nat, k < 3 → 0 ≤ (uofP room us)[k]?.getD 0 ∧ (uofP room us)[k]?.getD 0 ≤ 1000000  := by
      intro d hd
      unfold uofP
      rw [if_pos hok]
      have := togTo_bd hok d us.length
      have := (clOk_facts hok).2.2.1
      omega
    have hul : (uofP room us').length = 3 := by rw [uofP_len, if_pos hok']
    refine KV.ctl rfl (fun w => stepG_seq) ?_
    refine KV.ctl rfl (fun w => stepG_region) ?_
    rw [show List.range uaOps14.size = [0, 1, 2] from rfl]
    simp only [uaOps14, uaBody, Tryz.f4, Option.getD_some]
    refine KV.op anaA_good rfl (by rfl) (by decide) (by kernel_rfl) (fun t => anaA.noTr_spec (by kernel_rfl) t) (fun v₁ hs K' hK' => ?_)
    have hbx := ViewOf_cells_of EQ hs.heap
    have x0 := hbx.cell 0
    have x1 := hbx.cell 1
    simp only [gT, gZ, gS] at x0 x1
    clear hbx
    go_simp
    refine hK' _ _ ?_
    try walk_nrm
    clear hK' K' x0 x1
    refine KV.heap (v := v7) ?_ hs.sym
    clear hs v₁
    refine KV.callV rfl (by rfl) (by decide) rfl (Post := fun x v' => ∃ A m c, x = .slice A m c ∧ RdI v' v'.heap.size A m (uofP room us') ∧ GR v7 v') ?_ (fun x v9 hp => ?_)
    · have hus := usageOfA_v (H := H) (c1 := c3) (c2 := c4) h7 (clOk_sh hok')
      simpa [Act.eval, Act.put] using hus
    obtain ⟨A9, m9, c9, rfl, h9, g9⟩ := hp
    obtain rfl : m9 = 3 := by have := h9.len; omega
    replace h5 := h5.gr g9
    replace g5 := g5.trans g9
    try walk_nrm
    refine KV.op anaA_good rfl (by rfl) (by decide) (by kernel_rfl) (fun t => anaA.noTr_spec (by kernel_rfl) t) (fun v₁ hs K' hK' => ?_)
    go_simp
    refine hK' _ _ ?_
    try walk_nrm
    clear hK' K'
    refine KV.heap (v := v9) ?_ hs.sym
    clear hs v₁
    refine KV.ctl rfl (fun w => stepG_region_end) ?_
    refine KV.endC anaA_good (Rt := fun v₁ a v' => a.defers = [] ∧ a.tmps.getD 2 undef = .bool true ∧ GR v₁ v') (by kernel_rfl) (by kernel_rfl) rfl (by kernel_rfl) (fun v₁ hs => ?_) (fun v₁ a' v' todo hs hq => ?_)
    · exact ua_end A A1 A2 A3 A4 A5 A6 A9 n c n1 c1 n2 c2 c3 c4 gc gs gx i m c5 c6 c9 0 y31 y32 y33 y34 y35 y36 y37 y38 y39 y40 (uofP room us) (uofP room us') v₁ Hm.out (h5.gain (fun p y hy => hs.cell hy) (by rw [hs.heap]; exact Nat.le_refl _)) (h9.gain (fun p y hy => hs.cell hy) (by rw [hs.heap]; exact Nat.le_refl _)) he hub
    · obtain ⟨h1, h2, hg⟩ := hq
      exact ⟨_, a', todo, _, Tryz.func4, h1, rfl, resultsC_tmp rfl a'.tmps, h2, g5.trans (GR.from hs hg)⟩
  · obtain ⟨-, h1, h2, rfl⟩ := hq
    exact ⟨_, a', todo, _, Tryz.func4, h1, rfl, resultsC_tmp rfl a'.tmps, h2, g5.same hs⟩
set_option maxRecDepth 100000 in
set_option maxHeartbeats 1000000 in
theorem fnUsageArrive_v (h : RdU v v.heap.size A n) (hc : n ≤ c) (hcm : c ≤ 9223372036854775807) : CallsV Tryz.prog H 4 #[.slice A n c] v (fun x v' => x = .bool true ∧ GR v v') := by
  refine ⟨_, uaBody, Tryz.func4, by kernel_rfl, by rfl, fun cs => ?_⟩
  have e : (#[Value.slice A n c] ++ Array.replicate (Tryz.f4.ntmps - (#[Value.slice A n c] : Array Value).size) undef) = #[.slice A n c, undef, undef, undef, undef, undef, undef, undef, undef, undef, undef, undef, undef, undef, undef, undef, undef, undef, undef, undef, undef, undef, undef, undef, undef, undef, undef, undef, undef, undef, undef, undef, undef, undef, undef, undef, undef, undef, undef, undef, undef, undef, undef, undef, undef, undef, undef, undef, undef, undef, undef, undef, undef, undef, undef, undef, undef, undef, undef, undef, undef, undef, undef, undef, undef, undef, undef, undef, undef, undef, undef, undef, undef, undef, undef, undef, undef, undef, undef, undef, undef, undef] := by kernel_rfl
  obtain ⟨ri, rj, rk, he⟩ := uaBody_eq
  rw [e, he]
  clear e he
  refine KV.seqC anaA_good (Nm := fun v₁ a v' => a = ⟨#[.slice A n c, undef, .bool false, undef, undef, undef, undef, undef, undef, undef, undef, undef, undef, undef, undef, undef, undef, undef, undef, undef, undef, undef, undef, undef, undef, undef, undef, undef, undef, undef, undef, undef, undef, undef, undef, undef, undef, undef, undef, undef, undef, undef, undef, undef, undef, undef, undef, undef, undef, undef, undef, undef, undef, undef, undef, undef, undef, undef, undef, undef, undef, undef, undef, undef, undef, undef, undef, undef, undef, undef, undef, undef, undef, undef, undef, undef, undef, undef, undef, undef, undef, undef], []⟩ ∧ v' = v₁) (Rt := fun _ _ _ => False) (by kernel_rfl) (by kernel_rfl) rfl (by kernel_rfl) (fun v₁ hs => ?_) (fun v₁ a' v' hs hq => ?_) (fun _ _ _ _ _ h => h.elim)
  · simp only [uaC0, uaBody, Tryz.f4, Option.getD_some]
    go_wp2
  obtain ⟨rfl, rfl⟩ := hq
  refine KV.heap (v := v) ?_ hs.sym
  clear hs v'
  refine KV.seqC anaA_good (Nm := fun v₁ a v' => a = ⟨#[.slice A n c, undef, .bool false, undef, undef, undef, undef, undef, undef, undef, .slice A n c, .int .i64 n, .bool false, undef, undef, undef, undef, undef, undef, undef, undef, undef, undef, undef, undef, undef, undef, undef, undef, undef, undef, undef, undef, undef, undef, undef, undef, undef, undef, undef, undef, undef, undef, undef, undef, undef, undef, undef, undef, undef, undef, undef, undef, undef, undef, undef, undef, undef, undef, undef, undef, undef, undef, undef, undef, undef, undef, undef, undef, undef, undef, undef, undef, undef, undef, undef, undef, undef, undef, undef, undef, undef], []⟩ ∧ v' = v₁) (Rt := fun v₁ a v' => a.defers = [] ∧ a.tmps.getD 2 undef = .bool true ∧ v' = v₁) (by kernel_rfl) (by kernel_rfl) rfl (by kernel_rfl) (fun v₁ hs => ?_) (fun v₁ a' v' hs hq => ?_) (fun v₁ a' v' todo hs hq => ?_)
  · simp only [uaC1, uaBody, Tryz.f4, Option.getD_some]
    by_cases hn : 1048576 < n
    · have q : decide ((1048576 : Int) < (n : Int)) = true := decide_eq_true (by omega)
      have q1 : (1048576 : Int) < (n : Int) := by omega
      go_wp2
    · have q : decide ((1048576 : Int) < (n : Int)) = false := decide_eq_false (by omega)
      have q1 : ¬ (1048576 : Int) < (n : Int) := by omega
      have q2 : n ≤ 1048576 := by omega
      go_wp2
  · obtain ⟨rfl, rfl⟩ := hq
    refine KV.heap (v := v) ?_ hs.sym
    clear hs v'
    refine KV.seqC anaA_good (Nm := fun v₁ a v' => ∃ gc A1 n1 c1 A2 n2 c2 room us, a = ⟨#[.slice A n c, undef, .bool false, .pointer (some ⟨gc, 0, none⟩), undef, undef, undef, undef, undef, undef, .slice A n c, .int .i64 n, .bool false, .slice A n c, .agg #[.slice A1 n1 c1, .slice A2 n2 c2], undef, undef, undef, undef, undef, undef, undef, undef, undef, undef, undef, undef, undef, undef, undef, undef, undef, undef, undef, undef, undef, undef, undef, undef, undef, undef, undef, undef, undef, undef, undef, undef, undef, undef, undef, undef, undef, undef, undef, undef, undef, undef, undef, undef, undef, undef, undef, undef, undef, undef, undef, undef, undef, undef, undef, undef, undef, undef, undef, undef, undef, undef, undef, undef, undef, undef, undef], []⟩ ∧ RdC v' A1 A2 n1 n2 room us ∧ ShU us ∧ Blk v' gc 26 #[.slice A1 n1 c1, .slice A2 n2 c2] ∧ GR v₁ v') (Rt := fun _ _ _ => False) (by kernel_rfl) (by kernel_rfl) rfl (by kernel_rfl) (fun v₁ hs => ?_) (fun v₁ a' v' hs hq => ?_) (fun _ _ _ _ _ h => h.elim)
    · exact ua_c3 A n c v₁ (fun hn => by
        obtain ⟨b, o, e1, e2, e3⟩ := h hn
        refine ⟨b, o, e1, by rw [hs.heap]; exact e2, fun j hj => ?_⟩
        obtain ⟨u, g1, g2, g3⟩ := e3 j hj
        exact ⟨u, g1, g2, hs.cell g3⟩) hc hcm
    obtain ⟨gc, A1, n1, c1, A2, n2, c2, room, us, rfl, hr, hsu, hbox, hg⟩ := hq
    have hg2 : GR v v' := GR.from hs hg
    clear hg hs
    generalize v' = w2 at hg2 hbox hr ⊢
    refine KV.ctl rfl (fun w => stepG_seq) ?_
    refine KV.ctl rfl (fun w => stepG_region) ?_
    rw [show List.range uaOps4.size = [0, 1, 2] from rfl]
    simp only [uaOps4, uaBody, Tryz.f4, Option.getD_some]
    refine KV.op anaA_good rfl (by rfl) (by decide) (by kernel_rfl) (fun t => anaA.noTr_spec (by kernel_rfl) t) (fun v₁ hs K' hK' => ?_)
    have hbx := ViewOf_cells_of hbox hs.heap
    have x0 := hbx.cell 0
    have x1 := hbx.cell 1
    simp only [gT, gZ, gS] at x0 x1
    clear hbx
    go_simp
    refine hK' _ _ ?_
    try walk_nrm
    clear hK' K' x0 x1
    refine KV.heap (v := w2) ?_ hs.sym
    clear hs v₁
    refine KV.callV rfl (by rfl) (by decide) rfl (Post := fun x v' => ∃ A m c, x = .slice A m c ∧ RdI v' v'.heap.size A m (uofP room us) ∧ GR w2 v') ?_ (fun x v3 hp => ?_)
    · have hus := usageOfA_v (H := H) (c1 := c1) (c2 := c2) hr hsu
      simpa [Act.eval, Act.put] using hus
    obtain ⟨A5, m, c5, rfl, h5, hg3⟩ := hp
    try walk_nrm
    refine KV.op anaA_good rfl (by rfl) (by decide) (by kernel_rfl) (fun t => anaA.noTr_spec (by kernel_rfl) t) (fun v₁ hs K' hK' => ?_)
    go_simp
    refine hK' _ _ ?_
    try walk_nrm
    clear hK' K'
    refine KV.heap (v := v3) ?_ hs.sym
    clear hs v₁
    refine KV.ctl rfl (fun w => stepG_region_end) ?_
    replace hg2 := hg2.trans hg3
    replace hbox := hbox.grr hg3
    replace hr := hr.gr hg3
    clear hg3
    refine KV.seqC anaA_good (Nm := fun v₁ a v' => ∃ A6 c6, a = ⟨#[.slice A n c, undef, .bool false, .pointer (some ⟨gc, 0, none⟩), .slice A5 m c5, .slice A6 m c6, undef, undef, undef, undef, .slice A n c, .int .i64 n, .bool false, .slice A n c, .agg #[.slice A1 n1 c1, .slice A2 n2 c2], .agg #[.slice A1 n1 c1, .slice A2 n2 c2], .slice A5 m c5, .agg #[.slice A1 n1 c1, .slice A2 n2 c2], .slice A6 m c6, undef, undef, undef, undef, undef, undef, undef, undef, undef, undef, undef, undef, undef, undef, undef, undef, undef, undef, undef, undef, undef, undef, undef, undef, undef, undef, undef, undef, undef, undef, undef, undef, undef, undef, undef, undef, undef, undef, undef, undef, undef, undef, undef, undef, undef, undef, undef, undef, undef, undef, undef, undef, undef, undef, undef, undef, undef, undef, undef, undef, undef, undef, undef], []⟩ ∧ RdI v' v'.heap.size A6 m (uofP room us) ∧ GR v₁ v') (Rt := fun _ _ _ => False) (by kernel_rfl) (by kernel_rfl) rfl (by kernel_rfl) (fun v₁ hs => ?_) (fun v₁ a' v' hs hq => ?_) (fun _ _ _ _ _ h => h.elim)
    · exact ua_c5 A A1 A2 A5 n c n1 c1 n2 c2 gc m c5 room us v₁ (hr.same hs.heap) hsu (ViewOf_cells_of hbox hs.heap) h5.len
    obtain ⟨A6, c6, rfl, h6, hg⟩ := hq
    replace hg2 := hg2.trans (GR.from hs hg)
    replace hbox := hbox.grr (GR.from hs hg)
    replace hr := hr.gr (GR.from hs hg)
    replace h5 := h5.gr (GR.from hs hg)
    clear hg hs
    generalize v' = v4 at hg2 hbox hr h5 h6 ⊢
    refine KV.seqC anaA_good (Nm := fun v₁ a v' => m ≠ 0 ∧ a = ⟨#[.slice A n c, undef, .bool false, .pointer (some ⟨gc, 0, none⟩), .slice A5 m c5, .slice A6 m c6, undef, undef, undef, undef, .slice A n c, .int .i64 n, .bool false, .slice A n c, .agg #[.slice A1 n1 c1, .slice A2 n2 c2], .agg #[.slice A1 n1 c1, .slice A2 n2 c2], .slice A5 m c5, .agg #[.slice A1 n1 c1, .slice A2 n2 c2], .slice A6 m c6, .slice A5 m c5, .slice A6 m c6, .bool true, .bool false, .bool false, .slice A6 m c6, .int .i64 m, .bool false, .bool false, undef, undef, undef, undef, undef, undef, undef, undef, undef, undef, undef, undef, undef, undef, undef, undef, undef, undef, undef, undef, undef, undef, undef, undef, undef, undef, undef, undef, undef, undef, undef, undef, undef, undef, undef, undef, undef, undef, undef, undef, undef, undef, undef, undef, undef, undef, undef, undef, undef, undef, undef, undef, undef, undef], []⟩ ∧ GR v₁ v') (Rt := fun v₁ a v' => a.defers = [] ∧ a.tmps.getD 2 undef = .bool true ∧ GR v₁ v') (by kernel_rfl) (by kernel_rfl) rfl (by kernel_rfl) (fun v₁ hs => ?_) (fun v₁ a' v' hs hq => ?_) (fun v₁ a' v' todo hs hq => ?_)
    · exact ua_c6 A A1 A2 A5 A6 n c n1 c1 n2 c2 gc m c5 c6 (uofP room us) v₁ (h5.gain (fun p y hy => hs.cell hy) (by rw [hs.heap]; exact Nat.le_refl _)) (h6.gain (fun p y hy => hs.cell hy) (by rw [hs.heap]; exact Nat.le_refl _))
    · obtain ⟨h0, rfl, hg⟩ := hq
      replace hg2 := hg2.trans (GR.from hs hg)
      replace hbox := hbox.grr (GR.from hs hg)
      replace hr := hr.gr (GR.from hs hg)
      replace h5 := h5.gr (GR.from hs hg)
      clear hg hs h6
      generalize v' = v5 at hg2 hbox hr h5 ⊢
      have hl := uofP_len room us
      have hm := h5.len
      have hok : clOk room us = true := by
        cases hk : clOk room us with
        | true => rfl
        | false => rw [hk, if_neg (by simp)] at hl; omega
      rw [if_pos hok] at hl
      have hm3 : m = 3 := by omega
      clear hl hm h0
      refine KV.seqC anaA_good (Nm := fun v₁ a v' => a = ⟨#[.slice A n c, undef, .bool false, .pointer (some ⟨gc, 0, none⟩), .slice A5 m c5, .slice A6 m c6, .int .i64 1, undef, undef, undef, .slice A n c, .int .i64 n, .bool false, .slice A n c, .agg #[.slice A1 n1 c1, .slice A2 n2 c2], .agg #[.slice A1 n1 c1, .slice A2 n2 c2], .slice A5 m c5, .agg #[.slice A1 n1 c1, .slice A2 n2 c2], .slice A6 m c6, .slice A5 m c5, .slice A6 m c6, .bool true, .bool false, .bool false, .slice A6 m c6, .int .i64 m, .bool false, .bool false, undef, undef, undef, undef, undef, undef, undef, undef, undef, undef, undef, undef, undef, undef, undef, undef, undef, undef, undef, undef, undef, undef, undef, undef, undef, undef, undef, undef, undef, undef, undef, undef, undef, undef, undef, undef, undef, undef, undef, undef, undef, undef, undef, undef, undef, undef, undef, undef, undef, undef, undef, undef, undef, undef], []⟩ ∧ v' = v₁) (Rt := fun _ _ _ => False) (by kernel_rfl) (by kernel_rfl) rfl (by kernel_rfl) (fun v₁ hs => ?_) (fun v₁ a' v' hs hq => ?_) (fun _ _ _ _ _ h => h.elim)
      · clear h h5 hr hsu hbox hok hm3 hg2
        simp only [uaC8, uaBody, Tryz.f4, Option.getD_some]
        go_wp2
      obtain ⟨rfl, rfl⟩ := hq
      refine KV.heap (v := v5) ?_ hs.sym
      clear hs v'
      refine KV.seqC anaA_good (Nm := fun v₁ a v' => ∃ (i : Nat) (y31 y32 y33 y34 y35 y36 y37 y38 y39 y40 : Value), 1 ≤ i ∧ i ≤ 15 ∧ whereP (us.map (·.2)) (i : Int) = -1 ∧ a = ⟨#[.slice A n c, undef, .bool false, .pointer (some ⟨gc, 0, none⟩), .slice A5 m c5, .slice A6 m c6, .int .i64 (i : Nat), undef, undef, undef, .slice A n c, .int .i64 n, .bool false, .slice A n c, .agg #[.slice A1 n1 c1, .slice A2 n2 c2], .agg #[.slice A1 n1 c1, .slice A2 n2 c2], .slice A5 m c5, .agg #[.slice A1 n1 c1, .slice A2 n2 c2], .slice A6 m c6, .slice A5 m c5, .slice A6 m c6, .bool true, .bool false, .bool false, .slice A6 m c6, .int .i64 m, .bool false, .bool false, undef, undef, undef, y31, y32, y33, y34, y35, y36, y37, y38, y39, y40, undef, undef, undef, undef, undef, undef, undef, undef, undef, undef, undef, undef, undef, undef, undef, undef, undef, undef, undef, undef, undef, undef, undef, undef, undef, undef, undef, undef, undef, undef, undef, undef, undef, undef, undef, undef, undef, undef, undef, undef, undef], []⟩ ∧ GR v₁ v') (Rt := fun _ _ _ => False) (by kernel_rfl) (by kernel_rfl) rfl (by kernel_rfl) (fun v₁ hs => ?_) (fun v₁ a' v' hs hq => ?_) (fun _ _ _ _ _ h => h.elim)
      · exact ua_c9 A A1 A2 A5 A6 n c n1 c1 n2 c2 gc m c5 c6 room us v₁ (hr.same hs.heap) hsu (ViewOf_cells_of hbox hs.heap) hok
      obtain ⟨i, y31, y32, y33, y34, y35, y36, y37, y38, y39, y40, h1, h15, hw, rfl, hg⟩ := hq
      replace hg2 := hg2.trans (GR.from hs hg)
      replace hbox := hbox.grr (GR.from hs hg)
      replace hr := hr.gr (GR.from hs hg)
      replace h5 := h5.gr (GR.from hs hg)
      clear hg hs
      exact (ua_tail A A1 A2 A5 A6 n c n1 c1 n2 c2 gc i m c5 c6 y31 y32 y33 y34 y35 y36 y37 y38 y39 y40 room us v' hr hsu hbox hok hm3 h5 h1 h15 hw).mono fun g' u hret => hret.mono fun x u hx => ⟨hx.1, hg2.trans hx.2⟩
    · obtain ⟨h1, h2, hg⟩ := hq
      exact ⟨_, a', todo, _, Tryz.func4, h1, rfl, resultsC_tmp rfl a'.tmps, h2, hg2.trans (GR.from hs hg)⟩
  · obtain ⟨h1, h2, rfl⟩ := hq
    exact ⟨_, a', todo, _, Tryz.func4, h1, rfl, resultsC_tmp rfl a'.tmps, h2, (GR.refl v).same hs⟩
end
end Go.Proofs.YtlcgbnmmbheleaaGreat
