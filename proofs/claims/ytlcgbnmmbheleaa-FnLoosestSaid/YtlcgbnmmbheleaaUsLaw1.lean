/- The law FnLoosest, beside leavers. (The program of this text: gen_uslaw.py.) -/
import Derived.Test.YtlcgbnmmbheleaaV23
import Derived.Test.YtlcgbnmmbheleaaV31
namespace Go.Proofs.Ytlcgbnmmbheleaa
open Go Go.Conc Go.RowKit
set_option linter.unusedVariables false
set_option linter.unusedSimpArgs false

noncomputable def flBody : Code := Try.f3.body.getD .skip
noncomputable def flC0 : Code := match flBody with | .seq a _ => a | _ => .skip
noncomputable def flC1 : Code := match flBody with | .seq _ (.seq a _) => a | _ => .skip
noncomputable def flC3 : Code := match flBody with | .seq _ (.seq _ (.seq a _)) => a | _ => .skip
noncomputable def flR : Code := match flBody with | .seq _ (.seq _ (.seq _ r)) => r | _ => .skip
noncomputable def flE : Code := match flBody with | .seq _ (.seq _ (.seq _ (.seq _ r))) => r | _ => .skip
theorem flBody_eq : flBody = .seq flC0 (.seq flC1 (.seq flC3 flR)) := by rfl

set_option maxRecDepth 100000 in
set_option maxHeartbeats 3200000 in
theorem fl_end (A A1 A2 : Option Addr) (n c n1 c1 n2 c2 cb : Nat) (room : List Int) (us : List Un) (w : World) (h : RdC w A1 A2 n1 n2 room us) (hs : ShU us) (hbox : Blk w cb 26 #[.slice A1 n1 c1, .slice A2 n2 c2]) :
    flE.wp Try.prog (fun e a w' => e = .ret ∧ a.defers = [] ∧ a.tmps.getD 2 undef = .bool true ∧ GR w w') ⟨#[.slice A n c, undef, .bool false, .pointer (some ⟨cb, 0, none⟩), .int .i64 (loosestP room us), undef, undef, undef, undef, .slice A n c, .int .i64 n, .bool false, .slice A n c, (.agg #[.slice A1 n1 c1, .slice A2 n2 c2]), (.agg #[.slice A1 n1 c1, .slice A2 n2 c2]), .int .i64 (loosestP room us), undef, undef, undef, undef, undef, undef, undef, undef, undef, undef, undef, undef, undef, undef, undef, undef, undef, undef, undef, undef, undef, undef, undef, undef, undef, undef, undef, undef, undef, undef, undef, undef, undef, undef, undef, undef, undef, undef, undef, undef, undef, undef, undef, undef, undef, undef, undef, undef, undef, undef, undef, undef, undef, undef, undef, undef, undef, undef, undef, undef, undef, undef, undef, undef, undef, undef], []⟩ w := by
  have x0 := hbox.cell 0
  have x1 := hbox.cell 1
  simp only [gT, gZ, gS] at x0 x1
  rw [loosest_eq]
  have hul := qh h.b.len
  have R1 := qh h
  have Hs := qh hs
  have P1 := qh hbox
  have hn2 : n2 ≤ 1000 := by have := hs.1; have := hul.out; omega
  clear h hs hbox
  simp only [flE, flBody, Try.f3, Option.getD_some]
  go_wp2_with fail
  clear x0 x1
  refine (usageLoosestS_any A1 A2 n1 c1 n2 c2 room us w R1.out Hs.out).mono ?_; rintro e w2 ⟨rfl, hb2⟩
  have B2 := qh hb2
  have R2 := qh (R1.out.up hb2)
  have P2 := qh (P1.out.below hb2 P1.out.lt)
  clear hb2 R1 P1
  have hlaw := @loosest_law room us
  generalize loosestS room us = out at hlaw ⊢
  by_cases h0 : out < 0
  · have q0 : decide (out < 0) = true := decide_eq_true h0
    clear h0 hlaw
    go_wp2_with fail
    exact below_gr B2.out
  · obtain ⟨nb, rfl, hok, hnb, hop, hall⟩ := hlaw h0
    have q0 : decide ((nb : Int) < 0) = false := decide_eq_false (by omega)
    clear h0 hlaw
    have hnb2 : nb < n2 := by have := hul.out; omega
    have Hok := qh hok
    have Hu := qh (uok_of hok).1
    have Hall := qh hall
    have Hop := qh hop
    have Hlb := qh (fun k => load_sum_bd (uok_of hok).1 k)
    clear hok hop hall hnb
    go_wp2_with fail
    have k1 : (0 : Int) ≤ (nb : Int) := by omega
    have k2 : (nb : Int) < (n2 : Int) := by omega
    have k3 : 0 ≤ (nb : Int) * 2 := by omega
    obtain ⟨b, o, Ak, mk, ck, rfl, lb, e0, e1, hmk, hrd⟩ := R2.out.b.at_ hnb2
    have E0 := qh e0
    have E1 := qh e1
    have Hrd := qh hrd
    have LB := qh lb
    have y0 := P2.out.cell 0
    have y1 := P2.out.cell 1
    simp only [gT, gZ, gS] at y0 y1
    clear hrd hmk e0 lb
    refine wp_region_mix (.take 0 (.take 1 (.take 2 (.take 3 (.take 4 (.take 5 (.take 6 (.take 7 (.bar 8 (.bar 9 (.take 10 .nil))))))))))) (fun w' => w'.cell? ⟨cb, 0, none⟩ = some (.slice A1 n1 c1) ∧ w'.cell? ⟨cb, 1, none⟩ = some (.slice (some ⟨b, o, none⟩) n2 c2) ∧ w'.cell? ⟨b, o + nb * 2 + 1, none⟩ = some (.slice Ak mk ck)) (by kernel_rfl) (by kernel_rfl) ⟨y0, y1, e1⟩ (fun _ => ?_)
    clear y0 y1 e1
    have B3 := qh B2.out.drew
    have R3 := qh (R2.out.up ((Below.refl _ _).drew))
    have P3 := qh P2.out.drew
    have Rd3 := qh (Hrd.out.up ((Below.refl _ _).drew))
    have F0 := qh (show w2.drew.cell? ⟨b, o + nb * 2, none⟩ = some (.bool (us[nb]?.getD (false, [])).1) from E0.out)
    have F1 := qh (show w2.drew.cell? ⟨b, o + nb * 2 + 1, none⟩ = some (.slice Ak mk ck) from E1.out)
    have LB3 := qh (show b < w2.drew.heap.size from LB.out)
    clear B2 R2 P2 Hrd E0 E1 LB
    generalize w2.drew = w3 at B3 R3 P3 Rd3 F0 F1 LB3 ⊢
    repeat ((first | refine mxS (by rfl) (by rfl) ?_ | (refine mxT (v := ?_) (by rfl) (by rfl) (fun z y => ?_) ?_; rotate_left; (focus ((try dsimp only at y); (go_simp <;> with_reducible rfl); done)))); (try simp only [Act.put,pS,pZ,pC]))
    (refine mxB (by rfl) (fun K hK => ?_); go_simp)
    refine (binLoadI_any A1 Ak n1 c1 mk ck room (us[nb]?.getD (false, [])).2 w3 R3.out.a Rd3.out (unit_ok Hok.out (un_mem (by have := hul.out; omega))) (by have := Hu.out.n900 nb; have := Rd3.out.len; omega) (fun j hj => Hu.out.n3 nb j (by have := Rd3.out.len; omega)) (Hu.out.nb nb)).mono ?_; rintro e w4 ⟨A7, c7, rfl, hr7, hb7⟩
    have B4 := qh (below_to B3.out hb7)
    have P4 := qh (P3.out.below hb7 P3.out.lt)
    have R4 := qh (R3.out.up hb7)
    have G0 := qh ((hb7.cell (p := ⟨b, o + nb * 2, none⟩) LB3.out).trans F0.out)
    have G1 := qh ((hb7.cell (p := ⟨b, o + nb * 2 + 1, none⟩) LB3.out).trans F1.out)
    have LB4 := qh (Nat.lt_of_lt_of_le LB3.out hb7.size)
    have S7 := qh hr7
    clear hb7 hr7 B3 R3 P3 Rd3 F0 F1 LB3
    ((try dsimp only); refine nxK hK _ _ (⟨P4.out.cell 0, P4.out.cell 1, G1.out⟩) ?_; clear hK K; (try simp only [Act.put,pS,pZ,pC]))
    (refine mxB (by rfl) (fun K hK => ?_); go_simp)
    refine (sumOf_any A7 3 c7 _ _ w4 S7.out (by omega) (fun i => by have := loads_bd Hu.out nb i; omega)).mono ?_; rintro e w5 ⟨rfl, rfl⟩
    ((try dsimp only); refine nxK hK _ _ (⟨P4.out.cell 0, P4.out.cell 1, G1.out⟩) ?_; clear hK K; (try simp only [Act.put,pS,pZ,pC]))
    repeat ((first | refine mxS (by rfl) (by rfl) ?_ | (refine mxT (v := ?_) (by rfl) (by rfl) (fun z y => ?_) ?_; rotate_left; (focus ((try dsimp only at y); (go_simp <;> with_reducible rfl); done)))); (try simp only [Act.put,pS,pZ,pC]))
    refine wpMix_nil ?_
    clear S7
    go_wp2_with fail
    generalize hlb : (loadP (us[nb]?.getD (false, [])).2).sum = sl at *
    go_loopw [7] (fun kv wr => ∃ k : Nat, kv = .int .i64 k ∧ k ≤ n2 ∧ Below w4.heap.size w4 wr) (fun kv _ => n2 - (intOf kv).toNat)
    case atStart => exact ⟨0, rfl, Nat.zero_le _, Below.refl _ _⟩
    case round =>
      obtain ⟨k, rfl, hk, hbr⟩ := hrel
      have HB := qh hbr
      clear hbr
      have Pr := qh (P4.out.below HB.out P4.out.lt)
      have Rr := qh (R4.out.up HB.out)
      have y0 := Pr.out.cell 0
      have y1 := Pr.out.cell 1
      simp only [gT, gZ, gS] at y0 y1
      by_cases hlt : k < n2
      · have j1 : (0 : Int) ≤ (k : Int) := by omega
        have j2 : (k : Int) < (n2 : Int) := by omega
        have j3 : 0 ≤ (k : Int) * 2 := by omega
        obtain ⟨b', o', A8, m8, c8, eA, lb, e0, e1, hmk, hrd⟩ := Rr.out.b.at_ hlt
        injection eA with eA
        injection eA with eb eo
        subst eb eo
        have E0 := qh e0
        have E1 := qh e1
        have Hrd := qh hrd
        have LB := qh lb
        have v1 : IntKind.i64.wrap ((k : Int) + 1) = (k : Int) + 1 := wr64 (by omega) (by omega)
        clear hrd hmk e0 lb
        go_wp2_with fail
        refine wp_region_mix (.take 0 (.take 1 (.take 2 (.take 3 (.take 4 (.take 5 (.take 6 (.take 7 (.bar 8 (.bar 9 (.take 10 .nil))))))))))) (fun w' => w'.cell? ⟨cb, 0, none⟩ = some (.slice A1 n1 c1) ∧ w'.cell? ⟨cb, 1, none⟩ = some (.slice (some ⟨b, o, none⟩) n2 c2) ∧ w'.cell? ⟨b, o + k * 2 + 1, none⟩ = some (.slice A8 m8 c8)) (by kernel_rfl) (by kernel_rfl) ⟨y0, y1, e1⟩ (fun _ => ?_)
        clear y0 y1 e1
        have B5 := qh HB.out.drew
        have R5 := qh (Rr.out.up ((Below.refl _ _).drew))
        have P5 := qh Pr.out.drew
        have Rd5 := qh (Hrd.out.up ((Below.refl _ _).drew))
        have F0 := qh (show wr.drew.cell? ⟨b, o + k * 2, none⟩ = some (.bool (us[k]?.getD (false, [])).1) from E0.out)
        have F1 := qh (show wr.drew.cell? ⟨b, o + k * 2 + 1, none⟩ = some (.slice A8 m8 c8) from E1.out)
        have LB5 := qh (show b < wr.drew.heap.size from LB.out)
        clear HB Rr Pr Hrd E0 E1 LB
        generalize wr.drew = w5 at B5 R5 P5 Rd5 F0 F1 LB5 ⊢
        repeat ((first | refine mxS (by rfl) (by rfl) ?_ | (refine mxT (v := ?_) (by rfl) (by rfl) (fun z y => ?_) ?_; rotate_left; (focus ((try dsimp only at y); (go_simp <;> with_reducible rfl); done)))); (try simp only [Act.put,pS,pZ,pC]))
        (refine mxB (by rfl) (fun K hK => ?_); go_simp)
        refine (binLoadI_any A1 A8 n1 c1 m8 c8 room (us[k]?.getD (false, [])).2 w5 R5.out.a Rd5.out (unit_ok Hok.out (un_mem (by have := hul.out; omega))) (by have := Hu.out.n900 k; have := Rd5.out.len; omega) (fun j hj => Hu.out.n3 k j (by have := Rd5.out.len; omega)) (Hu.out.nb k)).mono ?_; rintro e w6 ⟨A7, c7, rfl, hr7, hb7⟩
        have B6 := qh (below_to B5.out hb7)
        have P6 := qh (P5.out.below hb7 P5.out.lt)
        have R6 := qh (R5.out.up hb7)
        have I0 := qh ((hb7.cell (p := ⟨b, o + k * 2, none⟩) LB5.out).trans F0.out)
        have I1 := qh ((hb7.cell (p := ⟨b, o + k * 2 + 1, none⟩) LB5.out).trans F1.out)
        have S7 := qh hr7
        clear hb7 hr7 B5 R5 P5 Rd5 F0 F1 LB5
        ((try dsimp only); refine nxK hK _ _ (⟨P6.out.cell 0, P6.out.cell 1, I1.out⟩) ?_; clear hK K; (try simp only [Act.put,pS,pZ,pC]))
        (refine mxB (by rfl) (fun K hK => ?_); go_simp)
        refine (sumOf_any A7 3 c7 _ _ w6 S7.out (by omega) (fun i => by have := loads_bd Hu.out k i; omega)).mono ?_; rintro e w7 ⟨rfl, rfl⟩
        ((try dsimp only); refine nxK hK _ _ (⟨P6.out.cell 0, P6.out.cell 1, I1.out⟩) ?_; clear hK K; (try simp only [Act.put,pS,pZ,pC]))
        repeat ((first | refine mxS (by rfl) (by rfl) ?_ | (refine mxT (v := ?_) (by rfl) (by rfl) (fun z y => ?_) ?_; rotate_left; (focus ((try dsimp only at y); (go_simp <;> with_reducible rfl); done)))); (try simp only [Act.put,pS,pZ,pC]))
        refine wpMix_nil ?_
        clear S7
        have hno := Hall.out k (by have := hul.out; omega)
        have z1 := P6.out.cell 1
        simp only [gT, gZ, gS] at z1
        have i0 := I0.out
        generalize (loadP (us[k]?.getD (false, [])).2).sum = si at hno ⊢
        generalize (us[k]?.getD (false, [])).1 = op at hno i0
        clear I0 I1
        cases op with
        | false =>
          clear hno
          go_wp2_with fail
          go_roundw
          case rel => exact ⟨k + 1, by go_num, by omega, B6.out⟩
          case measure => simp [intOf]; omega
        | true =>
          obtain ⟨g1, g2⟩ := hno rfl
          have p1 : sl ≤ si := by omega
          have p2 : ¬ si < sl := by omega
          have q1 : decide (si < sl) = false := decide_eq_false (by omega)
          by_cases hkn : (k : Int) < (nb : Int)
          · have q2 : decide ((k : Int) < (nb : Int)) = true := decide_eq_true hkn
            have q3 : (si == sl) = false := by rw [beq_eq_false_iff_ne]; intro e; first | exact g2 ⟨hkn, e⟩ | exact g2 hkn e | omega
            have p3 : ¬ si = sl := by simpa using q3
            have p4 : k < nb := by omega
            clear hno g1 g2 hkn
            go_wp2_with fail
            go_roundw
            case rel => exact ⟨k + 1, by go_num, by omega, B6.out⟩
            case measure => simp [intOf]; omega
          · have q2 : decide ((k : Int) < (nb : Int)) = false := decide_eq_false hkn
            have p4 : ¬ k < nb := by omega
            have p5 : nb ≤ k := by omega
            clear hno g1 g2 hkn
            go_wp2_with fail
            go_roundw
            case rel => exact ⟨k + 1, by go_num, by omega, B6.out⟩
            case measure => simp [intOf]; omega
      · obtain rfl : k = n2 := by omega
        have I0 := qh ((HB.out.cell (p := ⟨b, o + nb * 2, none⟩) LB4.out).trans G0.out)
        have i0 := I0.out
        rw [Hop.out] at i0
        go_wp2_with fail
        exact below_gr (below_to B4.out HB.out)

section
variable {H : Nat → Prop} {v : World} {A : Option Addr} {n c : Nat}
set_option maxRecDepth 100000 in
theorem fl_c3 (A : Option Addr) (n c : Nat) (v : World) (h : RdU v v.heap.size A n) (hc : n ≤ c) (hcm : c ≤ 9223372036854775807) :
    flC3.wp Try.prog (fun e a v' => (e = .normal ∧ ∃ cb A1 n1 c1 A2 n2 c2 room us, a = ⟨#[.slice A n c, undef, .bool false, .pointer (some ⟨cb, 0, none⟩), undef, undef, undef, undef, undef, .slice A n c, .int .i64 n, .bool false, .slice A n c, (.agg #[.slice A1 n1 c1, .slice A2 n2 c2]), undef, undef, undef, undef, undef, undef, undef, undef, undef, undef, undef, undef, undef, undef, undef, undef, undef, undef, undef, undef, undef, undef, undef, undef, undef, undef, undef, undef, undef, undef, undef, undef, undef, undef, undef, undef, undef, undef, undef, undef, undef, undef, undef, undef, undef, undef, undef, undef, undef, undef, undef, undef, undef, undef, undef, undef, undef, undef, undef, undef, undef, undef, undef, undef, undef, undef, undef, undef], []⟩ ∧ RdC v' A1 A2 n1 n2 room us ∧ ShU us ∧ Blk v' cb 26 #[.slice A1 n1 c1, .slice A2 n2 c2] ∧ GR v v') ∨ (e = .ret ∧ False)) ⟨#[.slice A n c, undef, .bool false, undef, undef, undef, undef, undef, undef, .slice A n c, .int .i64 n, .bool false, undef, undef, undef, undef, undef, undef, undef, undef, undef, undef, undef, undef, undef, undef, undef, undef, undef, undef, undef, undef, undef, undef, undef, undef, undef, undef, undef, undef, undef, undef, undef, undef, undef, undef, undef, undef, undef, undef, undef, undef, undef, undef, undef, undef, undef, undef, undef, undef, undef, undef, undef, undef, undef, undef, undef, undef, undef, undef, undef, undef, undef, undef, undef, undef, undef, undef, undef, undef, undef, undef], []⟩ v := by
  simp only [flC3, flBody, Try.f3, Option.getD_some]
  go_wp2_with fail
  refine (drawUsageLoosest_any A n c v h hc hcm).mono ?_; rintro e w2 ⟨A1, n1, c1, A2, n2, c2, room, us, rfl, hr, hs, h1, h2, h3, hb⟩
  have B2 := qh hb
  have R2 := qh hr
  have Hs := qh hs
  clear hr hs hb h1 h2 h3
  have Z3 := qh (Blk.new w2 26 #[.slice none 0 0, .slice none 0 0])
  have y0 := Z3.out.cell 0
  have y1 := Z3.out.cell 1
  simp only [gT, gZ, gS] at y0 y1
  have y2 := Z3.out.frozen 0
  have y3 := Z3.out.frozen 1
  go_wp2_with fail
  refine ⟨_, A1, n1, c1, A2, n2, c2, ?_, room, us, R2.out.up (alloc_up w2 _), Hs.out, Blk.new w2 _ _, below_gr (below_to B2.out (alloc_up w2 _))⟩
  simp

set_option maxRecDepth 100000 in
set_option maxHeartbeats 1000000 in
theorem fnLoosest_v (h : RdU v v.heap.size A n) (hc : n ≤ c) (hcm : c ≤ 9223372036854775807) : CallsV Try.prog H 3 #[.slice A n c] v (fun x v' => x = .bool true ∧ GR v v') := by
  refine ⟨_, flBody, Try.func3, by kernel_rfl, by rfl, fun cs => ?_⟩
  have e : (#[Value.slice A n c] ++ Array.replicate (Try.f3.ntmps - (#[Value.slice A n c] : Array Value).size) undef) = #[.slice A n c, undef, undef, undef, undef, undef, undef, undef, undef, undef, undef, undef, undef, undef, undef, undef, undef, undef, undef, undef, undef, undef, undef, undef, undef, undef, undef, undef, undef, undef, undef, undef, undef, undef, undef, undef, undef, undef, undef, undef, undef, undef, undef, undef, undef, undef, undef, undef, undef, undef, undef, undef, undef, undef, undef, undef, undef, undef, undef, undef, undef, undef, undef, undef, undef, undef, undef, undef, undef, undef, undef, undef, undef, undef, undef, undef, undef, undef, undef, undef, undef, undef] := by kernel_rfl
  rw [e, flBody_eq]
  clear e
  refine KV.seqC anaA_good (Nm := fun v₁ a v' => a = ⟨#[.slice A n c, undef, .bool false, undef, undef, undef, undef, undef, undef, undef, undef, undef, undef, undef, undef, undef, undef, undef, undef, undef, undef, undef, undef, undef, undef, undef, undef, undef, undef, undef, undef, undef, undef, undef, undef, undef, undef, undef, undef, undef, undef, undef, undef, undef, undef, undef, undef, undef, undef, undef, undef, undef, undef, undef, undef, undef, undef, undef, undef, undef, undef, undef, undef, undef, undef, undef, undef, undef, undef, undef, undef, undef, undef, undef, undef, undef, undef, undef, undef, undef, undef, undef], []⟩ ∧ v' = v₁) (Rt := fun _ _ _ => False) (by kernel_rfl) (by kernel_rfl) rfl (by kernel_rfl) (fun v₁ hs => ?_) (fun v₁ a' v' hs hq => ?_) (fun _ _ _ _ _ h => h.elim)
  · simp only [flC0, flBody, Try.f3, Option.getD_some]
    go_wp2
  obtain ⟨rfl, rfl⟩ := hq
  refine KV.heap (v := v) ?_ ⟨hs.heap.symm, hs.os.symm, hs.output.symm⟩
  clear hs v'
  refine KV.seqC anaA_good (Nm := fun v₁ a v' => a = ⟨#[.slice A n c, undef, .bool false, undef, undef, undef, undef, undef, undef, .slice A n c, .int .i64 n, .bool false, undef, undef, undef, undef, undef, undef, undef, undef, undef, undef, undef, undef, undef, undef, undef, undef, undef, undef, undef, undef, undef, undef, undef, undef, undef, undef, undef, undef, undef, undef, undef, undef, undef, undef, undef, undef, undef, undef, undef, undef, undef, undef, undef, undef, undef, undef, undef, undef, undef, undef, undef, undef, undef, undef, undef, undef, undef, undef, undef, undef, undef, undef, undef, undef, undef, undef, undef, undef, undef, undef], []⟩ ∧ v' = v₁) (Rt := fun v₁ a v' => a.defers = [] ∧ a.tmps.getD 2 undef = .bool true ∧ v' = v₁) (by kernel_rfl) (by kernel_rfl) rfl (by kernel_rfl) (fun v₁ hs => ?_) (fun v₁ a' v' hs hq => ?_) (fun v₁ a' v' todo hs hq => ?_)
  · simp only [flC1, flBody, Try.f3, Option.getD_some]
    by_cases hn : 1048576 < n
    · have q : decide ((1048576 : Int) < (n : Int)) = true := decide_eq_true (by omega)
      have q1 : (1048576 : Int) < (n : Int) := by omega
      go_wp2
    · have q : decide ((1048576 : Int) < (n : Int)) = false := decide_eq_false (by omega)
      have q1 : ¬ (1048576 : Int) < (n : Int) := by omega
      have q2 : n ≤ 1048576 := by omega
      go_wp2
  · obtain ⟨rfl, rfl⟩ := hq
    refine KV.heap (v := v) ?_ ⟨hs.heap.symm, hs.os.symm, hs.output.symm⟩
    clear hs v'
    refine KV.seqC anaA_good (Nm := fun v₁ a v' => ∃ cb A1 n1 c1 A2 n2 c2 room us, a = ⟨#[.slice A n c, undef, .bool false, .pointer (some ⟨cb, 0, none⟩), undef, undef, undef, undef, undef, .slice A n c, .int .i64 n, .bool false, .slice A n c, (.agg #[.slice A1 n1 c1, .slice A2 n2 c2]), undef, undef, undef, undef, undef, undef, undef, undef, undef, undef, undef, undef, undef, undef, undef, undef, undef, undef, undef, undef, undef, undef, undef, undef, undef, undef, undef, undef, undef, undef, undef, undef, undef, undef, undef, undef, undef, undef, undef, undef, undef, undef, undef, undef, undef, undef, undef, undef, undef, undef, undef, undef, undef, undef, undef, undef, undef, undef, undef, undef, undef, undef, undef, undef, undef, undef, undef, undef], []⟩ ∧ RdC v' A1 A2 n1 n2 room us ∧ ShU us ∧ Blk v' cb 26 #[.slice A1 n1 c1, .slice A2 n2 c2] ∧ GR v₁ v') (Rt := fun _ _ _ => False) (by kernel_rfl) (by kernel_rfl) rfl (by kernel_rfl) (fun v₁ hs => ?_) (fun v₁ a' v' hs hq => ?_) (fun _ _ _ _ _ h => h.elim)
    · exact fl_c3 A n c v₁ (fun hn => by
        obtain ⟨b, o, e1, e2, e3⟩ := h hn
        refine ⟨b, o, e1, by rw [hs.heap]; exact e2, fun j hj => ?_⟩
        obtain ⟨u, g1, g2, g3⟩ := e3 j hj
        exact ⟨u, g1, g2, (World.cell?_of_block (by rw [hs.heap])).trans g3⟩) hc hcm
    obtain ⟨cb, A1, n1, c1, A2, n2, c2, room, us, rfl, hr, hsu, hbox, hg⟩ := hq
    have hg2 : GR v v' := GR.from hs hg
    clear hg hs
    generalize v' = w2 at hg2 hbox hr ⊢
    refine KV.ctl rfl (fun w => stepG_seq) ?_
    refine KV.ctl rfl (fun w => stepG_region) ?_
    try simp only [flR, flBody, Try.f3, Option.getD_some]
    try simp only [List.size_toArray, List.length_cons, List.length_nil, Nat.reduceAdd, Nat.zero_add, List.range, List.range.loop]
    refine KV.op anaA_good rfl (by rfl) (by decide) (by kernel_rfl) (fun t => anaA.noTr_spec (by kernel_rfl) t) (fun v₁ hs K' hK' => ?_)
    have hbx := ViewOf_cells_of hbox hs.heap
    have x0 := hbx.cell 0
    have x1 := hbx.cell 1
    simp only [gT, gZ, gS] at x0 x1
    go_simp
    refine hK' _ _ ?_
    try walk_nrm
    clear x0 x1 hbx
    clear hK' K'
    refine KV.heap (v := w2) ?_ ⟨hs.heap.symm, hs.os.symm, hs.output.symm⟩
    clear hs v₁
    refine KV.callV rfl (by rfl) (by decide) rfl (Post := fun x v' => x = .int .i64 (loosestP room us) ∧ GR w2 v') ?_ (fun x v3 hp => ?_)
    · have hus := usageLoosest_v (H := H) (c1 := c1) (c2 := c2) hr hsu
      simpa [Act.eval, Act.put] using hus
    obtain ⟨rfl, hg3⟩ := hp
    try walk_nrm
    refine KV.op anaA_good rfl (by rfl) (by decide) (by kernel_rfl) (fun t => anaA.noTr_spec (by kernel_rfl) t) (fun v₁ hs K' hK' => ?_)
    go_simp
    refine hK' _ _ ?_
    try walk_nrm
    clear hK' K'
    refine KV.heap (v := v3) ?_ ⟨hs.heap.symm, hs.os.symm, hs.output.symm⟩
    clear hs v₁
    refine KV.ctl rfl (fun w => stepG_region_end) ?_
    have hg4 := hg2.trans hg3
    refine KV.endC anaA_good (Rt := fun v₁ a v' => a.defers = [] ∧ a.tmps.getD 2 undef = .bool true ∧ GR v₁ v') (by kernel_rfl) (by kernel_rfl) rfl (by kernel_rfl) (fun v₁ hs => ?_) (fun v₁ a' v' todo hs hq => ?_)
    · exact fl_end A A1 A2 n c n1 c1 n2 c2 cb room us v₁ ((hr.gr hg3).same hs.heap) hsu (ViewOf_cells_of (hbox.grr hg3) hs.heap)
    · obtain ⟨h1, h2, h3⟩ := hq
      exact ⟨_, a', todo, _, Try.func3, h1, rfl, resultsC_tmp rfl a'.tmps, h2, hg4.trans (GR.from hs h3)⟩
  · obtain ⟨h1, h2, rfl⟩ := hq
    exact ⟨_, a', todo, _, Try.func3, h1, rfl, resultsC_tmp rfl a'.tmps, h2, (GR.refl v).same hs⟩
end
end Go.Proofs.Ytlcgbnmmbheleaa
