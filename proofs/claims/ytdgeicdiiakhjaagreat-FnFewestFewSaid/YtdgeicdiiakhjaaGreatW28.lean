/- Several texts in one. -/
import Derived.Test.YtdgeicdiiakhjaaGreatW27
import Derived.Test.YtdgeicdiiakhjaaGreatW1
import Derived.ProofKit
import Derived.OpenShut
import Derived.ChangeOld
import Derived.Deep.Slices
import Derived.Test.YtdgeicdiiakhjaaGreatW5
import Derived.Test.YtdgeicdiiakhjaaGreatW6
import Derived.Test.YtdgeicdiiakhjaaGreatW9
namespace Go.Proofs.YtdgeicdiiakhjaaGreat
set_option linter.unusedSimpArgs false
set_option linter.unusedVariables false
open Go Go.RowKit
attribute [local go_sem ↓] Go.wp_at_zero Go.wp_at_succ

/-- Four ways, one after the other. -/
def wayP (room : List Int) (ts : List Tk) : Nat → List (List Tk)
  | 0 => allB (bestB room) ts
  | 1 => allB (firstB room) (sortP ts)
  | _ => allB (bestB room) (sortP ts)
def chainP (room : List Int) (ts : List Tk) : Nat → List (List Tk)
  | 0 => allB (firstB room) ts
  | k + 1 => lessB (chainP room ts k) (wayP room ts k)
theorem chain_all (room : List Int) (ts : List Tk) : chainP room ts 3 = fewP room ts := rfl

set_option maxRecDepth 100000 in
set_option maxHeartbeats 800000 in
theorem wayFirst_any (A1 A : Option Addr) (n1 c1 n c : Nat) (room : List Int) (ts : List Tk) (w : World) (h1 : RdI w w.heap.size A1 n1 room) (h : RdT w w.heap.size A n ts) (hok : tasksOk room ts = true) :
    Calls Tryz.prog 18 #[.agg #[.slice A1 n1 c1, .slice A n c]] w fun e w' => ∃ A' m c', e = .returned (.slice A' m c') ∧ OwnBR w' w.heap.size (.slice A' m c') m (allB (firstB room) ts) ∧ Below w.heap.size w w' := by
  have B1 := qh (alloc_up w (.cells #[.slice A1 n1 c1, .slice A n c] 35))
  have P1 := qh (Blk.new w 35 #[.slice A1 n1 c1, .slice A n c])
  have H1 := qh (h1.up B1.out)
  have H := qh (h.up B1.out)
  have Hok := qh hok
  have x0 := P1.out.cell 0
  have x1 := P1.out.cell 1
  simp only [gT, gZ, gS] at x0 x1
  clear h1 h hok
  go_enter Tryz.func18, Tryz.ntmps18
  go_wp2_with fail
  generalize w.alloc (.cells #[.slice A1 n1 c1, .slice A n c] 35) = w1 at B1 P1 H1 H x0 x1 ⊢
  refine (firstAllI_any A1 A n1 c1 n c room ts w1 H1.out H.out Hok.out).mono ?_; rintro e w2 ⟨A', m, c', rfl, hO, hb⟩
  have HO := qh hO
  have B2 := qh (B1.out.trans (hb.mono B1.out.size))
  clear hO hb
  go_wp2_with fail
  go_ret
  exact ⟨_, _, _, rfl, obr_low HO.out B1.out.size, B2.out⟩

set_option maxRecDepth 100000 in
set_option maxHeartbeats 800000 in
theorem wayBest_any (A1 A : Option Addr) (n1 c1 n c : Nat) (room : List Int) (ts : List Tk) (w : World) (h1 : RdI w w.heap.size A1 n1 room) (h : RdT w w.heap.size A n ts) (hok : tasksOk room ts = true) :
    Calls Tryz.prog 19 #[.agg #[.slice A1 n1 c1, .slice A n c]] w fun e w' => ∃ A' m c', e = .returned (.slice A' m c') ∧ OwnBR w' w.heap.size (.slice A' m c') m (wayP room ts 0) ∧ Below w.heap.size w w' := by
  have B1 := qh (alloc_up w (.cells #[.slice A1 n1 c1, .slice A n c] 35))
  have P1 := qh (Blk.new w 35 #[.slice A1 n1 c1, .slice A n c])
  have H1 := qh (h1.up B1.out)
  have H := qh (h.up B1.out)
  have Hok := qh hok
  have x0 := P1.out.cell 0
  have x1 := P1.out.cell 1
  simp only [gT, gZ, gS] at x0 x1
  clear h1 h hok
  go_enter Tryz.func19, Tryz.ntmps19
  go_wp2_with fail
  generalize w.alloc (.cells #[.slice A1 n1 c1, .slice A n c] 35) = w1 at B1 P1 H1 H x0 x1 ⊢
  refine (bestAllI_any A1 A n1 c1 n c room ts w1 H1.out H.out Hok.out).mono ?_; rintro e w2 ⟨A', m, c', rfl, hO, hb⟩
  have HO := qh hO
  have B2 := qh (B1.out.trans (hb.mono B1.out.size))
  clear hO hb
  go_wp2_with fail
  go_ret
  exact ⟨_, _, _, rfl, obr_low HO.out B1.out.size, B2.out⟩

set_option maxRecDepth 100000 in
set_option maxHeartbeats 800000 in
theorem wayDown_any (A1 A : Option Addr) (n1 c1 n c : Nat) (room : List Int) (ts : List Tk) (w : World) (h1 : RdI w w.heap.size A1 n1 room) (h : RdT w w.heap.size A n ts) (hok : tasksOk room ts = true) :
    Calls Tryz.prog 20 #[.agg #[.slice A1 n1 c1, .slice A n c]] w fun e w' => ∃ A' m c', e = .returned (.slice A' m c') ∧ OwnBR w' w.heap.size (.slice A' m c') m (wayP room ts 1) ∧ Below w.heap.size w w' := by
  have B1 := qh (alloc_up w (.cells #[.slice A1 n1 c1, .slice A n c] 35))
  have P1 := qh (Blk.new w 35 #[.slice A1 n1 c1, .slice A n c])
  have H1 := qh (h1.up B1.out)
  have H := qh (h.up B1.out)
  have Hok := qh hok
  have x0 := P1.out.cell 0
  have x1 := P1.out.cell 1
  simp only [gT, gZ, gS] at x0 x1
  clear h1 h hok
  go_enter Tryz.func20, Tryz.ntmps20
  go_wp2_with fail
  generalize w.alloc (.cells #[.slice A1 n1 c1, .slice A n c] 35) = w1 at B1 P1 H1 H x0 x1 ⊢
  refine (downAllI_any A1 A n1 c1 n c room ts w1 H1.out H.out Hok.out).mono ?_; rintro e w2 ⟨A', m, c', rfl, hO, hb⟩
  have HO := qh hO
  have B2 := qh (B1.out.trans (hb.mono B1.out.size))
  clear hO hb
  go_wp2_with fail
  go_ret
  exact ⟨_, _, _, rfl, obr_low HO.out B1.out.size, B2.out⟩

set_option maxRecDepth 100000 in
set_option maxHeartbeats 800000 in
theorem wayDownBest_any (A1 A : Option Addr) (n1 c1 n c : Nat) (room : List Int) (ts : List Tk) (w : World) (h1 : RdI w w.heap.size A1 n1 room) (h : RdT w w.heap.size A n ts) (hok : tasksOk room ts = true) :
    Calls Tryz.prog 21 #[.agg #[.slice A1 n1 c1, .slice A n c]] w fun e w' => ∃ A' m c', e = .returned (.slice A' m c') ∧ OwnBR w' w.heap.size (.slice A' m c') m (wayP room ts 2) ∧ Below w.heap.size w w' := by
  have B1 := qh (alloc_up w (.cells #[.slice A1 n1 c1, .slice A n c] 35))
  have P1 := qh (Blk.new w 35 #[.slice A1 n1 c1, .slice A n c])
  have H1 := qh (h1.up B1.out)
  have H := qh (h.up B1.out)
  have Hok := qh hok
  have x0 := P1.out.cell 0
  have x1 := P1.out.cell 1
  simp only [gT, gZ, gS] at x0 x1
  clear h1 h hok
  go_enter Tryz.func21, Tryz.ntmps21
  go_wp2_with fail
  generalize w.alloc (.cells #[.slice A1 n1 c1, .slice A n c] 35) = w1 at B1 P1 H1 H x0 x1 ⊢
  refine (downBestI_any A1 A n1 c1 n c room ts w1 H1.out H.out Hok.out).mono ?_; rintro e w2 ⟨A', m, c', rfl, hO, hb⟩
  have HO := qh hO
  have B2 := qh (B1.out.trans (hb.mono B1.out.size))
  clear hO hb
  go_wp2_with fail
  go_ret
  exact ⟨_, _, _, rfl, obr_low HO.out B1.out.size, B2.out⟩

set_option maxRecDepth 100000 in
set_option maxHeartbeats 3200000 in
theorem fewestI_any (A1 A : Option Addr) (n1 c1 n c : Nat) (room : List Int) (ts : List Tk) (w : World) (h1 : RdI w w.heap.size A1 n1 room) (h : RdT w w.heap.size A n ts) :
    Calls Tryz.prog 6 #[.slice A1 n1 c1, .slice A n c] w fun e w' => ∃ A' m c', e = .returned (.slice A' m c') ∧ RdB w' w'.heap.size A' m (fewAllP room ts) ∧ Below w.heap.size w w' := by
  have H1 := qh h1
  have H := qh h
  clear h1 h
  go_enter Tryz.func6, Tryz.ntmps6
  go_wp2_with fail
  refine (tasksValidI_any A1 A n1 c1 n c room ts w H1.out H.out).mono ?_; rintro e w1 ⟨rfl, hb⟩
  have B1 := qh hb
  have lz1 := hb.size
  clear hb
  cases hok : tasksOk room ts with
  | false =>
    have E0 := qh (show fewAllP room ts = [] by unfold fewAllP; rw [hok]; rfl)
    clear hok
    go_wp2_with fail
    go_ret
    exact ⟨none, 0, 0, rfl, by rw [E0.out]; exact RdB.nil, B1.out⟩
  | true =>
    have E0 := qh (show fewAllP room ts = chainP room ts 3 by unfold fewAllP; rw [hok]; rfl)
    have Hok := qh hok
    clear hok
    have al := alloc_up w1 (.cells #[.slice A1 n1 c1, .slice A n c] 35)
    have B2 := qh (B1.out.trans (al.mono lz1))
    have P2 := qh (Blk.new w1 35 #[.slice A1 n1 c1, .slice A n c])
    have x0 := P2.out.cell 0
    have x1 := P2.out.cell 1
    simp only [gT, gZ, gS] at x0 x1
    clear al
    go_wp2_with fail
    generalize w1.heap.size = gp at P2 x0 x1 ⊢
    generalize w1.alloc (.cells #[.slice A1 n1 c1, .slice A n c] 35) = w2 at B2 P2 x0 x1 ⊢
    have lz2 := B2.out.size
    have lgp := P2.out.lt
    refine (wayFirst_any A1 A n1 c1 n c room ts w2 (H1.out.up B2.out) (H.out.up B2.out) Hok.out).mono ?_; rintro e w3 ⟨A3, m3, c3, rfl, hO, hb⟩
    have O3 := qh hO
    have B3 := qh (B2.out.trans (hb.mono lz2))
    have P3 := qh (P2.out.below hb lgp)
    have lz3 := B3.out.size
    clear hO hb x0 x1
    have x0 := P3.out.cell 0
    have x1 := P3.out.cell 1
    simp only [gT, gZ, gS] at x0 x1
    have hmf : ∀ (fn : Fn) (first cap : Array Value) (w : World), (Instr.makeFunc fn first cap).run Tryz.prog w = .ok (.func fn first cap) w := fun _ _ _ _ => rfl
    have al := alloc_up w3 (.cells #[.func (.func 19) #[.agg #[.slice A1 n1 c1, .slice A n c]] #[], .func (.func 20) #[.agg #[.slice A1 n1 c1, .slice A n c]] #[], .func (.func 21) #[.agg #[.slice A1 n1 c1, .slice A n c]] #[]] 36)
    have P4 := qh (Blk.new w3 36 #[.func (.func 19) #[.agg #[.slice A1 n1 c1, .slice A n c]] #[], .func (.func 20) #[.agg #[.slice A1 n1 c1, .slice A n c]] #[], .func (.func 21) #[.agg #[.slice A1 n1 c1, .slice A n c]] #[]])
    have B4 := qh (B3.out.trans (al.mono lz3))
    have R4 := qh (obr_up O3.out al).rd
    have L4 := qh (obr_len O3.out)
    clear al
    go_wp2_with fail
    generalize w3.heap.size = gf at P4 ⊢
    generalize w3.alloc _ = w4 at P4 B4 R4 ⊢
    clear hmf x0 x1 P3 O3 B3 lz3 P2 B2 lz2 lgp
    have lgf := P4.out.lt
    have lz4 := B4.out.size
    go_loopw [6, 27] (fun v i wr => ∃ (k m cc : Nat) (Ab : Option Addr), i = .int .i64 (k : Int) ∧ k ≤ 3 ∧ v = .slice Ab m cc ∧ RdB wr wr.heap.size Ab m (chainP room ts k) ∧ (chainP room ts k).length = m ∧ Below w4.heap.size w4 wr) (fun _ i _ => 3 - (intOf i).toNat)
    case atStart => exact ⟨0, m3, c3, A3, rfl, Nat.zero_le _, rfl, R4.out, L4.out, Below.refl _ _⟩
    case round =>
      obtain ⟨k, m, cc, Ab, rfl, hk, rfl, hr, hm, hb⟩ := hrel
      have R := qh hr
      have M := qh hm
      have B := qh hb
      have BW := qh (B4.out.trans (hb.mono lz4))
      have PW := P4.out.below hb lgf
      have x0 := PW.cell 0
      have x1 := PW.cell 1
      have x2 := PW.cell 2
      simp only [gT, gZ, gS] at x0 x1 x2
      have lzr := hb.size
      clear hr hm hb PW
      rcases Nat.lt_or_ge k 3 with hlt | hlt
      · have step : ∀ (A5 : Option Addr) (m5 c5 : Nat) (w5 : World), OwnBR w5 wr.heap.size (.slice A5 m5 c5) m5 (wayP room ts k) → Below wr.heap.size wr w5 → ((m5 : Int) < (m : Int) → RdB w5 w5.heap.size A5 m5 (chainP room ts (k + 1)) ∧ (chainP room ts (k + 1)).length = m5) ∧ (¬ (m5 : Int) < (m : Int) → RdB w5 w5.heap.size Ab m (chainP room ts (k + 1)) ∧ (chainP room ts (k + 1)).length = m) ∧ Below w4.heap.size w4 w5 := by
          intro A5 m5 c5 w5 hO hb
          have hl := obr_len hO
          refine ⟨fun h => ?_, fun h => ?_, B.out.trans (hb.mono lzr)⟩
          · have e : chainP room ts (k + 1) = wayP room ts k := lessB_pos M.out hl (by omega)
            rw [e]; exact ⟨hO.rd, hl⟩
          · have e : chainP room ts (k + 1) = chainP room ts k := lessB_neg M.out hl (by omega)
            rw [e]; exact ⟨R.out.up hb, M.out⟩
        have Step := qh step
        clear step
        rcases (by omega : k = 0 ∨ k = 1 ∨ k = 2) with hk0 | hk1 | hk2
        · subst hk0
          go_wp2_with fail
          refine (wayBest_any A1 A n1 c1 n c room ts wr (H1.out.up BW.out) (H.out.up BW.out) Hok.out).mono ?_; rintro e w5 ⟨A5, m5, c5, rfl, hO, hb⟩
          obtain ⟨s1, s2, s3⟩ := Step.out A5 m5 c5 w5 hO hb
          have S1 := qh s1
          have S2 := qh s2
          have S3 := qh s3
          clear s1 s2 s3 hO hb x0 x1 x2
          by_cases hgt : (m5 : Int) < (m : Int)
          · go_wp2_with fail
            go_roundw
            case measure => simp [intOf]
            case rel => exact ⟨1, m5, c5, A5, by go_num, by omega, rfl, (S1.out hgt).1, (S1.out hgt).2, S3.out⟩
          · go_wp2_with fail
            go_roundw
            case measure => simp [intOf]
            case rel => exact ⟨1, m, cc, Ab, by go_num, by omega, rfl, (S2.out hgt).1, (S2.out hgt).2, S3.out⟩
        · subst hk1
          go_wp2_with fail
          refine (wayDown_any A1 A n1 c1 n c room ts wr (H1.out.up BW.out) (H.out.up BW.out) Hok.out).mono ?_; rintro e w5 ⟨A5, m5, c5, rfl, hO, hb⟩
          obtain ⟨s1, s2, s3⟩ := Step.out A5 m5 c5 w5 hO hb
          have S1 := qh s1
          have S2 := qh s2
          have S3 := qh s3
          clear s1 s2 s3 hO hb x0 x1 x2
          by_cases hgt : (m5 : Int) < (m : Int)
          · go_wp2_with fail
            go_roundw
            case measure => simp [intOf]
            case rel => exact ⟨2, m5, c5, A5, by go_num, by omega, rfl, (S1.out hgt).1, (S1.out hgt).2, S3.out⟩
          · go_wp2_with fail
            go_roundw
            case measure => simp [intOf]
            case rel => exact ⟨2, m, cc, Ab, by go_num, by omega, rfl, (S2.out hgt).1, (S2.out hgt).2, S3.out⟩
        · subst hk2
          go_wp2_with fail
          refine (wayDownBest_any A1 A n1 c1 n c room ts wr (H1.out.up BW.out) (H.out.up BW.out) Hok.out).mono ?_; rintro e w5 ⟨A5, m5, c5, rfl, hO, hb⟩
          obtain ⟨s1, s2, s3⟩ := Step.out A5 m5 c5 w5 hO hb
          have S1 := qh s1
          have S2 := qh s2
          have S3 := qh s3
          clear s1 s2 s3 hO hb x0 x1 x2
          by_cases hgt : (m5 : Int) < (m : Int)
          · go_wp2_with fail
            go_roundw
            case measure => simp [intOf]
            case rel => exact ⟨3, m5, c5, A5, by go_num, by omega, rfl, (S1.out hgt).1, (S1.out hgt).2, S3.out⟩
          · go_wp2_with fail
            go_roundw
            case measure => simp [intOf]
            case rel => exact ⟨3, m, cc, Ab, by go_num, by omega, rfl, (S2.out hgt).1, (S2.out hgt).2, S3.out⟩
      · obtain rfl : k = 3 := by omega
        go_wp2_with fail
        go_ret
        exact ⟨_, _, _, rfl, by rw [E0.out]; exact R.out, BW.out⟩
end Go.Proofs.YtdgeicdiiakhjaaGreat

namespace Go.Proofs.YtdgeicdiiakhjaaGreat
open Go.ChangeShapes Go.WideShapes Go.ChangeAt Go.RowKit Go.Deep

theorem own : ownKnob Tryz.prog.godebug = none := by kernel_rfl
theorem laidOut : laidOutB Tryz.prog = true := by kernel_rfl

theorem list_of {α : Type} (d : α) (n : Nat) (P : Nat → α → Prop) (h : ∀ i, i < n → ∃ x, P i x) : ∃ l : List α, l.length = n ∧ ∀ i, i < n → P i (l[i]?.getD d) := by
  refine ⟨(List.range n).map (fun i => if hi : i < n then Classical.choose (h i hi) else d), by simp, fun i hi => ?_⟩
  rw [List.getElem?_map, List.getElem?_range hi]
  simp only [Option.map_some, Option.getD_some, hi, dite_true]
  exact Classical.choose_spec (h i hi)

section
variable {H : Type} {enc : TypeId × Value → H} {P : Program} {w : World} {base : Nat} {spare : Nat → Bool} {held : Bool}

theorem addr_of {w : World} {a : Addr} {v : Value} (h : w.cell? a = some v) : ∃ b o, a = ⟨b, o, none⟩ ∧ b < w.heap.size := by
  obtain ⟨b, o, s⟩ := a
  have hs : s = none := World.cell?_spot h
  subst hs
  exact ⟨b, o, rfl, World.block_lt_of_cell? w _ h⟩
theorem addr_add' (b o j : Nat) : (⟨b, o, none⟩ : Addr).add j = ⟨b, o + j, none⟩ := by unfold Addr.add; split <;> simp_all
theorem add_zero' (a : Addr) : a.add 0 = a := by unfold Addr.add; simp

theorem rdI_of_trod {t e : TypeId} {fuel : Nat} {A : Option Addr} {n c : Nat} {x : DataW H × List MemPlace} (ht : P.underlying t = some (.slice e)) (he : P.underlying e = some (.int .i64)) (hC : P.cellsOf e = 1)
    (h : DataW.trod enc P w base spare held fuel t [.slice A n c] = some x) : n ≤ c ∧ ∃ xs, RdI w w.heap.size A n xs ∧ ∀ v ∈ xs, -9223372036854775808 ≤ v ∧ v ≤ 9223372036854775807 := by
  rcases open_ints ht he hC h with ⟨hcs, _⟩ | ⟨a, l, c', zs, hcs, _, hl, hm, hz, _, hcell, hwf⟩
  · simp only [List.cons.injEq, Value.slice.injEq, and_true] at hcs
    obtain ⟨rfl, rfl, rfl⟩ := hcs
    exact ⟨Nat.le_refl _, [], RdI.nil, by simp⟩
  · simp only [List.cons.injEq, Value.slice.injEq, and_true] at hcs
    obtain ⟨rfl, rfl, rfl⟩ := hcs
    have hzl : n ≤ zs.length := by rw [hz]; split <;> omega
    refine ⟨hl, zs.take n, ⟨by simp; omega, by unfold maxLen at hm; omega, fun hp => ?_⟩, fun v hv => ?_⟩
    · obtain ⟨b, o, rfl, hb⟩ := addr_of (w := w) (a := a) (by have := hcell 0 (by omega); rwa [add_zero'] at this)
      refine ⟨b, o, rfl, hb, fun j hj => ?_⟩
      have := hcell j (by omega)
      rw [addr_add'] at this
      rw [this]
      simp [hj, List.getD]
    · exact bounds_i64 (hwf v (List.mem_of_mem_take hv))

theorem rdT_of_trod {t e si : TypeId} {f0 f1 : Field} {fuel : Nat} {A : Option Addr} {n c : Nat} {x : DataW H × List MemPlace} (ht : P.underlying t = some (.slice e)) (he : P.underlying e = some (.struct #[f0, f1])) (hC : P.cellsOf e = 2)
    (hf0 : P.underlying f0.type = some (.int .i64)) (hC0 : P.cellsOf f0.type = 1) (ho0 : f0.offset = 0) (hf1 : P.underlying f1.type = some (.slice si)) (hC1 : P.cellsOf f1.type = 1) (ho1 : f1.offset = 1) (hsi : P.underlying si = some (.int .i64)) (hCi : P.cellsOf si = 1)
    (h : DataW.trod enc P w base spare held fuel t [.slice A n c] = some x) : n ≤ c ∧ ∃ ts, RdT w w.heap.size A n ts := by
  rcases open_slice ht h with ⟨hcs, _⟩ | ⟨a, l, c', m, q, D, Pl, hcs, _, hl, hm, hmm, _, hel⟩
  · simp only [List.cons.injEq, Value.slice.injEq, and_true] at hcs
    obtain ⟨rfl, rfl, rfl⟩ := hcs
    exact ⟨Nat.le_refl _, [], RdT.nil⟩
  · simp only [List.cons.injEq, Value.slice.injEq, and_true] at hcs
    obtain ⟨rfl, rfl, rfl⟩ := hcs
    have hnm : n ≤ m := by rw [hmm]; split <;> omega
    have key : ∀ i, i < n → ∃ t : Tk, ∃ A' m' c', w.cell? (a.add (i * 2)) = some (.int .i64 t.1) ∧ w.cell? ((a.add (i * 2)).add 1) = some (.slice A' m' c') ∧ m' ≤ c' ∧ RdI w w.heap.size A' m' t.2 := by
      intro i hi
      obtain ⟨cs', hc, ht'⟩ := hel i (by omega)
      rw [hC] at hc
      obtain ⟨ys, n', _, _, hlen, hyl, hf⟩ := DataW.trod_struct he ht'
      obtain ⟨_, hcl, hat⟩ := World.cells?_some hc
      obtain ⟨v0, v1, rfl⟩ : ∃ v0 v1, cs' = [v0, v1] := by
        match cs', hcl with
        | [v0, v1], _ => exact ⟨v0, v1, rfl⟩
      have g0 := hf 0 f0 rfl
      have g1 := hf 1 f1 rfl
      rw [ho0, hC0] at g0
      rw [ho1, hC1] at g1
      simp only [List.drop_zero, List.drop_succ_cons, List.take_succ_cons, List.take_zero] at g0 g1
      rw [List.getElem?_eq_getElem (by rw [hyl]; simp)] at g0 g1
      obtain ⟨id, e0, _, _⟩ := DataW.trod_int hf0 g0
      simp only [List.cons.injEq, and_true] at e0
      subst e0
      obtain ⟨A', m', c', rfl⟩ : ∃ A' m' c', v1 = .slice A' m' c' := by
        rcases open_slice hf1 g1 with ⟨hcs, _⟩ | ⟨a', l', c'', _, _, _, _, hcs, _⟩
        · simp only [List.cons.injEq, and_true] at hcs; exact ⟨_, _, _, hcs⟩
        · simp only [List.cons.injEq, and_true] at hcs; exact ⟨_, _, _, hcs⟩
      obtain ⟨hmc, xs, hx, _⟩ := rdI_of_trod hf1 hsi hCi g1
      refine ⟨(id, xs), A', m', c', ?_, ?_, hmc, hx⟩
      · have := hat 0 (by omega); rw [add_zero'] at this; exact this
      · exact hat 1 (by omega)
    obtain ⟨ts, hl', hts⟩ := list_of (0, []) n _ key
    refine ⟨hl, ts, hl', by unfold maxLen at hm; omega, fun hp => ?_⟩
    obtain ⟨_, _, _, h0, _⟩ := hts 0 hp
    obtain ⟨b, o, rfl, hb⟩ := addr_of (w := w) (a := a) (by rw [Nat.zero_mul, add_zero'] at h0; exact h0)
    refine ⟨b, o, rfl, hb, fun j hj => ?_⟩
    obtain ⟨A', m', c', e0, e1, e2, e3⟩ := hts j hj
    rw [addr_add'] at e0
    rw [addr_add', addr_add'] at e1
    exact ⟨A', m', c', e0, e1, e2, e3⟩

theorem rdB_of_trod {t t' e si : TypeId} {f0 f1 : Field} {fuel : Nat} {A : Option Addr} {n c : Nat} {x : DataW H × List MemPlace} (ht : P.underlying t = some (.slice t')) (hCt : P.cellsOf t' = 1) (ht' : P.underlying t' = some (.slice e)) (he : P.underlying e = some (.struct #[f0, f1])) (hC : P.cellsOf e = 2)
    (hf0 : P.underlying f0.type = some (.int .i64)) (hC0 : P.cellsOf f0.type = 1) (ho0 : f0.offset = 0) (hf1 : P.underlying f1.type = some (.slice si)) (hC1 : P.cellsOf f1.type = 1) (ho1 : f1.offset = 1) (hsi : P.underlying si = some (.int .i64)) (hCi : P.cellsOf si = 1)
    (h : DataW.trod enc P w base spare held fuel t [.slice A n c] = some x) : n ≤ c ∧ ∃ bs, RdB w w.heap.size A n bs := by
  rcases open_slice ht h with ⟨hcs, _⟩ | ⟨a, l, c', m, q, D, Pl, hcs, _, hl, hm, hmm, _, hel⟩
  · simp only [List.cons.injEq, Value.slice.injEq, and_true] at hcs
    obtain ⟨rfl, rfl, rfl⟩ := hcs
    exact ⟨Nat.le_refl _, [], RdB.nil⟩
  · simp only [List.cons.injEq, Value.slice.injEq, and_true] at hcs
    obtain ⟨rfl, rfl, rfl⟩ := hcs
    have hnm : n ≤ m := by rw [hmm]; split <;> omega
    have key : ∀ i, i < n → ∃ ts : List Tk, ∃ A' m' c', w.cell? (a.add i) = some (.slice A' m' c') ∧ m' ≤ c' ∧ RdT w w.heap.size A' m' ts := by
      intro i hi
      obtain ⟨cs', hc, hh⟩ := hel i (by omega)
      rw [hCt, Nat.mul_one] at hc
      obtain ⟨_, hcl, hat⟩ := World.cells?_some hc
      obtain ⟨v0, rfl⟩ : ∃ v0, cs' = [v0] := by
        match cs', hcl with
        | [v0], _ => exact ⟨v0, rfl⟩
      obtain ⟨A', m', c', rfl⟩ : ∃ A' m' c', v0 = .slice A' m' c' := by
        rcases open_slice ht' hh with ⟨hcs, _⟩ | ⟨a', l', c'', _, _, _, _, hcs, _⟩
        · simp only [List.cons.injEq, and_true] at hcs; exact ⟨_, _, _, hcs⟩
        · simp only [List.cons.injEq, and_true] at hcs; exact ⟨_, _, _, hcs⟩
      obtain ⟨hmc, ts, hx⟩ := rdT_of_trod ht' he hC hf0 hC0 ho0 hf1 hC1 ho1 hsi hCi hh
      refine ⟨ts, A', m', c', ?_, hmc, hx⟩
      have := hat 0 (by omega); rw [add_zero'] at this; exact this
    obtain ⟨bs, hl', hbs⟩ := list_of [] n _ key
    refine ⟨hl, bs, hl', by unfold maxLen at hm; omega, fun hp => ?_⟩
    obtain ⟨_, _, _, h0, _⟩ := hbs 0 hp
    obtain ⟨b, o, rfl, hb⟩ := addr_of (w := w) (a := a) (by rw [add_zero'] at h0; exact h0)
    refine ⟨b, o, rfl, hb, fun j hj => ?_⟩
    obtain ⟨A', m', c', e0, e2, e3⟩ := hbs j hj
    rw [addr_add'] at e0
    exact ⟨A', m', c', e0, e2, e3⟩
end
end Go.Proofs.YtdgeicdiiakhjaaGreat

namespace Go.Proofs.YtdgeicdiiakhjaaGreat
open Go.ChangeShapes Go.WideShapes Go.ChangeAt Go.RowKit Go.Deep

theorem rdU_of_trod {H : Type} {enc : TypeId × Value → H} {P : Program} {w : World} {base : Nat} {spare : Nat → Bool} {held : Bool} {t e : TypeId} {fuel : Nat} {A : Option Addr} {n c : Nat} {x : DataW H × List MemPlace} (ht : P.underlying t = some (.slice e)) (he : P.underlying e = some (.int .u8)) (hC : P.cellsOf e = 1)
    (h : DataW.trod enc P w base spare held fuel t [.slice A n c] = some x) : n ≤ c ∧ c ≤ 9223372036854775807 ∧ RdU w w.heap.size A n := by
  rcases open_ints ht he hC h with ⟨hcs, _⟩ | ⟨a, l, c', zs, hcs, _, hl, hm, hz, _, hcell, hwf⟩
  · simp only [List.cons.injEq, Value.slice.injEq, and_true] at hcs
    obtain ⟨rfl, rfl, rfl⟩ := hcs
    exact ⟨Nat.le_refl _, by omega, fun h => absurd h (by omega)⟩
  · simp only [List.cons.injEq, Value.slice.injEq, and_true] at hcs
    obtain ⟨rfl, rfl, rfl⟩ := hcs
    have hzl : n ≤ zs.length := by rw [hz]; split <;> omega
    refine ⟨hl, by unfold maxLen at hm; omega, fun hp => ?_⟩
    obtain ⟨b, o, rfl, hb⟩ := addr_of (w := w) (a := a) (by have := hcell 0 (by omega); rwa [add_zero'] at this)
    refine ⟨b, o, rfl, hb, fun j hj => ?_⟩
    have h1 := hcell j (by omega)
    rw [addr_add'] at h1
    have h2 := range_u8 hwf j
    refine ⟨zs.getD j 0, ?_, ?_, h1⟩
    · simpa [List.getD] using h2.1
    · simpa [List.getD] using h2.2
end Go.Proofs.YtdgeicdiiakhjaaGreat

namespace Go.Proofs.YtdgeicdiiakhjaaGreat
set_option linter.unusedSimpArgs false
set_option linter.unusedVariables false
open Go Go.RowKit

set_option maxRecDepth 100000 in
set_option maxHeartbeats 800000 in
theorem l91Many_any (g p : Nat) (w : World) (h : Rdr w g p) (hp : p ≤ 900000) :
    Calls Tryz.prog 43 #[.pointer (some ⟨g, 0, none⟩)] w fun e w' => ∃ n : Nat, e = .returned (.int .i64 (n : Int)) ∧ n ≤ 15 ∧ OnlyG w w' g ∧ ∃ q, q ≤ p + 2 ∧ Rdr w' g q := by
  go_enter Tryz.func43, Tryz.ntmps43
  go_wp2_with fail
  refine (pick_at 16 h rfl (by omega) (by omega) (by omega)).mono ?_; rintro e w1 ⟨r1, rfl, hr1, R1, O1⟩
  by_cases h0 : r1 = 0
  · subst h0
    go_wp2_with fail
    refine (pick_at 2 R1 rfl (by omega) (by omega) (by omega)).mono ?_; rintro e w2 ⟨r2, rfl, hr2, R2, O2⟩
    have v1 : IntKind.i64.wrap (14 + (r2 : Int)) = ((14 + r2 : Nat) : Int) := by rw [wr64 (by omega) (by omega)]; omega
    go_wp2_with fail
    go_ret
    exact ⟨14 + r2, rfl, by omega, O1.trans O2, _, by omega, R2⟩
  · have e4 : ((r1 : Int) == 0) = false := by simp; omega
    go_wp2_with fail
    refine (pick_at 11 R1 rfl (by omega) (by omega) (by omega)).mono ?_; rintro e w2 ⟨r2, rfl, hr2, R2, O2⟩
    go_wp2_with fail
    go_ret
    exact ⟨r2, rfl, by omega, O1.trans O2, _, by omega, R2⟩

/-- Drawn tasks read. -/
theorem TkN.rdT {w : World} {lo base k c : Nat} {A : Option Addr} {vs : List Value} (h : TkN w lo k vs) (ho : w.ownsRow base 43 2 (.slice A k c) k vs) (hk : k ≤ 1000) : ∃ ts : List Tk, RdT w w.heap.size A k ts := by
  obtain ⟨ts, h1, h2, h3⟩ := h.read
  exact ⟨ts, RdT.of_own ho h2 (Nat.le_refl _) (by omega)⟩

set_option maxRecDepth 100000 in
set_option maxHeartbeats 1600000 in
theorem drawTasksValid_any (A : Option Addr) (n c : Nat) (w : World) (h : RdU w w.heap.size A n) (hc : n ≤ c) (hcm : c ≤ 9223372036854775807) :
    Calls Tryz.prog 16 #[.slice A n c] w fun e w' => ∃ A1 A2 n2 c2 room ts, e = .returned (.tuple #[.slice A1 3 3, .slice A2 n2 c2]) ∧ RdI w' w'.heap.size A1 3 room ∧ RdT w' w'.heap.size A2 n2 ts ∧ n2 ≤ 16 ∧ n2 ≤ c2 ∧ Below w.heap.size w w' := by
  go_enter Tryz.func16, Tryz.ntmps16
  go_wp2_with fail
  refine (l6Open_any A n c w h hc hcm).mono ?_; rintro e w1 ⟨rfl, R1, B1⟩
  go_wp2_with fail
  refine (l91Room_any w.heap.size 0 w1 R1 (by omega)).mono ?_; rintro e w2 ⟨rb, xs, rfl, hI, hl3, hbd, O2, q2, hq2, R2⟩
  go_wp2_with fail
  refine (l91Many_any w.heap.size q2 w2 R2 (by omega)).mono ?_; rintro e w3 ⟨k, rfl, hk, O3, q3, hq3, R3⟩
  go_wp2_with fail
  refine (l91Tasks_any w.heap.size q3 k w3 R3 (by omega) (by omega)).mono ?_; rintro e w4 ⟨A4, m, c4, vs, rfl, hm, hown, htk, O4, q4, hq4, R4⟩
  obtain ⟨ts, hts⟩ := htk.rdT hown (by omega)
  have lw := R1.lt
  have hcap := own_cap' hown
  have hI4 : OwI w4 w1.heap.size rb xs := ⟨hI.1, (O3.trans O4).blk hI.2 (by have := hI.1; omega)⟩
  have Hr := qh (OwI.rd' hI4 hl3 (by omega))
  have HT := qh hts
  have HB := qh (((O2.trans O3).trans O4).to_below B1 (Nat.le_refl _))
  clear hI hbd O2 O3 O4 R1 R2 R3 R4 B1 h hown htk hts hI4
  go_wp2
  refine bodyPost_ret (v := .tuple #[.slice (some ⟨rb, 0, none⟩) 3 3, .slice A4 m c4]) (by simp [results, Tryz.results16, go_sem]) rfl ⟨_, A4, m, c4, xs, ts, rfl, Hr.out, HT.out, by omega, hcap, HB.out⟩

set_option maxRecDepth 100000 in
set_option maxHeartbeats 800000 in
theorem drawFewestAll_any (A : Option Addr) (n c : Nat) (w : World) (h : RdU w w.heap.size A n) (hc : n ≤ c) (hcm : c ≤ 9223372036854775807) :
    Calls Tryz.prog 5 #[.slice A n c] w fun e w' => ∃ A1 A2 n2 c2 room ts, e = .returned (.tuple #[.slice A1 3 3, .slice A2 n2 c2]) ∧ RdI w' w'.heap.size A1 3 room ∧ RdT w' w'.heap.size A2 n2 ts ∧ n2 ≤ 16 ∧ n2 ≤ c2 ∧ Below w.heap.size w w' := by
  go_enter Tryz.func5, Tryz.ntmps5
  go_wp2_with fail
  refine (drawTasksValid_any A n c w h hc hcm).mono ?_; rintro e w1 ⟨A1, A2, n2, c2, room, ts, rfl, h1, h2, h3, h4, hB⟩
  have H1 := qh h1
  have H2 := qh h2
  have HB := qh hB
  clear h1 h2 hB h
  go_wp2
  refine bodyPost_ret (v := .tuple #[.slice A1 3 3, .slice A2 n2 c2]) (by simp [results, Tryz.results5, go_sem]) rfl ⟨A1, A2, n2, c2, room, ts, rfl, H1.out, H2.out, h3, h4, HB.out⟩
end Go.Proofs.YtdgeicdiiakhjaaGreat
