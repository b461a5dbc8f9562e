/- Several texts in one. -/
import Derived.Recover
import Derived.Test.YtdkhdfedejbicaaGreatDoorS2
import Derived.Laws.EntriesVeiled
import Derived.Test.YtdkhdfedejbicaaGreatDoorScSh
import Derived.Test.YtdkhdfedejbicaaGreatDoorShelf
namespace Go.Proofs.YtdkhdfedejbicaaGreatDoor
set_option linter.unusedSimpArgs false
set_option linter.unusedVariables false
open Go Go.RowKit
attribute [local go_sem ↓] Go.wp_at_zero Go.wp_at_succ

def badP : Ending := .panicked [{ v := .iface 69 (.agg #[]), recovered := false }]

set_option maxRecDepth 100000 in
set_option maxHeartbeats 3200000 in
theorem numberWord_any (s : ByteArray) (w : World) :
    Calls Tryz.prog 43 #[.string s] w fun e w' => ((∃ n, numP s.data.toList = some n ∧ e = .returned (.int .i64 n)) ∨ (numP s.data.toList = none ∧ e = badP)) ∧ w' = w := by
  have hsz := Lib.size_eq s
  have hg : ∀ (q : Nat) (hq : q < s.size), s[q] = s.data.toList[q]?.getD 0 := fun q hq => (get_list s hq).symm
  have Hg := qh hg
  have Hsz := qh hsz
  clear hg hsz
  generalize hwd : s.data.toList = wd at *
  clear hwd

  by_cases hq : 1 ≤ wd.length ∧ wd.length ≤ 2
  · have hz0' : (0 : Int) < (s.size : Int) := by have := Hsz.out; omega
    have hz0n : 0 < s.size := by have := Hsz.out; omega
    have e0 := Hg.out 0 hz0n
    have c1 : ¬ (s.size : Int) < 1 := by omega
    have c2 : ¬ (2 : Int) < (s.size : Int) := by have := Hsz.out; omega
    by_cases hz : wd.length = 2 ∧ wd[0]?.getD 0 = 48
    · have NN := qh (num_zero hz.1 hz.2)
      have t1 : ((s.size : Int) == 2) = true := by have := Hsz.out; simp; omega
      have t2 : ((s[0].toNat : Int) == 48) = true := by rw [e0, hz.2]; rfl
      clear e0 hz
      go_enter Tryz.func43, Tryz.ntmps43
      go_wp2
      exact ⟨rfl, .inr ⟨NN.out, rfl⟩, rfl⟩
    · by_cases h2 : wd.length = 2
      · have t1 : ((s.size : Int) == 2) = true := by have := Hsz.out; simp; omega
        have t2 : ((s[0].toNat : Int) == 48) = false := by
          have h4 : s[0] ≠ 48 := fun e => hz ⟨h2, by rw [← e0]; exact e⟩
          have h5 : s[0].toNat ≠ 48 := fun e => h4 (UInt8.toNat_inj.1 (by rw [e]; rfl))
          simp; omega
        clear e0 h2
        go_enter Tryz.func43, Tryz.ntmps43
        go_wp2
        clear t1 t2 c1 c2
        go_loopw [3, 27] (fun v i wr => ∃ q : Nat, i = .int .i64 (q : Int) ∧ q ≤ s.size ∧ v = .int .i64 (numV (wd.take q)) ∧ (∀ x ∈ wd.take q, isDig x = true) ∧ wr = w) (fun _ i _ => s.size - (intOf i).toNat)
        case atStart => exact ⟨0, rfl, Nat.zero_le _, rfl, fun x hx => by simp at hx, rfl⟩
        case round =>
          obtain ⟨q, rfl, hq9, rfl, hdig, rfl⟩ := hrel
          have HD := qh hdig
          clear hdig
          by_cases hql : q < s.size
          · have q1 : (0 : Int) ≤ (q : Int) := by omega
            have q2 : (q : Int) < (s.size : Int) := by omega
            have hqw : q < wd.length := by have := Hsz.out; omega
            have eg := Hg.out q hql
            have hnb := numV_bd (wd.take q) (by rw [List.length_take]; omega) HD.out
            have Hdg := qh (fun (hN : isDig (wd[q]?.getD 0) = false) => num_dig hqw hN)
            have Hsn := qh (show wd.take (q + 1) = wd.take q ++ [wd[q]?.getD 0] from take_snoc0 wd hqw)
            rw [← eg] at Hdg Hsn
            have hb0 : s[q].toNat < 256 := UInt8.toNat_lt _
            by_cases hlo : s[q].toNat < 48
            · have NN := qh (Hdg.out (by unfold isDig; exact decide_eq_false (by omega)))
              have t1 : (s[q].toNat : Int) < 48 := by omega
              clear Hdg Hsn eg
              go_wp2_with fail
              exact ⟨rfl, .inr ⟨NN.out, rfl⟩, rfl⟩
            · by_cases hhi : 57 < s[q].toNat
              · have NN := qh (Hdg.out (by unfold isDig; exact decide_eq_false (by omega)))
                have t1 : ¬ (s[q].toNat : Int) < 48 := by omega
                have t2 : (57 : Int) < (s[q].toNat : Int) := by omega
                clear Hdg Hsn eg
                go_wp2_with fail
                exact ⟨rfl, .inr ⟨NN.out, rfl⟩, rfl⟩
              · have t1 : ¬ (s[q].toNat : Int) < 48 := by omega
                have t2 : ¬ (57 : Int) < (s[q].toNat : Int) := by omega
                have hdq : isDig s[q] = true := by unfold isDig; exact decide_eq_true (by omega)
                have Hd2 := qh (show ∀ x ∈ wd.take (q + 1), isDig x = true from by
                  rw [Hsn.out]
                  intro x hx
                  rcases List.mem_append.1 hx with hx | hx
                  · exact HD.out x hx
                  · rw [List.mem_singleton] at hx; rw [hx]; exact hdq)
                have Hnv := qh (show numV (wd.take (q + 1)) = 10 * numV (wd.take q) + ((s[q].toNat : Int) - 48) from by rw [Hsn.out, numV_snoc]; rfl)
                have u1 : IntKind.u8.wrap ((s[q].toNat : Int) - 48) = (s[q].toNat : Int) - 48 := by rw [IntKind.wrap_u8]; omega
                have u2 : IntKind.i64.wrap (10 * numV (wd.take q)) = 10 * numV (wd.take q) := wr64 (by omega) (by omega)
                have u3 : IntKind.i64.wrap ((s[q].toNat : Int) - 48) = (s[q].toNat : Int) - 48 := wr64 (by omega) (by omega)
                have u4 : IntKind.i64.wrap (10 * numV (wd.take q) + ((s[q].toNat : Int) - 48)) = 10 * numV (wd.take q) + ((s[q].toNat : Int) - 48) := wr64 (by omega) (by omega)
                have u5 : IntKind.i64.wrap ((q : Int) + 1) = (q : Int) + 1 := wr64 (by omega) (by omega)
                clear Hdg Hsn eg hdq
                generalize numV (wd.take q) = nv at *
                go_wp2_with fail
                go_roundw
                case measure => simp [intOf]; omega
                case rel => exact ⟨q + 1, by go_num, by omega, by rw [Hnv.out], Hd2.out, trivial⟩
          · obtain rfl : q = s.size := by omega
            have et : wd.take s.size = wd := List.take_of_length_le (by have := Hsz.out; omega)
            rw [et] at HD ⊢
            have Nx := qh (num_some hq hz HD.out)
            clear et
            go_wp2_with fail
            refine bodyPost_ret (v := .int .i64 (numV wd)) (by simp [results, Tryz.results43, go_sem]) rfl ⟨.inl ⟨_, Nx.out, rfl⟩, rfl⟩

      · have t1 : ((s.size : Int) == 2) = false := by have := Hsz.out; simp; omega
        clear e0 h2
        go_enter Tryz.func43, Tryz.ntmps43
        go_wp2
        clear t1 c1 c2
        go_loopw [3, 27] (fun v i wr => ∃ q : Nat, i = .int .i64 (q : Int) ∧ q ≤ s.size ∧ v = .int .i64 (numV (wd.take q)) ∧ (∀ x ∈ wd.take q, isDig x = true) ∧ wr = w) (fun _ i _ => s.size - (intOf i).toNat)
        case atStart => exact ⟨0, rfl, Nat.zero_le _, rfl, fun x hx => by simp at hx, rfl⟩
        case round =>
          obtain ⟨q, rfl, hq9, rfl, hdig, rfl⟩ := hrel
          have HD := qh hdig
          clear hdig
          by_cases hql : q < s.size
          · have q1 : (0 : Int) ≤ (q : Int) := by omega
            have q2 : (q : Int) < (s.size : Int) := by omega
            have hqw : q < wd.length := by have := Hsz.out; omega
            have eg := Hg.out q hql
            have hnb := numV_bd (wd.take q) (by rw [List.length_take]; omega) HD.out
            have Hdg := qh (fun (hN : isDig (wd[q]?.getD 0) = false) => num_dig hqw hN)
            have Hsn := qh (show wd.take (q + 1) = wd.take q ++ [wd[q]?.getD 0] from take_snoc0 wd hqw)
            rw [← eg] at Hdg Hsn
            have hb0 : s[q].toNat < 256 := UInt8.toNat_lt _
            by_cases hlo : s[q].toNat < 48
            · have NN := qh (Hdg.out (by unfold isDig; exact decide_eq_false (by omega)))
              have t1 : (s[q].toNat : Int) < 48 := by omega
              clear Hdg Hsn eg
              go_wp2_with fail
              exact ⟨rfl, .inr ⟨NN.out, rfl⟩, rfl⟩
            · by_cases hhi : 57 < s[q].toNat
              · have NN := qh (Hdg.out (by unfold isDig; exact decide_eq_false (by omega)))
                have t1 : ¬ (s[q].toNat : Int) < 48 := by omega
                have t2 : (57 : Int) < (s[q].toNat : Int) := by omega
                clear Hdg Hsn eg
                go_wp2_with fail
                exact ⟨rfl, .inr ⟨NN.out, rfl⟩, rfl⟩
              · have t1 : ¬ (s[q].toNat : Int) < 48 := by omega
                have t2 : ¬ (57 : Int) < (s[q].toNat : Int) := by omega
                have hdq : isDig s[q] = true := by unfold isDig; exact decide_eq_true (by omega)
                have Hd2 := qh (show ∀ x ∈ wd.take (q + 1), isDig x = true from by
                  rw [Hsn.out]
                  intro x hx
                  rcases List.mem_append.1 hx with hx | hx
                  · exact HD.out x hx
                  · rw [List.mem_singleton] at hx; rw [hx]; exact hdq)
                have Hnv := qh (show numV (wd.take (q + 1)) = 10 * numV (wd.take q) + ((s[q].toNat : Int) - 48) from by rw [Hsn.out, numV_snoc]; rfl)
                have u1 : IntKind.u8.wrap ((s[q].toNat : Int) - 48) = (s[q].toNat : Int) - 48 := by rw [IntKind.wrap_u8]; omega
                have u2 : IntKind.i64.wrap (10 * numV (wd.take q)) = 10 * numV (wd.take q) := wr64 (by omega) (by omega)
                have u3 : IntKind.i64.wrap ((s[q].toNat : Int) - 48) = (s[q].toNat : Int) - 48 := wr64 (by omega) (by omega)
                have u4 : IntKind.i64.wrap (10 * numV (wd.take q) + ((s[q].toNat : Int) - 48)) = 10 * numV (wd.take q) + ((s[q].toNat : Int) - 48) := wr64 (by omega) (by omega)
                have u5 : IntKind.i64.wrap ((q : Int) + 1) = (q : Int) + 1 := wr64 (by omega) (by omega)
                clear Hdg Hsn eg hdq
                generalize numV (wd.take q) = nv at *
                go_wp2_with fail
                go_roundw
                case measure => simp [intOf]; omega
                case rel => exact ⟨q + 1, by go_num, by omega, by rw [Hnv.out], Hd2.out, trivial⟩
          · obtain rfl : q = s.size := by omega
            have et : wd.take s.size = wd := List.take_of_length_le (by have := Hsz.out; omega)
            rw [et] at HD ⊢
            have Nx := qh (num_some hq hz HD.out)
            clear et
            go_wp2_with fail
            refine bodyPost_ret (v := .int .i64 (numV wd)) (by simp [results, Tryz.results43, go_sem]) rfl ⟨.inl ⟨_, Nx.out, rfl⟩, rfl⟩

  · have NN := qh (num_len hq)
    by_cases c1 : (s.size : Int) < 1
    · go_enter Tryz.func43, Tryz.ntmps43
      go_wp2
      exact ⟨rfl, .inr ⟨NN.out, rfl⟩, rfl⟩
    · have c2 : (2 : Int) < (s.size : Int) := by have := Hsz.out; omega
      go_enter Tryz.func43, Tryz.ntmps43
      go_wp2
      exact ⟨rfl, .inr ⟨NN.out, rfl⟩, rfl⟩
end Go.Proofs.YtdkhdfedejbicaaGreatDoor

namespace Go.Proofs.YtdkhdfedejbicaaGreatDoor
set_option linter.unusedSimpArgs false
set_option linter.unusedVariables false
open Go Go.RowKit
attribute [local go_sem ↓] Go.wp_at_zero Go.wp_at_succ

set_option maxRecDepth 100000 in
set_option maxHeartbeats 3200000 in
theorem catch_idle (p : Addr) (w : World) :
    CallsD Tryz.prog 41 #[.pointer (some p)] .returning w fun e u' w' => e = .returned (.tuple #[]) ∧ u' = .returning ∧ w' = w := by
  refine callsD_of_wpS Tryz.func41 rfl fun c₀ cs hu => ?_
  apply wpS_seq
  apply wpS_region
  simp [wpOpsS, go_sem, recoverD, hu, Tryz.ntmps41, Exit.thenS]
  apply wpS_of_wp
  go_wp2
  cases c₀
  simp_all [bodyPostS, results, Tryz.results41]

set_option maxRecDepth 100000 in
set_option maxHeartbeats 3200000 in
theorem catch_bad (b : Nat) (w : World) (v : Value) (hb : b < w.heap.size) (hc : w.cell? ⟨b, 0, none⟩ = some v) (hz : w.frozen? ⟨b, 0, none⟩ = false) :
    CallsD Tryz.prog 41 #[.pointer (some ⟨b, 0, none⟩)] (.panicking [{ v := .iface 69 (.agg #[]), recovered := false }]) w fun e u' w' =>
      e = .returned (.tuple #[]) ∧ u' = .panicking [{ v := .iface 69 (.agg #[]), recovered := true }] ∧ w' = (w.setCell ⟨b, 0, none⟩ (.string ⟨#[119, 104, 97, 116, 10]⟩)).alloc (.cells #[] 69) := by
  have hc2 : (w.alloc (.cells #[] 69)).cell? ⟨b, 0, none⟩ = some v := by rw [World.cell?_alloc_past _ _ _ hb]; exact hc
  have hz2 : (w.alloc (.cells #[] 69)).frozen? ⟨b, 0, none⟩ = false := (frozen?_alloc_cells w _ _ _).trans hz
  have hta : ∀ w : World, (Instr.typeAssert (.iface 69 (.agg #[])) 20 69 true).run Tryz.prog w = .ok (.tuple #[.agg #[], .bool true]) w := fun _ => by kernel_rfl
  refine callsD_of_wpS Tryz.func41 rfl fun c₀ cs hu => ?_
  apply wpS_seq
  apply wpS_region
  simp [wpOpsS, go_sem, recoverD, hu, Tryz.ntmps41, Exit.thenS]
  apply wpS_of_wp
  go_wp2
  cases c₀
  simp_all [bodyPostS, results, Tryz.results41]
end Go.Proofs.YtdkhdfedejbicaaGreatDoor

namespace Go.Proofs.YtdkhdfedejbicaaGreatDoor
set_option linter.unusedSimpArgs false
set_option linter.unusedVariables false
open Go Go.RowKit
attribute [local go_sem ↓] Go.wp_at_zero Go.wp_at_succ

set_option maxRecDepth 100000 in
set_option maxHeartbeats 3200000 in
theorem plain_any (k : Int) (w : World) :
    Calls Tryz.prog 40 #[.int .i64 k] w fun e w' => e = .returned (.agg #[.int .i64 1, .func (.func 65) #[] #[.pointer (some ⟨w.heap.size, 0, none⟩)]]) ∧ Blk w' w.heap.size 3 #[.int .i64 k] ∧ Below w.heap.size w w' := by
  have hmf : ∀ (fn : Fn) (first cap : Array Value) (w : World), (Instr.makeFunc fn first cap).run Tryz.prog w = .ok (.func fn first cap) w := fun _ _ _ _ => rfl
  go_enter Tryz.func40, Tryz.ntmps40
  go_wp2
  refine bodyPost_ret (v := .agg #[.int .i64 1, .func (.func 65) #[] #[.pointer (some ⟨w.heap.size, 0, none⟩)]]) (by simp [results, Tryz.results40, go_sem]) rfl ⟨rfl, (Blk.new w _ _).alloc _, ((Below.refl _ w).alloc (Nat.le_refl _) _).alloc (by simp) _⟩

set_option maxRecDepth 100000 in
set_option maxHeartbeats 3200000 in
theorem codeWords_any (w : World) :
    Calls Tryz.prog 45 #[] w fun e w' => e = .returned (.agg #[.string ⟨#[100, 111, 110, 101]⟩, .string ⟨#[98, 97, 100]⟩, .string ⟨#[116, 119, 105, 99, 101]⟩, .string ⟨#[102, 117, 108, 108]⟩, .string ⟨#[110, 111, 110, 101]⟩, .string ⟨#[98, 117, 115, 121]⟩]) ∧ Below w.heap.size w w' := by
  go_enter Tryz.func45, Tryz.ntmps45
  go_wp2
  exact bodyPost_ret (v := .agg #[.string ⟨#[100, 111, 110, 101]⟩, .string ⟨#[98, 97, 100]⟩, .string ⟨#[116, 119, 105, 99, 101]⟩, .string ⟨#[102, 117, 108, 108]⟩, .string ⟨#[110, 111, 110, 101]⟩, .string ⟨#[98, 117, 115, 121]⟩]) (by simp [results, Tryz.results45, go_sem]) rfl ⟨rfl, (Below.refl _ w).alloc (Nat.le_refl _) _⟩


set_option maxRecDepth 100000 in
set_option maxHeartbeats 3200000 in
theorem arriving_any (g : Bool) (w : World) :
    Calls Tryz.prog 39 #[.bool g] w fun e w' => e = .returned (.agg #[.int .i64 4, .func (.func 64) #[] #[.pointer (some ⟨w.heap.size, 0, none⟩)]]) ∧ Blk w' w.heap.size 4 #[.bool g] ∧ Below w.heap.size w w' := by
  have hmf : ∀ (fn : Fn) (first cap : Array Value) (w : World), (Instr.makeFunc fn first cap).run Tryz.prog w = .ok (.func fn first cap) w := fun _ _ _ _ => rfl
  go_enter Tryz.func39, Tryz.ntmps39
  go_wp2
  refine bodyPost_ret (v := .agg #[.int .i64 4, .func (.func 64) #[] #[.pointer (some ⟨w.heap.size, 0, none⟩)]]) (by simp [results, Tryz.results39, go_sem]) rfl ⟨rfl, (Blk.new w _ _).alloc _, ((Below.refl _ w).alloc (Nat.le_refl _) _).alloc (by simp) _⟩

set_option maxRecDepth 100000 in
set_option maxHeartbeats 3200000 in
theorem plain1_any (k : Int) (b : Nat) (A : Option Addr) (n c : Nat) (xs : List Int) (w : World) (hb : b < w.heap.size) (hk : w.cell? ⟨b, 0, none⟩ = some (.int .i64 k)) (h : RdI w w.heap.size A n xs) (hn : 1 ≤ n) :
    Calls Tryz.prog 65 #[.slice A n c, .pointer (some ⟨b, 0, none⟩)] w fun e w' => e = .returned (rqV (rqN k (xs[0]?.getD 0)) none 0 0) ∧ Below w.heap.size w w' := by
  obtain ⟨lb, lo, rfl, hlb, hcl⟩ := h.at_ (k := 0) (by omega)
  have c0 : (w.alloc (.cells #[.int .i64 0, .int .i64 0, .slice none 0 0, .bool false, .int .i64 0] 77)).cell? ⟨lb, lo, none⟩ = some (.int .i64 (xs[0]?.getD 0)) := by rw [World.cell?_alloc_past _ _ _ hlb]; simpa using hcl
  have c1 : (w.alloc (.cells #[.int .i64 0, .int .i64 0, .slice none 0 0, .bool false, .int .i64 0] 77)).cell? ⟨b, 0, none⟩ = some (.int .i64 k) := by rw [World.cell?_alloc_past _ _ _ hb]; exact hk
  have i1 : (0 : Int) ≤ 0 ∧ (0 : Int) < (n : Int) := by omega
  go_enter Tryz.func65, Tryz.ntmps65
  go_wp2
  go_region
  go_wp2
  exact bodyPost_ret (v := rqV (rqN k (xs[0]?.getD 0)) none 0 0) (by simp [results, Tryz.results65, go_sem, rqV, rqN]) rfl ⟨rfl, ((Below.refl _ w).alloc (Nat.le_refl _) _).drew⟩

set_option maxRecDepth 100000 in
set_option maxHeartbeats 3200000 in
theorem arriving1_any (g : Bool) (b : Nat) (A : Option Addr) (c : Nat) (xs : List Int) (w : World) (hb : b < w.heap.size) (hk : w.cell? ⟨b, 0, none⟩ = some (.bool g)) (h : RdI w w.heap.size A 4 xs) (hc : 4 ≤ c) :
    Calls Tryz.prog 64 #[.slice A 4 c, .pointer (some ⟨b, 0, none⟩)] w fun e w' => ∃ A1 c1, e = .returned (rqV ⟨1, xs[0]?.getD 0, xs.drop 1, g, 0⟩ A1 3 c1) ∧ RdI w w.heap.size A1 3 (xs.drop 1) ∧ 3 ≤ c1 ∧ Below w.heap.size w w' := by
  obtain ⟨lb, lo, rfl, hlb, hcl⟩ := h.at_ (k := 0) (by omega)
  have c0 : (w.alloc (.cells #[.int .i64 0, .int .i64 0, .slice none 0 0, .bool false, .int .i64 0] 77)).cell? ⟨lb, lo, none⟩ = some (.int .i64 (xs[0]?.getD 0)) := by rw [World.cell?_alloc_past _ _ _ hlb]; simpa using hcl
  have c1 : (w.alloc (.cells #[.int .i64 0, .int .i64 0, .slice none 0 0, .bool false, .int .i64 0] 77)).cell? ⟨b, 0, none⟩ = some (.bool g) := by rw [World.cell?_alloc_past _ _ _ hb]; exact hk
  have i1 : ¬ c = 1 := by omega
  have i2 : ¬ (c : Int) < 1 := by omega
  go_enter Tryz.func64, Tryz.ntmps64
  go_wp2
  go_region
  go_wp2
  refine bodyPost_ret (v := rqV ⟨1, xs[0]?.getD 0, xs.drop 1, g, 0⟩ (some ⟨lb, lo + 1, none⟩) 3 (c - 1)) (by simp [results, Tryz.results64, go_sem, rqV]) rfl ⟨_, _, rfl, RdI.tail9 h, by omega, ((Below.refl _ w).alloc (Nat.le_refl _) _).drew⟩
end Go.Proofs.YtdkhdfedejbicaaGreatDoor

namespace Go.Proofs.YtdkhdfedejbicaaGreatDoor
set_option linter.unusedSimpArgs false
set_option linter.unusedVariables false
open Go Go.RowKit

theorem split_cut (c : UInt8) : ∀ l : Bs, Lib.splitK [c] 0 (Lib.count l [c]) l = cutP c l
  | [] => by rw [Lib.count_miss (by simp [Lib.index])]; rfl
  | b :: l => by
    have ih := split_cut c l
    by_cases h : b = c
    · subst h
      rw [Lib.count_cons_eq, Nat.add_comm]
      have hix : Lib.index (b :: l) [b] = 0 := by rw [Lib.index]; simp [List.isPrefixOf]
      unfold Lib.splitK cutP
      rw [hix]
      simp [ih]
    · have hp : ([c] : List UInt8).isPrefixOf (b :: l) = false := by simp [List.isPrefixOf, Ne.symm h]
      have hix : Lib.index (b :: l) [c] = if Lib.index l [c] == -1 then -1 else Lib.index l [c] + 1 := by rw [Lib.index, hp]; simp
      rw [Lib.count_cons_ne b c l h]
      cases hk : Lib.count l [c] with
      | zero =>
        rw [hk] at ih
        unfold Lib.splitK at ih ⊢
        unfold cutP
        rw [if_neg h, ← ih]
      | succ k =>
        have hm : Lib.index l [c] ≠ -1 := fun e => by rw [Lib.count_miss e] at hk; omega
        have hge := Lib.index_ge l [c]
        rw [hk] at ih
        unfold Lib.splitK at ih ⊢
        rw [hix]
        rw [if_neg (by simpa using hm)] at ih
        rw [if_neg (by rw [if_neg (by simpa using hm)]; simp; omega), if_neg (by simpa using hm)]
        unfold cutP
        rw [if_neg h, ← ih]
        have e1 : (Lib.index l [c] + 1).toNat = (Lib.index l [c]).toNat + 1 := by omega
        simp [e1, Nat.add_right_comm]

theorem splitB_cut (c : UInt8) (s : ByteArray) : Lib.splitB ⟨#[c]⟩ 0 (Lib.countB s ⟨#[c]⟩) s = (cutP c s.data.toList).map bs := by
  have h := Lib.splitB_data ⟨#[c]⟩ 0 (Lib.countB s ⟨#[c]⟩) s
  have e : Lib.splitK [c] 0 (Lib.countB s ⟨#[c]⟩) s.data.toList = cutP c s.data.toList := split_cut c _
  have h2 := h.trans e
  rw [← h2, List.map_map]
  conv => lhs; rw [← List.map_id (Lib.splitB ⟨#[c]⟩ 0 (Lib.countB s ⟨#[c]⟩) s)]
  apply List.map_congr_left
  intro x _
  exact (bs_of x).symm

theorem split_any (c : UInt8) (s : ByteArray) (m : Int) (w : World) (hs : s.size < 4294967281) (hm : w.cell? ⟨0, 0, none⟩ = some (.int .i64 m)) :
    Calls Tryz.prog 22 #[.string s, .string ⟨#[c]⟩] w fun e w' => e = .returned (.slice (some ⟨w.heap.size, 0, none⟩) (cutP c s.data.toList).length (cutP c s.data.toList).length) ∧ w' = w.alloc (.cells ((cutP c s.data.toList).map strV).toArray 9) := by
  refine (Tryz.strings_Split s ⟨#[c]⟩ m w hs hm (Nat.le_refl 1)).mono ?_
  rintro e w' ⟨rfl, rfl⟩
  have hl := Lib.splitB_all ⟨#[c]⟩ (Nat.le_refl 1) 0 _ s rfl
  rw [splitB_cut, List.length_map] at hl
  rw [← hl, splitB_cut, List.map_map]
  exact ⟨rfl, rfl⟩

theorem dec_small (i : Nat) (hi : i < 100) : Lib.decDigits i = decD (i : Int) := by
  unfold decD
  by_cases h : i < 10
  · rw [Lib.decDigits, dif_pos h, if_pos (by omega)]; simp
  · rw [Lib.decDigits, dif_neg h, Lib.decDigits, dif_pos (by omega), if_neg (by omega)]; simp
theorem itoa_any (n : Int) (h0 : 0 ≤ n) (h1 : n < 100) (w : World) :
    Calls Tryz.prog 26 #[.int .i64 n] w fun e w' => e = .returned (.string (bs (decD n))) ∧ w' = w := by
  obtain ⟨i, rfl⟩ := Int.eq_ofNat_of_zero_le h0
  have := Tryz.strconv_Itoa_small i (by omega) w
  rw [dec_small i (by omega)] at this
  exact this
end Go.Proofs.YtdkhdfedejbicaaGreatDoor

namespace Go.Proofs.YtdkhdfedejbicaaGreatDoor
set_option linter.unusedSimpArgs false
set_option linter.unusedVariables false
open Go Go.RowKit
attribute [local go_sem ↓] Go.wp_at_zero Go.wp_at_succ

theorem join3 (a b c : Bs) : Lib.join ([bs a, bs b, bs c].map (·.data.toList)) ([44] : Bs) = a ++ [44] ++ b ++ [44] ++ c := by
  simp only [List.map_cons, List.map_nil, bs_list]
  rw [Lib.join_cons]
  simp [Lib.joinTail]

set_option maxRecDepth 100000 in
set_option maxHeartbeats 3200000 in
theorem text_any (A : Option Addr) (c : Nat) (xs : List Int) (w : World) (h : RdI w w.heap.size A 3 xs) (hv : vecOk xs = true) :
    Calls Tryz.prog 66 #[.slice A 3 c] w fun e w' => e = .returned (.string (bs (vecT xs))) ∧ Below w.heap.size w w' := by
  have H := qh h
  have Hb := qh (fun j => vecOk_bd hv j)
  have Hlx := qh h.1
  clear h hv
  obtain ⟨i0, hi0, hz0, hz1, hz2⟩ := info_parts string_info
  have hmk : ∀ w, (Instr.makeSlice 41 (.int .i64 0) (.int .i64 3)).run Tryz.prog w = .ok (.slice (some ⟨w.heap.size, 0, none⟩) 0 3) (w.alloc (.cells #[.string ⟨#[]⟩, .string ⟨#[]⟩, .string ⟨#[]⟩] 9)) := fun _ => by kernel_rfl
  have O0 := qh (show (w.alloc (.cells #[.string ⟨#[]⟩, .string ⟨#[]⟩, .string ⟨#[]⟩] 9)).ownsRow w.heap.size 9 1 (.slice (some ⟨w.heap.size, 0, none⟩) 0 3) 0 (([] : List Int).map (fun x => strV (decD x))) from World.ownsRow_made w _ 3 (Nat.le_refl _) (by unfold maxLen; omega) rfl)
  have B0 := qh (alloc_up w (.cells #[.string ⟨#[]⟩, .string ⟨#[]⟩, .string ⟨#[]⟩] 9))
  go_enter Tryz.func66, Tryz.ntmps66
  go_wp2_with fail
  clear hmk
  go_loopw [3, 9] (fun v i wr => ∃ (k cc : Nat) (Ab : Option Addr), i = .int .i64 (k : Int) ∧ v = .slice Ab k cc ∧ k ≤ 3 ∧ wr.ownsRow w.heap.size 9 1 (.slice Ab k cc) k ((xs.take k).map (fun x => strV (decD x))) ∧ Below w.heap.size w wr) (fun _ i _ => 3 - (intOf i).toNat)
  case atStart => exact ⟨0, 3, _, rfl, rfl, Nat.zero_le _, O0.out, B0.out⟩
  case round =>
    clear O0 B0
    obtain ⟨k, cc, Ab, rfl, rfl, hk, hO, hb⟩ := hrel
    have HO := qh hO
    have HB := qh hb
    have lz := hb.size
    clear hO hb
    by_cases hlt : k < 3
    · obtain ⟨b1, o1, rfl, hb1, hc1⟩ := (H.out.up HB.out).at_ hlt
      have k1 : (0 : Int) ≤ (k : Int) := by omega
      have k2 : (k : Int) < 3 := by omega
      have dk := Hb.out k
      have HD := qh (fun W => itoa_any (xs[k]?.getD 0) (by omega) (by omega) W)
      have al := alloc_up wr (.cells #[.string (bs (decD (xs[k]?.getD 0)))] 9)
      have O9 := qh (own_up' HO.out al)
      have B9 := qh (HB.out.trans (al.mono lz))
      have S9 := qh (lit1c wr 9 (.string (bs (decD (xs[k]?.getD 0)))))
      have l9 := B9.out.size
      have Ht := qh (show xs.take (k + 1) = xs.take k ++ [xs[k]?.getD 0] from by rw [List.take_add_one, List.getElem?_eq_getElem (by have := Hlx.out; omega : k < xs.length)]; rfl)
      clear al dk
      go_wp2_with fail
      refine (HD.out _).mono ?_; rintro e w9 ⟨rfl, hw9⟩; rw [hw9]
      go_wp2_with (at_builtin; go_loud (refine wpList_append_src _ rfl _ _ 41 rfl w.heap.size 9 i0 _ 1 16 Tryz.underlying41 hi0 hz0 hz1 hz2 rfl (by omega) (.slice Ab k cc) k _ rfl O9.out (some ⟨wr.heap.size, 0, none⟩) 1 1 [.string (bs (decD (xs[k]?.getD 0)))] rfl S9.out (by simp [Value.oneCell']) (by unfold maxLen; omega) (by omega) l9 ?_; intro v' wn hown6 hgrow6 hat6; obtain ⟨A8, c8, rfl⟩ := own_shape hown6))
      have BF := qh (B9.out.grown hgrow6 l9 (fun a e => (O9.out.lt a e).1))
      have OF := qh hown6
      clear hown6 hgrow6 hat6
      go_wp2_with fail
      go_roundw
      case measure => simp [intOf]; omega
      case rel =>
        refine ⟨k + 1, c8, A8, by go_num, rfl, by omega, ?_, BF.out⟩
        rw [Ht.out, List.map_append]
        exact OF.out
    · obtain rfl : k = 3 := by omega
      have R := qh (RdS.of_own (ss := (xs.map decD)) (by have := HO.out; rw [List.take_of_length_le (by have := Hlx.out; omega)] at this; rw [List.map_map]; exact own_up' this (Below.refl _ _)) (by omega))
      go_wp2_with fail
      obtain ⟨x0, x1, x2, rfl⟩ : ∃ a b d : Int, xs = [a, b, d] := by
        have := Hlx.out
        match xs, this with
        | [a, b, d], _ => exact ⟨a, b, d, rfl⟩
      obtain ⟨b3, o3, rfl, hb3, -⟩ := R.out.at_ (k := 0) (by omega)
      have hcap : 3 ≤ cc := by
        rcases HO.out.2 with ⟨e, _⟩ | ⟨g, cap, cur, e, _, _, h3, _⟩
        · cases e
        · injection e with _ _ e3; omega
      have hc3 : ∀ j, j < 3 → wr.cell? ⟨b3, o3 + j, none⟩ = some (.string (bs (([x0, x1, x2].map decD)[j]?.getD []))) := fun j hj => by
        obtain ⟨b', o', e, _, h'⟩ := R.out.at_ hj
        injection e with e; injection e with e1 e2
        subst e1 e2; exact h'
      refine (join_c b3 o3 cc [bs (decD x0), bs (decD x1), bs (decD x2)] ⟨#[44]⟩ wr ?_ hb3 (by simp) (by simpa using hcap) ?_).mono ?_
      · intro j x hx
        match j, hx with
        | 0, hx => injection hx with hx; subst hx; exact hc3 0 (by omega)
        | 1, hx => injection hx with hx; subst hx; exact hc3 1 (by omega)
        | 2, hx => injection hx with hx; subst hx; exact hc3 2 (by omega)
      · have := vecT_len [x0, x1, x2]
        rw [show (⟨#[44]⟩ : ByteArray).data.toList = [44] from rfl, join3]
        simp only [vecT] at this
        simp at this ⊢
        omega
      rintro e w9 ⟨rfl, hb9⟩
      have B9 := qh (HB.out.trans (hb9.mono lz))
      have Ej := qh (join3 (decD x0) (decD x1) (decD x2))
      rw [show (⟨#[44]⟩ : ByteArray).data.toList = [44] from rfl, Ej.out]
      clear hb9 Ej
      generalize hq : decD x0 ++ [44] ++ decD x1 ++ [44] ++ decD x2 = q at *
      have Hq := qh hq
      clear hq
      go_wp2_with fail
      refine bodyPost_ret (v := .string ⟨q.toArray⟩) (by simp [results, Tryz.results66, go_sem]) rfl ⟨?_, B9.out⟩
      have : vecT [x0, x1, x2] = q := Hq.out
      rw [this]; rfl
end Go.Proofs.YtdkhdfedejbicaaGreatDoor
