/- Several texts in one. -/
import Derived.Test.YtlcgbnmmbheleaaV19
import Derived.Conc.LeavingOf
namespace Go.Proofs.Ytlcgbnmmbheleaa
open Go Go.Conc Go.RowKit
open Go.ConcN (CT OkW Ok0 Apart sumTo upd)
set_option linter.unusedVariables false
set_option linter.unusedSimpArgs false

def veilO : Obj → Obj
  | .pending _ _ => .coro none
  | .view _ _ => .view ⟨0, 0, some 0⟩ 0
  | o => o
def veil0 (w : World) : World := { w with heap := w.heap.map veilO }
def odd0 (w : World) (b : Nat) : Prop := ∃ o, w.heap[b]? = some o ∧ oddObj o = true
theorem veil0_at (w : World) (b : Nat) : (veil0 w).heap[b]? = (w.heap[b]?).map veilO := by simp [veil0]
theorem veilO_same {o : Obj} (h : ¬ oddObj o = true) : veilO o = o := by
  cases o <;> first | rfl | exact absurd rfl h
theorem veil0_cell (w : World) (p : Addr) : (veil0 w).cell? p = w.cell? p := by
  simp only [World.cell?, veil0_at]
  cases h : w.heap[p.block]? with
  | none => rfl
  | some o => cases o <;> rfl
theorem veil0_size (w : World) : (veil0 w).heap.size = w.heap.size := by simp [veil0]
theorem view0 (w : World) : ViewOf (fun _ => False) (odd0 w) (veil0 w) w := by
  refine ⟨rfl, rfl, veil0_size w, fun b _ hn => ?_, fun b h => h.elim, fun b hb => ?_, fun b cs ty h => ?_, fun b a u h => ?_⟩
  · rw [veil0_at]
    cases h : w.heap[b]? with
    | none => rfl
    | some o => exact congrArg some (veilO_same fun ho => hn ⟨o, h, ho⟩)
  · obtain ⟨o, h, ho⟩ := hb
    rw [veil0_at, h]
    cases o <;> first | exact .inl ⟨_, _, rfl, rfl⟩ | exact .inr ⟨_, _, rfl, rfl⟩ | (cases ho)
  · rw [veil0_at] at h
    cases h' : w.heap[b]? with
    | none => rw [h'] at h; cases h
    | some o => rw [h'] at h; cases o <;> cases h
  · rw [veil0_at] at h
    cases h' : w.heap[b]? with
    | none => rw [h'] at h; cases h
    | some o =>
      rw [h'] at h
      cases o <;> cases h
      rfl

theorem pastK_nil (N : Nat) : PastK (fun _ => False) 1 N #[] :=
  ⟨⟨fun i op x h => by simp at h, fun k h1 h2 => by omega, fun k h1 h2 => by omega, fun l _ _ i a h => by simp [touchAt, Trace.act?] at h, fun l _ _ i a h => by simp [touchAt, Trace.act?] at h,
    fun said => by rintro ⟨i, j, _, ⟨a, b, ha, _⟩, _⟩; simp [Trace.act?] at ha, fun i op h => by simp at h⟩, fun i g hg => by simp [Trace.g?] at hg, rfl, fun op h => by simp at h⟩

section
variable {P : Program} {S : Nat → Prop} {f : FuncId} {args : Array Value} {W : World} {Post : Value → World → Prop}
theorem kv_run (hin : P.inits.idxOf? f = none) (hc : CallsV P (odd0 W) f args (veil0 W) Post) :
    ∃ M last o w' t', runNT P (M + 1) (solo (G (Frame.enter P f args .normal) []) W) #[] = (.ended o w', t') ∧ runN P M (solo (G (Frame.enter P f args .normal) []) W) = .next last ∧ step P last = .ended o w' ∧
      Conc.Good P (fun x w' => ∃ v' S', Post x v' ∧ ViewOf S' (odd0 W) v' w' ∧ Kept (fun _ => False) (odd0 W) W S' w') last o w' t' := by
  obtain ⟨fn, c, hf, hname, hb, hkv⟩ := hc
  rw [enter_at _ hf hb, solo_eq_crowd]
  obtain ⟨N, gs, g, v', w', S', sl, t, q, r1, r2, r3, r4, r5, ⟨fn', a', todo, x, h1, h2, rfl, h4, h5⟩, r7⟩ := hkv [] (fun _ => False) W #[_] none #[] (fun _ => 0) (view0 W) rfl (leavers_one P _) (pastK_nil _)
  have hend : ∀ w, stepG P true (G { (base f).at a' todo with mode := .returning } []) w = .ended (.done x) w #[] := fun w => by
    simp [G, stepG, unwind, doReturn, Frame.at, base, h2, h1, (h4 w).1, (h4 w).2, hin, seen, GStep.after]
  obtain ⟨k, gs1, d2, sl1, t1, q1, d, sl2, u1, u2, u3, u4, u5, u6⟩ := turn0 (P := P) (S := S') (N := w'.heap.size) rfl w' _ gs w'.drawn sl t q rfl r2 r3 r4
  have u1' : runNT P k (crowd gs w' sl) t = _ := u1
  have hrunT := runT_many_ended (P := P) (sl := sl2) (i := 0) u4 (show stepG P (0 == 0) _ (w'.at d) = _ from hend _)
  have hst := u2.trans hrunT
  have e0 : MemOp.ofEvents 0 (G { (base f).at a' todo with mode := .returning } []).frame.fn (G { (base f).at a' todo with mode := .returning } []).frame.place #[] = #[] := by simp [MemOp.ofEvents]
  rw [e0] at hst
  have hrun : runNT P (N + k) (crowd #[G ((base f).at { tmps := args ++ Array.replicate (fn.ntmps - args.size) undef, defers := [] } [.code c]) []] W none) #[] = (.next (crowd gs1 (w'.at d2) sl1), t1) := by
    have r1' : runNT P N (crowd #[G ((base f).at { tmps := args ++ Array.replicate (fn.ntmps - args.size) undef, defers := [] } [.code c]) []] W none) #[] = _ := r1
    rw [runNT_add, r1']; exact u1'
  refine ⟨N + k, crowd gs1 (w'.at d2) sl1, .done x, w'.at d, t1, ?_, ?_, ?_, x, rfl, ⟨v', S', h5, r5.at d, ⟨r7.tape, r7.size, r7.hid, r7.new⟩⟩, u6.ct.nr, u6.over, ⟨fun y hy => ?_, rfl⟩, fun j y hy hj => ?_⟩
  · rw [runNT_add, hrun]
    simp [runNT, hst]
  · rw [← runNT_fst P _ _ #[], hrun]
  · rw [step, hst]
  · obtain ⟨j, hj⟩ := List.mem_iff_getElem?.1 hy
    rw [List.getElem?_drop] at hj
    exact ⟨_, (u5.old (1 + j) y (by omega) (by simpa [crowd] using hj)).leaves⟩
  · have hq := u5.old j y (by omega) hy
    exact ⟨q1 j, hq.hears _⟩

theorem below_of {v' w' : World} {S' : Nat → Prop} (h : GR (veil0 W) v') (hv : ViewOf S' (odd0 W) v' w') (hk : Kept (fun _ => False) (odd0 W) W S' w') : Below W.heap.size W w' := by
  refine ⟨hv.os.symm.trans h.os, hk.tape, hv.output.symm.trans h.output, hk.size, fun b hb => ?_⟩
  by_cases ho : odd0 W b
  · exact hk.hid b ho
  · have hS : ¬ S' b := fun hs => (hk.new b hs).elim id fun x => by omega
    rw [← hv.same b hS ho, h.rows b (by rw [veil0_size]; exact hb), (view0 W).same b id ho]
end
end Go.Proofs.Ytlcgbnmmbheleaa

namespace Go.Proofs.Ytlcgbnmmbheleaa
open Go Go.Conc
def anaA : Ana := ⟨[6, 8, 9, 10, 11, 13, 15, 16, 18, 19, 20, 21, 23, 24, 25, 26, 27, 28, 30, 31, 32, 33, 34, 35, 36, 37, 38, 39, 40, 41, 42, 43, 44, 45, 46, 47, 48, 49, 50, 51, 52, 53, 58, 59, 60, 61, 62, 63, 64, 65, 66, 67, 68, 69, 70, 71, 72, 91, 92, 93, 94, 95, 96, 97, 103, 104, 105, 106],
  [(43, 1, [44]), (43, 6, [44]), (68, 1, [44]), (68, 11, [44]), (104, 1, [105]), (104, 6, [105]), (106, 1, [105]), (106, 11, [105])],
  [3, 4, 5, 7, 12, 14, 17, 22, 29]⟩
theorem anaA_good : anaA.good Try.prog = true := by kernel_rfl
end Go.Proofs.Ytlcgbnmmbheleaa

namespace Go.Proofs.Ytlcgbnmmbheleaa
set_option linter.unusedSimpArgs false
set_option linter.unusedVariables false
open Go Go.RowKit

def sub3 (a b : List Int) : List Int := [a[0]?.getD 0 - b[0]?.getD 0, a[1]?.getD 0 - b[1]?.getD 0, a[2]?.getD 0 - b[2]?.getD 0]
theorem sub3_at {a b : List Int} {j : Nat} (h : j < 3) : (sub3 a b)[j]?.getD 0 = a[j]?.getD 0 - b[j]?.getD 0 := by
  match j, h with
  | 0, _ => rfl
  | 1, _ => rfl
  | 2, _ => rfl
@[simp] theorem sub3_len (a b : List Int) : (sub3 a b).length = 3 := rfl
def fil3 (xs ys : List Int) (k : Nat) : List Int := (sub3 xs ys).take k ++ List.replicate (3 - k) 0
theorem fil3_set (xs ys : List Int) {k : Nat} (h : k < 3) : (fil3 xs ys k).set k (xs[k]?.getD 0 - ys[k]?.getD 0) = fil3 xs ys (k + 1) := by
  have := fill_set (sub3 xs ys) 0 (k := k) (by simp; omega)
  have e := sub3_at (a := xs) (b := ys) h
  rw [List.getElem?_eq_getElem (by simp; omega)] at e
  simp only [Option.getD_some] at e
  rw [e] at this
  exact this
theorem fil3_len (xs ys : List Int) {k : Nat} (h : k ≤ 3) : (fil3 xs ys k).length = 3 := by simp [fil3]; omega
theorem fil3_all (xs ys : List Int) : fil3 xs ys 3 = sub3 xs ys := rfl

set_option maxRecDepth 100000 in
set_option maxHeartbeats 800000 in
theorem minus_any (A1 A2 : Option Addr) (n1 c1 n2 c2 : Nat) (xs ys : List Int) (w : World) (h1 : RdI w w.heap.size A1 n1 xs) (h2 : RdI w w.heap.size A2 n2 ys) (hn1 : 3 ≤ n1) (hn2 : 3 ≤ n2)
    (hb1 : ∀ j, j < 3 → -1000000 ≤ xs[j]?.getD 0 ∧ xs[j]?.getD 0 ≤ 1000000) (hb2 : ∀ j, j < 3 → -1000000 ≤ ys[j]?.getD 0 ∧ ys[j]?.getD 0 ≤ 1000000) :
    Calls Try.prog 45 #[.slice A1 n1 c1, .slice A2 n2 c2] w fun e w' => ∃ A c, e = .returned (.slice A 3 c) ∧ RdI w' w'.heap.size A 3 (sub3 xs ys) ∧ Below w.heap.size w w' := by
  have Hb1 := qh hb1
  have Hb2 := qh hb2
  have H1 := qh h1
  have H2 := qh h2
  clear hb1 hb2 h1 h2
  have hmk : ∀ w, (Instr.makeSlice 44 (.int .i64 3) (.int .i64 3)).run Try.prog w = .ok (.slice (some ⟨w.heap.size, 0, none⟩) 3 3) (w.alloc (.cells #[.int .i64 0, .int .i64 0, .int .i64 0] 3)) := fun _ => by kernel_rfl
  go_enter Try.func45, Try.ntmps45
  go_wp2
  clear hmk
  go_loopw [10] (fun i wr => ∃ k : Nat, i = .int .i64 k ∧ k ≤ 3 ∧ Below w.heap.size w wr ∧ Blk wr w.heap.size 3 ((fil3 xs ys k).map (Value.int .i64)).toArray) (fun i _ => 3 - (intOf i).toNat)
  case atStart => exact ⟨0, rfl, Nat.zero_le _, (Below.refl _ _).alloc (Nat.le_refl _) _, Blk.new w _ _⟩
  case round =>
    obtain ⟨k, rfl, hk, hbel, hblk⟩ := hrel
    have Hblk := qh hblk
    clear hblk
    by_cases hlt : k < 3
    · obtain ⟨b1, o1, rfl, lb1, hc1⟩ := (H1.out.below hbel).at_ (show k < n1 by omega)
      obtain ⟨b2, o2, rfl, lb2, hc2⟩ := (H2.out.below hbel).at_ (show k < n2 by omega)
      have lz := hbel.size
      obtain ⟨p1, p2⟩ := Hb1.out k hlt
      obtain ⟨p3, p4⟩ := Hb2.out k hlt
      have k1 : (0 : Int) ≤ (k : Int) := by omega
      have k2 : (k : Int) < (n1 : Int) := by omega
      have k3 : (k : Int) < (n2 : Int) := by omega
      have k4 : (k : Int) < 3 := by omega
      have hcz : wr.cell? ⟨w.heap.size, k, none⟩ = some (.int .i64 ((fil3 xs ys k)[k]?.getD 0)) := by
        rw [Hblk.out.cell]
        simp [List.getElem?_eq_getElem (show k < (fil3 xs ys k).length by rw [fil3_len _ _ hk]; exact hlt)]
      have hfz : wr.frozen? ⟨w.heap.size, k, none⟩ = false := Hblk.out.frozen _
      generalize (fil3 xs ys k)[k]?.getD 0 = old at hcz
      go_wp2
      go_region
      go_wp2
      go_roundw
      case rel =>
        refine ⟨k + 1, by go_num, by omega, (hbel.setCell (p := ⟨w.heap.size, k, none⟩) (Nat.le_refl _) _).drew, ?_⟩
        have := (Hblk.out.set_ k (.int .i64 (xs[k]?.getD 0 - ys[k]?.getD 0))).drew
        rw [ints_set, fil3_set _ _ hlt] at this
        exact this
      case measure => simp [intOf]; omega
    · have ek : k = 3 := by omega
      subst ek
      go_wp2
      go_ret
      refine ⟨_, _, rfl, RdI.of_blk (by have := Hblk.out; rw [fil3_all] at this; exact this) rfl (by omega), hbel⟩

theorem zsum_succ {xs : List Int} {k : Nat} (h : k < xs.length) : (xs.take (k + 1)).sum = (xs.take k).sum + xs[k]?.getD 0 := by
  rw [List.take_succ_eq_append_getElem h, List.sum_append, List.getElem?_eq_getElem h]; simp
theorem zsum_bd {xs : List Int} (h : ∀ i : Nat, -1000000 ≤ xs[i]?.getD 0 ∧ xs[i]?.getD 0 ≤ 1000000) : ∀ k : Nat, k ≤ xs.length → -(1000000 * (k : Int)) ≤ (xs.take k).sum ∧ (xs.take k).sum ≤ 1000000 * k := by
  intro k
  induction k with
  | zero => intro _; simp
  | succ k ih =>
    intro hk
    have h1 := ih (by omega)
    have h2 := h k
    rw [zsum_succ (by omega)]
    omega

set_option maxRecDepth 100000 in
set_option maxHeartbeats 800000 in
theorem total_any (A : Option Addr) (n c B : Nat) (xs : List Int) (w : World) (h : RdI w B A n xs) (hn : n ≤ 1000) (hb : ∀ i : Nat, -1000000 ≤ xs[i]?.getD 0 ∧ xs[i]?.getD 0 ≤ 1000000) :
    Calls Try.prog 46 #[.slice A n c] w fun e w' => e = .returned (.int .i64 xs.sum) ∧ w = w' := by
  have hl := qh h.len
  have H := qh h
  have Hb := qh hb
  clear h hb
  go_enter Try.func46, Try.ntmps46
  go_wp2
  go_loop [3, 8] (fun s i => ∃ k : Nat, i = .int .i64 k ∧ k ≤ n ∧ s = .int .i64 (xs.take k).sum) (fun _ i => n - (intOf i).toNat)
  case atStart => exact ⟨0, rfl, Nat.zero_le _, rfl⟩
  case round =>
    obtain ⟨k, rfl, hk, rfl⟩ := hrel
    have hsb := zsum_bd Hb.out k (by have := hl.out; omega)
    have hxb := Hb.out k
    by_cases hlt : k < n
    · obtain ⟨b, o, rfl, hbB, hc⟩ := H.out.at_ hlt
      have E := qh (zsum_succ (xs := xs) (k := k) (by have := hl.out; omega))
      have k1 : (0 : Int) ≤ (k : Int) := by omega
      have k2 : (k : Int) < (n : Int) := by omega
      generalize (xs.take k).sum = s at hsb E ⊢
      generalize xs[k]?.getD 0 = x at hxb hc E
      have e1 : IntKind.i64.wrap (s + x) = s + x := wr64 (by omega) (by omega)
      go_wp2
      go_round
      case rel => exact ⟨k + 1, by go_num, by omega, by rw [E.out]⟩
      case measure => simp [intOf]; omega
    · have ek : k = n := by omega
      have e0 : xs.take k = xs := List.take_of_length_le (by have := hl.out; omega)
      have E0 := qh e0
      clear e0 ek
      go_wp2
      go_ret
      exact ⟨ret_int (by rw [E0.out]), rfl⟩

set_option maxRecDepth 100000 in
set_option maxHeartbeats 800000 in
theorem l4Sum_any (A : Option Addr) (n c B : Nat) (xs : List Int) (w : World) (h : RdI w B A n xs) (hn : n ≤ 1000) (hb : ∀ i : Nat, -1000000 ≤ xs[i]?.getD 0 ∧ xs[i]?.getD 0 ≤ 1000000) :
    Calls Try.prog 47 #[.slice A n c] w fun e w' => e = .returned (.int .i64 xs.sum) ∧ w = w' := by
  have hl := qh h.len
  have H := qh h
  have Hb := qh hb
  clear h hb
  go_enter Try.func47, Try.ntmps47
  go_wp2
  go_loop [3, 4] (fun s i => ∃ k : Nat, i = .int .i64 k ∧ k ≤ n ∧ s = .int .i64 (xs.take k).sum) (fun _ i => n - (intOf i).toNat)
  case atStart => exact ⟨0, rfl, Nat.zero_le _, rfl⟩
  case round =>
    obtain ⟨k, rfl, hk, rfl⟩ := hrel
    have hsb := zsum_bd Hb.out k (by have := hl.out; omega)
    have hxb := Hb.out k
    by_cases hlt : k < n
    · obtain ⟨b, o, rfl, hbB, hc⟩ := H.out.at_ hlt
      have E := qh (zsum_succ (xs := xs) (k := k) (by have := hl.out; omega))
      have k1 : (0 : Int) ≤ (k : Int) := by omega
      have k2 : (k : Int) < (n : Int) := by omega
      generalize (xs.take k).sum = s at hsb E ⊢
      generalize xs[k]?.getD 0 = x at hxb hc E
      have e1 : IntKind.i64.wrap (s + x) = s + x := wr64 (by omega) (by omega)
      go_wp2
      go_round
      case rel => exact ⟨k + 1, by go_num, by omega, by rw [E.out]⟩
      case measure => simp [intOf]; omega
    · have ek : k = n := by omega
      have e0 : xs.take k = xs := List.take_of_length_le (by have := hl.out; omega)
      have E0 := qh e0
      clear e0 ek
      go_wp2
      go_ret
      exact ⟨ret_int (by rw [E0.out]), rfl⟩

def maxTo (xs : List Int) : Nat → Int
  | 0 => xs[0]?.getD 0
  | k + 1 => max (maxTo xs k) (xs[k]?.getD 0)
def maxP (xs : List Int) : Int := maxTo xs xs.length
def ixP (xs : List Int) (x : Int) : Int := match xs.findIdx? (fun y => y == x) with | some i => i | none => -1
set_option maxRecDepth 100000 in
set_option maxHeartbeats 800000 in
theorem sliceMax_any (A : Option Addr) (n c B : Nat) (xs : List Int) (w : World) (h : RdI w B A n xs) (h1 : 1 ≤ n) (hn : n ≤ 1000) :
    Calls Try.prog 24 #[.slice A n c] w fun e w' => e = .returned (.int .i64 (maxP xs)) ∧ w = w' := by
  have hl := qh h.len
  have H := qh h
  obtain ⟨b0, o0, rfl, hb0, hc0⟩ := h.at_ (show 0 < n by omega)
  rw [Nat.add_zero] at hc0
  have k0 : (0 : Int) < (n : Int) := by omega
  have k9 : ¬ (n : Int) < 1 := by omega
  clear h
  go_enter Try.func24, Try.ntmps24
  go_wp2
  clear hc0
  go_loop [3, 4] (fun s i => ∃ k : Nat, i = .int .i64 k ∧ 1 ≤ k ∧ k ≤ n ∧ s = .int .i64 (maxTo xs k)) (fun _ i => n - (intOf i).toNat)
  case atStart => exact ⟨1, rfl, Nat.le_refl _, h1, by simp [maxTo]⟩
  case round =>
    obtain ⟨k, rfl, hk1, hk, rfl⟩ := hrel
    by_cases hlt : k < n
    · obtain ⟨b, o, hA, hbB, hc⟩ := H.out.at_ hlt
      injection hA with hA
      injection hA with hA1 hA2
      subst hA1 hA2
      have E := qh (show maxTo xs (k + 1) = max (maxTo xs k) (xs[k]?.getD 0) from rfl)
      have k1 : (0 : Int) ≤ (k : Int) := by omega
      have k2 : (k : Int) < (n : Int) := by omega
      generalize maxTo xs k = s at E ⊢
      generalize xs[k]?.getD 0 = x at hc E
      go_wp2
      go_round
      case rel => exact ⟨k + 1, by go_num, by omega, by omega, by rw [E.out]; simp; split <;> omega⟩
      case measure => simp [intOf]; omega
    · have E0 := qh (show maxP xs = maxTo xs k from by unfold maxP; rw [hl.out, show n = k from by omega])
      go_wp2
      go_ret
      exact ⟨ret_int (by rw [E0.out]), rfl⟩

theorem ix_none {xs : List Int} {x : Int} (h : ∀ j, j < xs.length → xs[j]?.getD 0 ≠ x) : ixP xs x = -1 := by
  unfold ixP
  rw [List.findIdx?_eq_none_iff.2 fun y hy => by
    obtain ⟨j, hj, rfl⟩ := List.getElem_of_mem hy
    have := h j hj
    rw [List.getElem?_eq_getElem hj] at this
    simpa using this]
theorem ix_some {xs : List Int} {x : Int} {k : Nat} (h : ∀ j, j < k → xs[j]?.getD 0 ≠ x) (hk : k < xs.length) (e : xs[k]?.getD 0 = x) : ixP xs x = k := by
  unfold ixP
  rw [List.findIdx?_eq_some_iff_getElem.2 ⟨hk, by rw [List.getElem?_eq_getElem hk] at e; simpa using e, fun j hj => by
    have := h j hj
    rw [List.getElem?_eq_getElem (by omega)] at this
    simpa using this⟩]
set_option maxRecDepth 100000 in
set_option maxHeartbeats 800000 in
theorem sliceIndex_any (A : Option Addr) (n c B : Nat) (xs : List Int) (x : Int) (w : World) (h : RdI w B A n xs) (hn : n ≤ 1000) :
    Calls Try.prog 23 #[.slice A n c, .int .i64 x] w fun e w' => e = .returned (.int .i64 (ixP xs x)) ∧ w = w' := by
  have hl := qh h.len
  have H := qh h
  clear h
  go_enter Try.func23, Try.ntmps23
  go_wp2
  go_loop [8] (fun i => ∃ k : Nat, i = .int .i64 k ∧ k ≤ n ∧ ∀ j, j < k → xs[j]?.getD 0 ≠ x) (fun i => n - (intOf i).toNat)
  case atStart => exact ⟨0, rfl, Nat.zero_le _, fun j hj => absurd hj (Nat.not_lt_zero _)⟩
  case round =>
    obtain ⟨k, rfl, hk, hno⟩ := hrel
    have Hno := qh hno
    clear hno
    by_cases hlt : k < n
    · obtain ⟨b, o, rfl, hbB, hc⟩ := H.out.at_ hlt
      have k1 : (0 : Int) ≤ (k : Int) := by omega
      have k2 : (k : Int) < (n : Int) := by omega
      by_cases he : xs[k]?.getD 0 = x
      · have E := qh he
        have R := qh (ix_some Hno.out (by have := hl.out; omega) he)
        have q : (x == xs[k]?.getD 0) = true := by rw [he]; simp
        clear he
        generalize xs[k]?.getD 0 = y at hc q E
        go_wp2
        go_ret
        exact ⟨ret_int (by rw [R.out]), rfl⟩
      · have E := qh he
        have q : (x == xs[k]?.getD 0) = false := by simpa using fun e => he e.symm
        clear he
        generalize hy : xs[k]?.getD 0 = y at hc q E
        have Hy := qh hy
        clear hy
        go_wp2
        go_round
        case rel =>
          refine ⟨k + 1, by go_num, by omega, fun j hj => ?_⟩
          rcases Nat.lt_or_ge j k with h1 | h1
          · exact Hno.out j h1
          · rw [show j = k by omega, Hy.out]; exact E.out
        case measure => simp [intOf]; omega
    · have R := qh (ix_none (xs := xs) (x := x) fun j hj => Hno.out j (by have := hl.out; omega))
      go_wp2
      go_ret
      exact ⟨ret_int (by rw [R.out]), rfl⟩
end Go.Proofs.Ytlcgbnmmbheleaa
