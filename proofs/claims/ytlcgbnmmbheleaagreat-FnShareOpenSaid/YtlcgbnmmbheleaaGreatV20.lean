/- Several texts in one. -/
import Derived.Test.YtlcgbnmmbheleaaGreatV19
import Derived.Conc.LeavingOf
namespace Go.Proofs.YtlcgbnmmbheleaaGreat
open Go Go.Conc Go.RowKit
open Go.ConcN (CT OkW Ok0 Apart sumTo upd)
set_option linter.unusedVariables false
set_option linter.unusedSimpArgs false

def veilO : Obj → Obj
  | .pending _ _ => .coro none
  | .view _ _ => .view ⟨0, 0, some 0⟩ 0
  | o => o
def veil0 (w : World) : World := { w with heap := w.heap.map veilO }
def odd0 (w : World) (b : Nat) : Prop := ∃ o, w.heap[b]? = some o ∧ oddObj o = true
theorem veil0_at (w : World) (b : Nat) : (veil0 w).heap[b]? = (w.heap[b]?).map veilO := by simp [veil0]
theorem veilO_same {o : Obj} (h : ¬ oddObj o = true) : veilO o = o := by
  cases o <;> first | rfl | exact absurd rfl h
theorem veil0_cell (w : World) (p : Addr) : (veil0 w).cell? p = w.cell? p := by
  simp only [World.cell?, veil0_at]
  cases h : w.heap[p.block]? with
  | none => rfl
  | some o => cases o <;> rfl
theorem veil0_size (w : World) : (veil0 w).heap.size = w.heap.size := by simp [veil0]
theorem view0 (w : World) : ViewOf (fun _ => False) (odd0 w) (veil0 w) w := by
  refine ⟨rfl, rfl, veil0_size w, fun b _ hn => ?_, fun b h => h.elim, fun b hb => ?_, fun b cs ty h => ?_, fun b a u h => ?_⟩
  · rw [veil0_at]
    cases h : w.heap[b]? with
    | none => rfl
    | some o => exact congrArg some (veilO_same fun ho => hn ⟨o, h, ho⟩)
  · obtain ⟨o, h, ho⟩ := hb
    rw [veil0_at, h]
    cases o <;> first | exact .inl ⟨_, _, rfl, rfl⟩ | exact .inr ⟨_, _, rfl, rfl⟩ | (cases ho)
  · rw [veil0_at] at h
    cases h' : w.heap[b]? with
    | none => rw [h'] at h; cases h
    | some o => rw [h'] at h; cases o <;> cases h
  · rw [veil0_at] at h
    cases h' : w.heap[b]? with
    | none => rw [h'] at h; cases h
    | some o =>
      rw [h'] at h
      cases o <;> cases h
      rfl

theorem pastK_nil (N : Nat) : PastK (fun _ => False) 1 N #[] :=
  ⟨⟨fun i op x h => by simp at h, fun k h1 h2 => by omega, fun k h1 h2 => by omega, fun l _ _ i a h => by simp [touchAt, Trace.act?] at h, fun l _ _ i a h => by simp [touchAt, Trace.act?] at h,
    fun said => by rintro ⟨i, j, _, ⟨a, b, ha, _⟩, _⟩; simp [Trace.act?] at ha, fun i op h => by simp at h⟩, fun i g hg => by simp [Trace.g?] at hg, rfl, fun op h => by simp at h⟩

section
variable {P : Program} {S : Nat → Prop} {f : FuncId} {args : Array Value} {W : World} {Post : Value → World → Prop}
theorem kv_run (hin : P.inits.idxOf? f = none) (hc : CallsV P (odd0 W) f args (veil0 W) Post) :
    ∃ M last o w' t', runNT P (M + 1) (solo (G (Frame.enter P f args .normal) []) W) #[] = (.ended o w', t') ∧ runN P M (solo (G (Frame.enter P f args .normal) []) W) = .next last ∧ step P last = .ended o w' ∧
      Conc.Good P (fun x w' => ∃ v' S', Post x v' ∧ ViewOf S' (odd0 W) v' w' ∧ Kept (fun _ => False) (odd0 W) W S' w') last o w' t' := by
  obtain ⟨fn, c, hf, hname, hb, hkv⟩ := hc
  rw [enter_at _ hf hb, solo_eq_crowd]
  obtain ⟨N, gs, g, v', w', S', sl, t, q, r1, r2, r3, r4, r5, ⟨fn', a', todo, x, h1, h2, rfl, h4, h5⟩, r7⟩ := hkv [] (fun _ => False) W #[_] none #[] (fun _ => 0) (view0 W) rfl (leavers_one P _) (pastK_nil _)
  have hend : ∀ w, stepG P true (G { (base f).at a' todo with mode := .returning } []) w = .ended (.done x) w #[] := fun w => by
    simp [G, stepG, unwind, doReturn, Frame.at, base, h2, h1, (h4 w).1, (h4 w).2, hin, seen, GStep.after]
  obtain ⟨k, gs1, d2, sl1, t1, q1, d, sl2, u1, u2, u3, u4, u5, u6⟩ := turn0 (P := P) (S := S') (N := w'.heap.size) rfl w' _ gs w'.drawn sl t q rfl r2 r3 r4
  have u1' : runNT P k (crowd gs w' sl) t = _ := u1
  have hrunT := runT_many_ended (P := P) (sl := sl2) (i := 0) u4 (show stepG P (0 == 0) _ (w'.at d) = _ from hend _)
  have hst := u2.trans hrunT
  have e0 : MemOp.ofEvents 0 (G { (base f).at a' todo with mode := .returning } []).frame.fn (G { (base f).at a' todo with mode := .returning } []).frame.place #[] = #[] := by simp [MemOp.ofEvents]
  rw [e0] at hst
  have hrun : runNT P (N + k) (crowd #[G ((base f).at { tmps := args ++ Array.replicate (fn.ntmps - args.size) undef, defers := [] } [.code c]) []] W none) #[] = (.next (crowd gs1 (w'.at d2) sl1), t1) := by
    have r1' : runNT P N (crowd #[G ((base f).at { tmps := args ++ Array.replicate (fn.ntmps - args.size) undef, defers := [] } [.code c]) []] W none) #[] = _ := r1
    rw [runNT_add, r1']; exact u1'
  refine ⟨N + k, crowd gs1 (w'.at d2) sl1, .done x, w'.at d, t1, ?_, ?_, ?_, x, rfl, ⟨v', S', h5, r5.at d, ⟨r7.tape, r7.size, r7.hid, r7.new⟩⟩, u6.ct.nr, u6.over, ⟨fun y hy => ?_, rfl⟩, fun j y hy hj => ?_⟩
  · rw [runNT_add, hrun]
    simp [runNT, hst]
  · rw [← runNT_fst P _ _ #[], hrun]
  · rw [step, hst]
  · obtain ⟨j, hj⟩ := List.mem_iff_getElem?.1 hy
    rw [List.getElem?_drop] at hj
    exact ⟨_, (u5.old (1 + j) y (by omega) (by simpa [crowd] using hj)).leaves⟩
  · have hq := u5.old j y (by omega) hy
    exact ⟨q1 j, hq.hears _⟩

theorem below_of {v' w' : World} {S' : Nat → Prop} (h : GR (veil0 W) v') (hv : ViewOf S' (odd0 W) v' w') (hk : Kept (fun _ => False) (odd0 W) W S' w') : Below W.heap.size W w' := by
  refine ⟨hv.os.symm.trans h.os, hk.tape, hv.output.symm.trans h.output, hk.size, fun b hb => ?_⟩
  by_cases ho : odd0 W b
  · exact hk.hid b ho
  · have hS : ¬ S' b := fun hs => (hk.new b hs).elim id fun x => by omega
    rw [← hv.same b hS ho, h.rows b (by rw [veil0_size]; exact hb), (view0 W).same b id ho]
end
end Go.Proofs.YtlcgbnmmbheleaaGreat

namespace Go.Proofs.YtlcgbnmmbheleaaGreat
open Go Go.Conc
def anaFs : List FuncId :=
  23 ::
  16 ::
  15 ::
  18 ::
  20 ::
  62 ::
  50 ::
  21 ::
  24 ::
  52 ::
  28 ::
  19 ::
  36 ::
  37 ::
  17 ::
  38 ::
  39 ::
  40 ::
  41 ::
  42 ::
  33 ::
  43 ::
  44 ::
  26 ::
  101 ::
  102 ::
  103 ::
  45 ::
  46 ::
  71 ::
  27 ::
  94 ::
  67 ::
  68 ::
  69 ::
  70 ::
  72 ::
  73 ::
  74 ::
  75 ::
  53 ::
  121 ::
  122 ::
  123 ::
  107 ::
  108 ::
  105 ::
  106 ::
  109 ::
  110 ::
  132 ::
  124 ::
  133 ::
  134 ::
  135 ::
  5 ::
  7 ::
  9 ::
  11 ::
  12 ::
  25 ::
  54 ::
  66 ::
  95 ::
  96 ::
  116 ::
  13 ::
  32 ::
  58 ::
  59 ::
  60 ::
  61 ::
  63 ::
  64 ::
  65 ::
  99 ::
  100 ::
  104 ::
  []
def anaTr : List (FuncId × Tmp × List FuncId) :=
  (43, 1, [44]) ::
  (43, 6, [44]) ::
  (75, 1, [44]) ::
  (75, 11, [44]) ::
  (133, 1, [134]) ::
  (133, 6, [134]) ::
  (135, 1, [134]) ::
  (135, 11, [134]) ::
  (58, 1, [59]) ::
  (58, 11, [59]) ::
  (60, 1, [100]) ::
  (60, 6, [100]) ::
  (99, 1, [100]) ::
  (99, 11, [100]) ::
  (63, 26, [100]) ::
  (59, 6, [100]) ::
  (32, 6, [59]) ::
  (61, 2, [100]) ::
  (61, 3, [100]) ::
  []
def anaBs : List FuncId :=
  14 ::
  34 ::
  35 ::
  3 ::
  4 ::
  10 ::
  6 ::
  22 ::
  8 ::
  29 ::
  30 ::
  31 ::
  55 ::
  []
def anaRs : List (FuncId × List FuncId) :=
  (61, [100]) ::
  []
def anaA : Ana := ⟨anaFs, anaTr, anaBs, anaRs⟩
theorem anaA_good : anaA.good Tryz.prog = true := by kernel_rfl
end Go.Proofs.YtlcgbnmmbheleaaGreat

namespace Go.Proofs.YtlcgbnmmbheleaaGreat
set_option linter.unusedSimpArgs false
set_option linter.unusedVariables false
open Go Go.RowKit

def sub3 (a b : List Int) : List Int := [a[0]?.getD 0 - b[0]?.getD 0, a[1]?.getD 0 - b[1]?.getD 0, a[2]?.getD 0 - b[2]?.getD 0]
@[simp] theorem sub3_len (a b : List Int) : (sub3 a b).length = 3 := rfl
end Go.Proofs.YtlcgbnmmbheleaaGreat
