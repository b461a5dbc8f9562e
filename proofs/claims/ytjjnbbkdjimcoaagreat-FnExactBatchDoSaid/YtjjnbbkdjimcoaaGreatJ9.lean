/- Several texts in one. -/
import Derived.Test.YtjjnbbkdjimcoaaGreatJ3
import Derived.RangeFuncNested
import Derived.RangeFuncBound
import Derived.RangeFuncCalls
import Derived.RangeFuncLeaves
import Derived.RangeFuncFrom
import Derived.Shelf.Abstract
import Derived.OwnWalkIn
import Derived.TacticsInMore
import Derived.LoopNIn
import Derived.LoopIn
import Derived.StillTactics
import Derived.OrdersIn
import Derived.Test.YtjjnbbkdjimcoaaGreatJ2
namespace Go.Proofs.YtjjnbbkdjimcoaaGreat
open Go Go.RowKit Go.Shelf
attribute [local go_sem] Oper.semAt_some

/-- Below block B nothing but block g turns. -/
def KpG (B g : Nat) (A W : World) : Prop := A.heap.size ≤ W.heap.size ∧ ∀ b, b < B → b ≠ g → W.heap[b]? = A.heap[b]?
theorem KpG.refl (B g : Nat) (A : World) : KpG B g A A := ⟨Nat.le_refl _, fun _ _ _ => rfl⟩
theorem KpG.trans {B g : Nat} {A W V : World} (h : KpG B g A W) (k : KpG B g W V) : KpG B g A V := ⟨Nat.le_trans h.1 k.1, fun b h1 h2 => (k.2 b h1 h2).trans (h.2 b h1 h2)⟩
theorem KpG.below {B g : Nat} {A W : World} (h : Below A.heap.size A W) (hB : B ≤ A.heap.size) : KpG B g A W := ⟨h.size, fun b h1 _ => h.block b (by omega)⟩
theorem KpG.put {B g : Nat} {w : World} (hB : B ≤ w.heap.size) (W : World) (l : Nat) (o' : Obj) (hl : w.heap.size ≤ l) : KpG B g W (W.putObj l o') :=
  ⟨by simp, fun b h1 _ => World.putObj_heap_other (by omega)⟩
theorem KpG.cell {B g : Nat} {A W : World} (h : KpG B g A W) {p : Addr} (h1 : p.block < B) (h2 : p.block ≠ g) : W.cell? p = A.cell? p := World.cell?_of_block (h.2 p.block h1 h2)

/-- A task has room on the node. -/
def roomB (room : List Int) (bs : List (List Tk)) (xs : List Int) (k : Nat) : Bool := fits3 (add3 (loadP (bs[k]?.getD [])) xs) room
/-- The nodes with room among the first k. -/
def roomsTo (room : List Int) (bs : List (List Tk)) (xs : List Int) (k : Nat) : List Nat := (List.range k).filter (roomB room bs xs)
theorem roomsTo_yes {room : List Int} {bs : List (List Tk)} {xs : List Int} {k : Nat} (h : roomB room bs xs k = true) : roomsTo room bs xs (k + 1) = roomsTo room bs xs k ++ [k] := by
  simp [roomsTo, List.range_succ, h]
theorem roomsTo_no {room : List Int} {bs : List (List Tk)} {xs : List Int} {k : Nat} (h : roomB room bs xs k = false) : roomsTo room bs xs (k + 1) = roomsTo room bs xs k := by
  simp [roomsTo, List.range_succ, h]
theorem below_grown {w w' : World} (h : Below w.heap.size w w') : w.grownBy w' none := ⟨h.os, h.tape, h.output, h.size, fun k hk _ => h.block k hk⟩


/-- What the closure has captured, and what that reads. -/
structure RoomBox (w : World) (lo n₀ g gb gr gx : Nat) (A1 : Option Addr) (n1 c1 : Nat) (A2 : Option Addr) (n2 c2 : Nat) (A3 : Option Addr) (c3 : Nat) (room : List Int) (bs : List (List Tk)) (id : Int) (xs : List Int) : Prop where
  b : w.cell? ⟨gb, 0, none⟩ = some (.slice A2 n2 c2)
  r : w.cell? ⟨gr, 0, none⟩ = some (.slice A1 n1 c1)
  x0 : w.cell? ⟨gx, 0, none⟩ = some (.int .i64 id)
  x1 : w.cell? ⟨gx, 1, none⟩ = some (.slice A3 3 c3)
  lt : gb < n₀ ∧ gr < n₀ ∧ gx < n₀ ∧ lo ≤ n₀ ∧ lo ≤ g
  ne : gb ≠ g ∧ gr ≠ g ∧ gx ≠ g
  room : RdI w lo A1 n1 room
  bins : RdB w lo A2 n2 bs
  need : RdI w lo A3 3 xs
theorem RoomBox.keep {w w' : World} {lo n₀ g gb gr gx n1 c1 n2 c2 c3 : Nat} {A1 A2 A3 : Option Addr} {room : List Int} {bs : List (List Tk)} {id : Int} {xs : List Int} (h : RoomBox w lo n₀ g gb gr gx A1 n1 c1 A2 n2 c2 A3 c3 room bs id xs) (k : KpG n₀ g w w') :
    RoomBox w' lo n₀ g gb gr gx A1 n1 c1 A2 n2 c2 A3 c3 room bs id xs := by
  obtain ⟨l1, l2, l3, l4, l5⟩ := h.lt
  obtain ⟨e1, e2, e3⟩ := h.ne
  have hk : ∀ p : Addr, p.block < lo → w'.cell? p = w.cell? p := fun p hp => k.cell (by omega) (by omega)
  exact ⟨(k.cell (p := ⟨gb, 0, none⟩) l1 e1).trans h.b, (k.cell (p := ⟨gr, 0, none⟩) l2 e2).trans h.r, (k.cell (p := ⟨gx, 0, none⟩) l3 e3).trans h.x0, (k.cell (p := ⟨gx, 1, none⟩) l3 e3).trans h.x1, h.lt, h.ne, h.room.keep hk (Nat.le_refl _), h.bins.keep hk (Nat.le_refl _), h.need.keep hk (Nat.le_refl _)⟩

/-- An index below n, with a value. -/
abbrev IxV (n : Nat) := { x : Nat × Value // x.1 < n }

end Go.Proofs.YtjjnbbkdjimcoaaGreat

namespace Go.Proofs.YtjjnbbkdjimcoaaGreat
open Go Go.RowKit

def noDefer (ops : Array Oper) : Bool := ops.all fun o => match o.op with | .defer _ => false | _ => true
theorem noDefer_spec {ops : Array Oper} (h : noDefer ops = true) (j : Nat) (o : Oper) (c : Call) (ho : ops[j]? = some o) : o.op ≠ .defer c := by
  intro heq
  have := Array.all_eq_true_iff_forall_mem.1 h o (Array.mem_of_getElem? ho)
  simp [heq] at this

section
variable {P : Program} {ops : Array Oper} {w : World} {l n : Nat}

theorem wpOpIn_of_stOp (hnd : noDefer ops = true) {i : Nat} {a : Act} {K : Act → Prop} {K' : Act → World → Prop} {Q' : Exit → Act → World → Prop} (h : ∀ a, K a → K' a w) (hh : stOp P ops w i K a) : wpOpIn (Fence.wide.inRound l) n P ops Q' i K' a w := by
  unfold stOp at hh
  unfold wpOpIn
  split
  · rename_i ho; simp only [ho] at hh; exact h _ hh
  · rename_i o ho
    simp only [ho] at hh
    split
    · rename_i hw
      simp only [hw, if_true] at hh
      unfold Oper.still at hh
      unfold Oper.wpIn
      refine ⟨fun f _ => trivial, ?_⟩
      rw [Oper.semAt_eq _ _ _ (fun c => noDefer_spec hnd i o c ho)]
      generalize (execOp a.eval o).run P w = r at *
      cases r with
      | ok x w' =>
        cases x <;> simp only [Oper.stillUpon] at hh <;> simp only [Oper.uponIn]
        case enter f args =>
          obtain ⟨rfl, v, hc, hn⟩ := hh
          refine ⟨fun hd => (by cases hd), (CallsIn.inRound l (callsIn_wide.2 hc)).mono ?_⟩
          rintro e w'' ⟨rfl, rfl⟩
          exact h _ hn
        all_goals (obtain ⟨rfl, h2⟩ := hh; exact h _ h2)
      | halt x w' => simp only [Oper.stillUpon] at hh
    · rename_i hw; simp only [hw] at hh; exact ⟨fun f _ => trivial, h _ hh⟩

theorem wpAnyIn_of_still (hnd : noDefer ops = true) {Q : Act → Prop} {Q' : Exit → Act → World → Prop} (hQ : ∀ a, Q a → Q' .normal a w) : ∀ (fuel : Nat) (listed : Array Bool) (a : Act),
    wpAnyS P .any ops w Q fuel listed a → wpAnyIn (Fence.wide.inRound l) n P .any ops Q' fuel listed a w
  | 0, _, _, h => ⟨h.1, hQ _ h.2⟩
  | fuel + 1, _, _, h => ⟨fun h0 => hQ _ (h.1 h0), fun i hi => wpOpIn_of_stOp hnd (fun a' => wpAnyIn_of_still hnd hQ fuel _ a') (h.2 i hi)⟩

/-- The reads in the order of the text. -/
def wpRead (P : Program) (ops : Array Oper) (w : World) (Q : Act → Prop) : List Oper → Act → Prop
  | [], a => Q a
  | o :: rest, a => ∃ v, YieldsAt P ops w o v a ∧ wpRead P ops w Q rest (a.put o.dst v)
theorem wpRead_still {Q : Act → Prop} : ∀ (l : List Oper) (a : Act), wpRead P ops w Q l a → wpStill P ops w Q l a
  | [], _, h => h
  | o :: rest, a, ⟨v, hy, h⟩ => by
    have h := wpRead_still rest _ h
    unfold wpStill
    rcases hy with ⟨hw, hv | ⟨hv, rfl⟩ | ⟨f, args, hv, hc⟩⟩ | ⟨hw, rfl⟩
    · simp only [hw, if_true, Oper.still, hv, Oper.stillUpon]; exact ⟨trivial, h⟩
    · simp only [hw, if_true, Oper.still, hv, Oper.stillUpon]; exact ⟨trivial, h⟩
    · simp only [hw, if_true, Oper.still, hv, Oper.stillUpon]; exact ⟨trivial, v, hc, h⟩
    · simp only [hw, Bool.false_eq_true, if_false]; exact h
theorem wpRead_nil {Q : Act → Prop} {a : Act} (h : Q a) : wpRead P ops w Q [] a := h
theorem wpRead_take {Q : Act → Prop} {a : Act} {o : Oper} {rest : List Oper} {v : Value} (hw : Region.wanted o (yielded ops a.tmps) = true) (hy : (execOp a.eval o).run P w = .ok (.value v) w) (h : wpRead P ops w Q rest (a.put o.dst v)) : wpRead P ops w Q (o :: rest) a := ⟨v, .inl ⟨hw, .inl hy⟩, h⟩
theorem wpRead_skip {Q : Act → Prop} {a : Act} {o : Oper} {rest : List Oper} (hw : Region.wanted o (yielded ops a.tmps) = false) (h : wpRead P ops w Q rest (a.put o.dst undef)) : wpRead P ops w Q (o :: rest) a := ⟨undef, .inr ⟨hw, rfl⟩, h⟩

/-- A region that only reads, in a round. -/
theorem wpIn_region_reads {id : Nat} {Q : Exit → Act → World → Prop} {a : Act} {lo : List Oper} (hm : P.follows .mixedOrders = true) (hB : Region.lexB .any lo.toArray = true) (hnd : noDefer lo.toArray = true)
    (h : wpRead P lo.toArray w.drew (fun a' => Q .normal a' w.drew) lo a) : (Code.region id lo.toArray true).wpIn (Fence.wide.inRound l) n P Q a w := by
  simp only [Region.lexB, Bool.and_eq_true] at hB
  refine wpIn_region_any hm (wpAnyIn_of_still (w := w.drew) hnd (Q := fun a' => Q .normal a' w.drew) (fun _ h => h) _ _ _ ?_)
  have := wpAnyS_lex (md := .any) hB.1 lo 0 (Array.replicate lo.toArray.size false) a (by simp) (by simpa using hB.2) (wpRead_still _ _ h)
  simpa using this

/-! ### A function whose body holds a range over a function -/
theorem calls_of_wp_marks {P : Program} {f : FuncId} {fn : Func} {c : Code} {args : Array Value} {w : World} {R : Ending → World → Prop} (hf : P.funcs[f]? = some fn) (hb : fn.body = some c)
    (h : c.wp P (bodyPostM Fence.wide 3 P fn R) { tmps := args ++ Array.replicate (fn.ntmps - args.size) undef, defers := [] } w) : Calls P f args w R :=
  (callsIn_wide (n := 3)).1 (callsIn_of_wp_marks hf hb trivial (wpIn_wide.2 h) rfl)
theorem plainPost_ret {P : Program} {fn : Func} {R : Ending → World → Prop} {tmps : Array Value} {w : World} {v : Value} (hr : (results fn tmps).run P w = .ok v w) (hR : R (.returned v) w) :
    bodyPostM Fence.wide 3 P fn R .ret { tmps := tmps, defers := [] } w := ⟨v, hr, hR⟩
theorem markPost_ret {P : Program} {fn : Func} {R : Ending → World → Prop} {tmps : Array Value} {w : World} {v : Value} {D : Nat} (hK : w.heap[D]? = some (.deferred (some []))) (hr : (results fn tmps).run P (w.putObj D (.deferred none)) = .ok v (w.putObj D (.deferred none)))
    (hR : R (.returned v) (w.putObj D (.deferred none))) : bodyPostM Fence.wide 3 P fn R .ret { tmps := tmps, defers := [{ target := .collected D, args := #[] }] } w :=
  ⟨by simp, .inl ⟨_, _, rfl, run_takeDeferred hK, ⟨v, hr, hR⟩⟩⟩
end
end Go.Proofs.YtjjnbbkdjimcoaaGreat

namespace Go.Proofs.YtjjnbbkdjimcoaaGreat

theorem tasksOk_sub {room : List Int} {a b : List Tk} (h : tasksOk room b = true) (hs : a.Sublist b) : tasksOk room a = true := by
  simp only [tasksOk, Bool.and_eq_true, decide_eq_true_eq] at h ⊢
  refine ⟨⟨⟨h.1.1.1, by have := hs.length_le; omega⟩, ?_⟩, h.2.sublist (hs.map _)⟩
  rw [List.all_eq_true] at *
  exact fun x hx => h.1.2 x (hs.subset hx)
theorem bin_sub {bs : List (List Tk)} {i : Nat} (hi : i < bs.length) : (bs[i]?.getD []).Sublist bs.flatten := by
  rw [List.getElem?_eq_getElem hi]
  exact List.sublist_flatten_of_mem (List.getElem_mem hi)
theorem mem_rooms {room : List Int} {bs : List (List Tk)} {xs : List Int} {k i : Nat} : i ∈ roomsTo room bs xs k ↔ i < k ∧ roomB room bs xs i = true := by
  simp [roomsTo, List.mem_filter]
end Go.Proofs.YtjjnbbkdjimcoaaGreat

namespace Go.Proofs.YtjjnbbkdjimcoaaGreat
open Go Go.RowKit Go.Shelf
attribute [local go_sem] Oper.semAt_some

/-- The first node with room, or -1. -/
def firstP (room : List Int) (bs : List (List Tk)) (xs : List Int) : Int := match (roomsTo room bs xs bs.length).head? with | some i => (i : Int) | none => -1
def firstAtP (room : List Int) (bs : List (List Tk)) (t : Tk) : Int := if comeOk room bs t = true then firstP room bs t.2 else -1
theorem rooms_head {room : List Int} {bs : List (List Tk)} {xs : List Int} {k i : Nat} (hk : k + 1 ≤ bs.length) (h : roomsTo room bs xs (k + 1) = [i]) : firstP room bs xs = (i : Int) := by
  have e : roomsTo room bs xs bs.length = [i] ++ ((List.range' (k + 1) (bs.length - (k + 1))).filter (roomB room bs xs)) := by
    rw [← h]
    unfold roomsTo
    have e2 := List.range'_append_1 (s := 0) (m := k + 1) (n := bs.length - (k + 1))
    rw [Nat.zero_add] at e2
    rw [← List.filter_append, List.range_eq_range', List.range_eq_range', e2]
    congr 2
    omega
  unfold firstP
  rw [e]
  rfl
theorem first_neg {room : List Int} {bs : List (List Tk)} {xs : List Int} : firstP room bs xs = -1 ↔ roomsTo room bs xs bs.length = [] := by
  unfold firstP
  cases roomsTo room bs xs bs.length with
  | nil => simp
  | cons i l => simp

/-- The round has left by a return: the node lies in block b. -/
def LeftAt (b : Nat) (w : World) (n : Nat) (c : Code) (pre : List (IxV n)) (W : World) : Prop :=
  c = .ret ∧ ∃ x : IxV n, pre = [x] ∧ W.cell? ⟨b, 0, none⟩ = some (.int .i64 (x.1.1 : Int)) ∧ b < W.heap.size ∧ Below w.heap.size w W

end Go.Proofs.YtjjnbbkdjimcoaaGreat

namespace Go.Proofs.YtjjnbbkdjimcoaaGreat
open Go.RowKit

set_option maxHeartbeats 400000 in
theorem hasId1_any (i id : Int) (A : Option Addr) (m c g : Nat) (w : World) (hc : w.cell? ⟨g, 0, none⟩ = some (.int .i64 id)) :
    Calls Tryz.prog 134 #[.agg #[.int .i64 i, .slice A m c], .pointer (some ⟨g, 0, none⟩)] w fun e w' => e = .returned (.bool (i == id)) ∧ w.alloc (.cells #[.int .i64 i, .slice A m c] 43) = w' := by
  have hg := World.block_lt_of_cell? w _ hc
  have hc' := (World.cell?_alloc_lt w (.cells #[.int .i64 i, .slice A m c] 43) ⟨g, 0, none⟩ hg).trans hc
  go_enter Tryz.func134, Tryz.ntmps134
  go_wp2
  go_ret
  exact ⟨rfl, rfl⟩

set_option maxHeartbeats 400000 in
theorem hasId_any (id : Int) (w : World) :
    Calls Tryz.prog 114 #[.int .i64 id] w fun e w' => e = .returned (.func (.func 134) #[] #[.pointer (some ⟨w.heap.size, 0, none⟩)]) ∧ w.alloc (.cells #[.int .i64 id] 3) = w' := by
  go_enter Tryz.func114, Tryz.ntmps114
  go_wp2
  go_ret
  exact ⟨rfl, rfl⟩

/-- The place of a task with a number among tasks, or -1. -/
def atP (ts : List Tk) (id : Int) : Int := idxP (fun t => t.1 == id) ts
theorem atP_ge (ts : List Tk) (id : Int) : decide (0 ≤ atP ts id) = hasP ts id := idxP_ge _ _

set_option maxRecDepth 100000 in
set_option maxHeartbeats 800000 in
theorem indexT_any (A : Option Addr) (n c g : Nat) (ts : List Tk) (id : Int) (w : World) (h : RdT w w.heap.size A n ts) (hc : w.cell? ⟨g, 0, none⟩ = some (.int .i64 id)) :
    Calls Tryz.prog 132 #[.slice A n c, .func (.func 134) #[] #[.pointer (some ⟨g, 0, none⟩)]] w fun e w' => e = .returned (.int .i64 (atP ts id)) ∧ Below w.heap.size w w' := by
  have hg := World.block_lt_of_cell? w _ hc
  have hn := h.le
  have hl := qh h.len
  have H := qh h
  have Hc := qh hc
  clear h hc
  go_enter Tryz.func132, Tryz.ntmps132
  go_wp2
  go_loopw [8] (fun i wr => ∃ k : Nat, i = .int .i64 k ∧ k ≤ n ∧ Below w.heap.size w wr ∧ (∀ j, j < k → ((ts[j]?.getD (0, [])).1 == id) = false)) (fun i _ => n - (intOf i).toNat)
  case atStart => exact ⟨0, rfl, Nat.zero_le _, Below.refl _ _, by intro j hj; omega⟩
  case round =>
    obtain ⟨k, rfl, hk, hbel, hall⟩ := hrel
    have Hall := qh hall
    clear hall
    by_cases hlt : k < n
    · obtain ⟨b, o, A', m', c', rfl, hb, hc1, hc2, hmc, hrd⟩ := (H.out.below hbel).at_ hlt
      have lz := hbel.size
      have hkl : Hid (k < ts.length) := by have := hl.out; show _ < _; omega
      have ecall := hasId1_any (ts[k]?.getD (0, [])).1 id A' m' c' g wr ((hbel.cell (p := ⟨g, 0, none⟩) hg).trans Hc.out)
      clear hrd
      by_cases hh : ((ts[k]?.getD (0, [])).1 == id) = true
      · rw [hh] at ecall
        have Ecall := qh ecall
        have Hh := qh hh
        clear ecall hh
        go_wp2_with (go_at_call 134; refine Ecall.out.mono ?_; rintro e w1 ⟨rfl, rfl⟩)
        go_ret
        exact ⟨ret_int (idxP_some (d := (0, [])) hkl.out Hh.out Hall.out).symm, hbel.alloc lz _⟩
      · have hh : ((ts[k]?.getD (0, [])).1 == id) = false := by simpa using hh
        rw [hh] at ecall
        have Ecall := qh ecall
        have Hh := qh hh
        clear ecall hh
        go_wp2_with (go_at_call 134; refine Ecall.out.mono ?_; rintro e w1 ⟨rfl, rfl⟩)
        go_roundw
        case rel => exact ⟨k + 1, by go_num, by omega, hbel.alloc lz _, fun j hj => by
          by_cases e : j = k
          · rw [e]; exact Hh.out
          · exact Hall.out j (by omega)⟩
        case measure => simp [intOf]; omega
    · go_wp2
      go_ret
      exact ⟨ret_int (idxP_none (d := (0, [])) (fun j hj => Hall.out j (by have := hl.out; omega))).symm, hbel⟩

set_option maxHeartbeats 400000 in
theorem containsT_any (A : Option Addr) (n c g : Nat) (ts : List Tk) (id : Int) (w : World) (h : RdT w w.heap.size A n ts) (hc : w.cell? ⟨g, 0, none⟩ = some (.int .i64 id)) :
    Calls Tryz.prog 113 #[.slice A n c, .func (.func 134) #[] #[.pointer (some ⟨g, 0, none⟩)]] w fun e w' => e = .returned (.bool (hasP ts id)) ∧ Below w.heap.size w w' := by
  have H := qh h
  have Hc := qh hc
  clear h hc
  go_enter Tryz.func113, Tryz.ntmps113
  go_wp2_with (go_at_call 132; refine (indexT_any _ _ _ _ _ _ _ H.out Hc.out).mono ?_; rintro e w' ⟨rfl, hb1⟩)
  go_ret
  exact ⟨ret_bool (atP_ge _ _), hb1⟩

set_option maxHeartbeats 400000 in
theorem whereOf1_any (A : Option Addr) (n c g : Nat) (ts : List Tk) (id : Int) (w : World) (h : RdT w w.heap.size A n ts) (hc : w.cell? ⟨g, 0, none⟩ = some (.int .i64 id)) :
    Calls Tryz.prog 112 #[.slice A n c, .pointer (some ⟨g, 0, none⟩)] w fun e w' => e = .returned (.bool (hasP ts id)) ∧ Below w.heap.size w w' := by
  have H := qh h
  clear h
  have hal : Below w.heap.size w (w.alloc (.cells #[.int .i64 id] 3)) := (Below.refl _ _).alloc (Nat.le_refl _) _
  have hnew : Hid ((w.alloc (.cells #[.int .i64 id] 3)).cell? ⟨w.heap.size, 0, none⟩ = some (.int .i64 id)) := by show _ = _; rw [(Blk.new w 3 #[.int .i64 id]).cell]; rfl
  go_enter Tryz.func112, Tryz.ntmps112
  go_wp2_with (first
    | (go_at_call 114; refine (hasId_any _ _).mono ?_; rintro e w' ⟨rfl, rfl⟩)
    | (go_at_call 113; refine (containsT_any _ _ _ _ _ _ _ (H.out.up hal) hnew.out).mono ?_; rintro e w' ⟨rfl, hb1⟩))
  go_ret
  exact ⟨rfl, hal.trans (hb1.mono (by simp))⟩

set_option maxRecDepth 100000 in
set_option maxHeartbeats 800000 in
theorem indexB_any (A : Option Addr) (n c g : Nat) (bs : List (List Tk)) (id : Int) (w : World) (h : RdB w w.heap.size A n bs) (hc : w.cell? ⟨g, 0, none⟩ = some (.int .i64 id)) :
    Calls Tryz.prog 111 #[.slice A n c, .func (.func 112) #[] #[.pointer (some ⟨g, 0, none⟩)]] w fun e w' => e = .returned (.int .i64 (whereP bs id)) ∧ Below w.heap.size w w' := by
  have hg := World.block_lt_of_cell? w _ hc
  have hn := h.le
  have hl := qh h.len
  have H := qh h
  have Hc := qh hc
  clear h hc
  go_enter Tryz.func111, Tryz.ntmps111
  go_wp2
  go_loopw [8] (fun i wr => ∃ k : Nat, i = .int .i64 k ∧ k ≤ n ∧ Below w.heap.size w wr ∧ (∀ j, j < k → hasP (bs[j]?.getD []) id = false)) (fun i _ => n - (intOf i).toNat)
  case atStart => exact ⟨0, rfl, Nat.zero_le _, Below.refl _ _, by intro j hj; omega⟩
  case round =>
    obtain ⟨k, rfl, hk, hbel, hall⟩ := hrel
    have Hall := qh hall
    clear hall
    by_cases hlt : k < n
    · obtain ⟨b, o, A', m', c', rfl, hb, hc1, hmc, hrd⟩ := (H.out.below hbel).at_ hlt
      have lz := hbel.size
      have hkl : Hid (k < bs.length) := by have := hl.out; show _ < _; omega
      have ecall := whereOf1_any A' m' c' g _ id wr (hrd.more lz) ((hbel.cell (p := ⟨g, 0, none⟩) hg).trans Hc.out)
      clear hrd
      by_cases hh : hasP (bs[k]?.getD []) id = true
      · rw [hh] at ecall
        have Ecall := qh ecall
        have Hh := qh hh
        clear ecall hh
        go_wp2_with (go_at_call 112; refine Ecall.out.mono ?_; rintro e w1 ⟨rfl, hb1⟩)
        go_ret
        exact ⟨ret_int (whereP_some hkl.out Hh.out Hall.out).symm, hbel.trans (hb1.mono lz)⟩
      · have hh : hasP (bs[k]?.getD []) id = false := by simpa using hh
        rw [hh] at ecall
        have Ecall := qh ecall
        have Hh := qh hh
        clear ecall hh
        go_wp2_with (go_at_call 112; refine Ecall.out.mono ?_; rintro e w1 ⟨rfl, hb1⟩)
        go_roundw
        case rel => exact ⟨k + 1, by go_num, by omega, hbel.trans (hb1.mono lz), fun j hj => by
          by_cases e : j = k
          · rw [e]; exact Hh.out
          · exact Hall.out j (by omega)⟩
        case measure => simp [intOf]; omega
    · go_wp2
      go_ret
      exact ⟨ret_int (whereP_none (fun j hj => Hall.out j (by have := hl.out; omega))).symm, hbel⟩

set_option maxHeartbeats 400000 in
theorem whereOf_any (A : Option Addr) (n c : Nat) (bs : List (List Tk)) (id : Int) (w : World) (h : RdB w w.heap.size A n bs) :
    Calls Tryz.prog 74 #[.slice A n c, .int .i64 id] w fun e w' => e = .returned (.int .i64 (whereP bs id)) ∧ Below w.heap.size w w' := by
  have H := qh h
  clear h
  have hal : Below w.heap.size w (w.alloc (.cells #[.int .i64 id] 3)) := (Below.refl _ _).alloc (Nat.le_refl _) _
  have hnew : Hid ((w.alloc (.cells #[.int .i64 id] 3)).cell? ⟨w.heap.size, 0, none⟩ = some (.int .i64 id)) := by show _ = _; rw [(Blk.new w 3 #[.int .i64 id]).cell]; rfl
  go_enter Tryz.func74, Tryz.ntmps74
  go_wp2_with (go_at_call 111; refine (indexB_any _ _ _ _ _ _ _ (H.out.up hal) hnew.out).mono ?_; rintro e w' ⟨rfl, hb1⟩)
  go_ret
  exact ⟨rfl, hal.trans (hb1.mono (by simp))⟩

end Go.Proofs.YtjjnbbkdjimcoaaGreat
