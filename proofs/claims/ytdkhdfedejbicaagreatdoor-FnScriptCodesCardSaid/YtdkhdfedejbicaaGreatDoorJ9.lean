/- Several texts in one. -/
import Derived.Test.YtdkhdfedejbicaaGreatDoorJ3
import Derived.RangeFuncNested
import Derived.RangeFuncBound
import Derived.RangeFuncCalls
import Derived.RangeFuncLeaves
import Derived.RangeFuncFrom
import Derived.Shelf.Abstract
import Derived.OwnWalkIn
import Derived.TacticsInMore
import Derived.LoopNIn
import Derived.LoopIn
import Derived.StillTactics
import Derived.OrdersIn
namespace Go.Proofs.YtdkhdfedejbicaaGreatDoor
open Go Go.RowKit Go.Shelf
attribute [local go_sem] Oper.semAt_some

def KpG (B g : Nat) (A W : World) : Prop := A.heap.size ≤ W.heap.size ∧ ∀ b, b < B → b ≠ g → W.heap[b]? = A.heap[b]?
theorem KpG.refl (B g : Nat) (A : World) : KpG B g A A := ⟨Nat.le_refl _, fun _ _ _ => rfl⟩
theorem KpG.trans {B g : Nat} {A W V : World} (h : KpG B g A W) (k : KpG B g W V) : KpG B g A V := ⟨Nat.le_trans h.1 k.1, fun b h1 h2 => (k.2 b h1 h2).trans (h.2 b h1 h2)⟩
theorem KpG.below {B g : Nat} {A W : World} (h : Below A.heap.size A W) (hB : B ≤ A.heap.size) : KpG B g A W := ⟨h.size, fun b h1 _ => h.block b (by omega)⟩
theorem KpG.put {B g : Nat} {w : World} (hB : B ≤ w.heap.size) (W : World) (l : Nat) (o' : Obj) (hl : w.heap.size ≤ l) : KpG B g W (W.putObj l o') :=
  ⟨by simp, fun b h1 _ => World.putObj_heap_other (by omega)⟩
theorem KpG.cell {B g : Nat} {A W : World} (h : KpG B g A W) {p : Addr} (h1 : p.block < B) (h2 : p.block ≠ g) : W.cell? p = A.cell? p := World.cell?_of_block (h.2 p.block h1 h2)

def roomB (room : List Int) (bs : List (List Tk)) (xs : List Int) (k : Nat) : Bool := fits3 (add3 (loadP (bs[k]?.getD [])) xs) room
def roomsTo (room : List Int) (bs : List (List Tk)) (xs : List Int) (k : Nat) : List Nat := (List.range k).filter (roomB room bs xs)
theorem roomsTo_yes {room : List Int} {bs : List (List Tk)} {xs : List Int} {k : Nat} (h : roomB room bs xs k = true) : roomsTo room bs xs (k + 1) = roomsTo room bs xs k ++ [k] := by
  simp [roomsTo, List.range_succ, h]
theorem roomsTo_no {room : List Int} {bs : List (List Tk)} {xs : List Int} {k : Nat} (h : roomB room bs xs k = false) : roomsTo room bs xs (k + 1) = roomsTo room bs xs k := by
  simp [roomsTo, List.range_succ, h]
theorem below_grown {w w' : World} (h : Below w.heap.size w w') : w.grownBy w' none := ⟨h.os, h.tape, h.output, h.size, fun k hk _ => h.block k hk⟩


structure RoomBox (w : World) (lo n₀ g gb gr gx : Nat) (A1 : Option Addr) (n1 c1 : Nat) (A2 : Option Addr) (n2 c2 : Nat) (A3 : Option Addr) (c3 : Nat) (room : List Int) (bs : List (List Tk)) (id : Int) (xs : List Int) : Prop where
  b : w.cell? ⟨gb, 0, none⟩ = some (.slice A2 n2 c2)
  r : w.cell? ⟨gr, 0, none⟩ = some (.slice A1 n1 c1)
  x0 : w.cell? ⟨gx, 0, none⟩ = some (.int .i64 id)
  x1 : w.cell? ⟨gx, 1, none⟩ = some (.slice A3 3 c3)
  lt : gb < n₀ ∧ gr < n₀ ∧ gx < n₀ ∧ lo ≤ n₀ ∧ lo ≤ g
  ne : gb ≠ g ∧ gr ≠ g ∧ gx ≠ g
  room : RdI w lo A1 n1 room
  bins : RdB w lo A2 n2 bs
  need : RdI w lo A3 3 xs
theorem RoomBox.keep {w w' : World} {lo n₀ g gb gr gx n1 c1 n2 c2 c3 : Nat} {A1 A2 A3 : Option Addr} {room : List Int} {bs : List (List Tk)} {id : Int} {xs : List Int} (h : RoomBox w lo n₀ g gb gr gx A1 n1 c1 A2 n2 c2 A3 c3 room bs id xs) (k : KpG n₀ g w w') :
    RoomBox w' lo n₀ g gb gr gx A1 n1 c1 A2 n2 c2 A3 c3 room bs id xs := by
  obtain ⟨l1, l2, l3, l4, l5⟩ := h.lt
  obtain ⟨e1, e2, e3⟩ := h.ne
  have hk : ∀ p : Addr, p.block < lo → w'.cell? p = w.cell? p := fun p hp => k.cell (by omega) (by omega)
  exact ⟨(k.cell (p := ⟨gb, 0, none⟩) l1 e1).trans h.b, (k.cell (p := ⟨gr, 0, none⟩) l2 e2).trans h.r, (k.cell (p := ⟨gx, 0, none⟩) l3 e3).trans h.x0, (k.cell (p := ⟨gx, 1, none⟩) l3 e3).trans h.x1, h.lt, h.ne, h.room.keep hk (Nat.le_refl _), h.bins.keep hk (Nat.le_refl _), h.need.keep hk (Nat.le_refl _)⟩

abbrev IxV (n : Nat) := { x : Nat × Value // x.1 < n }

set_option maxRecDepth 100000 in
set_option maxHeartbeats 2000000 in
theorem withRoom1_stops (N : Nat) (hN : 1 ≤ N) (lo n₀ g gb gr gx : Nat) (A1 A2 A3 : Option Addr) (n1 c1 n2 c2 c3 : Nat) (room : List Int) (bs : List (List Tk)) (id : Int) (xs : List Int) (w : World) (h : RoomBox w lo n₀ g gb gr gx A1 n1 c1 A2 n2 c2 A3 c3 room bs id xs)
    (hn₀ : n₀ ≤ w.heap.size) (hn1 : 3 ≤ n1) (hbs : ∀ k, k < n2 → (bs[k]?.getD []).length ≤ 900 ∧ ∀ t ∈ bs[k]?.getD [], vecOk t.2 = true) (hx : ∀ j, j < 3 → -1000000 ≤ xs[j]?.getD 0 ∧ xs[j]?.getD 0 ≤ 1000000) :
    SeqStopsK Fence.wide N Tryz.prog 196 #[.pointer (some ⟨gb, 0, none⟩), .pointer (some ⟨gr, 0, none⟩), .pointer (some ⟨gx, 0, none⟩)] (fun x : IxV n2 => #[Value.int .i64 (x.1.1 : Int), x.1.2]) (KpG n₀ g)
      (fun ys => ys.map (·.1.1) = roomsTo room bs xs n2) (fun pre => ∃ k, k < n2 ∧ roomB room bs xs k = true ∧ pre.map (·.1.1) = roomsTo room bs xs (k + 1)) n2 w := fun l J Jx W hW hJ hJx hY h0 => by
  have hl := qh h.bins.len
  have hle := h.bins.le
  have HBX := qh (h.keep (w' := W) (KpG.below hW hn₀))
  have Hx := qh hx
  have Hbs := qh hbs
  have HW := qh (show n₀ ≤ W.heap.size from Nat.le_trans hn₀ hW.size)
  have HJ := qh hJ
  have HY := qh hY
  have hb0 := HBX.out.b
  clear h hx hbs hJ hY hW
  refine callsIn_of_wp Tryz.func196 rfl trivial ?_ rfl
  simp only [Tryz.ntmps196, List.size_toArray, List.length_cons, List.length_nil, Nat.reduceAdd, Nat.reduceSub, Array.replicate_succ, Array.replicate_zero, List.push_toArray, List.append_toArray, List.nil_append, List.cons_append]
  gi_wp2
  gi_loopw [9] (fun i wr => ∃ (k : Nat) (ys : List (IxV n2)), k ≤ n2 ∧ i = .int .i64 k ∧ Hid (ys.map (·.1.1) = roomsTo room bs xs k) ∧ J ys wr ∧ KpG n₀ g W wr) (fun i _ => n2 - (intOf i).toNat)
  case atStart => exact ⟨0, [], Nat.zero_le _, rfl, qh rfl, h0, KpG.refl _ _ _⟩
  case round =>
    obtain ⟨k, ys, hk, rfl, hys, hJs, hkp⟩ := hrel
    have HJs := qh hJs
    have BX := qh (HBX.out.keep hkp)
    have HK := qh hkp
    clear hJs hkp hb0
    by_cases hlt : k < n2
    · obtain ⟨b, o, A', m, c', rfl, hb, hc, hmc, hrd⟩ := BX.out.bins.at_ hlt
      have hr0 := BX.out.r
      have hx0 := BX.out.x0
      have hx1 := BX.out.x1
      have hlw := BX.out.lt
      have hsz := HK.out.1
      have hWz := HW.out
      have lo_ok := load_ok (Hbs.out k hlt).2
      have ecall := hasRoom_any A1 A' A3 n1 c1 m c' c3 room (bs[k]?.getD []) id xs wr (BX.out.room.more (by omega)) (hrd.more (by omega)) (BX.out.need.more (by omega)) hn1 (by have := (Hbs.out k hlt).1; have := hrd.len; omega) (fun j hj => lo_ok.1 j (by have := hrd.len; omega)) lo_ok.2 Hx.out
      have Hrd := qh hrd
      clear lo_ok hrd
      by_cases hro : roomB room bs xs k = true
      · rw [show fits3 (add3 (loadP (bs[k]?.getD [])) xs) room = true from hro] at ecall
        have Ecall := qh ecall
        have Hro := qh hro
        clear ecall hro
        gi_wp2_with fail
        refine ⟨trivial, ?_⟩
        gi_at_call 165
        refine (callsIn_wide.2 Ecall.out).mono ?_; rintro e w1 ⟨rfl, hb1⟩
        have J1 := HJ.out _ _ _ none HJs.out (below_grown hb1) (fun r e => by cases e)
        obtain ⟨fn, tmps, assign, body, hy, hR⟩ := HY.out ys ⟨(k, .slice A' m c'), hlt⟩ w1 J1 (by have := congrArg List.length hys.out; simp [roomsTo] at this; have h2 := List.length_filter_le (roomB room bs xs) (List.range k); simp at h2; omega)
        dsimp only at hy
        clear J1
        have HK1 := qh (HK.out.trans (KpG.below hb1 (by omega)))
        have Hro2 := roomsTo_yes Hro.out
        gi_wp2
        refine hR.mono ?_
        rintro e W3 (⟨rfl, hJ3, hk3⟩ | ⟨rfl, hJx3⟩)
        · have HJ3 := qh hJ3
          have HK3 := qh (HK1.out.trans hk3)
          have Hro3 := qh Hro2
          clear hJ3 hk3 Hro2
          gi_wp2
          go_roundw
          case rel => exact ⟨k + 1, _, by omega, by simp, qh (by rw [Hro3.out, ← hys.out, List.map_append]; rfl), HJ3.out, HK3.out⟩
          case measure => simp [intOf]; omega
        · have Hro3 := qh Hro2
          have HJ3 := qh hJx3
          clear Hro2 hJx3
          gi_wp2
          refine bodyPost_ret (results_none rfl _ _ _) rfl ?_
          exact ⟨⟨_, rfl⟩, .inr ⟨_, ⟨k, hlt, Hro.out, by rw [Hro3.out, ← hys.out, List.map_append]; rfl⟩, HJ3.out⟩⟩
      · have hro : roomB room bs xs k = false := by simpa using hro
        rw [show fits3 (add3 (loadP (bs[k]?.getD [])) xs) room = false from hro] at ecall
        have Ecall := qh ecall
        have Hro := qh hro
        clear ecall hro
        gi_wp2_with fail
        refine ⟨trivial, ?_⟩
        gi_at_call 165
        refine (callsIn_wide.2 Ecall.out).mono ?_; rintro e w1 ⟨rfl, hb1⟩
        gi_wp2_with fail
        refine ⟨fun _ h => (by cases h), ?_⟩
        gi_wp2
        go_roundw
        case rel => exact ⟨k + 1, ys, by omega, by simp, qh (by rw [roomsTo_no Hro.out]; exact hys.out), HJ.out _ _ _ none HJs.out (below_grown hb1) (fun r e => by cases e), HK.out.trans (KpG.below hb1 (by omega))⟩
        case measure => simp [intOf]; omega
    · have ek : k = n2 := by omega
      have Ek := qh ek
      clear ek
      gi_wp2
      go_end0
      exact ⟨⟨_, rfl⟩, .inl ⟨_, by have := hys.out; rwa [Ek.out] at this, HJs.out⟩⟩

end Go.Proofs.YtdkhdfedejbicaaGreatDoor

namespace Go.Proofs.YtdkhdfedejbicaaGreatDoor
open Go Go.RowKit

section
variable {P : Program} {ops : Array Oper} {w : World} {l n : Nat}

/-! ### A function whose body holds a range over a function -/
theorem calls_of_wp_marks {P : Program} {f : FuncId} {fn : Func} {c : Code} {args : Array Value} {w : World} {R : Ending → World → Prop} (hf : P.funcs[f]? = some fn) (hb : fn.body = some c)
    (h : c.wp P (bodyPostM Fence.wide 3 P fn R) { tmps := args ++ Array.replicate (fn.ntmps - args.size) undef, defers := [] } w) : Calls P f args w R :=
  (callsIn_wide (n := 3)).1 (callsIn_of_wp_marks hf hb trivial (wpIn_wide.2 h) rfl)
theorem markPost_ret {P : Program} {fn : Func} {R : Ending → World → Prop} {tmps : Array Value} {w : World} {v : Value} {D : Nat} (hK : w.heap[D]? = some (.deferred (some []))) (hr : (results fn tmps).run P (w.putObj D (.deferred none)) = .ok v (w.putObj D (.deferred none)))
    (hR : R (.returned v) (w.putObj D (.deferred none))) : bodyPostM Fence.wide 3 P fn R .ret { tmps := tmps, defers := [{ target := .collected D, args := #[] }] } w :=
  ⟨by simp, .inl ⟨_, _, rfl, run_takeDeferred hK, ⟨v, hr, hR⟩⟩⟩
end
end Go.Proofs.YtdkhdfedejbicaaGreatDoor

namespace Go.Proofs.YtdkhdfedejbicaaGreatDoor

theorem tasksOk_sub {room : List Int} {a b : List Tk} (h : tasksOk room b = true) (hs : a.Sublist b) : tasksOk room a = true := by
  simp only [tasksOk, Bool.and_eq_true, decide_eq_true_eq] at h ⊢
  refine ⟨⟨⟨h.1.1.1, by have := hs.length_le; omega⟩, ?_⟩, h.2.sublist (hs.map _)⟩
  rw [List.all_eq_true] at *
  exact fun x hx => h.1.2 x (hs.subset hx)
theorem bin_sub {bs : List (List Tk)} {i : Nat} (hi : i < bs.length) : (bs[i]?.getD []).Sublist bs.flatten := by
  rw [List.getElem?_eq_getElem hi]
  exact List.sublist_flatten_of_mem (List.getElem_mem hi)
theorem mem_rooms {room : List Int} {bs : List (List Tk)} {xs : List Int} {k i : Nat} : i ∈ roomsTo room bs xs k ↔ i < k ∧ roomB room bs xs i = true := by
  simp [roomsTo, List.mem_filter]
end Go.Proofs.YtdkhdfedejbicaaGreatDoor

namespace Go.Proofs.YtdkhdfedejbicaaGreatDoor
open Go Go.RowKit Go.Shelf
attribute [local go_sem] Oper.semAt_some

def firstP (room : List Int) (bs : List (List Tk)) (xs : List Int) : Int := match (roomsTo room bs xs bs.length).head? with | some i => (i : Int) | none => -1
theorem rooms_head {room : List Int} {bs : List (List Tk)} {xs : List Int} {k i : Nat} (hk : k + 1 ≤ bs.length) (h : roomsTo room bs xs (k + 1) = [i]) : firstP room bs xs = (i : Int) := by
  have e : roomsTo room bs xs bs.length = [i] ++ ((List.range' (k + 1) (bs.length - (k + 1))).filter (roomB room bs xs)) := by
    rw [← h]
    unfold roomsTo
    have e2 := List.range'_append_1 (s := 0) (m := k + 1) (n := bs.length - (k + 1))
    rw [Nat.zero_add] at e2
    rw [← List.filter_append, List.range_eq_range', List.range_eq_range', e2]
    congr 2
    omega
  unfold firstP
  rw [e]
  rfl
theorem first_neg {room : List Int} {bs : List (List Tk)} {xs : List Int} : firstP room bs xs = -1 ↔ roomsTo room bs xs bs.length = [] := by
  unfold firstP
  cases roomsTo room bs xs bs.length with
  | nil => simp
  | cons i l => simp

def LeftAt (b : Nat) (w : World) (n : Nat) (c : Code) (pre : List (IxV n)) (W : World) : Prop :=
  c = .ret ∧ ∃ x : IxV n, pre = [x] ∧ W.cell? ⟨b, 0, none⟩ = some (.int .i64 (x.1.1 : Int)) ∧ b < W.heap.size ∧ Below w.heap.size w W

set_option maxRecDepth 100000 in
set_option maxHeartbeats 1600000 in
theorem firstOf_any (A1 A2 A5 : Option Addr) (n1 c1 n2 c2 c5 : Nat) (room : List Int) (bs : List (List Tk)) (id : Int) (xs : List Int) (w : World) (h1 : RdI w w.heap.size A1 n1 room) (h2 : RdB w w.heap.size A2 n2 bs) (h5 : RdI w w.heap.size A5 3 xs)
    (hn1 : 3 ≤ n1) (hbs : ∀ k, k < n2 → (bs[k]?.getD []).length ≤ 900 ∧ ∀ t ∈ bs[k]?.getD [], vecOk t.2 = true) (hx : ∀ j, j < 3 → -1000000 ≤ xs[j]?.getD 0 ∧ xs[j]?.getD 0 ≤ 1000000) :
    Calls Tryz.prog 175 #[.slice A1 n1 c1, .slice A2 n2 c2, .agg #[.int .i64 id, .slice A5 3 c5]] w fun e w' => e = .returned (.int .i64 (firstP room bs xs)) ∧ Below w.heap.size w w' := by
  have l2 := qh h2.len
  have H1 := qh h1
  have H2 := qh h2
  have H5 := qh h5
  have Hbs := qh hbs
  have Hx := qh hx
  clear h1 h2 h5 hbs hx
  have B0 := (show Below w.heap.size w ((w.alloc (.cells #[.int .i64 id, .slice A5 3 c5] 75)).alloc (.cells #[.int .i64 0] 3)) from ((Below.refl _ _).alloc (Nat.le_refl _) _).alloc (by simp) _)
  have P0 := (show Blk ((w.alloc (.cells #[.int .i64 id, .slice A5 3 c5] 75)).alloc (.cells #[.int .i64 0] 3)) w.heap.size 75 #[.int .i64 id, .slice A5 3 c5] from (Blk.new w _ _).alloc _)
  have P1 := (show Blk ((w.alloc (.cells #[.int .i64 id, .slice A5 3 c5] 75)).alloc (.cells #[.int .i64 0] 3)) (w.heap.size + 1) 3 #[.int .i64 0] from by
    have := Blk.new (w.alloc (.cells #[.int .i64 id, .slice A5 3 c5] 75)) 3 #[.int .i64 0]
    rwa [World.size_alloc] at this)
  have x0 : ((w.alloc (.cells #[.int .i64 id, .slice A5 3 c5] 75)).alloc (.cells #[.int .i64 0] 3)).cell? ⟨w.heap.size, 0, none⟩ = some (.int .i64 id) := P0.cell 0
  have x1 : ((w.alloc (.cells #[.int .i64 id, .slice A5 3 c5] 75)).alloc (.cells #[.int .i64 0] 3)).cell? ⟨w.heap.size, 1, none⟩ = some (.slice A5 3 c5) := P0.cell 1
  have sz5 : ((w.alloc (.cells #[.int .i64 id, .slice A5 3 c5] 75)).alloc (.cells #[.int .i64 0] 3)).heap.size = w.heap.size + 2 := by simp
  have HB0 := qh B0
  have HP0 := qh P0
  have HP1 := qh P1
  have SZ5 := qh sz5
  clear B0 P0 P1 sz5
  refine calls_of_wp_marks Tryz.func175 rfl ?_
  simp only [Tryz.ntmps175, List.size_toArray, List.length_cons, List.length_nil, Nat.reduceAdd, Nat.reduceSub, Array.replicate_succ, Array.replicate_zero, List.push_toArray, List.append_toArray, List.nil_append, List.cons_append]
  go_wp2_with fail
  generalize (w.alloc (.cells #[.int .i64 id, .slice A5 3 c5] 75)).alloc (.cells #[.int .i64 0] 3) = w5 at HB0 HP0 HP1 SZ5 x0 x1 ⊢
  refine (withRoom_any A1 A2 A5 n1 c1 n2 c2 3 c5 id w5).mono ?_; rintro e w6 ⟨rfl, hw6⟩
  clear x0 x1
  go_wp2_with fail
  have B6 : Below w5.heap.size w5 w6 := by rw [← hw6]; exact (((Below.refl _ _).alloc (Nat.le_refl _) _).alloc (by simp) _).alloc (by simp; omega) _
  have sz6 : w6.heap.size = w5.heap.size + 3 := by rw [← hw6]; simp
  have q1 : w6.cell? ⟨w5.heap.size, 0, none⟩ = some (.slice A1 n1 c1) := by rw [← hw6]; exact (((Blk.new w5 32 #[.slice A1 n1 c1]).alloc _).alloc _).cell 0
  have q2 : w6.cell? ⟨w5.heap.size + 1, 0, none⟩ = some (.slice A2 n2 c2) := by
    rw [← hw6]
    have := Blk.new (w5.alloc (.cells #[.slice A1 n1 c1] 32)) 91 #[.slice A2 n2 c2]
    rw [World.size_alloc] at this
    exact (this.alloc _).cell 0
  have q3 : Blk w6 (w5.heap.size + 2) 75 #[.int .i64 id, .slice A5 3 c5] := by
    rw [← hw6]
    have := Blk.new ((w5.alloc (.cells #[.slice A1 n1 c1] 32)).alloc (.cells #[.slice A2 n2 c2] 91)) 75 #[.int .i64 id, .slice A5 3 c5]
    rwa [World.size_alloc, World.size_alloc] at this
  have S5 := SZ5.out
  have BW6 := qh (below_to HB0.out B6)
  have VB := qh (HP1.out.below B6 HP1.out.lt)
  have BX := qh (show RoomBox w6 w.heap.size w6.heap.size (w.heap.size + 1) (w5.heap.size + 1) w5.heap.size (w5.heap.size + 2) A1 n1 c1 A2 n2 c2 A5 c5 room bs id xs from
    ⟨q2, q1, q3.cell 0, q3.cell 1, ⟨by omega, by omega, by omega, by omega, by omega⟩, ⟨by omega, by omega, by omega⟩, H1.out.below BW6.out, H2.out.below BW6.out, H5.out.below BW6.out⟩)
  have HS := qh (withRoom1_stops 2 (by omega) w.heap.size w6.heap.size (w.heap.size + 1) (w5.heap.size + 1) w5.heap.size (w5.heap.size + 2) A1 A2 A5 n1 c1 n2 c2 c5 room bs id xs w6 BX.out (Nat.le_refl _) hn1 Hbs.out Hx.out)
  clear q1 q2 q3 hw6
  refine (wpIn_wide (n := 3)).1 ?_
  refine wpIn_rangeFunc_ownF rfl (by omega) (gf := 196) (lb := #[.pointer (some ⟨w5.heap.size + 1, 0, none⟩), .pointer (some ⟨w5.heap.size, 0, none⟩), .pointer (some ⟨w5.heap.size + 2, 0, none⟩)]) rfl trivial (enters_of Tryz.func196 (by kernel_rfl) rfl)
    HS.out (fun h k => KpG.trans h k) (fun W l o o' hl _ _ _ => KpG.put (Nat.le_refl _) W l o' hl) (Below.refl _ _) (fun _ => rfl)
    (fun (pre : List (IxV n2)) W => pre = [] ∧ W.cell? ⟨w.heap.size + 1, 0, none⟩ = some (.int .i64 0) ∧ W.frozen? ⟨w.heap.size + 1, 0, none⟩ = false ∧ KpG w6.heap.size (w.heap.size + 1) w6 W ∧ Below w.heap.size w W)
    (LeftAt (w.heap.size + 1) w n2) ?hI ?hIx ?h0 ?a1 ?assign ?body ?done ?stop
  case hI =>
    rintro pre X Y row ⟨s0, s1, s2, s3, s4⟩ hg hr
    have hlt : w.heap.size + 1 < X.heap.size := by have := s3.1; omega
    have hne : ∀ b, b < w6.heap.size → some b ≠ row := fun b hb e => by have := (hr b e.symm).1; omega
    have hgk := hg.block (w.heap.size + 1) hlt (hne _ (by omega))
    exact ⟨s0, (World.cell?_of_block (a := ⟨w.heap.size + 1, 0, none⟩) hgk).trans s1, (World.frozen?_of_block (a := ⟨w.heap.size + 1, 0, none⟩) hgk).trans s2,
      ⟨Nat.le_trans s3.1 hg.size, fun b h1 h2 => (hg.block b (by have := s3.1; omega) (hne b h1)).trans (s3.2 b h1 h2)⟩,
      s4.grown hg (by have := s3.1; omega) (fun k e => by have := (hr k e).1; omega)⟩
  case hIx =>
    rintro c pre X Y row ⟨s0, x, s1, s2, s3, s4⟩ hg hr
    have hne : some (w.heap.size + 1) ≠ row := fun e => by have := (hr _ e.symm).1; omega
    have hgk := hg.block (w.heap.size + 1) s3 hne
    exact ⟨s0, x, s1, (World.cell?_of_block (a := ⟨w.heap.size + 1, 0, none⟩) hgk).trans s2, Nat.lt_of_lt_of_le s3 hg.size, s4.grown hg (by omega) (fun k e => by have := (hr k e).1; omega)⟩
  case h0 => exact ⟨rfl, VB.out.cell 0, VB.out.frozen 0, KpG.refl _ _ _, BW6.out⟩
  case assign =>
    intro l x W K hK
    gi_wp2
    exact hK
  case body =>
    rintro l pre ⟨⟨i, v⟩, hi⟩ W ⟨rfl, hc, hf, hkp, hbel⟩ _
    have HBEL := qh hbel
    have hlt : w.heap.size + 1 < W.heap.size := by have := hkp.1; omega
    clear hkp hbel
    gi_wp2
    exact ⟨KeepsOthers.setCell _ _ _, rfl, ⟨(i, v), hi⟩, rfl, World.cell?_setCell_same' _ _ _ (by rw [hc]; rfl), by simpa [World.setCell] using hlt, HBEL.out.setCell (by simp) _⟩
  case done =>
    rintro D ys W hD hys ⟨rfl, s1, s2, s3, s4⟩ hKD
    have hys : ([] : List Nat) = roomsTo room bs xs n2 := hys
    have HS4 := qh s4
    have Hys := qh hys
    have hlt : w.heap.size + 1 < W.heap.size := by have := s3.1; omega
    clear s3 s4 hys
    have hKD2 : (W.setCell ⟨w.heap.size + 1, 0, none⟩ (.int .i64 (-1))).heap[D]? = some (.deferred (some [])) := (Below.heap_setCell _ _ _ _ (by simp; omega)).trans hKD
    have hv : ((W.setCell ⟨w.heap.size + 1, 0, none⟩ (.int .i64 (-1))).putObj D (.deferred none)).cell? ⟨w.heap.size + 1, 0, none⟩ = some (.int .i64 (-1)) :=
      (World.cell?_of_block (a := ⟨w.heap.size + 1, 0, none⟩) (World.putObj_heap_other (by simp; omega))).trans (World.cell?_setCell_same' _ _ _ (by rw [s1]; rfl))
    go_wp2
    refine markPost_ret (v := .int .i64 (-1)) hKD2 (by simp [results, Tryz.results175, go_sem, hv]) ⟨ret_int ?_, (HS4.out.setCell (by simp) _).trans (belowK_b (w := w) (Nat.le_refl _) _ D _ _ (by have := BW6.out.size; omega) hKD2 rfl rfl)⟩
    exact (first_neg.2 (by rw [l2.out]; exact Hys.out.symm)).symm
  case stop =>
    rintro D c pre W hD ⟨k, hk, hro, hpre⟩ ⟨rfl, x, rfl, s1, s2, s3⟩ hKD
    have HS3 := qh s3
    have Hpre := qh (rooms_head (by have := l2.out; omega) (show roomsTo room bs xs (k + 1) = [x.1.1] from hpre.symm))
    clear hpre hro s3
    have hv : (W.putObj D (.deferred none)).cell? ⟨w.heap.size + 1, 0, none⟩ = some (.int .i64 (x.1.1 : Int)) :=
      (World.cell?_of_block (a := ⟨w.heap.size + 1, 0, none⟩) (World.putObj_heap_other (by simp; omega))).trans s1
    gi_wp2
    refine markPost_ret (v := .int .i64 (x.1.1 : Int)) hKD (by simp [results, Tryz.results175, go_sem, hv]) ⟨ret_int Hpre.out.symm, HS3.out.trans (belowK_b (w := w) (Nat.le_refl _) W D _ _ (by have := BW6.out.size; omega) hKD rfl rfl)⟩

end Go.Proofs.YtdkhdfedejbicaaGreatDoor

namespace Go.Proofs.YtdkhdfedejbicaaGreatDoor
open Go.RowKit

set_option maxHeartbeats 400000 in
theorem hasId1_any (i id : Int) (A : Option Addr) (m c g : Nat) (w : World) (hc : w.cell? ⟨g, 0, none⟩ = some (.int .i64 id)) :
    Calls Tryz.prog 184 #[.agg #[.int .i64 i, .slice A m c], .pointer (some ⟨g, 0, none⟩)] w fun e w' => e = .returned (.bool (i == id)) ∧ w.alloc (.cells #[.int .i64 i, .slice A m c] 75) = w' := by
  have hg := World.block_lt_of_cell? w _ hc
  have hc' := (World.cell?_alloc_lt w (.cells #[.int .i64 i, .slice A m c] 75) ⟨g, 0, none⟩ hg).trans hc
  go_enter Tryz.func184, Tryz.ntmps184
  go_wp2
  go_ret
  exact ⟨rfl, rfl⟩

set_option maxHeartbeats 400000 in
theorem hasId_any (id : Int) (w : World) :
    Calls Tryz.prog 164 #[.int .i64 id] w fun e w' => e = .returned (.func (.func 184) #[] #[.pointer (some ⟨w.heap.size, 0, none⟩)]) ∧ w.alloc (.cells #[.int .i64 id] 3) = w' := by
  go_enter Tryz.func164, Tryz.ntmps164
  go_wp2
  go_ret
  exact ⟨rfl, rfl⟩

def atP (ts : List Tk) (id : Int) : Int := idxP (fun t => t.1 == id) ts
theorem atP_ge (ts : List Tk) (id : Int) : decide (0 ≤ atP ts id) = hasP ts id := idxP_ge _ _

set_option maxRecDepth 100000 in
set_option maxHeartbeats 800000 in
theorem indexT_any (A : Option Addr) (n c g : Nat) (ts : List Tk) (id : Int) (w : World) (h : RdT w w.heap.size A n ts) (hc : w.cell? ⟨g, 0, none⟩ = some (.int .i64 id)) :
    Calls Tryz.prog 163 #[.slice A n c, .func (.func 184) #[] #[.pointer (some ⟨g, 0, none⟩)]] w fun e w' => e = .returned (.int .i64 (atP ts id)) ∧ Below w.heap.size w w' := by
  have hg := World.block_lt_of_cell? w _ hc
  have hn := h.le
  have hl := qh h.len
  have H := qh h
  have Hc := qh hc
  clear h hc
  go_enter Tryz.func163, Tryz.ntmps163
  go_wp2
  go_loopw [8] (fun i wr => ∃ k : Nat, i = .int .i64 k ∧ k ≤ n ∧ Below w.heap.size w wr ∧ (∀ j, j < k → ((ts[j]?.getD (0, [])).1 == id) = false)) (fun i _ => n - (intOf i).toNat)
  case atStart => exact ⟨0, rfl, Nat.zero_le _, Below.refl _ _, by intro j hj; omega⟩
  case round =>
    obtain ⟨k, rfl, hk, hbel, hall⟩ := hrel
    have Hall := qh hall
    clear hall
    by_cases hlt : k < n
    · obtain ⟨b, o, A', m', c', rfl, hb, hc1, hc2, hmc, hrd⟩ := (H.out.below hbel).at_ hlt
      have lz := hbel.size
      have hkl : Hid (k < ts.length) := by have := hl.out; show _ < _; omega
      have ecall := hasId1_any (ts[k]?.getD (0, [])).1 id A' m' c' g wr ((hbel.cell (p := ⟨g, 0, none⟩) hg).trans Hc.out)
      clear hrd
      by_cases hh : ((ts[k]?.getD (0, [])).1 == id) = true
      · rw [hh] at ecall
        have Ecall := qh ecall
        have Hh := qh hh
        clear ecall hh
        go_wp2_with (go_at_call 184; refine Ecall.out.mono ?_; rintro e w1 ⟨rfl, rfl⟩)
        go_ret
        exact ⟨ret_int (idxP_some (d := (0, [])) hkl.out Hh.out Hall.out).symm, hbel.alloc lz _⟩
      · have hh : ((ts[k]?.getD (0, [])).1 == id) = false := by simpa using hh
        rw [hh] at ecall
        have Ecall := qh ecall
        have Hh := qh hh
        clear ecall hh
        go_wp2_with (go_at_call 184; refine Ecall.out.mono ?_; rintro e w1 ⟨rfl, rfl⟩)
        go_roundw
        case rel => exact ⟨k + 1, by go_num, by omega, hbel.alloc lz _, fun j hj => by
          by_cases e : j = k
          · rw [e]; exact Hh.out
          · exact Hall.out j (by omega)⟩
        case measure => simp [intOf]; omega
    · go_wp2
      go_ret
      exact ⟨ret_int (idxP_none (d := (0, [])) (fun j hj => Hall.out j (by have := hl.out; omega))).symm, hbel⟩

set_option maxHeartbeats 400000 in
theorem containsT_any (A : Option Addr) (n c g : Nat) (ts : List Tk) (id : Int) (w : World) (h : RdT w w.heap.size A n ts) (hc : w.cell? ⟨g, 0, none⟩ = some (.int .i64 id)) :
    Calls Tryz.prog 195 #[.slice A n c, .func (.func 184) #[] #[.pointer (some ⟨g, 0, none⟩)]] w fun e w' => e = .returned (.bool (hasP ts id)) ∧ Below w.heap.size w w' := by
  have H := qh h
  have Hc := qh hc
  clear h hc
  go_enter Tryz.func195, Tryz.ntmps195
  go_wp2_with (go_at_call 163; refine (indexT_any _ _ _ _ _ _ _ H.out Hc.out).mono ?_; rintro e w' ⟨rfl, hb1⟩)
  go_ret
  exact ⟨ret_bool (atP_ge _ _), hb1⟩

set_option maxHeartbeats 400000 in
theorem whereOf1_any (A : Option Addr) (n c g : Nat) (ts : List Tk) (id : Int) (w : World) (h : RdT w w.heap.size A n ts) (hc : w.cell? ⟨g, 0, none⟩ = some (.int .i64 id)) :
    Calls Tryz.prog 194 #[.slice A n c, .pointer (some ⟨g, 0, none⟩)] w fun e w' => e = .returned (.bool (hasP ts id)) ∧ Below w.heap.size w w' := by
  have H := qh h
  clear h
  have hal : Below w.heap.size w (w.alloc (.cells #[.int .i64 id] 3)) := (Below.refl _ _).alloc (Nat.le_refl _) _
  have hnew : Hid ((w.alloc (.cells #[.int .i64 id] 3)).cell? ⟨w.heap.size, 0, none⟩ = some (.int .i64 id)) := by show _ = _; rw [(Blk.new w 3 #[.int .i64 id]).cell]; rfl
  go_enter Tryz.func194, Tryz.ntmps194
  go_wp2_with (first
    | (go_at_call 164; refine (hasId_any _ _).mono ?_; rintro e w' ⟨rfl, rfl⟩)
    | (go_at_call 195; refine (containsT_any _ _ _ _ _ _ _ (H.out.up hal) hnew.out).mono ?_; rintro e w' ⟨rfl, hb1⟩))
  go_ret
  exact ⟨rfl, hal.trans (hb1.mono (by simp))⟩

set_option maxRecDepth 100000 in
set_option maxHeartbeats 800000 in
theorem indexB_any (A : Option Addr) (n c g : Nat) (bs : List (List Tk)) (id : Int) (w : World) (h : RdB w w.heap.size A n bs) (hc : w.cell? ⟨g, 0, none⟩ = some (.int .i64 id)) :
    Calls Tryz.prog 193 #[.slice A n c, .func (.func 194) #[] #[.pointer (some ⟨g, 0, none⟩)]] w fun e w' => e = .returned (.int .i64 (whereP bs id)) ∧ Below w.heap.size w w' := by
  have hg := World.block_lt_of_cell? w _ hc
  have hn := h.le
  have hl := qh h.len
  have H := qh h
  have Hc := qh hc
  clear h hc
  go_enter Tryz.func193, Tryz.ntmps193
  go_wp2
  go_loopw [8] (fun i wr => ∃ k : Nat, i = .int .i64 k ∧ k ≤ n ∧ Below w.heap.size w wr ∧ (∀ j, j < k → hasP (bs[j]?.getD []) id = false)) (fun i _ => n - (intOf i).toNat)
  case atStart => exact ⟨0, rfl, Nat.zero_le _, Below.refl _ _, by intro j hj; omega⟩
  case round =>
    obtain ⟨k, rfl, hk, hbel, hall⟩ := hrel
    have Hall := qh hall
    clear hall
    by_cases hlt : k < n
    · obtain ⟨b, o, A', m', c', rfl, hb, hc1, hmc, hrd⟩ := (H.out.below hbel).at_ hlt
      have lz := hbel.size
      have hkl : Hid (k < bs.length) := by have := hl.out; show _ < _; omega
      have ecall := whereOf1_any A' m' c' g _ id wr (hrd.more lz) ((hbel.cell (p := ⟨g, 0, none⟩) hg).trans Hc.out)
      clear hrd
      by_cases hh : hasP (bs[k]?.getD []) id = true
      · rw [hh] at ecall
        have Ecall := qh ecall
        have Hh := qh hh
        clear ecall hh
        go_wp2_with (go_at_call 194; refine Ecall.out.mono ?_; rintro e w1 ⟨rfl, hb1⟩)
        go_ret
        exact ⟨ret_int (whereP_some hkl.out Hh.out Hall.out).symm, hbel.trans (hb1.mono lz)⟩
      · have hh : hasP (bs[k]?.getD []) id = false := by simpa using hh
        rw [hh] at ecall
        have Ecall := qh ecall
        have Hh := qh hh
        clear ecall hh
        go_wp2_with (go_at_call 194; refine Ecall.out.mono ?_; rintro e w1 ⟨rfl, hb1⟩)
        go_roundw
        case rel => exact ⟨k + 1, by go_num, by omega, hbel.trans (hb1.mono lz), fun j hj => by
          by_cases e : j = k
          · rw [e]; exact Hh.out
          · exact Hall.out j (by omega)⟩
        case measure => simp [intOf]; omega
    · go_wp2
      go_ret
      exact ⟨ret_int (whereP_none (fun j hj => Hall.out j (by have := hl.out; omega))).symm, hbel⟩

set_option maxHeartbeats 400000 in
theorem whereOf_any (A : Option Addr) (n c : Nat) (bs : List (List Tk)) (id : Int) (w : World) (h : RdB w w.heap.size A n bs) :
    Calls Tryz.prog 176 #[.slice A n c, .int .i64 id] w fun e w' => e = .returned (.int .i64 (whereP bs id)) ∧ Below w.heap.size w w' := by
  have H := qh h
  clear h
  have hal : Below w.heap.size w (w.alloc (.cells #[.int .i64 id] 3)) := (Below.refl _ _).alloc (Nat.le_refl _) _
  have hnew : Hid ((w.alloc (.cells #[.int .i64 id] 3)).cell? ⟨w.heap.size, 0, none⟩ = some (.int .i64 id)) := by show _ = _; rw [(Blk.new w 3 #[.int .i64 id]).cell]; rfl
  go_enter Tryz.func176, Tryz.ntmps176
  go_wp2_with (go_at_call 193; refine (indexB_any _ _ _ _ _ _ _ (H.out.up hal) hnew.out).mono ?_; rintro e w' ⟨rfl, hb1⟩)
  go_ret
  exact ⟨rfl, hal.trans (hb1.mono (by simp))⟩

end Go.Proofs.YtdkhdfedejbicaaGreatDoor
