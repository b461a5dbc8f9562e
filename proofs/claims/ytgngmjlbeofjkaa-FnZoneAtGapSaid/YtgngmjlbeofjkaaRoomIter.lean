/- The iterator over the nodes with room: withRoom's closure, as a range over a function uses it. -/
import Derived.Test.YtgngmjlbeofjkaaCome
import Derived.RangeFuncNested
import Derived.RangeFuncBound
import Derived.RangeFuncCalls
import Derived.RangeFuncLeaves
import Derived.RangeFuncFrom
import Derived.Shelf.Abstract
import Derived.OwnWalkIn
import Derived.TacticsInMore
import Derived.LoopNIn
import Derived.LoopIn
namespace Go.Proofs.Ytgngmjlbeofjkaa
open Go Go.RowKit Go.Shelf
attribute [local go_sem] Oper.semAt_some

/-- Below block B nothing but block g turns. -/
def KpG (B g : Nat) (A W : World) : Prop := A.heap.size ≤ W.heap.size ∧ ∀ b, b < B → b ≠ g → W.heap[b]? = A.heap[b]?
theorem KpG.refl (B g : Nat) (A : World) : KpG B g A A := ⟨Nat.le_refl _, fun _ _ _ => rfl⟩
theorem KpG.trans {B g : Nat} {A W V : World} (h : KpG B g A W) (k : KpG B g W V) : KpG B g A V := ⟨Nat.le_trans h.1 k.1, fun b h1 h2 => (k.2 b h1 h2).trans (h.2 b h1 h2)⟩
theorem KpG.below {B g : Nat} {A W : World} (h : Below A.heap.size A W) (hB : B ≤ A.heap.size) : KpG B g A W := ⟨h.size, fun b h1 _ => h.block b (by omega)⟩
theorem KpG.put {B g : Nat} {w : World} (hB : B ≤ w.heap.size) (W : World) (l : Nat) (o' : Obj) (hl : w.heap.size ≤ l) : KpG B g W (W.putObj l o') :=
  ⟨by simp, fun b h1 _ => World.putObj_heap_other (by omega)⟩
theorem KpG.cell {B g : Nat} {A W : World} (h : KpG B g A W) {p : Addr} (h1 : p.block < B) (h2 : p.block ≠ g) : W.cell? p = A.cell? p := World.cell?_of_block (h.2 p.block h1 h2)

/-- A task has room on the node. -/
def roomB (room : List Int) (bs : List (List Tk)) (xs : List Int) (k : Nat) : Bool := fits3 (add3 (loadP (bs[k]?.getD [])) xs) room
/-- The nodes with room among the first k. -/
def roomsTo (room : List Int) (bs : List (List Tk)) (xs : List Int) (k : Nat) : List Nat := (List.range k).filter (roomB room bs xs)
theorem roomsTo_yes {room : List Int} {bs : List (List Tk)} {xs : List Int} {k : Nat} (h : roomB room bs xs k = true) : roomsTo room bs xs (k + 1) = roomsTo room bs xs k ++ [k] := by
  simp [roomsTo, List.range_succ, h]
theorem roomsTo_no {room : List Int} {bs : List (List Tk)} {xs : List Int} {k : Nat} (h : roomB room bs xs k = false) : roomsTo room bs xs (k + 1) = roomsTo room bs xs k := by
  simp [roomsTo, List.range_succ, h]
theorem below_grown {w w' : World} (h : Below w.heap.size w w') : w.grownBy w' none := ⟨h.os, h.tape, h.output, h.size, fun k hk _ => h.block k hk⟩


/-- What the closure has captured, and what that reads. -/
structure RoomBox (w : World) (lo n₀ g gb gr gx : Nat) (A1 : Option Addr) (n1 c1 : Nat) (A2 : Option Addr) (n2 c2 : Nat) (A3 : Option Addr) (c3 : Nat) (room : List Int) (bs : List (List Tk)) (id : Int) (xs : List Int) : Prop where
  b : w.cell? ⟨gb, 0, none⟩ = some (.slice A2 n2 c2)
  r : w.cell? ⟨gr, 0, none⟩ = some (.slice A1 n1 c1)
  x0 : w.cell? ⟨gx, 0, none⟩ = some (.int .i64 id)
  x1 : w.cell? ⟨gx, 1, none⟩ = some (.slice A3 3 c3)
  lt : gb < n₀ ∧ gr < n₀ ∧ gx < n₀ ∧ lo ≤ n₀ ∧ lo ≤ g
  ne : gb ≠ g ∧ gr ≠ g ∧ gx ≠ g
  room : RdI w lo A1 n1 room
  bins : RdB w lo A2 n2 bs
  need : RdI w lo A3 3 xs
theorem RoomBox.keep {w w' : World} {lo n₀ g gb gr gx n1 c1 n2 c2 c3 : Nat} {A1 A2 A3 : Option Addr} {room : List Int} {bs : List (List Tk)} {id : Int} {xs : List Int} (h : RoomBox w lo n₀ g gb gr gx A1 n1 c1 A2 n2 c2 A3 c3 room bs id xs) (k : KpG n₀ g w w') :
    RoomBox w' lo n₀ g gb gr gx A1 n1 c1 A2 n2 c2 A3 c3 room bs id xs := by
  obtain ⟨l1, l2, l3, l4, l5⟩ := h.lt
  obtain ⟨e1, e2, e3⟩ := h.ne
  have hk : ∀ p : Addr, p.block < lo → w'.cell? p = w.cell? p := fun p hp => k.cell (by omega) (by omega)
  exact ⟨(k.cell (p := ⟨gb, 0, none⟩) l1 e1).trans h.b, (k.cell (p := ⟨gr, 0, none⟩) l2 e2).trans h.r, (k.cell (p := ⟨gx, 0, none⟩) l3 e3).trans h.x0, (k.cell (p := ⟨gx, 1, none⟩) l3 e3).trans h.x1, h.lt, h.ne, h.room.keep hk (Nat.le_refl _), h.bins.keep hk (Nat.le_refl _), h.need.keep hk (Nat.le_refl _)⟩

/-- An index below n, with a value. -/
abbrev IxV (n : Nat) := { x : Nat × Value // x.1 < n }

set_option maxRecDepth 100000 in
set_option maxHeartbeats 2000000 in
theorem withRoom1_stops (N : Nat) (hN : 1 ≤ N) (lo n₀ g gb gr gx : Nat) (A1 A2 A3 : Option Addr) (n1 c1 n2 c2 c3 : Nat) (room : List Int) (bs : List (List Tk)) (id : Int) (xs : List Int) (w : World) (h : RoomBox w lo n₀ g gb gr gx A1 n1 c1 A2 n2 c2 A3 c3 room bs id xs)
    (hn₀ : n₀ ≤ w.heap.size) (hn1 : 3 ≤ n1) (hbs : ∀ k, k < n2 → (bs[k]?.getD []).length ≤ 900 ∧ ∀ t ∈ bs[k]?.getD [], vecOk t.2 = true) (hx : ∀ j, j < 3 → -1000000 ≤ xs[j]?.getD 0 ∧ xs[j]?.getD 0 ≤ 1000000) :
    SeqStopsK Fence.wide N Try.prog 79 #[.pointer (some ⟨gb, 0, none⟩), .pointer (some ⟨gr, 0, none⟩), .pointer (some ⟨gx, 0, none⟩)] (fun x : IxV n2 => #[Value.int .i64 (x.1.1 : Int), x.1.2]) (KpG n₀ g)
      (fun ys => ys.map (·.1.1) = roomsTo room bs xs n2) (fun pre => ∃ k, k < n2 ∧ roomB room bs xs k = true ∧ pre.map (·.1.1) = roomsTo room bs xs (k + 1)) n2 w := fun l J Jx W hW hJ hJx hY h0 => by
  have hl := Lib.hid h.bins.len
  have hle := h.bins.le
  have HBX := Lib.hid (h.keep (w' := W) (KpG.below hW hn₀))
  have Hx := Lib.hid hx
  have Hbs := Lib.hid hbs
  have HW := Lib.hid (show n₀ ≤ W.heap.size from Nat.le_trans hn₀ hW.size)
  have HJ := Lib.hid hJ
  have HY := Lib.hid hY
  have hb0 := HBX.out.b
  clear h hx hbs hJ hY hW
  refine callsIn_of_wp Try.func79 rfl trivial ?_ rfl
  simp only [Try.ntmps79, List.size_toArray, List.length_cons, List.length_nil, Nat.reduceAdd, Nat.reduceSub, Array.replicate_succ, Array.replicate_zero, List.push_toArray, List.append_toArray, List.nil_append, List.cons_append]
  gi_wp2
  gi_loopw [9] (fun i wr => ∃ (k : Nat) (ys : List (IxV n2)), k ≤ n2 ∧ i = .int .i64 k ∧ Hid (ys.map (·.1.1) = roomsTo room bs xs k) ∧ J ys wr ∧ KpG n₀ g W wr) (fun i _ => n2 - (intOf i).toNat)
  case atStart => exact ⟨0, [], Nat.zero_le _, rfl, Lib.hid rfl, h0, KpG.refl _ _ _⟩
  case round =>
    obtain ⟨k, ys, hk, rfl, hys, hJs, hkp⟩ := hrel
    have HJs := Lib.hid hJs
    have BX := Lib.hid (HBX.out.keep hkp)
    have HK := Lib.hid hkp
    clear hJs hkp hb0
    by_cases hlt : k < n2
    · obtain ⟨b, o, A', m, c', rfl, hb, hc, hmc, hrd⟩ := BX.out.bins.at_ hlt
      have hr0 := BX.out.r
      have hx0 := BX.out.x0
      have hx1 := BX.out.x1
      have hlw := BX.out.lt
      have hsz := HK.out.1
      have hWz := HW.out
      have lo_ok := load_ok (Hbs.out k hlt).2
      have ecall := hasRoom_any A1 A' A3 n1 c1 m c' c3 room (bs[k]?.getD []) id xs wr (BX.out.room.more (by omega)) (hrd.more (by omega)) (BX.out.need.more (by omega)) hn1 (by have := (Hbs.out k hlt).1; have := hrd.len; omega) (fun j hj => lo_ok.1 j (by have := hrd.len; omega)) lo_ok.2 Hx.out
      have Hrd := Lib.hid hrd
      clear lo_ok hrd
      by_cases hro : roomB room bs xs k = true
      · rw [show fits3 (add3 (loadP (bs[k]?.getD [])) xs) room = true from hro] at ecall
        have Ecall := Lib.hid ecall
        have Hro := Lib.hid hro
        clear ecall hro
        gi_wp2_with fail
        refine ⟨trivial, ?_⟩
        gi_at_call 80
        refine (callsIn_wide.2 Ecall.out).mono ?_; rintro e w1 ⟨rfl, hb1⟩
        have J1 := HJ.out _ _ _ none HJs.out (below_grown hb1) (fun r e => by cases e)
        obtain ⟨fn, tmps, assign, body, hy, hR⟩ := HY.out ys ⟨(k, .slice A' m c'), hlt⟩ w1 J1 (by have := congrArg List.length hys.out; simp [roomsTo] at this; have h2 := List.length_filter_le (roomB room bs xs) (List.range k); simp at h2; omega)
        dsimp only at hy
        clear J1
        have HK1 := Lib.hid (HK.out.trans (KpG.below hb1 (by omega)))
        have Hro2 := roomsTo_yes Hro.out
        gi_wp2
        refine hR.mono ?_
        rintro e W3 (⟨rfl, hJ3, hk3⟩ | ⟨rfl, hJx3⟩)
        · have HJ3 := Lib.hid hJ3
          have HK3 := Lib.hid (HK1.out.trans hk3)
          have Hro3 := Lib.hid Hro2
          clear hJ3 hk3 Hro2
          gi_wp2
          go_roundw
          case rel => exact ⟨k + 1, _, by omega, by simp, Lib.hid (by rw [Hro3.out, ← hys.out, List.map_append]; rfl), HJ3.out, HK3.out⟩
          case measure => simp [intOf]; omega
        · have Hro3 := Lib.hid Hro2
          have HJ3 := Lib.hid hJx3
          clear Hro2 hJx3
          gi_wp2
          refine bodyPost_ret (results_none rfl _ _ _) rfl ?_
          exact ⟨⟨_, rfl⟩, .inr ⟨_, ⟨k, hlt, Hro.out, by rw [Hro3.out, ← hys.out, List.map_append]; rfl⟩, HJ3.out⟩⟩
      · have hro : roomB room bs xs k = false := by simpa using hro
        rw [show fits3 (add3 (loadP (bs[k]?.getD [])) xs) room = false from hro] at ecall
        have Ecall := Lib.hid ecall
        have Hro := Lib.hid hro
        clear ecall hro
        gi_wp2_with fail
        refine ⟨trivial, ?_⟩
        gi_at_call 80
        refine (callsIn_wide.2 Ecall.out).mono ?_; rintro e w1 ⟨rfl, hb1⟩
        gi_wp2_with fail
        refine ⟨fun _ h => (by cases h), ?_⟩
        gi_wp2
        go_roundw
        case rel => exact ⟨k + 1, ys, by omega, by simp, Lib.hid (by rw [roomsTo_no Hro.out]; exact hys.out), HJ.out _ _ _ none HJs.out (below_grown hb1) (fun r e => by cases e), HK.out.trans (KpG.below hb1 (by omega))⟩
        case measure => simp [intOf]; omega
    · have ek : k = n2 := by omega
      have Ek := Lib.hid ek
      clear ek
      gi_wp2
      go_end0
      exact ⟨⟨_, rfl⟩, .inl ⟨_, by have := hys.out; rwa [Ek.out] at this, HJs.out⟩⟩

end Go.Proofs.Ytgngmjlbeofjkaa
