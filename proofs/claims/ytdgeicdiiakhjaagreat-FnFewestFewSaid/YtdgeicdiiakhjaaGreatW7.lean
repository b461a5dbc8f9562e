/- Several texts in one. -/
import Derived.Test.YtdgeicdiiakhjaaGreatW1
import Derived.Deep.DrawnRows
import Derived.Test.YtdgeicdiiakhjaaGreatW6
import Derived.Deep.RegionLaw
import Derived.Deep.RegionWith
import Derived.Outline
import Derived.RangeFuncNested
import Derived.RangeFuncBound
import Derived.RangeFuncCalls
import Derived.RangeFuncLeaves
import Derived.RangeFuncFrom
import Derived.Shelf.Abstract
import Derived.OwnWalkIn
import Derived.TacticsInMore
import Derived.LoopNIn
import Derived.LoopIn
import Derived.StillTactics
import Derived.OrdersIn
namespace Go.Proofs.YtdgeicdiiakhjaaGreat
open Go Go.RowKit

/-- An order of a region's operations. -/
inductive Mix where
  | nil
  | take (i : Nat) (r : Mix)
  | bar (i : Nat) (r : Mix)
  | fork (i : Nat) (r : Mix) (j : Nat) (s : Mix)

/-- Each operation under 'bar' comes up alone, those of a fork come up as two; each under 'take' can be taken first where it stands. -/
def lexMix (ops : Array Oper) : Mix → Nat → Array Bool → Bool
  | .nil, _, listed => (Region.ready .any ops listed).isEmpty
  | .take i r, f, listed => decide (0 < f) && ((Region.ready .any ops listed).contains i && Region.free .any ops listed i) && lexMix ops r (f - 1) (listed.setIfInBounds i true)
  | .bar i r, f, listed => decide (0 < f) && decide (Region.ready .any ops listed = [i]) && lexMix ops r (f - 1) (listed.setIfInBounds i true)
  | .fork i r j s, f, listed => decide (0 < f) && decide (Region.ready .any ops listed = [i, j]) && (lexMix ops r (f - 1) (listed.setIfInBounds i true) && lexMix ops s (f - 1) (listed.setIfInBounds j true))
def mixOk (ops : Array Oper) (ord : Mix) : Bool := Region.noSelect ops && lexMix ops ord ops.size (Array.replicate ops.size false)

section
variable {P : Program} {ops : Array Oper} {Q : Exit → Act → World → Prop} {S : World → Prop}

/-- The walk in an order of one's own. -/
def wpMix (P : Program) (ops : Array Oper) (Q : Exit → Act → World → Prop) (S : World → Prop) : Mix → Act → World → Prop
  | .nil, a, w => Q .normal a w
  | .take i r, a, w => ∃ o v, ops[i]? = some o ∧ YieldsIf P ops S o v a ∧ wpMix P ops Q S r (a.put o.dst v) w
  | .bar i r, a, w => wpOp P ops Q i (fun a' w' => S w' ∧ wpMix P ops Q S r a' w') a w
  | .fork i r j s, a, w => wpOp P ops Q i (fun a' w' => S w' ∧ wpMix P ops Q S r a' w') a w ∧ wpOp P ops Q j (fun a' w' => S w' ∧ wpMix P ops Q S s a' w') a w

theorem wpAnyH_mix (hsel : Region.noSelect ops = true) (hQ : ∀ c a a' w, Q (.panic c) a w → Q (.panic c) a' w) : ∀ (ord : Mix) (f : Nat) (listed : Array Bool) (a : Act) (w : World),
    lexMix ops ord f listed = true → S w → wpMix P ops Q S ord a w → wpAnyH P .any ops Q S f listed a w
  | .nil, f, _, _, _, hB, _, h => wpAnyH_done (by simpa [lexMix] using hB) h f
  | .take i r, f, listed, a, w, hB, hS, h => by
    simp only [lexMix, Bool.and_eq_true, decide_eq_true_eq] at hB
    obtain ⟨f, rfl⟩ : ∃ g, f = g + 1 := ⟨f - 1, by omega⟩
    obtain ⟨o, v, h0, hy, hK⟩ := h
    exact wpAnyH_take h0 hsel hB.1.2.2 hB.1.2.1 (fun c a' w' hq => hQ c _ _ w' hq) hy hS (wpAnyH_mix hsel hQ r _ _ _ w hB.2 hS hK)
  | .bar i r, f, listed, a, w, hB, hS, h => by
    simp only [lexMix, Bool.and_eq_true, decide_eq_true_eq] at hB
    obtain ⟨f, rfl⟩ : ∃ g, f = g + 1 := ⟨f - 1, by omega⟩
    refine wpAnyH_all (rs := [i]) hB.1.2 (by simp) (fun j hj => ?_)
    have : j = i := by simpa using hj
    subst this
    exact wpOp_mono (fun a' w' hh => ⟨hh.1, wpAnyH_mix hsel hQ r _ _ a' w' hB.2 hh.1 hh.2⟩) h
  | .fork i r j s, f, listed, a, w, hB, hS, h => by
    simp only [lexMix, Bool.and_eq_true, decide_eq_true_eq] at hB
    obtain ⟨f, rfl⟩ : ∃ g, f = g + 1 := ⟨f - 1, by omega⟩
    refine wpAnyH_all (rs := [i, j]) hB.1.2 (by simp) (fun k hk => ?_)
    rcases List.mem_cons.1 hk with rfl | hk
    · exact wpOp_mono (fun a' w' hh => ⟨hh.1, wpAnyH_mix hsel hQ r _ _ a' w' hB.2.1 hh.1 hh.2⟩) h.1
    · have : k = j := by simpa using hk
      subst this
      exact wpOp_mono (fun a' w' hh => ⟨hh.1, wpAnyH_mix hsel hQ s _ _ a' w' hB.2.2 hh.1 hh.2⟩) h.2

theorem wp_region_mix {id : Nat} {Q' : Exit → Act → World → Prop} {a : Act} {w : World} {l : List Oper} (ord : Mix) (S : World → Prop) (hm : P.follows .mixedOrders = true) (hB : mixOk l.toArray ord = true) (hS : S w.drew)
    (h : S w.drew → wpMix P l.toArray (NoPanic Q') S ord a w.drew) : (Code.region id l.toArray true).wp P Q' a w := by
  simp only [mixOk, Bool.and_eq_true] at hB
  exact wp_region_noPanic (wp_region_held_drew hm hS (fun hS => wpAnyH_mix (Q := NoPanic Q') (S := S) hB.1 (fun c a a' w hq => (hq : False).elim) ord _ (Array.replicate l.toArray.size false) a w.drew hB.2 hS (h hS)))

theorem mix_at {i : Nat} {o : Oper} {tl : List Oper} (h : ops.toList.drop i = o :: tl) : ops[i]? = some o := by
  rw [← Array.getElem?_toList, ← Nat.add_zero i, ← List.getElem?_drop, h]; rfl

theorem wpMix_take {i : Nat} {o : Oper} {tl : List Oper} {r : Mix} {a : Act} {w : World} {v : Value} (ho : ops.toList.drop i = o :: tl) (hw : Region.wanted o (yielded ops a.tmps) = true) (hy : ∀ w', S w' → (execOp a.eval o).run P w' = .ok (.value v) w')
    (h : wpMix P ops Q S r (a.put o.dst v) w) : wpMix P ops Q S (.take i r) a w := ⟨o, v, mix_at ho, .inl ⟨hw, hy⟩, h⟩
theorem wpMix_skip {i : Nat} {o : Oper} {tl : List Oper} {r : Mix} {a : Act} {w : World} (ho : ops.toList.drop i = o :: tl) (hw : Region.wanted o (yielded ops a.tmps) = false)
    (h : wpMix P ops Q S r (a.put o.dst undef) w) : wpMix P ops Q S (.take i r) a w := ⟨o, undef, mix_at ho, .inr ⟨hw, rfl⟩, h⟩
theorem wpMix_bar {i : Nat} {o : Oper} {tl : List Oper} {r : Mix} {a : Act} {w : World} (ho : ops.toList.drop i = o :: tl)
    (h : ∀ K : Act → World → Prop, Shut (∀ a w, S w → (S w → wpMix P ops Q S r a w) → K a w) → if Region.wanted o (yielded ops a.tmps) = true then Oper.wp P o a w K Q else K (a.put o.dst undef) w) : wpMix P ops Q S (.bar i r) a w :=
  wpOp_step (mix_at ho) (fun K' hK => h K' (fun a w hS hW => hK a w ⟨hS, hW hS⟩))
theorem wpMix_fork {i j : Nat} {o o' : Oper} {tl tl' : List Oper} {r s : Mix} {a : Act} {w : World} (ho : ops.toList.drop i = o :: tl) (ho' : ops.toList.drop j = o' :: tl')
    (h : ∀ K : Act → World → Prop, Shut (∀ a w, S w → (S w → wpMix P ops Q S r a w) → K a w) → if Region.wanted o (yielded ops a.tmps) = true then Oper.wp P o a w K Q else K (a.put o.dst undef) w)
    (h' : ∀ K : Act → World → Prop, Shut (∀ a w, S w → (S w → wpMix P ops Q S s a w) → K a w) → if Region.wanted o' (yielded ops a.tmps) = true then Oper.wp P o' a w K Q else K (a.put o'.dst undef) w) : wpMix P ops Q S (.fork i r j s) a w :=
  ⟨wpOp_step (mix_at ho) (fun K' hK => h K' (fun a w hS hW => hK a w ⟨hS, hW hS⟩)), wpOp_step (mix_at ho') (fun K' hK => h' K' (fun a w hS hW => hK a w ⟨hS, hW hS⟩))⟩
theorem wpMix_nil {Q' : Exit → Act → World → Prop} {a : Act} {w : World} (h : Q' .normal a w) : wpMix P ops (NoPanic Q') S .nil a w := h
end
end Go.Proofs.YtdgeicdiiakhjaaGreat

namespace Go.Proofs.YtdgeicdiiakhjaaGreat
open Go.RowKit
attribute [local go_sem ↓] Go.wp_at_zero Go.wp_at_succ

/-- A further task can come. -/
def comeOk (room : List Int) (bs : List (List Tk)) (t : Tk) : Bool := binsOk room bs && tasksOk room (bs.flatten ++ [t])

theorem TkCells.single {w : World} {B : Nat} {A : Option Addr} {n c : Nat} {id : Int} {xs : List Int} (h : RdI w B A n xs) (hc : n ≤ c) : TkCells w B [.int .i64 id, .slice A n c] [(id, xs)] :=
  ⟨rfl, fun j hj => by obtain rfl : j = 0 := by simp at hj; omega
                       exact ⟨A, n, c, rfl, rfl, hc, h⟩⟩
/-- A boxed task stays. -/
theorem box_keep (w : World) (v0 v1 : Value) {w' : World} (hb : Below (w.heap.size + 1) (w.alloc (.cells #[v0, v1] 43)) w') : w'.cell? ⟨w.heap.size, 0, none⟩ = some v0 ∧ w'.cell? ⟨w.heap.size, 1, none⟩ = some v1 := by
  constructor
  · rw [hb.cell (by simp)]; exact (Blk.new w _ _).cell 0
  · rw [hb.cell (by simp)]; exact (Blk.new w _ _).cell 1


set_option maxRecDepth 100000 in
set_option maxHeartbeats 1600000 in
theorem hasRoom_any (A1 A2 A3 : Option Addr) (n1 c1 n2 c2 c3 : Nat) (room : List Int) (ts : List Tk) (id : Int) (xs : List Int) (w : World) (h1 : RdI w w.heap.size A1 n1 room) (h2 : RdT w w.heap.size A2 n2 ts) (h3 : RdI w w.heap.size A3 3 xs)
    (hn1 : 3 ≤ n1) (hn2 : n2 ≤ 900) (hl : ∀ j, j < n2 → (ts[j]?.getD (0, [])).2.length = 3) (hb : ∀ j i : Nat, 0 ≤ (ts[j]?.getD (0, [])).2[i]?.getD 0 ∧ (ts[j]?.getD (0, [])).2[i]?.getD 0 ≤ 1000)
    (hx : ∀ j, j < 3 → -1000000 ≤ xs[j]?.getD 0 ∧ xs[j]?.getD 0 ≤ 1000000) :
    Calls Tryz.prog 78 #[.slice A1 n1 c1, .slice A2 n2 c2, .agg #[.int .i64 id, .slice A3 3 c3]] w fun e w' => e = .returned (.bool (fits3 (add3 (loadP ts) xs) room)) ∧ Below w.heap.size w w' := by
  have HL := qh (show ∀ i, i < 3 → -1000000 ≤ (loadP ts)[i]?.getD 0 ∧ (loadP ts)[i]?.getD 0 ≤ 1000000 from fun i hi => by
    have := loadP_bd hb (k := ts.length) (Nat.le_refl _) i hi
    rw [List.take_length] at this
    have := h2.len
    omega)
  have H1 := qh h1
  have H2 := qh h2
  have H3 := qh h3
  have Hl := qh hl
  have Hb := qh hb
  have Hx := qh hx
  clear h1 h2 h3 hl hb hx
  have B0 := qh (new_up w (.cells #[.int .i64 id, .slice A3 3 c3] 43))
  have hk := qh (fun w' => box_keep w (.int .i64 id) (.slice A3 3 c3) (w' := w'))
  have sz : (w.alloc (.cells #[.int .i64 id, .slice A3 3 c3] 43)).heap.size = w.heap.size + 1 := World.size_alloc _ _
  go_enter Tryz.func78, Tryz.ntmps78
  go_wp2_with fail
  generalize hW : w.alloc (.cells #[.int .i64 id, .slice A3 3 c3] 43) = W at hk B0 sz ⊢
  rw [← sz] at hk
  have K0 := (hk.out W.drew (Below.refl _ _).drew).2
  clear hW sz
  refine wp_region_mix (.take 0 (.take 2 (.take 3 (.take 5 (.bar 1 (.bar 4 (.bar 6 (.take 7 .nil)))))))) (fun w' => w'.cell? ⟨w.heap.size, 1, none⟩ = some (.slice A3 3 c3)) (by kernel_rfl) (by kernel_rfl) K0 (fun _ => ?_)
  clear K0
  repeat ((first | refine wpMix_skip (by rfl) (by rfl) ?_ | (refine wpMix_take (v := ?_) (by rfl) (by rfl) (fun wS hSt => ?_) ?_; rotate_left; (focus ((try dsimp only at hSt); (go_simp <;> with_reducible rfl); done)))); (try simp only [Act.put, pS, pZ, pC]))
  (refine wpMix_bar (by rfl) (fun K hK => ?_); go_simp)
  refine (loadOf_any A2 n2 c2 ts W.drew (H2.out.up B0.out.drew) hn2 Hl.out Hb.out).mono ?_; rintro e w1 ⟨A4, c4, rfl, hr1, hb1⟩
  have HQ1 := qh (show Below W.heap.size W w1 from below_to (Below.refl _ _).drew hb1)
  have HB1 := qh (below_to B0.out.drew hb1)
  have HR1 := qh hr1
  clear hb1 hr1
  ((try dsimp only); refine nxK hK _ _ ((hk.out w1 HQ1.out).2) ?_; clear hK K; (try simp only [Act.put, pS, pZ, pC]))
  (refine wpMix_bar (by rfl) (fun K hK => ?_); go_simp)
  refine (plus_any A4 A3 3 c4 3 c3 _ _ w1 HR1.out (H3.out.up HB1.out) (Nat.le_refl _) (Nat.le_refl _) HL.out Hx.out).mono ?_; rintro e w2 ⟨A5, c5, rfl, hr2, hb2⟩
  have HQ2 := qh (below_to HQ1.out hb2)
  have HB2 := qh (below_to HB1.out hb2)
  have HR2 := qh hr2
  clear hb2 hr2
  ((try dsimp only); refine nxK hK _ _ ((hk.out w2 HQ2.out).2) ?_; clear hK K; (try simp only [Act.put, pS, pZ, pC]))
  (refine wpMix_bar (by rfl) (fun K hK => ?_); go_simp)
  refine (fits_any A5 A1 c5 n1 c1 _ _ _ _ w2 HR2.out (H1.out.below HB2.out) hn1).mono ?_; rintro e w3 ⟨rfl, rfl⟩
  ((try dsimp only); refine nxK hK _ _ ((hk.out _ HQ2.out).2) ?_; clear hK K; (try simp only [Act.put, pS, pZ, pC]))
  repeat ((first | refine wpMix_skip (by rfl) (by rfl) ?_ | (refine wpMix_take (v := ?_) (by rfl) (by rfl) (fun wS hSt => ?_) ?_; rotate_left; (focus ((try dsimp only at hSt); (go_simp <;> with_reducible rfl); done)))); (try simp only [Act.put, pS, pZ, pC]))
  refine wpMix_nil ?_
  go_wp2
  go_ret
  exact ⟨rfl, HB2.out⟩

/-- The closure over the nodes with room. -/
theorem withRoom_any (A1 A2 A3 : Option Addr) (n1 c1 n2 c2 n3 c3 : Nat) (id : Int) (w : World) :
    Calls Tryz.prog 54 #[.slice A1 n1 c1, .slice A2 n2 c2, .agg #[.int .i64 id, .slice A3 n3 c3]] w fun e w' => e = .returned (.func (.func 77) #[] #[.pointer (some ⟨w.heap.size + 1, 0, none⟩), .pointer (some ⟨w.heap.size, 0, none⟩), .pointer (some ⟨w.heap.size + 2, 0, none⟩)]) ∧
      ((w.alloc (.cells #[.slice A1 n1 c1] 23)).alloc (.cells #[.slice A2 n2 c2] 27)).alloc (.cells #[.int .i64 id, .slice A3 n3 c3] 43) = w' := by
  go_enter Tryz.func54, Tryz.ntmps54
  go_wp2
  go_ret
  exact ⟨rfl, rfl⟩
theorem RdB.one {w : World} {g m c : Nat} {t : TypeId} {A : Option Addr} {ts : List Tk} (h : Blk w g t #[.slice A m c]) (hc : m ≤ c) (hr : RdT w w.heap.size A m ts) : RdB w w.heap.size (some ⟨g, 0, none⟩) 1 [ts] :=
  ⟨rfl, by omega, fun _ => ⟨g, 0, rfl, h.lt, fun j hj => by
    obtain rfl : j = 0 := by omega
    exact ⟨A, m, c, h.cell 0, hc, hr⟩⟩⟩

end Go.Proofs.YtdgeicdiiakhjaaGreat

namespace Go.Proofs.YtdgeicdiiakhjaaGreat
open Go Go.RowKit Go.Shelf
attribute [local go_sem] Oper.semAt_some

/-- Below block B nothing but block g turns. -/
def KpG (B g : Nat) (A W : World) : Prop := A.heap.size ≤ W.heap.size ∧ ∀ b, b < B → b ≠ g → W.heap[b]? = A.heap[b]?
theorem KpG.refl (B g : Nat) (A : World) : KpG B g A A := ⟨Nat.le_refl _, fun _ _ _ => rfl⟩
theorem KpG.trans {B g : Nat} {A W V : World} (h : KpG B g A W) (k : KpG B g W V) : KpG B g A V := ⟨Nat.le_trans h.1 k.1, fun b h1 h2 => (k.2 b h1 h2).trans (h.2 b h1 h2)⟩
theorem KpG.below {B g : Nat} {A W : World} (h : Below A.heap.size A W) (hB : B ≤ A.heap.size) : KpG B g A W := ⟨h.size, fun b h1 _ => h.block b (by omega)⟩
theorem KpG.put {B g : Nat} {w : World} (hB : B ≤ w.heap.size) (W : World) (l : Nat) (o' : Obj) (hl : w.heap.size ≤ l) : KpG B g W (W.putObj l o') :=
  ⟨by simp, fun b h1 _ => World.putObj_heap_other (by omega)⟩
theorem KpG.cell {B g : Nat} {A W : World} (h : KpG B g A W) {p : Addr} (h1 : p.block < B) (h2 : p.block ≠ g) : W.cell? p = A.cell? p := World.cell?_of_block (h.2 p.block h1 h2)

/-- A task has room on the node. -/
def roomB (room : List Int) (bs : List (List Tk)) (xs : List Int) (k : Nat) : Bool := fits3 (add3 (loadP (bs[k]?.getD [])) xs) room
/-- The nodes with room among the first k. -/
def roomsTo (room : List Int) (bs : List (List Tk)) (xs : List Int) (k : Nat) : List Nat := (List.range k).filter (roomB room bs xs)
theorem roomsTo_yes {room : List Int} {bs : List (List Tk)} {xs : List Int} {k : Nat} (h : roomB room bs xs k = true) : roomsTo room bs xs (k + 1) = roomsTo room bs xs k ++ [k] := by
  simp [roomsTo, List.range_succ, h]
theorem roomsTo_no {room : List Int} {bs : List (List Tk)} {xs : List Int} {k : Nat} (h : roomB room bs xs k = false) : roomsTo room bs xs (k + 1) = roomsTo room bs xs k := by
  simp [roomsTo, List.range_succ, h]
theorem below_grown {w w' : World} (h : Below w.heap.size w w') : w.grownBy w' none := ⟨h.os, h.tape, h.output, h.size, fun k hk _ => h.block k hk⟩


/-- What the closure has captured, and what that reads. -/
structure RoomBox (w : World) (lo n₀ g gb gr gx : Nat) (A1 : Option Addr) (n1 c1 : Nat) (A2 : Option Addr) (n2 c2 : Nat) (A3 : Option Addr) (c3 : Nat) (room : List Int) (bs : List (List Tk)) (id : Int) (xs : List Int) : Prop where
  b : w.cell? ⟨gb, 0, none⟩ = some (.slice A2 n2 c2)
  r : w.cell? ⟨gr, 0, none⟩ = some (.slice A1 n1 c1)
  x0 : w.cell? ⟨gx, 0, none⟩ = some (.int .i64 id)
  x1 : w.cell? ⟨gx, 1, none⟩ = some (.slice A3 3 c3)
  lt : gb < n₀ ∧ gr < n₀ ∧ gx < n₀ ∧ lo ≤ n₀ ∧ lo ≤ g
  ne : gb ≠ g ∧ gr ≠ g ∧ gx ≠ g
  room : RdI w lo A1 n1 room
  bins : RdB w lo A2 n2 bs
  need : RdI w lo A3 3 xs
theorem RoomBox.keep {w w' : World} {lo n₀ g gb gr gx n1 c1 n2 c2 c3 : Nat} {A1 A2 A3 : Option Addr} {room : List Int} {bs : List (List Tk)} {id : Int} {xs : List Int} (h : RoomBox w lo n₀ g gb gr gx A1 n1 c1 A2 n2 c2 A3 c3 room bs id xs) (k : KpG n₀ g w w') :
    RoomBox w' lo n₀ g gb gr gx A1 n1 c1 A2 n2 c2 A3 c3 room bs id xs := by
  obtain ⟨l1, l2, l3, l4, l5⟩ := h.lt
  obtain ⟨e1, e2, e3⟩ := h.ne
  have hk : ∀ p : Addr, p.block < lo → w'.cell? p = w.cell? p := fun p hp => k.cell (by omega) (by omega)
  exact ⟨(k.cell (p := ⟨gb, 0, none⟩) l1 e1).trans h.b, (k.cell (p := ⟨gr, 0, none⟩) l2 e2).trans h.r, (k.cell (p := ⟨gx, 0, none⟩) l3 e3).trans h.x0, (k.cell (p := ⟨gx, 1, none⟩) l3 e3).trans h.x1, h.lt, h.ne, h.room.keep hk (Nat.le_refl _), h.bins.keep hk (Nat.le_refl _), h.need.keep hk (Nat.le_refl _)⟩

/-- An index below n, with a value. -/
abbrev IxV (n : Nat) := { x : Nat × Value // x.1 < n }

set_option maxRecDepth 100000 in
set_option maxHeartbeats 2000000 in
theorem withRoom1_stops (N : Nat) (hN : 1 ≤ N) (lo n₀ g gb gr gx : Nat) (A1 A2 A3 : Option Addr) (n1 c1 n2 c2 c3 : Nat) (room : List Int) (bs : List (List Tk)) (id : Int) (xs : List Int) (w : World) (h : RoomBox w lo n₀ g gb gr gx A1 n1 c1 A2 n2 c2 A3 c3 room bs id xs)
    (hn₀ : n₀ ≤ w.heap.size) (hn1 : 3 ≤ n1) (hbs : ∀ k, k < n2 → (bs[k]?.getD []).length ≤ 900 ∧ ∀ t ∈ bs[k]?.getD [], vecOk t.2 = true) (hx : ∀ j, j < 3 → -1000000 ≤ xs[j]?.getD 0 ∧ xs[j]?.getD 0 ≤ 1000000) :
    SeqStopsK Fence.wide N Tryz.prog 77 #[.pointer (some ⟨gb, 0, none⟩), .pointer (some ⟨gr, 0, none⟩), .pointer (some ⟨gx, 0, none⟩)] (fun x : IxV n2 => #[Value.int .i64 (x.1.1 : Int), x.1.2]) (KpG n₀ g)
      (fun ys => ys.map (·.1.1) = roomsTo room bs xs n2) (fun pre => ∃ k, k < n2 ∧ roomB room bs xs k = true ∧ pre.map (·.1.1) = roomsTo room bs xs (k + 1)) n2 w := fun l J Jx W hW hJ hJx hY h0 => by
  have hl := qh h.bins.len
  have hle := h.bins.le
  have HBX := qh (h.keep (w' := W) (KpG.below hW hn₀))
  have Hx := qh hx
  have Hbs := qh hbs
  have HW := qh (show n₀ ≤ W.heap.size from Nat.le_trans hn₀ hW.size)
  have HJ := qh hJ
  have HY := qh hY
  have hb0 := HBX.out.b
  clear h hx hbs hJ hY hW
  refine callsIn_of_wp Tryz.func77 rfl trivial ?_ rfl
  simp only [Tryz.ntmps77, List.size_toArray, List.length_cons, List.length_nil, Nat.reduceAdd, Nat.reduceSub, Array.replicate_succ, Array.replicate_zero, List.push_toArray, List.append_toArray, List.nil_append, List.cons_append]
  gi_wp2
  gi_loopw [9] (fun i wr => ∃ (k : Nat) (ys : List (IxV n2)), k ≤ n2 ∧ i = .int .i64 k ∧ Hid (ys.map (·.1.1) = roomsTo room bs xs k) ∧ J ys wr ∧ KpG n₀ g W wr) (fun i _ => n2 - (intOf i).toNat)
  case atStart => exact ⟨0, [], Nat.zero_le _, rfl, qh rfl, h0, KpG.refl _ _ _⟩
  case round =>
    obtain ⟨k, ys, hk, rfl, hys, hJs, hkp⟩ := hrel
    have HJs := qh hJs
    have BX := qh (HBX.out.keep hkp)
    have HK := qh hkp
    clear hJs hkp hb0
    by_cases hlt : k < n2
    · obtain ⟨b, o, A', m, c', rfl, hb, hc, hmc, hrd⟩ := BX.out.bins.at_ hlt
      have hr0 := BX.out.r
      have hx0 := BX.out.x0
      have hx1 := BX.out.x1
      have hlw := BX.out.lt
      have hsz := HK.out.1
      have hWz := HW.out
      have lo_ok := load_ok (Hbs.out k hlt).2
      have ecall := hasRoom_any A1 A' A3 n1 c1 m c' c3 room (bs[k]?.getD []) id xs wr (BX.out.room.more (by omega)) (hrd.more (by omega)) (BX.out.need.more (by omega)) hn1 (by have := (Hbs.out k hlt).1; have := hrd.len; omega) (fun j hj => lo_ok.1 j (by have := hrd.len; omega)) lo_ok.2 Hx.out
      have Hrd := qh hrd
      clear lo_ok hrd
      by_cases hro : roomB room bs xs k = true
      · rw [show fits3 (add3 (loadP (bs[k]?.getD [])) xs) room = true from hro] at ecall
        have Ecall := qh ecall
        have Hro := qh hro
        clear ecall hro
        gi_wp2_with fail
        refine ⟨trivial, ?_⟩
        gi_at_call 78
        refine (callsIn_wide.2 Ecall.out).mono ?_; rintro e w1 ⟨rfl, hb1⟩
        have J1 := HJ.out _ _ _ none HJs.out (below_grown hb1) (fun r e => by cases e)
        obtain ⟨fn, tmps, assign, body, hy, hR⟩ := HY.out ys ⟨(k, .slice A' m c'), hlt⟩ w1 J1 (by have := congrArg List.length hys.out; simp [roomsTo] at this; have h2 := List.length_filter_le (roomB room bs xs) (List.range k); simp at h2; omega)
        dsimp only at hy
        clear J1
        have HK1 := qh (HK.out.trans (KpG.below hb1 (by omega)))
        have Hro2 := roomsTo_yes Hro.out
        gi_wp2
        refine hR.mono ?_
        rintro e W3 (⟨rfl, hJ3, hk3⟩ | ⟨rfl, hJx3⟩)
        · have HJ3 := qh hJ3
          have HK3 := qh (HK1.out.trans hk3)
          have Hro3 := qh Hro2
          clear hJ3 hk3 Hro2
          gi_wp2
          go_roundw
          case rel => exact ⟨k + 1, _, by omega, by simp, qh (by rw [Hro3.out, ← hys.out, List.map_append]; rfl), HJ3.out, HK3.out⟩
          case measure => simp [intOf]; omega
        · have Hro3 := qh Hro2
          have HJ3 := qh hJx3
          clear Hro2 hJx3
          gi_wp2
          refine bodyPost_ret (results_none rfl _ _ _) rfl ?_
          exact ⟨⟨_, rfl⟩, .inr ⟨_, ⟨k, hlt, Hro.out, by rw [Hro3.out, ← hys.out, List.map_append]; rfl⟩, HJ3.out⟩⟩
      · have hro : roomB room bs xs k = false := by simpa using hro
        rw [show fits3 (add3 (loadP (bs[k]?.getD [])) xs) room = false from hro] at ecall
        have Ecall := qh ecall
        have Hro := qh hro
        clear ecall hro
        gi_wp2_with fail
        refine ⟨trivial, ?_⟩
        gi_at_call 78
        refine (callsIn_wide.2 Ecall.out).mono ?_; rintro e w1 ⟨rfl, hb1⟩
        gi_wp2_with fail
        refine ⟨fun _ h => (by cases h), ?_⟩
        gi_wp2
        go_roundw
        case rel => exact ⟨k + 1, ys, by omega, by simp, qh (by rw [roomsTo_no Hro.out]; exact hys.out), HJ.out _ _ _ none HJs.out (below_grown hb1) (fun r e => by cases e), HK.out.trans (KpG.below hb1 (by omega))⟩
        case measure => simp [intOf]; omega
    · have ek : k = n2 := by omega
      have Ek := qh ek
      clear ek
      gi_wp2
      go_end0
      exact ⟨⟨_, rfl⟩, .inl ⟨_, by have := hys.out; rwa [Ek.out] at this, HJs.out⟩⟩

end Go.Proofs.YtdgeicdiiakhjaaGreat

namespace Go.Proofs.YtdgeicdiiakhjaaGreat
open Go Go.RowKit

def noDefer (ops : Array Oper) : Bool := ops.all fun o => match o.op with | .defer _ => false | _ => true
theorem noDefer_spec {ops : Array Oper} (h : noDefer ops = true) (j : Nat) (o : Oper) (c : Call) (ho : ops[j]? = some o) : o.op ≠ .defer c := by
  intro heq
  have := Array.all_eq_true_iff_forall_mem.1 h o (Array.mem_of_getElem? ho)
  simp [heq] at this

section
variable {P : Program} {ops : Array Oper} {w : World} {l n : Nat}

theorem wpOpIn_of_stOp (hnd : noDefer ops = true) {i : Nat} {a : Act} {K : Act → Prop} {K' : Act → World → Prop} {Q' : Exit → Act → World → Prop} (h : ∀ a, K a → K' a w) (hh : stOp P ops w i K a) : wpOpIn (Fence.wide.inRound l) n P ops Q' i K' a w := by
  unfold stOp at hh
  unfold wpOpIn
  split
  · rename_i ho; simp only [ho] at hh; exact h _ hh
  · rename_i o ho
    simp only [ho] at hh
    split
    · rename_i hw
      simp only [hw, if_true] at hh
      unfold Oper.still at hh
      unfold Oper.wpIn
      refine ⟨fun f _ => trivial, ?_⟩
      rw [Oper.semAt_eq _ _ _ (fun c => noDefer_spec hnd i o c ho)]
      generalize (execOp a.eval o).run P w = r at *
      cases r with
      | ok x w' =>
        cases x <;> simp only [Oper.stillUpon] at hh <;> simp only [Oper.uponIn]
        case enter f args =>
          obtain ⟨rfl, v, hc, hn⟩ := hh
          refine ⟨fun hd => (by cases hd), (CallsIn.inRound l (callsIn_wide.2 hc)).mono ?_⟩
          rintro e w'' ⟨rfl, rfl⟩
          exact h _ hn
        all_goals (obtain ⟨rfl, h2⟩ := hh; exact h _ h2)
      | halt x w' => simp only [Oper.stillUpon] at hh
    · rename_i hw; simp only [hw] at hh; exact ⟨fun f _ => trivial, h _ hh⟩

theorem wpAnyIn_of_still (hnd : noDefer ops = true) {Q : Act → Prop} {Q' : Exit → Act → World → Prop} (hQ : ∀ a, Q a → Q' .normal a w) : ∀ (fuel : Nat) (listed : Array Bool) (a : Act),
    wpAnyS P .any ops w Q fuel listed a → wpAnyIn (Fence.wide.inRound l) n P .any ops Q' fuel listed a w
  | 0, _, _, h => ⟨h.1, hQ _ h.2⟩
  | fuel + 1, _, _, h => ⟨fun h0 => hQ _ (h.1 h0), fun i hi => wpOpIn_of_stOp hnd (fun a' => wpAnyIn_of_still hnd hQ fuel _ a') (h.2 i hi)⟩

/-- The reads in the order of the text. -/
def wpRead (P : Program) (ops : Array Oper) (w : World) (Q : Act → Prop) : List Oper → Act → Prop
  | [], a => Q a
  | o :: rest, a => ∃ v, YieldsAt P ops w o v a ∧ wpRead P ops w Q rest (a.put o.dst v)
theorem wpRead_still {Q : Act → Prop} : ∀ (l : List Oper) (a : Act), wpRead P ops w Q l a → wpStill P ops w Q l a
  | [], _, h => h
  | o :: rest, a, ⟨v, hy, h⟩ => by
    have h := wpRead_still rest _ h
    unfold wpStill
    rcases hy with ⟨hw, hv | ⟨hv, rfl⟩ | ⟨f, args, hv, hc⟩⟩ | ⟨hw, rfl⟩
    · simp only [hw, if_true, Oper.still, hv, Oper.stillUpon]; exact ⟨trivial, h⟩
    · simp only [hw, if_true, Oper.still, hv, Oper.stillUpon]; exact ⟨trivial, h⟩
    · simp only [hw, if_true, Oper.still, hv, Oper.stillUpon]; exact ⟨trivial, v, hc, h⟩
    · simp only [hw, Bool.false_eq_true, if_false]; exact h
theorem wpRead_nil {Q : Act → Prop} {a : Act} (h : Q a) : wpRead P ops w Q [] a := h
theorem wpRead_take {Q : Act → Prop} {a : Act} {o : Oper} {rest : List Oper} {v : Value} (hw : Region.wanted o (yielded ops a.tmps) = true) (hy : (execOp a.eval o).run P w = .ok (.value v) w) (h : wpRead P ops w Q rest (a.put o.dst v)) : wpRead P ops w Q (o :: rest) a := ⟨v, .inl ⟨hw, .inl hy⟩, h⟩
theorem wpRead_skip {Q : Act → Prop} {a : Act} {o : Oper} {rest : List Oper} (hw : Region.wanted o (yielded ops a.tmps) = false) (h : wpRead P ops w Q rest (a.put o.dst undef)) : wpRead P ops w Q (o :: rest) a := ⟨undef, .inr ⟨hw, rfl⟩, h⟩

/-- A region that only reads, in a round. -/
theorem wpIn_region_reads {id : Nat} {Q : Exit → Act → World → Prop} {a : Act} {lo : List Oper} (hm : P.follows .mixedOrders = true) (hB : Region.lexB .any lo.toArray = true) (hnd : noDefer lo.toArray = true)
    (h : wpRead P lo.toArray w.drew (fun a' => Q .normal a' w.drew) lo a) : (Code.region id lo.toArray true).wpIn (Fence.wide.inRound l) n P Q a w := by
  simp only [Region.lexB, Bool.and_eq_true] at hB
  refine wpIn_region_any hm (wpAnyIn_of_still (w := w.drew) hnd (Q := fun a' => Q .normal a' w.drew) (fun _ h => h) _ _ _ ?_)
  have := wpAnyS_lex (md := .any) hB.1 lo 0 (Array.replicate lo.toArray.size false) a (by simp) (by simpa using hB.2) (wpRead_still _ _ h)
  simpa using this

/-! ### A function whose body holds a range over a function -/
theorem calls_of_wp_marks {P : Program} {f : FuncId} {fn : Func} {c : Code} {args : Array Value} {w : World} {R : Ending → World → Prop} (hf : P.funcs[f]? = some fn) (hb : fn.body = some c)
    (h : c.wp P (bodyPostM Fence.wide 3 P fn R) { tmps := args ++ Array.replicate (fn.ntmps - args.size) undef, defers := [] } w) : Calls P f args w R :=
  (callsIn_wide (n := 3)).1 (callsIn_of_wp_marks hf hb trivial (wpIn_wide.2 h) rfl)
theorem plainPost_ret {P : Program} {fn : Func} {R : Ending → World → Prop} {tmps : Array Value} {w : World} {v : Value} (hr : (results fn tmps).run P w = .ok v w) (hR : R (.returned v) w) :
    bodyPostM Fence.wide 3 P fn R .ret { tmps := tmps, defers := [] } w := ⟨v, hr, hR⟩
theorem markPost_ret {P : Program} {fn : Func} {R : Ending → World → Prop} {tmps : Array Value} {w : World} {v : Value} {D : Nat} (hK : w.heap[D]? = some (.deferred (some []))) (hr : (results fn tmps).run P (w.putObj D (.deferred none)) = .ok v (w.putObj D (.deferred none)))
    (hR : R (.returned v) (w.putObj D (.deferred none))) : bodyPostM Fence.wide 3 P fn R .ret { tmps := tmps, defers := [{ target := .collected D, args := #[] }] } w :=
  ⟨by simp, .inl ⟨_, _, rfl, run_takeDeferred hK, ⟨v, hr, hR⟩⟩⟩
end
end Go.Proofs.YtdgeicdiiakhjaaGreat
