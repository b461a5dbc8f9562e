/- Several texts in one. -/
import Derived.Test.YtdgeicdiiakhjaaGreatW7
import Derived.Test.YtdgeicdiiakhjaaGreatW6
namespace Go.Proofs.YtdgeicdiiakhjaaGreat

theorem tasksOk_sub {room : List Int} {a b : List Tk} (h : tasksOk room b = true) (hs : a.Sublist b) : tasksOk room a = true := by
  simp only [tasksOk, Bool.and_eq_true, decide_eq_true_eq] at h ⊢
  refine ⟨⟨⟨h.1.1.1, by have := hs.length_le; omega⟩, ?_⟩, h.2.sublist (hs.map _)⟩
  rw [List.all_eq_true] at *
  exact fun x hx => h.1.2 x (hs.subset hx)
theorem bin_sub {bs : List (List Tk)} {i : Nat} (hi : i < bs.length) : (bs[i]?.getD []).Sublist bs.flatten := by
  rw [List.getElem?_eq_getElem hi]
  exact List.sublist_flatten_of_mem (List.getElem_mem hi)
theorem mem_rooms {room : List Int} {bs : List (List Tk)} {xs : List Int} {k i : Nat} : i ∈ roomsTo room bs xs k ↔ i < k ∧ roomB room bs xs i = true := by
  simp [roomsTo, List.mem_filter]
end Go.Proofs.YtdgeicdiiakhjaaGreat

namespace Go.Proofs.YtdgeicdiiakhjaaGreat
open Go Go.RowKit Go.Shelf
attribute [local go_sem] Oper.semAt_some

/-- The first node with room, or -1. -/
def firstP (room : List Int) (bs : List (List Tk)) (xs : List Int) : Int := match (roomsTo room bs xs bs.length).head? with | some i => (i : Int) | none => -1
def firstAtP (room : List Int) (bs : List (List Tk)) (t : Tk) : Int := if comeOk room bs t = true then firstP room bs t.2 else -1
theorem rooms_head {room : List Int} {bs : List (List Tk)} {xs : List Int} {k i : Nat} (hk : k + 1 ≤ bs.length) (h : roomsTo room bs xs (k + 1) = [i]) : firstP room bs xs = (i : Int) := by
  have e : roomsTo room bs xs bs.length = [i] ++ ((List.range' (k + 1) (bs.length - (k + 1))).filter (roomB room bs xs)) := by
    rw [← h]
    unfold roomsTo
    have e2 := List.range'_append_1 (s := 0) (m := k + 1) (n := bs.length - (k + 1))
    rw [Nat.zero_add] at e2
    rw [← List.filter_append, List.range_eq_range', List.range_eq_range', e2]
    congr 2
    omega
  unfold firstP
  rw [e]
  rfl
theorem first_neg {room : List Int} {bs : List (List Tk)} {xs : List Int} : firstP room bs xs = -1 ↔ roomsTo room bs xs bs.length = [] := by
  unfold firstP
  cases roomsTo room bs xs bs.length with
  | nil => simp
  | cons i l => simp

/-- The round has left by a return: the node lies in block b. -/
def LeftAt (b : Nat) (w : World) (n : Nat) (c : Code) (pre : List (IxV n)) (W : World) : Prop :=
  c = .ret ∧ ∃ x : IxV n, pre = [x] ∧ W.cell? ⟨b, 0, none⟩ = some (.int .i64 (x.1.1 : Int)) ∧ b < W.heap.size ∧ Below w.heap.size w W

set_option maxRecDepth 100000 in
set_option maxHeartbeats 1600000 in
theorem firstOf_any (A1 A2 A5 : Option Addr) (n1 c1 n2 c2 c5 : Nat) (room : List Int) (bs : List (List Tk)) (id : Int) (xs : List Int) (w : World) (h1 : RdI w w.heap.size A1 n1 room) (h2 : RdB w w.heap.size A2 n2 bs) (h5 : RdI w w.heap.size A5 3 xs)
    (hn1 : 3 ≤ n1) (hbs : ∀ k, k < n2 → (bs[k]?.getD []).length ≤ 900 ∧ ∀ t ∈ bs[k]?.getD [], vecOk t.2 = true) (hx : ∀ j, j < 3 → -1000000 ≤ xs[j]?.getD 0 ∧ xs[j]?.getD 0 ≤ 1000000) :
    Calls Tryz.prog 31 #[.slice A1 n1 c1, .slice A2 n2 c2, .agg #[.int .i64 id, .slice A5 3 c5]] w fun e w' => e = .returned (.int .i64 (firstP room bs xs)) ∧ Below w.heap.size w w' := by
  have l2 := qh h2.len
  have H1 := qh h1
  have H2 := qh h2
  have H5 := qh h5
  have Hbs := qh hbs
  have Hx := qh hx
  clear h1 h2 h5 hbs hx
  have B0 := (show Below w.heap.size w ((w.alloc (.cells #[.int .i64 id, .slice A5 3 c5] 43)).alloc (.cells #[.int .i64 0] 3)) from ((Below.refl _ _).alloc (Nat.le_refl _) _).alloc (by simp) _)
  have P0 := (show Blk ((w.alloc (.cells #[.int .i64 id, .slice A5 3 c5] 43)).alloc (.cells #[.int .i64 0] 3)) w.heap.size 43 #[.int .i64 id, .slice A5 3 c5] from (Blk.new w _ _).alloc _)
  have P1 := (show Blk ((w.alloc (.cells #[.int .i64 id, .slice A5 3 c5] 43)).alloc (.cells #[.int .i64 0] 3)) (w.heap.size + 1) 3 #[.int .i64 0] from by
    have := Blk.new (w.alloc (.cells #[.int .i64 id, .slice A5 3 c5] 43)) 3 #[.int .i64 0]
    rwa [World.size_alloc] at this)
  have x0 : ((w.alloc (.cells #[.int .i64 id, .slice A5 3 c5] 43)).alloc (.cells #[.int .i64 0] 3)).cell? ⟨w.heap.size, 0, none⟩ = some (.int .i64 id) := P0.cell 0
  have x1 : ((w.alloc (.cells #[.int .i64 id, .slice A5 3 c5] 43)).alloc (.cells #[.int .i64 0] 3)).cell? ⟨w.heap.size, 1, none⟩ = some (.slice A5 3 c5) := P0.cell 1
  have sz5 : ((w.alloc (.cells #[.int .i64 id, .slice A5 3 c5] 43)).alloc (.cells #[.int .i64 0] 3)).heap.size = w.heap.size + 2 := by simp
  have HB0 := qh B0
  have HP0 := qh P0
  have HP1 := qh P1
  have SZ5 := qh sz5
  clear B0 P0 P1 sz5
  refine calls_of_wp_marks Tryz.func31 rfl ?_
  simp only [Tryz.ntmps31, List.size_toArray, List.length_cons, List.length_nil, Nat.reduceAdd, Nat.reduceSub, Array.replicate_succ, Array.replicate_zero, List.push_toArray, List.append_toArray, List.nil_append, List.cons_append]
  go_wp2_with fail
  generalize (w.alloc (.cells #[.int .i64 id, .slice A5 3 c5] 43)).alloc (.cells #[.int .i64 0] 3) = w5 at HB0 HP0 HP1 SZ5 x0 x1 ⊢
  refine (withRoom_any A1 A2 A5 n1 c1 n2 c2 3 c5 id w5).mono ?_; rintro e w6 ⟨rfl, hw6⟩
  clear x0 x1
  go_wp2_with fail
  have B6 : Below w5.heap.size w5 w6 := by rw [← hw6]; exact (((Below.refl _ _).alloc (Nat.le_refl _) _).alloc (by simp) _).alloc (by simp; omega) _
  have sz6 : w6.heap.size = w5.heap.size + 3 := by rw [← hw6]; simp
  have q1 : w6.cell? ⟨w5.heap.size, 0, none⟩ = some (.slice A1 n1 c1) := by rw [← hw6]; exact (((Blk.new w5 23 #[.slice A1 n1 c1]).alloc _).alloc _).cell 0
  have q2 : w6.cell? ⟨w5.heap.size + 1, 0, none⟩ = some (.slice A2 n2 c2) := by
    rw [← hw6]
    have := Blk.new (w5.alloc (.cells #[.slice A1 n1 c1] 23)) 27 #[.slice A2 n2 c2]
    rw [World.size_alloc] at this
    exact (this.alloc _).cell 0
  have q3 : Blk w6 (w5.heap.size + 2) 43 #[.int .i64 id, .slice A5 3 c5] := by
    rw [← hw6]
    have := Blk.new ((w5.alloc (.cells #[.slice A1 n1 c1] 23)).alloc (.cells #[.slice A2 n2 c2] 27)) 43 #[.int .i64 id, .slice A5 3 c5]
    rwa [World.size_alloc, World.size_alloc] at this
  have S5 := SZ5.out
  have BW6 := qh (below_to HB0.out B6)
  have VB := qh (HP1.out.below B6 HP1.out.lt)
  have BX := qh (show RoomBox w6 w.heap.size w6.heap.size (w.heap.size + 1) (w5.heap.size + 1) w5.heap.size (w5.heap.size + 2) A1 n1 c1 A2 n2 c2 A5 c5 room bs id xs from
    ⟨q2, q1, q3.cell 0, q3.cell 1, ⟨by omega, by omega, by omega, by omega, by omega⟩, ⟨by omega, by omega, by omega⟩, H1.out.below BW6.out, H2.out.below BW6.out, H5.out.below BW6.out⟩)
  have HS := qh (withRoom1_stops 2 (by omega) w.heap.size w6.heap.size (w.heap.size + 1) (w5.heap.size + 1) w5.heap.size (w5.heap.size + 2) A1 A2 A5 n1 c1 n2 c2 c5 room bs id xs w6 BX.out (Nat.le_refl _) hn1 Hbs.out Hx.out)
  clear q1 q2 q3 hw6
  refine (wpIn_wide (n := 3)).1 ?_
  refine wpIn_rangeFunc_ownF rfl (by omega) (gf := 77) (lb := #[.pointer (some ⟨w5.heap.size + 1, 0, none⟩), .pointer (some ⟨w5.heap.size, 0, none⟩), .pointer (some ⟨w5.heap.size + 2, 0, none⟩)]) rfl trivial (enters_of Tryz.func77 (by kernel_rfl) rfl)
    HS.out (fun h k => KpG.trans h k) (fun W l o o' hl _ _ _ => KpG.put (Nat.le_refl _) W l o' hl) (Below.refl _ _) (fun _ => rfl)
    (fun (pre : List (IxV n2)) W => pre = [] ∧ W.cell? ⟨w.heap.size + 1, 0, none⟩ = some (.int .i64 0) ∧ W.frozen? ⟨w.heap.size + 1, 0, none⟩ = false ∧ KpG w6.heap.size (w.heap.size + 1) w6 W ∧ Below w.heap.size w W)
    (LeftAt (w.heap.size + 1) w n2) ?hI ?hIx ?h0 ?a1 ?assign ?body ?done ?stop
  case hI =>
    rintro pre X Y row ⟨s0, s1, s2, s3, s4⟩ hg hr
    have hlt : w.heap.size + 1 < X.heap.size := by have := s3.1; omega
    have hne : ∀ b, b < w6.heap.size → some b ≠ row := fun b hb e => by have := (hr b e.symm).1; omega
    have hgk := hg.block (w.heap.size + 1) hlt (hne _ (by omega))
    exact ⟨s0, (World.cell?_of_block (a := ⟨w.heap.size + 1, 0, none⟩) hgk).trans s1, (World.frozen?_of_block (a := ⟨w.heap.size + 1, 0, none⟩) hgk).trans s2,
      ⟨Nat.le_trans s3.1 hg.size, fun b h1 h2 => (hg.block b (by have := s3.1; omega) (hne b h1)).trans (s3.2 b h1 h2)⟩,
      s4.grown hg (by have := s3.1; omega) (fun k e => by have := (hr k e).1; omega)⟩
  case hIx =>
    rintro c pre X Y row ⟨s0, x, s1, s2, s3, s4⟩ hg hr
    have hne : some (w.heap.size + 1) ≠ row := fun e => by have := (hr _ e.symm).1; omega
    have hgk := hg.block (w.heap.size + 1) s3 hne
    exact ⟨s0, x, s1, (World.cell?_of_block (a := ⟨w.heap.size + 1, 0, none⟩) hgk).trans s2, Nat.lt_of_lt_of_le s3 hg.size, s4.grown hg (by omega) (fun k e => by have := (hr k e).1; omega)⟩
  case h0 => exact ⟨rfl, VB.out.cell 0, VB.out.frozen 0, KpG.refl _ _ _, BW6.out⟩
  case assign =>
    intro l x W K hK
    gi_wp2
    exact hK
  case body =>
    rintro l pre ⟨⟨i, v⟩, hi⟩ W ⟨rfl, hc, hf, hkp, hbel⟩ _
    have HBEL := qh hbel
    have hlt : w.heap.size + 1 < W.heap.size := by have := hkp.1; omega
    clear hkp hbel
    gi_wp2
    exact ⟨KeepsOthers.setCell _ _ _, rfl, ⟨(i, v), hi⟩, rfl, World.cell?_setCell_same' _ _ _ (by rw [hc]; rfl), by simpa [World.setCell] using hlt, HBEL.out.setCell (by simp) _⟩
  case done =>
    rintro D ys W hD hys ⟨rfl, s1, s2, s3, s4⟩ hKD
    have hys : ([] : List Nat) = roomsTo room bs xs n2 := hys
    have HS4 := qh s4
    have Hys := qh hys
    have hlt : w.heap.size + 1 < W.heap.size := by have := s3.1; omega
    clear s3 s4 hys
    have hKD2 : (W.setCell ⟨w.heap.size + 1, 0, none⟩ (.int .i64 (-1))).heap[D]? = some (.deferred (some [])) := (Below.heap_setCell _ _ _ _ (by simp; omega)).trans hKD
    have hv : ((W.setCell ⟨w.heap.size + 1, 0, none⟩ (.int .i64 (-1))).putObj D (.deferred none)).cell? ⟨w.heap.size + 1, 0, none⟩ = some (.int .i64 (-1)) :=
      (World.cell?_of_block (a := ⟨w.heap.size + 1, 0, none⟩) (World.putObj_heap_other (by simp; omega))).trans (World.cell?_setCell_same' _ _ _ (by rw [s1]; rfl))
    go_wp2
    refine markPost_ret (v := .int .i64 (-1)) hKD2 (by simp [results, Tryz.results31, go_sem, hv]) ⟨ret_int ?_, (HS4.out.setCell (by simp) _).trans (belowK_b (w := w) (Nat.le_refl _) _ D _ _ (by have := BW6.out.size; omega) hKD2 rfl rfl)⟩
    exact (first_neg.2 (by rw [l2.out]; exact Hys.out.symm)).symm
  case stop =>
    rintro D c pre W hD ⟨k, hk, hro, hpre⟩ ⟨rfl, x, rfl, s1, s2, s3⟩ hKD
    have HS3 := qh s3
    have Hpre := qh (rooms_head (by have := l2.out; omega) (show roomsTo room bs xs (k + 1) = [x.1.1] from hpre.symm))
    clear hpre hro s3
    have hv : (W.putObj D (.deferred none)).cell? ⟨w.heap.size + 1, 0, none⟩ = some (.int .i64 (x.1.1 : Int)) :=
      (World.cell?_of_block (a := ⟨w.heap.size + 1, 0, none⟩) (World.putObj_heap_other (by simp; omega))).trans s1
    gi_wp2
    refine markPost_ret (v := .int .i64 (x.1.1 : Int)) hKD (by simp [results, Tryz.results31, go_sem, hv]) ⟨ret_int Hpre.out.symm, HS3.out.trans (belowK_b (w := w) (Nat.le_refl _) W D _ _ (by have := BW6.out.size; omega) hKD rfl rfl)⟩

end Go.Proofs.YtdgeicdiiakhjaaGreat

namespace Go.Proofs.YtdgeicdiiakhjaaGreat
set_option linter.unusedSimpArgs false
set_option linter.unusedVariables false
open Go Go.RowKit

section
variable {P : Program} {ops : Array Oper} {Q : Exit → Act → World → Prop} {md : Region.Mode} {S : World → Prop} {Ls : List Nat}

/-- Whatever order is picked from here on, and S holds behind every operation that is carried out, but for those of Ls. -/
def wpAnyL (P : Program) (md : Region.Mode) (ops : Array Oper) (Q : Exit → Act → World → Prop) (S : World → Prop) (Ls : List Nat) : Nat → Array Bool → Act → World → Prop
  | 0, listed, a, w => Region.ready md ops listed = [] ∧ Q .normal a w
  | fuel + 1, listed, a, w =>
    (Region.ready md ops listed = [] → Q .normal a w) ∧
    ∀ i ∈ Region.ready md ops listed, wpOp P ops Q i (fun a' w' => (i ∈ Ls ∨ S w') ∧ wpAnyL P md ops Q S Ls fuel (listed.setIfInBounds i true) a' w') a w
theorem wpAny_of_L : ∀ (fuel : Nat) (listed : Array Bool) (a : Act) (w : World), wpAnyL P md ops Q S Ls fuel listed a w → wpAny P md ops Q fuel listed a w
  | 0, _, _, _, h => h
  | fuel + 1, _, _, _, h => ⟨h.1, fun i hi => wpOp_mono (fun a' w' h' => wpAny_of_L fuel _ a' w' h'.2) (h.2 i hi)⟩

/-- What is listed has all listed that it waits for. -/
def ClosedL (md : Region.Mode) (ops : Array Oper) (listed : Array Bool) : Prop := ∀ j o, ops[j]? = some o → listed.getD j false = true → ∀ e ∈ o.after, Region.binds md e = true → listed.getD e.on false = true
theorem closed_set {listed : Array Bool} {j : Nat} (h : ClosedL md ops listed) (hj : j ∈ Region.ready md ops listed) : ClosedL md ops (listed.setIfInBounds j true) := by
  intro k o hk hl e he hb
  by_cases e1 : j = k
  · subst e1
    obtain ⟨_, o', ho', hall⟩ := mem_ready.1 hj
    rw [hk] at ho'
    injection ho' with ho'
    subst ho'
    exact getD_set_true (hall e he hb)
  · rw [getD_set_ne false e1] at hl
    exact getD_set_true (h k o hk hl e he hb)
/-- Operation l waits for operation i, by some steps. -/
def waitsL (md : Region.Mode) (ops : Array Oper) : Nat → Nat → Nat → Bool
  | 0, _, _ => false
  | f + 1, l, i => match ops[l]? with
    | none => true
    | some o => o.after.toList.any (fun e => Region.binds md e && (e.on == i || (decide (e.on < ops.size) && waitsL md ops f e.on i)))
theorem waits_listed {listed : Array Bool} {i : Nat} (h : ClosedL md ops listed) : ∀ (f l : Nat), l < ops.size → listed.getD l false = true → waitsL md ops f l i = true → listed.getD i false = true
  | 0, l, _, _, hw => by cases hw
  | f + 1, l, hlt, hl, hw => by
    unfold waitsL at hw
    rw [Array.getElem?_eq_getElem hlt] at hw
    simp only [List.any_eq_true, Bool.and_eq_true, Bool.or_eq_true, beq_iff_eq, decide_eq_true_eq] at hw
    obtain ⟨e, he, hb, hx⟩ := hw
    have he : e ∈ _ := Array.mem_toList_iff.1 he
    have h1 := h l _ (Array.getElem?_eq_getElem hlt) hl e he hb
    rcases hx with rfl | ⟨hx1, hx2⟩
    · exact h1
    · exact waits_listed h f e.on hx1 h1 hx2
theorem waits_ready {listed : Array Bool} {i l f : Nat} (h : ClosedL md ops listed) (hr : l ∈ Region.ready md ops listed) (hw : waitsL md ops (f + 1) l i = true) : listed.getD i false = true := by
  obtain ⟨_, o, ho, hall⟩ := mem_ready.1 hr
  unfold waitsL at hw
  rw [ho] at hw
  simp only [List.any_eq_true, Bool.and_eq_true, Bool.or_eq_true, beq_iff_eq, decide_eq_true_eq] at hw
  obtain ⟨e, he, hb, hx⟩ := hw
  have he : e ∈ _ := Array.mem_toList_iff.1 he
  have h1 := hall e he hb
  rcases hx with rfl | ⟨hx1, hx2⟩
  · exact h1
  · exact waits_listed h f e.on hx1 h1 hx2
theorem getD_both {listed : Array Bool} {i : Nat} (h : listed.getD i true = false) : listed.getD i false = false := by
  simp only [Array.getD_eq_getD_getElem?] at h ⊢
  cases hh : listed[i]? with
  | none => rfl
  | some b => rw [hh] at h; exact h

theorem wpAnyL_first {i : Nat} {oi : Oper} {v : Value} (hi : ops[i]? = some oi) (hsel : ∀ (j : Nat) (o : Oper) cs b, ops[j]? = some o → o.op ≠ .select cs b)
    (hQ : ∀ c a w, Q (.panic c) (a.put oi.dst v) w → Q (.panic c) a w) (hL : ∀ l ∈ Ls, l ≠ i → waitsL md ops (ops.size + 1) l i = true) :
    ∀ (fuel : Nat) (listed : Array Bool) (a : Act) (w : World), ClosedL md ops listed →
      (∀ j oj, ops[j]? = some oj → j ≠ i → listed.getD j true = false → (∀ e ∈ oj.after, Region.binds md e = true → e.on ≠ i) → oi.apart ops oj = true) →
      i ∈ Region.ready md ops listed → YieldsIf P ops S oi v a → S w →
      wpAnyL P md ops Q S Ls fuel (listed.setIfInBounds i true) (a.put oi.dst v) w → wpAnyL P md ops Q S Ls (fuel + 1) listed a w := by
  intro fuel
  induction fuel with
  | zero =>
    intro listed a w _ _ hr hy hS H
    refine ⟨fun h => (by rw [h] at hr; cases hr), fun j hj => ?_⟩
    by_cases hji : j = i
    · subst hji; exact hy.wpOp hi hS ⟨.inr hS, H⟩
    · have := ready_mono hj hji
      rw [H.1] at this
      cases this
  | succ fuel ih =>
    intro listed a w hcl hfree hr hy hS H
    refine ⟨fun h => (by rw [h] at hr; cases hr), fun j hj => ?_⟩
    by_cases hji : j = i
    · subst hji; exact hy.wpOp hi hS ⟨.inr hS, H⟩
    · have h1 := H.2 j (ready_mono hj hji)
      obtain ⟨hjun, oj, hoj, hall⟩ := mem_ready.1 hj
      have hiun := getD_both (mem_ready.1 hr).1
      have hjL : j ∉ Ls := fun hm => by
        have := waits_ready hcl hj (hL j hm hji)
        rw [hiun] at this; cases this
      have hnot : ∀ e ∈ oj.after, Region.binds md e = true → e.on ≠ i := fun e he hb heq => by
        have h1 := hall e he hb
        rw [heq, hiun] at h1
        cases h1
      have h2 := wpOp_putIf hoj (hfree j oj hoj hji hjun hnot) (fun cs b => hsel i oi cs b hi) (fun cs b => hsel j oj cs b hoj) hQ hy h1
      have hfree' : ∀ k ok, ops[k]? = some ok → k ≠ i → (listed.setIfInBounds j true).getD k true = false →
          (∀ e ∈ ok.after, Region.binds md e = true → e.on ≠ i) → oi.apart ops ok = true := fun k ok hk hki hun hno => by
        refine hfree k ok hk hki ?_ hno
        by_cases hjk : j = k
        · subst hjk; exact hjun
        · rw [getD_set_ne true hjk] at hun; exact hun
      refine wpOp_mono (fun a' w' h3 => ⟨h3.2.1, ih (listed.setIfInBounds j true) a' w' (closed_set hcl hj) hfree' (ready_mono hr (Ne.symm hji)) h3.1 (h3.2.1.resolve_left hjL) ?_⟩) h2
      rw [Array.setIfInBounds_comm _ _ hji]
      exact h3.2.2

/-- An order of a region's operations; behind a 'last' nothing need be held. -/
inductive MixL where
  | nil
  | take (i : Nat) (r : MixL)
  | bar (i : Nat) (r : MixL)
  | last (i : Nat) (r : MixL)
  | fork (i : Nat) (r : MixL) (j : Nat) (s : MixL)
def lexMixL (Ls : List Nat) (ops : Array Oper) : MixL → Bool → Nat → Array Bool → Bool
  | .nil, _, _, listed => (Region.ready .any ops listed).isEmpty
  | .take i r, b, f, listed => b && (decide (0 < f) && ((Region.ready .any ops listed).contains i && Region.free .any ops listed i) && (Ls.all (fun l => l == i || waitsL .any ops (ops.size + 1) l i) && lexMixL Ls ops r b (f - 1) (listed.setIfInBounds i true)))
  | .bar i r, _, f, listed => decide (0 < f) && decide (Region.ready .any ops listed = [i]) && lexMixL Ls ops r true (f - 1) (listed.setIfInBounds i true)
  | .last i r, _, f, listed => decide (0 < f) && decide (Region.ready .any ops listed = [i]) && (Ls.contains i && lexMixL Ls ops r false (f - 1) (listed.setIfInBounds i true))
  | .fork i r j s, _, f, listed => decide (0 < f) && decide (Region.ready .any ops listed = [i, j]) && (lexMixL Ls ops r true (f - 1) (listed.setIfInBounds i true) && lexMixL Ls ops s true (f - 1) (listed.setIfInBounds j true))
def mixLOk (Ls : List Nat) (ops : Array Oper) (ord : MixL) : Bool := Region.noSelect ops && lexMixL Ls ops ord true ops.size (Array.replicate ops.size false)
def wpMixL (P : Program) (ops : Array Oper) (Q : Exit → Act → World → Prop) (S : World → Prop) : MixL → Act → World → Prop
  | .nil, a, w => Q .normal a w
  | .take i r, a, w => ∃ o v, ops[i]? = some o ∧ YieldsIf P ops S o v a ∧ wpMixL P ops Q S r (a.put o.dst v) w
  | .bar i r, a, w => wpOp P ops Q i (fun a' w' => S w' ∧ wpMixL P ops Q S r a' w') a w
  | .last i r, a, w => wpOp P ops Q i (fun a' w' => wpMixL P ops Q S r a' w') a w
  | .fork i r j s, a, w => wpOp P ops Q i (fun a' w' => S w' ∧ wpMixL P ops Q S r a' w') a w ∧ wpOp P ops Q j (fun a' w' => S w' ∧ wpMixL P ops Q S s a' w') a w
theorem ready_head {i : Nat} {l : List Nat} {listed : Array Bool} (h : Region.ready .any ops listed = i :: l) : i ∈ Region.ready .any ops listed := by rw [h]; exact List.mem_cons_self ..
theorem wpAnyL_mix (hsel : Region.noSelect ops = true) (hQ : ∀ c a a' w, Q (.panic c) a w → Q (.panic c) a' w) : ∀ (ord : MixL) (b : Bool) (f : Nat) (listed : Array Bool) (a : Act) (w : World),
    lexMixL Ls ops ord b f listed = true → ClosedL .any ops listed → (b = true → S w) → wpMixL P ops Q S ord a w → wpAnyL P .any ops Q S Ls f listed a w
  | .nil, b, f, listed, _, _, hB, _, _, h => by
    have hr : Region.ready .any ops listed = [] := by simpa [lexMixL] using hB
    cases f with
    | zero => exact ⟨hr, h⟩
    | succ f => exact ⟨fun _ => h, by rw [hr]; simp⟩
  | .take i r, b, f, listed, a, w, hB, hC, hS, h => by
    simp only [lexMixL, Bool.and_eq_true, decide_eq_true_eq, List.all_eq_true, Bool.or_eq_true, beq_iff_eq] at hB
    obtain ⟨hb, ⟨hf, hcon, hfr⟩, hwt, hrest⟩ := hB
    obtain ⟨f, rfl⟩ : ∃ g, f = g + 1 := ⟨f - 1, by omega⟩
    obtain ⟨o, v, h0, hy, hK⟩ := h
    have hr : i ∈ Region.ready .any ops listed := by simpa using hcon
    exact wpAnyL_first h0 (Region.noSelect_spec hsel) (fun c a' w' hq => hQ c _ _ w' hq) (fun l hl hne => (hwt l hl).resolve_left hne) f listed a w hC (Region.free_spec h0 hfr) hr hy (hS hb)
      (wpAnyL_mix hsel hQ r b _ _ _ w hrest (closed_set hC hr) hS hK)
  | .bar i r, b, f, listed, a, w, hB, hC, hS, h => by
    simp only [lexMixL, Bool.and_eq_true, decide_eq_true_eq] at hB
    obtain ⟨f, rfl⟩ : ∃ g, f = g + 1 := ⟨f - 1, by omega⟩
    refine ⟨fun h0 => (by rw [hB.1.2] at h0; cases h0), fun j hj => ?_⟩
    have : j = i := by rw [hB.1.2] at hj; simpa using hj
    subst this
    exact wpOp_mono (fun a' w' hh => ⟨.inr hh.1, wpAnyL_mix hsel hQ r true _ _ a' w' hB.2 (closed_set hC hj) (fun _ => hh.1) hh.2⟩) h
  | .last i r, b, f, listed, a, w, hB, hC, hS, h => by
    simp only [lexMixL, Bool.and_eq_true, decide_eq_true_eq] at hB
    obtain ⟨f, rfl⟩ : ∃ g, f = g + 1 := ⟨f - 1, by omega⟩
    refine ⟨fun h0 => (by rw [hB.1.2] at h0; cases h0), fun j hj => ?_⟩
    have : j = i := by rw [hB.1.2] at hj; simpa using hj
    subst this
    exact wpOp_mono (fun a' w' hh => ⟨.inl (by simpa using hB.2.1), wpAnyL_mix hsel hQ r false _ _ a' w' hB.2.2 (closed_set hC hj) (fun h => by cases h) hh⟩) h
  | .fork i r j s, b, f, listed, a, w, hB, hC, hS, h => by
    simp only [lexMixL, Bool.and_eq_true, decide_eq_true_eq] at hB
    obtain ⟨f, rfl⟩ : ∃ g, f = g + 1 := ⟨f - 1, by omega⟩
    refine ⟨fun h0 => (by rw [hB.1.2] at h0; cases h0), fun k hk => ?_⟩
    have hk' := hk
    rw [hB.1.2] at hk'
    rcases List.mem_cons.1 hk' with rfl | hk'
    · exact wpOp_mono (fun a' w' hh => ⟨.inr hh.1, wpAnyL_mix hsel hQ r true _ _ a' w' hB.2.1 (closed_set hC hk) (fun _ => hh.1) hh.2⟩) h.1
    · have : k = j := by simpa using hk'
      subst this
      exact wpOp_mono (fun a' w' hh => ⟨.inr hh.1, wpAnyL_mix hsel hQ s true _ _ a' w' hB.2.2 (closed_set hC hk) (fun _ => hh.1) hh.2⟩) h.2
theorem wp_region_mixL {id : Nat} {Q' : Exit → Act → World → Prop} {a : Act} {w : World} {l : List Oper} (ord : MixL) (Ls : List Nat) (S : World → Prop) (hm : P.follows .mixedOrders = true) (hB : mixLOk Ls l.toArray ord = true) (hS : S w.drew)
    (h : S w.drew → wpMixL P l.toArray (NoPanic Q') S ord a w.drew) : (Code.region id l.toArray true).wp P Q' a w := by
  simp only [mixLOk, Bool.and_eq_true] at hB
  refine wp_region_noPanic (wp_region_any hm (wpAny_of_L (S := S) (Ls := Ls) _ _ _ _ ?_))
  exact wpAnyL_mix (Q := NoPanic Q') (S := S) (Ls := Ls) hB.1 (fun c a a' w hq => (hq : False).elim) ord true _ (Array.replicate l.toArray.size false) a w.drew hB.2 (fun j o hj hl => by
    exfalso
    simp only [Array.getD_eq_getD_getElem?] at hl
    rw [Array.getElem?_replicate] at hl
    split at hl <;> simp at hl) (fun _ => hS) (h hS)

theorem wpMixL_take {i : Nat} {o : Oper} {tl : List Oper} {r : MixL} {a : Act} {w : World} {v : Value} (ho : ops.toList.drop i = o :: tl) (hw : Region.wanted o (yielded ops a.tmps) = true) (hy : ∀ w', S w' → (execOp a.eval o).run P w' = .ok (.value v) w')
    (h : wpMixL P ops Q S r (a.put o.dst v) w) : wpMixL P ops Q S (.take i r) a w := ⟨o, v, mix_at ho, .inl ⟨hw, hy⟩, h⟩
theorem wpMixL_skip {i : Nat} {o : Oper} {tl : List Oper} {r : MixL} {a : Act} {w : World} (ho : ops.toList.drop i = o :: tl) (hw : Region.wanted o (yielded ops a.tmps) = false)
    (h : wpMixL P ops Q S r (a.put o.dst undef) w) : wpMixL P ops Q S (.take i r) a w := ⟨o, undef, mix_at ho, .inr ⟨hw, rfl⟩, h⟩
theorem wpMixL_bar {i : Nat} {o : Oper} {tl : List Oper} {r : MixL} {a : Act} {w : World} (ho : ops.toList.drop i = o :: tl)
    (h : ∀ K : Act → World → Prop, Shut (∀ a w, S w → (S w → wpMixL P ops Q S r a w) → K a w) → if Region.wanted o (yielded ops a.tmps) = true then Oper.wp P o a w K Q else K (a.put o.dst undef) w) : wpMixL P ops Q S (.bar i r) a w :=
  wpOp_step (mix_at ho) (fun K' hK => h K' (fun a w hS hW => hK a w ⟨hS, hW hS⟩))
theorem wpMixL_last {i : Nat} {o : Oper} {tl : List Oper} {r : MixL} {a : Act} {w : World} (ho : ops.toList.drop i = o :: tl)
    (h : ∀ K : Act → World → Prop, Shut (∀ a w, wpMixL P ops Q S r a w → K a w) → if Region.wanted o (yielded ops a.tmps) = true then Oper.wp P o a w K Q else K (a.put o.dst undef) w) : wpMixL P ops Q S (.last i r) a w :=
  wpOp_step (mix_at ho) (fun K' hK => h K' (fun a w hW => hK a w hW))
theorem wpMixL_fork {i j : Nat} {o o' : Oper} {tl tl' : List Oper} {r s : MixL} {a : Act} {w : World} (ho : ops.toList.drop i = o :: tl) (ho' : ops.toList.drop j = o' :: tl')
    (h : ∀ K : Act → World → Prop, Shut (∀ a w, S w → (S w → wpMixL P ops Q S r a w) → K a w) → if Region.wanted o (yielded ops a.tmps) = true then Oper.wp P o a w K Q else K (a.put o.dst undef) w)
    (h' : ∀ K : Act → World → Prop, Shut (∀ a w, S w → (S w → wpMixL P ops Q S s a w) → K a w) → if Region.wanted o' (yielded ops a.tmps) = true then Oper.wp P o' a w K Q else K (a.put o'.dst undef) w) : wpMixL P ops Q S (.fork i r j s) a w :=
  ⟨wpOp_step (mix_at ho) (fun K' hK => h K' (fun a w hS hW => hK a w ⟨hS, hW hS⟩)), wpOp_step (mix_at ho') (fun K' hK => h' K' (fun a w hS hW => hK a w ⟨hS, hW hS⟩))⟩
theorem wpMixL_nil {Q' : Exit → Act → World → Prop} {a : Act} {w : World} (h : Q' .normal a w) : wpMixL P ops (NoPanic Q') S .nil a w := h
end
end Go.Proofs.YtdgeicdiiakhjaaGreat

namespace Go.Proofs.YtdgeicdiiakhjaaGreat
set_option linter.unusedSimpArgs false
set_option linter.unusedVariables false
open Go Go.RowKit
attribute [local go_sem ↓] Go.wp_at_zero Go.wp_at_succ

set_option maxRecDepth 100000 in
set_option maxHeartbeats 1600000 in
theorem l11At_any (A1 A2 A5 : Option Addr) (n1 c1 n2 c2 c5 : Nat) (room : List Int) (bs : List (List Tk)) (id : Int) (xs : List Int) (w : World) (h1 : RdI w w.heap.size A1 n1 room) (h2 : RdB w w.heap.size A2 n2 bs) (h5 : RdI w w.heap.size A5 3 xs)
    (hn1 : 3 ≤ n1) (hbs : ∀ k, k < n2 → (bs[k]?.getD []).length ≤ 900 ∧ ∀ t ∈ bs[k]?.getD [], vecOk t.2 = true) (hx : ∀ j, j < 3 → -1000000 ≤ xs[j]?.getD 0 ∧ xs[j]?.getD 0 ≤ 1000000) :
    Calls Tryz.prog 71 #[.slice A1 n1 c1, .slice A2 n2 c2, .agg #[.int .i64 id, .slice A5 3 c5]] w fun e w' => e = .returned (.int .i64 (firstP room bs xs)) ∧ Below w.heap.size w w' := by
  have B0 := qh (alloc_up w (.cells #[.int .i64 id, .slice A5 3 c5] 43))
  have P0 := qh (Blk.new w 43 #[.int .i64 id, .slice A5 3 c5])
  have I0 := qh (h1.up B0.out)
  have N0 := qh (h2.up B0.out)
  have X0 := qh (h5.up B0.out)
  have Hl := qh h2.len
  have hnm := h2.2.1
  have Hbs := qh hbs
  have Hx := qh hx
  clear h1 h2 h5 hbs hx
  go_enter Tryz.func71, Tryz.ntmps71
  go_wp2_with fail
  generalize hgx : w.heap.size = gx at P0 ⊢
  generalize w.alloc (.cells #[.int .i64 id, .slice A5 3 c5] 43) = w1 at B0 P0 I0 N0 X0 ⊢
  have lgx := P0.out.lt
  go_loopw [7] (fun i wr => ∃ k : Nat, i = .int .i64 (k : Nat) ∧ k ≤ n2 ∧ Below w1.heap.size w1 wr ∧ roomsTo room bs xs k = []) (fun i _ => n2 - (intOf i).toNat)
  case atStart => exact ⟨0, rfl, Nat.zero_le _, Below.refl _ _, rfl⟩
  case round =>
    obtain ⟨k, rfl, hk, hup, hno⟩ := hrel
    have Hup := qh hup
    have Hno := qh hno
    have lzr : w1.heap.size ≤ wr.heap.size := hup.size
    clear hup hno
    by_cases hlt : k < n2
    · have q1 : (0 : Int) ≤ (k : Int) := by omega
      have q2 : (k : Int) < (n2 : Int) := by omega
      have v1 : IntKind.i64.wrap ((k : Int) + 1) = (k : Int) + 1 := wr64 (by omega) (by omega)
      obtain ⟨b, o, A', m', c', rfl, lb, hc1, hmc, hrd⟩ := N0.out.at_ hlt
      have hm9 : m' ≤ 900 := by have := (Hbs.out k hlt).1; have := hrd.len; omega
      have Hrd := qh hrd
      have Hop := qh (show ∀ W : World, Below w1.heap.size w1 W → W.cell? ⟨b, o + k, none⟩ = some (.slice A' m' c') ∧ W.cell? ⟨gx, 0, none⟩ = some (.int .i64 id) ∧ W.cell? ⟨gx, 1, none⟩ = some (.slice A5 3 c5) from fun W hW =>
        ⟨(hW.cell (p := ⟨b, o + k, none⟩) lb).trans hc1, (P0.out.below hW P0.out.lt).cell 0, (P0.out.below hW P0.out.lt).cell 1⟩)
      clear hc1 hrd
      go_wp2_with fail
      refine wp_region_mixL (.take 0 (.take 1 (.take 2 (.take 3 (.take 4 (.take 5 (.bar 6 .nil))))))) [] (fun w' => w'.cell? ⟨b, o + k, none⟩ = some (.slice A' m' c') ∧ w'.cell? ⟨gx, 0, none⟩ = some (.int .i64 id) ∧ w'.cell? ⟨gx, 1, none⟩ = some (.slice A5 3 c5)) (by kernel_rfl) (by kernel_rfl) (Hop.out _ Hup.out.drew) (fun _ => ?_)
      have U2 := qh Hup.out.drew
      have lz2 : w1.heap.size ≤ wr.drew.heap.size := lzr
      generalize wr.drew = w2 at U2 lz2 ⊢
      repeat ((first | refine wpMixL_skip (by rfl) (by rfl) ?_ | (refine wpMixL_take (v := ?_) (by rfl) (by rfl) (fun wS hSt => ?_) ?_; rotate_left; (focus ((try dsimp only at hSt); (go_simp <;> with_reducible rfl); done)))); (try simp only [Act.put, pS, pZ, pC]))
      (refine wpMixL_bar (by rfl) (fun K hK => ?_); go_simp)
      have hvt : ∀ a, a < m' → vecOk ((bs[k]?.getD [])[a]?.getD (0, [])).2 = true := fun a ha => by
        have hla : a < (bs[k]?.getD []).length := by have := Hrd.out.len; omega
        refine (Hbs.out k hlt).2 _ ?_
        rw [List.getElem?_eq_getElem hla]
        exact List.getElem_mem hla
      refine (l11Fits_any A1 A' A5 n1 c1 m' c' c5 room (bs[k]?.getD []) id xs w2 (I0.out.up U2.out) (Hrd.out.up U2.out) (X0.out.up U2.out) hn1 hm9 (fun a ha => vecOk_len (hvt a ha)) (fun a x => ?_) Hx.out).mono ?_
      · rcases Nat.lt_or_ge a m' with ha | ha
        · have := vecOk_bd (hvt a ha) x; omega
        · have hna : (bs[k]?.getD [])[a]? = none := List.getElem?_eq_none (by have := Hrd.out.len; omega)
          rw [hna]; simp
      rintro e w3 ⟨rfl, hb3⟩
      have U3 := qh (U2.out.trans (hb3.mono lz2))
      ((try dsimp only); refine nxK hK _ _ (Hop.out _ U3.out) ?_; clear hK K; (try simp only [Act.put, pS, pZ, pC]))
      refine wpMixL_nil ?_
      clear hb3 U2 lz2 hvt
      cases hf : fits3 (add3 (loadP (bs[k]?.getD [])) xs) room with
      | false =>
        have Hf := qh (show roomB room bs xs k = false from hf)
        clear hf
        go_wp2_with fail
        go_roundw
        case measure => simp [intOf]; omega
        case rel => exact ⟨k + 1, by go_num, by omega, U3.out, by rw [roomsTo_no Hf.out]; exact Hno.out⟩
      | true =>
        have Hf := qh (show roomB room bs xs k = true from hf)
        clear hf
        go_wp2_with fail
        go_ret
        have e : firstP room bs xs = (k : Int) := rooms_head (k := k) (by have := Hl.out; omega) (by rw [roomsTo_yes Hf.out, Hno.out]; rfl)
        rw [e]
        exact ⟨rfl, B0.out.trans (U3.out.mono (by omega))⟩
    · obtain rfl : k = n2 := by omega
      go_wp2_with fail
      go_ret
      have e : firstP room bs xs = -1 := first_neg.2 (by rw [Hl.out]; exact Hno.out)
      rw [e]
      exact ⟨rfl, B0.out.trans (Hup.out.mono (by omega))⟩
end Go.Proofs.YtdgeicdiiakhjaaGreat
