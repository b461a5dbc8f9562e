/- Walk: the program's leave. -/
import Derived.Test.YtkcflajhmekcaaaGreatEvictSort
import Derived.Deep.LoopGhost
namespace Go.Proofs.YtkcflajhmekcaaaGreat
open Go.RowKit
attribute [local go_sem ↓] Go.wp_at_zero Go.wp_at_succ

theorem not_upd (g : Nat → Bool) (k : Nat) (v : Bool) : upd (fun j => !g j) k v = fun j => !(upd g k (!v)) j := by
  funext j; unfold upd; split <;> simp
theorem natV_snoc (l : List Nat) (k : Nat) : natV (l ++ [k]) = natV l ++ [.int .i64 (k : Int)] := by simp [natV]
theorem src_int (w : World) (k : Int) : Src (w.alloc (.cells #[.int .i64 k] 3)) 1 (some ⟨w.heap.size, 0, none⟩) 1 [.int .i64 k] :=
  ⟨rfl, fun _ => ⟨_, rfl, fun j u hu => by rw [addr_add, Nat.zero_add, (Blk.new w 3 #[.int .i64 k]).cell]; simpa using hu⟩⟩

theorem backP_take {fit : (Nat → Bool) → Bool} (k : Nat) (l : List Nat) (g : Nat → Bool) : backP fit (k :: l) g = backP fit l (upd g k (!fit (upd g k false))) := rfl
/-- Sorted, those who leave are the list. -/
theorem sort_listG {g : Nat → Bool} {n : Nat} {l : List Nat} (hn : l.Nodup) (hm : ∀ j, g j = true → j ∈ l) (hlt : ∀ j ∈ l, j < n) : (((l.filter g).map Int.ofNat).mergeSort fun x y => decide (x ≤ y)) = listG g n := by
  have hp : (l.filter g).Perm ((List.range n).filter g) := by
    refine (List.perm_ext_iff_of_nodup (List.Pairwise.filter g hn) (List.Pairwise.filter g List.nodup_range)).2 fun a => ?_
    simp only [List.mem_filter, List.mem_range]
    exact ⟨fun h => ⟨hlt a h.1, h.2⟩, fun h => ⟨hm a h.2, h.2⟩⟩
  refine List.Perm.eq_of_pairwise (le := fun x y : Int => x ≤ y) (fun a b _ _ h1 h2 => by omega) ?_ ?_ ((List.mergeSort_perm _ _).trans (hp.map _))
  · have := List.pairwise_mergeSort (le := fun x y : Int => decide (x ≤ y)) (fun a b c h1 h2 => by simp at *; omega) (fun a b => by simp; omega) ((l.filter g).map Int.ofNat)
    exact this.imp fun h => by simpa using h
  · rw [listG, List.pairwise_map]
    exact (List.Pairwise.filter g List.pairwise_lt_range).imp fun h => by show Int.ofNat _ ≤ Int.ofNat _; simp; omega
theorem natV_ints (l : List Nat) : natV l = (l.map Int.ofNat).map (Value.int .i64) := by simp [natV]
theorem filter_upd_ne {g : Nat → Bool} {k : Nat} {v : Bool} {l : List Nat} (h : k ∉ l) : l.filter (upd g k v) = l.filter g := List.filter_congr fun j hj => by rw [upd_ne]; exact fun e => h (by rw [← e]; exact hj)

/-- What a walk of 'leave' holds: the eviction, the boxed pointer, the boxed task. -/
structure Lv (w : World) (B eb fb bx xb : Nat) (A1 A2 A3 A4 : Option Addr) (n1 c1 n c2 c3 c4 : Nat) (id : Int) (W : World) : Prop where
  ev : EvB W eb fb A1 A2 A3 n1 c1 n c2 n c3
  px : Blk W bx 58 #[.pointer (some ⟨eb, 0, none⟩)]
  tx : Blk W xb 33 #[.int .i64 id, .slice A4 3 c4]
  be : Below B w W
section
variable {w W W' : World} {B eb fb bx xb n1 c1 n c2 c3 c4 : Nat} {A1 A2 A3 A4 : Option Addr} {id : Int}
theorem Lv.keep (h : Lv w B eb fb bx xb A1 A2 A3 A4 n1 c1 n c2 c3 c4 id W) (hk : ∀ b, b = eb ∨ b = bx ∨ b = xb → W'.heap[b]? = W.heap[b]?) (hb : Below B W W') : Lv w B eb fb bx xb A1 A2 A3 A4 n1 c1 n c2 c3 c4 id W' :=
  ⟨(hk eb (.inl rfl)).trans h.ev, (hk bx (.inr (.inl rfl))).trans h.px, (hk xb (.inr (.inr rfl))).trans h.tx, h.be.trans hb⟩
theorem Lv.up (h : Lv w B eb fb bx xb A1 A2 A3 A4 n1 c1 n c2 c3 c4 id W) (hb : Below W.heap.size W W') (hB : B ≤ W.heap.size) : Lv w B eb fb bx xb A1 A2 A3 A4 n1 c1 n c2 c3 c4 id W' :=
  h.keep (fun b hh => hb.block b (by
    have a := h.ev.lt
    have b := h.px.lt
    have c := h.tx.lt
    rcases hh with rfl | rfl | rfl <;> omega)) (hb.mono hB)
theorem Lv.set (h : Lv w B eb fb bx xb A1 A2 A3 A4 n1 c1 n c2 c3 c4 id W) (k : Nat) (u : Value) (hB : B ≤ fb) (h1 : fb ≠ eb) (h2 : fb ≠ bx) (h3 : fb ≠ xb) : Lv w B eb fb bx xb A1 A2 A3 A4 n1 c1 n c2 c3 c4 id (W.setCell ⟨fb, k, none⟩ u) :=
  h.keep (fun b hh => Below.heap_setCell W ⟨fb, k, none⟩ u b (by rcases hh with rfl | rfl | rfl <;> simp <;> omega)) ((Below.refl _ _).setCell (p := ⟨fb, k, none⟩) hB u)
theorem Lv.grown {row : Option Nat} {base : Nat} (h : Lv w B eb fb bx xb A1 A2 A3 A4 n1 c1 n c2 c3 c4 id W) (hg : W.grownBy W' row) (hr : ∀ b, row = some b → base ≤ b) (h1 : eb < base) (h2 : bx < base) (h3 : xb < base) (hB : B ≤ base) (hB2 : B ≤ W.heap.size) : Lv w B eb fb bx xb A1 A2 A3 A4 n1 c1 n c2 c3 c4 id W' :=
  h.keep (fun b hh => hg.block b (by
    have a := h.ev.lt
    have b := h.px.lt
    have c := h.tx.lt
    rcases hh with rfl | rfl | rfl <;> omega) (fun e => by have := hr b e.symm; rcases hh with rfl | rfl | rfl <;> omega))
    ⟨hg.os, hg.tape, hg.output, hg.size, fun b hb => hg.block b (by omega) (fun e => by have := hr b e.symm; omega)⟩
theorem Lv.cells (h : Lv w B eb fb bx xb A1 A2 A3 A4 n1 c1 n c2 c3 c4 id W) : W.cell? ⟨bx, 0, none⟩ = some (.pointer (some ⟨eb, 0, none⟩)) ∧ W.cell? ⟨xb, 0, none⟩ = some (.int .i64 id) ∧ W.cell? ⟨xb, 1, none⟩ = some (.slice A4 3 c4) :=
  ⟨h.px.cell 0, h.tx.cell 0, h.tx.cell 1⟩
end
theorem Blk.grownFar {w w' : World} {row : Option Nat} {base g : Nat} {t : TypeId} {cs : Array Value} (h : Blk w g t cs) (hg : w.grownBy w' row) (hr : ∀ b, row = some b → base ≤ b) (hb : g < base) : Blk w' g t cs :=
  (hg.block g h.lt (fun e => by have := hr g e.symm; omega)).trans h
theorem own_row_ge {w : World} {base : Nat} {e : TypeId} {size : Nat} {v : Value} {n : Nat} {xs : List Value} (h : w.ownsRow base e size v n xs) : ∀ b, v.ownBlock = some b → base ≤ b := fun b hb => (h.lt b hb).1

set_option maxRecDepth 100000 in
set_option maxHeartbeats 3200000 in
theorem leave_any (B eb fb : Nat) (A1 A2 A3 A4 : Option Addr) (n1 c1 n c2 c3 c4 : Nat) (room rk : List Int) (ts : List Tk) (id : Int) (xs : List Int) (r : Int) (w : World) (hE : EvB w eb fb A1 A2 A3 n1 c1 n c2 n c3)
    (hF : Blk w fb 4 (flA (fun _ => true) n)) (hne : fb ≠ eb) (hB : B ≤ fb) (h1 : RdI w B A1 n1 room) (h2 : RdT w B A2 n ts) (h3 : RdI w B A3 n rk) (h4 : RdI w B A4 3 xs) (hn1 : 3 ≤ n1) (hn : n ≤ 900)
    (hv : ∀ t ∈ ts, vecOk t.2 = true) (hx : vecOk xs = true) (hrk : ∀ j : Nat, 0 ≤ rk[j]?.getD 0 ∧ rk[j]?.getD 0 ≤ 9) :
    Calls Tryz.prog 34 #[.pointer (some ⟨eb, 0, none⟩), .agg #[.int .i64 id, .slice A4 3 c4], .int .i64 r] w fun e w' =>
      ((goneP room ts rk xs r = none ∧ e = .returned (.tuple #[.slice none 0 0, .bool false])) ∨
       ∃ g A m c, goneP room ts rk xs r = some g ∧ e = .returned (.tuple #[.slice A m c, .bool true]) ∧ w'.ownsRow w.heap.size 3 1 (.slice A m c) m ((listG g n).map (Value.int .i64))) ∧ Below B w w' := by
  obtain ⟨i0, hi0, hz0, hz1, hz2⟩ := info_parts int_info
  have hl := Lib.hid h2.len
  have lF : fb < w.heap.size := hF.lt
  have lE : eb < w.heap.size := hE.lt
  have HF := Lib.hid hF
  have HE := Lib.hid hE
  have H1 := Lib.hid h1
  have H2 := Lib.hid h2
  have H3 := Lib.hid h3
  have H4 := Lib.hid h4
  have Hv := Lib.hid hv
  have Hx := Lib.hid hx
  have Hrk := Lib.hid hrk
  clear h1 h2 h3 h4 hv hx hE hF hrk
  have Hld := Lib.hid (load_ok Hv.out)
  -- whether there is room beside those who are there
  have hfit : ∀ (W : World) (g : Nat → Bool), B ≤ W.heap.size → Below B w W → EvB W eb fb A1 A2 A3 n1 c1 n c2 n c3 → Blk W fb 4 (flA (fun j => !g j) n) →
      Calls Tryz.prog 53 #[.pointer (some ⟨eb, 0, none⟩), .agg #[.int .i64 id, .slice A4 3 c4]] W fun e w' => e = .returned (.bool (fitE room ts xs g)) ∧ Below W.heap.size W w' := fun W g hW hb he hf =>
    evFits_any eb fb A1 A2 A3 A4 n1 c1 n c2 n c3 c4 room ts id xs g W he (RdF.of_blk hf (by omega)) ((H1.out.below hb).more hW) ((H2.out.below hb).more hW) ((H4.out.below hb).more hW) hn1 hn
      (fun j hj => Hld.out.1 j (by have := hl.out; omega)) Hld.out.2 (fun j _ => by have := vecOk_bd Hx.out j; omega)
  have Hfit := Lib.hid hfit
  clear hfit
  have sz1 : (w.alloc (.cells #[.pointer (some ⟨eb, 0, none⟩)] 58)).heap.size = w.heap.size + 1 := World.size_alloc _ _
  have SZ1 := Lib.hid sz1
  have sz2 : ((w.alloc (.cells #[.pointer (some ⟨eb, 0, none⟩)] 58)).alloc (.cells #[.int .i64 id, .slice A4 3 c4] 33)).heap.size = w.heap.size + 2 := by rw [World.size_alloc, sz1]
  have SZ2 := Lib.hid sz2
  clear sz1 sz2
  go_enter Tryz.func34, Tryz.ntmps34
  go_wp2_with fail
  have L0 := Lib.hid (show Lv w B eb fb w.heap.size (w.heap.size + 1) A1 A2 A3 A4 n1 c1 n c2 c3 c4 id (((w.alloc (.cells #[.pointer (some ⟨eb, 0, none⟩)] 58)).alloc (.cells #[.int .i64 id, .slice A4 3 c4] 33)).alloc (.cells #[] 3)) from
    ⟨((Blk.alloc HE.out _).alloc _).alloc _, ((Blk.new w _ _).alloc _).alloc _, by
      have := (Blk.new (w.alloc (.cells #[.pointer (some ⟨eb, 0, none⟩)] 58)) 33 #[.int .i64 id, .slice A4 3 c4]).alloc (.cells #[] 3)
      rwa [SZ1.out] at this, (((Below.refl _ _).alloc (by omega) _).alloc (by rw [SZ1.out]; omega) _).alloc (by rw [SZ2.out]; omega) _⟩)
  have F0 := Lib.hid (show Blk (((w.alloc (.cells #[.pointer (some ⟨eb, 0, none⟩)] 58)).alloc (.cells #[.int .i64 id, .slice A4 3 c4] 33)).alloc (.cells #[] 3)) fb 4 (flA (fun j => !inL [] j) n) from by
    rw [inL_nil]; exact ((HF.out.alloc _).alloc _).alloc _)
  have R0 := Lib.hid (show (((w.alloc (.cells #[.pointer (some ⟨eb, 0, none⟩)] 58)).alloc (.cells #[.int .i64 id, .slice A4 3 c4] 33)).alloc (.cells #[] 3)).ownsRow (w.heap.size + 2) 3 1 (.slice (some ⟨w.heap.size + 1 + 1, 0, none⟩) 0 0) 0 (natV []) from by
    have := World.ownsRow_made (base := w.heap.size + 2) ((w.alloc (.cells #[.pointer (some ⟨eb, 0, none⟩)] 58)).alloc (.cells #[.int .i64 id, .slice A4 3 c4] 33)) (e := 3) (size := 1) #[] 0 (by rw [SZ2.out]; exact Nat.le_refl _) (by unfold maxLen; omega) rfl
    rw [SZ2.out] at this
    exact this)
  have Z0 : w.heap.size + 2 ≤ (((w.alloc (.cells #[.pointer (some ⟨eb, 0, none⟩)] 58)).alloc (.cells #[.int .i64 id, .slice A4 3 c4] 33)).alloc (.cells #[] 3)).heap.size := by rw [World.size_alloc, SZ2.out]; omega
  generalize ((w.alloc (.cells #[.pointer (some ⟨eb, 0, none⟩)] 58)).alloc (.cells #[.int .i64 id, .slice A4 3 c4] 33)).alloc (.cells #[] 3) = W0 at L0 F0 R0 Z0 ⊢
  clear SZ1 SZ2
  obtain ⟨R, hR⟩ : ∃ R, R = takeP (fitE room ts xs) n rk r (n + 1) [] := ⟨_, rfl⟩
  have HR := Lib.hid hR
  clear hR
  go_loopg [8] (n + 1) (fun gk a wr => ∃ (l : List Nat) (A0 : Option Addr) (m0 c0 : Nat), a = .slice A0 m0 c0 ∧ takeP (fitE room ts xs) n rk r gk l = R ∧ l.length + gk = n + 1 ∧ l.Nodup ∧ (∀ j ∈ l, j < n) ∧ Lv w B eb fb w.heap.size (w.heap.size + 1) A1 A2 A3 A4 n1 c1 n c2 c3 c4 id wr ∧
    Blk wr fb 4 (flA (fun j => !inL l j) n) ∧ wr.ownsRow (w.heap.size + 2) 3 1 (.slice A0 m0 c0) m0 (natV l) ∧ w.heap.size + 2 ≤ wr.heap.size)
  case atStart => exact ⟨[], _, _, _, rfl, HR.out.symm, by simp, List.nodup_nil, fun j hj => (by cases hj), L0.out, F0.out, R0.out, Z0⟩
  case round =>
    clear L0 F0 R0 Z0
    obtain ⟨l, A0, m0, c0, rfl, hl1, hl2, hl3, hl4, hlv, hfl, hrow, hz⟩ := hrel
    have hlen : l.length ≤ n := nodup_le hl3 hl4
    have hm0 : l.length = m0 := by have := hrow.1; simpa [natV] using this
    have Hl := Lib.hid (And.intro hl1 (And.intro hl2 (And.intro hl3 hl4)))
    have Hlv := Lib.hid hlv
    have Hfl := Lib.hid hfl
    have Hrow := Lib.hid hrow
    have Hlen := Lib.hid hlen
    have Hm0 := Lib.hid hm0
    obtain ⟨p0, t0, t1⟩ := hlv.cells
    clear hl1 hl2 hl3 hl4 hlv hfl hrow hlen hm0
    go_wp2_with fail
    refine (Hfit.out wr (inL l) (by omega) Hlv.out.be Hlv.out.ev Hfl.out).mono ?_; rintro e w1 ⟨rfl, b1⟩
    have Lv1 := Lib.hid (Hlv.out.up b1 (by omega))
    have Fl1 := Lib.hid (Hfl.out.below b1 Hfl.out.lt)
    have Row1 := Lib.hid (own_keep Hrow.out (fun b hb => b1.block b (Hrow.out.lt b hb).2))
    have hw1 : w.heap.size + 2 ≤ w1.heap.size := by have := b1.size; omega
    clear p0 t0 t1 b1 Hlv Hfl Hrow
    cases hf : fitE room ts xs (inL l) with
    | true =>
      have Hf := Lib.hid hf
      clear hf
      have hret : R = some l := by
        have h1 := Hl.out.1
        obtain ⟨f, rfl⟩ : ∃ f, gk = f + 1 := ⟨gk - 1, by have := Hlen.out; have := Hl.out.2.1; omega⟩
        rw [takeP, if_pos Hf.out] at h1
        exact h1.symm
      have Hret := Lib.hid hret
      clear hret
      have lm : m0 ≤ 900 := by have := Hlen.out; have := Hm0.out; omega
      go_wp2_with fail
      refine (sortE_any (w.heap.size + 2) w.heap.size eb fb A0 A1 A2 A3 m0 c0 n1 c1 n c2 n c3 rk l w1 Row1.out Lv1.out.cells.1 Lv1.out.ev ((H3.out.below Lv1.out.be).more (by omega)) (by omega) (by omega) Hl.out.2.2.2 (by omega) (by omega) (fun j => by have := Hrk.out j; omega)).mono ?_
      rintro e w2 ⟨rfl, hrow2, hgrow2⟩
      have Lv2 := Lib.hid (Lv1.out.grown hgrow2 (own_row_ge Row1.out) (by omega) (by omega) (by omega) (by omega) (by omega))
      have Fl2 := Lib.hid (Fl1.out.grownFar hgrow2 (own_row_ge Row1.out) (by omega))
      have hw2 : w.heap.size + 2 ≤ w2.heap.size := by have := hgrow2.size; omega
      have Row2 := Lib.hid hrow2
      clear hrow2 hgrow2 Lv1 Fl1 Row1
      have Lv3 := Lib.hid (Lv2.out.up (new_up w2 (.cells #[] 3)) (by omega))
      have Fl3 := Lib.hid (Fl2.out.alloc (.cells #[] 3))
      have Row3 := Lib.hid (own_keep Row2.out (w' := w2.alloc (.cells #[] 3)) (fun b hb => Below.heap_alloc _ _ _ (Row2.out.lt b hb).2))
      have Out3 := Lib.hid (show (w2.alloc (.cells #[] 3)).ownsRow w2.heap.size 3 1 (.slice (some ⟨w2.heap.size, 0, none⟩) 0 0) 0 (natV []) from World.ownsRow_made w2 #[] 0 (Nat.le_refl _) (by unfold maxLen; omega) rfl)
      have Slt := Lib.hid (fun b hb => (Row2.out.lt b hb).2)
      go_wp2_with fail
      clear Lv2 Fl2 Row2
      have hw3 : w2.heap.size < (w2.alloc (.cells #[] 3)).heap.size := by rw [World.size_alloc]; omega
      generalize w2.alloc (.cells #[] 3) = W3 at Lv3 Fl3 Row3 Out3 hw3 ⊢
      obtain ⟨L, hL⟩ : ∃ L, L = sortE rk l := ⟨_, rfl⟩
      rw [← hL] at Row3
      have HL := Lib.hid hL
      have hLn : L.Nodup := by rw [hL]; exact (sortE_perm rk l).nodup_iff.2 Hl.out.2.2.1
      have hLm : ∀ j, j ∈ L ↔ j ∈ l := fun j => by rw [hL]; exact sortE_mem
      have hLl : L.length = m0 := by rw [hL, (sortE_perm rk l).length_eq]; exact Hm0.out
      have HLn := Lib.hid hLn
      have HLm := Lib.hid hLm
      have HLl := Lib.hid hLl
      clear hL hLn hLm hLl
      go_loopw [10, 39] (fun v i wr => ∃ (k : Nat) (g : Nat → Bool) (A5 : Option Addr) (m5 c5 : Nat), i = .int .i64 k ∧ k ≤ m0 ∧ v = .slice A5 m5 c5 ∧ Hid (backP (fitE room ts xs) (L.drop k) g = backP (fitE room ts xs) L (inL l)) ∧ Hid (∀ j, g j = true → j ∈ l) ∧
        Hid (∀ j ∈ L.drop k, g j = true) ∧ Lv w B eb fb w.heap.size (w.heap.size + 1) A1 A2 A3 A4 n1 c1 n c2 c3 c4 id wr ∧ Blk wr fb 4 (flA (fun j => !g j) n) ∧ wr.ownsRow (w.heap.size + 2) 3 1 (.slice A0 m0 c0) m0 (natV L) ∧
        wr.ownsRow w2.heap.size 3 1 (.slice A5 m5 c5) m5 (natV ((L.take k).filter g)) ∧ w2.heap.size < wr.heap.size) (fun _ i _ => m0 - (intOf i).toNat)
      case atStart => exact ⟨0, inL l, _, _, _, rfl, Nat.zero_le _, rfl, Lib.hid rfl, Lib.hid (fun j hj => by simpa [inL] using hj), Lib.hid (fun j hj => by simpa [inL] using (HLm.out j).1 hj), Lv3.out, Fl3.out, Row3.out, Out3.out, hw3⟩
      case round =>
        clear Lv3 Fl3 Row3 Out3 hw3
        obtain ⟨k, g, A5, m5, c5, rfl, hk, rfl, Hbk, Hgl, Hgd, hlv, hfl, hrow, hout, hz⟩ := hrel
        have Hlv := Lib.hid hlv
        have Hfl := Lib.hid hfl
        have Hrow := Lib.hid hrow
        have Hout := Lib.hid hout
        clear hlv hfl hrow hout
        by_cases hlt : k < m0
        · obtain ⟨q, hq⟩ : ∃ q, L[k]? = some q := ⟨_, List.getElem?_eq_getElem (by have := HLl.out; omega)⟩
          have hqL : q ∈ L := List.mem_of_getElem? hq
          have hqn : q < n := Hl.out.2.2.2 q ((HLm.out q).1 hqL)
          have hdr : L.drop k = q :: L.drop (k + 1) := by
            rw [List.getElem?_eq_some_iff] at hq
            obtain ⟨h1, h2⟩ := hq
            rw [List.drop_eq_getElem_cons h1, h2]
          have htk : L.take (k + 1) = L.take k ++ [q] := by rw [List.take_add_one, hq]; rfl
          have hqd : q ∉ L.drop (k + 1) := by
            have := List.Pairwise.sublist (List.drop_sublist k L) HLn.out
            rw [hdr] at this
            exact (List.nodup_cons.1 this).1
          have hqt : q ∉ L.take k := by
            have := HLn.out
            rw [← List.take_append_drop k L, hdr, List.nodup_append] at this
            intro hm
            exact this.2.2 q hm q (by simp) rfl
          obtain ⟨b0, cap0, hv0, hb0, hlt0⟩ := Hrow.out.form (by omega)
          injection hv0 with e1 e2 e3
          subst e1
          have hcell := Hrow.out.cells (g := b0) rfl k _ (show (natV L)[k]? = some (.int .i64 (q : Int)) from by rw [natV, List.getElem?_map, hq]; rfl)
          rw [addr_add, Nat.zero_add] at hcell
          have Hdr := Lib.hid hdr
          have Htk := Lib.hid htk
          have Hqd := Lib.hid hqd
          have Hqt := Lib.hid hqt
          have HqL := Lib.hid hqL
          clear hq hdr htk hqd hqt hqL e2 e3 hb0
          have q1 : (0 : Int) ≤ (q : Int) := by omega
          have q2 : (q : Int) < (n : Int) := by omega
          have k1 : (0 : Int) ≤ (k : Int) := by omega
          have k2 : (k : Int) < (m0 : Int) := by omega
          obtain ⟨y0, y1, y2, y3⟩ := Hlv.out.ev.cells
          have s1 := Hfl.out.cell q
          rw [flA_at _ hqn] at s1
          have s2 := Hfl.out.frozen q
          have r0 := Hlv.out.cells.1
          have Lv1 := Lib.hid (Hlv.out.set (W := wr) q (.bool true) hB hne (by omega) (by omega))
          have Fl1 := Lib.hid (show Blk (wr.setCell ⟨fb, q, none⟩ (.bool true)) fb 4 (flA (fun j => !(upd g q false) j) n) from by
            have := Hfl.out.set_ q (.bool true)
            rwa [flA_set, not_upd, Bool.not_true] at this)
          have Row1 := Lib.hid (own_keep Hrow.out (w' := wr.setCell ⟨fb, q, none⟩ (.bool true)) (fun b hb => Below.heap_setCell wr ⟨fb, q, none⟩ _ b (by have := (Hrow.out.lt b hb).1; simp; omega)))
          have Out1 := Lib.hid (own_keep Hout.out (w' := wr.setCell ⟨fb, q, none⟩ (.bool true)) (fun b hb => Below.heap_setCell wr ⟨fb, q, none⟩ _ b (by have := (Hout.out.lt b hb).1; simp; omega)))
          obtain ⟨p0, t0, t1⟩ := Lv1.out.cells
          go_wp2_with fail
          clear y0 y1 y2 y3 s1 s2 r0 p0 t0 t1 hcell
          have hz9 : w2.heap.size < (wr.setCell ⟨fb, q, none⟩ (.bool true)).heap.size := by rw [World.size_setCell]; exact hz
          clear Hlv Hfl Hrow Hout
          generalize wr.setCell ⟨fb, q, none⟩ (.bool true) = W1 at Lv1 Fl1 Row1 Out1 hz9 ⊢
          refine (Hfit.out W1 (upd g q false) (by omega) Lv1.out.be Lv1.out.ev Fl1.out).mono ?_; rintro e w4 ⟨rfl, b4⟩
          have Lv4 := Lib.hid (Lv1.out.up b4 (by omega))
          have Fl4 := Lib.hid (Fl1.out.below b4 Fl1.out.lt)
          have Row4 := Lib.hid (own_keep Row1.out (fun b hb => b4.block b (Row1.out.lt b hb).2))
          have Out4 := Lib.hid (own_keep Out1.out (fun b hb => b4.block b (Out1.out.lt b hb).2))
          have hz4 : w2.heap.size < w4.heap.size := by have := b4.size; omega
          clear b4 Lv1 Fl1 Row1 Out1 hz9
          cases hf4 : fitE room ts xs (upd g q false) with
          | true =>
            have Hf4 := Lib.hid hf4
            clear hf4
            go_wp2_with fail
            go_roundw
            case measure => simp [intOf]; omega
            case rel =>
              refine ⟨k + 1, upd g q false, A5, m5, c5, by go_num, by omega, rfl, Lib.hid ?_, Lib.hid ?_, Lib.hid ?_, Lv4.out, Fl4.out, Row4.out, ?_, hz4⟩
              · have := Hbk.out
                rw [Hdr.out, backP_take, Hf4.out] at this
                exact this
              · intro j hj
                by_cases ej : j = q
                · rw [ej]; exact (HLm.out q).1 HqL.out
                · rw [upd_ne _ ej] at hj; exact Hgl.out j hj
              · intro j hj
                rw [upd_ne _ (fun e => Hqd.out (by rw [← e]; exact hj))]
                exact Hgd.out j (by rw [Hdr.out]; exact List.mem_cons_of_mem _ hj)
              · rw [Htk.out, List.filter_append, filter_upd_ne Hqt.out]
                have : [q].filter (upd g q false) = [] := by simp [upd_at]
                rw [this, List.append_nil]
                exact Out4.out
          | false =>
            have Hf4 := Lib.hid hf4
            clear hf4
            have lm5 : m5 ≤ k := by
              have h1 := Out4.out.1
              have h2 : (natV ((L.take k).filter g)).length ≤ k := by
                rw [natV, List.length_map]
                exact Nat.le_trans (List.length_filter_le _ _) (List.length_take_le _ _)
              omega
            obtain ⟨y0, y1, y2, y3⟩ := Lv4.out.ev.cells
            have s1 := Fl4.out.cell q
            rw [flA_at _ hqn] at s1
            have s2 := Fl4.out.frozen q
            have r0 := Lv4.out.cells.1
            have Lv5 := Lib.hid (Lv4.out.set (W := w4) q (.bool false) hB hne (by omega) (by omega))
            have Fl5 := Lib.hid (show Blk (w4.setCell ⟨fb, q, none⟩ (.bool false)) fb 4 (flA (fun j => !(upd g q true) j) n) from by
              have := Fl4.out.set_ q (.bool false)
              rwa [flA_set, not_upd, Bool.not_false, upd_upd] at this)
            have Row5 := Lib.hid (own_keep Row4.out (w' := w4.setCell ⟨fb, q, none⟩ (.bool false)) (fun b hb => Below.heap_setCell w4 ⟨fb, q, none⟩ _ b (by have := (Row4.out.lt b hb).1; simp; omega)))
            have Out5 := Lib.hid (own_keep Out4.out (w' := w4.setCell ⟨fb, q, none⟩ (.bool false)) (fun b hb => Below.heap_setCell w4 ⟨fb, q, none⟩ _ b (by have := (Out4.out.lt b hb).1; simp; omega)))
            have Lv6 := Lib.hid (Lv5.out.up (new_up (w4.setCell ⟨fb, q, none⟩ (.bool false)) (.cells #[.int .i64 (q : Int)] 3)) (by simp; omega))
            have Fl6 := Lib.hid (Fl5.out.alloc (.cells #[.int .i64 (q : Int)] 3))
            have Row6 := Lib.hid (own_keep Row5.out (w' := (w4.setCell ⟨fb, q, none⟩ (.bool false)).alloc (.cells #[.int .i64 (q : Int)] 3)) (fun b hb => Below.heap_alloc _ _ _ (Row5.out.lt b hb).2))
            have Out6 := Lib.hid (own_keep Out5.out (w' := (w4.setCell ⟨fb, q, none⟩ (.bool false)).alloc (.cells #[.int .i64 (q : Int)] 3)) (fun b hb => Below.heap_alloc _ _ _ (Out5.out.lt b hb).2))
            have X6 := Lib.hid (show Src ((w4.setCell ⟨fb, q, none⟩ (.bool false)).alloc (.cells #[.int .i64 (q : Int)] 3)) 1 (some ⟨w4.heap.size, 0, none⟩) 1 [.int .i64 (q : Int)] from by
              have := src_int (w4.setCell ⟨fb, q, none⟩ (.bool false)) q
              rwa [World.size_setCell] at this)
            have lz6 : w2.heap.size ≤ ((w4.setCell ⟨fb, q, none⟩ (.bool false)).alloc (.cells #[.int .i64 (q : Int)] 3)).heap.size := by rw [World.size_alloc, World.size_setCell]; omega
            clear Lv4 Fl4 Row4 Out4 Lv5 Fl5 Row5 Out5
            go_wp2_with (at_builtin; refine wpList_append_src _ rfl _ _ 22 rfl w2.heap.size 3 i0 _ 1 8 Tryz.underlying22 hi0 hz0 hz1 hz2 rfl (by omega) (.slice A5 m5 c5) m5 _ rfl Out6.out (some ⟨w4.heap.size, 0, none⟩) 1 1 [.int .i64 (q : Int)] rfl X6.out (by simp [Value.oneCell']) (by unfold maxLen; omega) (by omega) lz6 ?_; intro v' w7 hown7 hgrow7 hat7)
            obtain ⟨A7, c7, rfl⟩ := own_shape hown7
            have Lv7 := Lib.hid (Lv6.out.grown hgrow7 (own_row_ge Out6.out) (by omega) (by omega) (by omega) (by omega) (by omega))
            have Fl7 := Lib.hid (Fl6.out.grownFar hgrow7 (own_row_ge Out6.out) (by omega))
            have hz7 : w2.heap.size < w7.heap.size := by have := hgrow7.size; rw [World.size_alloc, World.size_setCell] at this; omega
            have Row7 := Lib.hid (own_keep Row6.out (fun b hb => hgrow7.block b (Row6.out.lt b hb).2 (fun e => by have := (Out6.out.lt b e.symm).1; have := Slt.out b hb; omega)))
            have Out7 := Lib.hid hown7
            clear hown7 hgrow7 hat7 Lv6 Fl6 Row6 Out6 X6 y0 y1 y2 y3 s1 s2 r0
            go_wp2_with fail
            go_roundw
            case measure => simp [intOf]; omega
            case rel =>
              refine ⟨k + 1, upd g q true, A7, m5 + 1, c7, by go_num, by omega, rfl, Lib.hid ?_, Lib.hid ?_, Lib.hid ?_, Lv7.out, Fl7.out, Row7.out, ?_, hz7⟩
              · have := Hbk.out
                rw [Hdr.out, backP_take, Hf4.out] at this
                exact this
              · intro j hj
                by_cases ej : j = q
                · rw [ej]; exact (HLm.out q).1 HqL.out
                · rw [upd_ne _ ej] at hj; exact Hgl.out j hj
              · intro j hj
                rw [upd_ne _ (fun e => Hqd.out (by rw [← e]; exact hj))]
                exact Hgd.out j (by rw [Hdr.out]; exact List.mem_cons_of_mem _ hj)
              · rw [Htk.out, List.filter_append, filter_upd_ne Hqt.out]
                have : [q].filter (upd g q true) = [q] := by simp [upd_at]
                rw [this, natV_snoc]
                exact Out7.out
        · obtain rfl : k = m0 := by omega
          have hg : g = backP (fitE room ts xs) L (inL l) := by
            have := Hbk.out
            rw [List.drop_of_length_le (by have := HLl.out; omega)] at this
            exact this
          have ht : L.take k = L := List.take_of_length_le (by have := HLl.out; omega)
          rw [ht, natV_ints] at Hout
          have Hg := Lib.hid hg
          clear hg ht
          have lm5 : m5 ≤ 1000000 := by
            have h1 := Hout.out.1
            have h2 : (((L.filter g).map Int.ofNat).map (Value.int .i64)).length ≤ k := by
              rw [List.length_map, List.length_map, ← HLl.out]
              exact List.length_filter_le _ _
            omega
          go_wp2_with fail
          refine (sortInts_any w2.heap.size A5 m5 c5 _ wr Hout.out lm5).mono ?_; rintro e w8 ⟨rfl, hown8, hgrow8⟩
          rw [sort_listG HLn.out (fun j hj => (HLm.out j).2 (Hgl.out j hj)) (fun j hj => Hl.out.2.2.2 j ((HLm.out j).1 hj))] at hown8
          have Own8 := Lib.hid hown8
          have Lv8 := Lib.hid (Hlv.out.grown hgrow8 (own_row_ge Hout.out) (by omega) (by omega) (by omega) (by omega) (by omega))
          clear hown8 hgrow8
          go_wp2_with fail
          go_ret2
          refine ⟨.inr ⟨g, A5, m5, c5, ?_, rfl, ?_⟩, Lv8.out.be⟩
          · rw [goneP, hl.out, ← HR.out, Hret.out]
            show some (backP (fitE room ts xs) (sortE rk l) (inL l)) = some g
            rw [← HL.out, ← Hg.out]
          · obtain ⟨h1, h2⟩ := Own8.out
            refine ⟨h1, h2.imp (fun h => h) ?_⟩
            rintro ⟨g, cap, cur, a, b, c⟩
            exact ⟨g, cap, cur, a, by omega, c⟩
    | false =>
      have Hf := Lib.hid hf
      clear hf
      obtain ⟨p0, t0, t1⟩ := Lv1.out.cells
      have hcall := Lib.hid (evWeakest_any eb fb A1 A2 A3 n1 c1 n c2 n c3 rk r (inL l) w1 Lv1.out.ev (RdF.of_blk Fl1.out (by omega)) ((H3.out.below Lv1.out.be).more (by omega)) (Nat.le_refl _))
      by_cases hlow : lowP rk (inL l) r n < 0
      · have hd : decide (lowP rk (inL l) r n < 0) = true := by simpa using hlow
        have Hlow := Lib.hid hlow
        clear hlow
        go_wp2_with fail
        refine hcall.out.mono ?_; rintro e w4 ⟨rfl, rfl⟩
        go_wp2_with fail
        go_ret2
        refine ⟨.inl ⟨?_, rfl⟩, Lv1.out.be⟩
        obtain ⟨f, rfl⟩ : ∃ f, gk = f + 1 := ⟨gk - 1, by have := Hlen.out; have := Hl.out.2.1; omega⟩
        have h1 := Hl.out.1
        rw [takeP, if_neg (by rw [Hf.out]; simp), if_pos Hlow.out] at h1
        rw [goneP, hl.out, ← HR.out, ← h1]
        rfl
      · obtain ⟨q, hq⟩ := Int.eq_ofNat_of_zero_le (show 0 ≤ lowP rk (inL l) r n by omega)
        have hqn : q < n := by have := (lowP_bd rk (inL l) r n).2; omega
        rw [hq] at hcall
        have Hq := Lib.hid hq
        have Hqn := Lib.hid hqn
        clear hq hlow hqn
        go_wp2_with fail
        refine hcall.out.mono ?_; rintro e w4 ⟨rfl, rfl⟩
        clear hcall
        have q1 : (0 : Int) ≤ (q : Int) := by omega
        have q2 : (q : Int) < (n : Int) := by have := Hqn.out; omega
        have q3 : decide ((q : Int) < 0) = false := by simp
        obtain ⟨y0, y1, y2, y3⟩ := Lv1.out.ev.cells
        have s1 := Fl1.out.cell q
        rw [flA_at _ Hqn.out] at s1
        have s2 := Fl1.out.frozen q
        have Lv2 := Lib.hid (Lv1.out.set (W := w1) q (.bool false) hB hne (by omega) (by omega))
        have Fl2 := Lib.hid (show Blk (w1.setCell ⟨fb, q, none⟩ (.bool false)) fb 4 (flA (fun j => !inL (l ++ [q]) j) n) from by
          have := Fl1.out.set_ q (.bool false)
          rwa [flA_set, not_upd, Bool.not_false, ← inL_snoc] at this)
        have Row2 := Lib.hid (own_keep Row1.out (w' := w1.setCell ⟨fb, q, none⟩ (.bool false)) (fun b hb => Below.heap_setCell w1 ⟨fb, q, none⟩ _ b (by have := (Row1.out.lt b hb).1; simp; omega)))
        have Lv3 := Lib.hid (Lv2.out.up (new_up (w1.setCell ⟨fb, q, none⟩ (.bool false)) (.cells #[.int .i64 (q : Int)] 3)) (by simp; omega))
        have Fl3 := Lib.hid (Fl2.out.alloc (.cells #[.int .i64 (q : Int)] 3))
        have Row3 := Lib.hid (own_keep Row2.out (w' := (w1.setCell ⟨fb, q, none⟩ (.bool false)).alloc (.cells #[.int .i64 (q : Int)] 3)) (fun b hb => Below.heap_alloc _ _ _ (Row2.out.lt b hb).2))
        have X3 := Lib.hid (show Src ((w1.setCell ⟨fb, q, none⟩ (.bool false)).alloc (.cells #[.int .i64 (q : Int)] 3)) 1 (some ⟨w1.heap.size, 0, none⟩) 1 [.int .i64 (q : Int)] from by
          have := src_int (w1.setCell ⟨fb, q, none⟩ (.bool false)) q
          rwa [World.size_setCell] at this)
        have lz3 : w.heap.size + 2 ≤ ((w1.setCell ⟨fb, q, none⟩ (.bool false)).alloc (.cells #[.int .i64 (q : Int)] 3)).heap.size := by rw [World.size_alloc, World.size_setCell]; omega
        have lm : m0 ≤ 900 := by have := Hlen.out; have := Hm0.out; omega
        clear Lv1 Lv2 Fl1 Fl2 Row1 Row2
        go_wp2_with (at_builtin; refine wpList_append_src _ rfl _ _ 22 rfl (w.heap.size + 2) 3 i0 _ 1 8 Tryz.underlying22 hi0 hz0 hz1 hz2 rfl (by omega) (.slice A0 m0 c0) m0 (natV l) rfl Row3.out (some ⟨w1.heap.size, 0, none⟩) 1 1 [.int .i64 (q : Int)] rfl X3.out (by simp [Value.oneCell']) (by unfold maxLen; omega) (by omega) lz3 ?_; intro v' w5 hown5 hgrow5 hat5)
        obtain ⟨A5, c5, rfl⟩ := own_shape hown5
        have Lv5 := Lib.hid (Lv3.out.grown hgrow5 (own_row_ge Row3.out) (by omega) (by omega) (by omega) (by omega) (by omega))
        have Fl5 := Lib.hid (Fl3.out.grownFar hgrow5 (own_row_ge Row3.out) (by omega))
        have hz5 := hgrow5.size
        have Row5 := Lib.hid (show w5.ownsRow (w.heap.size + 2) 3 1 (.slice A5 (m0 + 1) c5) (m0 + 1) (natV (l ++ [q])) from by rw [natV_snoc]; exact hown5)
        clear hown5 hgrow5 hat5 Lv3 Fl3 Row3 X3
        have hnq : q ∉ l := by
          rcases lowP_spec rk (inL l) r n with ⟨e, _⟩ | ⟨k, _, e, h, _⟩
          · rw [Hq.out] at e; omega
          · rw [Hq.out] at e
            obtain rfl : q = k := by omega
            simpa [inL] using h
        have Hnq := Lib.hid hnq
        clear hnq
        go_wp2_with fail
        go_roundg (gk - 1)
        case measure => have := Hlen.out; have := Hl.out.2.1; omega
        case rel =>
          refine ⟨l ++ [q], A5, m0 + 1, c5, rfl, ?_, ?_, ?_, ?_, Lv5.out, Fl5.out, Row5.out, by omega⟩
          · have h1 := Hl.out.1
            obtain ⟨f, rfl⟩ : ∃ f, gk = f + 1 := ⟨gk - 1, by have := Hlen.out; have := Hl.out.2.1; omega⟩
            rw [takeP, if_neg (by rw [Hf.out]; simp), if_neg (by rw [Hq.out]; omega), Hq.out, Int.toNat_natCast] at h1
            exact h1
          · have := Hlen.out; have := Hl.out.2.1; simp; omega
          · rw [List.nodup_append]
            exact ⟨Hl.out.2.2.1, by simp, fun a ha b hb hab => by simp at hb; rw [hab, hb] at ha; exact Hnq.out ha⟩
          · intro j hj
            rcases List.mem_append.1 hj with hj | hj
            · exact Hl.out.2.2.2 j hj
            · simp at hj; rw [hj]; exact Hqn.out
end Go.Proofs.YtkcflajhmekcaaaGreat
