/- Walks: marks on a row of integers that may have room behind it, on a task; EvictList of both sides in one form. -/
import Derived.Test.YtkcflajhmekcaaaGreatEvictLawKit
import Derived.Test.YtkcflajhmekcaaaGreatLawMark
namespace Go.Proofs.YtkcflajhmekcaaaGreat
open Go Go.RowKit

/-- The list that is handed out, and whether it is one. -/
def evL (room : List Int) (ts : List Tk) (rk : List Int) (t : Tk) (r : Int) : List Int := match evP room ts rk t r with | none => [] | some g => listG g ts.length
def evB (room : List Int) (ts : List Tk) (rk : List Int) (t : Tk) (r : Int) : Bool := (evP room ts rk t r).isSome
theorem evL_len (room : List Int) (ts : List Tk) (rk : List Int) (t : Tk) (r : Int) : (evL room ts rk t r).length ≤ ts.length := by
  unfold evL
  split
  · simp
  · exact listG_len _ _

theorem evListI_eq (A1 A2 A3 A4 : Option Addr) (n1 c1 n2 c2 n3 c3 n4 c4 : Nat) (room rk : List Int) (ts : List Tk) (id : Int) (xs : List Int) (r : Int) (w : World) (h : R5 w A1 A2 A3 A4 n1 n2 n3 n4 room ts rk xs) (hc2 : n2 ≤ c2) (hc4 : n4 ≤ c4) (hz : n2 ≤ 1048576) :
    Calls Tryz.prog 12 #[.slice A1 n1 c1, .slice A2 n2 c2, .slice A3 n3 c3, .agg #[.int .i64 id, .slice A4 n4 c4], .int .i64 r] w fun e w' =>
      ∃ A m c, e = .returned (.tuple #[.slice A m c, .bool (evB room ts rk (id, xs) r)]) ∧ w'.ownsRow w.heap.size 3 1 (.slice A m c) m ((evL room ts rk (id, xs) r).map (Value.int .i64)) ∧ Below w.heap.size w w' := by
  refine (evictListI_any A1 A2 A3 A4 n1 c1 n2 c2 n3 c3 n4 c4 room rk ts id xs r w h.a h.b h.c h.d hc2 hc4 hz).mono ?_
  rintro e w' ⟨hres, hb⟩
  rcases hres with ⟨hg, rfl⟩ | ⟨g, A, m, c, hg, rfl, ho⟩
  · exact ⟨none, 0, 0, by rw [evB, hg]; rfl, by rw [evL, hg]; exact ⟨rfl, .inl ⟨rfl, rfl⟩⟩, hb⟩
  · exact ⟨A, m, c, by rw [evB, hg]; rfl, by rw [evL, hg]; exact ho, hb⟩
theorem evListS_eq (A1 A2 A3 A4 : Option Addr) (n1 c1 n2 c2 n3 c3 n4 c4 : Nat) (room rk : List Int) (ts : List Tk) (id : Int) (xs : List Int) (r : Int) (w : World) (h : R5 w A1 A2 A3 A4 n1 n2 n3 n4 room ts rk xs) (hc2 : n2 ≤ c2) (hc4 : n4 ≤ c4) (hz : n2 ≤ 1048576) :
    Calls Tryz.prog 8 #[.slice A1 n1 c1, .slice A2 n2 c2, .slice A3 n3 c3, .agg #[.int .i64 id, .slice A4 n4 c4], .int .i64 r] w fun e w' =>
      ∃ A m c, e = .returned (.tuple #[.slice A m c, .bool (evB room ts rk (id, xs) r)]) ∧ RdI w' w'.heap.size A m (evL room ts rk (id, xs) r) ∧ Below w.heap.size w w' := by
  have hl := h.b.len
  refine (evictListS_any A1 A2 A3 A4 n1 c1 n2 c2 n3 c3 n4 c4 room rk ts id xs r w h.a h.b h.c h.d hc2 hc4 hz).mono ?_
  rintro e w' ⟨hres, hb⟩
  rcases hres with ⟨hg, A, c, rfl⟩ | ⟨g, A, m, c, hg, rfl, ho⟩
  · exact ⟨A, 0, c, by rw [evB, hg]; rfl, by rw [evL, hg]; exact RdI.nil, hb⟩
  · refine ⟨A, m, c, by rw [evB, hg]; rfl, ?_, hb⟩
    rw [evL, hg]
    have := own_len ho
    have := listG_len g ts.length
    exact own_rdI ho (by omega)

set_option maxHeartbeats 400000 in
theorem markNone_any (A : Option Addr) (c : Nat) (k : Int) (w : World) :
    Calls Tryz.prog 16 #[.slice A 0 c, .int .i64 k] w fun e w' => e = .returned (.int .i64 k) ∧ w = w' := by
  go_enter Tryz.func16, Tryz.ntmps16
  go_wp2
  refine wp_loop_rounds 1 ?_
  rw [rounds_succ]
  go_wp2
  go_ret
  exact ⟨rfl, rfl⟩

set_option maxRecDepth 100000 in
set_option maxHeartbeats 800000 in
/-- A row that the call owns is marked. -/
theorem markRow_any (base : Nat) (A : Option Addr) (n c : Nat) (k : Int) (xs : List Int) (w : World) (h : w.ownsRow base 3 1 (.slice A n c) n (xs.map (Value.int .i64))) (h0 : 0 ≤ k) (h1 : k + n ≤ 4611686018427387904) :
    Calls Tryz.prog 16 #[.slice A n c, .int .i64 k] w fun e w' => e = .returned (.int .i64 (k + n)) ∧ w'.ownsRow base 3 1 (.slice A n c) n ((seqI k n).map (Value.int .i64)) ∧ w.grownBy w' (Value.slice A n c).ownBlock := by
  have hl := own_len h
  rcases Nat.eq_zero_or_pos n with hn | hn
  · subst hn
    refine (markNone_any A c k w).mono ?_
    rintro e w' ⟨rfl, rfl⟩
    have : xs = [] := List.eq_nil_of_length_eq_zero hl
    subst this
    exact ⟨by simp, by simpa [seqI] using h, ⟨rfl, rfl, rfl, Nat.le_refl _, fun _ _ _ => rfl⟩⟩
  · obtain ⟨g, cap, hv, hb, hlt⟩ := h.form hn
    injection hv with e1 e2 e3
    subst e1
    have H := Lib.hid h
    have Hl := Lib.hid hl
    clear h hl e2 e3 hb
    go_enter Tryz.func16, Tryz.ntmps16
    go_wp2
    go_loopw [1, 5] (fun q i wr => ∃ j : Nat, i = .int .i64 j ∧ j ≤ n ∧ q = .int .i64 (k + j) ∧ wr.ownsRow base 3 1 (.slice (some ⟨g, 0, none⟩) n c) n ((seqI k j ++ xs.drop j).map (Value.int .i64)) ∧ w.grownBy wr (some g)) (fun _ i _ => n - (intOf i).toNat)
    case atStart => exact ⟨0, rfl, Nat.zero_le _, by simp, H.out, ⟨rfl, rfl, rfl, Nat.le_refl _, fun _ _ _ => rfl⟩⟩
    case round =>
      obtain ⟨j, rfl, hj, rfl, hown, hgr⟩ := hrel
      have Hown := Lib.hid hown
      have Hgr := Lib.hid hgr
      clear hown hgr
      by_cases hlt' : j < n
      · have hjl : Hid (j < xs.length) := by have := Hl.out; show _ < _; omega
        have hlen : (seqI k j ++ xs.drop j).length = xs.length := by rw [List.length_append, seqI_len, List.length_drop]; have := hjl.out; omega
        obtain ⟨old, hcz⟩ : ∃ old, wr.cell? ⟨g, j, none⟩ = some (.int .i64 old) := by
          have := Hown.out.cells (g := g) rfl j (.int .i64 ((seqI k j ++ xs.drop j)[j]'(by rw [hlen]; exact hjl.out))) (by rw [List.getElem?_map, List.getElem?_eq_getElem (by rw [hlen]; exact hjl.out)]; rfl)
          rw [addr_add, Nat.zero_add] at this
          exact ⟨_, this⟩
        have hfz : wr.frozen? ⟨g, j, none⟩ = false := by
          rcases Hown.out.2 with ⟨e, _⟩ | ⟨g', cap', cur, e, _, hg', _⟩
          · cases e
          · injection e with e1 e2 e3
            injection e1 with e1
            injection e1 with e1
            subst e1
            simp [World.frozen?, hg']
        clear hlen
        go_wp2
        go_roundw
        case rel =>
          refine ⟨j + 1, by go_num, by omega, by go_num, ?_, ⟨Hgr.out.os, Hgr.out.tape, Hgr.out.output, by simpa [World.setCell] using Hgr.out.size, fun b hb hne => (Below.heap_setCell wr ⟨g, j, none⟩ _ b (fun e => hne (by rw [e]))).trans (Hgr.out.block b hb hne)⟩⟩
          have := own_set Hown.out j (.int .i64 (k + j))
          rw [← List.map_set, seqI_set hjl.out] at this
          exact this
        case measure => simp [intOf]; omega
      · have ej : j = n := by omega
        subst ej
        go_wp2
        go_ret
        refine ⟨rfl, ?_, Hgr.out⟩
        have := Hown.out
        rwa [List.drop_of_length_le (by have := Hl.out; omega), List.append_nil] at this

set_option maxRecDepth 100000 in
set_option maxHeartbeats 800000 in
theorem markTask_any (g m c : Nat) (a k : Int) (xs : List Int) (w : World) (hb : Blk w g 3 (xs.map (Value.int .i64)).toArray) (hn : xs.length = m) (h0 : 0 ≤ k) (h1 : k + m ≤ 4611686018427387904) :
    Calls Tryz.prog 18 #[.agg #[.int .i64 a, .slice (some ⟨g, 0, none⟩) m c], .int .i64 k] w fun e w' => e = .returned (.int .i64 (k + m)) ∧ KeptOut w w' g (g + 1) := by
  have Hb := Lib.hid hb
  clear hb
  have x0 := (Blk.new w 33 #[.int .i64 a, .slice (some ⟨g, 0, none⟩) m c]).cell 0
  have x1 := (Blk.new w 33 #[.int .i64 a, .slice (some ⟨g, 0, none⟩) m c]).cell 1
  simp only [List.getElem?_toArray, List.getElem?_cons_zero, List.getElem?_cons_succ] at x0 x1
  go_enter Tryz.func18, Tryz.ntmps18
  go_wp2_with fail
  refine (markIntS_any g m c 3 k xs _ (Hb.out.alloc _) hn h0 h1).mono ?_; rintro e w2 ⟨rfl, _, hk⟩
  have HK := Lib.hid ((KeptOut.of_below (alloc_up w (.cells #[.int .i64 a, .slice (some ⟨g, 0, none⟩) m c] 33)) g (g + 1)).trans hk)
  clear hk
  go_wp2
  go_ret
  exact ⟨rfl, HK.out⟩

theorem evKo {w w' : World} {lo hi B n : Nat} {A : Option Addr} {xs : List Int} (h : RdI w B A n xs) (k : KeptOut w w' lo hi) (hl : B ≤ lo) (hs : B ≤ w.heap.size) : RdI w' B A n xs :=
  h.keep (fun p hp => World.cell?_of_block (k.block p.block (by omega) (.inl (by omega)))) (Nat.le_refl _)
theorem evShp {w w' : World} (h : Below w.heap.size w w') : Shp w w' := Shp.of_keep (fun b hb => h.block b hb)
theorem evOwnKo {w w' : World} {lo hi base : Nat} {e : TypeId} {size n : Nat} {v : Value} {xs : List Value} (h : w.ownsRow base e size v n xs) (k : KeptOut w w' lo hi) (hb : hi ≤ base) : w'.ownsRow base e size v n xs :=
  own_keep h (fun b hbb => k.block b (h.lt b hbb).2 (.inr (by have := (h.lt b hbb).1; omega)))
theorem evBoxSw {w : World} {lo hi g b n : Nat} {id : Int} (hb : Blk w b 33 #[.int .i64 id, .slice (some ⟨g, 0, none⟩) n n]) (h1 : lo ≤ b) (h2 : b < hi) (hn : n ≤ 1048576) (h : SwI w lo hi g n) : SwT w lo hi b 1 :=
  ⟨h1, h2, [.int .i64 id, .slice (some ⟨g, 0, none⟩) n n], hb, rfl, fun j hj => by
    obtain rfl : j = 0 := by omega
    exact ⟨id, g, n, rfl, rfl, hn, h⟩⟩
end Go.Proofs.YtkcflajhmekcaaaGreat
