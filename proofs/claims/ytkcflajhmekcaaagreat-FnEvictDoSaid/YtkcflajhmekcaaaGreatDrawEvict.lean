/- Walk: the draw of an eviction. -/
import Derived.Test.YtkcflajhmekcaaaGreatEvictLawKit
import Derived.Test.YtkcflajhmekcaaaGreatDrawBins
import Derived.Test.YtkcflajhmekcaaaGreatMix
import Derived.Deep.CutBlock
import Derived.Deep.DeepCutAuto
namespace Go.Proofs.YtkcflajhmekcaaaGreat
open Go Go.RowKit
attribute [local go_sem ↓] Go.wp_at_zero Go.wp_at_succ

theorem TkN.lower {w : World} {lo lo' k : Nat} {vs : List Value} (h : TkN w lo k vs) (hl : lo' ≤ lo) : TkN w lo' k vs :=
  ⟨h.1, fun j hj => by obtain ⟨id, b, xs, h1, h2, h3, h4, h5⟩ := h.2 j hj; exact ⟨id, b, xs, h1, h2, ⟨by have := h3.1; omega, h3.2⟩, h4, h5⟩⟩

/-- What is drawn behind the tasks, in a world: the ranks, the need of the task, the reader; nothing else of what was there has turned. -/
structure EvSt (wc : World) (g q bx k3 c3 : Nat) (A3 : Option Addr) (rk ys : List Int) (W : World) : Prop where
  rk : OwnI W wc.heap.size A3 k3 c3 rk
  x : OwI W wc.heap.size bx ys
  ne : (Value.slice A3 k3 c3).ownBlock ≠ some bx
  o : OnlyG wc W g
  r : Rdr W g q
  gl : g < wc.heap.size
section
variable {wc W W' : World} {g q q' bx k3 c3 : Nat} {A3 : Option Addr} {rk ys : List Int}
theorem EvSt.only (h : EvSt wc g q bx k3 c3 A3 rk ys W) (o : OnlyG W W' g) (hr : Rdr W' g q') : EvSt wc g q' bx k3 c3 A3 rk ys W' :=
  ⟨h.rk.only o h.gl, ⟨h.x.1, o.blk h.x.2 (by have := h.x.1; have := h.gl; omega)⟩, h.ne, h.o.trans o, hr, h.gl⟩
theorem EvSt.below (h : EvSt wc g q bx k3 c3 A3 rk ys W) (hb : Below W.heap.size W W') : EvSt wc g q bx k3 c3 A3 rk ys W' := h.only ((OnlyG.refl W g).below hb) (h.r.below hb)
/-- A store into the box of the task. -/
theorem EvSt.box (h : EvSt wc g q bx k3 c3 A3 rk ys W) {b : Nat} (cs : Array Value) (hb : Blk W b 33 cs) (hw : wc.heap.size ≤ b) (ha3 : (Value.slice A3 k3 c3).ownBlock ≠ some b) (i : Nat) (u : Value) : EvSt wc g q bx k3 c3 A3 rk ys (W.setCell ⟨b, i, none⟩ u) := by
  have ne : bx ≠ b := fun e => by
    subst e
    have h' := h.x.2
    unfold Blk at hb h'
    rw [hb] at h'
    injection h' with h'
    injection h' with _ h'
    exact absurd h' (by decide)
  exact ⟨h.rk.keep (fun x hx => Below.heap_setCell _ _ _ x (by simp; exact fun e => ha3 (by rw [← e]; exact hx))), ⟨h.x.1, h.x.2.far (p := ⟨b, i, none⟩) ne u⟩, h.ne, h.o.set_new (p := ⟨b, i, none⟩) hw u,
    h.r.keep (fun x hx => Below.heap_setCell _ _ _ x (by have := h.gl; simp; omega)), h.gl⟩
/-- A store into the need. -/
theorem EvSt.need (h : EvSt wc g q bx k3 c3 A3 rk ys W) (i : Nat) (v : Int) : EvSt wc g q bx k3 c3 A3 rk (ys.set i v) (W.setCell ⟨bx, i, none⟩ (.int .i64 v)) :=
  ⟨h.rk.keep (fun x hx => Below.heap_setCell _ _ _ x (by simp; exact fun e => h.ne (by rw [← e]; exact hx))), ⟨h.x.1, by rw [← set_vals]; exact h.x.2.set_ _ _⟩, h.ne, h.o.set_new (p := ⟨bx, i, none⟩) h.x.1 _,
    h.r.keep (fun x hx => Below.heap_setCell _ _ _ x (by have := h.x.1; have := h.gl; simp; omega)), h.gl⟩
end

/-- One rank more. -/
theorem EvSt.rank {wc W W' : World} {g q bx k3 c3 c8 : Nat} {A3 A8 : Option Addr} {rk ys : List Int} {v : Int} (h : EvSt wc g q bx k3 c3 A3 rk ys W) (ho : OwnI W' wc.heap.size A8 (k3 + 1) c8 (rk ++ [v])) (hg : W.grownBy W' (Value.slice A3 k3 c3).ownBlock)
    (hat : (Value.slice A8 (k3 + 1) c8).ownBlock = (Value.slice A3 k3 c3).ownBlock ∨ (Value.slice A8 (k3 + 1) c8).ownBlock = some W.heap.size) : EvSt wc g q bx (k3 + 1) c8 A8 (rk ++ [v]) ys W' :=
  ⟨ho, ⟨h.x.1, h.x.2.grown hg (fun e => h.ne e.symm)⟩, fun e => by
    rcases hat with h' | h'
    · rw [h'] at e; exact h.ne e
    · rw [h'] at e; injection e with e; have := h.x.2.lt; omega,
   h.o.grown hg (fun r e => (World.ownsRow.lt h.rk r e).1), h.r.keep (fun b hb => hg.block b (by have := h.r.lt; omega) (fun e => by have := (World.ownsRow.lt h.rk b e.symm).1; have := h.gl; omega)), h.gl⟩
/-- Behind the store of the result: what is handed out. -/
theorem evEnd {w w0 wc W : World} {g q rb bx m c k3 c3 : Nat} {A A3 : Option Addr} {vs : List Value} {room rk ys : List Int} (h : EvSt wc g q bx k3 c3 A3 rk ys W) (hown : wc.ownsRow w0.heap.size 33 2 (.slice A m c) m vs) (htk : TkN wc w0.heap.size m vs) (hrm : OwI wc w0.heap.size rb room)
    (ho : OnlyG w wc g) (lt0 : w.heap.size < w0.heap.size) (u0 u1 : Value) (hg : g < w.heap.size := by omega) :
    OwI ((W.setCell ⟨w.heap.size, 0, none⟩ u0).setCell ⟨w.heap.size, 1, none⟩ u1) w.heap.size rb room ∧ ((W.setCell ⟨w.heap.size, 0, none⟩ u0).setCell ⟨w.heap.size, 1, none⟩ u1).ownsRow w.heap.size 33 2 (.slice A m c) m vs ∧
    TkN ((W.setCell ⟨w.heap.size, 0, none⟩ u0).setCell ⟨w.heap.size, 1, none⟩ u1) w.heap.size m vs ∧ OwnI ((W.setCell ⟨w.heap.size, 0, none⟩ u0).setCell ⟨w.heap.size, 1, none⟩ u1) w.heap.size A3 k3 c3 rk ∧
    OwI ((W.setCell ⟨w.heap.size, 0, none⟩ u0).setCell ⟨w.heap.size, 1, none⟩ u1) w.heap.size bx ys ∧ OnlyG w ((W.setCell ⟨w.heap.size, 0, none⟩ u0).setCell ⟨w.heap.size, 1, none⟩ u1) g := by
  have kk : ∀ b, b ≠ w.heap.size → ((W.setCell ⟨w.heap.size, 0, none⟩ u0).setCell ⟨w.heap.size, 1, none⟩ u1).heap[b]? = W.heap[b]? := fun b hb => (Below.heap_setCell _ _ _ b hb).trans (Below.heap_setCell _ _ _ b hb)
  have s1 := ho.size
  have lw : w.heap.size < wc.heap.size := by have := hrm.1; have := hrm.2.lt; omega
  have e1 := own_only hown h.o (by omega)
  have e2 := htk.only h.o (by omega)
  have e3 : OwI W w0.heap.size rb room := ⟨hrm.1, h.o.blk hrm.2 (by have := hrm.1; omega)⟩
  refine ⟨⟨by have := hrm.1; omega, (kk rb (by have := hrm.1; omega)).trans e3.2⟩, own_lower (own_keep e1 (fun b hb => kk b (by have := (e1.lt b hb).1; omega))) (by omega),
    (e2.keep (fun b cs hb hc => (kk b (by omega)).trans hc)).lower (by omega), own_lower (own_keep h.rk (fun b hb => kk b (by have := (World.ownsRow.lt h.rk b hb).1; omega))) (by omega),
    ⟨by have := h.x.1; omega, (kk bx (by have := h.x.1; omega)).trans h.x.2⟩, (((ho.trans h.o).set_new (p := ⟨w.heap.size, 0, none⟩) (Nat.le_refl _) _).set_new (p := ⟨w.heap.size, 1, none⟩) (Nat.le_refl _) _)⟩

set_option maxRecDepth 100000 in
set_option maxHeartbeats 6400000 in
theorem l92Evict_any (g p : Nat) (w : World) (h : Rdr w g p) (hp : p ≤ 500000) :
    Calls Tryz.prog 35 #[.pointer (some ⟨g, 0, none⟩)] w fun e w' => ∃ rb n c A vs n3 c3 A3 room rk id bx ys r, e = .returned (.tuple #[.slice (some ⟨rb, 0, none⟩) 3 3, .slice A n c, .slice A3 n3 c3, .agg #[.int .i64 id, .slice (some ⟨bx, 0, none⟩) 3 3], .int .i64 r]) ∧
      OwI w' w.heap.size rb room ∧ room.length = 3 ∧ w'.ownsRow w.heap.size 33 2 (.slice A n c) n vs ∧ TkN w' w.heap.size n vs ∧ n ≤ 8 ∧ OwnI w' w.heap.size A3 n3 c3 rk ∧ n3 ≤ 9 ∧ OwI w' w.heap.size bx ys ∧ ys.length = 3 ∧ OnlyG w w' g := by
  obtain ⟨i0, hi0, hz0, hz1, hz2⟩ := info_parts task_info
  obtain ⟨j0, hj0, hjz0, hjz1, hjz2⟩ := info_parts int_info
  have lg := h.lt
  have B0 := alloc_up w (.cells #[.int .i64 0, .slice none 0 0] 33)
  have R0 := h.below B0
  have sz0 := World.size_alloc w (.cells #[.int .i64 0, .slice none 0 0] 33)
  have P0 := Lib.hid (Blk.new w 33 #[.int .i64 0, .slice none 0 0])
  go_enter Tryz.func35, Tryz.ntmps35
  go_wp2_with fail
  generalize w.alloc (.cells #[.int .i64 0, .slice none 0 0] 33) = w0 at B0 R0 sz0 P0 ⊢
  have HB0 := Lib.hid B0
  have SZ0 := Lib.hid sz0
  have lt0 : w.heap.size < w0.heap.size := P0.out.lt
  clear B0 sz0 h
  refine (l91Room_any g p w0 R0 (by omega)).mono ?_; rintro e w1 ⟨rb, room, rfl, hRm, hl3, hbd, O1, q1, hq1, R1⟩
  have HRm1 := Lib.hid hRm
  have HL3 := Lib.hid hl3
  have HO1 := Lib.hid O1
  have B1 := alloc_up w1 (.cells #[] 33)
  have HR1 := Lib.hid (R1.below B1)
  have Own1 := Lib.hid (World.ownsRow_made (base := w0.heap.size) w1 (e := 33) (size := 2) #[] 0 O1.size (by unfold maxLen; omega) rfl)
  have s1 := O1.size
  clear hRm hl3 O1 R1 R0 hbd
  go_wp2_with fail
  have HO1' := Lib.hid (HO1.out.below B1)
  have HRm1' := Lib.hid (show OwI (w1.alloc (.cells #[] 33)) w0.heap.size rb room from ⟨HRm1.out.1, HRm1.out.2.alloc _⟩)
  clear HO1 HRm1 B1
  generalize w1.alloc (.cells #[] 33) = w1' at HR1 Own1 HO1' HRm1' ⊢
  refine (pick_at 7 HR1.out rfl (by omega) (by omega) (by omega)).mono ?_; rintro e w2 ⟨r2, rfl, hr2, R2, O2⟩
  have HR2 := Lib.hid R2
  have HO2 := Lib.hid (HO1'.out.trans O2)
  have Own2 := Lib.hid (own_only Own1.out O2 (by omega))
  have HRm2 := Lib.hid (show OwI w2 w0.heap.size rb room from ⟨HRm1'.out.1, O2.blk HRm1'.out.2 (by have := HRm1'.out.1; omega)⟩)
  clear R2 O2 HO1' Own1 HRm1' HR1
  have k2 : IntKind.i64.wrap (2 + (r2 : Int)) = 2 + (r2 : Int) := wr64 (by omega) (by omega)
  go_upto_block 0 with fail
  clear k2
  have hro := Lib.hid (fun W (hr : OwI W w0.heap.size rb room) => l2Room_any (some ⟨rb, 0, none⟩) 3 3 _ room W (hr.rd' HL3.out (by omega)))
  go_cut [8] (fun v wx => ∃ (m c q : Nat) (A : Option Addr) (vs : List Value), v = .slice A m c ∧ m ≤ 8 ∧ wx.ownsRow w0.heap.size 33 2 (.slice A m c) m vs ∧ TkN wx w0.heap.size m vs ∧ OwI wx w0.heap.size rb room ∧ OnlyG w0 wx g ∧ q ≤ p + 100 ∧ Rdr wx g q)
  case first =>
    go_wp2_with fail
    go_loopw [8, 10] (fun v i wr => ∃ (k m c q : Nat) (A : Option Addr) (vs : List Value), i = .int .i64 k ∧ k ≤ 2 + r2 ∧ v = .slice A m c ∧ m ≤ k ∧ wr.ownsRow w0.heap.size 33 2 (.slice A m c) m vs ∧ TkN wr w0.heap.size m vs ∧ OwI wr w0.heap.size rb room ∧ OnlyG w0 wr g ∧ q ≤ p + 7 + 6 * k ∧ Rdr wr g q) (fun _ i _ => 2 + r2 - (intOf i).toNat)
    case atStart => exact ⟨0, 0, _, _, _, [], rfl, Nat.zero_le _, rfl, Nat.le_refl _, Own2.out, TkN.nil, HRm2.out, HO2.out, by omega, HR2.out⟩
    case round =>
      clear HR2 HO2 Own2 HRm2
      obtain ⟨k, m, c, q, A, vs, rfl, hk, rfl, hmk, hown, htk, hrm, ho, hq, hr⟩ := hrel
      have HOwn := Lib.hid hown
      have HTk := Lib.hid htk
      have HRm := Lib.hid hrm
      have HO := Lib.hid ho
      have HR := Lib.hid hr
      clear hown htk hrm ho hr
      by_cases hlt : k < 2 + r2
      · have hd : decide ((k : Int) < 2 + (r2 : Int)) = true := by simp; omega
        have hcall := Lib.hid (hro.out wr HRm.out)
        cases hok : roomOk room with
        | false =>
          rw [hok] at hcall
          have Hok := Lib.hid hok
          clear hok
          go_wp2_with fail
          refine hcall.out.mono ?_; rintro e w3 ⟨rfl, rfl⟩
          go_wp2_with fail
          go_meet
          case rel => exact ⟨m, c, q, A, vs, rfl, by omega, HOwn.out, HTk.out, HRm.out, HO.out, by omega, HR.out⟩
        | true =>
          rw [hok] at hcall
          have Hok := Lib.hid hok
          clear hok
          have kw : IntKind.i64.wrap (1 + (k : Int)) = 1 + (k : Int) := wr64 (by omega) (by omega)
          go_wp2_with fail
          refine hcall.out.mono ?_; rintro e w3 ⟨rfl, rfl⟩
          go_wp2_with fail
          refine (l91Task_any g q _ wr HR.out (by omega)).mono ?_; rintro e w4 ⟨bx, ys, rfl, hI, hy3, hybd, O4, q4, hq4, R4⟩
          have HI4 := Lib.hid hI
          have HY3 := Lib.hid hy3
          have HYB := Lib.hid hybd
          have lgr := HR.out.lt
          have lg0 : g < w0.heap.size := by omega
          have O5 := Lib.hid (HO.out.trans (O4.alloc (.cells #[.int .i64 (1 + (k : Int)), .slice (some ⟨bx, 0, none⟩) 3 3] 33)))
          have R5 := Lib.hid (R4.below (alloc_up w4 (.cells #[.int .i64 (1 + (k : Int)), .slice (some ⟨bx, 0, none⟩) 3 3] 33)))
          have Q5 := Lib.hid (O4.alloc (.cells #[.int .i64 (1 + (k : Int)), .slice (some ⟨bx, 0, none⟩) 3 3] 33))
          have sw : w0.heap.size ≤ wr.heap.size := HO.out.size
          have s4 := O4.size
          have HOwn5 := Lib.hid (own_only HOwn.out Q5.out lg0)
          have HTk5 := Lib.hid (HTk.out.only Q5.out lg0)
          have HRm5 := Lib.hid (show OwI (w4.alloc (.cells #[.int .i64 (1 + (k : Int)), .slice (some ⟨bx, 0, none⟩) 3 3] 33)) w0.heap.size rb room from ⟨HRm.out.1, Q5.out.blk HRm.out.2 (by have := HRm.out.1; omega)⟩)
          have HX5 := Lib.hid (show OwI (w4.alloc (.cells #[.int .i64 (1 + (k : Int)), .slice (some ⟨bx, 0, none⟩) 3 3] 33)) w0.heap.size bx ys from ⟨by have := HI4.out.1; omega, HI4.out.2.alloc _⟩)
          have P5 := Lib.hid (Blk.new w4 33 #[.int .i64 (1 + (k : Int)), .slice (some ⟨bx, 0, none⟩) 3 3])
          have s5 : w4.heap.size < (w4.alloc (.cells #[.int .i64 (1 + (k : Int)), .slice (some ⟨bx, 0, none⟩) 3 3] 33)).heap.size := P5.out.lt
          clear hI hy3 hybd O4 R4
          go_wp2_with fail
          clear kw HOwn HTk HRm HO HR HI4 Q5
          generalize w4.alloc (.cells #[.int .i64 (1 + (k : Int)), .slice (some ⟨bx, 0, none⟩) 3 3] 33) = w5 at O5 R5 HOwn5 HTk5 HRm5 HX5 P5 s5 ⊢
          obtain ⟨ts, tl, tc, tv⟩ := HTk5.out.read
          refine (l11Fits_any (some ⟨rb, 0, none⟩) A (some ⟨bx, 0, none⟩) 3 3 m c 3 room ts _ ys w5 (HRm5.out.rd' HL3.out (by omega)) (RdT.of_own HOwn5.out tc (Nat.le_refl _) (by omega)) (HX5.out.rd' HY3.out (by omega)) (Nat.le_refl _) (by omega)
            (fun j hj => tk_at (p := fun t => t.2.length = 3) (fun t ht => (tv t ht).1) (by omega)) (fun j i => tk_default (p := fun t => 0 ≤ t.2[i]?.getD 0 ∧ t.2[i]?.getD 0 ≤ 1000) (fun t ht => by have := (tv t ht).2 i; omega) (by simp) j)
            (fun j hj => by have := HYB.out j; omega)).mono ?_
          rintro e w6 ⟨rfl, d6⟩
          have O6 := Lib.hid (O5.out.below d6)
          have R6 := Lib.hid (R5.out.below d6)
          have HOwn6 := Lib.hid (own_keep HOwn5.out (fun b hb => d6.block b (HOwn5.out.lt b hb).2))
          have HTk6 := Lib.hid (HTk5.out.keep (w' := w6) (fun b cs _ hc => hc.below d6 hc.lt))
          have HRm6 := Lib.hid (show OwI w6 w0.heap.size rb room from ⟨HRm5.out.1, HRm5.out.2.below d6 HRm5.out.2.lt⟩)
          have HX6 := Lib.hid (show OwI w6 w0.heap.size bx ys from ⟨HX5.out.1, HX5.out.2.below d6 HX5.out.2.lt⟩)
          have P6 := Lib.hid (P5.out.below d6 P5.out.lt)
          have s6 : w0.heap.size ≤ w6.heap.size := O6.out.size
          clear tl tc tv d6 O5 R5 HOwn5 HTk5 HRm5 HX5 P5 s5
          generalize fits3 (add3 (loadP ts) ys) room = fit
          cases fit with
          | false =>
            go_wp2_with fail
            go_roundw
            case measure => simp [intOf]; omega
            case rel => exact ⟨k + 1, m, c, q4, A, vs, by go_num, by omega, rfl, by omega, HOwn6.out, HTk6.out, HRm6.out, O6.out, by omega, R6.out⟩
          | true =>
            have x0 : w6.cell? ⟨w4.heap.size, 0, none⟩ = some (.int .i64 (1 + (k : Int))) := P6.out.cell 0
            have x1 : w6.cell? ⟨w4.heap.size, 1, none⟩ = some (.slice (some ⟨bx, 0, none⟩) 3 3) := P6.out.cell 1
            have O7 := Lib.hid (O6.out.alloc (.cells #[.int .i64 (1 + (k : Int)), .slice (some ⟨bx, 0, none⟩) 3 3] 33))
            have R7 := Lib.hid (R6.out.below (alloc_up w6 (.cells #[.int .i64 (1 + (k : Int)), .slice (some ⟨bx, 0, none⟩) 3 3] 33)))
            have HOwn7 := Lib.hid (own_keep HOwn6.out (w' := w6.alloc (.cells #[.int .i64 (1 + (k : Int)), .slice (some ⟨bx, 0, none⟩) 3 3] 33)) (fun b hb => Below.heap_alloc _ _ _ (HOwn6.out.lt b hb).2))
            have HTk7 := Lib.hid ((HTk6.out.alloc (.cells #[.int .i64 (1 + (k : Int)), .slice (some ⟨bx, 0, none⟩) 3 3] 33)).append (TkN.one (id := 1 + (k : Int)) (⟨HX6.out.1, HX6.out.2.alloc _⟩ : OwI (w6.alloc (.cells #[.int .i64 (1 + (k : Int)), .slice (some ⟨bx, 0, none⟩) 3 3] 33)) w0.heap.size bx ys) HY3.out HYB.out))
            have HRm7 := Lib.hid (show Blk (w6.alloc (.cells #[.int .i64 (1 + (k : Int)), .slice (some ⟨bx, 0, none⟩) 3 3] 33)) rb 3 (room.map (Value.int .i64)).toArray from HRm6.out.2.alloc _)
            have hge := HRm6.out.1
            have X7 := Lib.hid (own_src (own_built (w := w6) (base := w0.heap.size) 33 (.int .i64 (1 + (k : Int))) (.slice (some ⟨bx, 0, none⟩) 3 3) s6))
            have lz7 : w0.heap.size ≤ (w6.alloc (.cells #[.int .i64 (1 + (k : Int)), .slice (some ⟨bx, 0, none⟩) 3 3] 33)).heap.size := by rw [World.size_alloc]; omega
            clear O6 R6 HOwn6 HTk6 HRm6 HX6 P6
            go_wp2_with (at_builtin; refine wpList_append_src _ rfl _ _ 31 rfl w0.heap.size 33 i0 _ 2 32 Tryz.underlying31 hi0 hz0 hz1 hz2 rfl (by omega) (.slice A m c) m vs rfl HOwn7.out (some ⟨w6.heap.size, 0, none⟩) 1 1 [.int .i64 (1 + (k : Int)), .slice (some ⟨bx, 0, none⟩) 3 3] rfl X7.out (by simp [Value.oneCell']) (by unfold maxLen; omega) (by omega) lz7 ?_; intro v' w8 hown8 hgrow8 hat8)
            obtain ⟨G1, G2, G3⟩ := tk_grow (w0 := w0) HOwn7.out hgrow8 O7.out R7.out HTk7.out lg0
            have HRm8 := Lib.hid (show OwI w8 w0.heap.size rb room from ⟨hge, HRm7.out.grown hgrow8 (fun e => own_ne_int HOwn7.out HRm7.out e.symm)⟩)
            obtain ⟨A8, c8, rfl⟩ := own_shape hown8
            have O8 := Lib.hid G1
            have R8 := Lib.hid G2
            have HTk8 := Lib.hid G3
            have HOwn8 := Lib.hid hown8
            clear hown8 hgrow8 hat8 G1 G2 G3 O7 R7 HOwn7 HTk7 HRm7 X7 x0 x1
            go_wp2_with fail
            go_roundw
            case measure => simp [intOf]; omega
            case rel => exact ⟨k + 1, m + 1, c8, q4, A8, _, by go_num, by omega, rfl, by omega, HOwn8.out, HTk8.out, HRm8.out, O8.out, by omega, R8.out⟩
      · have hd : decide ((k : Int) < 2 + (r2 : Int)) = false := by simp; omega
        go_wp2_with fail
        go_meet
        case rel => exact ⟨m, c, q, A, vs, rfl, by omega, HOwn.out, HTk.out, HRm.out, HO.out, by omega, HR.out⟩
  case rest =>
    clear HR2 HO2 Own2 HRm2
    obtain ⟨m, c, q, A, vs, rfl, hm8, hown, htk, hrm, ho, hq, hr⟩ := hcut
    obtain ⟨wb, rfl⟩ : ∃ wb : World, wb = wc := ⟨_, rfl⟩
    have lg0 : g < w0.heap.size := by omega
    have HOwn := Lib.hid hown
    have HTk := Lib.hid htk
    have HRm := Lib.hid hrm
    have HO := Lib.hid ho
    have HR := Lib.hid hr
    have sc := ho.size
    clear hown htk hrm ho hr
    -- the ranks
    have B3 := alloc_up wb (.cells #[] 3)
    have Rk3 := Lib.hid (show OwnI (wb.alloc (.cells #[] 3)) wb.heap.size (some ⟨wb.heap.size, 0, none⟩) 0 0 [] from World.ownsRow_made wb #[] 0 (Nat.le_refl _) (by unfold maxLen; omega) rfl)
    have O3 := Lib.hid ((OnlyG.refl wb g).below B3)
    have R3 := Lib.hid (HR.out.below B3)
    go_wp2_with fail
    clear B3
    go_loopw [12, 13] (fun v i wr => ∃ (k c3 q3 : Nat) (A3 : Option Addr) (rk : List Int), i = .int .i64 k ∧ k ≤ m ∧ v = .slice A3 k c3 ∧ OwnI wr wb.heap.size A3 k c3 rk ∧ OnlyG wb wr g ∧ q3 ≤ p + 100 + k ∧ Rdr wr g q3) (fun _ i _ => m - (intOf i).toNat)
    case atStart => exact ⟨0, _, _, _, [], rfl, Nat.zero_le _, rfl, Rk3.out, O3.out, by omega, R3.out⟩
    case round =>
      clear Rk3 O3 R3
      obtain ⟨k, c3, q3, A3, rk, rfl, hk, rfl, hrk, ho3, hq3, hr3⟩ := hrel
      have HRk := Lib.hid hrk
      have HO3 := Lib.hid ho3
      have HR3 := Lib.hid hr3
      clear hrk ho3 hr3
      by_cases hlt : k < m
      · go_wp2_with fail
        refine (pick_at 5 HR3.out rfl (by omega) (by omega) (by omega)).mono ?_; rintro e w4 ⟨r4, rfl, hr4, R4, O4⟩
        have lgr := HR3.out.lt
        have scr := HO3.out.size
        have Rk5 := Lib.hid (own_keep (HRk.out.only O4 (by omega)) (w' := w4.alloc (.cells #[.int .i64 (r4 : Int)] 3)) (fun b hb => Below.heap_alloc _ _ _ (World.ownsRow.lt (HRk.out.only O4 (by omega)) b hb).2))
        have O5 := Lib.hid ((HO3.out.trans O4).alloc (.cells #[.int .i64 (r4 : Int)] 3))
        have R5 := Lib.hid (R4.below (alloc_up w4 (.cells #[.int .i64 (r4 : Int)] 3)))
        have X5 := Lib.hid (src_int w4 (r4 : Int))
        have sz4 := O4.size
        have lz5 : wb.heap.size ≤ (w4.alloc (.cells #[.int .i64 (r4 : Int)] 3)).heap.size := by rw [World.size_alloc]; omega
        clear R4 O4 HRk HO3 HR3
        go_wp2_with (at_builtin; refine wpList_append_src _ rfl _ _ 22 rfl wb.heap.size 3 j0 _ 1 8 Tryz.underlying22 hj0 hjz0 hjz1 hjz2 rfl (by omega) (.slice A3 k c3) k _ rfl Rk5.out (some ⟨w4.heap.size, 0, none⟩) 1 1 [.int .i64 (r4 : Int)] rfl X5.out (by simp [Value.oneCell']) (by unfold maxLen; omega) (by omega) lz5 ?_; intro v' w6 hown6 hgrow6 hat6)
        obtain ⟨A6, c6, rfl⟩ := own_shape hown6
        have O6 := Lib.hid (O5.out.grown hgrow6 (fun r e => (World.ownsRow.lt Rk5.out r e).1))
        have R6 := Lib.hid (R5.out.keep (w' := w6) (fun b hb => hgrow6.block b (by have := R5.out.lt; omega) (fun e => by have := (World.ownsRow.lt Rk5.out b e.symm).1; omega)))
        have Rk6 := Lib.hid (show OwnI w6 wb.heap.size A6 (k + 1) c6 (rk ++ [(r4 : Int)]) from by unfold OwnI; rw [List.map_append]; exact hown6)
        clear hown6 hgrow6 hat6 O5 R5 Rk5 X5
        go_wp2_with fail
        go_roundw
        case measure => simp [intOf]; omega
        case rel => exact ⟨k + 1, c6, q3 + 1, A6, rk ++ [(r4 : Int)], by go_num, by omega, rfl, Rk6.out, O6.out, by omega, R6.out⟩
      · obtain rfl : k = m := by omega
        have scr := HO3.out.size
        go_wp2_with fail
        refine (l91Task_any g q3 20 wr HR3.out (by omega)).mono ?_; rintro e w4 ⟨bx, ys, rfl, hI, hy3, hybd, O4, q4, hq4, R4⟩
        have lgb : g < wb.heap.size := by omega
        have HS4 := Lib.hid (show EvSt wb g q4 bx k c3 A3 rk ys w4 from
          ⟨HRk.out.only O4 lgb, ⟨by have := hI.1; omega, hI.2⟩, fun e => by have := (World.ownsRow.lt HRk.out bx e).2; have := hI.1; omega, HO3.out.trans O4, R4, lgb⟩)
        have HY3 := Lib.hid hy3
        have s4 := O4.size
        clear hI hy3 hybd O4 R4 HRk HO3 HR3
        have B5 := alloc_up w4 (.cells #[.int .i64 20, .slice (some ⟨bx, 0, none⟩) 3 3] 33)
        have HS5 := Lib.hid (HS4.out.below B5)
        have HX5 := Lib.hid (Blk.new w4 33 #[.int .i64 20, .slice (some ⟨bx, 0, none⟩) 3 3])
        have s5 : w4.heap.size < (w4.alloc (.cells #[.int .i64 20, .slice (some ⟨bx, 0, none⟩) 3 3] 33)).heap.size := HX5.out.lt
        have HA3 := Lib.hid (show (Value.slice A3 k c3).ownBlock ≠ some w4.heap.size from fun hx => by have := (World.ownsRow.lt HS4.out.rk _ hx).2; omega)
        have hxb : wb.heap.size ≤ bx ∧ bx < w4.heap.size := ⟨HS4.out.x.1, HS4.out.x.2.lt⟩
        clear B5
        go_wp2_with fail
        clear HS4
        generalize w4.alloc (.cells #[.int .i64 20, .slice (some ⟨bx, 0, none⟩) 3 3] 33) = w5 at HS5 HX5 s5 ⊢
        refine (pick_at 2 HS5.out.r rfl (by omega) (by omega) (by omega)).mono ?_; rintro e w6 ⟨r6, rfl, hr6, R6, O6⟩
        have HS6 := Lib.hid (HS5.out.only O6 R6)
        have HX6 := Lib.hid (O6.blk HX5.out (by omega))
        clear R6 O6 HS5 HX5
        go_upto_if 58 with fail
        go_cut [] (fun wx => ∃ (q : Nat) (ys' : List Int), q ≤ p + 200 ∧ ys'.length = 3 ∧ EvSt wb g q bx k c3 A3 rk ys' wx ∧ Blk wx w4.heap.size 33 #[.int .i64 20, .slice (some ⟨bx, 0, none⟩) 3 3])
        case first =>
          by_cases h6 : r6 = 0
          · have e6 : ((r6 : Int) == 0) = true := by simp [h6]
            have K0 : w6.drew.cell? ⟨w4.heap.size, 1, none⟩ = some (.slice (some ⟨bx, 0, none⟩) 3 3) := HX6.out.cell 1
            go_wp2_with fail
            refine wp_region_mix (.take 0 (.take 1 (.take 2 (.bar 3 (.take 4 (.bar 5 .nil)))))) (fun w' => w'.cell? ⟨w4.heap.size, 1, none⟩ = some (.slice (some ⟨bx, 0, none⟩) 3 3)) (by kernel_rfl) (by kernel_rfl) K0 (fun _ => ?_)
            clear K0
            repeat (first | (refine wpMix_skip (by rfl) (by rfl) ?_; (try simp only [Act.put, List.setIfInBounds_toArray, List.set_cons_zero, List.set_cons_succ])) | (refine wpMix_take (v := ?_) (by rfl) (by rfl) (fun wS hSt => ?_) ?_; rotate_left; (focus ((try dsimp only at hSt); (go_simp <;> with_reducible rfl); done)); (try simp only [Act.put, List.setIfInBounds_toArray, List.set_cons_zero, List.set_cons_succ])))
            (refine wpMix_bar (by rfl) (fun K hK => ?_); go_simp)
            refine (pick_at 3 HS6.out.r.drew rfl (by omega) (by omega) (by omega)).mono ?_; rintro e w7 ⟨r7, rfl, hr7, R7, O7⟩
            have O7' := Lib.hid (show OnlyG w6 w7 g from ((OnlyG.refl w6 g).drew).trans O7)
            have HS7 := Lib.hid (HS6.out.only O7'.out R7)
            have HX7 := Lib.hid (O7'.out.blk HX6.out (by omega))
            clear R7 O7
            ((try dsimp only); refine hK.out _ _ (HX7.out.cell 1) (fun hSw => ?_); (try clear hSw); clear hK K; (try simp only [Act.put, List.setIfInBounds_toArray, List.set_cons_zero, List.set_cons_succ]))
            have k1 : (0 : Int) ≤ (r7 : Int) := by omega
            have k2 : (r7 : Int) < 3 := by omega
            have hold : ∃ u, w7.cell? ⟨bx, r7, none⟩ = some u := by
              rw [HS7.out.x.2.cell]
              exact ⟨_, by rw [List.getElem?_toArray, List.getElem?_map, List.getElem?_eq_getElem (by have := HY3.out; omega)]; rfl⟩
            obtain ⟨u, hu⟩ := hold
            have fu : w7.frozen? ⟨bx, r7, none⟩ = false := HS7.out.x.2.frozen _
            repeat (first | (refine wpMix_skip (by rfl) (by rfl) ?_; (try simp only [Act.put, List.setIfInBounds_toArray, List.set_cons_zero, List.set_cons_succ])) | (refine wpMix_take (v := ?_) (by rfl) (by rfl) (fun wS hSt => ?_) ?_; rotate_left; (focus ((try dsimp only at hSt); (go_simp <;> with_reducible rfl); done)); (try simp only [Act.put, List.setIfInBounds_toArray, List.set_cons_zero, List.set_cons_succ])))
            (refine wpMix_bar (by rfl) (fun K hK => ?_); go_simp)
            clear hu fu
            have HS8 := Lib.hid (HS7.out.need r7 6)
            have HX8 := Lib.hid (HX7.out.far (p := ⟨bx, r7, none⟩) (by simp; omega) (.int .i64 6))
            ((try dsimp only); refine hK.out _ _ (HX8.out.cell 1) (fun hSw => ?_); (try clear hSw); clear hK K; (try simp only [Act.put, List.setIfInBounds_toArray, List.set_cons_zero, List.set_cons_succ]))
            refine wpMix_nil ?_
            go_wp2_with fail
            go_meet
            case rel => exact ⟨_, _, by omega, by rw [List.length_set]; exact HY3.out, HS8.out, HX8.out⟩
          · have e6 : ((r6 : Int) == 0) = false := by simp; omega
            go_wp2_with fail
            go_meet
            case rel => exact ⟨_, _, by omega, HY3.out, HS6.out, HX6.out⟩
        case rest =>
          clear HS6 HX6 HY3
          obtain ⟨q7, ys7, hq7, hy7, hs7, hx7⟩ := hcut
          have HS7 := Lib.hid hs7
          have HX7 := Lib.hid hx7
          have HY7 := Lib.hid hy7
          clear hs7 hx7 hy7
          go_wp2_with fail
          refine (pick_at 24 HS7.out.r rfl (by omega) (by omega) (by omega)).mono ?_; rintro e w8 ⟨r8, rfl, hr8, R8, O8⟩
          have HS8 := Lib.hid (HS7.out.only O8 R8)
          have HX8 := Lib.hid (O8.blk HX7.out (by omega))
          clear R8 O8 HS7 HX7
          have ne1 : w4.heap.size ≠ w.heap.size := by omega
          have ltx : w4.heap.size < w8.heap.size := HX8.out.lt
          by_cases h8 : r8 = 0
          · subst h8
            have Rk9 := Lib.hid (own_keep HS8.out.rk (w' := w8.alloc (.cells #[.int .i64 1] 3)) (fun b hb => Below.heap_alloc _ _ _ (World.ownsRow.lt HS8.out.rk b hb).2))
            have HS9a := Lib.hid (HS8.out.below (alloc_up w8 (.cells #[.int .i64 1] 3)))
            have HX9a := Lib.hid (HX8.out.alloc (.cells #[.int .i64 1] 3))
            have X9 := Lib.hid (src_int w8 1)
            have lz9 : wb.heap.size ≤ (w8.alloc (.cells #[.int .i64 1] 3)).heap.size := by rw [World.size_alloc]; omega
            go_wp2_with (at_builtin; refine wpList_append_src _ rfl _ _ 22 rfl wb.heap.size 3 j0 _ 1 8 Tryz.underlying22 hj0 hjz0 hjz1 hjz2 rfl (by omega) (.slice A3 k c3) k _ rfl Rk9.out (some ⟨w8.heap.size, 0, none⟩) 1 1 [.int .i64 1] rfl X9.out (by simp [Value.oneCell']) (by unfold maxLen; omega) (by omega) lz9 ?_; intro v' w10 hown10 hgrow10 hat10)
            obtain ⟨A10, c10, rfl⟩ := own_shape hown10
            have HS10 := Lib.hid (HS9a.out.rank (v := 1) (by unfold OwnI; rw [List.map_append]; exact hown10) hgrow10 hat10)
            have HX10 := Lib.hid (HX9a.out.grown hgrow10 (fun e => HA3.out e.symm))
            clear hown10 hgrow10 hat10 Rk9 HS9a HX9a X9 HS8 HX8
            have K0 : w10.drew.cell? ⟨w4.heap.size, 0, none⟩ = some (.int .i64 20) ∧ w10.drew.cell? ⟨w4.heap.size, 1, none⟩ = some (.slice (some ⟨bx, 0, none⟩) 3 3) := ⟨HX10.out.cell 0, HX10.out.cell 1⟩
            go_wp2_with fail
            refine wp_region_mix (.take 0 (.take 1 (.take 2 (.take 3 (.take 4 (.bar 5 (.take 6 (.take 7 (.take 8 (.take 9 (.bar 10 (.take 11 .nil)))))))))))) (fun w' => w'.cell? ⟨w4.heap.size, 0, none⟩ = some (.int .i64 20) ∧ w'.cell? ⟨w4.heap.size, 1, none⟩ = some (.slice (some ⟨bx, 0, none⟩) 3 3)) (by kernel_rfl) (by kernel_rfl) K0 (fun _ => ?_)
            clear K0
            repeat (first | (refine wpMix_skip (by rfl) (by rfl) ?_; (try simp only [Act.put, List.setIfInBounds_toArray, List.set_cons_zero, List.set_cons_succ])) | (refine wpMix_take (v := ?_) (by rfl) (by rfl) (fun wS hSt => ?_) ?_; rotate_left; (focus ((try dsimp only at hSt); (go_simp <;> with_reducible rfl); done)); (try simp only [Act.put, List.setIfInBounds_toArray, List.set_cons_zero, List.set_cons_succ])))
            (refine wpMix_bar (by rfl) (fun K hK => ?_); go_simp)
            refine (pick_at 5 HS10.out.r.drew rfl (by omega) (by omega) (by omega)).mono ?_; rintro e v9 ⟨r9, rfl, hr9, R9, O9⟩
            have O9' := Lib.hid (show OnlyG w10 v9 g from ((OnlyG.refl w10 g).drew).trans O9)
            have HS9 := Lib.hid (HS10.out.only O9'.out R9)
            have HX9 := Lib.hid (O9'.out.blk HX10.out (by omega))
            have HP9 := Lib.hid (HS9.out.o.blk (HO.out.blk P0.out (by omega)) (by omega))
            have kw : IntKind.i64.wrap (2 + (r9 : Int)) = 2 + (r9 : Int) := wr64 (by omega) (by omega)
            clear R9 O9
            ((try dsimp only); refine hK.out _ _ (⟨HX9.out.cell 0, HX9.out.cell 1⟩) (fun hSw => ?_); (try clear hSw); clear hK K; (try simp only [Act.put, List.setIfInBounds_toArray, List.set_cons_zero, List.set_cons_succ]))
            repeat (first | (refine wpMix_skip (by rfl) (by rfl) ?_; (try simp only [Act.put, List.setIfInBounds_toArray, List.set_cons_zero, List.set_cons_succ])) | (refine wpMix_take (v := ?_) (by rfl) (by rfl) (fun wS hSt => ?_) ?_; rotate_left; (focus ((try dsimp only at hSt); (go_simp <;> with_reducible rfl); done)); (try simp only [Act.put, List.setIfInBounds_toArray, List.set_cons_zero, List.set_cons_succ])))
            have y0 : v9.cell? ⟨w.heap.size, 0, none⟩ = some (.int .i64 0) := HP9.out.cell 0
            have y1 : v9.cell? ⟨w.heap.size, 1, none⟩ = some (.slice none 0 0) := HP9.out.cell 1
            have f0 : v9.frozen? ⟨w.heap.size, 0, none⟩ = false := HP9.out.frozen 0
            have f1 : v9.frozen? ⟨w.heap.size, 1, none⟩ = false := HP9.out.frozen 1
            have ltW : w.heap.size < v9.heap.size := HP9.out.lt
            (refine wpMix_bar (by rfl) (fun K hK => ?_); go_simp)
            clear y0 y1 f0 f1
            have EP := (HX9.out.far (p := ⟨w.heap.size, 0, none⟩) ne1 (.int .i64 20)).far (p := ⟨w.heap.size, 1, none⟩) ne1 (.slice (some ⟨bx, 0, none⟩) 3 3)
            ((try dsimp only); refine hK.out _ _ (⟨EP.cell 0, EP.cell 1⟩) (fun hSw => ?_); (try clear hSw); clear hK K; (try simp only [Act.put, List.setIfInBounds_toArray, List.set_cons_zero, List.set_cons_succ]))
            clear EP
            repeat (first | (refine wpMix_skip (by rfl) (by rfl) ?_; (try simp only [Act.put, List.setIfInBounds_toArray, List.set_cons_zero, List.set_cons_succ])) | (refine wpMix_take (v := ?_) (by rfl) (by rfl) (fun wS hSt => ?_) ?_; rotate_left; (focus ((try dsimp only at hSt); (go_simp <;> with_reducible rfl); done)); (try simp only [Act.put, List.setIfInBounds_toArray, List.set_cons_zero, List.set_cons_succ])))
            refine wpMix_nil ?_
            obtain ⟨F1, F2, F3, F4, F5, F6⟩ := evEnd (w := w) HS9.out HOwn.out HTk.out HRm.out (((OnlyG.refl w g).below HB0.out).trans HO.out) lt0 (.int .i64 20) (.slice (some ⟨bx, 0, none⟩) 3 3)
            have EQ := (HP9.out.set_ 0 (.int .i64 20)).set_ 1 (.slice (some ⟨bx, 0, none⟩) 3 3)
            have z0 : ((v9.setCell ⟨w.heap.size, 0, none⟩ (.int .i64 20)).setCell ⟨w.heap.size, 1, none⟩ (.slice (some ⟨bx, 0, none⟩) 3 3)).cell? ⟨w.heap.size, 0, none⟩ = some (.int .i64 20) := EQ.cell 0
            have z1 : ((v9.setCell ⟨w.heap.size, 0, none⟩ (.int .i64 20)).setCell ⟨w.heap.size, 1, none⟩ (.slice (some ⟨bx, 0, none⟩) 3 3)).cell? ⟨w.heap.size, 1, none⟩ = some (.slice (some ⟨bx, 0, none⟩) 3 3) := EQ.cell 1
            have G1 := Lib.hid F1
            have G2 := Lib.hid F2
            have G3 := Lib.hid F3
            have G4 := Lib.hid F4
            have G5 := Lib.hid F5
            have G6 := Lib.hid F6
            clear F1 F2 F3 F4 F5 F6 EQ
            go_wp2
            refine bodyPost_ret (v := .tuple #[.slice (some ⟨rb, 0, none⟩) 3 3, .slice A k c, .slice A10 (k + 1) c10, .agg #[.int .i64 20, .slice (some ⟨bx, 0, none⟩) 3 3], .int .i64 (2 + (r9 : Int))]) (by simp [results, Tryz.results35, go_sem, z0, z1]) rfl
              ⟨rb, k, c, A, vs, _, _, _, room, _, _, bx, _, _, rfl, G1.out, HL3.out, G2.out, G3.out, hm8, G4.out, by omega, G5.out, HY7.out, G6.out⟩
          by_cases h81 : r8 = 1
          · subst h81
            have e0 : (((1 : Nat) : Int) == 0) = false := by simp
            have x0 : w8.cell? ⟨w4.heap.size, 0, none⟩ = some (.int .i64 20) := HX8.out.cell 0
            have f0 : w8.frozen? ⟨w4.heap.size, 0, none⟩ = false := HX8.out.frozen 0
            have HS10 := Lib.hid (HS8.out.box _ HX8.out (by omega) HA3.out 0 (.int .i64 1))
            have HX10 := Lib.hid (show Blk (w8.setCell ⟨w4.heap.size, 0, none⟩ (.int .i64 1)) w4.heap.size 33 #[.int .i64 1, .slice (some ⟨bx, 0, none⟩) 3 3] from HX8.out.set_ 0 (.int .i64 1))
            go_wp2_with fail
            clear x0 f0 e0 HS8 HX8
            generalize w8.setCell ⟨w4.heap.size, 0, none⟩ (.int .i64 1) = w10 at HS10 HX10 ⊢
            have K0 : w10.drew.cell? ⟨w4.heap.size, 0, none⟩ = some (.int .i64 1) ∧ w10.drew.cell? ⟨w4.heap.size, 1, none⟩ = some (.slice (some ⟨bx, 0, none⟩) 3 3) := ⟨HX10.out.cell 0, HX10.out.cell 1⟩
            refine wp_region_mix (.take 0 (.take 1 (.take 2 (.take 3 (.take 4 (.bar 5 (.take 6 (.take 7 (.take 8 (.take 9 (.bar 10 (.take 11 .nil)))))))))))) (fun w' => w'.cell? ⟨w4.heap.size, 0, none⟩ = some (.int .i64 1) ∧ w'.cell? ⟨w4.heap.size, 1, none⟩ = some (.slice (some ⟨bx, 0, none⟩) 3 3)) (by kernel_rfl) (by kernel_rfl) K0 (fun _ => ?_)
            clear K0
            repeat (first | (refine wpMix_skip (by rfl) (by rfl) ?_; (try simp only [Act.put, List.setIfInBounds_toArray, List.set_cons_zero, List.set_cons_succ])) | (refine wpMix_take (v := ?_) (by rfl) (by rfl) (fun wS hSt => ?_) ?_; rotate_left; (focus ((try dsimp only at hSt); (go_simp <;> with_reducible rfl); done)); (try simp only [Act.put, List.setIfInBounds_toArray, List.set_cons_zero, List.set_cons_succ])))
            (refine wpMix_bar (by rfl) (fun K hK => ?_); go_simp)
            refine (pick_at 5 HS10.out.r.drew rfl (by omega) (by omega) (by omega)).mono ?_; rintro e v9 ⟨r9, rfl, hr9, R9, O9⟩
            have O9' := Lib.hid (show OnlyG w10 v9 g from ((OnlyG.refl w10 g).drew).trans O9)
            have HS9 := Lib.hid (HS10.out.only O9'.out R9)
            have HX9 := Lib.hid (O9'.out.blk HX10.out (by omega))
            have HP9 := Lib.hid (HS9.out.o.blk (HO.out.blk P0.out (by omega)) (by omega))
            have kw : IntKind.i64.wrap (2 + (r9 : Int)) = 2 + (r9 : Int) := wr64 (by omega) (by omega)
            clear R9 O9
            ((try dsimp only); refine hK.out _ _ (⟨HX9.out.cell 0, HX9.out.cell 1⟩) (fun hSw => ?_); (try clear hSw); clear hK K; (try simp only [Act.put, List.setIfInBounds_toArray, List.set_cons_zero, List.set_cons_succ]))
            repeat (first | (refine wpMix_skip (by rfl) (by rfl) ?_; (try simp only [Act.put, List.setIfInBounds_toArray, List.set_cons_zero, List.set_cons_succ])) | (refine wpMix_take (v := ?_) (by rfl) (by rfl) (fun wS hSt => ?_) ?_; rotate_left; (focus ((try dsimp only at hSt); (go_simp <;> with_reducible rfl); done)); (try simp only [Act.put, List.setIfInBounds_toArray, List.set_cons_zero, List.set_cons_succ])))
            have y0 : v9.cell? ⟨w.heap.size, 0, none⟩ = some (.int .i64 0) := HP9.out.cell 0
            have y1 : v9.cell? ⟨w.heap.size, 1, none⟩ = some (.slice none 0 0) := HP9.out.cell 1
            have f0 : v9.frozen? ⟨w.heap.size, 0, none⟩ = false := HP9.out.frozen 0
            have f1 : v9.frozen? ⟨w.heap.size, 1, none⟩ = false := HP9.out.frozen 1
            have ltW : w.heap.size < v9.heap.size := HP9.out.lt
            (refine wpMix_bar (by rfl) (fun K hK => ?_); go_simp)
            clear y0 y1 f0 f1
            have EP := (HX9.out.far (p := ⟨w.heap.size, 0, none⟩) ne1 (.int .i64 1)).far (p := ⟨w.heap.size, 1, none⟩) ne1 (.slice (some ⟨bx, 0, none⟩) 3 3)
            ((try dsimp only); refine hK.out _ _ (⟨EP.cell 0, EP.cell 1⟩) (fun hSw => ?_); (try clear hSw); clear hK K; (try simp only [Act.put, List.setIfInBounds_toArray, List.set_cons_zero, List.set_cons_succ]))
            clear EP
            repeat (first | (refine wpMix_skip (by rfl) (by rfl) ?_; (try simp only [Act.put, List.setIfInBounds_toArray, List.set_cons_zero, List.set_cons_succ])) | (refine wpMix_take (v := ?_) (by rfl) (by rfl) (fun wS hSt => ?_) ?_; rotate_left; (focus ((try dsimp only at hSt); (go_simp <;> with_reducible rfl); done)); (try simp only [Act.put, List.setIfInBounds_toArray, List.set_cons_zero, List.set_cons_succ])))
            refine wpMix_nil ?_
            obtain ⟨F1, F2, F3, F4, F5, F6⟩ := evEnd (w := w) HS9.out HOwn.out HTk.out HRm.out (((OnlyG.refl w g).below HB0.out).trans HO.out) lt0 (.int .i64 1) (.slice (some ⟨bx, 0, none⟩) 3 3)
            have EQ := (HP9.out.set_ 0 (.int .i64 1)).set_ 1 (.slice (some ⟨bx, 0, none⟩) 3 3)
            have z0 : ((v9.setCell ⟨w.heap.size, 0, none⟩ (.int .i64 1)).setCell ⟨w.heap.size, 1, none⟩ (.slice (some ⟨bx, 0, none⟩) 3 3)).cell? ⟨w.heap.size, 0, none⟩ = some (.int .i64 1) := EQ.cell 0
            have z1 : ((v9.setCell ⟨w.heap.size, 0, none⟩ (.int .i64 1)).setCell ⟨w.heap.size, 1, none⟩ (.slice (some ⟨bx, 0, none⟩) 3 3)).cell? ⟨w.heap.size, 1, none⟩ = some (.slice (some ⟨bx, 0, none⟩) 3 3) := EQ.cell 1
            have G1 := Lib.hid F1
            have G2 := Lib.hid F2
            have G3 := Lib.hid F3
            have G4 := Lib.hid F4
            have G5 := Lib.hid F5
            have G6 := Lib.hid F6
            clear F1 F2 F3 F4 F5 F6 EQ
            go_wp2
            refine bodyPost_ret (v := .tuple #[.slice (some ⟨rb, 0, none⟩) 3 3, .slice A k c, .slice A3 k c3, .agg #[.int .i64 1, .slice (some ⟨bx, 0, none⟩) 3 3], .int .i64 (2 + (r9 : Int))]) (by simp [results, Tryz.results35, go_sem, z0, z1]) rfl
              ⟨rb, k, c, A, vs, _, _, _, room, _, _, bx, _, _, rfl, G1.out, HL3.out, G2.out, G3.out, hm8, G4.out, by omega, G5.out, HY7.out, G6.out⟩
          by_cases h82 : r8 = 2
          · subst h82
            have e0 : (((2 : Nat) : Int) == 0) = false := by simp
            have e1 : (((2 : Nat) : Int) == 1) = false := by simp
            have K0 : w8.drew.cell? ⟨w4.heap.size, 0, none⟩ = some (.int .i64 20) ∧ w8.drew.cell? ⟨w4.heap.size, 1, none⟩ = some (.slice (some ⟨bx, 0, none⟩) 3 3) := ⟨HX8.out.cell 0, HX8.out.cell 1⟩
            go_wp2_with fail
            refine wp_region_mix (.take 0 (.take 1 (.take 2 (.take 3 (.take 5 (.fork 4 (.bar 6 (.take 7 (.take 9 (.take 10 (.take 11 (.fork 8 (.bar 12 (.take 13 .nil)) 12 (.bar 8 (.take 13 .nil)))))))) 6 (.take 9 (.take 10 (.take 11 (.fork 4 (.take 7 (.fork 8 (.bar 12 (.take 13 .nil)) 12 (.bar 8 (.take 13 .nil)))) 12 (.bar 4 (.take 7 (.bar 8 (.take 13 .nil)))))))))))))) (fun w' => w'.cell? ⟨w4.heap.size, 0, none⟩ = some (.int .i64 20) ∧ w'.cell? ⟨w4.heap.size, 1, none⟩ = some (.slice (some ⟨bx, 0, none⟩) 3 3)) (by kernel_rfl) (by kernel_rfl) K0 (fun _ => ?_)
            clear K0
            repeat (first | (refine wpMix_skip (by rfl) (by rfl) ?_; (try simp only [Act.put, List.setIfInBounds_toArray, List.set_cons_zero, List.set_cons_succ])) | (refine wpMix_take (v := ?_) (by rfl) (by rfl) (fun wS hSt => ?_) ?_; rotate_left; (focus ((try dsimp only at hSt); (go_simp <;> with_reducible rfl); done)); (try simp only [Act.put, List.setIfInBounds_toArray, List.set_cons_zero, List.set_cons_succ])))
            have HS0 := Lib.hid (HS8.out.only ((OnlyG.refl w8 g).drew) HS8.out.r.drew)
            have HX0 := Lib.hid HX8.out.drew
            generalize w8.drew = u0 at HS0 HX0 ⊢
            clear HS8 HX8 ltx
            refine wpMix_fork (by rfl) (by rfl) (fun K hK => ?_) (fun K hK => ?_)
            · go_simp
              have B_u1 := alloc_up u0 (.cells #[.int .i64 (-1), .int .i64 9, .int .i64 10] 3)
              have HS1 := Lib.hid (HS0.out.below B_u1)
              have HX1 := Lib.hid (HX0.out.alloc (.cells #[.int .i64 (-1), .int .i64 9, .int .i64 10] 3))
              have C1 := Lib.hid (Blk.new u0 3 #[.int .i64 (-1), .int .i64 9, .int .i64 10])
              have gb1 : g ≠ u0.heap.size := by have := HS0.out.r.lt; omega
              have nb1 : u0.heap.size ≠ w.heap.size := by have := HS0.out.o.size; omega
              clear B_u1
              ((try dsimp only); refine hK.out _ _ (⟨HX1.out.cell 0, HX1.out.cell 1⟩) (fun hSw => ?_); (try clear hSw); clear hK K; (try simp only [Act.put, List.setIfInBounds_toArray, List.set_cons_zero, List.set_cons_succ]))
              clear HS0 HX0
              generalize u0.heap.size = G at C1 gb1 nb1 ⊢
              generalize u0.alloc (.cells #[.int .i64 (-1), .int .i64 9, .int .i64 10] 3) = u1 at HS1 HX1 C1 ⊢
              (refine wpMix_bar (by rfl) (fun K hK => ?_); go_simp)
              refine (pick_at 3 HS1.out.r rfl (by omega) (by omega) (by omega)).mono ?_; rintro e v9 ⟨r9, rfl, hr9, R9, O9⟩
              have HS9 := Lib.hid (HS1.out.only O9 R9)
              have HX9 := Lib.hid (O9.blk HX1.out (by omega))
              have C9 := Lib.hid (O9.blk C1.out (Ne.symm gb1))
              clear R9 O9
              have k1 : (0 : Int) ≤ (r9 : Int) := by omega
              have k2 : (r9 : Int) < 3 := by omega
              ((try dsimp only); refine hK.out _ _ (⟨HX9.out.cell 0, HX9.out.cell 1⟩) (fun hSw => ?_); (try clear hSw); clear hK K; (try simp only [Act.put, List.setIfInBounds_toArray, List.set_cons_zero, List.set_cons_succ]))
              repeat (first | (refine wpMix_skip (by rfl) (by rfl) ?_; (try simp only [Act.put, List.setIfInBounds_toArray, List.set_cons_zero, List.set_cons_succ])) | (refine wpMix_take (v := ?_) (by rfl) (by rfl) (fun wS hSt => ?_) ?_; rotate_left; (focus ((try dsimp only at hSt); (go_simp <;> with_reducible rfl); done)); (try simp only [Act.put, List.setIfInBounds_toArray, List.set_cons_zero, List.set_cons_succ])))
              have HP9 := Lib.hid (HS9.out.o.blk (HO.out.blk P0.out (by omega)) (by omega))
              refine wpMix_fork (by rfl) (by rfl) (fun K hK => ?_) (fun K hK => ?_)
              · skip
                have hcell : ∃ v : Int, v9.cell? ⟨G, r9, none⟩ = some (.int .i64 v) := by
                  rw [C9.out.cell]
                  match r9, hr9 with
                  | 0, _ => exact ⟨-1, rfl⟩
                  | 1, _ => exact ⟨9, rfl⟩
                  | 2, _ => exact ⟨10, rfl⟩
                obtain ⟨v, hv⟩ := hcell
                go_simp
                clear hv
                ((try dsimp only); refine hK.out _ _ (⟨HX9.out.cell 0, HX9.out.cell 1⟩) (fun hSw => ?_); (try clear hSw); clear hK K; (try simp only [Act.put, List.setIfInBounds_toArray, List.set_cons_zero, List.set_cons_succ]))
                have y0 : v9.cell? ⟨w.heap.size, 0, none⟩ = some (.int .i64 0) := HP9.out.cell 0
                have y1 : v9.cell? ⟨w.heap.size, 1, none⟩ = some (.slice none 0 0) := HP9.out.cell 1
                have f0 : v9.frozen? ⟨w.heap.size, 0, none⟩ = false := HP9.out.frozen 0
                have f1 : v9.frozen? ⟨w.heap.size, 1, none⟩ = false := HP9.out.frozen 1
                have ltW : w.heap.size < v9.heap.size := HP9.out.lt
                (refine wpMix_bar (by rfl) (fun K hK => ?_); go_simp)
                clear y0 y1 f0 f1
                have EP := (HX9.out.far (p := ⟨w.heap.size, 0, none⟩) ne1 (.int .i64 20)).far (p := ⟨w.heap.size, 1, none⟩) ne1 (.slice (some ⟨bx, 0, none⟩) 3 3)
                ((try dsimp only); refine hK.out _ _ (⟨EP.cell 0, EP.cell 1⟩) (fun hSw => ?_); (try clear hSw); clear hK K; (try simp only [Act.put, List.setIfInBounds_toArray, List.set_cons_zero, List.set_cons_succ]))
                clear EP
                repeat (first | (refine wpMix_skip (by rfl) (by rfl) ?_; (try simp only [Act.put, List.setIfInBounds_toArray, List.set_cons_zero, List.set_cons_succ])) | (refine wpMix_take (v := ?_) (by rfl) (by rfl) (fun wS hSt => ?_) ?_; rotate_left; (focus ((try dsimp only at hSt); (go_simp <;> with_reducible rfl); done)); (try simp only [Act.put, List.setIfInBounds_toArray, List.set_cons_zero, List.set_cons_succ])))
                refine wpMix_nil ?_
                obtain ⟨F1, F2, F3, F4, F5, F6⟩ := evEnd (w := w) HS9.out HOwn.out HTk.out HRm.out (((OnlyG.refl w g).below HB0.out).trans HO.out) lt0 (.int .i64 20) (.slice (some ⟨bx, 0, none⟩) 3 3)
                have EQ := (HP9.out.set_ 0 (.int .i64 20)).set_ 1 (.slice (some ⟨bx, 0, none⟩) 3 3)
                have z0 : ((v9.setCell ⟨w.heap.size, 0, none⟩ (.int .i64 20)).setCell ⟨w.heap.size, 1, none⟩ (.slice (some ⟨bx, 0, none⟩) 3 3)).cell? ⟨w.heap.size, 0, none⟩ = some (.int .i64 20) := EQ.cell 0
                have z1 : ((v9.setCell ⟨w.heap.size, 0, none⟩ (.int .i64 20)).setCell ⟨w.heap.size, 1, none⟩ (.slice (some ⟨bx, 0, none⟩) 3 3)).cell? ⟨w.heap.size, 1, none⟩ = some (.slice (some ⟨bx, 0, none⟩) 3 3) := EQ.cell 1
                have G1 := Lib.hid F1
                have G2 := Lib.hid F2
                have G3 := Lib.hid F3
                have G4 := Lib.hid F4
                have G5 := Lib.hid F5
                have G6 := Lib.hid F6
                clear F1 F2 F3 F4 F5 F6 EQ
                go_wp2
                refine bodyPost_ret (v := .tuple #[.slice (some ⟨rb, 0, none⟩) 3 3, .slice A k c, .slice A3 k c3, .agg #[.int .i64 20, .slice (some ⟨bx, 0, none⟩) 3 3], .int .i64 (v)]) (by simp [results, Tryz.results35, go_sem, z0, z1]) rfl
                  ⟨rb, k, c, A, vs, _, _, _, room, _, _, bx, _, _, rfl, G1.out, HL3.out, G2.out, G3.out, hm8, G4.out, by omega, G5.out, HY7.out, G6.out⟩
              · skip
                have y0 : v9.cell? ⟨w.heap.size, 0, none⟩ = some (.int .i64 0) := HP9.out.cell 0
                have y1 : v9.cell? ⟨w.heap.size, 1, none⟩ = some (.slice none 0 0) := HP9.out.cell 1
                have f0 : v9.frozen? ⟨w.heap.size, 0, none⟩ = false := HP9.out.frozen 0
                have f1 : v9.frozen? ⟨w.heap.size, 1, none⟩ = false := HP9.out.frozen 1
                have ltW : w.heap.size < v9.heap.size := HP9.out.lt
                go_simp
                clear y0 y1 f0 f1
                have EP := (HX9.out.far (p := ⟨w.heap.size, 0, none⟩) ne1 (.int .i64 20)).far (p := ⟨w.heap.size, 1, none⟩) ne1 (.slice (some ⟨bx, 0, none⟩) 3 3)
                ((try dsimp only); refine hK.out _ _ (⟨EP.cell 0, EP.cell 1⟩) (fun hSw => ?_); (try clear hSw); clear hK K; (try simp only [Act.put, List.setIfInBounds_toArray, List.set_cons_zero, List.set_cons_succ]))
                clear EP
                have C10 := Lib.hid ((C9.out.far (p := ⟨w.heap.size, 0, none⟩) nb1 (.int .i64 20)).far (p := ⟨w.heap.size, 1, none⟩) nb1 (.slice (some ⟨bx, 0, none⟩) 3 3))
                have hcell : ∃ v : Int, ((v9.setCell ⟨w.heap.size, 0, none⟩ (.int .i64 20)).setCell ⟨w.heap.size, 1, none⟩ (.slice (some ⟨bx, 0, none⟩) 3 3)).cell? ⟨G, r9, none⟩ = some (.int .i64 v) := by
                  rw [C10.out.cell]
                  match r9, hr9 with
                  | 0, _ => exact ⟨-1, rfl⟩
                  | 1, _ => exact ⟨9, rfl⟩
                  | 2, _ => exact ⟨10, rfl⟩
                obtain ⟨v, hv⟩ := hcell
                have EX := Lib.hid ((HX9.out.far (p := ⟨w.heap.size, 0, none⟩) ne1 (.int .i64 20)).far (p := ⟨w.heap.size, 1, none⟩) ne1 (.slice (some ⟨bx, 0, none⟩) 3 3))
                (refine wpMix_bar (by rfl) (fun K hK => ?_); go_simp)
                clear hv
                ((try dsimp only); refine hK.out _ _ (⟨EX.out.cell 0, EX.out.cell 1⟩) (fun hSw => ?_); (try clear hSw); clear hK K; (try simp only [Act.put, List.setIfInBounds_toArray, List.set_cons_zero, List.set_cons_succ]))
                repeat (first | (refine wpMix_skip (by rfl) (by rfl) ?_; (try simp only [Act.put, List.setIfInBounds_toArray, List.set_cons_zero, List.set_cons_succ])) | (refine wpMix_take (v := ?_) (by rfl) (by rfl) (fun wS hSt => ?_) ?_; rotate_left; (focus ((try dsimp only at hSt); (go_simp <;> with_reducible rfl); done)); (try simp only [Act.put, List.setIfInBounds_toArray, List.set_cons_zero, List.set_cons_succ])))
                refine wpMix_nil ?_
                obtain ⟨F1, F2, F3, F4, F5, F6⟩ := evEnd (w := w) HS9.out HOwn.out HTk.out HRm.out (((OnlyG.refl w g).below HB0.out).trans HO.out) lt0 (.int .i64 20) (.slice (some ⟨bx, 0, none⟩) 3 3)
                have EQ := (HP9.out.set_ 0 (.int .i64 20)).set_ 1 (.slice (some ⟨bx, 0, none⟩) 3 3)
                have z0 : ((v9.setCell ⟨w.heap.size, 0, none⟩ (.int .i64 20)).setCell ⟨w.heap.size, 1, none⟩ (.slice (some ⟨bx, 0, none⟩) 3 3)).cell? ⟨w.heap.size, 0, none⟩ = some (.int .i64 20) := EQ.cell 0
                have z1 : ((v9.setCell ⟨w.heap.size, 0, none⟩ (.int .i64 20)).setCell ⟨w.heap.size, 1, none⟩ (.slice (some ⟨bx, 0, none⟩) 3 3)).cell? ⟨w.heap.size, 1, none⟩ = some (.slice (some ⟨bx, 0, none⟩) 3 3) := EQ.cell 1
                have G1 := Lib.hid F1
                have G2 := Lib.hid F2
                have G3 := Lib.hid F3
                have G4 := Lib.hid F4
                have G5 := Lib.hid F5
                have G6 := Lib.hid F6
                clear F1 F2 F3 F4 F5 F6 EQ
                go_wp2
                refine bodyPost_ret (v := .tuple #[.slice (some ⟨rb, 0, none⟩) 3 3, .slice A k c, .slice A3 k c3, .agg #[.int .i64 20, .slice (some ⟨bx, 0, none⟩) 3 3], .int .i64 (v)]) (by simp [results, Tryz.results35, go_sem, z0, z1]) rfl
                  ⟨rb, k, c, A, vs, _, _, _, room, _, _, bx, _, _, rfl, G1.out, HL3.out, G2.out, G3.out, hm8, G4.out, by omega, G5.out, HY7.out, G6.out⟩
            · go_simp
              refine (pick_at 3 HS0.out.r rfl (by omega) (by omega) (by omega)).mono ?_; rintro e v8 ⟨r9, rfl, hr9, R9, O9⟩
              have HS9 := Lib.hid (HS0.out.only O9 R9)
              have HX9 := Lib.hid (O9.blk HX0.out (by omega))
              clear R9 O9
              have k1 : (0 : Int) ≤ (r9 : Int) := by omega
              have k2 : (r9 : Int) < 3 := by omega
              ((try dsimp only); refine hK.out _ _ (⟨HX9.out.cell 0, HX9.out.cell 1⟩) (fun hSw => ?_); (try clear hSw); clear hK K; (try simp only [Act.put, List.setIfInBounds_toArray, List.set_cons_zero, List.set_cons_succ]))
              repeat (first | (refine wpMix_skip (by rfl) (by rfl) ?_; (try simp only [Act.put, List.setIfInBounds_toArray, List.set_cons_zero, List.set_cons_succ])) | (refine wpMix_take (v := ?_) (by rfl) (by rfl) (fun wS hSt => ?_) ?_; rotate_left; (focus ((try dsimp only at hSt); (go_simp <;> with_reducible rfl); done)); (try simp only [Act.put, List.setIfInBounds_toArray, List.set_cons_zero, List.set_cons_succ])))
              refine wpMix_fork (by rfl) (by rfl) (fun K hK => ?_) (fun K hK => ?_)
              · go_simp
                have B_u1 := alloc_up v8 (.cells #[.int .i64 (-1), .int .i64 9, .int .i64 10] 3)
                have HS1 := Lib.hid (HS9.out.below B_u1)
                have HX1 := Lib.hid (HX9.out.alloc (.cells #[.int .i64 (-1), .int .i64 9, .int .i64 10] 3))
                have C1 := Lib.hid (Blk.new v8 3 #[.int .i64 (-1), .int .i64 9, .int .i64 10])
                have gb1 : g ≠ v8.heap.size := by have := HS9.out.r.lt; omega
                have nb1 : v8.heap.size ≠ w.heap.size := by have := HS9.out.o.size; omega
                clear B_u1
                ((try dsimp only); refine hK.out _ _ (⟨HX1.out.cell 0, HX1.out.cell 1⟩) (fun hSw => ?_); (try clear hSw); clear hK K; (try simp only [Act.put, List.setIfInBounds_toArray, List.set_cons_zero, List.set_cons_succ]))
                clear HS0 HX0 HS9 HX9
                generalize v8.heap.size = G at C1 gb1 nb1 ⊢
                generalize v8.alloc (.cells #[.int .i64 (-1), .int .i64 9, .int .i64 10] 3) = u1 at HS1 HX1 C1 ⊢
                repeat (first | (refine wpMix_skip (by rfl) (by rfl) ?_; (try simp only [Act.put, List.setIfInBounds_toArray, List.set_cons_zero, List.set_cons_succ])) | (refine wpMix_take (v := ?_) (by rfl) (by rfl) (fun wS hSt => ?_) ?_; rotate_left; (focus ((try dsimp only at hSt); (go_simp <;> with_reducible rfl); done)); (try simp only [Act.put, List.setIfInBounds_toArray, List.set_cons_zero, List.set_cons_succ])))
                have HP9 := Lib.hid (HS1.out.o.blk (HO.out.blk P0.out (by omega)) (by omega))
                refine wpMix_fork (by rfl) (by rfl) (fun K hK => ?_) (fun K hK => ?_)
                · skip
                  have hcell : ∃ v : Int, u1.cell? ⟨G, r9, none⟩ = some (.int .i64 v) := by
                    rw [C1.out.cell]
                    match r9, hr9 with
                    | 0, _ => exact ⟨-1, rfl⟩
                    | 1, _ => exact ⟨9, rfl⟩
                    | 2, _ => exact ⟨10, rfl⟩
                  obtain ⟨v, hv⟩ := hcell
                  go_simp
                  clear hv
                  ((try dsimp only); refine hK.out _ _ (⟨HX1.out.cell 0, HX1.out.cell 1⟩) (fun hSw => ?_); (try clear hSw); clear hK K; (try simp only [Act.put, List.setIfInBounds_toArray, List.set_cons_zero, List.set_cons_succ]))
                  have y0 : u1.cell? ⟨w.heap.size, 0, none⟩ = some (.int .i64 0) := HP9.out.cell 0
                  have y1 : u1.cell? ⟨w.heap.size, 1, none⟩ = some (.slice none 0 0) := HP9.out.cell 1
                  have f0 : u1.frozen? ⟨w.heap.size, 0, none⟩ = false := HP9.out.frozen 0
                  have f1 : u1.frozen? ⟨w.heap.size, 1, none⟩ = false := HP9.out.frozen 1
                  have ltW : w.heap.size < u1.heap.size := HP9.out.lt
                  (refine wpMix_bar (by rfl) (fun K hK => ?_); go_simp)
                  clear y0 y1 f0 f1
                  have EP := (HX1.out.far (p := ⟨w.heap.size, 0, none⟩) ne1 (.int .i64 20)).far (p := ⟨w.heap.size, 1, none⟩) ne1 (.slice (some ⟨bx, 0, none⟩) 3 3)
                  ((try dsimp only); refine hK.out _ _ (⟨EP.cell 0, EP.cell 1⟩) (fun hSw => ?_); (try clear hSw); clear hK K; (try simp only [Act.put, List.setIfInBounds_toArray, List.set_cons_zero, List.set_cons_succ]))
                  clear EP
                  repeat (first | (refine wpMix_skip (by rfl) (by rfl) ?_; (try simp only [Act.put, List.setIfInBounds_toArray, List.set_cons_zero, List.set_cons_succ])) | (refine wpMix_take (v := ?_) (by rfl) (by rfl) (fun wS hSt => ?_) ?_; rotate_left; (focus ((try dsimp only at hSt); (go_simp <;> with_reducible rfl); done)); (try simp only [Act.put, List.setIfInBounds_toArray, List.set_cons_zero, List.set_cons_succ])))
                  refine wpMix_nil ?_
                  obtain ⟨F1, F2, F3, F4, F5, F6⟩ := evEnd (w := w) HS1.out HOwn.out HTk.out HRm.out (((OnlyG.refl w g).below HB0.out).trans HO.out) lt0 (.int .i64 20) (.slice (some ⟨bx, 0, none⟩) 3 3)
                  have EQ := (HP9.out.set_ 0 (.int .i64 20)).set_ 1 (.slice (some ⟨bx, 0, none⟩) 3 3)
                  have z0 : ((u1.setCell ⟨w.heap.size, 0, none⟩ (.int .i64 20)).setCell ⟨w.heap.size, 1, none⟩ (.slice (some ⟨bx, 0, none⟩) 3 3)).cell? ⟨w.heap.size, 0, none⟩ = some (.int .i64 20) := EQ.cell 0
                  have z1 : ((u1.setCell ⟨w.heap.size, 0, none⟩ (.int .i64 20)).setCell ⟨w.heap.size, 1, none⟩ (.slice (some ⟨bx, 0, none⟩) 3 3)).cell? ⟨w.heap.size, 1, none⟩ = some (.slice (some ⟨bx, 0, none⟩) 3 3) := EQ.cell 1
                  have G1 := Lib.hid F1
                  have G2 := Lib.hid F2
                  have G3 := Lib.hid F3
                  have G4 := Lib.hid F4
                  have G5 := Lib.hid F5
                  have G6 := Lib.hid F6
                  clear F1 F2 F3 F4 F5 F6 EQ
                  go_wp2
                  refine bodyPost_ret (v := .tuple #[.slice (some ⟨rb, 0, none⟩) 3 3, .slice A k c, .slice A3 k c3, .agg #[.int .i64 20, .slice (some ⟨bx, 0, none⟩) 3 3], .int .i64 (v)]) (by simp [results, Tryz.results35, go_sem, z0, z1]) rfl
                    ⟨rb, k, c, A, vs, _, _, _, room, _, _, bx, _, _, rfl, G1.out, HL3.out, G2.out, G3.out, hm8, G4.out, by omega, G5.out, HY7.out, G6.out⟩
                · skip
                  have y0 : u1.cell? ⟨w.heap.size, 0, none⟩ = some (.int .i64 0) := HP9.out.cell 0
                  have y1 : u1.cell? ⟨w.heap.size, 1, none⟩ = some (.slice none 0 0) := HP9.out.cell 1
                  have f0 : u1.frozen? ⟨w.heap.size, 0, none⟩ = false := HP9.out.frozen 0
                  have f1 : u1.frozen? ⟨w.heap.size, 1, none⟩ = false := HP9.out.frozen 1
                  have ltW : w.heap.size < u1.heap.size := HP9.out.lt
                  go_simp
                  clear y0 y1 f0 f1
                  have EP := (HX1.out.far (p := ⟨w.heap.size, 0, none⟩) ne1 (.int .i64 20)).far (p := ⟨w.heap.size, 1, none⟩) ne1 (.slice (some ⟨bx, 0, none⟩) 3 3)
                  ((try dsimp only); refine hK.out _ _ (⟨EP.cell 0, EP.cell 1⟩) (fun hSw => ?_); (try clear hSw); clear hK K; (try simp only [Act.put, List.setIfInBounds_toArray, List.set_cons_zero, List.set_cons_succ]))
                  clear EP
                  have C10 := Lib.hid ((C1.out.far (p := ⟨w.heap.size, 0, none⟩) nb1 (.int .i64 20)).far (p := ⟨w.heap.size, 1, none⟩) nb1 (.slice (some ⟨bx, 0, none⟩) 3 3))
                  have hcell : ∃ v : Int, ((u1.setCell ⟨w.heap.size, 0, none⟩ (.int .i64 20)).setCell ⟨w.heap.size, 1, none⟩ (.slice (some ⟨bx, 0, none⟩) 3 3)).cell? ⟨G, r9, none⟩ = some (.int .i64 v) := by
                    rw [C10.out.cell]
                    match r9, hr9 with
                    | 0, _ => exact ⟨-1, rfl⟩
                    | 1, _ => exact ⟨9, rfl⟩
                    | 2, _ => exact ⟨10, rfl⟩
                  obtain ⟨v, hv⟩ := hcell
                  have EX := Lib.hid ((HX1.out.far (p := ⟨w.heap.size, 0, none⟩) ne1 (.int .i64 20)).far (p := ⟨w.heap.size, 1, none⟩) ne1 (.slice (some ⟨bx, 0, none⟩) 3 3))
                  (refine wpMix_bar (by rfl) (fun K hK => ?_); go_simp)
                  clear hv
                  ((try dsimp only); refine hK.out _ _ (⟨EX.out.cell 0, EX.out.cell 1⟩) (fun hSw => ?_); (try clear hSw); clear hK K; (try simp only [Act.put, List.setIfInBounds_toArray, List.set_cons_zero, List.set_cons_succ]))
                  repeat (first | (refine wpMix_skip (by rfl) (by rfl) ?_; (try simp only [Act.put, List.setIfInBounds_toArray, List.set_cons_zero, List.set_cons_succ])) | (refine wpMix_take (v := ?_) (by rfl) (by rfl) (fun wS hSt => ?_) ?_; rotate_left; (focus ((try dsimp only at hSt); (go_simp <;> with_reducible rfl); done)); (try simp only [Act.put, List.setIfInBounds_toArray, List.set_cons_zero, List.set_cons_succ])))
                  refine wpMix_nil ?_
                  obtain ⟨F1, F2, F3, F4, F5, F6⟩ := evEnd (w := w) HS1.out HOwn.out HTk.out HRm.out (((OnlyG.refl w g).below HB0.out).trans HO.out) lt0 (.int .i64 20) (.slice (some ⟨bx, 0, none⟩) 3 3)
                  have EQ := (HP9.out.set_ 0 (.int .i64 20)).set_ 1 (.slice (some ⟨bx, 0, none⟩) 3 3)
                  have z0 : ((u1.setCell ⟨w.heap.size, 0, none⟩ (.int .i64 20)).setCell ⟨w.heap.size, 1, none⟩ (.slice (some ⟨bx, 0, none⟩) 3 3)).cell? ⟨w.heap.size, 0, none⟩ = some (.int .i64 20) := EQ.cell 0
                  have z1 : ((u1.setCell ⟨w.heap.size, 0, none⟩ (.int .i64 20)).setCell ⟨w.heap.size, 1, none⟩ (.slice (some ⟨bx, 0, none⟩) 3 3)).cell? ⟨w.heap.size, 1, none⟩ = some (.slice (some ⟨bx, 0, none⟩) 3 3) := EQ.cell 1
                  have G1 := Lib.hid F1
                  have G2 := Lib.hid F2
                  have G3 := Lib.hid F3
                  have G4 := Lib.hid F4
                  have G5 := Lib.hid F5
                  have G6 := Lib.hid F6
                  clear F1 F2 F3 F4 F5 F6 EQ
                  go_wp2
                  refine bodyPost_ret (v := .tuple #[.slice (some ⟨rb, 0, none⟩) 3 3, .slice A k c, .slice A3 k c3, .agg #[.int .i64 20, .slice (some ⟨bx, 0, none⟩) 3 3], .int .i64 (v)]) (by simp [results, Tryz.results35, go_sem, z0, z1]) rfl
                    ⟨rb, k, c, A, vs, _, _, _, room, _, _, bx, _, _, rfl, G1.out, HL3.out, G2.out, G3.out, hm8, G4.out, by omega, G5.out, HY7.out, G6.out⟩
              · skip
                have HP9 := Lib.hid (HS9.out.o.blk (HO.out.blk P0.out (by omega)) (by omega))
                have y0 : v8.cell? ⟨w.heap.size, 0, none⟩ = some (.int .i64 0) := HP9.out.cell 0
                have y1 : v8.cell? ⟨w.heap.size, 1, none⟩ = some (.slice none 0 0) := HP9.out.cell 1
                have f0 : v8.frozen? ⟨w.heap.size, 0, none⟩ = false := HP9.out.frozen 0
                have f1 : v8.frozen? ⟨w.heap.size, 1, none⟩ = false := HP9.out.frozen 1
                have ltW : w.heap.size < v8.heap.size := HP9.out.lt
                go_simp
                clear y0 y1 f0 f1
                have EP := (HX9.out.far (p := ⟨w.heap.size, 0, none⟩) ne1 (.int .i64 20)).far (p := ⟨w.heap.size, 1, none⟩) ne1 (.slice (some ⟨bx, 0, none⟩) 3 3)
                ((try dsimp only); refine hK.out _ _ (⟨EP.cell 0, EP.cell 1⟩) (fun hSw => ?_); (try clear hSw); clear hK K; (try simp only [Act.put, List.setIfInBounds_toArray, List.set_cons_zero, List.set_cons_succ]))
                clear EP
                have EX := Lib.hid ((HX9.out.far (p := ⟨w.heap.size, 0, none⟩) ne1 (.int .i64 20)).far (p := ⟨w.heap.size, 1, none⟩) ne1 (.slice (some ⟨bx, 0, none⟩) 3 3))
                obtain ⟨F1, F2, F3, F4, F5, F6⟩ := evEnd (w := w) HS9.out HOwn.out HTk.out HRm.out (((OnlyG.refl w g).below HB0.out).trans HO.out) lt0 (.int .i64 20) (.slice (some ⟨bx, 0, none⟩) 3 3)
                have EQ := Lib.hid ((HP9.out.set_ 0 (.int .i64 20)).set_ 1 (.slice (some ⟨bx, 0, none⟩) 3 3))
                have G1 := Lib.hid F1
                have G2 := Lib.hid F2
                have G3 := Lib.hid F3
                have G4 := Lib.hid F4
                have G5 := Lib.hid F5
                have G6 := Lib.hid F6
                clear F1 F2 F3 F4 F5 F6
                generalize (v8.setCell ⟨w.heap.size, 0, none⟩ (.int .i64 20)).setCell ⟨w.heap.size, 1, none⟩ (.slice (some ⟨bx, 0, none⟩) 3 3) = U at EX EQ G1 G2 G3 G4 G5 G6 ⊢
                (refine wpMix_bar (by rfl) (fun K hK => ?_); go_simp)
                have C1 := Lib.hid (Blk.new U 3 #[.int .i64 (-1), .int .i64 9, .int .i64 10])
                have EX1 := Lib.hid (EX.out.alloc (.cells #[.int .i64 (-1), .int .i64 9, .int .i64 10] 3))
                have EQ1 := Lib.hid (EQ.out.alloc (.cells #[.int .i64 (-1), .int .i64 9, .int .i64 10] 3))
                have H1 := Lib.hid (show OwI (U.alloc (.cells #[.int .i64 (-1), .int .i64 9, .int .i64 10] 3)) w.heap.size rb room from ⟨G1.out.1, G1.out.2.alloc _⟩)
                have H2 := Lib.hid (own_keep G2.out (w' := U.alloc (.cells #[.int .i64 (-1), .int .i64 9, .int .i64 10] 3)) (fun b hb => Below.heap_alloc _ _ _ (G2.out.lt b hb).2))
                have H3 := Lib.hid (G3.out.alloc (.cells #[.int .i64 (-1), .int .i64 9, .int .i64 10] 3))
                have H4 := Lib.hid (show OwnI (U.alloc (.cells #[.int .i64 (-1), .int .i64 9, .int .i64 10] 3)) w.heap.size A3 k c3 rk from own_keep G4.out (fun b hb => Below.heap_alloc _ _ _ (World.ownsRow.lt G4.out b hb).2))
                have H5 := Lib.hid (show OwI (U.alloc (.cells #[.int .i64 (-1), .int .i64 9, .int .i64 10] 3)) w.heap.size bx ys7 from ⟨G5.out.1, G5.out.2.alloc _⟩)
                have H6 := Lib.hid (G6.out.alloc (.cells #[.int .i64 (-1), .int .i64 9, .int .i64 10] 3))
                ((try dsimp only); refine hK.out _ _ (⟨EX1.out.cell 0, EX1.out.cell 1⟩) (fun hSw => ?_); (try clear hSw); clear hK K; (try simp only [Act.put, List.setIfInBounds_toArray, List.set_cons_zero, List.set_cons_succ]))
                clear G1 G2 G3 G4 G5 G6 EX EQ
                generalize U.heap.size = G at C1 ⊢
                generalize U.alloc (.cells #[.int .i64 (-1), .int .i64 9, .int .i64 10] 3) = u1 at EX1 EQ1 C1 H1 H2 H3 H4 H5 H6 ⊢
                repeat (first | (refine wpMix_skip (by rfl) (by rfl) ?_; (try simp only [Act.put, List.setIfInBounds_toArray, List.set_cons_zero, List.set_cons_succ])) | (refine wpMix_take (v := ?_) (by rfl) (by rfl) (fun wS hSt => ?_) ?_; rotate_left; (focus ((try dsimp only at hSt); (go_simp <;> with_reducible rfl); done)); (try simp only [Act.put, List.setIfInBounds_toArray, List.set_cons_zero, List.set_cons_succ])))
                have hcell : ∃ v : Int, u1.cell? ⟨G, r9, none⟩ = some (.int .i64 v) := by
                  rw [C1.out.cell]
                  match r9, hr9 with
                  | 0, _ => exact ⟨-1, rfl⟩
                  | 1, _ => exact ⟨9, rfl⟩
                  | 2, _ => exact ⟨10, rfl⟩
                obtain ⟨v, hv⟩ := hcell
                (refine wpMix_bar (by rfl) (fun K hK => ?_); go_simp)
                clear hv
                ((try dsimp only); refine hK.out _ _ (⟨EX1.out.cell 0, EX1.out.cell 1⟩) (fun hSw => ?_); (try clear hSw); clear hK K; (try simp only [Act.put, List.setIfInBounds_toArray, List.set_cons_zero, List.set_cons_succ]))
                repeat (first | (refine wpMix_skip (by rfl) (by rfl) ?_; (try simp only [Act.put, List.setIfInBounds_toArray, List.set_cons_zero, List.set_cons_succ])) | (refine wpMix_take (v := ?_) (by rfl) (by rfl) (fun wS hSt => ?_) ?_; rotate_left; (focus ((try dsimp only at hSt); (go_simp <;> with_reducible rfl); done)); (try simp only [Act.put, List.setIfInBounds_toArray, List.set_cons_zero, List.set_cons_succ])))
                refine wpMix_nil ?_
                have z0 : u1.cell? ⟨w.heap.size, 0, none⟩ = some (.int .i64 20) := EQ1.out.cell 0
                have z1 : u1.cell? ⟨w.heap.size, 1, none⟩ = some (.slice (some ⟨bx, 0, none⟩) 3 3) := EQ1.out.cell 1
                go_wp2
                refine bodyPost_ret (v := .tuple #[.slice (some ⟨rb, 0, none⟩) 3 3, .slice A k c, .slice A3 k c3, .agg #[.int .i64 20, .slice (some ⟨bx, 0, none⟩) 3 3], .int .i64 v]) (by simp [results, Tryz.results35, go_sem, z0, z1]) rfl
                  ⟨rb, k, c, A, vs, _, _, _, room, _, _, bx, _, _, rfl, H1.out, HL3.out, H2.out, H3.out, hm8, H4.out, by omega, H5.out, HY7.out, H6.out⟩
          have e0 : ((r8 : Int) == 0) = false := by simp; omega
          have e1 : ((r8 : Int) == 1) = false := by simp; omega
          have e2 : ((r8 : Int) == 2) = false := by simp; omega
          have K0 : w8.drew.cell? ⟨w4.heap.size, 0, none⟩ = some (.int .i64 20) ∧ w8.drew.cell? ⟨w4.heap.size, 1, none⟩ = some (.slice (some ⟨bx, 0, none⟩) 3 3) := ⟨HX8.out.cell 0, HX8.out.cell 1⟩
          go_wp2_with fail
          refine wp_region_mix (.take 0 (.take 1 (.take 2 (.take 3 (.take 4 (.bar 5 (.take 6 (.take 7 (.take 8 (.take 9 (.bar 10 (.take 11 .nil)))))))))))) (fun w' => w'.cell? ⟨w4.heap.size, 0, none⟩ = some (.int .i64 20) ∧ w'.cell? ⟨w4.heap.size, 1, none⟩ = some (.slice (some ⟨bx, 0, none⟩) 3 3)) (by kernel_rfl) (by kernel_rfl) K0 (fun _ => ?_)
          clear K0
          repeat (first | (refine wpMix_skip (by rfl) (by rfl) ?_; (try simp only [Act.put, List.setIfInBounds_toArray, List.set_cons_zero, List.set_cons_succ])) | (refine wpMix_take (v := ?_) (by rfl) (by rfl) (fun wS hSt => ?_) ?_; rotate_left; (focus ((try dsimp only at hSt); (go_simp <;> with_reducible rfl); done)); (try simp only [Act.put, List.setIfInBounds_toArray, List.set_cons_zero, List.set_cons_succ])))
          (refine wpMix_bar (by rfl) (fun K hK => ?_); go_simp)
          refine (pick_at 5 HS8.out.r.drew rfl (by omega) (by omega) (by omega)).mono ?_; rintro e v9 ⟨r9, rfl, hr9, R9, O9⟩
          have O9' := Lib.hid (show OnlyG w8 v9 g from ((OnlyG.refl w8 g).drew).trans O9)
          have HS9 := Lib.hid (HS8.out.only O9'.out R9)
          have HX9 := Lib.hid (O9'.out.blk HX8.out (by omega))
          have HP9 := Lib.hid (HS9.out.o.blk (HO.out.blk P0.out (by omega)) (by omega))
          have kw : IntKind.i64.wrap (2 + (r9 : Int)) = 2 + (r9 : Int) := wr64 (by omega) (by omega)
          clear R9 O9
          ((try dsimp only); refine hK.out _ _ (⟨HX9.out.cell 0, HX9.out.cell 1⟩) (fun hSw => ?_); (try clear hSw); clear hK K; (try simp only [Act.put, List.setIfInBounds_toArray, List.set_cons_zero, List.set_cons_succ]))
          repeat (first | (refine wpMix_skip (by rfl) (by rfl) ?_; (try simp only [Act.put, List.setIfInBounds_toArray, List.set_cons_zero, List.set_cons_succ])) | (refine wpMix_take (v := ?_) (by rfl) (by rfl) (fun wS hSt => ?_) ?_; rotate_left; (focus ((try dsimp only at hSt); (go_simp <;> with_reducible rfl); done)); (try simp only [Act.put, List.setIfInBounds_toArray, List.set_cons_zero, List.set_cons_succ])))
          have y0 : v9.cell? ⟨w.heap.size, 0, none⟩ = some (.int .i64 0) := HP9.out.cell 0
          have y1 : v9.cell? ⟨w.heap.size, 1, none⟩ = some (.slice none 0 0) := HP9.out.cell 1
          have f0 : v9.frozen? ⟨w.heap.size, 0, none⟩ = false := HP9.out.frozen 0
          have f1 : v9.frozen? ⟨w.heap.size, 1, none⟩ = false := HP9.out.frozen 1
          have ltW : w.heap.size < v9.heap.size := HP9.out.lt
          (refine wpMix_bar (by rfl) (fun K hK => ?_); go_simp)
          clear y0 y1 f0 f1
          have EP := (HX9.out.far (p := ⟨w.heap.size, 0, none⟩) ne1 (.int .i64 20)).far (p := ⟨w.heap.size, 1, none⟩) ne1 (.slice (some ⟨bx, 0, none⟩) 3 3)
          ((try dsimp only); refine hK.out _ _ (⟨EP.cell 0, EP.cell 1⟩) (fun hSw => ?_); (try clear hSw); clear hK K; (try simp only [Act.put, List.setIfInBounds_toArray, List.set_cons_zero, List.set_cons_succ]))
          clear EP
          repeat (first | (refine wpMix_skip (by rfl) (by rfl) ?_; (try simp only [Act.put, List.setIfInBounds_toArray, List.set_cons_zero, List.set_cons_succ])) | (refine wpMix_take (v := ?_) (by rfl) (by rfl) (fun wS hSt => ?_) ?_; rotate_left; (focus ((try dsimp only at hSt); (go_simp <;> with_reducible rfl); done)); (try simp only [Act.put, List.setIfInBounds_toArray, List.set_cons_zero, List.set_cons_succ])))
          refine wpMix_nil ?_
          obtain ⟨F1, F2, F3, F4, F5, F6⟩ := evEnd (w := w) HS9.out HOwn.out HTk.out HRm.out (((OnlyG.refl w g).below HB0.out).trans HO.out) lt0 (.int .i64 20) (.slice (some ⟨bx, 0, none⟩) 3 3)
          have EQ := (HP9.out.set_ 0 (.int .i64 20)).set_ 1 (.slice (some ⟨bx, 0, none⟩) 3 3)
          have z0 : ((v9.setCell ⟨w.heap.size, 0, none⟩ (.int .i64 20)).setCell ⟨w.heap.size, 1, none⟩ (.slice (some ⟨bx, 0, none⟩) 3 3)).cell? ⟨w.heap.size, 0, none⟩ = some (.int .i64 20) := EQ.cell 0
          have z1 : ((v9.setCell ⟨w.heap.size, 0, none⟩ (.int .i64 20)).setCell ⟨w.heap.size, 1, none⟩ (.slice (some ⟨bx, 0, none⟩) 3 3)).cell? ⟨w.heap.size, 1, none⟩ = some (.slice (some ⟨bx, 0, none⟩) 3 3) := EQ.cell 1
          have G1 := Lib.hid F1
          have G2 := Lib.hid F2
          have G3 := Lib.hid F3
          have G4 := Lib.hid F4
          have G5 := Lib.hid F5
          have G6 := Lib.hid F6
          clear F1 F2 F3 F4 F5 F6 EQ
          go_wp2
          refine bodyPost_ret (v := .tuple #[.slice (some ⟨rb, 0, none⟩) 3 3, .slice A k c, .slice A3 k c3, .agg #[.int .i64 20, .slice (some ⟨bx, 0, none⟩) 3 3], .int .i64 (2 + (r9 : Int))]) (by simp [results, Tryz.results35, go_sem, z0, z1]) rfl
            ⟨rb, k, c, A, vs, _, _, _, room, _, _, bx, _, _, rfl, G1.out, HL3.out, G2.out, G3.out, hm8, G4.out, by omega, G5.out, HY7.out, G6.out⟩
end Go.Proofs.YtkcflajhmekcaaaGreat
