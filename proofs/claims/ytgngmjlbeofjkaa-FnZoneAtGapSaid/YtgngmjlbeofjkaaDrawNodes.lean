/- Walk: the draw of a room and of nodes. -/
import Derived.Test.YtgngmjlbeofjkaaDrawBins
import Derived.StillTailTactics
import Derived.Deep.RegionLaw
namespace Go.Proofs.Ytgngmjlbeofjkaa
open Go.RowKit

/-- What l91Bins leaves: a room and nodes. -/
structure Drawn (w0 w : World) (rb n M c : Nat) (A : Option Addr) (xs : List Int) (vs : List Value) : Prop where
  room : OwI w w0.heap.size rb xs
  len : xs.length = 3
  out : w.ownsRow w0.heap.size 53 1 (.slice A n c) n vs
  bins : BinsN w w0.heap.size w0.heap.size n M vs
theorem Drawn.only {w0 w w' : World} {rb n M c g : Nat} {A : Option Addr} {xs : List Int} {vs : List Value} (h : Drawn w0 w rb n M c A xs vs) (o : OnlyG w w' g) (hg : g < w0.heap.size) : Drawn w0 w' rb n M c A xs vs :=
  ⟨⟨h.room.1, o.blk h.room.2 (by have := h.room.1; omega)⟩, h.len, own_keep h.out (fun b hb => o.block b (h.out.lt b hb).2 (by have := (h.out.lt b hb).1; omega)), h.bins.only o hg hg⟩

theorem own_ne_blk53 {w : World} {base n b : Nat} {v : Value} {xs : List Value} {t : TypeId} {cs : Array Value} (ht : t ≠ 53) (h : w.ownsRow base 53 1 v n xs) (hb : Blk w b t cs) : some b ≠ v.ownBlock := by
  rcases h.2 with ⟨rfl, _⟩ | ⟨g, cap, cur, rfl, _, hg, _⟩
  · simp [Value.ownBlock]
  · intro e
    simp [Value.ownBlock] at e
    subst e
    exact blk_ne (t := t) (u := 53) hb hg ht rfl
theorem own_blk {w : World} {base n b size : Nat} {v : Value} {xs : List Value} {t : TypeId} (h : w.ownsRow base t size v n xs) (hb : v.ownBlock = some b) : ∃ cs, Blk w b t cs := by
  rcases h.2 with ⟨rfl, _⟩ | ⟨g, cap, cur, rfl, _, hg, _⟩
  · simp [Value.ownBlock] at hb
  · simp [Value.ownBlock] at hb
    subst hb
    exact ⟨cur, hg⟩

/-- In the midst of l91Bins. -/
structure BinsS (w0 w : World) (g rb n M c lo2 m ct : Nat) (A At : Option Addr) (xs : List Int) (vs tvs : List Value) : Prop where
  room : OwI w w0.heap.size rb xs
  out : w.ownsRow w0.heap.size 53 1 (.slice A n c) n vs
  bins : BinsN w w0.heap.size lo2 n M vs
  task : w.ownsRow w0.heap.size 46 2 (.slice At m ct) m tvs
  low : ∀ b, Value.ownBlock (.slice At m ct) = some b → b < lo2
  needs : TkN w w0.heap.size m tvs
  only : OnlyG w0 w g
  lo : w0.heap.size ≤ lo2 ∧ lo2 ≤ w.heap.size ∧ g < w0.heap.size
section
variable {w0 w w' : World} {g rb n M c lo2 m ct : Nat} {A At : Option Addr} {xs : List Int} {vs tvs : List Value}
theorem BinsS.turn (h : BinsS w0 w g rb n M c lo2 m ct A At xs vs tvs) (o : OnlyG w w' g) : BinsS w0 w' g rb n M c lo2 m ct A At xs vs tvs := by
  have hl := h.lo
  exact ⟨⟨h.room.1, o.blk h.room.2 (by have := h.room.1; omega)⟩, own_keep h.out (fun b hb => o.block b (h.out.lt b hb).2 (by have := (h.out.lt b hb).1; omega)), h.bins.only o hl.2.2 (by omega),
    own_keep h.task (fun b hb => o.block b (h.task.lt b hb).2 (by have := (h.task.lt b hb).1; omega)), h.low, h.needs.only o hl.2.2, h.only.trans o, hl.1, by have := o.size; omega, hl.2.2⟩
theorem OnlyG.of_below {w w' : World} {g : Nat} (h : Below w.heap.size w w') : OnlyG w w' g := (OnlyG.refl w g).below h
/-- The row of nodes has one more. -/
theorem BinsS.push (h : BinsS w0 w g rb n M c lo2 m ct A At xs vs tvs) {v' : Value} (hg : ((w.alloc (.cells #[] 46)).alloc (.cells #[.slice (some ⟨w.heap.size, 0, none⟩) 0 0] 53)).grownBy w' (Value.ownBlock (.slice A n c)))
    (ho : w'.ownsRow w0.heap.size 53 1 v' (n + 1) (vs ++ [.slice (some ⟨w.heap.size, 0, none⟩) 0 0])) : ∃ A1 c1, v' = .slice A1 (n + 1) c1 ∧ BinsS w0 w' g rb (n + 1) M c1 lo2 m ct A1 At xs (vs ++ [.slice (some ⟨w.heap.size, 0, none⟩) 0 0]) tvs := by
  have hl := h.lo
  have h2 : BinsS w0 ((w.alloc (.cells #[] 46)).alloc (.cells #[.slice (some ⟨w.heap.size, 0, none⟩) 0 0] 53)) g rb n M c lo2 m ct A At xs vs tvs := h.turn (((OnlyG.refl w g).alloc _).alloc _)
  have hb := (h.bins.push hl.2.1).alloc (.cells #[.slice (some ⟨w.heap.size, 0, none⟩) 0 0] 53)
  have kp : ∀ b t cs, t ≠ 53 → Blk ((w.alloc (.cells #[] 46)).alloc (.cells #[.slice (some ⟨w.heap.size, 0, none⟩) 0 0] 53)) b t cs → Blk w' b t cs := fun b t cs ht hbk => hbk.grown hg (own_ne_blk53 ht h2.out hbk)
  have kb : ∀ base v k ys b, ((w.alloc (.cells #[] 46)).alloc (.cells #[.slice (some ⟨w.heap.size, 0, none⟩) 0 0] 53)).ownsRow base 46 2 v k ys → v.ownBlock = some b → w'.heap[b]? = ((w.alloc (.cells #[] 46)).alloc (.cells #[.slice (some ⟨w.heap.size, 0, none⟩) 0 0] 53)).heap[b]? := by
    intro base v k ys b hw hv
    obtain ⟨cs, hc⟩ := own_blk hw hv
    exact (kp b _ cs (by decide) hc).trans (Eq.symm hc)
  obtain ⟨A1, c1, rfl⟩ := own_shape ho
  exact ⟨A1, c1, rfl, ⟨h2.room.1, kp _ _ _ (by decide) h2.room.2⟩, ho, hb.keep (fun v k ys b hw hv => kb _ v k ys b hw hv) (fun b cs _ hc => kp b _ cs (by decide) hc),
    own_keep h2.task (fun b hv => kb _ _ _ _ b h2.task hv), h.low, h2.needs.keep (fun b cs _ hc => kp b _ cs (by decide) hc), h2.only.grown hg (fun r e => (h2.out.lt r e).1), hl.1, by have := h2.lo.2.1; have := hg.size; omega, hl.2.2⟩
/-- A node has one more task. -/
theorem BinsS.grow (h : BinsS w0 w g rb n M c lo2 m ct A At xs vs tvs) {r m1 c1 ob : Nat} {A1 : Option Addr} {ws : List Value} (hA : A = some ⟨ob, 0, none⟩) (hr : vs[r]? = some (.slice A1 m1 c1)) (hown : w.ownsRow lo2 46 2 (.slice A1 m1 c1) m1 ws) (hm : m1 ≤ M) (hws : TkN w w0.heap.size m1 ws)
    (hg : w.grownBy w' (Value.ownBlock (.slice A1 m1 c1))) {v' : Value} {news : List Value} (hn : TkN w w0.heap.size 1 news) (ho : w'.ownsRow lo2 46 2 v' (m1 + 1) (ws ++ news)) (hrow : v'.ownBlock = Value.ownBlock (.slice A1 m1 c1) ∨ v'.ownBlock = some w.heap.size) :
    BinsS w0 (w'.setCell ⟨ob, r, none⟩ v') g rb n (M + 1) c lo2 m ct A At xs (vs.set r v') tvs := by
  have hl := h.lo
  subst hA
  obtain ⟨A2, c2, rfl⟩ := own_shape ho
  have hb := h.bins.grow hr hown hm hg ho ((hws.append hn).grown hown hg) hrow
  have kp : ∀ b t cs, t ≠ 46 → Blk w b t cs → Blk w' b t cs := fun b t cs ht hbk => hbk.grown hg (fun e => own_ne_blk ht hown hbk e.symm)
  have hout : w'.ownsRow w0.heap.size 53 1 (.slice (some ⟨ob, 0, none⟩) n c) n vs := own_keep h.out (fun b hv => by
    obtain ⟨cs, hc⟩ := own_blk h.out hv
    exact (kp b _ cs (by decide) hc).trans (Eq.symm hc))
  obtain ⟨cs, hcs⟩ := own_blk hout (b := ob) rfl
  have hol := h.out.lt ob rfl
  refine ⟨⟨h.room.1, (kp _ _ _ (by decide) h.room.2).far (blk_ne (kp _ _ _ (by decide) h.room.2) hcs (by decide)) _⟩, own_set hout r _, hb.set_out hcs _ _, ?_, h.low, ?_, (h.only.grown hg (fun k e => by have := (hown.lt k e).1; omega)).set_new hol.1 _, hl.1, ?_, hl.2.2⟩
  · refine own_keep h.task (fun b hv => ?_)
    obtain ⟨ds, hd⟩ := own_blk h.task hv
    have h1 : w'.heap[b]? = w.heap[b]? := hg.block b hd.lt (fun e => by have := (hown.lt b e.symm).1; have := h.low b hv; omega)
    rw [← h1]
    exact Below.heap_setCell _ _ _ _ (blk_ne (h1.trans hd) hcs (by decide))
  · exact (h.needs.grown hown hg).keep (fun b ds _ hd => hd.far (blk_ne hd hcs (by decide)) _)
  · have := hg.size; simp [World.setCell]; omega
end

theorem src_one {w : World} {b : Nat} {t : TypeId} {v : Value} (h : Blk w b t #[v]) : Src w 1 (some ⟨b, 0, none⟩) 1 [v] :=
  ⟨rfl, fun _ => ⟨_, rfl, fun j u hj => by
    rw [addr_add, Nat.zero_add, h.cell]
    match j with
    | 0 => simpa using hj
    | j + 1 => simp at hj⟩⟩

set_option maxRecDepth 100000 in
set_option maxHeartbeats 3200000 in
theorem l91Bins_any (g p : Nat) (w : World) (h : Rdr w g p) (hp : p ≤ 700000) :
    Calls Try.prog 46 #[.pointer (some ⟨g, 0, none⟩)] w fun e w' => ∃ rb n c A xs vs, e = .returned (.tuple #[.slice (some ⟨rb, 0, none⟩) 3 3, .slice A n c]) ∧ Drawn w w' rb n 22 c A xs vs ∧ n ≤ 5 ∧ OnlyG w w' g ∧ ∃ q, q ≤ p + 1000 ∧ Rdr w' g q := by
  obtain ⟨i0, hi0, hz0, hz1, hz2⟩ := info_parts task_info
  obtain ⟨i1, hj0, hy0, hy1, hy2⟩ := info_parts slice_info
  have hg0 := h.lt
  go_enter Try.func46, Try.ntmps46
  go_wp2_with fail
  refine (l91Room_any g p w h (by omega)).mono ?_; rintro e w1 ⟨rb, xs, rfl, hR, hl, hbd, O1, q1, hq1, R1⟩
  have Hbd := Lib.hid hbd
  have OA : OnlyG w (w1.alloc (.cells #[] 53)) g := O1.alloc _
  have RA := R1.below (alloc_up w1 (.cells #[] 53))
  have hRA : OwI (w1.alloc (.cells #[] 53)) w.heap.size rb xs := ⟨hR.1, hR.2.alloc _⟩
  have outA : (w1.alloc (.cells #[] 53)).ownsRow w.heap.size 53 1 (.slice (some ⟨w1.heap.size, 0, none⟩) 0 0) 0 [] := World.ownsRow_made w1 #[] 0 O1.size (by unfold maxLen; omega) rfl
  clear hbd O1 R1 hR
  go_wp2_with fail
  generalize w1.alloc (.cells #[] 53) = wa at OA RA hRA outA ⊢
  generalize w1.heap.size = ob at outA ⊢
  have sa := OA.size
  by_cases hro : roomOk xs = true
  · have ecall := l2Room_any (some ⟨rb, 0, none⟩) 3 3 _ xs wa (hRA.rd' hl (by omega))
    rw [hro] at ecall
    refine ecall.mono ?_; rintro e w' ⟨rfl, rfl⟩
    clear ecall
    have HRA := Lib.hid hRA
    have HoutA := Lib.hid outA
    have HOA := Lib.hid OA
    clear hRA outA OA
    go_wp2_with fail
    refine (pick_at 11 RA rfl (by omega) (by omega) (by omega)).mono ?_; rintro e w2 ⟨r2, rfl, hr2, R2, O2⟩
    go_wp2_with fail
    refine (l91Tasks_any g (q1 + 1) r2 w2 R2 (by omega) (by omega)).mono ?_; rintro e w3 ⟨At, m, ct, tvs, rfl, hm, hownT, htk, O3, q3, hq3, R3⟩
    go_wp2_with fail
    refine (pick_at 5 R3 rfl (by omega) (by omega) (by omega)).mono ?_; rintro e w4 ⟨r4, rfl, hr4, R4, O4⟩
    have hm11 : m ≤ 11 := by omega
    have s2 : wa.heap.size ≤ w2.heap.size := O2.size
    have s3 : w2.heap.size ≤ w3.heap.size := O3.size
    have s4 : w3.heap.size ≤ w4.heap.size := O4.size
    have O24 : OnlyG wa w4 g := (O2.trans O3).trans O4
    have own4 := own_keep (own_mono hownT (Nat.le_trans sa s2)) (w' := w4) (fun b hb => O4.block b (hownT.lt b hb).2 (by have := (hownT.lt b hb).1; omega))
    have tk4 : TkN w4 w.heap.size m tvs := ⟨htk.1, fun j hj => by
      obtain ⟨id, b, ys, e1, e2, e3, e4⟩ := htk.2 j hj
      exact ⟨id, b, ys, e1, e2, ⟨by have := e3.1; omega, O4.blk e3.2 (by have := e3.1; omega)⟩, e4⟩⟩
    have S : BinsS w w4 g rb 0 0 0 w4.heap.size m ct (some ⟨ob, 0, none⟩) At xs [] tvs :=
      ⟨⟨HRA.out.1, O24.blk HRA.out.2 (by have := HRA.out.1; omega)⟩, own_keep HoutA.out (fun b hb => O24.block b (HoutA.out.lt b hb).2 (by have := (HoutA.out.lt b hb).1; omega)), BinsN.nil, own4, fun b hb => (own4.lt b hb).2, tk4, HOA.out.trans O24, by omega, Nat.le_refl _, hg0⟩
    generalize w4.heap.size = lo2 at S
    have HS := Lib.hid S
    have HR4 := Lib.hid R4
    clear S R4 R3 R2 O2 O3 O4 O24 own4 tk4 htk hownT RA HRA HoutA HOA h s2 s3 s4
    go_wp2_with fail
    go_loopw [5, 8] (fun v i wr => ∃ (k c : Nat) (A : Option Addr) (vs : List Value), i = .int .i64 k ∧ k ≤ r4 + 1 ∧ v = .slice A k c ∧ BinsS w wr g rb k 0 c lo2 m ct A At xs vs tvs ∧ Rdr wr g (q3 + 1)) (fun _ i _ => r4 + 1 - (intOf i).toNat)
    case atStart => exact ⟨0, 0, _, [], rfl, by omega, rfl, HS.out, HR4.out⟩
    case round =>
      obtain ⟨k, c, A, vs, rfl, hk, rfl, hS, hr⟩ := hrel
      have sw : w.heap.size ≤ wr.heap.size := hS.only.size
      by_cases hlt : k < r4 + 1
      · have hblk := Blk.new (wr.alloc (.cells #[] 46)) 53 #[.slice (some ⟨wr.heap.size, 0, none⟩) 0 0]
        rw [World.size_alloc] at hblk
        have Hblk := Lib.hid hblk
        have HSr := Lib.hid hS
        have Hr := Lib.hid hr
        clear hblk hS hr
        go_wp2_with (at_builtin; go_loud (refine wpList_append_src _ rfl _ _ 27 rfl w.heap.size 53 i1 _ 1 24 Try.underlying27 hj0 hy0 hy1 hy2 rfl (by omega) (.slice A k c) k vs rfl (HSr.out.turn (((OnlyG.refl wr g).alloc _).alloc _)).out (some ⟨wr.heap.size + 1, 0, none⟩) 1 1 [.slice (some ⟨wr.heap.size, 0, none⟩) 0 0] rfl (src_one Hblk.out) (by simp [Value.oneCell']) (by unfold maxLen; omega) (by omega) (by simp; omega) ?_; intro v5 w5 hown5 hgrow hrow))
        obtain ⟨A1, c1, rfl, hS1⟩ := HSr.out.push hgrow hown5
        have HS1 := Lib.hid hS1
        have HR1 := Lib.hid (show Rdr w5 g (q3 + 1) from ((Hr.out.below (alloc_up _ _)).below (alloc_up _ _)).keep (fun b hb => hgrow.block b (by have := Hr.out.lt; simp; omega) (fun e => by have := (HSr.out.out.lt b e.symm).1; omega)))
        clear hS1 hown5 hrow hgrow
        go_roundw
        case rel => exact ⟨k + 1, c1, A1, _, by go_num, by omega, rfl, HS1.out, HR1.out⟩
        case measure => simp [intOf]; omega
      · obtain ⟨N1, hN1⟩ : ∃ N1 : Nat, N1 = k := ⟨k, rfl⟩
        subst hN1
        have HSr := Lib.hid hS
        have Hr := Lib.hid hr
        clear hS hr
        obtain ⟨ob2, cur2, rfl, hob2, hblk2⟩ := own_row HSr.out.out (by omega)
        clear hblk2
        go_wp2_with fail
        go_loopw [9] (fun i wx => ∃ (k q : Nat) (vs : List Value), i = .int .i64 k ∧ k ≤ m ∧ BinsS w wx g rb N1 k c lo2 m ct (some ⟨ob2, 0, none⟩) At xs vs tvs ∧ Rdr wx g q ∧ q ≤ q3 + 1 + 2 * k) (fun i _ => m - (intOf i).toNat)
        case atStart => exact ⟨0, q3 + 1, vs, rfl, Nat.zero_le _, HSr.out, Hr.out, by omega⟩
        case round =>
          obtain ⟨k, q, vs', rfl, hkm, hSk, hrk, hqk⟩ := hrel
          by_cases hlt : k < m
          · obtain ⟨tb, curt, rfl, htb, hblkt⟩ := own_row hSk.task (by omega)
            go_wp2_with fail
            refine (pick_at (r4 + 1) hrk (by omega) (by omega) (by omega) (by omega)).mono ?_; rintro e w5 ⟨r5, rfl, hr5, R5, O5⟩
            have S5 := hSk.turn O5
            have hrN : r5 < N1 := by omega
            obtain ⟨A2, m2, c2, ws, e1, e2, e3, e4⟩ := S5.bins.2.1 r5 hrN
            obtain ⟨id, b, ys, t1, t2, t3, t4, t5⟩ := S5.needs.2 k hlt
            obtain ⟨ts, l1, l2, l3⟩ := e4.read
            have x0 : w5.cell? ⟨tb, k * 2, none⟩ = some (.int .i64 id) := by have := S5.task.cells (g := tb) rfl _ _ t1; rwa [addr_add, Nat.zero_add] at this
            have x1 : w5.cell? ⟨tb, k * 2 + 1, none⟩ = some (.slice (some ⟨b, 0, none⟩) 3 3) := by have := S5.task.cells (g := tb) rfl _ _ t2; rwa [addr_add, Nat.zero_add] at this
            have x2 : w5.cell? ⟨ob2, r5, none⟩ = some (.slice A2 m2 c2) := by have := S5.out.cells (g := ob2) rfl _ _ e1; rwa [addr_add, Nat.zero_add] at this
            have lt1 := (S5.task.lt tb rfl).2
            have lt2 := (S5.out.lt ob2 rfl).2
            have hx : ∀ w', Below w5.heap.size w5 w' → w'.cell? ⟨tb, k * 2, none⟩ = some (.int .i64 id) ∧ w'.cell? ⟨tb, k * 2 + 1, none⟩ = some (.slice (some ⟨b, 0, none⟩) 3 3) ∧ w'.cell? ⟨ob2, r5, none⟩ = some (.slice A2 m2 c2) := fun w' hb =>
              ⟨(hb.cell (p := ⟨tb, k * 2, none⟩) lt1).trans x0, (hb.cell (p := ⟨tb, k * 2 + 1, none⟩) lt1).trans x1, (hb.cell (p := ⟨ob2, r5, none⟩) lt2).trans x2⟩
            have ecall := fun (w' : World) (hb : Below w5.heap.size w5 w') => l11Fits_any (some ⟨rb, 0, none⟩) A2 (some ⟨b, 0, none⟩) 3 3 m2 c2 3 xs ts id ys w' ((S5.room.rd' hl (by omega)).up hb) ((RdT.of_own e3 l2 (Nat.le_refl _) (by omega)).up hb) ((t3.rd' t4 (by omega)).up hb) (by omega) (by omega)
              (fun j hj => tk_at (p := fun t => t.2.length = 3) (fun t ht => (l3 t ht).1) (by omega))
              (fun j i => tk_default (p := fun t => 0 ≤ t.2[i]?.getD 0 ∧ t.2[i]?.getD 0 ≤ 1000) (fun t ht => by have := (l3 t ht).2 i; omega) (by simp) j)
              (fun j _ => by have := t5 j; omega)
            have Hx := Lib.hid hx
            have k1 : (0 : Int) ≤ (k : Int) := by omega
            have k2 : (k : Int) < (m : Int) := by omega
            have k3 : (0 : Int) ≤ (r5 : Int) := by omega
            have k4 : (r5 : Int) < (N1 : Int) := by omega
            have k6 : 0 ≤ (k : Int) * 2 := by omega
            have HS5 := Lib.hid S5
            have HR5 := Lib.hid R5
            have E1 := Lib.hid e1
            have E3 := Lib.hid e3
            have E4 := Lib.hid e4
            have T3 := Lib.hid t3
            have T5 := Lib.hid t5
            clear S5 R5 O5 hSk hrk hblkt e1 e3 e4 t1 t2 t3 t5 l1 l2 l3 hx
            by_cases hf : fits3 (add3 (loadP ts) ys) xs = true
            · rw [hf] at ecall
              have Hcall := Lib.hid ecall
              clear ecall
              go_wp2_with fail
              go_still_tail 17, (by kernel_rfl)
              change wpList _ _ _ _ _ w5.drew
              go_wp2_with (go_at_call 52; refine (Hcall.out w5.drew (Below.refl _ _).drew).mono ?_; rintro e w6 ⟨rfl, hb6⟩; have HB6 := Lib.hid (show Below w5.heap.size w5 w6 from (Below.refl _ _).drew.trans hb6); have K6 := Hx.out w6 HB6.out; clear hb6 x0 x1 x2; obtain ⟨y0, y1, y2⟩ := K6)
              have O6 : OnlyG w5 w6 g := OnlyG.of_below HB6.out
              have R6 := HR5.out.below HB6.out
              have S6 := HS5.out.turn O6
              have l5 := HS5.out.lo
              have own6 := own_keep E3.out (w' := w6) (fun b hb => O6.block b (E3.out.lt b hb).2 (by have := (E3.out.lt b hb).1; omega))
              have tk6 := E4.out.only O6 hg0
              have one6 := TkN.one (id := id) (⟨T3.out.1, O6.blk T3.out.2 (by have := T3.out.1; omega)⟩ : OwI w6 w.heap.size b ys) t4 T5.out
              obtain ⟨cs6, hb6⟩ := own_blk S6.out (b := ob2) rfl
              have z2 : w6.frozen? ⟨ob2, r5, none⟩ = false := hb6.frozen _
              have lo6 := S6.lo
              have x9 : (w6.alloc (.cells #[.int .i64 id, .slice (some ⟨b, 0, none⟩) 3 3] 46)).cell? ⟨ob2, r5, none⟩ = some (.slice A2 m2 c2) := (World.cell?_of_block (Below.heap_alloc _ _ _ hb6.lt)).trans y2
              have HS6 := Lib.hid S6
              have Own6 := Lib.hid own6
              have Tk6 := Lib.hid tk6
              have One6 := Lib.hid one6
              have HR6 := Lib.hid R6
              have Hb6 := Lib.hid hb6
              clear S6 own6 tk6 one6 R6 hb6 O6
              go_region_law (refine step_append_src _ (by rfl) _ _ 53 (by rfl) lo2 46 i0 _ 2 32 Try.underlying53 hi0 hz0 hz1 hz2 rfl (by omega) (.slice A2 m2 c2) m2 ws (by rfl) (own_keep (w := w6) Own6.out (fun b hb => Below.heap_alloc _ _ _ (Own6.out.lt b hb).2)) (some ⟨w6.heap.size, 0, none⟩) 1 1 [.int .i64 id, .slice (some ⟨b, 0, none⟩) 3 3] (by rfl) (own_src (own_keep (own_built (w := w6) (base := 0) 46 (.int .i64 id) (.slice (some ⟨b, 0, none⟩) 3 3) (by omega)) (fun _ _ => rfl))) One6.out.cellsOne (by unfold maxLen; omega) (by omega) (by simp; omega) ?_; intro v7 w7 hown7 hgrow hrow; obtain ⟨A7, c7, rfl⟩ := own_shape hown7; have hob7 : w7.heap[ob2]? = w6.heap[ob2]? := ((hgrow.block ob2 (by have := Hb6.out.lt; simp; omega) (fun e => own_ne_blk (by decide) Own6.out Hb6.out e.symm)).trans (Below.heap_alloc _ _ _ Hb6.out.lt)); have y7 : w7.cell? ⟨ob2, r5, none⟩ = some (.slice A2 m2 c2) := ((World.cell?_of_block hob7).trans y2); have z7 : w7.frozen? ⟨ob2, r5, none⟩ = false := (Blk.frozen (hob7.trans Hb6.out) _); have Hown7 := Lib.hid hown7; have Hgrow := Lib.hid hgrow; have Hrow := Lib.hid hrow; clear hown7 hgrow hrow hob7)
              all_goals
                have hS7 := (HS6.out.turn (((OnlyG.refl w6 g).alloc (.cells #[.int .i64 id, .slice (some ⟨b, 0, none⟩) 3 3] 46)).drew)).grow rfl E1.out (own_keep (w := w6) Own6.out (fun b hb => Below.heap_alloc _ _ _ (Own6.out.lt b hb).2)) e2 (Tk6.out.keep (fun _ _ _ hc => hc.alloc _)) Hgrow.out (One6.out.keep (fun _ _ _ hc => hc.alloc _)) Hown7.out Hrow.out
                have HS7 := Lib.hid hS7
                have HR7 := Lib.hid (show Rdr (w7.setCell ⟨ob2, r5, none⟩ (.slice A7 (m2 + 1) c7)) g (q + 1) from HR6.out.keep (fun j hj => (Below.heap_setCell _ _ _ _ (by simp; omega)).trans ((Hgrow.out.block j (by have := HR6.out.lt; simp; omega) (fun e => by have := (Own6.out.lt j e.symm).1; omega)).trans (Below.heap_alloc _ _ _ (by have := HR6.out.lt; omega)))))
                clear hS7 y7 z7
                go_wp2
                go_roundw
                case rel => exact ⟨k + 1, q + 1, _, by go_num, by omega, HS7.out, HR7.out, by omega⟩
                case measure => simp [intOf]; omega
            · have hf' : fits3 (add3 (loadP ts) ys) xs = false := by simpa using hf
              rw [hf'] at ecall
              have Hcall := Lib.hid ecall
              clear ecall
              go_wp2_with fail
              go_still_tail 17, (by kernel_rfl)
              change wpList _ _ _ _ _ w5.drew
              go_wp2_with (go_at_call 52; refine (Hcall.out w5.drew (Below.refl _ _).drew).mono ?_; rintro e w6 ⟨rfl, hb6⟩; have HB6 := Lib.hid (show Below w5.heap.size w5 w6 from (Below.refl _ _).drew.trans hb6); have K6 := Hx.out w6 HB6.out; clear hb6 x0 x1 x2; obtain ⟨y0, y1, y2⟩ := K6)
              refine (pick_at 60 (HR5.out.below HB6.out) rfl (by omega) (by omega) (by omega)).mono ?_; rintro e w8 ⟨r8, rfl, hr8, R6, O8⟩
              have O6 : OnlyG w5 w8 g := (OnlyG.of_below HB6.out).trans O8
              have l9 := HS5.out.lo
              have ltb := (HS5.out.task.lt tb rfl)
              have lob := (HS5.out.out.lt ob2 rfl)
              have sz6 := HB6.out.size
              replace y0 := (O8.cell (p := ⟨tb, k * 2, none⟩) (by simp; omega) (by simp; omega)).trans y0
              replace y1 := (O8.cell (p := ⟨tb, k * 2 + 1, none⟩) (by simp; omega) (by simp; omega)).trans y1
              replace y2 := (O8.cell (p := ⟨ob2, r5, none⟩) (by simp; omega) (by simp; omega)).trans y2
              clear O8
              by_cases h80 : r8 = 0
              · subst h80
                go_wp2_with fail
                have S6 := HS5.out.turn O6
                have l5 := HS5.out.lo
                have own6 := own_keep E3.out (w' := w8) (fun b hb => O6.block b (E3.out.lt b hb).2 (by have := (E3.out.lt b hb).1; omega))
                have tk6 := E4.out.only O6 hg0
                have one6 := TkN.one (id := id) (⟨T3.out.1, O6.blk T3.out.2 (by have := T3.out.1; omega)⟩ : OwI w8 w.heap.size b ys) t4 T5.out
                obtain ⟨cs6, hb6⟩ := own_blk S6.out (b := ob2) rfl
                have z2 : w8.frozen? ⟨ob2, r5, none⟩ = false := hb6.frozen _
                have lo6 := S6.lo
                have x9 : (w8.alloc (.cells #[.int .i64 id, .slice (some ⟨b, 0, none⟩) 3 3] 46)).cell? ⟨ob2, r5, none⟩ = some (.slice A2 m2 c2) := (World.cell?_of_block (Below.heap_alloc _ _ _ hb6.lt)).trans y2
                have HS6 := Lib.hid S6
                have Own6 := Lib.hid own6
                have Tk6 := Lib.hid tk6
                have One6 := Lib.hid one6
                have HR6 := Lib.hid R6
                have Hb6 := Lib.hid hb6
                clear S6 own6 tk6 one6 R6 hb6 O6
                go_region_law (refine step_append_src _ (by rfl) _ _ 53 (by rfl) lo2 46 i0 _ 2 32 Try.underlying53 hi0 hz0 hz1 hz2 rfl (by omega) (.slice A2 m2 c2) m2 ws (by rfl) (own_keep (w := w8) Own6.out (fun b hb => Below.heap_alloc _ _ _ (Own6.out.lt b hb).2)) (some ⟨w8.heap.size, 0, none⟩) 1 1 [.int .i64 id, .slice (some ⟨b, 0, none⟩) 3 3] (by rfl) (own_src (own_keep (own_built (w := w8) (base := 0) 46 (.int .i64 id) (.slice (some ⟨b, 0, none⟩) 3 3) (by omega)) (fun _ _ => rfl))) One6.out.cellsOne (by unfold maxLen; omega) (by omega) (by simp; omega) ?_; intro v7 w7 hown7 hgrow hrow; obtain ⟨A7, c7, rfl⟩ := own_shape hown7; have hob7 : w7.heap[ob2]? = w8.heap[ob2]? := ((hgrow.block ob2 (by have := Hb6.out.lt; simp; omega) (fun e => own_ne_blk (by decide) Own6.out Hb6.out e.symm)).trans (Below.heap_alloc _ _ _ Hb6.out.lt)); have y7 : w7.cell? ⟨ob2, r5, none⟩ = some (.slice A2 m2 c2) := ((World.cell?_of_block hob7).trans y2); have z7 : w7.frozen? ⟨ob2, r5, none⟩ = false := (Blk.frozen (hob7.trans Hb6.out) _); have Hown7 := Lib.hid hown7; have Hgrow := Lib.hid hgrow; have Hrow := Lib.hid hrow; clear hown7 hgrow hrow hob7)
                all_goals
                  have hS7 := (HS6.out.turn (((OnlyG.refl w8 g).alloc (.cells #[.int .i64 id, .slice (some ⟨b, 0, none⟩) 3 3] 46)).drew)).grow rfl E1.out (own_keep (w := w8) Own6.out (fun b hb => Below.heap_alloc _ _ _ (Own6.out.lt b hb).2)) e2 (Tk6.out.keep (fun _ _ _ hc => hc.alloc _)) Hgrow.out (One6.out.keep (fun _ _ _ hc => hc.alloc _)) Hown7.out Hrow.out
                  have HS7 := Lib.hid hS7
                  have HR7 := Lib.hid (show Rdr (w7.setCell ⟨ob2, r5, none⟩ (.slice A7 (m2 + 1) c7)) g (q + 1 + 1) from HR6.out.keep (fun j hj => (Below.heap_setCell _ _ _ _ (by simp; omega)).trans ((Hgrow.out.block j (by have := HR6.out.lt; simp; omega) (fun e => by have := (Own6.out.lt j e.symm).1; omega)).trans (Below.heap_alloc _ _ _ (by have := HR6.out.lt; omega)))))
                  clear hS7 y7 z7
                  go_wp2
                  go_roundw
                  case rel => exact ⟨k + 1, q + 1 + 1, _, by go_num, by omega, HS7.out, HR7.out, by omega⟩
                  case measure => simp [intOf]; omega
              · have e80 : ((r8 : Int) == 0) = false := by simp; omega
                have S8 := Lib.hid (HS5.out.turn O6)
                have HR8 := Lib.hid R6
                clear O6 R6
                go_wp2
                go_roundw
                case rel => exact ⟨k + 1, q + 1 + 1, _, by go_num, by omega, ⟨S8.out.room, S8.out.out, S8.out.bins.more (by omega), S8.out.task, S8.out.low, S8.out.needs, S8.out.only, S8.out.lo⟩, HR8.out, by omega⟩
                case measure => simp [intOf]; omega
          · have HSk := Lib.hid hSk
            have HRk := Lib.hid hrk
            clear hSk hrk
            go_wp2
            go_ret2
            exact ⟨rb, N1, c, _, xs, _, rfl, ⟨HSk.out.room, hl, HSk.out.out, (HSk.out.bins.lower HSk.out.lo.1).more (by omega)⟩, by omega, HSk.out.only, _, by omega, HRk.out⟩
  · have hro' : roomOk xs = false := by simpa using hro
    have ecall := l2Room_any (some ⟨rb, 0, none⟩) 3 3 _ xs wa (hRA.rd' hl (by omega))
    rw [hro'] at ecall
    refine ecall.mono ?_; rintro e w' ⟨rfl, rfl⟩
    clear ecall
    have HRA := Lib.hid hRA
    have HoutA := Lib.hid outA
    have HOA := Lib.hid OA
    clear hRA outA OA
    go_wp2
    go_ret2
    exact ⟨rb, 0, 0, some ⟨ob, 0, none⟩, xs, [], rfl, ⟨HRA.out, hl, HoutA.out, BinsN.nil⟩, by omega, HOA.out, q1, by omega, RA⟩
end Go.Proofs.Ytgngmjlbeofjkaa
