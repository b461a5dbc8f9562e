/- Several texts in one. -/
import Derived.Test.YtdgeicdiiakhjaaGreatW22
import Derived.Test.YtdgeicdiiakhjaaGreatW23
import Derived.Test.YtdgeicdiiakhjaaGreatW16
namespace Go.Proofs.YtdgeicdiiakhjaaGreat
set_option linter.unusedSimpArgs false
set_option linter.unusedVariables false
open Go Go.RowKit
attribute [local go_sem ↓] Go.wp_at_zero Go.wp_at_succ

/-- Tasks in order, or none. -/
def sortV (room : List Int) (ts : List Tk) : List Tk := if tasksOk room ts = true then sortP ts else []
/-- The fewest nodes, or nothing. -/
def fewAllP (room : List Int) (ts : List Tk) : List (List Tk) := if tasksOk room ts = true then fewP room ts else []
theorem allP_none (room : List Int) : firstAllP room [] = [] ∧ bestAllP room [] = [] := by
  constructor
  · unfold firstAllP; split <;> rfl
  · unfold bestAllP; split <;> rfl
theorem few_ways (room : List Int) (ts : List Tk) : lessB (lessB (lessB (firstAllP room ts) (bestAllP room ts)) (firstAllP room (sortV room ts))) (bestAllP room (sortV room ts)) = fewAllP room ts := by
  unfold fewAllP sortV
  cases h : tasksOk room ts with
  | true =>
    have hs := tasksOk_perm (sort_perm ts) h
    simp only [if_true, firstAllP, bestAllP, h, hs]
    rfl
  | false =>
    have e1 : firstAllP room ts = [] := by unfold firstAllP; rw [h]; rfl
    have e2 : bestAllP room ts = [] := by unfold bestAllP; rw [h]; rfl
    simp only [e1, e2, if_false, Bool.false_eq_true, (allP_none room).1, (allP_none room).2]
    rfl
theorem lessB_pos {a b : List (List Tk)} {m n : Nat} (ha : a.length = m) (hb : b.length = n) (h : n < m) : lessB a b = b := by unfold lessB; rw [if_pos (by omega)]
theorem lessB_neg {a b : List (List Tk)} {m n : Nat} (ha : a.length = m) (hb : b.length = n) (h : ¬ n < m) : lessB a b = a := by unfold lessB; rw [if_neg (by omega)]

set_option maxRecDepth 100000 in
set_option maxHeartbeats 1600000 in
theorem tasksSortN_any (A1 A : Option Addr) (n1 c1 n c : Nat) (room : List Int) (ts : List Tk) (w : World) (h1 : RdI w w.heap.size A1 n1 room) (h : RdT w w.heap.size A n ts) (hok : tasksOk room ts = false) :
    Calls Tryz.prog 50 #[.slice A1 n1 c1, .slice A n c] w fun e w' => ∃ A' c', e = .returned (.slice A' 0 c') ∧ RdT w' w'.heap.size A' 0 [] ∧ Below w.heap.size w w' := by
  have hnm : n ≤ 9223372036854775807 := h.le
  have Hok := qh hok
  have B2 := qh (alloc_up w (.cells #[] 43))
  have H1 := qh (h1.up B2.out)
  have H := qh (h.up B2.out)
  clear h1 h hok
  go_enter Tryz.func50, Tryz.ntmps50
  go_wp2_with fail
  generalize hg : w.heap.size = g
  generalize w.alloc (.cells #[] 43) = w2 at B2 H1 H ⊢
  go_loopw [5, 6] (fun v kv wr => kv = .int .i64 0 ∧ v = .slice (some ⟨g, 0, none⟩) 0 0 ∧ wr = w2) (fun _ kv _ => 0)
  case atStart => exact ⟨rfl, rfl, rfl⟩
  case round =>
    obtain ⟨rfl, rfl, rfl⟩ := hrel
    have key := tasksValidS_any A1 A n1 c1 n c room ts wr H1.out H.out
    rw [Hok.out] at key
    have Key := qh key
    clear key
    have fin : ∀ w9 : World, Below wr.heap.size wr w9 → Below w.heap.size w w9 := fun w9 h => B2.out.trans (h.mono B2.out.size)
    have Fin := qh fin
    clear fin
    by_cases hlt : (0 : Int) < (n : Int)
    · go_wp2_with (first | (go_at_call 9; refine Key.out.mono ?_; rintro e w9 ⟨rfl, mq, hw⟩; have hb := below_drewN (Below.refl wr.heap.size wr) mq; rw [hw] at hb; have HB9 := qh (Fin.out _ hb); clear hw hb) | (go_at_call 76; refine (l2Copy_any (some ⟨g, 0, none⟩) 0 0 [] _ RdT.nil (by omega) (fun j hj => by omega)).mono ?_; rintro e w3 ⟨A4, c4, rfl, hot, hb3⟩))
      have HO := qh (OwnTs.rd hot (by omega) (fun t ht => by simp at ht))
      have HB3 := qh (HB9.out.trans (hb3.mono HB9.out.size))
      clear hot hb3
      go_ret
      exact ⟨_, _, rfl, HO.out, HB3.out⟩
    · obtain rfl : n = 0 := by omega
      go_wp2_with (first | (go_at_call 9; refine Key.out.mono ?_; rintro e w9 ⟨rfl, mq, hw⟩; have hb := below_drewN (Below.refl wr.heap.size wr) mq; rw [hw] at hb; have HB9 := qh (Fin.out _ hb); clear hw hb) | (go_at_call 76; refine (l2Copy_any (some ⟨g, 0, none⟩) 0 0 [] _ RdT.nil (by omega) (fun j hj => by omega)).mono ?_; rintro e w3 ⟨A4, c4, rfl, hot, hb3⟩))
      have HO := qh (OwnTs.rd hot (by omega) (fun t ht => by simp at ht))
      have HB3 := qh (B2.out.trans (hb3.mono B2.out.size))
      clear hot hb3
      go_ret
      exact ⟨_, _, rfl, HO.out, HB3.out⟩
/-- Whatever the tasks are. -/
theorem tasksSortV_any (A1 A : Option Addr) (n1 c1 n c : Nat) (room : List Int) (ts : List Tk) (w : World) (h1 : RdI w w.heap.size A1 n1 room) (h : RdT w w.heap.size A n ts) :
    Calls Tryz.prog 50 #[.slice A1 n1 c1, .slice A n c] w fun e w' => ∃ A' m c', e = .returned (.slice A' m c') ∧ RdT w' w'.heap.size A' m (sortV room ts) ∧ Below w.heap.size w w' := by
  cases hok : tasksOk room ts with
  | false => exact (tasksSortN_any A1 A n1 c1 n c room ts w h1 h hok).mono (fun e w' ⟨A', c', h1, h2, h3⟩ => ⟨A', 0, c', h1, by unfold sortV; rw [hok]; exact h2, h3⟩)
  | true =>
    refine (tasksSort_any A1 A n1 c1 n c room ts w h1 h hok).mono (fun e w' ⟨A', c', h1, h2, h3⟩ => ⟨A', n, c', h1, ?_, h3⟩)
    unfold sortV
    rw [hok]
    have hs := tasksOk_perm (sort_perm ts) hok
    exact OwnTs.rd h2 h.le (fun t ht => by have := vecOk_len (tasksOk_vec hs ht); omega)

set_option maxRecDepth 100000 in
set_option maxHeartbeats 1600000 in
theorem downAllS_any (A1 A : Option Addr) (n1 c1 n c : Nat) (room : List Int) (ts : List Tk) (w : World) (h1 : RdI w w.heap.size A1 n1 room) (h : RdT w w.heap.size A n ts) :
    Calls Tryz.prog 24 #[.slice A1 n1 c1, .slice A n c] w fun e w' => ∃ A' m c', e = .returned (.slice A' m c') ∧ OwnBR w' w.heap.size (.slice A' m c') m (firstAllP room (sortV room ts)) ∧ Below w.heap.size w w' := by
  have H1 := qh h1
  have H := qh h
  clear h1 h
  go_enter Tryz.func24, Tryz.ntmps24
  go_wp2_with fail
  refine (tasksSortV_any A1 A n1 c1 n c room ts w H1.out H.out).mono ?_; rintro e w1 ⟨A2, m2, c2, rfl, hr, hb⟩
  have R1 := qh hr
  have B1 := qh hb
  have lz := hb.size
  clear hr hb
  go_wp2_with fail
  refine (firstAllS_any A1 A2 n1 c1 m2 c2 room (sortV room ts) w1 (H1.out.up B1.out) R1.out).mono ?_; rintro e w2 ⟨A', m, c', rfl, hO, hb⟩
  have HO := qh hO
  have B2 := qh (B1.out.trans (hb.mono lz))
  clear hO hb
  go_wp2_with fail
  go_ret
  exact ⟨_, _, _, rfl, obr_low HO.out lz, B2.out⟩

set_option maxRecDepth 100000 in
set_option maxHeartbeats 1600000 in
theorem downBestS_any (A1 A : Option Addr) (n1 c1 n c : Nat) (room : List Int) (ts : List Tk) (w : World) (h1 : RdI w w.heap.size A1 n1 room) (h : RdT w w.heap.size A n ts) :
    Calls Tryz.prog 25 #[.slice A1 n1 c1, .slice A n c] w fun e w' => ∃ A' m c', e = .returned (.slice A' m c') ∧ OwnBR w' w.heap.size (.slice A' m c') m (bestAllP room (sortV room ts)) ∧ Below w.heap.size w w' := by
  have H1 := qh h1
  have H := qh h
  clear h1 h
  go_enter Tryz.func25, Tryz.ntmps25
  go_wp2_with fail
  refine (tasksSortV_any A1 A n1 c1 n c room ts w H1.out H.out).mono ?_; rintro e w1 ⟨A2, m2, c2, rfl, hr, hb⟩
  have R1 := qh hr
  have B1 := qh hb
  have lz := hb.size
  clear hr hb
  go_wp2_with fail
  refine (bestAllS_any A1 A2 n1 c1 m2 c2 room (sortV room ts) w1 (H1.out.up B1.out) R1.out).mono ?_; rintro e w2 ⟨A', m, c', rfl, hO, hb⟩
  have HO := qh hO
  have B2 := qh (B1.out.trans (hb.mono lz))
  clear hO hb
  go_wp2_with fail
  go_ret
  exact ⟨_, _, _, rfl, obr_low HO.out lz, B2.out⟩

set_option maxRecDepth 100000 in
set_option maxHeartbeats 3200000 in
theorem fewestS_any (A1 A : Option Addr) (n1 c1 n c : Nat) (room : List Int) (ts : List Tk) (w : World) (h1 : RdI w w.heap.size A1 n1 room) (h : RdT w w.heap.size A n ts) :
    Calls Tryz.prog 7 #[.slice A1 n1 c1, .slice A n c] w fun e w' => ∃ A' m c', e = .returned (.slice A' m c') ∧ RdB w' w'.heap.size A' m (fewAllP room ts) ∧ Below w.heap.size w w' := by
  have H1 := qh h1
  have H := qh h
  clear h1 h
  have E0 := qh (few_ways room ts)
  go_enter Tryz.func7, Tryz.ntmps7
  go_wp2_with fail
  refine (firstAllS_any A1 A n1 c1 n c room ts w H1.out H.out).mono ?_; rintro e wa ⟨Aa, ma, ca, rfl, hO, hb⟩
  have Oa := qh hO
  have Ba := qh hb
  have la := hb.size
  clear hO hb
  go_wp2_with fail
  refine (bestAllS_any A1 A n1 c1 n c room ts wa (H1.out.up Ba.out) (H.out.up Ba.out)).mono ?_; rintro e wb ⟨Ab, mb, cb, rfl, hO, hb⟩
  have Ob := qh hO
  have Bb := qh (Ba.out.trans (hb.mono la))
  have Oa2 := qh (obr_up Oa.out hb)
  have lb := Bb.out.size
  clear hO hb Oa
  go_wp2_with fail
  refine (downAllS_any A1 A n1 c1 n c room ts wb (H1.out.up Bb.out) (H.out.up Bb.out)).mono ?_; rintro e wc ⟨Ac, mc, cc, rfl, hO, hb⟩
  have Oc := qh hO
  have Bc := qh (Bb.out.trans (hb.mono lb))
  have Oa3 := qh (obr_up Oa2.out hb)
  have Ob3 := qh (obr_up Ob.out hb)
  have lc := Bc.out.size
  clear hO hb Oa2 Ob
  go_wp2_with fail
  refine (downBestS_any A1 A n1 c1 n c room ts wc (H1.out.up Bc.out) (H.out.up Bc.out)).mono ?_; rintro e wd ⟨Ad, md, cd, rfl, hO, hb⟩
  have Bd := qh (Bc.out.trans (hb.mono lc))
  have ld := Bd.out.size
  have ba := obr_up Oa3.out hb
  have bb := obr_up Ob3.out hb
  have bc := obr_up Oc.out hb
  have al := alloc_up wd (.cells #[.slice Ab mb cb, .slice Ac mc cc, .slice Ad md cd] 27)
  have La := qh (obr_len ba)
  have Lb := qh (obr_len bb)
  have Lc := qh (obr_len bc)
  have Ld := qh (obr_len hO)
  have Ra := qh ((obr_up ba al).rd)
  have Rb := qh ((obr_up bb al).rd)
  have Rc := qh ((obr_up bc al).rd)
  have Rd := qh ((obr_up hO al).rd)
  have Be := qh (Bd.out.trans (al.mono ld))
  have P := qh (Blk.new wd 27 #[.slice Ab mb cb, .slice Ac mc cc, .slice Ad md cd])
  clear hO hb Oa3 Ob3 Oc ba bb bc al
  go_wp2_with fail
  generalize wd.heap.size = g at P ⊢
  generalize wd.alloc (.cells #[.slice Ab mb cb, .slice Ac mc cc, .slice Ad md cd] 27) = we at Ra Rb Rc Rd Be P ⊢
  have x0 := P.out.cell 0
  have x1 := P.out.cell 1
  have x2 := P.out.cell 2
  simp only [gT, gZ, gS] at x0 x1 x2
  generalize firstAllP room ts = ba at *
  generalize bestAllP room ts = bb at *
  generalize firstAllP room (sortV room ts) = bc at *
  generalize bestAllP room (sortV room ts) = bd at *
  go_loopw [5, 7] (fun v i wr => wr = we ∧ ((i = .int .i64 0 ∧ v = .slice Aa ma ca) ∨ (i = .int .i64 1 ∧ ∃ A2 m2 c2, v = .slice A2 m2 c2 ∧ RdB we we.heap.size A2 m2 (lessB ba bb) ∧ (lessB ba bb).length = m2) ∨ (i = .int .i64 2 ∧ ∃ A2 m2 c2, v = .slice A2 m2 c2 ∧ RdB we we.heap.size A2 m2 (lessB (lessB ba bb) bc) ∧ (lessB (lessB ba bb) bc).length = m2) ∨ (i = .int .i64 3 ∧ ∃ A2 m2 c2, v = .slice A2 m2 c2 ∧ RdB we we.heap.size A2 m2 (lessB (lessB (lessB ba bb) bc) bd)))) (fun _ i _ => 3 - (intOf i).toNat)
  case atStart => exact ⟨rfl, .inl ⟨rfl, rfl⟩⟩
  case round =>
    obtain ⟨rfl, ⟨rfl, rfl⟩ | ⟨rfl, A2, m2, c2, rfl, hr, hm⟩ | ⟨rfl, A2, m2, c2, rfl, hr, hm⟩ | ⟨rfl, A2, m2, c2, rfl, hr⟩⟩ := hrel
    · by_cases hlt : (mb : Int) < (ma : Int)
      · go_wp2_with fail
        go_roundw
        case measure => simp [intOf]
        case rel => exact ⟨trivial, .inr (.inl ⟨rfl, _, _, _, rfl, by rw [lessB_pos La.out Lb.out (by omega)]; exact ⟨Rb.out, Lb.out⟩⟩)⟩
      · go_wp2_with fail
        go_roundw
        case measure => simp [intOf]
        case rel => exact ⟨trivial, .inr (.inl ⟨rfl, _, _, _, rfl, by rw [lessB_neg La.out Lb.out (by omega)]; exact ⟨Ra.out, La.out⟩⟩)⟩
    · have Hr := qh hr
      have Hm := qh hm
      clear hr hm
      by_cases hlt : (mc : Int) < (m2 : Int)
      · go_wp2_with fail
        go_roundw
        case measure => simp [intOf]
        case rel => exact ⟨trivial, .inr (.inr (.inl ⟨rfl, _, _, _, rfl, by rw [lessB_pos Hm.out Lc.out (by omega)]; exact ⟨Rc.out, Lc.out⟩⟩))⟩
      · go_wp2_with fail
        go_roundw
        case measure => simp [intOf]
        case rel => exact ⟨trivial, .inr (.inr (.inl ⟨rfl, _, _, _, rfl, by rw [lessB_neg Hm.out Lc.out (by omega)]; exact ⟨Hr.out, Hm.out⟩⟩))⟩
    · have Hr := qh hr
      have Hm := qh hm
      clear hr hm
      by_cases hlt : (md : Int) < (m2 : Int)
      · go_wp2_with fail
        go_roundw
        case measure => simp [intOf]
        case rel => exact ⟨trivial, .inr (.inr (.inr ⟨rfl, _, _, _, rfl, by rw [lessB_pos Hm.out Ld.out (by omega)]; exact Rd.out⟩))⟩
      · go_wp2_with fail
        go_roundw
        case measure => simp [intOf]
        case rel => exact ⟨trivial, .inr (.inr (.inr ⟨rfl, _, _, _, rfl, by rw [lessB_neg Hm.out Ld.out (by omega)]; exact Hr.out⟩))⟩
    · have Hr := qh hr
      clear hr
      go_wp2_with fail
      go_ret
      exact ⟨_, _, _, rfl, by rw [← E0.out]; exact Hr.out, Be.out⟩
end Go.Proofs.YtdgeicdiiakhjaaGreat

namespace Go.Proofs.YtdgeicdiiakhjaaGreat
set_option linter.unusedSimpArgs false
set_option linter.unusedVariables false
open Go Go.RowKit
attribute [local go_sem ↓] Go.wp_at_zero Go.wp_at_succ

set_option maxRecDepth 100000 in
set_option maxHeartbeats 3200000 in
theorem placedN_any (base : Nat) (A A3 : Option Addr) (n c c3 : Nat) (bs : List (List Tk)) (id : Int) (xs : List Int) (w0 w : World) (h : OwnBR w0 base (.slice A n c) n bs) (hb : Below w0.heap.size w0 w) (hb1 : base ≤ w0.heap.size) (hn : n ≤ 1000) (hx : RdI w w.heap.size A3 3 xs) :
    Calls Tryz.prog 55 #[.slice A n c, .int .i64 (-1), .agg #[.int .i64 id, .slice A3 3 c3]] w fun e w' => ∃ A' c', e = .returned (.slice A' (n + 1) c') ∧ OwnBR w' base (.slice A' (n + 1) c') (n + 1) (bs ++ [[(id, xs)]]) ∧ Below base w w' ∧ ∀ b, w0.heap.size ≤ b → b < w.heap.size → w'.heap[b]? = w.heap[b]? := by
  obtain ⟨ib, hib, hbz0, hbz1, hbz2⟩ := info_parts row_info
  obtain ⟨vs, ho0, hn0⟩ := h
  have Lo0 := qh (fun b hb => (ho0.lt b hb).2)
  have Lr0 := qh hn0.old
  have ho1 := own_up' ho0 hb
  have hn1 := hn0.keepTI (KeepTI.up hb)
  have hb0 : base ≤ w.heap.size := by have := hb.size; omega
  have hz0 := hb.size
  clear ho0 hn0 hb
  have Kp0 := qh (show ∀ b, w0.heap.size ≤ b → b < w.heap.size → (w.alloc (.cells #[.int .i64 id, .slice A3 3 c3] 43)).heap[b]? = w.heap[b]? from fun b _ h2 => (alloc_up w _).block b h2)
  have sz1 := (alloc_up w (.cells #[.int .i64 id, .slice A3 3 c3] 43)).size
  have B1 := qh (alloc_up w (.cells #[.int .i64 id, .slice A3 3 c3] 43))
  have P1 := qh (Blk.new w 43 #[.int .i64 id, .slice A3 3 c3])
  have X1 := qh (hx.up B1.out)
  have O1 := qh (own_up' ho1 B1.out)
  have N1 := qh (hn1.keepTI (KeepTI.up B1.out))
  have y0 := P1.out.cell 0
  have y1 := P1.out.cell 1
  simp only [gT, gZ, gS] at y0 y1
  clear ho1 hn1 hx
  go_enter Tryz.func55, Tryz.ntmps55
  go_wp2_with fail
  have BB := qh (B1.out.mono hb0)
  generalize w.alloc (.cells #[.int .i64 id, .slice A3 3 c3] 43) = w1 at B1 P1 X1 O1 N1 BB y0 y1 Kp0 sz1 ⊢
  have l1 := BB.out.size
  have lb1 : base ≤ w1.heap.size := by have := B1.out.size; omega
  refine (copyOf_any A3 3 c3 id xs w1 X1.out (by omega)).mono ?_; rintro e wz ⟨A6, c6, rfl, hI, hb⟩
  have HIz := qh hI
  have Kpz := qh (show ∀ b, w0.heap.size ≤ b → b < w.heap.size → wz.heap[b]? = w.heap[b]? from fun b h1 h2 => (hb.block b (by omega)).trans (Kp0.out b h1 h2))
  have szz := hb.size
  have Bz := qh (BB.out.trans (hb.mono lb1))
  have O2z := qh (own_up' O1.out hb)
  have N2z := qh (N1.out.keepTI (KeepTI.up hb))
  have lz : base ≤ wz.heap.size := by have := hb.size; omega
  clear hI hb O1 N1 P1 X1 y0 y1 B1
  have D2 := alloc_up wz (.cells #[.int .i64 id, .slice A6 3 c6] 43)
  have D3 := (alloc_up (wz.alloc (.cells #[.int .i64 id, .slice A6 3 c6] 43)) (.cells #[.slice (some ⟨wz.heap.size, 0, none⟩) 1 1] 24))
  have D := qh (D2.trans (D3.mono D2.size))
  have R2 := qh (own_up' (own_built (w := wz) (base := base) 43 (.int .i64 id) (.slice A6 3 c6) lz) D3)
  have V2 := qh ((NdR.nil (w := ((wz.alloc (.cells #[.int .i64 id, .slice A6 3 c6] 43)).alloc (.cells #[.slice (some ⟨wz.heap.size, 0, none⟩) 1 1] 24))) (base := base)).snoc (id := id) (own_lo (own_up' HIz.out D.out) (by omega)))
  have O2 := qh (own_up' O2z.out D.out)
  have Kp2 := qh (show ∀ b, w0.heap.size ≤ b → b < w.heap.size → ((wz.alloc (.cells #[.int .i64 id, .slice A6 3 c6] 43)).alloc (.cells #[.slice (some ⟨wz.heap.size, 0, none⟩) 1 1] 24)).heap[b]? = w.heap[b]? from fun b h1 h2 => (D.out.block b (by omega)).trans (Kpz.out b h1 h2))
  have szd := D.out.size
  have N2 := qh (N2z.out.keepTI (KeepTI.up D.out))
  have B2 := qh (Bz.out.trans (D.out.mono lz))
  have X2 := qh (show Src ((wz.alloc (.cells #[.int .i64 id, .slice A6 3 c6] 43)).alloc (.cells #[.slice (some ⟨wz.heap.size, 0, none⟩) 1 1] 24)) 1 (some ⟨wz.heap.size + 1, 0, none⟩) 1 [.slice (some ⟨wz.heap.size, 0, none⟩) 1 1] from by have := lit1 (wz.alloc (.cells #[.int .i64 id, .slice A6 3 c6] 43)) 24 (.slice (some ⟨wz.heap.size, 0, none⟩) 1 1); rwa [World.size_alloc] at this)
  have l2' : base ≤ ((wz.alloc (.cells #[.int .i64 id, .slice A6 3 c6] 43)).alloc (.cells #[.slice (some ⟨wz.heap.size, 0, none⟩) 1 1] 24)).heap.size := by have := D.out.size; omega
  have hdj := qh (fun (j : Nat) (u : Value) (hu : vs[j]? = some u) (b : Nat) (hb : u.ownBlock = some b) => (show (Value.slice (some ⟨wz.heap.size, 0, none⟩) 1 1).ownBlock ≠ some b from fun e => by have h1 := N2z.out.old j u hu b hb; simp [Value.ownBlock] at e; omega))
  clear D2 D3 Bz O2z N2z
  go_wp2_with (at_builtin; go_loud (refine wpList_append_src _ rfl _ _ 27 rfl base 24 ib _ 1 24 Tryz.underlying27 hib hbz0 hbz1 hbz2 rfl (by omega) (.slice A n c) n vs rfl O2.out (some ⟨wz.heap.size + 1, 0, none⟩) 1 1 [.slice (some ⟨wz.heap.size, 0, none⟩) 1 1] rfl X2.out (by simp [Value.oneCell']) (by unfold maxLen; omega) (by omega) l2' ?_; intro v6 z2 hown6 hgrow6 hrow6))
  obtain ⟨A7, c7, rfl⟩ := own_shape hown6
  have KT := KeepTI.grown O2.out hgrow6 (by decide) (by decide)
  have N3 := qh ((N2.out.keepTI KT).snoc (own_keepTI R2.out (.inr rfl) KT) (V2.out.keepTI KT) hdj.out)
  have B3 := qh (B2.out.grown hgrow6 l2' (fun j e => (O2.out.lt j e).1))
  have OF := qh hown6
  have KF := qh (show ∀ b, w0.heap.size ≤ b → b < w.heap.size → z2.heap[b]? = w.heap[b]? from fun b h1 h2 => (hgrow6.block b (by omega) (fun e => by have := Lo0.out b e.symm; omega)).trans (Kp2.out b h1 h2))
  clear hown6 hgrow6 hrow6 KT
  try go_wp2_with fail
  go_ret
  exact ⟨_, _, rfl, ⟨_, OF.out, N3.out⟩, B3.out, KF.out⟩

set_option maxRecDepth 100000 in
set_option maxHeartbeats 3200000 in
theorem placed_any (base k : Nat) (A A3 : Option Addr) (n c c3 : Nat) (bs : List (List Tk)) (id : Int) (xs : List Int) (w0 w : World) (h : OwnBR w0 base (.slice A n c) n bs) (hb : Below w0.heap.size w0 w) (hb1 : base ≤ w0.heap.size) (hn : n ≤ 1000) (hk : k < n) (hm : (bs[k]?.getD []).length ≤ 1048576) (hx : RdI w w.heap.size A3 3 xs) :
    Calls Tryz.prog 55 #[.slice A n c, .int .i64 (k : Int), .agg #[.int .i64 id, .slice A3 3 c3]] w fun e w' => e = .returned (.slice A n c) ∧ OwnBR w' base (.slice A n c) n (putAt bs k (id, xs)) ∧ Below base w w' ∧ ∀ b, w0.heap.size ≤ b → b < w.heap.size → w'.heap[b]? = w.heap[b]? := by
  obtain ⟨t0, ht0, htz0, htz1, htz2⟩ := info_parts task_info
  obtain ⟨vs, ho0, hn0⟩ := h
  have Lo0 := qh (fun b hb => (ho0.lt b hb).2)
  have Lr0 := qh hn0.old
  have ho1 := own_up' ho0 hb
  have hn1 := hn0.keepTI (KeepTI.up hb)
  have hb0 : base ≤ w.heap.size := by have := hb.size; omega
  have hz0 := hb.size
  clear ho0 hn0 hb
  have Kp0 := qh (show ∀ b, w0.heap.size ≤ b → b < w.heap.size → (w.alloc (.cells #[.int .i64 id, .slice A3 3 c3] 43)).heap[b]? = w.heap[b]? from fun b _ h2 => (alloc_up w _).block b h2)
  have sz1 := (alloc_up w (.cells #[.int .i64 id, .slice A3 3 c3] 43)).size
  have B1 := qh (alloc_up w (.cells #[.int .i64 id, .slice A3 3 c3] 43))
  have P1 := qh (Blk.new w 43 #[.int .i64 id, .slice A3 3 c3])
  have X1 := qh (hx.up B1.out)
  have O1 := qh (own_up' ho1 B1.out)
  have N1 := qh (hn1.keepTI (KeepTI.up B1.out))
  have Hold := qh (fun u hu b hb => Nat.lt_of_lt_of_le (Lr0.out k u hu b hb) hz0)
  have q1 : ((k : Int) < 0) = False := by simp
  have k1 : (0 : Int) ≤ (k : Int) := by omega
  have k2 : (k : Int) < (n : Int) := by omega
  clear ho1 hn1 hx
  go_enter Tryz.func55, Tryz.ntmps55
  go_wp2_with fail
  have BB := qh (B1.out.mono hb0)
  generalize hgx : w.heap.size = gx at P1 ⊢
  generalize w.alloc (.cells #[.int .i64 id, .slice A3 3 c3] 43) = w1 at B1 P1 X1 O1 N1 BB Kp0 sz1 ⊢
  have lb1 : base ≤ w1.heap.size := by have := B1.out.size; omega
  have lgx := P1.out.lt
  obtain ⟨At, mt, ct, vt, e3, e4, e5⟩ := N1.out.2.2.1 k hk
  have hlt : mt ≤ 1048576 := by have := e5.1; omega
  obtain ⟨gb, cap, hv, hgb1, hgb2⟩ := O1.out.form (by omega)
  injection hv with hv1 hv2 hv3
  subst hv1 hv3
  have u1 := O1.out.cells (g := gb) rfl k _ e3
  rw [addr_add, Nat.zero_add] at u1
  obtain ⟨_, curU, eU, _, hbU⟩ := own_row O1.out (by omega)
  injection eU with eU
  injection eU with eU
  subst eU
  have E3 := qh e3
  have lrow := qh (fun b (hb : (Value.slice At mt ct).ownBlock = some b) => Lr0.out k _ e3 b hb)
  have lout : gb < w0.heap.size := Lo0.out gb rfl
  have hdist := qh (show (Value.slice At mt ct).ownBlock ≠ some gx from fun e => by have := Hold.out _ e3 gx e; omega)
  have O8 := qh (World.ownsRow.drew O1.out)
  have N8 := qh (N1.out.keepTI (KeepTI.drew w1))
  have R8 := qh (World.ownsRow.drew e4)
  have V8 := qh (e5.keepTI (KeepTI.drew w1))
  have Y8 := qh P1.out.drew
  have B8 := qh BB.out.drew
  have X8 := qh (show RdI w1.drew w1.drew.heap.size A3 3 xs from X1.out)
  have U8 := qh (show Blk w1.drew gb _ _ from hbU)
  have K1 : w1.drew.cell? ⟨gb, k, none⟩ = some (.slice At mt ct) ∧ w1.drew.cell? ⟨gx, 0, none⟩ = some (.int .i64 id) ∧ w1.drew.cell? ⟨gx, 1, none⟩ = some (.slice A3 3 c3) := ⟨u1, Y8.out.cell 0, Y8.out.cell 1⟩
  have l8 : base ≤ w1.drew.heap.size := lb1
  have Kp8 := qh (show ∀ b, w0.heap.size ≤ b → b < w.heap.size → w1.drew.heap[b]? = w.heap[b]? from Kp0.out)
  have sz8 : w.heap.size ≤ w1.drew.heap.size := sz1
  clear Kp0 sz1
  have lg8 : gb < w1.drew.heap.size := hgb2
  have ly8 : gx < w1.drew.heap.size := Y8.out.lt
  clear e3 e4 e5 u1 hbU O1 N1 P1 X1 BB B1 lb1
  refine wp_region_mixL (.take 0 (.take 1 (.take 2 (.take 3 (.take 4 (.take 5 (.take 6 (.bar 7 (.bar 8 (.bar 9 (.take 10 (.last 11 .nil)))))))))))) [11] (fun w' => w'.cell? ⟨gb, k, none⟩ = some (.slice At mt ct) ∧ w'.cell? ⟨gx, 0, none⟩ = some (.int .i64 id) ∧ w'.cell? ⟨gx, 1, none⟩ = some (.slice A3 3 c3)) (by kernel_rfl) (by kernel_rfl) K1 (fun _ => ?_)
  repeat ((first | refine wpMixL_skip (by rfl) (by rfl) ?_ | (refine wpMixL_take (v := ?_) (by rfl) (by rfl) (fun wS hSt => ?_) ?_; rotate_left; (focus ((try dsimp only at hSt); (go_simp <;> with_reducible rfl); done)))); (try simp only [Act.put, pS, pZ, pC]))
  generalize w1.drew = z0 at K1 O8 N8 R8 V8 Y8 B8 X8 U8 l8 lg8 ly8 Kp8 sz8 ⊢
  have hS := qh (fun (w' : World) (hb : ∀ b, b = gb ∨ b = gx → w'.heap[b]? = z0.heap[b]?) => (⟨(World.cell?_of_block (a := ⟨gb, k, none⟩) (hb gb (.inl rfl))).trans K1.1, (World.cell?_of_block (a := ⟨gx, 0, none⟩) (hb gx (.inr rfl))).trans K1.2.1, (World.cell?_of_block (a := ⟨gx, 1, none⟩) (hb gx (.inr rfl))).trans K1.2.2⟩ : w'.cell? ⟨gb, k, none⟩ = some (.slice At mt ct) ∧ w'.cell? ⟨gx, 0, none⟩ = some (.int .i64 id) ∧ w'.cell? ⟨gx, 1, none⟩ = some (.slice A3 3 c3)))
  clear K1
  (refine wpMixL_bar (by rfl) (fun K hK => ?_); go_simp)
  refine (copyOf_any A3 3 c3 id xs z0 X8.out (by omega)).mono ?_; rintro e z1 ⟨A6, c6, rfl, hI, hb⟩
  have Kq1 := qh (show ∀ b, w0.heap.size ≤ b → b < w.heap.size → z1.heap[b]? = w.heap[b]? from fun b h1 h2 => (hb.block b (by omega)).trans (Kp8.out b h1 h2))
  have sq1 := hb.size
  have D1 := qh hb
  have O1 := qh (own_up' O8.out hb)
  have N1 := qh (N8.out.keepTI (KeepTI.up hb))
  have R1 := qh (own_up' R8.out hb)
  have V1 := qh (V8.out.keepTI (KeepTI.up hb))
  have I1 := qh (own_lo hI l8)
  have U1 := qh (U8.out.below hb lg8)
  have Y1 := qh (Y8.out.below hb ly8)
  have B1 := qh (B8.out.trans (hb.mono l8))
  have hS1 := qh (fun b (hbb : b = gb ∨ b = gx) => hb.block b (by rcases hbb with rfl | rfl <;> omega))
  have l1 : base ≤ z1.heap.size := by have := hb.size; omega
  have lg1 : gb < z1.heap.size := by have := hb.size; omega
  have ly1 : gx < z1.heap.size := by have := hb.size; omega
  ((try dsimp only); refine nxK hK _ _ (hS.out _ hS1.out) ?_; clear hK K; (try simp only [Act.put, pS, pZ, pC]))
  clear hb hI O8 N8 R8 V8 U8 Y8 B8 X8 D1
  (refine wpMixL_bar (by rfl) (fun K hK => ?_); go_simp)
  have D2 := qh (alloc_up z1 (.cells #[.int .i64 id, .slice A6 3 c6] 43))
  have Kq2 := qh (show ∀ b, w0.heap.size ≤ b → b < w.heap.size → (z1.alloc (.cells #[.int .i64 id, .slice A6 3 c6] 43)).heap[b]? = w.heap[b]? from fun b h1 h2 => (D2.out.block b (by omega)).trans (Kq1.out b h1 h2))
  have sq2 := D2.out.size
  have X2 := qh (lit2 z1 43 (.int .i64 id) (.slice A6 3 c6))
  have O2 := qh (own_up' O1.out D2.out)
  have N2 := qh (N1.out.keepTI (KeepTI.up D2.out))
  have R2 := qh (own_up' R1.out D2.out)
  have V2 := qh (V1.out.keepTI (KeepTI.up D2.out))
  have I2 := qh (own_up' I1.out D2.out)
  have U2 := qh (U1.out.below D2.out lg1)
  have Y2 := qh (Y1.out.below D2.out ly1)
  have B2 := qh (B1.out.trans (D2.out.mono l1))
  have hS2 := qh (fun b (hb : b = gb ∨ b = gx) => (D2.out.block b (by rcases hb with rfl | rfl <;> omega)).trans (hS1.out b hb))
  have l2' : base ≤ (z1.alloc (.cells #[.int .i64 id, .slice A6 3 c6] 43)).heap.size := by have := D2.out.size; omega
  ((try dsimp only); refine nxK hK _ _ (hS.out _ hS2.out) ?_; clear hK K; (try simp only [Act.put, pS, pZ, pC]))
  clear D2 O1 N1 R1 V1 I1 U1 Y1 B1 hS1
  generalize z1.heap.size = gz at X2 ⊢
  generalize z1.alloc (.cells #[.int .i64 id, .slice A6 3 c6] 43) = z2 at X2 O2 N2 R2 V2 I2 U2 Y2 B2 hS2 l2' Kq2 sq2 ⊢
  refine wpMixL_bar (by rfl) (fun K hK => ?_)
  rw [if_pos (by rfl)]
  refine wp_append_src _ _ _ 24 (by rfl) base 43 t0 _ 2 32 Tryz.underlying24 ht0 htz0 htz1 htz2 rfl (by omega) (.slice At mt ct) mt vt (by rfl) R2.out (some ⟨gz, 0, none⟩) 1 1 [.int .i64 id, .slice A6 3 c6] (by rfl) X2.out (one2 _ _ rfl rfl) (by unfold maxLen; omega) (by omega) l2' ?_
  intro v6 z3 hown6 hgrow6 hrow6
  obtain ⟨A7, c7, rfl⟩ := own_shape hown6
  have Kq3 := qh (show ∀ b, w0.heap.size ≤ b → b < w.heap.size → z3.heap[b]? = w.heap[b]? from fun b h1 h2 => (hgrow6.block b (by omega) (fun e => by have := lrow.out b e.symm; omega)).trans (Kq2.out b h1 h2))
  have I3 := qh (own_keep I2.out (w' := z3) (fun b hb => hgrow6.block b (I2.out.lt b hb).2 (fun e => own_types R2.out I2.out (by decide) e.symm hb)))
  have O3 := qh (own_keep O2.out (w' := z3) (fun b hb => hgrow6.block b (O2.out.lt b hb).2 (fun e => own_types R2.out O2.out (by decide) e.symm hb)))
  have U3 := qh (U2.out.grown hgrow6 (fun e => own_blk_ne R2.out U2.out (by decide) e.symm))
  have B3 := qh (B2.out.grown hgrow6 l2' (fun j e => (R2.out.lt j e).1))
  have V3 := qh (((V2.out.grown R2.out (by decide) hgrow6).low (base' := base) (Nat.le_refl _)).snoc (id := id) I3.out)
  have N3 := qh (N2.out.grow hk E3.out R2.out hgrow6 hown6 V3.out hrow6)
  have hS3 := qh (show ∀ b, b = gb ∨ b = gx → z3.heap[b]? = z0.heap[b]? from fun b hb => (hgrow6.block b (hb.elim (fun e => e ▸ U2.out.lt) (fun e => e ▸ Y2.out.lt)) (fun e => by
    rcases hb with rfl | rfl
    · exact own_blk_ne R2.out U2.out (by decide) e.symm
    · exact (hdist.out) e.symm)).trans (hS2.out b hb))
  ((try dsimp only); refine nxK hK _ _ (hS.out _ hS3.out) ?_; clear hK K; (try simp only [Act.put, pS, pZ, pC]))
  repeat ((first | refine wpMixL_skip (by rfl) (by rfl) ?_ | (refine wpMixL_take (v := ?_) (by rfl) (by rfl) (fun wS hSt => ?_) ?_; rotate_left; (focus ((try dsimp only at hSt); (go_simp <;> with_reducible rfl); done)))); (try simp only [Act.put, pS, pZ, pC]))
  have s0 : z3.cell? ⟨gb, k, none⟩ = some (.slice At mt ct) := (hS.out _ hS3.out).1
  have f0 := U3.out.frozen k
  (refine wpMixL_last (by rfl) (fun K hK => ?_); go_simp)
  ((try dsimp only); refine hK.out _ _ ?_; clear hK K; (try simp only [Act.put, pS, pZ, pC]))
  refine wpMixL_nil ?_
  have OF := qh (own_set O3.out k (.slice A7 (mt + 1) c7))
  have NF := qh (N3.out.keepTI (KeepTI.set_ U3.out (by decide) (by decide) k (.slice A7 (mt + 1) c7)))
  have BF := qh (B3.out.setCell (p := ⟨gb, k, none⟩) hgb1 (.slice A7 (mt + 1) c7))
  have KF := qh (show ∀ b, w0.heap.size ≤ b → b < w.heap.size → (z3.setCell ⟨gb, k, none⟩ (.slice A7 (mt + 1) c7)).heap[b]? = w.heap[b]? from fun b h1 h2 => (Below.heap_setCell _ _ _ b (by show b ≠ gb; omega)).trans (Kq3.out b h1 h2))
  clear s0 f0
  go_wp2_with fail
  go_ret
  exact ⟨rfl, ⟨_, OF.out, NF.out⟩, BF.out, by rw [hgx] at KF; exact KF.out⟩
end Go.Proofs.YtdgeicdiiakhjaaGreat
