/- Walks: marks on a cluster of the call's own that lies below a bound: what lies from the bound on is kept. (Printed by gen_clmarkh.py.) -/
import Derived.Test.YtjjnbbkdjimcoaaGreatClMark
import Derived.Test.YtjjnbbkdjimcoaaGreatExKitB
namespace Go.Proofs.YtjjnbbkdjimcoaaGreat
set_option linter.unusedVariables false
open Go Go.RowKit

/-- What was there from hi on is as it was. -/
def KpH (hi : Nat) (w w' : World) : Prop := ∀ b, hi ≤ b → b < w.heap.size → w'.heap[b]? = w.heap[b]?
theorem KpH.trans {hi : Nat} {a b c : World} (h : KpH hi a b) (hs : a.heap.size ≤ b.heap.size) (k : KpH hi b c) : KpH hi a c := fun g hg hl => (k g hg (by omega)).trans (h g hg hl)
/-- A row of units, all below hi. -/
def OwnUsH (w : World) (base hi n : Nat) (v : Value) (us : List Un) : Prop := ∃ vs tk f, w.ownsRow base 72 2 v n vs ∧ NdUs w n vs tk f us ∧ base ≤ f 0 ∧ f n ≤ hi ∧ ∀ b, v.ownBlock = some b → b < hi
/-- A cluster, all below hi. -/
def OwnCH (w : World) (base hi : Nat) (v1 v2 : Value) (m1 m2 : Nat) (room : List Int) (us : List Un) : Prop :=
  w.ownsRow base 3 1 v1 m1 (room.map (Value.int .i64)) ∧ ∃ mid, (∀ b, v1.ownBlock = some b → b < mid) ∧ base ≤ mid ∧ mid ≤ hi ∧ OwnUsH w mid hi m2 v2 us
section
variable {w w' : World} {base hi lo n m1 m2 : Nat} {v v1 v2 : Value} {room : List Int} {us : List Un} {ts : List Tk}
theorem OwnTsB.clamp (h : OwnTsB w lo hi v n ts) : OwnTsB w (min lo w.heap.size) (min hi w.heap.size) v n ts := by
  obtain ⟨vs, nd, h1, h2, h3, h4⟩ := h
  refine ⟨vs, nd, own_lo h1 (Nat.min_le_left _ _), h2.down (Nat.min_le_left _ _), fun b hb => ?_, fun j hj b hb => ?_⟩
  · have := h3 b hb; have := (h1.lt b hb).2; omega
  · have := h4 j hj b hb; have := h2.old j hj b hb; omega
theorem OwnUs.toH (h : OwnUs w base v n us) (hb : base ≤ w.heap.size) : OwnUsH w base w.heap.size n v us := by
  obtain ⟨vs, tk, f, h1, h2, h3⟩ := h
  refine ⟨vs, tk, fun j => min (f j) w.heap.size, h1, ⟨h2.1, fun j hj => ?_⟩, by show base ≤ min (f 0) _; omega, Nat.min_le_right _ _, fun b hb => (h1.lt b hb).2⟩
  obtain ⟨q0, q1, q2, A, m, c, q3, q4⟩ := h2.2 j hj
  exact ⟨by show min (f j) _ ≤ min (f (j + 1)) _; omega, q1, q2, A, m, c, q3, q4.clamp⟩
theorem OwnC.toH (h : OwnC w base v1 v2 m1 m2 room us) (hb : base ≤ w.heap.size) : OwnCH w base w.heap.size v1 v2 m1 m2 room us := by
  obtain ⟨h1, md, h2, h3, vs, tk, f, h4, h5, h6⟩ := h
  refine ⟨h1, min md w.heap.size, fun b hb => ?_, by omega, Nat.min_le_right _ _, ?_⟩
  · have := h2 b hb; have := (h1.lt b hb).2; omega
  · exact OwnUs.toH (⟨vs, tk, f, own_lo h4 (Nat.min_le_left _ _), h5, by omega⟩ : OwnUs w (min md w.heap.size) v2 m2 us) (Nat.min_le_right _ _)
theorem OwnUsH.toU (h : OwnUsH w base hi n v us) : OwnUs w base v n us := by
  obtain ⟨vs, tk, f, h1, h2, h3, _⟩ := h
  exact ⟨vs, tk, f, h1, h2, h3⟩
theorem OwnCH.toC (h : OwnCH w base hi v1 v2 m1 m2 room us) : OwnC w base v1 v2 m1 m2 room us := by
  obtain ⟨h1, md, h2, h3, _, h4⟩ := h
  exact ⟨h1, md, h2, h3, h4.toU⟩
theorem OwnUsH.keepin (h : OwnUsH w base hi n v us) (hk : ∀ b, base ≤ b → b < hi → b < w.heap.size → w'.heap[b]? = w.heap[b]?) : OwnUsH w' base hi n v us := by
  obtain ⟨vs, tk, f, h1, h2, h3, h4, h5⟩ := h
  exact ⟨vs, tk, f, own_keep h1 (fun b hb => hk b (h1.lt b hb).1 (h5 b hb) (h1.lt b hb).2), h2.keep (fun b hb hb2 hti => hk b (by omega) (by omega) hti.lt), h3, h4, h5⟩
theorem OwnUsH.keepge (h : OwnUsH w base hi n v us) (hk : ∀ b, base ≤ b → b < w.heap.size → w'.heap[b]? = w.heap[b]?) : OwnUsH w' base hi n v us := h.keepin (fun b hb _ hl => hk b hb hl)
theorem OwnCH.keepin (h : OwnCH w base hi v1 v2 m1 m2 room us) (hk : ∀ b, base ≤ b → b < hi → b < w.heap.size → w'.heap[b]? = w.heap[b]?) : OwnCH w' base hi v1 v2 m1 m2 room us := by
  obtain ⟨h1, md, h2, h3, h4, h5⟩ := h
  exact ⟨own_keep h1 (fun b hb => hk b (h1.lt b hb).1 (by have := h2 b hb; omega) (h1.lt b hb).2), md, h2, h3, h4, h5.keepin (fun b hb hb2 hl => hk b (by omega) hb2 hl)⟩
theorem OwnUsH.keepTU (h : OwnUsH w base hi n v us) (hk : KeepTU w w') : OwnUsH w' base hi n v us := by
  obtain ⟨vs, tk, f, h1, h2, h3, h4, h5⟩ := h
  exact ⟨vs, tk, f, own_keepB h1 (fun b cs _ hc => hk b ⟨_, cs, .inr (.inr rfl), hc⟩), h2.keepTI hk.ti, h3, h4, h5⟩
theorem OwnCH.keepTU (h : OwnCH w base hi v1 v2 m1 m2 room us) (hk : KeepTU w w') : OwnCH w' base hi v1 v2 m1 m2 room us := by
  obtain ⟨h1, md, h2, h3, h4, h5⟩ := h
  exact ⟨own_keepTI h1 (.inl rfl) hk.ti, md, h2, h3, h4, h5.keepTU hk⟩
end
/-- A cluster of the call's own that lies from base on and below hi. -/
structure OwWH (w : World) (base hi : Nat) (v1 v2 : Value) (m1 m2 : Nat) (room : List Int) (us : List Un) : Prop where
  h : OwnCH w base hi v1 v2 m1 m2 room us
  le : base ≤ w.heap.size
  lh : hi ≤ w.heap.size
section
variable {w w' : World} {base hi a b n m1 m2 : Nat} {v v1 v2 : Value} {room : List Int} {us : List Un}
theorem OwWH.o (h : OwWH w base hi v1 v2 m1 m2 room us) : OwnC w base v1 v2 m1 m2 room us := h.h.toC
theorem OwWH.up (h : OwWH w base hi v1 v2 m1 m2 room us) (hb : Below w.heap.size w w') : OwWH w' base hi v1 v2 m1 m2 room us := ⟨h.h.keepTU (KeepTU.up hb), Nat.le_trans h.le hb.size, Nat.le_trans h.lh hb.size⟩
theorem OwWH.ko (h : OwWH w base hi v1 v2 m1 m2 room us) (k : KeptOut w w' a b) (hl : b ≤ base) : OwWH w' base hi v1 v2 m1 m2 room us := ⟨h.h.keepin (fun c hc _ hlt => k.block c hlt (.inr (by omega))), Nat.le_trans h.le k.size, Nat.le_trans h.lh k.size⟩
end

set_option maxRecDepth 100000 in
set_option maxHeartbeats 1600000 in
theorem markUsH_any (base hi : Nat) (A : Option Addr) (n c : Nat) (k : Int) (us : List Un) (w : World) (h : OwnUsH w base hi n (.slice A n c) us) (hs : SmU us) (h0 : 0 ≤ k) (h1 : k ≤ 1000) (hbs : base ≤ w.heap.size) :
    Calls Tryz.prog 80 #[.slice A n c, .int .i64 k] w fun e w' => e = .returned (.int .i64 (posU k us n)) ∧ OwnUsH w' base hi n (.slice A n c) (mkUL k us n) ∧ Below base w w' ∧ KpC w w' ∧ KpH hi w w' := by
  obtain ⟨vs0, tk, f, ho0, hd0, hf0, hfn, hvb⟩ := h
  have Hfn := qh hfn
  have Hvb := qh hvb
  clear hfn hvb
  have Hl := qh hd0.1
  have Hs := qh hs
  have Hp := qh (posU_bd k hs)
  have Ho0 := qh ho0
  have Hd0 := qh hd0
  have Hf0 := qh hf0
  have ln : n ≤ 10 := by have := hd0.1; have := hs.1; omega
  clear ho0 hd0 hs hf0
  go_enter Tryz.func80, Tryz.ntmps80
  go_wp2_with fail
  go_loopw [1, 5] (fun q i wr => ∃ (j : Nat) (vs : List Value), i = .int .i64 j ∧ j ≤ n ∧ q = .int .i64 (posU k us j) ∧ wr.ownsRow base 72 2 (.slice A n c) n vs ∧ NdUs wr n vs tk f (mkUL k us j) ∧ Below base w wr ∧ KpC w wr ∧ KpH hi w wr) (fun _ i _ => n - (intOf i).toNat)
  case atStart => exact ⟨0, vs0, rfl, Nat.zero_le _, rfl, Ho0.out, Hd0.out, Below.refl _ _, fun _ _ hb => hb, fun _ _ _ => rfl⟩
  case round =>
    obtain ⟨j, vs, rfl, hj, rfl, hown, hnd, hko, hkc, hkh⟩ := hrel
    have Hkh := qh hkh
    clear hkh
    have Hkc := qh hkc
    clear hkc
    by_cases hlt : j < n
    · obtain ⟨g, cap, hv, hgb, hgl⟩ := hown.form (by omega)
      injection hv with e1 e2 e3
      subst e1 e3
      obtain ⟨q0, q1, q2, A', m', c', q3, q4⟩ := hnd.2 j hlt
      have hun : (mkUL k us j)[j]?.getD (false, []) = us[j]?.getD (false, []) := by rw [mkUL_at k us j j (by rw [Hl.out]; exact hlt), if_neg (by omega)]
      rw [hun] at q1 q4
      have hu := un_getD Hs.out j
      have hmm : (us[j]?.getD (false, [])).2.length = m' := by obtain ⟨_, _, _, hh, _⟩ := q4; exact hh.1
      have hm3 : m' ≤ 255 := by rw [← hmm]; exact hu.1
      obtain ⟨p1, p2⟩ := Hp.out j
      have c0 : wr.cell? ⟨g, j * 2, none⟩ = some (.bool (us[j]?.getD (false, [])).1) := by
        have := hown.cells (g := g) rfl (j * 2) _ q1
        rwa [addr_add, Nat.zero_add] at this
      have hfz := hown.frozenAt (j * 2)
      have o1 := own_set hown (j * 2) (.bool (posU k us j % 3 == 0))
      have c1' : (wr.setCell ⟨g, j * 2, none⟩ (.bool (posU k us j % 3 == 0))).cell? ⟨g, j * 2 + 1, none⟩ = some (.slice A' m' c') := by
        have := o1.cells (g := g) rfl (j * 2 + 1) _ (by rw [List.getElem?_set_ne (by omega), q2, q3])
        rwa [addr_add, Nat.zero_add] at this
      have kk1 : (0 : Int) ≤ (j : Int) := by omega
      have kk2 : (j : Int) < (n : Int) := by omega
      have kk3 : 0 ≤ (j : Int) * 2 := by omega
      obtain ⟨g', cur, e1, _, hbk⟩ := own_row hown (by omega)
      injection e1 with e1
      injection e1 with e1
      subst e1
      have Kset := qh (KeepTI.set_ hbk (by decide) (by decide) (j * 2) (.bool (posU k us j % 3 == 0)))
      have Kc1 := qh (show KpC w (wr.setCell ⟨g, j * 2, none⟩ (.bool (posU k us j % 3 == 0))) from Hkc.out.trans (fun g' cs hb => hb.far (p := ⟨g, j * 2, none⟩) (fun e => own_blk_ne hown hb (by decide) (by rw [e]; rfl)) _))
      have Kh1 := qh (show KpH hi w (wr.setCell ⟨g, j * 2, none⟩ (.bool (posU k us j % 3 == 0))) from Hkh.out.trans hko.size (fun b hb _ => Below.heap_setCell _ _ _ _ (by have := Hvb.out g rfl; show b ≠ g; omega)))
      have kS : Below base w (wr.setCell ⟨g, j * 2, none⟩ (.bool (posU k us j % 3 == 0))) := hko.setCell (p := ⟨g, j * 2, none⟩) hgb _
      have q5 := q4.keep (w' := wr.setCell ⟨g, j * 2, none⟩ (.bool (posU k us j % 3 == 0))) (fun b _ _ hb => Kset.out b hb)
      have hs1 : (wr.setCell ⟨g, j * 2, none⟩ (.bool (posU k us j % 3 == 0))).heap.size = wr.heap.size := by simp [World.setCell]
      have hrem : (posU k us j).tmod 3 = posU k us j % 3 := IntWalk.rem_in _ _ (by omega)
      have Q5 := qh q5
      have O1 := qh o1
      have KS := qh kS
      have Hnd := qh hnd
      have Hmm := qh hmm
      have Hq3 := qh q3
      have Hq0 := qh q0
      have Hown := qh hown
      have Hs1 := qh hs1
      have Hu := qh hu
      have Hpj := qh (show posU k us (j + 1) = posT (posU k us j + 1) (us[j]?.getD (false, [])).2 m' by rw [posU, hmm])
      have Hmk := qh (show mkUL k us (j + 1) = (mkUL k us j).set j (posU k us j % 3 == 0, mkL (posU k us j + 1) (us[j]?.getD (false, [])).2 m') by rw [mkUL, mkU, hmm])
      have pb := (posT_bd (posU k us j + 1) (need_getD hu.2) m')
      clear o1 kS hnd hmm hun q0 q1 q2 q3 q4 q5 hown hs1 hko hbk hu
      generalize posU k us j = q at *
      generalize (us[j]?.getD (false, [])).2 = ts at *
      generalize (us[j]?.getD (false, [])).1 = op at *
      go_wp2_with fail
      generalize wr.setCell ⟨g, j * 2, none⟩ (.bool (q % 3 == 0)) = w1 at *
      refine (markTsB_any (f j) (f (j + 1)) A' m' c' (q + 1) ts w1 Q5.out (by omega) Hu.out.2 (by omega) (by omega)).mono ?_; rintro e w2 ⟨rfl, ho2, hg2⟩
      have z2 := hg2.size
      have R2 := qh (own_keep O1.out (w' := w2) (fun b hb => hg2.block b (O1.out.lt b hb).2 (.inr (.inr (notTI O1.out (by decide) (by decide) hb)))))
      have N2 := qh (Hnd.out.put (w2 := w2) (op := q % 3 == 0) (ts := mkL (q + 1) ts m') hlt (by have := Hown.out.1; omega) Hq3.out ho2 (fun b hb hr => (hg2.block b (by have := hb.lt; have := Hs1.out; omega) (hr.imp id .inl)).trans (Kset.out b hb)))
      have K2 := qh (KS.out.trans (⟨hg2.os, hg2.tape, hg2.output, hg2.size, fun b hb => hg2.block b (by have := KS.out.size; omega) (.inl (by have := Hd0.out.mono 0 j (by omega) (by omega); have := Hf0.out; omega))⟩ : Below base w1 w2))
      have Kc2 := qh (Kc1.out.trans hg2.kpc)
      have Kh2 := qh (Kh1.out.trans KS.out.size (fun b hb hlt => hg2.block b hlt (.inr (.inl (by have := Hd0.out.mono (j + 1) n (by omega) (by omega); have := Hfn.out; omega)))))
      clear ho2 hg2
      go_wp2_with fail
      go_roundw
      case measure => simp [intOf]; omega
      case rel => exact ⟨j + 1, _, by go_num, by omega, by rw [Hpj.out], R2.out, by rw [Hmk.out]; exact N2.out, K2.out, Kc2.out, Kh2.out⟩
    · obtain rfl : j = n := by omega
      have Hown := qh hown
      have Hnd := qh hnd
      have Hko := qh hko
      clear hown hnd hko
      go_wp2_with fail
      go_ret
      exact ⟨rfl, ⟨vs, tk, f, Hown.out, Hnd.out, Hf0.out, Hfn.out, Hvb.out⟩, Hko.out, Hkc.out, Hkh.out⟩

set_option maxHeartbeats 1600000 in
theorem markClH_any (base hi : Nat) (A1 A2 : Option Addr) (n1 c1 n2 c2 : Nat) (k : Int) (room : List Int) (us : List Un) (w : World) (h : OwnCH w base hi (.slice A1 n1 c1) (.slice A2 n2 c2) n1 n2 room us) (hs : SmU us) (hn1 : n1 ≤ 100) (h0 : 0 ≤ k) (h1 : k ≤ 100) (hbs : base ≤ w.heap.size) (hhi : hi ≤ w.heap.size) :
    Calls Tryz.prog 38 #[.agg #[.slice A1 n1 c1, .slice A2 n2 c2], .int .i64 k] w fun e w' => e = .returned (.int .i64 (posU (k + n1) us n2)) ∧ OwnCH w' base hi (.slice A1 n1 c1) (.slice A2 n2 c2) n1 n2 (seqI k n1) (mkUL (k + n1) us n2) ∧ Below base w w' ∧ KpC w w' ∧ KpH hi w w' := by
  obtain ⟨hr, md, hm1, hm2, hmh, hu⟩ := h
  have hms : md ≤ w.heap.size := by omega
  have Hr := qh hr
  have Hu := qh hu
  have Hm1 := qh hm1
  have Hs := qh hs
  clear hr hu hm1 hs
  have B1 := qh (alloc_up w (.cells #[.slice A1 n1 c1, .slice A2 n2 c2] 26))
  have P1 := qh (Blk.new w 26 #[.slice A1 n1 c1, .slice A2 n2 c2])
  have R1 := qh (own_alloc Hr.out (.cells #[.slice A1 n1 c1, .slice A2 n2 c2] 26))
  have U1 := qh (Hu.out.keepge (fun b _ hb => B1.out.block b hb))
  have x0 := P1.out.cell 0
  simp only [gT, gZ] at x0
  go_enter Tryz.func38, Tryz.ntmps38
  go_wp2_with fail
  generalize w.alloc (.cells #[.slice A1 n1 c1, .slice A2 n2 c2] 26) = w1 at B1 P1 R1 U1 x0 ⊢
  refine (markRow_any base A1 n1 c1 k room w1 R1.out h0 (by omega)).mono ?_; rintro e w2 ⟨rfl, hr2, hg2⟩
  have z1 := B1.out.size
  have z2 := hg2.size
  have P2 := qh (P1.out.grown hg2 (fun e => own_blk_ne R1.out P1.out (by decide) e.symm))
  have U2 := qh (U1.out.keepge (w' := w2) (fun b hb hlt => hg2.block b hlt (fun e => by have := Hm1.out b e.symm; omega)))
  have K2 := qh (show Below base w w2 from (B1.out.mono hbs).trans ⟨hg2.os, hg2.tape, hg2.output, hg2.size, fun b hb => hg2.block b (by omega) (fun e => by have h1 := (Hr.out.lt b e.symm); omega)⟩)
  have Kc := qh (show KpC w w2 from fun g cs hb => (hb.below B1.out hb.lt).grown hg2 (fun e => own_blk_ne R1.out (hb.below B1.out hb.lt) (by decide) e.symm))
  have Kh := qh (show KpH hi w w2 from fun b hb hlt => (hg2.block b (by omega) (fun e => by have := Hm1.out b e.symm; omega)).trans (B1.out.block b hlt))
  have R2 := qh hr2
  have x1 := P2.out.cell 1
  simp only [gT, gZ, gS] at x1
  clear hr2 hg2 R1 U1 P1 x0
  go_wp2_with fail
  refine (markUsH_any md hi A2 n2 c2 (k + n1) us w2 U2.out Hs.out (by omega) (by omega) (by omega)).mono ?_; rintro e w3 ⟨rfl, hu3, hk3, hc3, hh3⟩
  have R3 := qh (own_keep R2.out (fun b hb => hk3.block b (Hm1.out b hb)))
  go_wp2_with fail
  go_ret
  refine ⟨rfl, ⟨R3.out, md, Hm1.out, hm2, hmh, hu3⟩, K2.out.trans (hk3.mono hm2), Kc.out.trans hc3, Kh.out.trans (by omega) hh3⟩

end Go.Proofs.YtjjnbbkdjimcoaaGreat
