/- Walk: the cursor's read. -/
import Derived.Test.YtlegpecjoaklnaaGreatDoorClUnit
import Derived.Deep.LoopGhost
namespace Go.Proofs.YtlegpecjoaklnaaGreatDoor
open Go Go.RowKit
attribute [local go_sem ↓] Go.wp_at_zero Go.wp_at_succ

theorem unitsI_end {zs : List Int} {F p : Nat} (h : ¬ p < zs.length) : unitsI zs F p = some [] := by
  cases F with
  | zero => rfl
  | succ F => rw [unitsI, if_neg h]
theorem unitsI_bad {zs : List Int} {F p : Nat} (h : p < zs.length) (hb : unitB zs p = false) : unitsI zs (F + 1) p = none := by
  rw [unitsI, if_pos h, if_neg (by rw [hb]; simp)]
theorem unitsI_good {zs : List Int} {F p : Nat} (h : p < zs.length) (hb : unitB zs p = true) : unitsI zs (F + 1) p = (unitsI zs F (unitN zs p)).map (unitV zs p :: ·) := by
  rw [unitsI, if_pos h, if_pos hb]
theorem unitB_next {zs : List Int} {p : Nat} (h : unitB zs p = true) : p + 2 ≤ unitN zs p ∧ unitN zs p ≤ zs.length := by
  simp only [unitB, Bool.and_eq_true, decide_eq_true_eq] at h
  unfold unitN
  omega

set_option maxRecDepth 100000 in
set_option maxHeartbeats 3200000 in
theorem read_any (gc b o n c : Nat) (zs : List Int) (w : World) (hb : Blk w gc 99 #[.slice (some ⟨b, o, none⟩) n c, .int .i64 0]) (h : RdI w w.heap.size (some ⟨b, o, none⟩) n zs) (hbg : b ≠ gc) (hn : n ≤ 1000) (hc : n ≤ c) (hby : ∀ j, j < n → inR 0 255 (zs[j]?.getD 0) = true) :
    Calls Tryz.prog 69 #[.pointer (some ⟨gc, 0, none⟩)] w fun e w' =>
      ((3 ≤ n ∧ ∃ us A1 m1 c1 A2 m2 c2, unitsI zs n 3 = some us ∧ us.length ≤ 1000 ∧ e = .returned (.tuple #[.agg #[.slice A1 m1 c1, .slice A2 m2 c2], .nilIface]) ∧ OwnC w' w.heap.size (.slice A1 m1 c1) (.slice A2 m2 c2) m1 m2 (zs.take 3) us) ∨
       ((n < 3 ∨ unitsI zs n 3 = none) ∧ ∃ er, e = .returned (.tuple #[.agg #[.slice none 0 0, .slice none 0 0], er]) ∧ ErrU er)) ∧ OnlyG w w' gc := by
  obtain ⟨ui0, hu0, huz0, huz1, huz2⟩ := info_parts unit_info
  have hl := Lib.hid h.len
  have Hby := Lib.hid hby
  have lg := hb.lt
  have hne : gc ≠ w.heap.size := by omega
  have G1 := Lib.hid ((OnlyG.refl w gc).alloc (.cells #[.slice none 0 0, .slice none 0 0] 26))
  have C1 := Lib.hid (hb.alloc (.cells #[.slice none 0 0, .slice none 0 0] 26))
  have Z1 := Lib.hid (Blk.new w 26 #[.slice none 0 0, .slice none 0 0])
  have HZ := Lib.hid (fun w' (k : OnlyG w w' gc) => (rdOnly h k hbg (Nat.le_refl _)).more k.size)
  clear h hb hby
  obtain ⟨R, hR⟩ : ∃ R, unitsI zs n 3 = R := ⟨_, rfl⟩
  rw [hR]
  have HR := Lib.hid hR
  clear hR
  go_enter Tryz.func69, Tryz.ntmps69
  go_wp2_with fail
  generalize w.alloc (.cells #[.slice none 0 0, .slice none 0 0] 26) = w1 at G1 C1 Z1 ⊢
  refine (take_any gc b o n c 0 3 zs w1 C1.out (HZ.out _ G1.out) hbg (Nat.zero_le _) hn hc (by omega) (by omega)).mono ?_; rintro e w2 ⟨hres, hg2⟩
  have lz1 := G1.out.size
  have G2 := Lib.hid (G1.out.trans hg2)
  have Z2 := Lib.hid (hg2.blk Z1.out (fun e => hne e.symm))
  clear hg2
  rcases hres with ⟨h2, A3, c3, rfl, ho3, hb3⟩ | ⟨h2, er, rfl, hE⟩
  · rw [List.drop_zero] at ho3
    have O5 := Lib.hid (own_lo (own_alloc ho3 (.cells #[.slice A3 3 c3, .slice none 0 0] 26)) lz1)
    have Lo := Lib.hid (fun b hb => (ho3.lt b hb).2)
    have C5 := Lib.hid (hb3.alloc (.cells #[.slice A3 3 c3, .slice none 0 0] 26))
    have Z5 := Lib.hid (Z2.out.alloc (.cells #[.slice A3 3 c3, .slice none 0 0] 26))
    have G5 := Lib.hid (G2.out.alloc (.cells #[.slice A3 3 c3, .slice none 0 0] 26))
    have Q5 := Lib.hid (Blk.new w2 26 #[.slice A3 3 c3, .slice none 0 0])
    have lmd : w.heap.size < w2.heap.size := Z2.out.lt
    have lmd5 : w2.heap.size ≤ (w2.alloc (.cells #[.slice A3 3 c3, .slice none 0 0] 26)).heap.size := by rw [World.size_alloc]; omega
    have hmc : w2.heap.size ≠ gc := by omega
    clear ho3 hb3 G1 C1 Z1 G2 Z2
    go_wp2_with fail
    generalize w2.alloc (.cells #[.slice A3 3 c3, .slice none 0 0] 26) = w5 at O5 C5 Z5 G5 Q5 lmd5 ⊢
    generalize w2.heap.size = md at *
    go_loopg [] n (fun gk wr => ∃ (p k F : Nat) (A6 : Option Addr) (c6 : Nat) (vs : List Value) (tk : Nat → Value) (f : Nat → Nat) (us : List Un), n - p ≤ gk ∧ p ≤ n ∧ 3 + 2 * k ≤ p ∧ n ≤ F + p ∧ OnlyG w wr gc ∧ Blk wr gc 99 #[.slice (some ⟨b, o, none⟩) n c, .int .i64 (p : Int)] ∧ Blk wr w.heap.size 26 #[.slice none 0 0, .slice none 0 0] ∧
      Blk wr md 26 #[.slice A3 3 c3, .slice A6 k c6] ∧ wr.ownsRow w.heap.size 3 1 (.slice A3 3 c3) 3 ((zs.take 3).map (Value.int .i64)) ∧ wr.ownsRow md 52 2 (.slice A6 k c6) k vs ∧ NdUs wr k vs tk f us ∧ md ≤ f 0 ∧ f k ≤ wr.heap.size ∧ md ≤ wr.heap.size ∧ R = (unitsI zs F p).map (us ++ ·))
    case atStart => exact ⟨3, 0, n, none, 0, [], _, _, [], by omega, by omega, by omega, by omega, G5.out, C5.out, Z5.out, Q5.out, O5.out, ⟨rfl, .inl ⟨rfl, rfl⟩⟩, NdUs.nil md, Nat.le_refl _, lmd5, lmd5, by rw [HR.out]; cases R <;> rfl⟩
    case round =>
      clear G5 C5 Z5 Q5 O5 lmd5 HR
      obtain ⟨p, k, F, A6, c6, vs, tk, f, us, hgk, hp, hk, hF, hg, hcu, hz, hq, hrm, hun, hnd, hmd, hfk, lzm, hR⟩ := hrel
      have Hg := Lib.hid hg
      have Hc := Lib.hid hcu
      have Hz := Lib.hid hz
      have Hq := Lib.hid hq
      have Hrm := Lib.hid hrm
      have Hun := Lib.hid hun
      have Hnd := Lib.hid hnd
      have Hmd := Lib.hid hmd
      have Hfk := Lib.hid hfk
      have HR := Lib.hid hR
      have lzr := hg.size
      have lk : k ≤ 500 := by omega
      have y0 := hcu.cell 0
      have y1 := hcu.cell 1
      simp only [List.getElem?_toArray, List.getElem?_cons_zero, List.getElem?_cons_succ] at y0 y1
      clear hg hcu hz hq hrm hun hnd hmd hfk hR
      by_cases hlt : (p : Int) < (n : Int)
      · have hd : decide ((p : Int) < (n : Int)) = true := by simpa using hlt
        obtain ⟨F, rfl⟩ : ∃ G, F = G + 1 := ⟨F - 1, by omega⟩
        have hpl : Hid (p < zs.length) := by have := hl.out; show _ < _; omega
        go_wp2_with fail
        go_quiet (fail)
        clear y0 y1
        have Gd := Lib.hid (Hg.out.drewN nq)
        go_wp2_with fail
        refine (unit_any gc b o n c p zs (wr.drewN nq) (Hc.out.drewN nq) (HZ.out _ Gd.out) hbg hp hn hc Hby.out).mono ?_; rintro e w3 ⟨hres, hg3⟩
        have KT3 := Lib.hid (show KeepTI wr w3 from onlyG_ti (w := wr.drewN nq) hg3 (Hc.out.drewN nq) (by decide) (by decide))
        have G3 := Lib.hid (Gd.out.trans hg3)
        have Z3 := Lib.hid (hg3.blk (Hz.out.drewN nq) (fun e => hne e.symm))
        have Q3 := Lib.hid (hg3.blk (Hq.out.drewN nq) hmc)
        have U3 := Lib.hid (onlyG_own (w := wr.drewN nq) hg3 (Hc.out.drewN nq) Hun.out (by decide))
        have lz3 : wr.heap.size ≤ w3.heap.size := hg3.size
        rcases hres with ⟨hub, At, mt, ct, rfl, hts, hc3⟩ | ⟨hub, er, rfl, hE⟩
        · obtain ⟨hn1, hn2⟩ := unitB_next hub
          rw [hl.out] at hn2
          have HR9 := Lib.hid (show R = (unitsI zs F (unitN zs p)).map ((us ++ [unitV zs p]) ++ ·) by
            rw [HR.out, unitsI_good hpl.out hub]
            cases unitsI zs F (unitN zs p) with
            | none => rfl
            | some l => simp)
          have Hub := Lib.hid hub
          generalize hN : unitN zs p = p2 at *
          have HN := Lib.hid hN
          generalize unitV zs p = uv at *
          obtain ⟨op, ts⟩ := uv
          dsimp only at hts
          have Hts := Lib.hid hts
          clear hts hub hN hg3
          have sz : (w3.alloc (.cells #[.bool op, .slice At mt ct] 52)).heap.size = w3.heap.size + 1 := World.size_alloc _ _
          have Own7 := Lib.hid (own_alloc (own_alloc U3.out (.cells #[.bool op, .slice At mt ct] 52)) (.cells #[.bool op, .slice At mt ct] 52))
          have hX := lit2 (w3.alloc (.cells #[.bool op, .slice At mt ct] 52)) 52 (.bool op) (.slice At mt ct)
          rw [sz] at hX
          have X7 := Lib.hid hX
          have Q7 := Lib.hid ((Q3.out.alloc (.cells #[.bool op, .slice At mt ct] 52)).alloc (.cells #[.bool op, .slice At mt ct] 52))
          have y1 := (Q3.out.alloc (.cells #[.bool op, .slice At mt ct] 52)).cell 1
          simp only [List.getElem?_toArray, List.getElem?_cons_zero, List.getElem?_cons_succ] at y1
          have lz7 : md ≤ ((w3.alloc (.cells #[.bool op, .slice At mt ct] 52)).alloc (.cells #[.bool op, .slice At mt ct] 52)).heap.size := by rw [World.size_alloc, sz]; omega
          have lz7' : w3.heap.size ≤ ((w3.alloc (.cells #[.bool op, .slice At mt ct] 52)).alloc (.cells #[.bool op, .slice At mt ct] 52)).heap.size := by rw [World.size_alloc, sz]; omega
          clear hX sz
          go_wp2_with (at_builtin; refine wpList_append_src _ rfl _ _ 24 rfl md 52 ui0 _ 2 32 Tryz.underlying24 hu0 huz0 huz1 huz2 rfl (by omega) (.slice A6 k c6) k vs rfl Own7.out (some ⟨w3.heap.size + 1, 0, none⟩) 1 1 [.bool op, .slice At mt ct] rfl X7.out (one2 _ _ rfl rfl) (by unfold maxLen; omega) (by omega) lz7 ?_; intro v' w8 hown8 hgrow8 hat8; obtain ⟨A8, c8, rfl⟩ := own_shape hown8; have HG8 := Lib.hid hgrow8; have Cl8 := Lib.hid (Q7.out.grown hgrow8 (fun e => own_blk_ne Own7.out Q7.out (by decide) e.symm)); have y8 := Cl8.out.cell 1; simp only [List.getElem?_toArray, List.getElem?_cons_zero, List.getElem?_cons_succ] at y8; have f8 := Cl8.out.frozen 1; have Own8 := Lib.hid hown8; clear hown8 hat8 hgrow8)
          have KTa := Lib.hid ((((KeepTI.up (alloc_up w3 (.cells #[.bool op, .slice At mt ct] 52))).trans (KeepTI.up (alloc_up (w3.alloc (.cells #[.bool op, .slice At mt ct] 52)) (.cells #[.bool op, .slice At mt ct] 52)))).trans (KeepTI.grown Own7.out HG8.out (by decide) (by decide))).trans (KeepTI.set_ Cl8.out (by decide) (by decide) 1 (.slice A8 (k + 1) c8)))
          have KT := Lib.hid (KT3.out.trans KTa.out)
          have C9 := Lib.hid ((((hc3.alloc (.cells #[.bool op, .slice At mt ct] 52)).alloc (.cells #[.bool op, .slice At mt ct] 52)).grown HG8.out (fun e => own_blk_ne Own7.out ((hc3.alloc (.cells #[.bool op, .slice At mt ct] 52)).alloc (.cells #[.bool op, .slice At mt ct] 52)) (by decide) e.symm)).far (p := ⟨md, 1, none⟩) (fun e => hmc e.symm) (.slice A8 (k + 1) c8))
          have Z9 := Lib.hid ((((Z3.out.alloc (.cells #[.bool op, .slice At mt ct] 52)).alloc (.cells #[.bool op, .slice At mt ct] 52)).grown HG8.out (fun e => own_blk_ne Own7.out ((Z3.out.alloc (.cells #[.bool op, .slice At mt ct] 52)).alloc (.cells #[.bool op, .slice At mt ct] 52)) (by decide) e.symm)).far (p := ⟨md, 1, none⟩) (by show w.heap.size ≠ md; omega) (.slice A8 (k + 1) c8))
          have Q9 := Lib.hid (show Blk (w8.setCell ⟨md, 1, none⟩ (.slice A8 (k + 1) c8)) md 26 #[.slice A3 3 c3, .slice A8 (k + 1) c8] from Cl8.out.set_ 1 (.slice A8 (k + 1) c8))
          have Un9 := Lib.hid (own_keep Own8.out (w' := w8.setCell ⟨md, 1, none⟩ (.slice A8 (k + 1) c8)) (fun b hb => Below.heap_setCell _ _ _ _ (fun e => own_blk_ne Own8.out Cl8.out (by decide) (by rw [hb, e]))))
          have G9 := Lib.hid ((((G3.out.alloc (.cells #[.bool op, .slice At mt ct] 52)).alloc (.cells #[.bool op, .slice At mt ct] 52)).grown HG8.out (fun r e => by have := (Own7.out.lt r e).1; omega)).set_new (p := ⟨md, 1, none⟩) (by show w.heap.size ≤ md; omega) (.slice A8 (k + 1) c8))
          have sz9 : w3.heap.size ≤ (w8.setCell ⟨md, 1, none⟩ (.slice A8 (k + 1) c8)).heap.size := by have := HG8.out.size; simp only [World.setCell, Array.size_modify]; omega
          have hx := ((OwnTs.toB Hts.out).wide (show f k ≤ (wr.drewN nq).heap.size from Hfk.out) (Nat.le_refl _)).keep (fun b _ _ hb => KTa.out b hb)
          have hns := (Hnd.out.keepTI KT.out).snoc (op := op) (by have := Hun.out.1; omega) hx (Nat.le_trans Hfk.out lz3)
          have Nd9 := Lib.hid hns
          have Rm9 := Lib.hid (own_keepTI Hrm.out (.inl rfl) KT.out)
          clear hx hns y1 y8 f8 hc3
          go_roundg (n - p2)
          case measure => omega
          case rel => exact ⟨p2, k + 1, F, A8, c8, _, _, _, _, Nat.le_refl _, hn2, by omega, by omega, G9.out, C9.out, Z9.out, Q9.out, Rm9.out, Un9.out, Nd9.out, by show md ≤ (if 0 = k + 1 then _ else f 0); rw [if_neg (by omega)]; exact Hmd.out, by show (if k + 1 = k + 1 then w3.heap.size else _) ≤ _; rw [if_pos rfl]; exact sz9, by omega, HR9.out⟩
        · obtain ⟨ae, rfl⟩ := hE
          have hno := Lib.hid (show R = none by rw [HR.out, unitsI_bad hpl.out hub]; rfl)
          have Z4 := Lib.hid (Z3.out.alloc (.cells #[.bool false, .slice none 0 0] 52))
          have G4 := Lib.hid (G3.out.alloc (.cells #[.bool false, .slice none 0 0] 52))
          have x0 := (Z4.out).cell 0
          have x1 := (Z4.out).cell 1
          simp only [List.getElem?_toArray, List.getElem?_cons_zero, List.getElem?_cons_succ] at x0 x1
          have x2 := (Z4.out).frozen 0
          have x3 := (Z4.out).frozen 1
          go_wp2_with fail
          have EQ := Lib.hid (((Z4.out).set_ 0 (.slice none 0 0)).set_ 1 (.slice none 0 0))
          have G9 := Lib.hid (((G4.out).set_new (p := ⟨w.heap.size, 0, none⟩) (Nat.le_refl _) (.slice none 0 0)).set_new (p := ⟨w.heap.size, 1, none⟩) (Nat.le_refl _) (.slice none 0 0))
          generalize World.setCell (World.setCell (w3.alloc (.cells #[.bool false, .slice none 0 0] 52)) ⟨w.heap.size, 0, none⟩ (.slice none 0 0)) ⟨w.heap.size, 1, none⟩ (.slice none 0 0) = w9 at EQ G9 ⊢
          have z0 : w9.cell? ⟨w.heap.size, 0, none⟩ = some (.slice none 0 0) := EQ.out.cell 0
          have z1 : w9.cell? ⟨w.heap.size, 1, none⟩ = some (.slice none 0 0) := EQ.out.cell 1
          refine bodyPost_ret (v := .tuple #[.agg #[.slice none 0 0, .slice none 0 0], .iface 101 (.pointer (some ae))]) (by simp [results, Tryz.results69, go_sem, z0, z1]) rfl ⟨.inr ⟨.inr hno.out, _, rfl, _, rfl⟩, G9.out⟩
      · have hd : decide ((p : Int) < (n : Int)) = false := by simpa using hlt
        have hyes := Lib.hid (show R = some us by rw [HR.out, unitsI_end (by have := hl.out; omega)]; simp)
        have lus : Hid (us.length ≤ 1000) := by have := Hnd.out.1; show _ ≤ _; omega
        go_wp2_with fail
        go_quiet (fail)
        have Gd := Lib.hid (Hg.out.drewN nq)
        have q0 := Hq.out.cell 0
        have q1 := Hq.out.cell 1
        simp only [List.getElem?_toArray, List.getElem?_cons_zero, List.getElem?_cons_succ] at q0 q1
        have x0 := ((Hz.out.drewN nq)).cell 0
        have x1 := ((Hz.out.drewN nq)).cell 1
        simp only [List.getElem?_toArray, List.getElem?_cons_zero, List.getElem?_cons_succ] at x0 x1
        have x2 := ((Hz.out.drewN nq)).frozen 0
        have x3 := ((Hz.out.drewN nq)).frozen 1
        go_wp2_with fail
        have KT := ((KeepTI.refl wr).trans (fun b hb => rfl : KeepTI wr (wr.drewN nq))).trans ((KeepTI.set_ (Hz.out.drewN nq) (by decide) (by decide) 0 (.slice A3 3 c3)).trans (KeepTI.set_ ((Hz.out.drewN nq).set_ 0 (.slice A3 3 c3)) (by decide) (by decide) 1 (.slice A6 k c6)))
        have EQ := Lib.hid (((Hz.out.drewN nq).set_ 0 (.slice A3 3 c3)).set_ 1 (.slice A6 k c6))
        have G9 := Lib.hid ((Gd.out.set_new (p := ⟨w.heap.size, 0, none⟩) (Nat.le_refl _) (.slice A3 3 c3)).set_new (p := ⟨w.heap.size, 1, none⟩) (Nat.le_refl _) (.slice A6 k c6))
        have Rm9 := Lib.hid (own_keepTI Hrm.out (.inl rfl) KT)
        have Nd9 := Lib.hid (Hnd.out.keepTI KT)
        have U9 := Lib.hid (own_keep (w := wr.drewN nq) Hun.out (w' := ((wr.drewN nq).setCell ⟨w.heap.size, 0, none⟩ (.slice A3 3 c3)).setCell ⟨w.heap.size, 1, none⟩ (.slice A6 k c6)) (fun b hb => have hbb : b ≠ w.heap.size := fun e => own_blk_ne (w := wr.drewN nq) Hun.out (Hz.out.drewN nq) (by decide) (by rw [hb, e])
          (Below.heap_setCell _ _ _ b hbb).trans (Below.heap_setCell _ _ _ b hbb)))
        clear KT
        generalize World.setCell (World.setCell (wr.drewN nq) ⟨w.heap.size, 0, none⟩ (.slice A3 3 c3)) ⟨w.heap.size, 1, none⟩ (.slice A6 k c6) = w9 at EQ G9 Rm9 Nd9 U9 ⊢
        have z0 : w9.cell? ⟨w.heap.size, 0, none⟩ = some (.slice A3 3 c3) := EQ.out.cell 0
        have z1 : w9.cell? ⟨w.heap.size, 1, none⟩ = some (.slice A6 k c6) := EQ.out.cell 1
        refine bodyPost_ret (v := .tuple #[.agg #[.slice A3 3 c3, .slice A6 k c6], .nilIface]) (by simp [results, Tryz.results69, go_sem, z0, z1]) rfl ⟨.inl ⟨by omega, us, A3, 3, c3, A6, k, c6, hyes.out, lus.out, rfl, Rm9.out, md, Lo.out, by omega, vs, tk, f, U9.out, Nd9.out, Hmd.out⟩, G9.out⟩
  · obtain ⟨ae, rfl⟩ := hE
    have hno : n < 3 := by omega
    have x0 := (Z2.out).cell 0
    have x1 := (Z2.out).cell 1
    simp only [List.getElem?_toArray, List.getElem?_cons_zero, List.getElem?_cons_succ] at x0 x1
    have x2 := (Z2.out).frozen 0
    have x3 := (Z2.out).frozen 1
    go_wp2_with fail
    have EQ := Lib.hid (((Z2.out).set_ 0 (.slice none 0 0)).set_ 1 (.slice none 0 0))
    have G9 := Lib.hid (((G2.out).set_new (p := ⟨w.heap.size, 0, none⟩) (Nat.le_refl _) (.slice none 0 0)).set_new (p := ⟨w.heap.size, 1, none⟩) (Nat.le_refl _) (.slice none 0 0))
    generalize World.setCell (World.setCell w2 ⟨w.heap.size, 0, none⟩ (.slice none 0 0)) ⟨w.heap.size, 1, none⟩ (.slice none 0 0) = w9 at EQ G9 ⊢
    have z0 : w9.cell? ⟨w.heap.size, 0, none⟩ = some (.slice none 0 0) := EQ.out.cell 0
    have z1 : w9.cell? ⟨w.heap.size, 1, none⟩ = some (.slice none 0 0) := EQ.out.cell 1
    refine bodyPost_ret (v := .tuple #[.agg #[.slice none 0 0, .slice none 0 0], .iface 101 (.pointer (some ae))]) (by simp [results, Tryz.results69, go_sem, z0, z1]) rfl ⟨.inr ⟨.inl hno, _, rfl, _, rfl⟩, G9.out⟩
end Go.Proofs.YtlegpecjoaklnaaGreatDoor
