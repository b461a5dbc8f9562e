/- The walk of the law FnExactClusterFrom: at every list of integers that can be read it returns true, and what was there stays. -/
import Derived.Test.YtfkobleefhpggaaDoorClMark
import Derived.Test.YtfkobleefhpggaaDoorClEq
import Derived.Test.YtfkobleefhpggaaDoorClImplF
namespace Go.Proofs.YtfkobleefhpggaaDoor
open Go Go.RowKit

theorem fromC_sm (zs : List Int) : SmU (fromC zs).2 ∧ (fromC zs).1.length ≤ 3 := by
  cases hS : fromS zs with
  | none => rw [fromC, hS]; exact ⟨⟨by simp, fun u hu => by simp at hu⟩, by simp⟩
  | some c =>
    rw [fromC, hS]
    unfold fromS at hS
    split at hS
    · cases hS
    · split at hS
      · rename_i hh
        injection hS with hS
        obtain ⟨f1, f2, f3, f4⟩ := clOk_facts hh.1
        rw [← hS]
        exact ⟨⟨f3, fun u hu => ⟨by have := (f4 u hu).1; omega, fun t ht => by have := (f4 u hu).2 t ht; omega⟩⟩, by simp; omega⟩
      · cases hS
theorem SmU.sh {us : List Un} (h : SmU us) : ShU us := ⟨by have := h.1; omega, fun u hu => ⟨by have := (h.2 u hu).1; omega, fun t ht => by have := (h.2 u hu).2 t ht; omega⟩⟩
theorem mkUL_short {us : List Un} (q : Int) (h : SmU us) (j : Nat) : ShU (mkUL q us j) := by
  refine ⟨by rw [mkUL_len]; have := h.1; omega, fun u hu => ?_⟩
  obtain ⟨i, hi, rfl⟩ := List.mem_iff_getElem.1 hu
  have hi' : i < us.length := by rwa [mkUL_len] at hi
  have := mkUL_at q us j i hi'
  rw [List.getElem?_eq_getElem hi, Option.getD_some] at this
  rw [this]
  have hb := un_getD h i
  split
  · rw [mkU]
    refine ⟨by rw [mkL_len]; omega, fun t ht => ?_⟩
    obtain ⟨k, hk, rfl⟩ := List.mem_iff_getElem.1 ht
    have hk' : k < (us[i]?.getD (false, [])).2.length := by rwa [mkL_len] at hk
    have e := mkL_at (posU q us i + 1) (us[i]?.getD (false, [])).2 (us[i]?.getD (false, [])).2.length k hk'
    rw [List.getElem?_eq_getElem hk, Option.getD_some] at e
    rw [e, if_pos hk', mkT, seqI_len]
    have := need_getD hb.2 k
    omega
  · exact ⟨by omega, fun t ht => by have := hb.2 t ht; omega⟩
theorem OwnC.keepge {w w' : World} {base m1 m2 : Nat} {v1 v2 : Value} {room : List Int} {us : List Un} (h : OwnC w base v1 v2 m1 m2 room us) (hk : ∀ b, base ≤ b → b < w.heap.size → w'.heap[b]? = w.heap[b]?) : OwnC w' base v1 v2 m1 m2 room us := by
  obtain ⟨h1, md, h2, h3, h4⟩ := h
  exact ⟨own_keep h1 (fun b hb => hk b (h1.lt b hb).1 (h1.lt b hb).2), md, h2, h3, h4.keepge (fun b hb hlt => hk b (by omega) hlt)⟩
theorem OwnC.len2 {w : World} {base m1 m2 c1 c2 : Nat} {A1 A2 : Option Addr} {room : List Int} {us : List Un} (h : OwnC w base (.slice A1 m1 c1) (.slice A2 m2 c2) m1 m2 room us) : us.length = m2 := by obtain ⟨_, _, _, _, h4⟩ := h; exact h4.len.1
/-- What is read below a bound. -/
def RdCB (w : World) (B : Nat) (A1 A2 : Option Addr) (n1 n2 : Nat) (room : List Int) (us : List Un) : Prop := RdI w B A1 n1 room ∧ RdN w B A2 n2 us
theorem RdCB.below {w w' : World} {B : Nat} {A1 A2 : Option Addr} {n1 n2 : Nat} {room : List Int} {us : List Un} (h : RdCB w B A1 A2 n1 n2 room us) (hb : Below B w w') : RdCB w' B A1 A2 n1 n2 room us := ⟨h.1.below hb, h.2.below hb⟩
theorem RdCB.rd {w : World} {B : Nat} {A1 A2 : Option Addr} {n1 n2 : Nat} {room : List Int} {us : List Un} (h : RdCB w B A1 A2 n1 n2 room us) (hB : B ≤ w.heap.size) : RdC w A1 A2 n1 n2 room us := ⟨h.1.more hB, h.2.more hB⟩

set_option maxRecDepth 100000 in
set_option maxHeartbeats 3200000 in
theorem exactClusterFrom_walk (A : Option Addr) (n c : Nat) (zs : List Int) (w : World) (h : RdI w w.heap.size A n zs) (hh : HandleMet w) :
    Calls Tryd.prog 3 #[.slice A n c] w fun e w' => e = .returned (.bool true) ∧ Below w.heap.size w w' := by
  obtain ⟨hsm, hr3⟩ := fromC_sm zs
  obtain ⟨rm, hrm⟩ : ∃ rm, (fromC zs).1 = rm := ⟨_, rfl⟩
  obtain ⟨us, hus⟩ : ∃ us, (fromC zs).2 = us := ⟨_, rfl⟩
  obtain ⟨fl, hfl⟩ : ∃ fl, (fromS zs).isSome = fl := ⟨_, rfl⟩
  rw [hus] at hsm
  rw [hrm] at hr3
  have Hrm := Lib.hid hrm
  have Hus := Lib.hid hus
  have Hfl := Lib.hid hfl
  have Hsm := Lib.hid hsm
  have Hsh := Lib.hid hsm.sh
  have hl := Lib.hid h.len
  have hn := h.le
  have H := Lib.hid h
  have HH := Lib.hid hh
  have l0 := hh.lt
  have hff : (fl != fl) = false := by simp
  clear hrm hus hfl hsm h hh
  by_cases k1 : 1048576 < n
  · go_enter Tryd.func3, Tryd.ntmps3
    go_wp2
    go_ret
    exact ⟨rfl, Below.refl _ _⟩
  go_enter Tryd.func3, Tryd.ntmps3
  go_wp2_with fail
  refine (toIntS_any A n c zs w H.out (by omega)).mono ?_; rintro e w1 ⟨rfl, o1, d1⟩
  have B1 := Lib.hid d1
  have R1 := Lib.hid (o1.rd' hl.out hn)
  clear o1 d1
  go_wp2_with fail
  refine (clusterFromS_any _ n n zs w1 R1.out (Nat.le_refl _)).mono ?_; rintro e w2 ⟨Aw1, p1, cw1, Aw2, p2, cw2, rfl, hoc, d2⟩
  rw [Hfl.out]
  rw [Hrm.out, Hus.out] at hoc
  have B2 := Lib.hid (below_to B1.out d2)
  have lp1 := Lib.hid hoc.len
  have lp2 := Lib.hid hoc.len2
  have hp1 : p1 ≤ 3 := by have := lp1.out; omega
  have hcw := hoc.rd (by omega) Hsh.out
  have RW := Lib.hid (show RdCB (w2.alloc (.cells #[.slice Aw1 p1 cw1, .slice Aw2 p2 cw2] 25)) w2.heap.size Aw1 Aw2 p1 p2 rm us from (show RdCB w2 w2.heap.size Aw1 Aw2 p1 p2 rm us from ⟨hcw.a, hcw.b⟩).below (alloc_up w2 _))
  have B3 := Lib.hid (B2.out.alloc B2.out.size (.cells #[.slice Aw1 p1 cw1, .slice Aw2 p2 cw2] 25))
  have PW := Lib.hid (Blk.new w2 25 #[.slice Aw1 p1 cw1, .slice Aw2 p2 cw2])
  have lw3 : w2.heap.size < (w2.alloc (.cells #[.slice Aw1 p1 cw1, .slice Aw2 p2 cw2] 25)).heap.size := by rw [World.size_alloc]; omega
  have lw2 := B2.out.size
  clear hoc d2 hcw B1 R1 B2
  go_wp2_with fail
  generalize hbw : w2.heap.size = bw at RW PW lw3 lw2 ⊢
  clear hbw
  generalize w2.alloc (.cells #[.slice Aw1 p1 cw1, .slice Aw2 p2 cw2] 25) = w3 at RW B3 PW lw3 ⊢
  -- the argument's copy
  refine (toIntS_any A n c zs w3 (H.out.up B3.out) (by omega)).mono ?_; rintro e w4 ⟨rfl, o4, d4⟩
  have B4 := Lib.hid (below_to B3.out d4)
  have R4 := Lib.hid (o4.rd' hl.out hn)
  have X4 := Lib.hid o4.2
  have RW4 := Lib.hid (RW.out.below (d4.mono (by omega)))
  have PW4 := Lib.hid (PW.out.below d4 PW.out.lt)
  have lx4 : w3.heap.size < w4.heap.size := o4.2.lt
  have D4 := Lib.hid d4
  clear o4 d4 RW PW
  go_wp2_with fail
  refine (clusterFromI_any _ n n zs w4 R4.out (Nat.le_refl _) (HH.out.up B4.out l0)).mono ?_; rintro e w5 ⟨Ag1, m1, cg1, Ag2, m2, cg2, rfl, hog, d5⟩
  rw [Hfl.out]
  rw [Hrm.out, Hus.out] at hog
  obtain rfl : m1 = p1 := by have := hog.len; have := lp1.out; omega
  obtain rfl : m2 = p2 := by have := hog.len2; have := lp2.out; omega
  have PG := Lib.hid (Blk.new w5 25 #[.slice Ag1 m1 cg1, .slice Ag2 m2 cg2])
  have d6 := below_to d5 (alloc_up w5 (.cells #[.slice Ag1 m1 cg1, .slice Ag2 m2 cg2] 25))
  have B6 := Lib.hid (below_to B4.out d6)
  have OG6 := Lib.hid (hog.keepTU (KeepTU.up (alloc_up w5 (.cells #[.slice Ag1 m1 cg1, .slice Ag2 m2 cg2] 25))))
  have RW6 := Lib.hid (RW4.out.below (d6.mono (by omega)))
  have PW6 := Lib.hid (PW4.out.below d6 PW4.out.lt)
  have X6 := Lib.hid (X4.out.below d6 lx4)
  have lz6 := d6.size
  have hz5 := d5.size
  clear hog d5 d6 B4 R4 X4 RW4 PW4
  have x0 := (PW6.out).cell 0
  have x1 := (PW6.out).cell 1
  simp only [List.getElem?_toArray, List.getElem?_cons_zero, List.getElem?_cons_succ] at x0 x1
  have y0 := (PG.out).cell 0
  have y1 := (PG.out).cell 1
  simp only [List.getElem?_toArray, List.getElem?_cons_zero, List.getElem?_cons_succ] at y0 y1
  go_wp2_with fail
  have Hbg := Lib.hid hz5
  clear hz5
  generalize hbg : w5.heap.size = bg at PG y0 y1 Hbg ⊢
  clear hbg
  generalize w5.alloc (.cells #[.slice Ag1 m1 cg1, .slice Ag2 m2 cg2] 25) = w6 at B6 OG6 RW6 PW6 X6 PG x0 x1 y0 y1 lz6 ⊢
  generalize w4.heap.size = bs at *
  refine (eqCluster_any Ag1 Ag2 Aw1 Aw2 m1 m2 cg1 cg2 cw1 cw2 rm us w6 (OG6.out.rd (by omega) Hsh.out) (RW6.out.rd (by omega))).mono ?_; rintro e w7 ⟨rfl, d7⟩
  have B7 := Lib.hid (below_to B6.out d7)
  have OG7 := Lib.hid (OG6.out.keepTU (KeepTU.up d7))
  have RW7 := Lib.hid (RW6.out.below (d7.mono (by omega)))
  have PW7 := Lib.hid (PW6.out.below d7 PW6.out.lt)
  have PG7 := Lib.hid (PG.out.below d7 PG.out.lt)
  have X7 := Lib.hid (X6.out.below d7 X6.out.lt)
  have lz7 := d7.size
  clear d7 B6 OG6 RW6 PW6 X6 PG x0 x1 y0 y1
  go_wp2_with fail
  refine (toIntS_any A n c zs w7 (H.out.up B7.out) (by omega)).mono ?_; rintro e w8 ⟨rfl, o8, d8⟩
  have R8 := Lib.hid (o8.rd' hl.out hn)
  have B8 := Lib.hid (below_to B7.out d8)
  have OG8 := Lib.hid (OG7.out.keepTU (KeepTU.up d8))
  have RW8 := Lib.hid (RW7.out.below (d8.mono (by omega)))
  have PW8 := Lib.hid (PW7.out.below d8 PW7.out.lt)
  have PG8 := Lib.hid (PG7.out.below d8 PG7.out.lt)
  have X8 := Lib.hid (X7.out.below d8 X7.out.lt)
  have lz8 := d8.size
  clear o8 d8 B7 OG7 RW7 PW7 PG7 X7
  go_wp2_with fail
  refine (eqIntS_any _ _ n n n w8.heap.size _ zs w8 (by have := (OwI.rd' (lo := 0) ⟨Nat.zero_le _, X8.out⟩ hl.out hn); exact this) R8.out).mono ?_; rintro e w9 ⟨rfl, m9, rfl⟩
  go_wp2_with fail
  refine (markIntS_any w3.heap.size n n 3 1 zs (w8.drewN m9) (X8.out.drewN m9) hl.out (by omega) (by omega)).mono ?_; rintro e w10 ⟨rfl, _, hk10⟩
  have B10 := Lib.hid (KeptOut.below (below_drewN B8.out m9) hk10 (by have := B3.out.size; omega))
  have OG10 := Lib.hid ((show OwnC (w8.drewN m9) bs (.slice Ag1 m1 cg1) (.slice Ag2 m2 cg2) m1 m2 rm us from OG8.out.keepTU (fun _ _ => rfl)).keepge (fun b hb hlt => hk10.block b hlt (.inr (by omega))))
  have RW10 := Lib.hid ((show RdCB (w8.drewN m9) bw Aw1 Aw2 m1 m2 rm us from ⟨RW8.out.1, RW8.out.2⟩).below ⟨hk10.os, hk10.tape, hk10.output, hk10.size, fun b hb => hk10.block b (by show b < w8.heap.size; omega) (.inl (by omega))⟩)
  have PW10 := Lib.hid (show Blk w10 bw 25 #[.slice Aw1 m1 cw1, .slice Aw2 m2 cw2] from (hk10.block bw PW8.out.lt (.inl (by omega))).trans PW8.out)
  have hgb : bs ≤ bg := Hbg.out
  have PG10 := Lib.hid (show Blk w10 bg 25 #[.slice Ag1 m1 cg1, .slice Ag2 m2 cg2] from (hk10.block bg PG8.out.lt (.inr (by omega))).trans PG8.out)
  have lz10 : w8.heap.size ≤ w10.heap.size := hk10.size
  clear hk10 B8 OG8 RW8 PW8 PG8 X8 R8
  have x0 := (PW10.out).cell 0
  have x1 := (PW10.out).cell 1
  simp only [List.getElem?_toArray, List.getElem?_cons_zero, List.getElem?_cons_succ] at x0 x1
  have y0 := (PG10.out).cell 0
  have y1 := (PG10.out).cell 1
  simp only [List.getElem?_toArray, List.getElem?_cons_zero, List.getElem?_cons_succ] at y0 y1
  have hn1 : ¬ (1 : Int) + (n : Int) < 0 := by omega
  go_wp2_with fail
  refine (eqCluster_any Ag1 Ag2 Aw1 Aw2 m1 m2 cg1 cg2 cw1 cw2 rm us w10 (OG10.out.rd (by omega) Hsh.out) (RW10.out.rd (by omega))).mono ?_; rintro e w11 ⟨rfl, d11⟩
  have B11 := Lib.hid (below_to B10.out d11)
  have OG11 := Lib.hid (OG10.out.keepTU (KeepTU.up d11))
  have RW11 := Lib.hid (RW10.out.below (d11.mono (by omega)))
  have PW11 := Lib.hid (PW10.out.below d11 PW10.out.lt)
  have PG11 := Lib.hid (PG10.out.below d11 PG10.out.lt)
  have lz11 := d11.size
  clear d11 B10 OG10 RW10 PW10 PG10 x0 x1 y0 y1
  have y0 := (PG11.out).cell 0
  have y1 := (PG11.out).cell 1
  simp only [List.getElem?_toArray, List.getElem?_cons_zero, List.getElem?_cons_succ] at y0 y1
  go_wp2_with fail
  refine (markCl_any bs Ag1 Ag2 m1 cg1 m2 cg2 1 rm us w11 OG11.out Hsm.out (by omega) (by omega) (by omega) (by omega)).mono ?_; rintro e w12 ⟨rfl, hom, hb12, hc12⟩
  have lz12 := hb12.size
  have OM12 := Lib.hid hom
  have RW12 := Lib.hid (RW11.out.below (hb12.mono (by omega)))
  have PW12 := Lib.hid (hc12 _ _ PW11.out)
  have PG12 := Lib.hid (hc12 _ _ PG11.out)
  have B12 := Lib.hid (B11.out.trans (hb12.mono (by have := B3.out.size; omega)))
  have HSm := Lib.hid (mkUL_short (1 + (m1 : Int)) Hsm.out m2)
  have hsq := seqI_len 1 m1
  clear hom hb12 hc12 B11 OG11 RW11 PW11 PG11 y0 y1
  have y0 := (PG12.out).cell 0
  have y1 := (PG12.out).cell 1
  simp only [List.getElem?_toArray, List.getElem?_cons_zero, List.getElem?_cons_succ] at y0 y1
  have M12 := OM12.out.rd (by omega) HSm.out
  go_wp2_with fail
  refine (heldCl_any Ag1 Ag2 m1 cg1 m2 cg2 1 us w12 M12.a M12.b Hsm.out (by omega) (by omega) (by omega)).mono ?_; rintro e w13 ⟨rfl, d13⟩
  have B13 := Lib.hid (below_to B12.out d13)
  have OM13 := Lib.hid (OM12.out.keepTU (KeepTU.up d13))
  have RW13 := Lib.hid (RW12.out.below (d13.mono (by omega)))
  have PW13 := Lib.hid (PW12.out.below d13 PW12.out.lt)
  have PG13 := Lib.hid (PG12.out.below d13 PG12.out.lt)
  have lz13 := d13.size
  have hq := (posU_bd (1 + (m1 : Int)) Hsm.out m2).1
  have hq0 : ¬ posU (1 + (m1 : Int)) us m2 < 0 := by omega
  clear M12 d13 B12 OM12 RW12 PW12 PG12 y0 y1
  obtain ⟨qq, hqq⟩ : ∃ qq, posU (1 + (m1 : Int)) us m2 = qq := ⟨_, rfl⟩
  have Hqq := Lib.hid hqq
  rw [hqq] at hq hq0
  rw [hqq]
  clear hqq
  -- a second call shares nothing with the first
  go_wp2_with fail
  refine (toIntS_any A n c zs w13 (H.out.up B13.out) (by omega)).mono ?_; rintro e w14 ⟨rfl, o14, d14⟩
  have B14 := Lib.hid (below_to B13.out d14)
  have R14 := Lib.hid (o14.rd' hl.out hn)
  clear o14
  go_wp2_with fail
  refine (clusterFromI_any _ n n zs w14 R14.out (Nat.le_refl _) (HH.out.up B14.out l0)).mono ?_; rintro e w15 ⟨Ah1, m3, ch1, Ah2, m4, ch2, rfl, hoh, d15⟩
  rw [Hfl.out]
  rw [Hrm.out, Hus.out] at hoh
  obtain rfl : m3 = m1 := by have := hoh.len; have := lp1.out; omega
  obtain rfl : m4 = m2 := by have := hoh.len2; have := lp2.out; omega
  have PH := Lib.hid (Blk.new w15 25 #[.slice Ah1 m3 ch1, .slice Ah2 m4 ch2])
  have d16 := below_to (below_to d14 d15) (alloc_up w15 (.cells #[.slice Ah1 m3 ch1, .slice Ah2 m4 ch2] 25))
  have B16 := Lib.hid (below_to B13.out d16)
  have OH16 := Lib.hid (hoh.keepTU (KeepTU.up (alloc_up w15 (.cells #[.slice Ah1 m3 ch1, .slice Ah2 m4 ch2] 25))))
  have OM16 := Lib.hid (OM13.out.keepTU (KeepTU.up d16))
  have RW16 := Lib.hid (RW13.out.below (d16.mono (by omega)))
  have PW16 := Lib.hid (PW13.out.below d16 PW13.out.lt)
  have PG16 := Lib.hid (PG13.out.below d16 PG13.out.lt)
  have lz16 := d16.size
  clear hoh d14 d15 d16 B13 B14 R14 OM13 RW13 PW13 PG13
  have x0 := (PW16.out).cell 0
  have x1 := (PW16.out).cell 1
  simp only [List.getElem?_toArray, List.getElem?_cons_zero, List.getElem?_cons_succ] at x0 x1
  have h0 := (PH.out).cell 0
  have h1 := (PH.out).cell 1
  simp only [List.getElem?_toArray, List.getElem?_cons_zero, List.getElem?_cons_succ] at h0 h1
  go_wp2_with fail
  generalize hbh : w15.heap.size = bh at PH h0 h1 ⊢
  clear hbh
  generalize w15.alloc (.cells #[.slice Ah1 m3 ch1, .slice Ah2 m4 ch2] 25) = w16 at B16 OH16 OM16 RW16 PW16 PG16 PH x0 x1 h0 h1 lz16 ⊢
  refine (eqCluster_any Ah1 Ah2 Aw1 Aw2 m3 m4 ch1 ch2 cw1 cw2 rm us w16 (OH16.out.rd (by omega) Hsh.out) (RW16.out.rd (by omega))).mono ?_; rintro e w17 ⟨rfl, d17⟩
  have B17 := Lib.hid (below_to B16.out d17)
  have OM17 := OM16.out.keepTU (KeepTU.up d17)
  have PG17 := Lib.hid (PG16.out.below d17 PG16.out.lt)
  have M17 := OM17.rd (by omega) HSm.out
  clear x0 x1 h0 h1 d17
  have y0 := (PG17.out).cell 0
  have y1 := (PG17.out).cell 1
  simp only [List.getElem?_toArray, List.getElem?_cons_zero, List.getElem?_cons_succ] at y0 y1
  have hcall := Lib.hid (heldCl_any Ag1 Ag2 m3 cg1 m4 cg2 1 us w17 M17.a M17.b Hsm.out (by omega) (by omega) (by omega))
  rw [Hqq.out] at hcall
  clear M17 OM17
  go_wp2_with (go_at_call 13; refine hcall.out.mono ?_; rintro e w18 ⟨rfl, d18⟩)
  go_ret
  exact ⟨rfl, below_to B17.out d18⟩
end Go.Proofs.YtfkobleefhpggaaDoor
