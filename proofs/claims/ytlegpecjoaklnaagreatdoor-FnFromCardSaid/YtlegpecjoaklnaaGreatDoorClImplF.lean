/- Walk: the program's ClusterFrom. -/
import Derived.Test.YtlegpecjoaklnaaGreatDoorClRead
import Derived.Test.YtlegpecjoaklnaaGreatDoorClImplB
import Derived.Test.YtlegpecjoaklnaaGreatDoorClAs
namespace Go.Proofs.YtlegpecjoaklnaaGreatDoor
open Go Go.RowKit
attribute [local go_sem ↓] Go.wp_at_zero Go.wp_at_succ

/-- The handle of the type 'error', as the library's variable holds it. -/
def HandleMet (w : World) : Prop := w.cell? ⟨0, 0, none⟩ = some (.iface 205 (.agg #[.pointer (some ⟨2, 95, none⟩)]))
theorem HandleMet.lt {w : World} (h : HandleMet w) : 0 < w.heap.size := World.block_lt_of_cell? w ⟨0, 0, none⟩ h
theorem HandleMet.up {w w' : World} {B : Nat} (h : HandleMet w) (hb : Below B w w') (hB : 0 < B) : HandleMet w' := (hb.cell (p := ⟨0, 0, none⟩) hB).trans h
theorem as_hit_below (e t : Addr) (old : Value) (w : World) (B : Nat) (hg : HandleMet w) (ht0 : w.cell? t = some old) (hf0 : w.frozen? t = false) (hB : B ≤ t.block) (hB2 : B ≤ w.heap.size) :
    Calls Tryz.prog 70 #[.iface 101 (.pointer (some e)), .iface 103 (.pointer (some t))] w fun ev w' => ev = .returned (.bool true) ∧ Below B w w' := by
  refine (as_hit e t old w hg ht0 hf0).mono ?_
  rintro ev w' ⟨rfl, rfl⟩
  refine ⟨rfl, ?_⟩
  have h1 := (Below.refl B w).alloc hB2 (.cells #[.pointer (some t)] 103)
  have h2 := h1.alloc (by simp; omega) (.cells #[.pointer (some ⟨2, 103, none⟩), .pointer (some ⟨w.heap.size, 0, none⟩), .int .u64 150] 157)
  have h3 := h2.alloc (by simp; omega) (.cells #[.pointer (some ⟨2, 103, none⟩), .pointer (some ⟨w.heap.size, 0, none⟩), .int .u64 150] 157)
  have h4 := h3.alloc (by simp; omega) (.cells #[.pointer (some e)] 101)
  exact h4.setCell hB _

theorem unitsI_short {zs : List Int} (hb : ∀ j, j < zs.length → inR 0 255 (zs[j]?.getD 0) = true) : ∀ F p us, unitsI zs F p = some us → us.length ≤ F ∧ ∀ u ∈ us, u.2.length ≤ 255 ∧ ∀ t ∈ u.2, t.2.length ≤ 3
  | 0, p, us, h => by
    injection h with h; subst h
    exact ⟨Nat.le_refl _, fun u hu => by simp at hu⟩
  | F + 1, p, us, h => by
    rw [unitsI] at h
    split at h
    · split at h
      · rename_i hub
        cases h2 : unitsI zs F (unitN zs p) with
        | none => rw [h2] at h; cases h
        | some l =>
          rw [h2] at h
          injection h with h
          subst h
          obtain ⟨i1, i2⟩ := unitsI_short hb F _ l h2
          refine ⟨by simp; omega, fun u hu => ?_⟩
          rcases List.mem_cons.1 hu with rfl | hu
          · have key : ∀ c a, ∀ t ∈ tkAt zs a c, t.2.length ≤ 3 := by
              intro c
              induction c with
              | zero => intro a t ht; simp [tkAt] at ht
              | succ c ih =>
                intro a t ht
                rw [tkAt] at ht
                rcases List.mem_cons.1 ht with rfl | ht
                · simp; omega
                · exact ih _ t ht
            refine ⟨?_, key _ _⟩
            rw [unitV, tkAt_len, ibyte]
            simp only [unitB, Bool.and_eq_true, decide_eq_true_eq] at hub
            have := inR_iff.1 (hb (p + 1) (by omega))
            omega
          · exact i2 u hu
      · cases h
    · injection h with h; subst h
      exact ⟨by simp, fun u hu => by simp at hu⟩
theorem fromI_bad {zs : List Int} (h : sumP zs < 0 ∨ zs.length = 0) : fromI zs = none := by unfold fromI; rw [if_pos h]
theorem fromI_few {zs : List Int} (h : zs.dropLast.length < 3 ∨ unitsI zs.dropLast zs.dropLast.length 3 = none) : fromI zs = none := by
  unfold fromI
  split
  · rfl
  · split
    · rfl
    · rename_i h3
      rcases h with h | h
      · exact absurd h h3
      · rw [h]
theorem fromI_no {zs : List Int} {us : List Un} (hu : unitsI zs.dropLast zs.dropLast.length 3 = some us) (h : ¬ (clOk (zs.dropLast.take 3) us = true ∧ bytesP (zs.dropLast.take 3) us = zs)) : fromI zs = none := by
  unfold fromI
  split
  · rfl
  · split
    · rfl
    · rw [hu]; dsimp only; rw [if_neg h]
theorem fromI_yes {zs : List Int} {us : List Un} (h0 : ¬ (sumP zs < 0 ∨ zs.length = 0)) (h3 : ¬ zs.dropLast.length < 3) (hu : unitsI zs.dropLast zs.dropLast.length 3 = some us) (h : clOk (zs.dropLast.take 3) us = true ∧ bytesP (zs.dropLast.take 3) us = zs) : fromI zs = some (zs.dropLast.take 3, us) := by
  unfold fromI
  rw [if_neg h0, if_neg h3, hu]
  dsimp only
  rw [if_pos h]

set_option maxRecDepth 100000 in
set_option maxHeartbeats 3200000 in
theorem clusterFromI_any (A : Option Addr) (n c : Nat) (zs : List Int) (w : World) (h : RdI w w.heap.size A n zs) (hc : n ≤ c) (hh : HandleMet w) :
    Calls Tryz.prog 22 #[.slice A n c] w fun e w' => ∃ A1 m1 c1 A2 m2 c2, e = .returned (.tuple #[.agg #[.slice A1 m1 c1, .slice A2 m2 c2], .bool (fromS zs).isSome]) ∧ OwnC w' w.heap.size (.slice A1 m1 c1) (.slice A2 m2 c2) m1 m2 (fromC zs).1 (fromC zs).2 ∧ Below w.heap.size w w' := by
  have hn := h.le
  have hl := Lib.hid h.len
  have H := Lib.hid h
  have HH := Lib.hid hh
  have l0 := hh.lt
  clear h hh
  have B1 := Lib.hid (alloc_up w (.cells #[.slice none 0 0, .slice none 0 0] 26))
  have P1 := Lib.hid (Blk.new w 26 #[.slice none 0 0, .slice none 0 0])
  have x0 := (P1.out).cell 0
  have x1 := (P1.out).cell 1
  simp only [List.getElem?_toArray, List.getElem?_cons_zero, List.getElem?_cons_succ] at x0 x1
  have x2 := (P1.out).frozen 0
  have x3 := (P1.out).frozen 1
  go_enter Tryz.func22, Tryz.ntmps22
  go_wp2_with fail
  generalize w.alloc (.cells #[.slice none 0 0, .slice none 0 0] 26) = w1 at B1 P1 x0 x1 x2 x3 ⊢
  refine (clusterSumI_any A n c w1.heap.size zs w1 (H.out.up B1.out)).mono ?_; rintro e w2 ⟨rfl, rfl⟩
  have lz1 := B1.out.size
  by_cases hs : sumP zs < 0
  · have Hno := Lib.hid (fromI_bad (.inl hs))
    go_wp2_with fail
    have hP := P1.out
    have KT := (KeepTU.set_ hP (by decide) (by decide) (by decide) 0 (.slice none 0 0)).trans (KeepTU.set_ (hP.set_ 0 (.slice none 0 0)) (by decide) (by decide) (by decide) 1 (.slice none 0 0))
    have EQ := Lib.hid ((hP.set_ 0 (.slice none 0 0)).set_ 1 (.slice none 0 0))
    have B9 := Lib.hid (((B1.out).setCell (p := ⟨w.heap.size, 0, none⟩) (by simp) (.slice none 0 0)).setCell (p := ⟨w.heap.size, 1, none⟩) (by simp) (.slice none 0 0))
    have OC := Lib.hid ((OwnC.none lz1).keepTU KT)
    clear hP KT
    generalize (World.setCell w1 ⟨w.heap.size, 0, none⟩ (.slice none 0 0)).setCell ⟨w.heap.size, 1, none⟩ (.slice none 0 0) = w9 at EQ B9 OC ⊢
    have z0 : w9.cell? ⟨w.heap.size, 0, none⟩ = some (.slice none 0 0) := EQ.out.cell 0
    have z1 : w9.cell? ⟨w.heap.size, 1, none⟩ = some (.slice none 0 0) := EQ.out.cell 1
    refine bodyPost_ret (v := .tuple #[.agg #[(.slice none 0 0), (.slice none 0 0)], .bool false]) (by simp [results, Tryz.results22, go_sem, z0, z1]) rfl ⟨none, 0, 0, none, 0, 0, by rw [← from_eq, Hno.out]; rfl, ?_, B9.out⟩
    rw [show fromC zs = ([], []) by rw [fromC, ← from_eq, Hno.out]; rfl]
    exact OC.out
  by_cases h0 : n = 0
  · subst h0
    have Hno := Lib.hid (fromI_bad (zs := zs) (.inr hl.out))
    go_wp2_with fail
    have hP := P1.out
    have KT := (KeepTU.set_ hP (by decide) (by decide) (by decide) 0 (.slice none 0 0)).trans (KeepTU.set_ (hP.set_ 0 (.slice none 0 0)) (by decide) (by decide) (by decide) 1 (.slice none 0 0))
    have EQ := Lib.hid ((hP.set_ 0 (.slice none 0 0)).set_ 1 (.slice none 0 0))
    have B9 := Lib.hid (((B1.out).setCell (p := ⟨w.heap.size, 0, none⟩) (by simp) (.slice none 0 0)).setCell (p := ⟨w.heap.size, 1, none⟩) (by simp) (.slice none 0 0))
    have OC := Lib.hid ((OwnC.none lz1).keepTU KT)
    clear hP KT
    generalize (World.setCell w1 ⟨w.heap.size, 0, none⟩ (.slice none 0 0)).setCell ⟨w.heap.size, 1, none⟩ (.slice none 0 0) = w9 at EQ B9 OC ⊢
    have z0 : w9.cell? ⟨w.heap.size, 0, none⟩ = some (.slice none 0 0) := EQ.out.cell 0
    have z1 : w9.cell? ⟨w.heap.size, 1, none⟩ = some (.slice none 0 0) := EQ.out.cell 1
    refine bodyPost_ret (v := .tuple #[.agg #[(.slice none 0 0), (.slice none 0 0)], .bool false]) (by simp [results, Tryz.results22, go_sem, z0, z1]) rfl ⟨none, 0, 0, none, 0, 0, by rw [← from_eq, Hno.out]; rfl, ?_, B9.out⟩
    rw [show fromC zs = ([], []) by rw [fromC, ← from_eq, Hno.out]; rfl]
    exact OC.out
  obtain ⟨b, o, rfl, lb, _⟩ := H.out.at_ (show 0 < n by omega)
  have Hs := Lib.hid hs
  have hok := Classical.not_not.1 (fun h => hs (sumP_neg.2 h))
  have Hn := Lib.hid (show n ≤ 200 by have := hok.2; have := hl.out; omega)
  have Hby := Lib.hid (fun j (hj : j < n) => all_iff_getD.1 hok.1 j (by rw [hl.out]; exact hj))
  obtain ⟨n', hn'⟩ : ∃ n', n = n' + 1 := ⟨n - 1, by omega⟩
  have hys : ∃ ys, ys = zs.dropLast := ⟨_, rfl⟩
  obtain ⟨ys, hys⟩ := hys
  have Hys := Lib.hid hys
  have Hyl := Lib.hid (show ys.length = n' by rw [hys, List.length_dropLast]; have := hl.out; omega)
  have Hyr := Lib.hid (fun (w' : World) (hb : Below w.heap.size w w') => show RdI w' w'.heap.size (some ⟨b, o, none⟩) n' ys from by
    have h1 := rdPart (H.out.up hb) (i := 0) (m := n') (by omega)
    rw [List.drop_zero, Nat.add_zero] at h1
    rwa [hys, List.dropLast_eq_take, show zs.length - 1 = n' by have := hl.out; omega])
  have Hyb := Lib.hid (fun j (hj : j < n') => show inR 0 255 (ys[j]?.getD 0) = true from by
    have := Hby.out j (by omega)
    rwa [hys, List.dropLast_eq_take, List.getElem?_take, if_pos (by have := hl.out; omega)])
  have w3 : IntKind.i64.wrap ((n : Int) - 1) = (n' : Int) := by rw [wr64 (by omega) (by omega)]; omega
  have k1 : (0 : Int) ≤ (n' : Int) := by omega
  have k2 : (n' : Int) ≤ (c : Int) := by omega
  have hne0 : ((n : Int) == 0) = false := by simp; omega
  clear hok hys
  -- the cursor's box
  have B2 := Lib.hid (B1.out.alloc lz1 (.cells #[.slice (some ⟨b, o, none⟩) n' c, .int .i64 0] 99))
  have P2 := Lib.hid (P1.out.alloc (.cells #[.slice (some ⟨b, o, none⟩) n' c, .int .i64 0] 99))
  have C2 := Lib.hid (Blk.new w1 99 #[.slice (some ⟨b, o, none⟩) n' c, .int .i64 0])
  have lw1 : w.heap.size < w1.heap.size := P1.out.lt
  have Hn1 := Lib.hid hn'
  have Hn2 := Lib.hid (show n' ≤ c by omega)
  clear hn' x0 x1 x2 x3
  go_wp2_with fail
  generalize hg1 : w1.heap.size = g1 at C2 lw1 ⊢
  clear hg1
  generalize w1.alloc (.cells #[.slice (some ⟨b, o, none⟩) n' c, .int .i64 0] 99) = w2 at B2 P2 C2 ⊢
  refine (read_any g1 b o n' c ys w2 C2.out (Hyr.out _ B2.out) (by omega) (by have := Hn.out; have := Hn1.out; omega) Hn2.out Hyb.out).mono ?_; rintro e w5 ⟨hres, hg5⟩
  have lz2 := B2.out.size
  have B5 := Lib.hid (OnlyG.to_below B2.out hg5 (by omega))
  have P5 := Lib.hid (hg5.blk P2.out (by omega))
  have lz5 := B5.out.size
  clear hg5 B1 P1 B2 P2 C2 lz1
  rcases hres with ⟨h3, us, A1, m1, c1, A2, m2, c2, hu, hul, rfl, hoc⟩ | ⟨h3, er, rfl, hE⟩
  · have Hu := Lib.hid hu
    have Hsh := Lib.hid (unitsI_short (zs := ys) (fun j hj => Hyb.out j (by rw [← Hyl.out]; exact hj)) n' 3 us hu)
    have HS := Lib.hid (show ShU us from ⟨hul, fun u hu => ⟨by have := (Hsh.out.2 u hu).1; omega, fun t ht => by have := (Hsh.out.2 u hu).2 t ht; omega⟩⟩)
    have hm1 : m1 ≤ 3 := by
      have := hoc.len
      have : (ys.take 3).length ≤ 3 := by simp; omega
      omega
    have H3 := Lib.hid h3
    have sz : (w5.alloc (.cells #[.slice A1 m1 c1, .slice A2 m2 c2] 26)).heap.size = w5.heap.size + 1 := World.size_alloc _ _
    have UB := Lib.hid ((alloc_up w5 (.cells #[.slice A1 m1 c1, .slice A2 m2 c2] 26)).alloc (by rw [sz]; omega) (.cells #[.pointer none] 101))
    have B6 := Lib.hid (below_to B5.out UB.out)
    have P6 := Lib.hid (P5.out.below UB.out P5.out.lt)
    have Q6 := Lib.hid ((Blk.new w5 26 #[.slice A1 m1 c1, .slice A2 m2 c2]).alloc (.cells #[.pointer none] 101))
    have OC6 := Lib.hid ((hoc.low lz2).keepTU (KeepTU.up UB.out))
    have lg : w.heap.size < w5.heap.size := P5.out.lt
    clear hu hoc h3 hul sz UB B5 P5
    have y0 := Q6.out.cell 0
    have y1 := Q6.out.cell 1
    simp only [List.getElem?_toArray, List.getElem?_cons_zero, List.getElem?_cons_succ] at y0 y1
    have lz6 := B6.out.size
    cases hcl : clOk (ys.take 3) us with
    | false =>
      have Hno := Lib.hid (fromI_no (zs := zs) (us := us) (by rw [← Hys.out, Hyl.out]; exact Hu.out) (by rw [← Hys.out, hcl]; simp))
      have hcall := Lib.hid (clusterValidI_any A1 A2 m1 c1 m2 c2 (ys.take 3) us _ (OC6.out.rd (by omega) HS.out) HS.out)
      go_wp2_with (first | (go_at_call 70; refine (as_nil _ _).mono ?_; rintro e wn ⟨rfl, rfl⟩) | (go_at_call 25; refine hcall.out.mono ?_; rintro e w7 ⟨rfl, hb7⟩; rw [hcl]; have B7 := Lib.hid (below_to B6.out hb7); have P7 := Lib.hid (P6.out.below hb7 P6.out.lt); have lz7 := B7.out.size; have x0 := P7.out.cell 0; have x1 := P7.out.cell 1; simp only [List.getElem?_toArray, List.getElem?_cons_zero, List.getElem?_cons_succ] at x0 x1; have x2 := P7.out.frozen 0; have x3 := P7.out.frozen 1))
      have hP := P7.out
      have KT := (KeepTU.set_ hP (by decide) (by decide) (by decide) 0 (.slice none 0 0)).trans (KeepTU.set_ (hP.set_ 0 (.slice none 0 0)) (by decide) (by decide) (by decide) 1 (.slice none 0 0))
      have EQ := Lib.hid ((hP.set_ 0 (.slice none 0 0)).set_ 1 (.slice none 0 0))
      have B9 := Lib.hid (((B7.out).setCell (p := ⟨w.heap.size, 0, none⟩) (by simp) (.slice none 0 0)).setCell (p := ⟨w.heap.size, 1, none⟩) (by simp) (.slice none 0 0))
      have OC := Lib.hid ((OwnC.none lz7).keepTU KT)
      clear hP KT
      generalize (World.setCell w7 ⟨w.heap.size, 0, none⟩ (.slice none 0 0)).setCell ⟨w.heap.size, 1, none⟩ (.slice none 0 0) = w9 at EQ B9 OC ⊢
      have z0 : w9.cell? ⟨w.heap.size, 0, none⟩ = some (.slice none 0 0) := EQ.out.cell 0
      have z1 : w9.cell? ⟨w.heap.size, 1, none⟩ = some (.slice none 0 0) := EQ.out.cell 1
      refine bodyPost_ret (v := .tuple #[.agg #[(.slice none 0 0), (.slice none 0 0)], .bool false]) (by simp [results, Tryz.results22, go_sem, z0, z1]) rfl ⟨none, 0, 0, none, 0, 0, by rw [← from_eq, Hno.out]; rfl, ?_, B9.out⟩
      rw [show fromC zs = ([], []) by rw [fromC, ← from_eq, Hno.out]; rfl]
      exact OC.out
    | true =>
      have hcall := Lib.hid (clusterValidI_any A1 A2 m1 c1 m2 c2 (ys.take 3) us _ (OC6.out.rd (by omega) HS.out) HS.out)
      have Hcl := Lib.hid hcl
      cases hsm : decide (bytesP (ys.take 3) us = zs) with
      | false =>
        have Hno := Lib.hid (fromI_no (zs := zs) (us := us) (by rw [← Hys.out, Hyl.out]; exact Hu.out) (by rw [← Hys.out]; exact fun hh => of_decide_eq_false hsm hh.2))
        go_wp2_with (first | (go_at_call 70; refine (as_nil _ _).mono ?_; rintro e wn ⟨rfl, rfl⟩) | (go_at_call 25; refine hcall.out.mono ?_; rintro e w7 ⟨rfl, hb7⟩; rw [hcl]; have B7 := Lib.hid (below_to B6.out hb7); have P7 := Lib.hid (P6.out.below hb7 P6.out.lt); have Q7 := Lib.hid (Q6.out.below hb7 Q6.out.lt); have OC7 := Lib.hid (OC6.out.keepTU (KeepTU.up hb7)); have y0 := Q7.out.cell 0; have y1 := Q7.out.cell 1; simp only [List.getElem?_toArray, List.getElem?_cons_zero, List.getElem?_cons_succ] at y0 y1) | (go_at_call 72; refine (bytesOf_any A1 A2 m1 c1 m2 c2 (ys.take 3) us _ (OC7.out.rd (by omega) HS.out) HS.out (by omega)).mono ?_; rintro e w8 ⟨A8, m8, c8, rfl, ho8, hb8⟩; have B8 := Lib.hid (below_to B7.out hb8); have P8 := Lib.hid (P7.out.below hb8 P7.out.lt); have Q8 := Lib.hid (Q7.out.below hb8 Q7.out.lt); have OC8 := Lib.hid (OC7.out.keepTU (KeepTU.up hb8)); have R8 := Lib.hid (own_rdI ho8 (own_le ho8)); have lz8 := B8.out.size; have y0 := Q8.out.cell 0; have y1 := Q8.out.cell 1; simp only [List.getElem?_toArray, List.getElem?_cons_zero, List.getElem?_cons_succ] at y0 y1; have x0 := P8.out.cell 0; have x1 := P8.out.cell 1; simp only [List.getElem?_toArray, List.getElem?_cons_zero, List.getElem?_cons_succ] at x0 x1; have x2 := P8.out.frozen 0; have x3 := P8.out.frozen 1) | (go_at_call 71; refine (equalI_any A8 (some ⟨b, o, none⟩) m8 c8 n c _ w.heap.size _ zs _ R8.out (H.out.below B8.out)).mono ?_; rintro e w9 ⟨rfl, q9, rfl⟩; rw [hsm]))
        have hP := P8.out.drewN q9
        have KT := (KeepTU.set_ hP (by decide) (by decide) (by decide) 0 (.slice none 0 0)).trans (KeepTU.set_ (hP.set_ 0 (.slice none 0 0)) (by decide) (by decide) (by decide) 1 (.slice none 0 0))
        have EQ := Lib.hid ((hP.set_ 0 (.slice none 0 0)).set_ 1 (.slice none 0 0))
        have B9 := Lib.hid (((below_drewN B8.out q9).setCell (p := ⟨w.heap.size, 0, none⟩) (by simp) (.slice none 0 0)).setCell (p := ⟨w.heap.size, 1, none⟩) (by simp) (.slice none 0 0))
        have OC := Lib.hid ((OwnC.none (w := w8.drewN q9) lz8).keepTU KT)
        clear hP KT
        generalize (World.setCell (w8.drewN q9) ⟨w.heap.size, 0, none⟩ (.slice none 0 0)).setCell ⟨w.heap.size, 1, none⟩ (.slice none 0 0) = w9 at EQ B9 OC ⊢
        have z0 : w9.cell? ⟨w.heap.size, 0, none⟩ = some (.slice none 0 0) := EQ.out.cell 0
        have z1 : w9.cell? ⟨w.heap.size, 1, none⟩ = some (.slice none 0 0) := EQ.out.cell 1
        refine bodyPost_ret (v := .tuple #[.agg #[(.slice none 0 0), (.slice none 0 0)], .bool false]) (by simp [results, Tryz.results22, go_sem, z0, z1]) rfl ⟨none, 0, 0, none, 0, 0, by rw [← from_eq, Hno.out]; rfl, ?_, B9.out⟩
        rw [show fromC zs = ([], []) by rw [fromC, ← from_eq, Hno.out]; rfl]
        exact OC.out
      | true =>
        have Hyes := Lib.hid (show fromI zs = some (ys.take 3, us) by
          have := fromI_yes (zs := zs) (us := us) (by have := Hs.out; have := hl.out; omega) (by rw [← Hys.out, Hyl.out]; have := H3.out; omega) (by rw [← Hys.out, Hyl.out]; exact Hu.out) (by rw [← Hys.out]; exact ⟨Hcl.out, of_decide_eq_true hsm⟩)
          rwa [← Hys.out] at this)
        go_wp2_with (first | (go_at_call 70; refine (as_nil _ _).mono ?_; rintro e wn ⟨rfl, rfl⟩) | (go_at_call 25; refine hcall.out.mono ?_; rintro e w7 ⟨rfl, hb7⟩; rw [hcl]; have B7 := Lib.hid (below_to B6.out hb7); have P7 := Lib.hid (P6.out.below hb7 P6.out.lt); have Q7 := Lib.hid (Q6.out.below hb7 Q6.out.lt); have OC7 := Lib.hid (OC6.out.keepTU (KeepTU.up hb7)); have y0 := Q7.out.cell 0; have y1 := Q7.out.cell 1; simp only [List.getElem?_toArray, List.getElem?_cons_zero, List.getElem?_cons_succ] at y0 y1) | (go_at_call 72; refine (bytesOf_any A1 A2 m1 c1 m2 c2 (ys.take 3) us _ (OC7.out.rd (by omega) HS.out) HS.out (by omega)).mono ?_; rintro e w8 ⟨A8, m8, c8, rfl, ho8, hb8⟩; have B8 := Lib.hid (below_to B7.out hb8); have P8 := Lib.hid (P7.out.below hb8 P7.out.lt); have Q8 := Lib.hid (Q7.out.below hb8 Q7.out.lt); have OC8 := Lib.hid (OC7.out.keepTU (KeepTU.up hb8)); have R8 := Lib.hid (own_rdI ho8 (own_le ho8)); have lz8 := B8.out.size; have y0 := Q8.out.cell 0; have y1 := Q8.out.cell 1; simp only [List.getElem?_toArray, List.getElem?_cons_zero, List.getElem?_cons_succ] at y0 y1; have x0 := P8.out.cell 0; have x1 := P8.out.cell 1; simp only [List.getElem?_toArray, List.getElem?_cons_zero, List.getElem?_cons_succ] at x0 x1; have x2 := P8.out.frozen 0; have x3 := P8.out.frozen 1) | (go_at_call 71; refine (equalI_any A8 (some ⟨b, o, none⟩) m8 c8 n c _ w.heap.size _ zs _ R8.out (H.out.below B8.out)).mono ?_; rintro e w9 ⟨rfl, q9, rfl⟩; rw [hsm]))
        have hP := P8.out.drewN q9
        have KT := (KeepTU.set_ hP (by decide) (by decide) (by decide) 0 (.slice A1 m1 c1)).trans (KeepTU.set_ (hP.set_ 0 (.slice A1 m1 c1)) (by decide) (by decide) (by decide) 1 (.slice A2 m2 c2))
        have EQ := Lib.hid ((hP.set_ 0 (.slice A1 m1 c1)).set_ 1 (.slice A2 m2 c2))
        have B9 := Lib.hid (((below_drewN B8.out q9).setCell (p := ⟨w.heap.size, 0, none⟩) (by simp) (.slice A1 m1 c1)).setCell (p := ⟨w.heap.size, 1, none⟩) (by simp) (.slice A2 m2 c2))
        have OC := Lib.hid ((show OwnC (w8.drewN q9) w.heap.size (.slice A1 m1 c1) (.slice A2 m2 c2) m1 m2 _ _ from OC8.out.keepTU (fun _ _ => rfl)).keepTU KT)
        clear hP KT
        generalize (World.setCell (w8.drewN q9) ⟨w.heap.size, 0, none⟩ (.slice A1 m1 c1)).setCell ⟨w.heap.size, 1, none⟩ (.slice A2 m2 c2) = w9 at EQ B9 OC ⊢
        have z0 : w9.cell? ⟨w.heap.size, 0, none⟩ = some (.slice A1 m1 c1) := EQ.out.cell 0
        have z1 : w9.cell? ⟨w.heap.size, 1, none⟩ = some (.slice A2 m2 c2) := EQ.out.cell 1
        refine bodyPost_ret (v := .tuple #[.agg #[(.slice A1 m1 c1), (.slice A2 m2 c2)], .bool true]) (by simp [results, Tryz.results22, go_sem, z0, z1]) rfl ⟨A1, m1, c1, A2, m2, c2, by rw [← from_eq, Hyes.out]; rfl, ?_, B9.out⟩
        rw [show fromC zs = (ys.take 3, us) by rw [fromC, ← from_eq, Hyes.out]; rfl]
        exact OC.out
  · obtain ⟨ae, rfl⟩ := hE
    have Hno := Lib.hid (fromI_few (zs := zs) (by rw [← Hys.out, Hyl.out]; exact h3))
    have sz : (w5.alloc (.cells #[.slice none 0 0, .slice none 0 0] 26)).heap.size = w5.heap.size + 1 := World.size_alloc _ _
    have UB := Lib.hid ((alloc_up w5 (.cells #[.slice none 0 0, .slice none 0 0] 26)).alloc (by rw [sz]; omega) (.cells #[.pointer none] 101))
    have B6 := Lib.hid (below_to B5.out UB.out)
    have P6 := Lib.hid (P5.out.below UB.out P5.out.lt)
    have hT := Blk.new (w5.alloc (.cells #[.slice none 0 0, .slice none 0 0] 26)) 101 #[.pointer none]
    rw [sz] at hT
    have T6 := Lib.hid hT
    have lg : w.heap.size < w5.heap.size := P5.out.lt
    clear hT sz UB B5 P5
    go_wp2_with (go_at_call 70; refine (as_hit_below ae ⟨w5.heap.size + 1, 0, none⟩ (.pointer none) _ (w5.heap.size + 1) (HH.out.up B6.out l0) (T6.out.cell 0) (T6.out.frozen 0) (Nat.le_refl _) (by have := T6.out.lt; omega)).mono ?_; rintro e w7 ⟨rfl, hb7⟩; have B7 := Lib.hid (B6.out.trans (hb7.mono (by omega))); have P7 := Lib.hid (P6.out.below hb7 (by omega)); have lz7 := B7.out.size; have x0 := P7.out.cell 0; have x1 := P7.out.cell 1; simp only [List.getElem?_toArray, List.getElem?_cons_zero, List.getElem?_cons_succ] at x0 x1; have x2 := P7.out.frozen 0; have x3 := P7.out.frozen 1)
    have hP := P7.out
    have KT := (KeepTU.set_ hP (by decide) (by decide) (by decide) 0 (.slice none 0 0)).trans (KeepTU.set_ (hP.set_ 0 (.slice none 0 0)) (by decide) (by decide) (by decide) 1 (.slice none 0 0))
    have EQ := Lib.hid ((hP.set_ 0 (.slice none 0 0)).set_ 1 (.slice none 0 0))
    have B9 := Lib.hid (((B7.out).setCell (p := ⟨w.heap.size, 0, none⟩) (by simp) (.slice none 0 0)).setCell (p := ⟨w.heap.size, 1, none⟩) (by simp) (.slice none 0 0))
    have OC := Lib.hid ((OwnC.none lz7).keepTU KT)
    clear hP KT
    generalize (World.setCell w7 ⟨w.heap.size, 0, none⟩ (.slice none 0 0)).setCell ⟨w.heap.size, 1, none⟩ (.slice none 0 0) = w9 at EQ B9 OC ⊢
    have z0 : w9.cell? ⟨w.heap.size, 0, none⟩ = some (.slice none 0 0) := EQ.out.cell 0
    have z1 : w9.cell? ⟨w.heap.size, 1, none⟩ = some (.slice none 0 0) := EQ.out.cell 1
    refine bodyPost_ret (v := .tuple #[.agg #[(.slice none 0 0), (.slice none 0 0)], .bool false]) (by simp [results, Tryz.results22, go_sem, z0, z1]) rfl ⟨none, 0, 0, none, 0, 0, by rw [← from_eq, Hno.out]; rfl, ?_, B9.out⟩
    rw [show fromC zs = ([], []) by rw [fromC, ← from_eq, Hno.out]; rfl]
    exact OC.out
end Go.Proofs.YtlegpecjoaklnaaGreatDoor
