/- Walk: the reference's ClusterFrom. -/
import Derived.Test.YtlegpecjoaklnaaGreatDoorClSpecR
namespace Go.Proofs.YtlegpecjoaklnaaGreatDoor
open Go Go.RowKit
attribute [local go_sem ↓] Go.wp_at_zero Go.wp_at_succ

/-- A block of integers, of tasks or of units. -/
def IsTU (w : World) (b : Nat) : Prop := ∃ t cs, (t = 3 ∨ t = 33 ∨ t = 52) ∧ Blk w b t cs
def KeepTU (w w' : World) : Prop := ∀ b, IsTU w b → w'.heap[b]? = w.heap[b]?
section
variable {w w' a b c : World}
theorem KeepTU.up (h : Below a.heap.size a b) : KeepTU a b := fun g hg => by obtain ⟨_, _, _, hb⟩ := hg; exact h.block g hb.lt
theorem KeepTU.trans (h : KeepTU a b) (k : KeepTU b c) : KeepTU a c := fun g hg => (k g (by obtain ⟨t, cs, ht, hb⟩ := hg; exact ⟨t, cs, ht, (h g ⟨t, cs, ht, hb⟩).trans hb⟩)).trans (h g hg)
theorem KeepTU.ti (h : KeepTU a b) : KeepTI a b := fun g hg => h g (by obtain ⟨t, cs, ht, hb⟩ := hg; exact ⟨t, cs, ht.elim .inl (fun h => .inr (.inl h)), hb⟩)
theorem KeepTU.set_ {g : Nat} {t : TypeId} {cs : Array Value} (hb : Blk a g t cs) (h1 : t ≠ 3) (h2 : t ≠ 33) (h3 : t ≠ 52) (i : Nat) (u : Value) : KeepTU a (a.setCell ⟨g, i, none⟩ u) := fun k hk => Below.heap_setCell _ _ _ _ (by
  rintro rfl
  obtain ⟨t', cs', ht, hb'⟩ := hk
  unfold Blk at hb hb'
  rw [hb] at hb'
  injection hb' with e
  injection e with _ e
  rcases ht with rfl | rfl | rfl
  · exact h1 e
  · exact h2 e
  · exact h3 e)
theorem OwnUs.keepTU {base n : Nat} {v : Value} {us : List Un} (h : OwnUs w base v n us) (hk : KeepTU w w') : OwnUs w' base v n us := by
  obtain ⟨vs, tk, f, h1, h2, h3⟩ := h
  exact ⟨vs, tk, f, own_keepB h1 (fun b cs _ hc => hk b ⟨_, cs, .inr (.inr rfl), hc⟩), h2.keepTI hk.ti, h3⟩
theorem OwnC.keepTU {base m1 m2 : Nat} {v1 v2 : Value} {room : List Int} {us : List Un} (h : OwnC w base v1 v2 m1 m2 room us) (hk : KeepTU w w') : OwnC w' base v1 v2 m1 m2 room us := by
  obtain ⟨h1, md, h2, h3, h4⟩ := h
  exact ⟨own_keepTI h1 (.inl rfl) hk.ti, md, h2, h3, h4.keepTU hk⟩
theorem OwnC.low {base base' m1 m2 : Nat} {v1 v2 : Value} {room : List Int} {us : List Un} (h : OwnC w base v1 v2 m1 m2 room us) (hb : base' ≤ base) : OwnC w base' v1 v2 m1 m2 room us := by
  obtain ⟨h1, md, h2, h3, h4⟩ := h
  exact ⟨own_lo h1 hb, md, h2, Nat.le_trans hb h3, h4⟩
theorem OwnC.none {base : Nat} (hb : base ≤ w.heap.size) : OwnC w base (.slice none 0 0) (.slice none 0 0) 0 0 [] [] :=
  ⟨⟨rfl, .inl ⟨rfl, rfl⟩⟩, w.heap.size, fun b hb => by simp [Value.ownBlock] at hb, hb, [], _, _, ⟨rfl, .inl ⟨rfl, rfl⟩⟩, NdUs.nil w.heap.size, Nat.le_refl _⟩
theorem OwnC.rd {base m1 m2 c1 c2 : Nat} {A1 A2 : Option Addr} {room : List Int} {us : List Un} (h : OwnC w base (.slice A1 m1 c1) (.slice A2 m2 c2) m1 m2 room us) (hm : m1 ≤ 9223372036854775807) (hs : ShU us) : RdC w A1 A2 m1 m2 room us := by
  obtain ⟨h1, md, _, _, h4⟩ := h
  refine ⟨own_rdI h1 hm, h4.rd (by have := h4.len.1; have := hs.1; omega) (fun u hu => ?_)⟩
  have := hs.2 u hu
  exact ⟨by omega, fun t ht => by have := this.2 t ht; omega⟩
theorem OwnC.len {base m1 m2 : Nat} {v1 v2 : Value} {room : List Int} {us : List Un} (h : OwnC w base v1 v2 m1 m2 room us) : room.length = m1 := by have := h.1.1; simpa using this
end

theorem unitsS_short (zs : List Int) : ∀ F p k, k ≤ 10 → (unitsS zs F p k).length + k ≤ 10 ∧ ∀ u ∈ unitsS zs F p k, u.2.length ≤ 14 ∧ ∀ t ∈ u.2, t.2.length ≤ 3
  | 0, _, _, hk => ⟨by simp [unitsS]; omega, fun u hu => by simp [unitsS] at hu⟩
  | F + 1, p, k, hk => by
    rw [unitsS]
    split
    · rename_i hg
      simp only [goB, Bool.and_eq_true, decide_eq_true_eq] at hg
      obtain ⟨i1, i2⟩ := unitsS_short zs F (unitN zs p) (k + 1) (by omega)
      refine ⟨by rw [List.length_cons]; omega, fun u hu => ?_⟩
      rcases List.mem_cons.1 hu with rfl | hu
      · refine ⟨by rw [unitV, tkAt_len]; omega, ?_⟩
        have key : ∀ c a, ∀ t ∈ tkAt zs a c, t.2.length ≤ 3 := by
          intro c
          induction c with
          | zero => intro a t ht; simp [tkAt] at ht
          | succ c ih =>
            intro a t ht
            rw [tkAt] at ht
            rcases List.mem_cons.1 ht with rfl | ht
            · simp; omega
            · exact ih _ t ht
        exact key _ _
      · exact i2 u hu
    · exact ⟨by simp; omega, fun u hu => by simp at hu⟩
theorem unitsS_sh (zs : List Int) (F : Nat) : ShU (unitsS zs F 3 0) := by
  obtain ⟨h1, h2⟩ := unitsS_short zs F 3 0 (by omega)
  exact ⟨by omega, fun u hu => ⟨by have := (h2 u hu).1; omega, fun t ht => by have := (h2 u hu).2 t ht; omega⟩⟩

/-- The cluster that is handed out. -/
def fromC (zs : List Int) : List Int × List Un := (fromS zs).getD ([], [])
theorem fromS_neg {zs : List Int} (h : sumP zs < 0) : fromS zs = none := by unfold fromS; rw [if_pos (.inl h)]
theorem fromS_few {zs : List Int} (h : zs.length < 4) : fromS zs = none := by unfold fromS; rw [if_pos (.inr h)]
theorem fromS_no {zs : List Int} (h : ¬ (clOk (zs.take 3) (unitsS zs zs.length 3 0) = true ∧ bytesP (zs.take 3) (unitsS zs zs.length 3 0) = zs)) : fromS zs = none := by
  unfold fromS
  split
  · rfl
  · rfl
theorem fromS_yes {zs : List Int} (h1 : ¬ sumP zs < 0) (h2 : ¬ zs.length < 4) (h : clOk (zs.take 3) (unitsS zs zs.length 3 0) = true ∧ bytesP (zs.take 3) (unitsS zs zs.length 3 0) = zs) : fromS zs = some (zs.take 3, unitsS zs zs.length 3 0) := by
  unfold fromS; rw [if_neg (by omega), if_pos h]
set_option maxRecDepth 100000 in
set_option maxHeartbeats 1600000 in
theorem clusterFromS_any (A : Option Addr) (n c : Nat) (zs : List Int) (w : World) (h : RdI w w.heap.size A n zs) (hc : n ≤ c) :
    Calls Tryz.prog 23 #[.slice A n c] w fun e w' => ∃ A1 m1 c1 A2 m2 c2, e = .returned (.tuple #[.agg #[.slice A1 m1 c1, .slice A2 m2 c2], .bool (fromS zs).isSome]) ∧ OwnC w' w.heap.size (.slice A1 m1 c1) (.slice A2 m2 c2) m1 m2 (fromC zs).1 (fromC zs).2 ∧ Below w.heap.size w w' := by
  have hn := h.le
  have hl := Lib.hid h.len
  have H := Lib.hid h
  clear h
  have B1 := Lib.hid (alloc_up w (.cells #[.slice none 0 0, .slice none 0 0] 26))
  have P1 := Lib.hid (Blk.new w 26 #[.slice none 0 0, .slice none 0 0])
  have x0 := P1.out.cell 0
  have x1 := P1.out.cell 1
  simp only [List.getElem?_toArray, List.getElem?_cons_zero, List.getElem?_cons_succ] at x0 x1
  have x2 := P1.out.frozen 0
  have x3 := P1.out.frozen 1
  go_enter Tryz.func23, Tryz.ntmps23
  go_wp2_with fail
  generalize (w.alloc (.cells #[.slice none 0 0, .slice none 0 0] 26)) = w1 at B1 P1 x0 x1 x2 x3 ⊢
  refine (clusterSumS_any A n c w1.heap.size zs w1 (H.out.up B1.out)).mono ?_; rintro e w2 ⟨rfl, rfl⟩
  have lz1 := B1.out.size
  by_cases hs : sumP zs < 0
  · have Hno := Lib.hid (fromS_neg hs)
    go_wp2_with fail
    have hP := P1.out
    have KT := (KeepTU.set_ hP (by decide) (by decide) (by decide) 0 (.slice none 0 0)).trans (KeepTU.set_ (hP.set_ 0 (.slice none 0 0)) (by decide) (by decide) (by decide) 1 (.slice none 0 0))
    have EQ := Lib.hid ((hP.set_ 0 (.slice none 0 0)).set_ 1 (.slice none 0 0))
    have B9 := Lib.hid (((B1.out).setCell (p := ⟨w.heap.size, 0, none⟩) (by simp) (.slice none 0 0)).setCell (p := ⟨w.heap.size, 1, none⟩) (by simp) (.slice none 0 0))
    have OC := Lib.hid ((OwnC.none lz1).keepTU KT)
    clear hP KT
    generalize (World.setCell w1 ⟨w.heap.size, 0, none⟩ (.slice none 0 0)).setCell ⟨w.heap.size, 1, none⟩ (.slice none 0 0) = w9 at EQ B9 OC ⊢
    have z0 : w9.cell? ⟨w.heap.size, 0, none⟩ = some (.slice none 0 0) := EQ.out.cell 0
    have z1 : w9.cell? ⟨w.heap.size, 1, none⟩ = some (.slice none 0 0) := EQ.out.cell 1
    refine bodyPost_ret (v := .tuple #[.agg #[(.slice none 0 0), (.slice none 0 0)], .bool false]) (by simp [results, Tryz.results23, go_sem, z0, z1]) rfl ⟨none, 0, 0, none, 0, 0, by rw [Hno.out]; rfl, ?_, B9.out⟩
    rw [show fromC zs = ([], []) by rw [fromC, Hno.out]; rfl]
    exact OC.out
  by_cases h4 : (n : Int) < 4
  · have Hno := Lib.hid (fromS_few (zs := zs) (by have := hl.out; omega))
    go_wp2_with fail
    have hP := P1.out
    have KT := (KeepTU.set_ hP (by decide) (by decide) (by decide) 0 (.slice none 0 0)).trans (KeepTU.set_ (hP.set_ 0 (.slice none 0 0)) (by decide) (by decide) (by decide) 1 (.slice none 0 0))
    have EQ := Lib.hid ((hP.set_ 0 (.slice none 0 0)).set_ 1 (.slice none 0 0))
    have B9 := Lib.hid (((B1.out).setCell (p := ⟨w.heap.size, 0, none⟩) (by simp) (.slice none 0 0)).setCell (p := ⟨w.heap.size, 1, none⟩) (by simp) (.slice none 0 0))
    have OC := Lib.hid ((OwnC.none lz1).keepTU KT)
    clear hP KT
    generalize (World.setCell w1 ⟨w.heap.size, 0, none⟩ (.slice none 0 0)).setCell ⟨w.heap.size, 1, none⟩ (.slice none 0 0) = w9 at EQ B9 OC ⊢
    have z0 : w9.cell? ⟨w.heap.size, 0, none⟩ = some (.slice none 0 0) := EQ.out.cell 0
    have z1 : w9.cell? ⟨w.heap.size, 1, none⟩ = some (.slice none 0 0) := EQ.out.cell 1
    refine bodyPost_ret (v := .tuple #[.agg #[(.slice none 0 0), (.slice none 0 0)], .bool false]) (by simp [results, Tryz.results23, go_sem, z0, z1]) rfl ⟨none, 0, 0, none, 0, 0, by rw [Hno.out]; rfl, ?_, B9.out⟩
    rw [show fromC zs = ([], []) by rw [fromC, Hno.out]; rfl]
    exact OC.out
  have Hs := Lib.hid hs
  have hok := Classical.not_not.1 (fun h => hs (sumP_neg.2 h))
  have Hn := Lib.hid (show n ≤ 200 by have := hok.2; have := hl.out; omega)
  have Hby := Lib.hid (fun j (hj : j < n) => all_iff_getD.1 hok.1 j (by rw [hl.out]; exact hj))
  have H4 := Lib.hid (show 4 ≤ n by omega)
  have HL4 := Lib.hid (show ¬ zs.length < 4 by have := hl.out; omega)
  clear hok
  go_wp2_with fail
  refine (l31Read_any A n c zs w1 (H.out.up B1.out) hc H4.out Hn.out Hby.out).mono ?_; rintro e w3 ⟨A1, m1, c1, A2, m2, c2, rfl, hoc, hb3⟩
  have B3 := Lib.hid (below_to B1.out hb3)
  have P3 := Lib.hid (P1.out.below hb3 P1.out.lt)
  have OC3 := Lib.hid (hoc.low lz1)
  clear hb3 hoc x0 x1 x2 x3 B1 P1
  have hm1 : m1 ≤ 3 := by have := OC3.out.len; have : ((zs.take 3).length) ≤ 3 := by simp; omega
                          omega
  -- the box of the cluster that was read
  have B4 := Lib.hid (B3.out.alloc B3.out.size (.cells #[.slice A1 m1 c1, .slice A2 m2 c2] 26))
  have P4 := Lib.hid (P3.out.alloc (.cells #[.slice A1 m1 c1, .slice A2 m2 c2] 26))
  have Q4 := Lib.hid (Blk.new w3 26 #[.slice A1 m1 c1, .slice A2 m2 c2])
  have OC4 := Lib.hid (OC3.out.keepTU (KeepTU.up (alloc_up w3 (.cells #[.slice A1 m1 c1, .slice A2 m2 c2] 26))))
  have lg : w.heap.size < w3.heap.size := P3.out.lt
  clear OC3 B3 P3
  have y0 := Q4.out.cell 0
  have y1 := Q4.out.cell 1
  simp only [List.getElem?_toArray, List.getElem?_cons_zero, List.getElem?_cons_succ] at y0 y1
  go_wp2_with fail
  generalize w3.heap.size = g3 at Q4 y0 y1 lg ⊢
  generalize w3.alloc (.cells #[.slice A1 m1 c1, .slice A2 m2 c2] 26) = w4 at B4 P4 Q4 OC4 y0 y1 ⊢
  refine (clusterBytesS_any A1 A2 m1 c1 m2 c2 (zs.take 3) (unitsS zs n 3 0) w4 (OC4.out.rd (by omega) (unitsS_sh zs n)) (unitsS_sh zs n) (by omega)).mono ?_; rintro e w5 ⟨A5, m5, c5, rfl, ho5, hb5⟩
  have B5 := Lib.hid (below_to B4.out hb5)
  have P5 := Lib.hid (P4.out.below hb5 P4.out.lt)
  have Q5 := Lib.hid (Q4.out.below hb5 Q4.out.lt)
  have OC5 := Lib.hid (OC4.out.keepTU (KeepTU.up hb5))
  have lz5 := B5.out.size
  have x0 := P5.out.cell 0
  have x1 := P5.out.cell 1
  have y0 := Q5.out.cell 0
  have y1 := Q5.out.cell 1
  simp only [List.getElem?_toArray, List.getElem?_cons_zero, List.getElem?_cons_succ] at x0 x1 y0 y1
  have x2 := P5.out.frozen 0
  have x3 := P5.out.frozen 1
  cases hcl : clOk (zs.take 3) (unitsS zs n 3 0) with
  | false =>
    have Hno := Lib.hid (fromS_no (zs := zs) (by rw [hl.out, hcl]; simp))
    clear hcl ho5 hb5 B4 P4 Q4 OC4
    go_wp2_with fail
    have hP := P5.out
    have KT := (KeepTU.set_ hP (by decide) (by decide) (by decide) 0 (.slice none 0 0)).trans (KeepTU.set_ (hP.set_ 0 (.slice none 0 0)) (by decide) (by decide) (by decide) 1 (.slice none 0 0))
    have EQ := Lib.hid ((hP.set_ 0 (.slice none 0 0)).set_ 1 (.slice none 0 0))
    have B9 := Lib.hid (((B5.out).setCell (p := ⟨w.heap.size, 0, none⟩) (by simp) (.slice none 0 0)).setCell (p := ⟨w.heap.size, 1, none⟩) (by simp) (.slice none 0 0))
    have OC := Lib.hid ((OwnC.none lz5).keepTU KT)
    clear hP KT
    generalize (World.setCell w5 ⟨w.heap.size, 0, none⟩ (.slice none 0 0)).setCell ⟨w.heap.size, 1, none⟩ (.slice none 0 0) = w9 at EQ B9 OC ⊢
    have z0 : w9.cell? ⟨w.heap.size, 0, none⟩ = some (.slice none 0 0) := EQ.out.cell 0
    have z1 : w9.cell? ⟨w.heap.size, 1, none⟩ = some (.slice none 0 0) := EQ.out.cell 1
    refine bodyPost_ret (v := .tuple #[.agg #[(.slice none 0 0), (.slice none 0 0)], .bool false]) (by simp [results, Tryz.results23, go_sem, z0, z1]) rfl ⟨none, 0, 0, none, 0, 0, by rw [Hno.out]; rfl, ?_, B9.out⟩
    rw [show fromC zs = ([], []) by rw [fromC, Hno.out]; rfl]
    exact OC.out
  | true =>
    have hm5 := own_len ho5
    rw [bytesOr_yes hcl] at ho5
    have hr5 := own_rdI ho5 (own_le ho5)
    have Hr5 := Lib.hid hr5
    have Hcl := Lib.hid hcl
    clear hcl ho5 hm5 hr5 B4 P4 Q4 OC4
    cases hsm : decide (bytesP (zs.take 3) (unitsS zs n 3 0) = zs) with
    | false =>
      have Hno := Lib.hid (fromS_no (zs := zs) (by rw [hl.out]; exact fun hh => of_decide_eq_false hsm hh.2))
      go_wp2_with (go_at_call 75; refine (l31Same_any A5 A m5 c5 n c w5.heap.size w.heap.size _ zs w5 Hr5.out (H.out.below B5.out)).mono ?_; rintro e w6 ⟨rfl, m6, rfl⟩; rw [hsm])
      have hP := P5.out.drewN m6
      have KT := (KeepTU.set_ hP (by decide) (by decide) (by decide) 0 (.slice none 0 0)).trans (KeepTU.set_ (hP.set_ 0 (.slice none 0 0)) (by decide) (by decide) (by decide) 1 (.slice none 0 0))
      have EQ := Lib.hid ((hP.set_ 0 (.slice none 0 0)).set_ 1 (.slice none 0 0))
      have B9 := Lib.hid (((below_drewN B5.out m6).setCell (p := ⟨w.heap.size, 0, none⟩) (by simp) (.slice none 0 0)).setCell (p := ⟨w.heap.size, 1, none⟩) (by simp) (.slice none 0 0))
      have OC := Lib.hid ((OwnC.none (w := w5.drewN m6) lz5).keepTU KT)
      clear hP KT
      generalize (World.setCell (w5.drewN m6) ⟨w.heap.size, 0, none⟩ (.slice none 0 0)).setCell ⟨w.heap.size, 1, none⟩ (.slice none 0 0) = w9 at EQ B9 OC ⊢
      have z0 : w9.cell? ⟨w.heap.size, 0, none⟩ = some (.slice none 0 0) := EQ.out.cell 0
      have z1 : w9.cell? ⟨w.heap.size, 1, none⟩ = some (.slice none 0 0) := EQ.out.cell 1
      refine bodyPost_ret (v := .tuple #[.agg #[(.slice none 0 0), (.slice none 0 0)], .bool false]) (by simp [results, Tryz.results23, go_sem, z0, z1]) rfl ⟨none, 0, 0, none, 0, 0, by rw [Hno.out]; rfl, ?_, B9.out⟩
      rw [show fromC zs = ([], []) by rw [fromC, Hno.out]; rfl]
      exact OC.out
    | true =>
      have Hyes := Lib.hid (show fromS zs = some (zs.take 3, unitsS zs n 3 0) by
        have := fromS_yes (zs := zs) (by have := Hs.out; omega) HL4.out (by rw [hl.out]; exact ⟨Hcl.out, of_decide_eq_true hsm⟩)
        rwa [hl.out] at this)
      go_wp2_with (go_at_call 75; refine (l31Same_any A5 A m5 c5 n c w5.heap.size w.heap.size _ zs w5 Hr5.out (H.out.below B5.out)).mono ?_; rintro e w6 ⟨rfl, m6, rfl⟩; rw [hsm])
      have hP := P5.out.drewN m6
      have KT := (KeepTU.set_ hP (by decide) (by decide) (by decide) 0 (.slice A1 m1 c1)).trans (KeepTU.set_ (hP.set_ 0 (.slice A1 m1 c1)) (by decide) (by decide) (by decide) 1 (.slice A2 m2 c2))
      have EQ := Lib.hid ((hP.set_ 0 (.slice A1 m1 c1)).set_ 1 (.slice A2 m2 c2))
      have B9 := Lib.hid (((below_drewN B5.out m6).setCell (p := ⟨w.heap.size, 0, none⟩) (by simp) (.slice A1 m1 c1)).setCell (p := ⟨w.heap.size, 1, none⟩) (by simp) (.slice A2 m2 c2))
      have OC := Lib.hid ((show OwnC (w5.drewN m6) w.heap.size (.slice A1 m1 c1) (.slice A2 m2 c2) m1 m2 _ _ from OC5.out.keepTU (fun _ _ => rfl)).keepTU KT)
      clear hP KT
      generalize (World.setCell (w5.drewN m6) ⟨w.heap.size, 0, none⟩ (.slice A1 m1 c1)).setCell ⟨w.heap.size, 1, none⟩ (.slice A2 m2 c2) = w9 at EQ B9 OC ⊢
      have z0 : w9.cell? ⟨w.heap.size, 0, none⟩ = some (.slice A1 m1 c1) := EQ.out.cell 0
      have z1 : w9.cell? ⟨w.heap.size, 1, none⟩ = some (.slice A2 m2 c2) := EQ.out.cell 1
      refine bodyPost_ret (v := .tuple #[.agg #[(.slice A1 m1 c1), (.slice A2 m2 c2)], .bool true]) (by simp [results, Tryz.results23, go_sem, z0, z1]) rfl ⟨A1, m1, c1, A2, m2, c2, by rw [Hyes.out]; rfl, ?_, B9.out⟩
      rw [show fromC zs = (zs.take 3, unitsS zs n 3 0) by rw [fromC, Hyes.out]; rfl]
      exact OC.out
end Go.Proofs.YtlegpecjoaklnaaGreatDoor
