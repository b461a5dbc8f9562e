/- Several texts in one. -/
import Derived.Test.YtdkhdfedejbicaaGreatDoorRqI
namespace Go.Proofs.YtdkhdfedejbicaaGreatDoor
set_option linter.unusedSimpArgs false
set_option linter.unusedVariables false
def lastP (l : List Tk) (id : Int) : Tk := ((l.filter (fun t => t.1 == id)).getLast?).getD (0, [])
theorem taken_last (bs : List (List Tk)) (id : Int) : takenP bs id = lastP bs.flatten id := rfl
theorem last_yes {l : List Tk} {t : Tk} {id : Int} (h : t.1 = id) : lastP (l ++ [t]) id = t := by
  unfold lastP
  rw [List.filter_append, List.filter_cons]
  simp [h]
theorem last_no {l : List Tk} {t : Tk} {id : Int} (h : t.1 ≠ id) : lastP (l ++ [t]) id = lastP l id := by
  unfold lastP
  rw [List.filter_append, List.filter_cons]
  simp [h]
end Go.Proofs.YtdkhdfedejbicaaGreatDoor

namespace Go.Proofs.YtdkhdfedejbicaaGreatDoor
set_option linter.unusedSimpArgs false
set_option linter.unusedVariables false
open Go Go.RowKit Go.MuLone
attribute [local go_sem ↓] Go.wp_at_zero Go.wp_at_succ

theorem rank_lt {us : List Un} {i j : Nat} (h : i < j) (hj : j ≤ us.length) (ho : (us[i]?.getD (false, [])).1 = true) : rankU us i < rankU us j := by
  have r1 := rank_mono (us := us) (i := i + 1) (j := j) h
  rw [rank_succ (by omega), if_pos ho] at r1
  omega
theorem rank_inj {us : List Un} {i j : Nat} (hi : i < us.length) (hj : j < us.length) (hoi : (us[i]?.getD (false, [])).1 = true) (hoj : (us[j]?.getD (false, [])).1 = true) (he : rankU us i = rankU us j) : i = j := by
  rcases Nat.lt_trichotomy i j with h | h | h
  · have := rank_lt h (by omega) hoi; omega
  · exact h
  · have := rank_lt h (by omega) hoj; omega

def OpenVs (us : List Un) (tk : Nat → Value) (i : Nat) (vs : List Value) : Prop := vs.length = rankU us i ∧ ∀ j, j < i → (us[j]?.getD (false, [])).1 = true → vs[rankU us j]? = some (tk j)
theorem OpenVs.zero {us : List Un} {tk : Nat → Value} : OpenVs us tk 0 [] := ⟨by rw [rank_zero]; rfl, fun j hj => by omega⟩
theorem OpenVs.yes {us : List Un} {tk : Nat → Value} {i : Nat} {vs : List Value} (h : OpenVs us tk i vs) (hi : i < us.length) (ho : (us[i]?.getD (false, [])).1 = true) : OpenVs us tk (i + 1) (vs ++ [tk i]) := by
  refine ⟨by rw [rank_succ hi, if_pos ho, List.length_append, h.1]; rfl, fun j hj hoj => ?_⟩
  by_cases e : j = i
  · subst e
    rw [List.getElem?_append_right (by rw [h.1]; omega), h.1, Nat.sub_self]; rfl
  · have := rank_lt (us := us) (i := j) (j := i) (by omega) (by omega) hoj
    rw [List.getElem?_append_left (by rw [h.1]; exact this)]
    exact h.2 j (by omega) hoj
theorem OpenVs.no {us : List Un} {tk : Nat → Value} {i : Nat} {vs : List Value} (h : OpenVs us tk i vs) (hi : i < us.length) (ho : (us[i]?.getD (false, [])).1 = false) : OpenVs us tk (i + 1) vs := by
  refine ⟨by rw [rank_succ hi, if_neg (by rw [ho]; simp), h.1]; rfl, fun j hj hoj => ?_⟩
  by_cases e : j = i
  · subst e
    rw [ho] at hoj; cases hoj
  · exact h.2 j (by omega) hoj
theorem OpenVs.nodes {w : World} {base n : Nat} {hv vs : List Value} {tk : Nat → Value} {us : List Un} (h : OpenVs us tk us.length vs) (hu : NdUR w base n hv tk us) : NdBR w base vs.length vs (openB us) := by
  have hl : us.length = n := hu.1
  refine ⟨by rw [open_len, h.1], rfl, fun k hk => ?_, fun a b u v hu' hv' hab x hx hx' => ?_⟩
  · obtain ⟨j, hj, hoj, hjk⟩ := open_surj (us := us) (a := k) (by rw [open_len, ← h.1]; exact hk)
    obtain ⟨_, _, A, m, c, vt, e1, e2, e3⟩ := hu.2.2.1 j (by omega)
    refine ⟨A, m, c, vt, ?_, e2, ?_⟩
    · rw [← hjk, h.2 j hj hoj, e1]
    · rw [← hjk, open_at hj hoj]; exact e3
  · have ha := (List.getElem?_eq_some_iff.1 hu').1
    have hb := (List.getElem?_eq_some_iff.1 hv').1
    obtain ⟨i, hi, hoi, hia⟩ := open_surj (us := us) (a := a) (by rw [open_len, ← h.1]; exact ha)
    obtain ⟨j, hj, hoj, hjb⟩ := open_surj (us := us) (a := b) (by rw [open_len, ← h.1]; exact hb)
    rw [← hia, h.2 i hi hoi] at hu'
    rw [← hjb, h.2 j hj hoj] at hv'
    injection hu' with hu'
    injection hv' with hv'
    rw [← hu'] at hx
    rw [← hv'] at hx'
    exact hu.2.2.2 i j (by omega) (by omega) (fun e => hab (by rw [← hia, ← hjb, e])) x hx hx'
def tkN (us : List Un) (tk : Nat → Value) (vs : List Value) (k i : Nat) : Value := if (us[i]?.getD (false, [])).1 = true ∧ rankU us i < k then vs[rankU us i]?.getD (.slice none 0 0) else tk i
theorem tkN_zero (us : List Un) (tk : Nat → Value) (vs : List Value) (i : Nat) : tkN us tk vs 0 i = tk i := by unfold tkN; rw [if_neg (by omega)]
theorem tkN_at {us : List Un} {tk : Nat → Value} {vs : List Value} {k i : Nat} {u : Value} (ho : (us[i]?.getD (false, [])).1 = true) (hr : rankU us i = k) (hu : vs[k]? = some u) : tkN us tk vs (k + 1) i = u := by
  unfold tkN; rw [if_pos ⟨ho, by omega⟩, hr, hu]; rfl
theorem tkN_other {us : List Un} {tk : Nat → Value} {vs : List Value} {k i j : Nat} (hi : i < us.length) (hj : j < us.length) (ho : (us[i]?.getD (false, [])).1 = true) (hr : rankU us i = k) (hne : j ≠ i) : tkN us tk vs (k + 1) j = tkN us tk vs k j := by
  unfold tkN
  by_cases hoj : (us[j]?.getD (false, [])).1 = true
  · have : rankU us j ≠ k := fun e => hne (rank_inj hj hi hoj ho (e.trans hr.symm))
    by_cases h : rankU us j < k
    · rw [if_pos ⟨hoj, by omega⟩, if_pos ⟨hoj, h⟩]
    · rw [if_neg (fun h' => by omega), if_neg (fun h' => h h'.2)]
  · rw [if_neg (fun h' => hoj h'.1), if_neg (fun h' => hoj h'.1)]
theorem units_back {w w' : World} {base n : Nat} {hv hv' vs vs' : List Value} {tk : Nat → Value} {us : List Un} {bs : List (List Tk)} (hu : NdUR w base n hv tk us) (ho : OpenVs us tk us.length vs) (hb : NdBR w' base vs.length vs' bs) (hf : FarX w w' vs vs') (hk : KeepX w w')
    (hl : hv'.length = n * 2) (hc : ∀ i, i < n → hv'[i * 2]? = some (.bool (us[i]?.getD (false, [])).1) ∧ hv'[i * 2 + 1]? = some (tkN us tk vs' vs.length i)) : NdUR w' base n hv' (tkN us tk vs' vs.length) (backU us bs) := by
  have hlen : us.length = n := hu.1
  have hrank : ∀ i, i < n → (us[i]?.getD (false, [])).1 = true → rankU us i < vs.length := fun i hi hoi => by rw [ho.1]; exact rank_lt (by omega) (Nat.le_refl _) hoi
  have hvl : vs'.length = vs.length := hb.2.1
  have topen : ∀ i, i < n → (us[i]?.getD (false, [])).1 = true → vs'[rankU us i]? = some (tkN us tk vs' vs.length i) := fun i hi hoi => by
    unfold tkN
    rw [if_pos ⟨hoi, hrank i hi hoi⟩, List.getElem?_eq_getElem (by rw [hvl]; exact hrank i hi hoi)]; rfl
  have tclosed : ∀ i, ¬ (us[i]?.getD (false, [])).1 = true → tkN us tk vs' vs.length i = tk i := fun i hoi => by unfold tkN; rw [if_neg (fun h => hoi h.1)]
  have far : ∀ i j, i < n → j < n → (us[i]?.getD (false, [])).1 = true → ¬ (us[j]?.getD (false, [])).1 = true → ∀ b, (tkN us tk vs' vs.length i).ownBlock = some b → (tkN us tk vs' vs.length j).ownBlock ≠ some b := fun i j hi hj hoi hoj b hb1 hb2 => by
    rw [tclosed j hoj] at hb2
    rcases hf.2 _ _ b (topen i hi hoi) hb1 with h1 | ⟨a', u', h1, h2⟩
    · have := hu.old j hj b hb2; omega
    · have ha := (List.getElem?_eq_some_iff.1 h1).1
      obtain ⟨i', hi', hoi', hia'⟩ := open_surj (us := us) (a := a') (by rw [open_len, ← ho.1]; exact ha)
      rw [← hia', ho.2 i' hi' hoi'] at h1
      injection h1 with h1
      rw [← h1] at h2
      exact hu.2.2.2 i' j (by omega) hj (fun e => hoj (by rw [← e]; exact hoi')) b h2 hb2
  refine ⟨by rw [back_len]; exact hlen, hl, fun i hi => ?_, fun i j hi hj hij b hb1 hb2 => ?_⟩
  · obtain ⟨c1, c2⟩ := hc i hi
    have e1 : ((backU us bs)[i]?.getD (false, [])).1 = (us[i]?.getD (false, [])).1 := by
      rw [back_at (by omega)]
      split
      · rename_i h; exact h.symm
      · rfl
    refine ⟨by rw [e1]; exact c1, c2, ?_⟩
    by_cases hoi : (us[i]?.getD (false, [])).1 = true
    · obtain ⟨A, m, c, vt, h1, h2, h3⟩ := hb.2.2.1 (rankU us i) (hrank i hi hoi)
      rw [topen i hi hoi] at h1
      injection h1 with h1
      refine ⟨A, m, c, vt, h1, h2, ?_⟩
      rw [back_at (by omega), if_pos hoi]
      exact h3
    · obtain ⟨_, _, A, m, c, vt, h1, h2, h3⟩ := hu.2.2.1 i hi
      refine ⟨A, m, c, vt, (tclosed i hoi).trans h1, own_keepB h2 (fun b cs hbb hcc => hf.1 b cs hcc (fun a u hau hub => ?_)), ?_⟩
      · have ha := (List.getElem?_eq_some_iff.1 hau).1
        obtain ⟨i', hi', hoi', hia'⟩ := open_surj (us := us) (a := a) (by rw [open_len, ← ho.1]; exact ha)
        rw [← hia', ho.2 i' hi' hoi'] at hau
        injection hau with hau
        rw [← hau] at hub
        exact hu.2.2.2 i' i (by omega) hi (fun e => hoi (by rw [← e]; exact hoi')) b hub (by rw [h1]; exact hbb)
      · rw [back_at (by omega), if_neg hoi]
        exact h3.keepX hk
  · by_cases hoi : (us[i]?.getD (false, [])).1 = true
    · by_cases hoj : (us[j]?.getD (false, [])).1 = true
      · exact hb.2.2.2 _ _ _ _ (topen i hi hoi) (topen j hj hoj) (fun e => hij (rank_inj (by omega) (by omega) hoi hoj e)) b hb1 hb2
      · exact far i j hi hj hoi hoj b hb1 hb2
    · by_cases hoj : (us[j]?.getD (false, [])).1 = true
      · exact far j i hj hi hoj hoi b hb2 hb1
      · rw [tclosed i hoi] at hb1
        rw [tclosed j hoj] at hb2
        exact hu.2.2.2 i j hi hj hij b hb1 hb2
end Go.Proofs.YtdkhdfedejbicaaGreatDoor

namespace Go.Proofs.YtdkhdfedejbicaaGreatDoor
set_option linter.unusedSimpArgs false
set_option linter.unusedVariables false
open Go Go.RowKit Go.MuLone
attribute [local go_sem ↓] Go.wp_at_zero Go.wp_at_succ

theorem row_info : (Tryz.prog.info? 81).map (fun i => (i.zero, i.size, i.bytes)) = some (some (.slice none 0 0), 1, 24) := by kernel_rfl
theorem lit1c (w : World) (t : TypeId) (a : Value) : Src (w.alloc (.cells #[a] t)) 1 (some ⟨w.heap.size, 0, none⟩) 1 [a] :=
  ⟨rfl, fun _ => ⟨_, rfl, fun j u hu => by rw [addr_add, Nat.zero_add, (Blk.new w t #[a]).cell]; simpa using hu⟩⟩

set_option maxRecDepth 100000 in
set_option maxHeartbeats 1600000 in
theorem rqGather_any (base hb : Nat) (A1 A3 : Option Addr) (n1 c1 n n3 c3 : Nat) (room : List Int) (us : List Un) (r : Rq) (w : World) (h : HostR w base hb 0 A1 n1 c1 n room us) (hbz : base ≤ w.heap.size) (hok : clOk room us = true) (hin : inR 0 20 r.num = true) :
    Calls Tryz.prog 74 #[rqV r A3 n3 c3, .pointer (some ⟨hb, 0, none⟩)] w fun e w' => e = .returned (.int .i64 0) ∧ HostP w' hb A1 n1 c1 n room (gatherU room us r.num) ∧ Below base w w' := by
  obtain ⟨ib, hib, hbz0, hbz1, hbz2⟩ := info_parts row_info
  obtain ⟨ii, hii, hiz0, hiz1, hiz2⟩ := info_parts int_info
  obtain ⟨kind, id, xs, grant, num⟩ := r
  obtain ⟨num0, num20⟩ := inR_iff.1 hin
  obtain ⟨most, rfl⟩ := Int.eq_ofNat_of_zero_le num0
  dsimp only [rqV] at *
  have hm20 : most ≤ 20 := by omega
  have al := alloc_up w (.cells #[.int .i64 kind, .int .i64 id, .slice A3 n3 c3, .bool grant, .int .i64 (most : Int)] 77)
  obtain ⟨hv, zs, tk, X⟩ := h
  have X0 := X.up al
  have hk := X0.lk.1
  have hf := X0.lk.2
  have HX := qh (X0.setL (l' := 1))
  have hl : us.length = n := X.un.1
  have hn10 := X.n
  have hb0 := X.ge
  have hbl := X.blk.lt
  have B1 := qh ((al.mono hbz).setCell (p := ⟨hb, 0, none⟩) hb0 (.int .i32 1))
  have P1 := qh ((Blk.new w 77 #[.int .i64 kind, .int .i64 id, .slice A3 n3 c3, .bool grant, .int .i64 (most : Int)]).far (p := ⟨hb, 0, none⟩) (by show w.heap.size ≠ hb; omega) (.int .i32 1))
  have Hok := qh hok
  have Hl := qh hl
  have n1' : (0 : Int) ≤ (n : Int) := by omega
  have n2' : (n : Int) ≤ 10 := by omega
  have lz : base ≤ ((w.alloc (.cells #[.int .i64 kind, .int .i64 id, .slice A3 n3 c3, .bool grant, .int .i64 (most : Int)] 77)).setCell ⟨hb, 0, none⟩ (.int .i32 1)).heap.size := by have := al.size; simp [World.setCell]; omega
  clear X X0 hok hl al
  go_enter_defers Tryz.func74, Tryz.ntmps74
  go_wp2_with fail
  refine (lock_free muLib ⟨hb, 0, none⟩ _ hk hf).mono ?_; rintro e w2 ⟨rfl, rfl⟩
  generalize w.heap.size = gr at P1 hbl ⊢
  generalize (w.alloc (.cells #[.int .i64 kind, .int .i64 id, .slice A3 n3 c3, .bool grant, .int .i64 (most : Int)] 77)).setCell ⟨hb, 0, none⟩ (.int .i32 1) = w2 at HX B1 P1 lz ⊢
  clear hk hf
  -- two rows, empty
  have al3 := alloc_up w2 (.cells #[] 81)
  have al4 := alloc_up (w2.alloc (.cells #[] 81)) (.cells #[] 3)
  have U4 := qh (al3.trans (al4.mono al3.size))
  have O5 := qh (own_up' (show (w2.alloc (.cells #[] 81)).ownsRow w2.heap.size 81 1 (.slice (some ⟨w2.heap.size, 0, none⟩) 0 0) 0 [] from World.ownsRow_lit w2 #[] 0 (Nat.le_refl _) (by unfold maxLen; omega) rfl) al4)
  have O6 := (show ((w2.alloc (.cells #[] 81)).alloc (.cells #[] 3)).ownsRow w2.heap.size 3 1 (.slice (some ⟨(w2.alloc (.cells #[] 81)).heap.size, 0, none⟩) 0 0) 0 [] from World.ownsRow_lit _ #[] 0 al3.size (by unfold maxLen; omega) rfl)
  rw [World.size_alloc] at O6
  have O6 := qh O6
  clear al3 al4
  go_wp2_with fail
  have lr2 := P1.out.lt
  generalize hz2 : w2.heap.size = z2 at O5 O6 U4 lr2 ⊢
  generalize (w2.alloc (.cells #[] 81)).alloc (.cells #[] 3) = w4 at O5 O6 U4 ⊢
  refine wp_region_mix (.take 0 (.take 1 (.take 2 (.take 3 (.take 4 (.take 5 (.take 6 (.take 7 (.take 8 (.take 9 .nil)))))))))) (fun w' => w'.cell? ⟨hb, 3, none⟩ = some (.int .i64 (n : Int))) (by kernel_rfl) (by kernel_rfl) ?_ (fun _ => ?_)
  · exact (U4.out.cell (p := ⟨hb, 3, none⟩) (by show hb < z2; have := HX.out.blk.lt; omega)).trans HX.out.view.c3
  have U5 := qh U4.out.drew
  have O7 := qh (World.ownsRow.drew O5.out)
  have O8 := qh (World.ownsRow.drew O6.out)
  generalize w4.drew = w5 at U5 O7 O8 ⊢
  clear O5 O6 U4
  repeat ((first | refine mxS (by rfl) (by rfl) ?_ | (refine mxT (v := ?_) (by rfl) (by rfl) (fun z y => ?_) ?_; rotate_left; (focus ((try dsimp only at y); (go_simp <;> with_reducible rfl); done)))); (try simp only [Act.put,pS,pZ,pC]))
  refine wpMix_nil ?_
  go_wp2_with fail
  go_loopw [5, 6, 29] (fun v5 v6 iv wr => ∃ (i : Nat) (A5 A6 : Option Addr) (m5 c5 m6 c6 : Nat) (vs5 vs6 : List Value), iv = .int .i64 (i : Nat) ∧ i ≤ n ∧ v5 = .slice A5 m5 c5 ∧ v6 = .slice A6 m6 c6 ∧ Below z2 w2 wr ∧
    wr.ownsRow z2 81 1 (.slice A5 m5 c5) m5 vs5 ∧ wr.ownsRow z2 3 1 (.slice A6 m6 c6) m6 vs6 ∧ OpenVs us tk i vs5 ∧ OpenVs us (fun j => .int .i64 (j : Nat)) i vs6 ∧ z2 ≤ wr.heap.size) (fun _ _ iv _ => n - (intOf iv).toNat)
  case atStart => exact ⟨0, _, _, _, _, _, _, [], [], rfl, Nat.zero_le _, rfl, rfl, U5.out, O7.out, O8.out, OpenVs.zero, OpenVs.zero, by have := U5.out.size; omega⟩
  case round =>
    clear U5 O7 O8
    obtain ⟨i, A5, A6, m5, c5, m6, c6, vs5, vs6, rfl, hi, rfl, rfl, hbel, ho5, ho6, hv5, hv6, lzr⟩ := hrel
    have Hbel := qh hbel
    have Ho5 := qh ho5
    have Ho6 := qh ho6
    have Hv5 := qh hv5
    have Hv6 := qh hv6
    have lm5 : m5 ≤ 10 := by
      have h1 := ho5.1
      have h2 := hv5.1
      have h3 : rankU us i ≤ i := by unfold rankU; exact Nat.le_trans (List.length_filter_le _ _) (by rw [List.length_take]; omega)
      omega
    have lm6 : m6 ≤ 10 := by
      have h1 := ho6.1
      have h2 := hv6.1
      have h3 : rankU us i ≤ i := by unfold rankU; exact Nat.le_trans (List.length_filter_le _ _) (by rw [List.length_take]; omega)
      omega
    clear hbel ho5 ho6 hv5 hv6
    by_cases hlt : i < n
    · have q1 : (0 : Int) ≤ (i : Int) := by omega
      have q2 : (i : Int) < (n : Int) := by omega
      have hiu : i < us.length := by have := Hl.out; omega
      obtain ⟨hc1, hc2, Ak, mk, ck, vt, htkk, _, _⟩ := HX.out.un.2.2.1 i hlt
      have e1 : wr.cell? ⟨hb, 4 + i * 2, none⟩ = some (.bool (us[i]?.getD (false, [])).1) := (Hbel.out.cell (p := ⟨hb, 4 + i * 2, none⟩) (by show hb < z2; have := HX.out.blk.lt; omega)).trans ((HX.out.cellU (by omega)).trans hc1)
      have e2 : wr.cell? ⟨hb, 4 + i * 2 + 1, none⟩ = some (.slice Ak mk ck) := (Hbel.out.cell (p := ⟨hb, 4 + i * 2 + 1, none⟩) (by show hb < z2; have := HX.out.blk.lt; omega)).trans (by rw [Nat.add_assoc, HX.out.cellU (by omega), hc2, htkk])
      have Htk := qh htkk
      clear hc1 hc2 htkk
      cases hop : (us[i]?.getD (false, [])).1 with
      | false =>
        have Hop := qh hop
        rw [hop] at e1
        clear hop
        have al := alloc_up wr (.cells #[.bool false, .slice Ak mk ck] 83)
        have U1 := qh (Hbel.out.trans (al.mono lzr))
        have O1 := qh (own_up' Ho5.out al)
        have O2 := qh (own_up' Ho6.out al)
        have p0 := (Blk.new wr 83 #[.bool false, .slice Ak mk ck]).cell 0
        simp only [gT, gZ] at p0
        clear al
        go_wp2_with fail
        go_roundw
        case measure => simp [intOf]; omega
        case rel => exact ⟨i + 1, A5, A6, m5, c5, m6, c6, vs5, vs6, by go_num, by omega, rfl, rfl, U1.out, O1.out, O2.out, Hv5.out.no hiu Hop.out, Hv6.out.no hiu Hop.out, by have := U1.out.size; omega⟩
      | true =>
        have Hop := qh hop
        rw [hop] at e1
        clear hop
        have al := alloc_up wr (.cells #[.bool true, .slice Ak mk ck] 83)
        have U1 := qh (Hbel.out.trans (al.mono lzr))
        have O1 := qh (own_up' Ho5.out al)
        have O2 := qh (own_up' Ho6.out al)
        have p0 := (Blk.new wr 83 #[.bool true, .slice Ak mk ck]).cell 0
        have p1 := (Blk.new wr 83 #[.bool true, .slice Ak mk ck]).cell 1
        simp only [gT, gZ, gS] at p0 p1
        have al2 := alloc_up (wr.alloc (.cells #[.bool true, .slice Ak mk ck] 83)) (.cells #[.slice Ak mk ck] 81)
        have hX := lit1c (wr.alloc (.cells #[.bool true, .slice Ak mk ck] 83)) 81 (.slice Ak mk ck)
        rw [World.size_alloc] at hX
        have S2 := qh hX
        have O3 := qh (own_up' O1.out al2)
        have O4 := qh (own_up' O2.out al2)
        have U2 := qh (U1.out.trans (al2.mono (Nat.le_trans lzr al.size)))
        have lz3 := (Nat.le_trans (Nat.le_trans lzr al.size) al2.size)
        clear al al2 hX O1 O2 U1
        go_wp2_with (first
          | (at_builtin; refine wpList_append_src _ rfl _ _ 32 rfl z2 3 ii _ 1 8 Tryz.underlying32 hii hiz0 hiz1 hiz2 rfl (by omega) (.slice A6 m6 c6) m6 vs6 rfl O6'.out (some ⟨wn.heap.size, 0, none⟩) 1 1 [.int .i64 (i : Int)] rfl (lit1c wn 3 _) (by simp [Value.oneCell']) (by unfold maxLen; omega) (by omega) (Nat.le_trans lz4 (alloc_up wn _).size) ?_; intro v2 wm hown7 hgrow7 hat7; obtain ⟨A9, c9, rfl⟩ := own_shape hown7)
          | (at_builtin; refine wpList_append_src _ rfl _ _ 91 rfl z2 81 ib _ 1 24 Tryz.underlying91 hib hbz0 hbz1 hbz2 rfl (by omega) (.slice A5 m5 c5) m5 vs5 rfl O3.out (some ⟨wr.heap.size + 1, 0, none⟩) 1 1 [.slice Ak mk ck] rfl S2.out (by simp [Value.oneCell']) (by unfold maxLen; omega) (by omega) lz3 ?_; intro v' wn hown6 hgrow6 hat6; obtain ⟨A8, c8, rfl⟩ := own_shape hown6; have O5' := qh (own_up' hown6 (alloc_up wn (.cells #[.int .i64 (i : Int)] 3))); have O6' := qh (own_up' (own_keepB O4.out (w' := wn) (fun b cs _ hc => hgrow6.block b hc.lt (fun e => own_blk_ne O3.out hc (by decide) e.symm))) (alloc_up wn (.cells #[.int .i64 (i : Int)] 3))); have lz4 : z2 ≤ wn.heap.size := Nat.le_trans lz3 hgrow6.size; have U3 := qh ((U2.out.grown hgrow6 lz3 (fun a e => (O3.out.lt a e).1)).trans ((alloc_up wn (.cells #[.int .i64 (i : Int)] 3)).mono lz4)); clear hown6 hgrow6 hat6 O3 O4 U2 S2))
        have htv : tk i = .slice Ak mk ck := Htk.out
        refine ⟨⟨i + 1, A8, A9, m5 + 1, c8, m6 + 1, c9, _, _, by go_num, by omega, rfl, rfl, U3.out.grown hgrow7 (by have := U3.out.size; omega) (fun a e => (O6'.out.lt a e).1), own_keepB O5'.out (fun b cs _ hc => hgrow7.block b hc.lt (fun e => own_blk_ne O6'.out hc (by decide) e.symm)), hown7, ?_, Hv6.out.yes hiu Hop.out, ?_⟩, by simp [intOf]; omega⟩
        · have := Hv5.out.yes hiu Hop.out
          rwa [htv] at this
        · have h1 := hgrow7.size
          have h2 := (alloc_up wn (.cells #[.int .i64 (i : Int)] 3)).size
          omega
    · obtain rfl : i = n := by omega
      have hbel : Below w2.heap.size w2 wr := by rw [hz2]; exact Hbel.out
      have hlb : us.length = i := Hl.out
      have hml : vs5.length = m5 := by have := Ho5.out.1; omega
      have hml6 : vs6.length = m6 := by have := Ho6.out.1; omega
      have hm56 : m5 = m6 := by rw [← hml, ← hml6, Hv5.out.1, Hv6.out.1]
      subst hm56
      have X3 := qh (HX.out.up hbel)
      have P3 := qh (P1.out.below hbel P1.out.lt)
      have B3 := qh (B1.out.trans (hbel.mono lz))
      have bz : base ≤ z2 := by omega
      have lz3 : base ≤ wr.heap.size := by omega
      have hv5' := Hv5.out
      rw [← hlb] at hv5'
      have V5 := qh hv5'
      have N3 := qh (show NodeX wr base A1 n1 c1 room A5 m5 c5 vs5 (openB us) from ⟨X3.out.rm, own_lo Ho5.out bz, hml ▸ hv5'.nodes X3.out.un⟩)
      have O6 := qh (own_lo Ho6.out bz)
      have Hhm := qh hml
      have Hhl := qh hlb
      clear hbel hml hml6 Hbel HX P1 B1 lz hv5' hlb Ho5 Ho6
      go_wp2_with fail
      refine wp_region_mixL (.take 0 (.take 1 (.take 2 (.take 3 (.take 4 (.take 5 (.take 6 (.bar 7 .nil)))))))) [] (fun w' => w'.cell? ⟨hb, 2, none⟩ = some (.slice A1 n1 c1) ∧ w'.cell? ⟨gr, 4, none⟩ = some (.int .i64 (most : Int))) (by kernel_rfl) (by kernel_rfl) ⟨X3.out.view.c2, P3.out.cell 4⟩ (fun _ => ?_)
      have X4 := qh (X3.out.up (Below.refl _ _).drew)
      have P4 := qh P3.out.drew
      have B4 := qh B3.out.drew
      have N4 := qh N3.out.drew
      have O4 := qh (World.ownsRow.drew O6.out)
      have lz4 : base ≤ wr.drew.heap.size := lz3
      generalize wr.drew = w6 at X4 P4 B4 N4 O4 lz4 ⊢
      clear X3 P3 B3 N3 O6 lz3
      repeat ((first | refine lxS (by rfl) (by rfl) ?_ | (refine lxT (v := ?_) (by rfl) (by rfl) (fun z y => ?_) ?_; rotate_left; (focus ((try dsimp only at y); (go_simp <;> with_reducible rfl); done)))); (try simp only [Act.put,pS,pZ,pC]))
      (refine lxB (by rfl) (fun K hK => ?_); go_simp)
      refine (plan_any base A1 A5 n1 c1 m5 c5 room (openB us) vs5 most w6 N4.out lz4 (open_ok Hok.out) hm20).mono ?_; rintro e w7 ⟨v7, rfl, vs', hx7, hk7, hf7, hb7⟩
      have X7 := qh hx7
      have K7 := qh hk7
      have F7 := qh hf7
      have B7 := qh (B4.out.trans hb7)
      have H7 := qh (hk7.blk X4.out.blk (by decide) (by decide))
      have P7 := qh (hk7.blk P4.out (by decide) (by decide))
      have O7 := qh (hk7.own O4.out (by decide) (by decide))
      ((try dsimp only); refine nxK hK _ _ (⟨H7.out.cell 2, P7.out.cell 4⟩) ?_; clear hK K; (try simp only [Act.put,pS,pZ,pC]))
      refine wpMixL_nil ?_
      have lz7 : base ≤ w7.heap.size := Nat.le_trans lz4 hb7.size
      clear hx7 hk7 hf7 hb7 B4 N4 O4 P4 P7
      go_wp2_with fail
      go_loopw [56] (fun kv wr => ∃ (k : Nat) (hv' : List Value), kv = .int .i64 (k : Nat) ∧ k ≤ m5 ∧ hv'.length = i * 2 ∧ (∀ a, a < i → hv'[a * 2]? = some (.bool (us[a]?.getD (false, [])).1) ∧ hv'[a * 2 + 1]? = some (tkN us tk vs' k a)) ∧
        Blk wr hb 135 (hostC 1 A1 n1 c1 i (hv' ++ zs)) ∧ (∀ b, b ≠ hb → wr.heap[b]? = w7.heap[b]?) ∧ Below base w7 wr) (fun kv _ => m5 - (intOf kv).toNat)
      case atStart => exact ⟨0, hv, rfl, Nat.zero_le _, X4.out.un.2.1, fun a ha => by
        obtain ⟨h1, h2, _⟩ := X4.out.un.2.2.1 a ha
        rw [tkN_zero]; exact ⟨h1, h2⟩, H7.out, fun _ _ => rfl, Below.refl _ _⟩
      case round =>
        obtain ⟨k, hv', rfl, hk, hvl, hvc, hblk, hoth, hbw⟩ := hrel
        have Hvl := qh hvl
        have Hvc := qh hvc
        have Hblk := qh hblk
        have Hoth := qh hoth
        have Hbw := qh hbw
        clear hvl hvc hblk hoth hbw
        by_cases hlt : k < m5
        · obtain ⟨j, hj, hoj, hjk⟩ := open_surj (us := us) (a := k) (by rw [open_len, ← V5.out.1, Hhm.out]; omega)
          have hji : j < i := by have := Hhl.out; omega
          have hj10 : (j : Int) < 10 := by have := X4.out.n; omega
          obtain ⟨g6, _, rfl, _⟩ := own_row O7.out (by omega)
          obtain ⟨g5, _, rfl, _⟩ := own_row X7.out.own (by omega)
          obtain ⟨Ak, mk, ck, vt, hvk, _, _⟩ := X7.out.nd.2.2.1 k (by omega)
          have hne6 : g6 ≠ hb := fun e => own_blk_ne O7.out H7.out (by decide) (by rw [← e]; rfl)
          have hne5 : g5 ≠ hb := fun e => own_blk_ne X7.out.own H7.out (by decide) (by rw [← e]; rfl)
          have e6 : wr.cell? ⟨g6, k, none⟩ = some (.int .i64 (j : Nat)) := by
            have h1 := O7.out.cells (g := g6) rfl k (.int .i64 (j : Nat)) (by have := Hv6.out.2 j hji hoj; rwa [hjk] at this)
            rw [addr_add, Nat.zero_add] at h1
            exact (World.cell?_of_block (a := ⟨g6, k, none⟩) (Hoth.out g6 hne6)).trans h1
          have e5 : wr.cell? ⟨g5, k, none⟩ = some (.slice Ak mk ck) := by
            have h1 := X7.out.own.cells (g := g5) rfl k _ hvk
            rw [addr_add, Nat.zero_add] at h1
            exact (World.cell?_of_block (a := ⟨g5, k, none⟩) (Hoth.out g5 hne5)).trans h1
          have Hvk := qh hvk
          have Hoj := qh hoj
          have Hjk := qh hjk
          have k0 : (0 : Int) ≤ (k : Int) := by omega
          have k1 : (k : Int) < (m5 : Int) := by omega
          have k2 : (k : Int) < (m5 : Int) := by omega
          have j0 : (0 : Int) ≤ (j : Int) := by omega
          have E5 := qh e5
          clear hvk hoj hjk e5
          go_wp2_with fail
          refine wp_region_mixL (.take 0 (.take 1 (.take 2 (.take 3 (.take 4 (.take 5 (.take 6 (.take 7 (.take 8 (.take 9 (.last 10 .nil))))))))))) [10] (fun w' => w'.cell? ⟨g5, k, none⟩ = some (.slice Ak mk ck)) (by kernel_rfl) (by kernel_rfl) E5.out (fun _ => ?_)
          have Hb8 := qh Hblk.out.drew
          have Ho8 := qh (show ∀ b, b ≠ hb → wr.drew.heap[b]? = w7.heap[b]? from Hoth.out)
          have Bw8 := qh Hbw.out.drew
          generalize wr.drew = w8 at Hb8 Ho8 Bw8 ⊢
          clear Hblk Hoth Hbw E5 e6
          have hc8 := Hb8.out.cell (4 + j * 2 + 1)
          rw [Nat.add_assoc, hostC_unit, List.getElem?_append_left (by rw [Hvl.out]; omega), (Hvc.out j hji).2, ← Nat.add_assoc] at hc8
          have hf8 := Hb8.out.frozen (4 + j * 2 + 1)
          repeat ((first | refine lxS (by rfl) (by rfl) ?_ | (refine lxT (v := ?_) (by rfl) (by rfl) (fun z y => ?_) ?_; rotate_left; (focus ((try dsimp only at y); (go_simp <;> with_reducible rfl); done)))); (try simp only [Act.put,pS,pZ,pC]))
          (refine wpMixL_last (by rfl) (fun K hK => ?_); go_simp)
          ((try dsimp only); refine hK.out _ _ ?_; clear hK K; (try simp only [Act.put,pS,pZ,pC]))
          refine wpMixL_nil ?_
          have H9 := qh (show Blk (w8.setCell ⟨hb, 4 + j * 2 + 1, none⟩ (.slice Ak mk ck)) hb 135 (hostC 1 A1 n1 c1 i (hv'.set (j * 2 + 1) (.slice Ak mk ck) ++ zs)) from by
            have := Hb8.out.set_ (4 + j * 2 + 1) (.slice Ak mk ck)
            rwa [Nat.add_assoc, hostC_set, List.set_append_left _ _ (by rw [Hvl.out]; omega)] at this)
          have Ho9 := qh (show ∀ b, b ≠ hb → (w8.setCell ⟨hb, 4 + j * 2 + 1, none⟩ (.slice Ak mk ck)).heap[b]? = w7.heap[b]? from fun b hbn => (Below.heap_setCell _ _ _ _ hbn).trans (Ho8.out b hbn))
          have Bw9 := qh (Bw8.out.setCell (p := ⟨hb, 4 + j * 2 + 1, none⟩) hb0 (.slice Ak mk ck))
          generalize w8.setCell ⟨hb, 4 + j * 2 + 1, none⟩ (.slice Ak mk ck) = w9 at H9 Ho9 Bw9 ⊢
          clear Hb8 Ho8 Bw8 hc8 hf8
          go_wp2_with fail
          go_roundw
          case measure => simp [intOf]; omega
          case rel =>
            refine ⟨k + 1, _, by go_num, by omega, by rw [List.length_set]; exact Hvl.out, fun a ha => ?_, H9.out, Ho9.out, Bw9.out⟩
            obtain ⟨h1, h2⟩ := Hvc.out a ha
            refine ⟨by rw [List.getElem?_set_ne (by omega)]; exact h1, ?_⟩
            by_cases e : a = j
            · subst e
              rw [List.getElem?_set_self (by rw [Hvl.out]; omega), tkN_at Hoj.out Hjk.out Hvk.out]
            · rw [List.getElem?_set_ne (by omega), tkN_other hj (by have := Hhl.out; omega) Hoj.out Hjk.out e]
              exact h2
        · obtain rfl : k = m5 := by omega
          have B9 := qh (B7.out.trans Hbw.out)
          have X9 := qh (show HostX wr base hb 1 A1 n1 c1 i room (gatherU room us (k : Int)) hv' zs (tkN us tk vs' vs5.length) ∨ True from .inr trivial)
          have X10 := qh (show HostX wr base hb 1 A1 n1 c1 i room (gatherU room us (most : Int)) hv' zs (tkN us tk vs' vs5.length) from by
            have kt : KeepTI w7 wr := fun b hb' => Hoth.out b (hb'.ne H7.out (by decide) (by decide))
            have hu := units_back (hv' := hv') X4.out.un V5.out (by rw [Hhm.out]; exact X7.out.nd) F7.out K7.out Hvl.out (by rw [Hhm.out]; exact Hvc.out)
            refine ⟨Hblk.out, hb0, own_keepTI X7.out.rm (.inl rfl) kt, ?_, hn10⟩
            unfold gatherU
            rw [Int.toNat_natCast]
            exact hu.keepTI kt)
          clear X9 Hvl Hvc Hblk Hoth Hbw
          go_wp2_with fail
          refine leaves_cons (f := 103) (args := #[.pointer (some ⟨hb, 0, none⟩)]) (by simp) (by simp [go_sem]) ?_
          refine (unlock_deferred muLib ⟨hb, 0, none⟩ .returning _ X10.out.lk.1 X10.out.lk.2).mono ?_
          rintro e u' w'' ⟨rfl, rfl, rfl⟩
          exact ⟨_, results_tmp rfl _ _ _, rfl, (X10.out.setL (l' := 0)).post, B9.out.setCell (p := ⟨hb, 0, none⟩) hb0 (.int .i32 0)⟩
end Go.Proofs.YtdkhdfedejbicaaGreatDoor

namespace Go.Proofs.YtdkhdfedejbicaaGreatDoor
set_option linter.unusedSimpArgs false
set_option linter.unusedVariables false
open Go Go.RowKit
attribute [local go_sem ↓] Go.wp_at_zero Go.wp_at_succ

set_option maxRecDepth 100000 in
set_option maxHeartbeats 1600000 in
theorem l2Bins_any (A : Option Addr) (n c : Nat) (bs : List (List Tk)) (w : World) (h : RdB w w.heap.size A n bs) (hn : n ≤ 1000) (hb : ∀ j, j < n → (bs[j]?.getD []).length ≤ 1048576 ∧ ∀ a, a < (bs[j]?.getD []).length → ((bs[j]?.getD [])[a]?.getD (0, [])).2.length ≤ 1048576) :
    Calls Tryz.prog 153 #[.slice A n c] w fun e w' => ∃ A' c', e = .returned (.slice A' n c') ∧ OwnBR w' w.heap.size (.slice A' n c') n bs ∧ Below w.heap.size w w' := by
  obtain ⟨ib, hib, hbz0, hbz1, hbz2⟩ := info_parts row_info
  have Hl := qh h.len
  have H := qh h
  have Hb := qh hb
  have B1 := qh (alloc_up w (.cells #[] 81))
  have O1 := qh (show (w.alloc (.cells #[] 81)).ownsRow w.heap.size 81 1 (.slice (some ⟨w.heap.size, 0, none⟩) 0 0) 0 [] from World.ownsRow_lit w #[] 0 (Nat.le_refl _) (by unfold maxLen; omega) rfl)
  clear h hb
  go_enter Tryz.func153, Tryz.ntmps153
  go_wp2_with fail
  generalize w.alloc (.cells #[] 81) = w1 at B1 O1 ⊢
  go_loopw [3, 4] (fun v kv wr => ∃ (k : Nat) (A3 : Option Addr) (c3 : Nat) (vs : List Value), kv = .int .i64 (k : Nat) ∧ k ≤ n ∧ v = .slice A3 k c3 ∧ wr.ownsRow w.heap.size 81 1 (.slice A3 k c3) k vs ∧ NdBR wr w.heap.size k vs (bs.take k) ∧ Below w.heap.size w wr) (fun _ kv _ => n - (intOf kv).toNat)
  case atStart => exact ⟨0, _, _, [], rfl, Nat.zero_le _, rfl, O1.out, NdBR.nil, B1.out⟩
  case round =>
    clear O1 B1
    obtain ⟨k, A3, c3, vs, rfl, hk, rfl, ho, hnd, hup⟩ := hrel
    have Ho := qh ho
    have Hnd := qh hnd
    have Hup := qh hup
    have lzr : w.heap.size ≤ wr.heap.size := hup.size
    clear ho hnd hup
    by_cases hlt : k < n
    · have q1 : (0 : Int) ≤ (k : Int) := by omega
      have q2 : (k : Int) < (n : Int) := by omega
      have v1 : IntKind.i64.wrap ((k : Int) + 1) = (k : Int) + 1 := wr64 (by omega) (by omega)
      obtain ⟨b, o, A', m', c', rfl, lb, hc1, hmc, hrd⟩ := (H.out.below Hup.out).at_ hlt
      have hkl : k < bs.length := by have := Hl.out; omega
      have Hs := qh (show bs.take (k + 1) = bs.take k ++ [bs[k]?.getD []] from by rw [List.take_succ_eq_append_getElem hkl, List.getElem?_eq_getElem hkl]; rfl)
      have Hrd := qh hrd
      have hml := hrd.len
      have hm1 : m' ≤ 1048576 := by have := (Hb.out k hlt).1; omega
      have Hm := qh (fun a (ha : a < m') => (Hb.out k hlt).2 a (by omega))
      clear hrd hml
      go_wp2_with fail
      refine (l2Copy_any A' m' c' (bs[k]?.getD []) wr (Hrd.out.more lzr) hm1 Hm.out).mono ?_; rintro e w3 ⟨A4, c4, rfl, ⟨vt, nd, hot, hntt⟩, hb3⟩
      have l3 : w.heap.size ≤ w3.heap.size := Nat.le_trans lzr hb3.size
      have U3 := qh (Hup.out.trans (hb3.mono lzr))
      have O3 := qh (own_up' Ho.out hb3)
      have N3 := qh (Hnd.out.keepTI (KeepTI.up hb3))
      have T3 := qh hot
      have D3 := qh (NdR.of hntt hot.1)
      have Old := qh (fun (a : Nat) (u : Value) (hu : vs[a]? = some u) (x : Nat) (hx : u.ownBlock = some x) => Hnd.out.old a u hu x hx)
      have al := alloc_up w3 (.cells #[.slice A4 m' c4] 81)
      have U4 := qh (U3.out.trans (al.mono l3))
      have O4 := qh (own_up' O3.out al)
      have N4 := qh (N3.out.keepTI (KeepTI.up al))
      have T4 := qh (own_up' (own_lo T3.out lzr) al)
      have D4 := qh ((D3.out.low lzr).keepTI (KeepTI.up al))
      have S4 := qh (lit1c w3 81 (.slice A4 m' c4))
      have l4 := U4.out.size
      clear al hot hntt hb3 U3 O3 N3 D3
      go_wp2_with (at_builtin; refine wpList_append_src _ rfl _ _ 91 rfl w.heap.size 81 ib _ 1 24 Tryz.underlying91 hib hbz0 hbz1 hbz2 rfl (by omega) (.slice A3 k c3) k vs rfl O4.out (some ⟨w3.heap.size, 0, none⟩) 1 1 [.slice A4 m' c4] rfl S4.out (by simp [Value.oneCell']) (by unfold maxLen; omega) (by omega) l4 ?_; intro v' wn hown6 hgrow6 hat6; obtain ⟨A8, c8, rfl⟩ := own_shape hown6)
      have kt := KeepTI.grown O4.out hgrow6 (by decide) (by decide)
      refine ⟨⟨k + 1, A8, c8, _, by go_num, by omega, rfl, hown6, ?_, U4.out.grown hgrow6 l4 (fun a e => (O4.out.lt a e).1)⟩, by simp [intOf]; omega⟩
      rw [Hs.out]
      refine (N4.out.keepTI kt).snoc (own_keepTI T4.out (.inr rfl) kt) (D4.out.keepTI kt) (fun a u hu x hx hx2 => ?_)
      have h1 := Old.out a u hu x hx
      have h2 := (T3.out.lt x hx2).1
      omega
    · obtain rfl : k = n := by omega
      go_wp2_with fail
      go_ret
      have hnd := Hnd.out
      rw [List.take_of_length_le (by have := Hl.out; omega)] at hnd
      exact ⟨A3, c3, rfl, ⟨vs, Ho.out, hnd⟩, Hup.out⟩
end Go.Proofs.YtdkhdfedejbicaaGreatDoor
