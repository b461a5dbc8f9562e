/- Several texts in one. -/
import Derived.Test.YtdgeicdiiakhjaaGreatW17
import Derived.Test.YtdgeicdiiakhjaaGreatW9
import Derived.Test.YtdgeicdiiakhjaaGreatW14
namespace Go.Proofs.YtdgeicdiiakhjaaGreat
set_option linter.unusedSimpArgs false
set_option linter.unusedVariables false
open Go Go.RowKit Go.MuLone
attribute [local go_sem ↓] Go.wp_at_zero Go.wp_at_succ

theorem rank_lt {us : List Un} {i j : Nat} (h : i < j) (hj : j ≤ us.length) (ho : (us[i]?.getD (false, [])).1 = true) : rankU us i < rankU us j := by
  have r1 := rank_mono (us := us) (i := i + 1) (j := j) h
  rw [rank_succ (by omega), if_pos ho] at r1
  omega
theorem rank_inj {us : List Un} {i j : Nat} (hi : i < us.length) (hj : j < us.length) (hoi : (us[i]?.getD (false, [])).1 = true) (hoj : (us[j]?.getD (false, [])).1 = true) (he : rankU us i = rankU us j) : i = j := by
  rcases Nat.lt_trichotomy i j with h | h | h
  · have := rank_lt h (by omega) hoi; omega
  · exact h
  · have := rank_lt h (by omega) hoj; omega

/-- The open units' rows, in order. -/
def OpenVs (us : List Un) (tk : Nat → Value) (i : Nat) (vs : List Value) : Prop := vs.length = rankU us i ∧ ∀ j, j < i → (us[j]?.getD (false, [])).1 = true → vs[rankU us j]? = some (tk j)
theorem OpenVs.zero {us : List Un} {tk : Nat → Value} : OpenVs us tk 0 [] := ⟨by rw [rank_zero]; rfl, fun j hj => by omega⟩
theorem OpenVs.yes {us : List Un} {tk : Nat → Value} {i : Nat} {vs : List Value} (h : OpenVs us tk i vs) (hi : i < us.length) (ho : (us[i]?.getD (false, [])).1 = true) : OpenVs us tk (i + 1) (vs ++ [tk i]) := by
  refine ⟨by rw [rank_succ hi, if_pos ho, List.length_append, h.1]; rfl, fun j hj hoj => ?_⟩
  by_cases e : j = i
  · subst e
    rw [List.getElem?_append_right (by rw [h.1]; omega), h.1, Nat.sub_self]; rfl
  · have := rank_lt (us := us) (i := j) (j := i) (by omega) (by omega) hoj
    rw [List.getElem?_append_left (by rw [h.1]; exact this)]
    exact h.2 j (by omega) hoj
theorem OpenVs.no {us : List Un} {tk : Nat → Value} {i : Nat} {vs : List Value} (h : OpenVs us tk i vs) (hi : i < us.length) (ho : (us[i]?.getD (false, [])).1 = false) : OpenVs us tk (i + 1) vs := by
  refine ⟨by rw [rank_succ hi, if_neg (by rw [ho]; simp), h.1]; rfl, fun j hj hoj => ?_⟩
  by_cases e : j = i
  · subst e
    rw [ho] at hoj; cases hoj
  · exact h.2 j (by omega) hoj
/-- The open units' rows are nodes. -/
theorem OpenVs.nodes {w : World} {base n : Nat} {hv vs : List Value} {tk : Nat → Value} {us : List Un} (h : OpenVs us tk us.length vs) (hu : NdUR w base n hv tk us) : NdBR w base vs.length vs (openB us) := by
  have hl : us.length = n := hu.1
  refine ⟨by rw [open_len, h.1], rfl, fun k hk => ?_, fun a b u v hu' hv' hab x hx hx' => ?_⟩
  · obtain ⟨j, hj, hoj, hjk⟩ := open_surj (us := us) (a := k) (by rw [open_len, ← h.1]; exact hk)
    obtain ⟨_, _, A, m, c, vt, e1, e2, e3⟩ := hu.2.2.1 j (by omega)
    refine ⟨A, m, c, vt, ?_, e2, ?_⟩
    · rw [← hjk, h.2 j hj hoj, e1]
    · rw [← hjk, open_at hj hoj]; exact e3
  · have ha := (List.getElem?_eq_some_iff.1 hu').1
    have hb := (List.getElem?_eq_some_iff.1 hv').1
    obtain ⟨i, hi, hoi, hia⟩ := open_surj (us := us) (a := a) (by rw [open_len, ← h.1]; exact ha)
    obtain ⟨j, hj, hoj, hjb⟩ := open_surj (us := us) (a := b) (by rw [open_len, ← h.1]; exact hb)
    rw [← hia, h.2 i hi hoi] at hu'
    rw [← hjb, h.2 j hj hoj] at hv'
    injection hu' with hu'
    injection hv' with hv'
    rw [← hu'] at hx
    rw [← hv'] at hx'
    exact hu.2.2.2 i j (by omega) (by omega) (fun e => hab (by rw [← hia, ← hjb, e])) x hx hx'
/-- The units when the open nodes' rows have turned to others, up to a rank. -/
def tkN (us : List Un) (tk : Nat → Value) (vs : List Value) (k i : Nat) : Value := if (us[i]?.getD (false, [])).1 = true ∧ rankU us i < k then vs[rankU us i]?.getD (.slice none 0 0) else tk i
theorem tkN_zero (us : List Un) (tk : Nat → Value) (vs : List Value) (i : Nat) : tkN us tk vs 0 i = tk i := by unfold tkN; rw [if_neg (by omega)]
theorem tkN_at {us : List Un} {tk : Nat → Value} {vs : List Value} {k i : Nat} {u : Value} (ho : (us[i]?.getD (false, [])).1 = true) (hr : rankU us i = k) (hu : vs[k]? = some u) : tkN us tk vs (k + 1) i = u := by
  unfold tkN; rw [if_pos ⟨ho, by omega⟩, hr, hu]; rfl
theorem tkN_other {us : List Un} {tk : Nat → Value} {vs : List Value} {k i j : Nat} (hi : i < us.length) (hj : j < us.length) (ho : (us[i]?.getD (false, [])).1 = true) (hr : rankU us i = k) (hne : j ≠ i) : tkN us tk vs (k + 1) j = tkN us tk vs k j := by
  unfold tkN
  by_cases hoj : (us[j]?.getD (false, [])).1 = true
  · have : rankU us j ≠ k := fun e => hne (rank_inj hj hi hoj ho (e.trans hr.symm))
    by_cases h : rankU us j < k
    · rw [if_pos ⟨hoj, by omega⟩, if_pos ⟨hoj, h⟩]
    · rw [if_neg (fun h' => by omega), if_neg (fun h' => h h'.2)]
  · rw [if_neg (fun h' => hoj h'.1), if_neg (fun h' => hoj h'.1)]
/-- The units behind gathering. -/
theorem units_back {w w' : World} {base n : Nat} {hv hv' vs vs' : List Value} {tk : Nat → Value} {us : List Un} {bs : List (List Tk)} (hu : NdUR w base n hv tk us) (ho : OpenVs us tk us.length vs) (hb : NdBR w' base vs.length vs' bs) (hf : FarX w w' vs vs') (hk : KeepX w w')
    (hl : hv'.length = n * 2) (hc : ∀ i, i < n → hv'[i * 2]? = some (.bool (us[i]?.getD (false, [])).1) ∧ hv'[i * 2 + 1]? = some (tkN us tk vs' vs.length i)) : NdUR w' base n hv' (tkN us tk vs' vs.length) (backU us bs) := by
  have hlen : us.length = n := hu.1
  have hrank : ∀ i, i < n → (us[i]?.getD (false, [])).1 = true → rankU us i < vs.length := fun i hi hoi => by rw [ho.1]; exact rank_lt (by omega) (Nat.le_refl _) hoi
  have hvl : vs'.length = vs.length := hb.2.1
  have topen : ∀ i, i < n → (us[i]?.getD (false, [])).1 = true → vs'[rankU us i]? = some (tkN us tk vs' vs.length i) := fun i hi hoi => by
    unfold tkN
    rw [if_pos ⟨hoi, hrank i hi hoi⟩, List.getElem?_eq_getElem (by rw [hvl]; exact hrank i hi hoi)]; rfl
  have tclosed : ∀ i, ¬ (us[i]?.getD (false, [])).1 = true → tkN us tk vs' vs.length i = tk i := fun i hoi => by unfold tkN; rw [if_neg (fun h => hoi h.1)]
  have far : ∀ i j, i < n → j < n → (us[i]?.getD (false, [])).1 = true → ¬ (us[j]?.getD (false, [])).1 = true → ∀ b, (tkN us tk vs' vs.length i).ownBlock = some b → (tkN us tk vs' vs.length j).ownBlock ≠ some b := fun i j hi hj hoi hoj b hb1 hb2 => by
    rw [tclosed j hoj] at hb2
    rcases hf.2 _ _ b (topen i hi hoi) hb1 with h1 | ⟨a', u', h1, h2⟩
    · have := hu.old j hj b hb2; omega
    · have ha := (List.getElem?_eq_some_iff.1 h1).1
      obtain ⟨i', hi', hoi', hia'⟩ := open_surj (us := us) (a := a') (by rw [open_len, ← ho.1]; exact ha)
      rw [← hia', ho.2 i' hi' hoi'] at h1
      injection h1 with h1
      rw [← h1] at h2
      exact hu.2.2.2 i' j (by omega) hj (fun e => hoj (by rw [← e]; exact hoi')) b h2 hb2
  refine ⟨by rw [back_len]; exact hlen, hl, fun i hi => ?_, fun i j hi hj hij b hb1 hb2 => ?_⟩
  · obtain ⟨c1, c2⟩ := hc i hi
    have e1 : ((backU us bs)[i]?.getD (false, [])).1 = (us[i]?.getD (false, [])).1 := by
      rw [back_at (by omega)]
      split
      · rename_i h; exact h.symm
      · rfl
    refine ⟨by rw [e1]; exact c1, c2, ?_⟩
    by_cases hoi : (us[i]?.getD (false, [])).1 = true
    · obtain ⟨A, m, c, vt, h1, h2, h3⟩ := hb.2.2.1 (rankU us i) (hrank i hi hoi)
      rw [topen i hi hoi] at h1
      injection h1 with h1
      refine ⟨A, m, c, vt, h1, h2, ?_⟩
      rw [back_at (by omega), if_pos hoi]
      exact h3
    · obtain ⟨_, _, A, m, c, vt, h1, h2, h3⟩ := hu.2.2.1 i hi
      refine ⟨A, m, c, vt, (tclosed i hoi).trans h1, own_keepB h2 (fun b cs hbb hcc => hf.1 b cs hcc (fun a u hau hub => ?_)), ?_⟩
      · have ha := (List.getElem?_eq_some_iff.1 hau).1
        obtain ⟨i', hi', hoi', hia'⟩ := open_surj (us := us) (a := a) (by rw [open_len, ← ho.1]; exact ha)
        rw [← hia', ho.2 i' hi' hoi'] at hau
        injection hau with hau
        rw [← hau] at hub
        exact hu.2.2.2 i' i (by omega) hi (fun e => hoi (by rw [← e]; exact hoi')) b hub (by rw [h1]; exact hbb)
      · rw [back_at (by omega), if_neg hoi]
        exact h3.keepX hk
  · by_cases hoi : (us[i]?.getD (false, [])).1 = true
    · by_cases hoj : (us[j]?.getD (false, [])).1 = true
      · exact hb.2.2.2 _ _ _ _ (topen i hi hoi) (topen j hj hoj) (fun e => hij (rank_inj (by omega) (by omega) hoi hoj e)) b hb1 hb2
      · exact far i j hi hj hoi hoj b hb1 hb2
    · by_cases hoj : (us[j]?.getD (false, [])).1 = true
      · exact far j i hj hi hoj hoi b hb2 hb1
      · rw [tclosed i hoi] at hb1
        rw [tclosed j hoj] at hb2
        exact hu.2.2.2 i j hi hj hij b hb1 hb2
end Go.Proofs.YtdgeicdiiakhjaaGreat

namespace Go.Proofs.YtdgeicdiiakhjaaGreat
set_option linter.unusedSimpArgs false
set_option linter.unusedVariables false
open Go Go.RowKit Go.MuLone
attribute [local go_sem ↓] Go.wp_at_zero Go.wp_at_succ

theorem row_info : (Tryz.prog.info? 24).map (fun i => (i.zero, i.size, i.bytes)) = some (some (.slice none 0 0), 1, 24) := by kernel_rfl
theorem lit1c (w : World) (t : TypeId) (a : Value) : Src (w.alloc (.cells #[a] t)) 1 (some ⟨w.heap.size, 0, none⟩) 1 [a] :=
  ⟨rfl, fun _ => ⟨_, rfl, fun j u hu => by rw [addr_add, Nat.zero_add, (Blk.new w t #[a]).cell]; simpa using hu⟩⟩

end Go.Proofs.YtdgeicdiiakhjaaGreat

namespace Go.Proofs.YtdgeicdiiakhjaaGreat
set_option linter.unusedSimpArgs false
set_option linter.unusedVariables false
open Go Go.RowKit
attribute [local go_sem ↓] Go.wp_at_zero Go.wp_at_succ

set_option maxRecDepth 100000 in
set_option maxHeartbeats 1600000 in
theorem l2Bins_any (A : Option Addr) (n c : Nat) (bs : List (List Tk)) (w : World) (h : RdB w w.heap.size A n bs) (hn : n ≤ 1000) (hb : ∀ j, j < n → (bs[j]?.getD []).length ≤ 1048576 ∧ ∀ a, a < (bs[j]?.getD []).length → ((bs[j]?.getD [])[a]?.getD (0, [])).2.length ≤ 1048576) :
    Calls Tryz.prog 72 #[.slice A n c] w fun e w' => ∃ A' c', e = .returned (.slice A' n c') ∧ OwnBR w' w.heap.size (.slice A' n c') n bs ∧ Below w.heap.size w w' := by
  obtain ⟨ib, hib, hbz0, hbz1, hbz2⟩ := info_parts row_info
  have Hl := qh h.len
  have H := qh h
  have Hb := qh hb
  have B1 := qh (alloc_up w (.cells #[] 24))
  have O1 := qh (show (w.alloc (.cells #[] 24)).ownsRow w.heap.size 24 1 (.slice (some ⟨w.heap.size, 0, none⟩) 0 0) 0 [] from World.ownsRow_lit w #[] 0 (Nat.le_refl _) (by unfold maxLen; omega) rfl)
  clear h hb
  go_enter Tryz.func72, Tryz.ntmps72
  go_wp2_with fail
  generalize w.alloc (.cells #[] 24) = w1 at B1 O1 ⊢
  go_loopw [3, 4] (fun v kv wr => ∃ (k : Nat) (A3 : Option Addr) (c3 : Nat) (vs : List Value), kv = .int .i64 (k : Nat) ∧ k ≤ n ∧ v = .slice A3 k c3 ∧ wr.ownsRow w.heap.size 24 1 (.slice A3 k c3) k vs ∧ NdBR wr w.heap.size k vs (bs.take k) ∧ Below w.heap.size w wr) (fun _ kv _ => n - (intOf kv).toNat)
  case atStart => exact ⟨0, _, _, [], rfl, Nat.zero_le _, rfl, O1.out, NdBR.nil, B1.out⟩
  case round =>
    clear O1 B1
    obtain ⟨k, A3, c3, vs, rfl, hk, rfl, ho, hnd, hup⟩ := hrel
    have Ho := qh ho
    have Hnd := qh hnd
    have Hup := qh hup
    have lzr : w.heap.size ≤ wr.heap.size := hup.size
    clear ho hnd hup
    by_cases hlt : k < n
    · have q1 : (0 : Int) ≤ (k : Int) := by omega
      have q2 : (k : Int) < (n : Int) := by omega
      have v1 : IntKind.i64.wrap ((k : Int) + 1) = (k : Int) + 1 := wr64 (by omega) (by omega)
      obtain ⟨b, o, A', m', c', rfl, lb, hc1, hmc, hrd⟩ := (H.out.below Hup.out).at_ hlt
      have hkl : k < bs.length := by have := Hl.out; omega
      have Hs := qh (show bs.take (k + 1) = bs.take k ++ [bs[k]?.getD []] from by rw [List.take_succ_eq_append_getElem hkl, List.getElem?_eq_getElem hkl]; rfl)
      have Hrd := qh hrd
      have hml := hrd.len
      have hm1 : m' ≤ 1048576 := by have := (Hb.out k hlt).1; omega
      have Hm := qh (fun a (ha : a < m') => (Hb.out k hlt).2 a (by omega))
      clear hrd hml
      go_wp2_with fail
      refine (l2Copy_any A' m' c' (bs[k]?.getD []) wr (Hrd.out.more lzr) hm1 Hm.out).mono ?_; rintro e w3 ⟨A4, c4, rfl, ⟨vt, nd, hot, hntt⟩, hb3⟩
      have l3 : w.heap.size ≤ w3.heap.size := Nat.le_trans lzr hb3.size
      have U3 := qh (Hup.out.trans (hb3.mono lzr))
      have O3 := qh (own_up' Ho.out hb3)
      have N3 := qh (Hnd.out.keepTI (KeepTI.up hb3))
      have T3 := qh hot
      have D3 := qh (NdR.of hntt hot.1)
      have Old := qh (fun (a : Nat) (u : Value) (hu : vs[a]? = some u) (x : Nat) (hx : u.ownBlock = some x) => Hnd.out.old a u hu x hx)
      have al := alloc_up w3 (.cells #[.slice A4 m' c4] 24)
      have U4 := qh (U3.out.trans (al.mono l3))
      have O4 := qh (own_up' O3.out al)
      have N4 := qh (N3.out.keepTI (KeepTI.up al))
      have T4 := qh (own_up' (own_lo T3.out lzr) al)
      have D4 := qh ((D3.out.low lzr).keepTI (KeepTI.up al))
      have S4 := qh (lit1c w3 24 (.slice A4 m' c4))
      have l4 := U4.out.size
      clear al hot hntt hb3 U3 O3 N3 D3
      go_wp2_with (at_builtin; refine wpList_append_src _ rfl _ _ 27 rfl w.heap.size 24 ib _ 1 24 Tryz.underlying27 hib hbz0 hbz1 hbz2 rfl (by omega) (.slice A3 k c3) k vs rfl O4.out (some ⟨w3.heap.size, 0, none⟩) 1 1 [.slice A4 m' c4] rfl S4.out (by simp [Value.oneCell']) (by unfold maxLen; omega) (by omega) l4 ?_; intro v' wn hown6 hgrow6 hat6; obtain ⟨A8, c8, rfl⟩ := own_shape hown6)
      have kt := KeepTI.grown O4.out hgrow6 (by decide) (by decide)
      refine ⟨⟨k + 1, A8, c8, _, by go_num, by omega, rfl, hown6, ?_, U4.out.grown hgrow6 l4 (fun a e => (O4.out.lt a e).1)⟩, by simp [intOf]; omega⟩
      rw [Hs.out]
      refine (N4.out.keepTI kt).snoc (own_keepTI T4.out (.inr rfl) kt) (D4.out.keepTI kt) (fun a u hu x hx hx2 => ?_)
      have h1 := Old.out a u hu x hx
      have h2 := (T3.out.lt x hx2).1
      omega
    · obtain rfl : k = n := by omega
      go_wp2_with fail
      go_ret
      have hnd := Hnd.out
      rw [List.take_of_length_le (by have := Hl.out; omega)] at hnd
      exact ⟨A3, c3, rfl, ⟨vs, Ho.out, hnd⟩, Hup.out⟩
end Go.Proofs.YtdgeicdiiakhjaaGreat

namespace Go.Proofs.YtdgeicdiiakhjaaGreat
set_option linter.unusedSimpArgs false
set_option linter.unusedVariables false
open Go Go.RowKit
attribute [local go_sem ↓] Go.wp_at_zero Go.wp_at_succ

/-- Rows of tasks of the call's own, whose needs lie below a block. -/
def TkBR (w : World) (lo B n : Nat) (vs : List Value) (bs : List (List Tk)) : Prop :=
  bs.length = n ∧ vs.length = n ∧ ∀ j, j < n → ∃ A m c vt, vs[j]? = some (.slice A m c) ∧ w.ownsRow lo 43 2 (.slice A m c) m vt ∧ TkCells w B vt (bs[j]?.getD [])
section
variable {w w' : World} {lo B n : Nat} {vs : List Value} {bs : List (List Tk)}
theorem TkBR.nil : TkBR w lo B 0 [] [] := ⟨rfl, rfl, fun j hj => by omega⟩
theorem TkBR.keep (h : TkBR w lo B n vs bs) (hB : ∀ p : Addr, p.block < B → w'.cell? p = w.cell? p) (hk : ∀ A m c vt, w.ownsRow lo 43 2 (.slice A m c) m vt → w'.ownsRow lo 43 2 (.slice A m c) m vt) : TkBR w' lo B n vs bs :=
  ⟨h.1, h.2.1, fun j hj => by
    obtain ⟨A, m, c, vt, h1, h2, h3⟩ := h.2.2 j hj
    exact ⟨A, m, c, vt, h1, hk _ _ _ _ h2, h3.keep hB (Nat.le_refl _)⟩⟩
theorem TkBR.snoc {A : Option Addr} {m c : Nat} {vt : List Value} {ts : List Tk} (h : TkBR w lo B n vs bs) (ho : w.ownsRow lo 43 2 (.slice A m c) m vt) (ht : TkCells w B vt ts) : TkBR w lo B (n + 1) (vs ++ [.slice A m c]) (bs ++ [ts]) := by
  have h1 := h.1
  have h2 := h.2.1
  refine ⟨by simp [h1], by simp [h2], fun j hj => ?_⟩
  by_cases e : j = n
  · subst e
    exact ⟨A, m, c, vt, by rw [List.getElem?_append_right (by omega), h2, Nat.sub_self]; rfl, ho, by rw [List.getElem?_append_right (by omega), h1, Nat.sub_self]; exact ht⟩
  · obtain ⟨A', m', c', vt', e1, e2, e3⟩ := h.2.2 j (by omega)
    exact ⟨A', m', c', vt', by rw [List.getElem?_append_left (by omega)]; exact e1, e2, by rw [List.getElem?_append_left (by omega)]; exact e3⟩
theorem TkBR.cells (h : TkBR w lo B n vs bs) (hB : B ≤ w.heap.size) : BnCells w w.heap.size vs bs := ⟨by rw [h.2.1, h.1], fun j hj => by
  obtain ⟨A, m, c, vt, h1, h2, h3⟩ := h.2.2 j (by rw [← h.1]; exact hj)
  exact ⟨A, m, c, h1, own_cap' h2, RdT.of_own h2 h3 hB (own_le h2)⟩⟩
end
theorem last_take {l ts : List Tk} {j : Nat} (h : j < ts.length) : l ++ ts.take (j + 1) = (l ++ ts.take j) ++ [((ts[j]?.getD (0, [])).1, (ts[j]?.getD (0, [])).2)] := by
  rw [List.take_succ_eq_append_getElem h, List.getElem?_eq_getElem h, List.append_assoc]; rfl
theorem flat_take {bs : List (List Tk)} {k : Nat} (h : k < bs.length) : (bs.take (k + 1)).flatten = (bs.take k).flatten ++ bs[k]?.getD [] := by
  rw [List.take_succ_eq_append_getElem h, List.getElem?_eq_getElem h, List.flatten_append]; simp
theorem map_take {bs : List (List Tk)} {k : Nat} {id : Int} (h : k < bs.length) : (bs.take (k + 1)).map (takeP · id) = (bs.take k).map (takeP · id) ++ [takeP (bs[k]?.getD []) id] := by
  rw [List.take_succ_eq_append_getElem h, List.getElem?_eq_getElem h, List.map_append]; rfl

end Go.Proofs.YtdgeicdiiakhjaaGreat
