/- Several texts in one. -/
import Derived.Test.YtjjnbbkdjimcoaaGreatJ11
import Derived.Test.YtjjnbbkdjimcoaaGreatRqI
import Derived.Test.YtjjnbbkdjimcoaaGreatJ4
namespace Go.Proofs.YtjjnbbkdjimcoaaGreat
set_option linter.unusedSimpArgs false
set_option linter.unusedVariables false
def lastP (l : List Tk) (id : Int) : Tk := ((l.filter (fun t => t.1 == id)).getLast?).getD (0, [])
theorem taken_last (bs : List (List Tk)) (id : Int) : takenP bs id = lastP bs.flatten id := rfl
theorem last_yes {l : List Tk} {t : Tk} {id : Int} (h : t.1 = id) : lastP (l ++ [t]) id = t := by
  unfold lastP
  rw [List.filter_append, List.filter_cons]
  simp [h]
theorem last_no {l : List Tk} {t : Tk} {id : Int} (h : t.1 ≠ id) : lastP (l ++ [t]) id = lastP l id := by
  unfold lastP
  rw [List.filter_append, List.filter_cons]
  simp [h]
theorem takeS_yes {l : List Tk} {t : Tk} {id : Int} (h : t.1 = id) : takeP (l ++ [t]) id = takeP l id := by
  unfold takeP
  rw [List.filter_append, List.filter_cons]
  simp [h]
theorem takeS_no {l : List Tk} {t : Tk} {id : Int} (h : t.1 ≠ id) : takeP (l ++ [t]) id = takeP l id ++ [t] := by
  unfold takeP
  rw [List.filter_append, List.filter_cons]
  simp [h]
end Go.Proofs.YtjjnbbkdjimcoaaGreat

namespace Go.Proofs.YtjjnbbkdjimcoaaGreat
set_option linter.unusedSimpArgs false
set_option linter.unusedVariables false
open Go Go.RowKit Go.MuLone
attribute [local go_sem ↓] Go.wp_at_zero Go.wp_at_succ

theorem rank_lt {us : List Un} {i j : Nat} (h : i < j) (hj : j ≤ us.length) (ho : (us[i]?.getD (false, [])).1 = true) : rankU us i < rankU us j := by
  have r1 := rank_mono (us := us) (i := i + 1) (j := j) h
  rw [rank_succ (by omega), if_pos ho] at r1
  omega
theorem rank_inj {us : List Un} {i j : Nat} (hi : i < us.length) (hj : j < us.length) (hoi : (us[i]?.getD (false, [])).1 = true) (hoj : (us[j]?.getD (false, [])).1 = true) (he : rankU us i = rankU us j) : i = j := by
  rcases Nat.lt_trichotomy i j with h | h | h
  · have := rank_lt h (by omega) hoi; omega
  · exact h
  · have := rank_lt h (by omega) hoj; omega

/-- The open units' rows, in order. -/
def OpenVs (us : List Un) (tk : Nat → Value) (i : Nat) (vs : List Value) : Prop := vs.length = rankU us i ∧ ∀ j, j < i → (us[j]?.getD (false, [])).1 = true → vs[rankU us j]? = some (tk j)
theorem OpenVs.zero {us : List Un} {tk : Nat → Value} : OpenVs us tk 0 [] := ⟨by rw [rank_zero]; rfl, fun j hj => by omega⟩
theorem OpenVs.yes {us : List Un} {tk : Nat → Value} {i : Nat} {vs : List Value} (h : OpenVs us tk i vs) (hi : i < us.length) (ho : (us[i]?.getD (false, [])).1 = true) : OpenVs us tk (i + 1) (vs ++ [tk i]) := by
  refine ⟨by rw [rank_succ hi, if_pos ho, List.length_append, h.1]; rfl, fun j hj hoj => ?_⟩
  by_cases e : j = i
  · subst e
    rw [List.getElem?_append_right (by rw [h.1]; omega), h.1, Nat.sub_self]; rfl
  · have := rank_lt (us := us) (i := j) (j := i) (by omega) (by omega) hoj
    rw [List.getElem?_append_left (by rw [h.1]; exact this)]
    exact h.2 j (by omega) hoj
theorem OpenVs.no {us : List Un} {tk : Nat → Value} {i : Nat} {vs : List Value} (h : OpenVs us tk i vs) (hi : i < us.length) (ho : (us[i]?.getD (false, [])).1 = false) : OpenVs us tk (i + 1) vs := by
  refine ⟨by rw [rank_succ hi, if_neg (by rw [ho]; simp), h.1]; rfl, fun j hj hoj => ?_⟩
  by_cases e : j = i
  · subst e
    rw [ho] at hoj; cases hoj
  · exact h.2 j (by omega) hoj
/-- The open units' rows are nodes. -/
theorem OpenVs.nodes {w : World} {base n : Nat} {hv vs : List Value} {tk : Nat → Value} {us : List Un} (h : OpenVs us tk us.length vs) (hu : NdUR w base n hv tk us) : NdBR w base vs.length vs (openB us) := by
  have hl : us.length = n := hu.1
  refine ⟨by rw [open_len, h.1], rfl, fun k hk => ?_, fun a b u v hu' hv' hab x hx hx' => ?_⟩
  · obtain ⟨j, hj, hoj, hjk⟩ := open_surj (us := us) (a := k) (by rw [open_len, ← h.1]; exact hk)
    obtain ⟨_, _, A, m, c, vt, e1, e2, e3⟩ := hu.2.2.1 j (by omega)
    refine ⟨A, m, c, vt, ?_, e2, ?_⟩
    · rw [← hjk, h.2 j hj hoj, e1]
    · rw [← hjk, open_at hj hoj]; exact e3
  · have ha := (List.getElem?_eq_some_iff.1 hu').1
    have hb := (List.getElem?_eq_some_iff.1 hv').1
    obtain ⟨i, hi, hoi, hia⟩ := open_surj (us := us) (a := a) (by rw [open_len, ← h.1]; exact ha)
    obtain ⟨j, hj, hoj, hjb⟩ := open_surj (us := us) (a := b) (by rw [open_len, ← h.1]; exact hb)
    rw [← hia, h.2 i hi hoi] at hu'
    rw [← hjb, h.2 j hj hoj] at hv'
    injection hu' with hu'
    injection hv' with hv'
    rw [← hu'] at hx
    rw [← hv'] at hx'
    exact hu.2.2.2 i j (by omega) (by omega) (fun e => hab (by rw [← hia, ← hjb, e])) x hx hx'
/-- The units when the open nodes' rows have turned to others, up to a rank. -/
def tkN (us : List Un) (tk : Nat → Value) (vs : List Value) (k i : Nat) : Value := if (us[i]?.getD (false, [])).1 = true ∧ rankU us i < k then vs[rankU us i]?.getD (.slice none 0 0) else tk i
theorem tkN_zero (us : List Un) (tk : Nat → Value) (vs : List Value) (i : Nat) : tkN us tk vs 0 i = tk i := by unfold tkN; rw [if_neg (by omega)]
theorem tkN_at {us : List Un} {tk : Nat → Value} {vs : List Value} {k i : Nat} {u : Value} (ho : (us[i]?.getD (false, [])).1 = true) (hr : rankU us i = k) (hu : vs[k]? = some u) : tkN us tk vs (k + 1) i = u := by
  unfold tkN; rw [if_pos ⟨ho, by omega⟩, hr, hu]; rfl
theorem tkN_other {us : List Un} {tk : Nat → Value} {vs : List Value} {k i j : Nat} (hi : i < us.length) (hj : j < us.length) (ho : (us[i]?.getD (false, [])).1 = true) (hr : rankU us i = k) (hne : j ≠ i) : tkN us tk vs (k + 1) j = tkN us tk vs k j := by
  unfold tkN
  by_cases hoj : (us[j]?.getD (false, [])).1 = true
  · have : rankU us j ≠ k := fun e => hne (rank_inj hj hi hoj ho (e.trans hr.symm))
    by_cases h : rankU us j < k
    · rw [if_pos ⟨hoj, by omega⟩, if_pos ⟨hoj, h⟩]
    · rw [if_neg (fun h' => by omega), if_neg (fun h' => h h'.2)]
  · rw [if_neg (fun h' => hoj h'.1), if_neg (fun h' => hoj h'.1)]
/-- The units behind gathering. -/
theorem units_back {w w' : World} {base n : Nat} {hv hv' vs vs' : List Value} {tk : Nat → Value} {us : List Un} {bs : List (List Tk)} (hu : NdUR w base n hv tk us) (ho : OpenVs us tk us.length vs) (hb : NdBR w' base vs.length vs' bs) (hf : FarX w w' vs vs') (hk : KeepX w w')
    (hl : hv'.length = n * 2) (hc : ∀ i, i < n → hv'[i * 2]? = some (.bool (us[i]?.getD (false, [])).1) ∧ hv'[i * 2 + 1]? = some (tkN us tk vs' vs.length i)) : NdUR w' base n hv' (tkN us tk vs' vs.length) (backU us bs) := by
  have hlen : us.length = n := hu.1
  have hrank : ∀ i, i < n → (us[i]?.getD (false, [])).1 = true → rankU us i < vs.length := fun i hi hoi => by rw [ho.1]; exact rank_lt (by omega) (Nat.le_refl _) hoi
  have hvl : vs'.length = vs.length := hb.2.1
  have topen : ∀ i, i < n → (us[i]?.getD (false, [])).1 = true → vs'[rankU us i]? = some (tkN us tk vs' vs.length i) := fun i hi hoi => by
    unfold tkN
    rw [if_pos ⟨hoi, hrank i hi hoi⟩, List.getElem?_eq_getElem (by rw [hvl]; exact hrank i hi hoi)]; rfl
  have tclosed : ∀ i, ¬ (us[i]?.getD (false, [])).1 = true → tkN us tk vs' vs.length i = tk i := fun i hoi => by unfold tkN; rw [if_neg (fun h => hoi h.1)]
  have far : ∀ i j, i < n → j < n → (us[i]?.getD (false, [])).1 = true → ¬ (us[j]?.getD (false, [])).1 = true → ∀ b, (tkN us tk vs' vs.length i).ownBlock = some b → (tkN us tk vs' vs.length j).ownBlock ≠ some b := fun i j hi hj hoi hoj b hb1 hb2 => by
    rw [tclosed j hoj] at hb2
    rcases hf.2 _ _ b (topen i hi hoi) hb1 with h1 | ⟨a', u', h1, h2⟩
    · have := hu.old j hj b hb2; omega
    · have ha := (List.getElem?_eq_some_iff.1 h1).1
      obtain ⟨i', hi', hoi', hia'⟩ := open_surj (us := us) (a := a') (by rw [open_len, ← ho.1]; exact ha)
      rw [← hia', ho.2 i' hi' hoi'] at h1
      injection h1 with h1
      rw [← h1] at h2
      exact hu.2.2.2 i' j (by omega) hj (fun e => hoj (by rw [← e]; exact hoi')) b h2 hb2
  refine ⟨by rw [back_len]; exact hlen, hl, fun i hi => ?_, fun i j hi hj hij b hb1 hb2 => ?_⟩
  · obtain ⟨c1, c2⟩ := hc i hi
    have e1 : ((backU us bs)[i]?.getD (false, [])).1 = (us[i]?.getD (false, [])).1 := by
      rw [back_at (by omega)]
      split
      · rename_i h; exact h.symm
      · rfl
    refine ⟨by rw [e1]; exact c1, c2, ?_⟩
    by_cases hoi : (us[i]?.getD (false, [])).1 = true
    · obtain ⟨A, m, c, vt, h1, h2, h3⟩ := hb.2.2.1 (rankU us i) (hrank i hi hoi)
      rw [topen i hi hoi] at h1
      injection h1 with h1
      refine ⟨A, m, c, vt, h1, h2, ?_⟩
      rw [back_at (by omega), if_pos hoi]
      exact h3
    · obtain ⟨_, _, A, m, c, vt, h1, h2, h3⟩ := hu.2.2.1 i hi
      refine ⟨A, m, c, vt, (tclosed i hoi).trans h1, own_keepB h2 (fun b cs hbb hcc => hf.1 b cs hcc (fun a u hau hub => ?_)), ?_⟩
      · have ha := (List.getElem?_eq_some_iff.1 hau).1
        obtain ⟨i', hi', hoi', hia'⟩ := open_surj (us := us) (a := a) (by rw [open_len, ← ho.1]; exact ha)
        rw [← hia', ho.2 i' hi' hoi'] at hau
        injection hau with hau
        rw [← hau] at hub
        exact hu.2.2.2 i' i (by omega) hi (fun e => hoi (by rw [← e]; exact hoi')) b hub (by rw [h1]; exact hbb)
      · rw [back_at (by omega), if_neg hoi]
        exact h3.keepX hk
  · by_cases hoi : (us[i]?.getD (false, [])).1 = true
    · by_cases hoj : (us[j]?.getD (false, [])).1 = true
      · exact hb.2.2.2 _ _ _ _ (topen i hi hoi) (topen j hj hoj) (fun e => hij (rank_inj (by omega) (by omega) hoi hoj e)) b hb1 hb2
      · exact far i j hi hj hoi hoj b hb1 hb2
    · by_cases hoj : (us[j]?.getD (false, [])).1 = true
      · exact far j i hj hi hoj hoi b hb2 hb1
      · rw [tclosed i hoi] at hb1
        rw [tclosed j hoj] at hb2
        exact hu.2.2.2 i j hi hj hij b hb1 hb2
end Go.Proofs.YtjjnbbkdjimcoaaGreat

namespace Go.Proofs.YtjjnbbkdjimcoaaGreat
set_option linter.unusedSimpArgs false
set_option linter.unusedVariables false
open Go Go.RowKit Go.MuLone
attribute [local go_sem ↓] Go.wp_at_zero Go.wp_at_succ

theorem row_info : (Tryz.prog.info? 27).map (fun i => (i.zero, i.size, i.bytes)) = some (some (.slice none 0 0), 1, 24) := by kernel_rfl
theorem lit1c (w : World) (t : TypeId) (a : Value) : Src (w.alloc (.cells #[a] t)) 1 (some ⟨w.heap.size, 0, none⟩) 1 [a] :=
  ⟨rfl, fun _ => ⟨_, rfl, fun j u hu => by rw [addr_add, Nat.zero_add, (Blk.new w t #[a]).cell]; simpa using hu⟩⟩

end Go.Proofs.YtjjnbbkdjimcoaaGreat

namespace Go.Proofs.YtjjnbbkdjimcoaaGreat
set_option linter.unusedSimpArgs false
set_option linter.unusedVariables false
open Go Go.RowKit
attribute [local go_sem ↓] Go.wp_at_zero Go.wp_at_succ

end Go.Proofs.YtjjnbbkdjimcoaaGreat
