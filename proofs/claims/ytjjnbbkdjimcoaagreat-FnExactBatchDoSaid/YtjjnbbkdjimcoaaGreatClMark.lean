/- Walks: marks on a cluster of the call's own, and whether they are held. -/
import Derived.Test.YtjjnbbkdjimcoaaGreatMarkTs
import Derived.Test.YtjjnbbkdjimcoaaGreatJ5
namespace Go.Proofs.YtjjnbbkdjimcoaaGreat
open Go Go.RowKit

/-- Of what was there only blocks of integers and of tasks from lo to hi have turned. -/
structure TouchTI (w w' : World) (lo hi : Nat) : Prop where
  os : w'.os = w.os
  tape : w'.tape = w.tape
  output : w'.output = w.output
  size : w.heap.size ≤ w'.heap.size
  block : ∀ b, b < w.heap.size → (b < lo ∨ hi ≤ b ∨ ¬ IsTI w b) → w'.heap[b]? = w.heap[b]?
section
variable {w w' a b c : World} {lo hi : Nat}
theorem TouchTI.refl (w : World) (lo hi : Nat) : TouchTI w w lo hi := ⟨rfl, rfl, rfl, Nat.le_refl _, fun _ _ _ => rfl⟩
theorem TouchTI.trans (h : TouchTI a b lo hi) (k : TouchTI b c lo hi) : TouchTI a c lo hi :=
  ⟨k.os.trans h.os, k.tape.trans h.tape, k.output.trans h.output, Nat.le_trans h.size k.size, fun g hg ho => (k.block g (Nat.lt_of_lt_of_le hg h.size) (ho.imp id (Or.imp id (fun hn hb => hn (by
    obtain ⟨t, cs, ht, hb⟩ := hb
    exact ⟨t, cs, ht, (h.block g hg ho).symm.trans hb⟩))))).trans (h.block g hg ho)⟩
theorem TouchTI.set_ {g : Nat} {t : TypeId} {cs : Array Value} (hb : Blk w g t cs) (ht : t = 3 ∨ t = 43) (h1 : lo ≤ g) (h2 : g < hi) (i : Nat) (u : Value) : TouchTI w (w.setCell ⟨g, i, none⟩ u) lo hi :=
  ⟨rfl, rfl, rfl, by simp [World.setCell], fun b _ ho => Below.heap_setCell _ _ _ _ (by
    rintro rfl
    rcases ho with ho | ho | ho
    · omega
    · omega
    · exact ho ⟨t, cs, ht, hb⟩)⟩
theorem TouchTI.grown {base s n : Nat} {t : TypeId} {v : Value} {xs : List Value} (ho : w.ownsRow base t s v n xs) (ht : t = 3 ∨ t = 43) (hg : w.grownBy w' v.ownBlock) (hr : ∀ b, v.ownBlock = some b → lo ≤ b ∧ b < hi) : TouchTI w w' lo hi :=
  ⟨hg.os, hg.tape, hg.output, hg.size, fun b hb hx => hg.block b hb (fun e => by
    have hh := hr b e.symm
    rcases hx with hx | hx | hx
    · omega
    · omega
    · rcases ho.2 with ⟨rfl, _⟩ | ⟨g, cap, cur, rfl, _, hgg, _⟩
      · cases e
      · simp [Value.ownBlock] at e
        subst e
        exact hx ⟨t, cur, ht, hgg⟩)⟩
theorem TouchTI.kept (h : TouchTI w w' lo hi) : KeptOut w w' lo hi := ⟨h.os, h.tape, h.output, h.size, fun b hb ho => h.block b hb (ho.imp id .inl)⟩
/-- The boxes of clusters are as they were. -/
def KpC (w w' : World) : Prop := ∀ g cs, Blk w g 26 cs → Blk w' g 26 cs
theorem KpC.trans (h : KpC a b) (k : KpC b c) : KpC a c := fun g cs hb => k g cs (h g cs hb)
theorem TouchTI.kpc (h : TouchTI w w' lo hi) : KpC w w' := fun g _ hb => (h.block g hb.lt (.inr (.inr (fun hti => hti.ne hb (by decide) (by decide) rfl)))).trans hb
theorem notTI {base s n g : Nat} {t : TypeId} {A : Option Addr} {cp : Nat} {xs : List Value} (h : w.ownsRow base t s (.slice A n cp) n xs) (h1 : t ≠ 3) (h2 : t ≠ 43) (hg : (Value.slice A n cp).ownBlock = some g) : ¬ IsTI w g := by
  intro hti
  rcases h.2 with ⟨e, _⟩ | ⟨g', cap, cur, e, _, hgg, _⟩
  · rw [e] at hg; cases hg
  · rw [e] at hg
    simp [Value.ownBlock] at hg
    subst hg
    exact hti.ne (show Blk w g' t cur from hgg) h1 h2 rfl
end

set_option maxRecDepth 100000 in
set_option maxHeartbeats 1600000 in
theorem markTsB_any (base hi : Nat) (A : Option Addr) (n c : Nat) (k : Int) (ts : List Tk) (w : World) (h : OwnTsB w base hi (.slice A n c) n ts) (hn : n ≤ 2000000) (hm : ∀ t ∈ ts, t.2.length ≤ 3) (h0 : 0 ≤ k) (h1 : k ≤ 1000000) :
    Calls Tryz.prog 39 #[.slice A n c, .int .i64 k] w fun e w' => e = .returned (.int .i64 (posT k ts n)) ∧ OwnTsB w' base hi (.slice A n c) n (mkL k ts n) ∧ TouchTI w w' base hi := by
  obtain ⟨vs0, nd, ho0, hd0, hh1, hh2⟩ := h
  have Hh1 := qh hh1
  have Hh2 := qh hh2
  clear hh1 hh2
  have Hl := qh hd0.1
  have Hm := qh (need_getD hm)
  have Hp := qh (posT_bd k Hm.out)
  have Ho0 := qh ho0
  have Hd0 := qh hd0
  clear ho0 hd0 hm
  go_enter Tryz.func39, Tryz.ntmps39
  go_wp2_with fail
  go_loopw [1, 5] (fun q i wr => ∃ (j : Nat) (vs : List Value), i = .int .i64 j ∧ j ≤ n ∧ q = .int .i64 (posT k ts j) ∧ wr.ownsRow base 43 2 (.slice A n c) n vs ∧ NdTs wr base n vs nd (mkL k ts j) ∧ TouchTI w wr base hi) (fun _ i _ => n - (intOf i).toNat)
  case atStart => exact ⟨0, vs0, rfl, Nat.zero_le _, rfl, Ho0.out, Hd0.out, TouchTI.refl _ _ _⟩
  case round =>
    obtain ⟨j, vs, rfl, hj, rfl, hown, hnd, hko⟩ := hrel
    by_cases hlt : j < n
    · obtain ⟨g, cap, hv, hgb, hgl⟩ := hown.form (by omega)
      injection hv with e1 e2 e3
      subst e1 e3
      obtain ⟨q1, q2, A', m', c', q3, q4⟩ := hnd.2.1 j hlt
      have hneed : (mkL k ts j)[j]?.getD (0, []) = ts[j]?.getD (0, []) := by rw [mkL_at k ts j j (by rw [Hl.out]; exact hlt), if_neg (by omega)]
      rw [hneed] at q4
      have hmm : (ts[j]?.getD (0, [])).2.length = m' := own_len q4
      have hm3 : m' ≤ 3 := by rw [← hmm]; exact Hm.out j
      obtain ⟨p1, p2⟩ := Hp.out j
      have c0 : wr.cell? ⟨g, j * 2, none⟩ = some (.int .i64 ((mkL k ts j)[j]?.getD (0, [])).1) := by
        have := hown.cells (g := g) rfl (j * 2) _ q1
        rwa [addr_add, Nat.zero_add] at this
      have c1 : wr.cell? ⟨g, j * 2 + 1, none⟩ = some (.slice A' m' c') := by
        have := hown.cells (g := g) rfl (j * 2 + 1) _ (by rw [q2, q3])
        rwa [addr_add, Nat.zero_add] at this
      have hfz : wr.frozen? ⟨g, j * 2, none⟩ = false := by
        rcases hown.2 with ⟨e, _⟩ | ⟨g', cap', cur, e, _, hg', _⟩
        · cases e
        · injection e with e1 e2 e3
          injection e1 with e1
          injection e1 with e1
          subst e1
          simp [World.frozen?, hg']
      have o1 := own_set hown (j * 2) (.int .i64 (posT k ts j))
      have c1' : (wr.setCell ⟨g, j * 2, none⟩ (.int .i64 (posT k ts j))).cell? ⟨g, j * 2 + 1, none⟩ = some (.slice A' m' c') := by
        have := o1.cells (g := g) rfl (j * 2 + 1) _ (by rw [List.getElem?_set_ne (by omega), q2, q3])
        rwa [addr_add, Nat.zero_add] at this
      have hne : ∀ b, (Value.slice A' m' c').ownBlock = some b → b ≠ g := fun b hb e => own_types q4 hown (by decide) hb (by rw [e]; rfl)
      have o2 := own_keep q4 (w' := wr.setCell ⟨g, j * 2, none⟩ (.int .i64 (posT k ts j))) (fun b hb => Below.heap_setCell wr _ _ b (hne b hb))
      have kk1 : (0 : Int) ≤ (j : Int) := by omega
      have kk2 : (j : Int) < (n : Int) := by omega
      have kk3 : 0 ≤ (j : Int) * 2 := by omega
      have hs1 : (wr.setCell ⟨g, j * 2, none⟩ (.int .i64 (posT k ts j))).heap.size = wr.heap.size := by simp [World.setCell]
      have kS : TouchTI w (wr.setCell ⟨g, j * 2, none⟩ (.int .i64 (posT k ts j))) base hi := by
        obtain ⟨g', cur, e1, _, hbk⟩ := own_row hown (by omega)
        injection e1 with e1
        injection e1 with e1
        subst e1
        exact hko.trans (TouchTI.set_ hbk (.inr rfl) hgb (Hh1.out g rfl) _ _)
      have Kset := qh (fun b (hb : b ≠ g) => Below.heap_setCell wr ⟨g, j * 2, none⟩ (.int .i64 (posT k ts j)) b hb)
      have O1 := qh o1
      have O2 := qh o2
      have KS := qh kS
      have Hnd := qh hnd
      have Hmm := qh hmm
      have Hq3 := qh q3
      have Hq4 := qh q4
      have Hown := qh hown
      have Hs1 := qh hs1
      have Hpj := qh (show posT k ts (j + 1) = posT k ts j + 1 + (m' : Int) by rw [posT, hmm])
      have Hmk := qh (show mkL k ts (j + 1) = (mkL k ts j).set j (posT k ts j, seqI (posT k ts j + 1) m') by rw [mkL, mkT, hmm])
      clear o1 o2 kS hnd hmm hneed q1 q2 q3 q4 hown hne hs1 hko
      generalize posT k ts j = q at *
      go_wp2_with fail
      generalize wr.setCell ⟨g, j * 2, none⟩ (.int .i64 q) = w1 at *
      refine (markRow_any base A' m' c' (q + 1) _ w1 O2.out (by omega) (by omega)).mono ?_; rintro e w2 ⟨rfl, ho2, hg2⟩
      have z2 := hg2.size
      have R2 := qh (own_keep O1.out (w' := w2) (fun b hb => hg2.block b (O1.out.lt b hb).2 (fun e => own_types O2.out O1.out (by decide) e.symm hb)))
      have N2 := qh (Hnd.out.put (w2 := w2) (q := q) (ys := seqI (q + 1) m') hlt (by have := Hown.out.1; omega) Hq3.out ho2 (fun i hi hij b hb => by
        have hbg : b ≠ g := by
          obtain ⟨_, _, A'', m'', c'', r3, r4⟩ := Hnd.out.2.1 i hi
          rw [r3] at hb
          exact fun e => own_types r4 Hown.out (by decide) hb (by rw [e]; rfl)
        have hbl : b < w1.heap.size := by have := Hnd.out.old i hi b hb; have := Hs1.out; omega
        refine (hg2.block b hbl (fun e => ?_)).trans (Kset.out b hbg)
        exact Hnd.out.2.2 i j hi hlt hij b hb (by rw [Hq3.out]; exact e.symm)))
      have K2 := qh (KS.out.trans (TouchTI.grown O2.out (.inl rfl) hg2 (fun b e => ⟨(O2.out.lt b e).1, Hh2.out j hlt b (by rw [Hq3.out]; exact e)⟩)))
      clear ho2 hg2
      go_wp2_with fail
      go_roundw
      case measure => simp [intOf]; omega
      case rel => exact ⟨j + 1, _, by go_num, by omega, by rw [Hpj.out], R2.out, by rw [Hmk.out]; exact N2.out, K2.out⟩
    · obtain rfl : j = n := by omega
      have Hown := qh hown
      have Hnd := qh hnd
      have Hko := qh hko
      clear hown hnd hko
      go_wp2_with fail
      go_ret
      exact ⟨rfl, ⟨vs, nd, Hown.out, Hnd.out, Hh1.out, Hh2.out⟩, Hko.out⟩

/-- Where a unit's marks begin. -/
def posU (q : Int) (us : List Un) : Nat → Int
  | 0 => q
  | j + 1 => posT (posU q us j + 1) (us[j]?.getD (false, [])).2 (us[j]?.getD (false, [])).2.length
def mkU (q : Int) (us : List Un) (j : Nat) : Un := (posU q us j % 3 == 0, mkL (posU q us j + 1) (us[j]?.getD (false, [])).2 (us[j]?.getD (false, [])).2.length)
def mkUL (q : Int) (us : List Un) : Nat → List Un
  | 0 => us
  | j + 1 => (mkUL q us j).set j (mkU q us j)
theorem mkUL_len (q : Int) (us : List Un) : ∀ j, (mkUL q us j).length = us.length
  | 0 => rfl
  | j + 1 => by rw [mkUL, List.length_set, mkUL_len q us j]
theorem mkUL_at (q : Int) (us : List Un) : ∀ j i, i < us.length → (mkUL q us j)[i]?.getD (false, []) = if i < j then mkU q us i else us[i]?.getD (false, [])
  | 0, i, hi => by rw [if_neg (by omega)]; rfl
  | j + 1, i, hi => by
    rw [mkUL]
    by_cases e : j = i
    · subst e; rw [List.getElem?_set_self (by rw [mkUL_len]; exact hi), if_pos (by omega)]; rfl
    · rw [List.getElem?_set_ne e, mkUL_at q us j i hi]
      by_cases h : i < j
      · rw [if_pos h, if_pos (by omega)]
      · rw [if_neg h, if_neg (by omega)]
/-- Few and short. -/
def SmU (us : List Un) : Prop := us.length ≤ 10 ∧ ∀ u ∈ us, u.2.length ≤ 255 ∧ ∀ t ∈ u.2, t.2.length ≤ 3
theorem un_getD {us : List Un} (h : SmU us) (j : Nat) : (us[j]?.getD (false, [])).2.length ≤ 255 ∧ ∀ t ∈ (us[j]?.getD (false, [])).2, t.2.length ≤ 3 := by
  by_cases hj : j < us.length
  · exact h.2 _ (un_mem hj)
  · rw [List.getElem?_eq_none (by omega)]; simp
theorem posU_bd {us : List Un} (q : Int) (h : SmU us) : ∀ j, q ≤ posU q us j ∧ posU q us j ≤ q + 1100 * j
  | 0 => by simp [posU]
  | j + 1 => by
    have i := posU_bd q h j
    have hu := un_getD h j
    have p := posT_bd (posU q us j + 1) (need_getD hu.2) (us[j]?.getD (false, [])).2.length
    rw [posU]; omega

/-- One unit is written anew. -/
theorem NdUs.put {w w2 : World} {n j m c : Nat} {vs : List Value} {tk : Nat → Value} {f : Nat → Nat} {us : List Un} {A : Option Addr} {op : Bool} {ts : List Tk} (h : NdUs w n vs tk f us) (hj : j < n) (hv : vs.length = n * 2) (htk : tk j = .slice A m c)
    (ho : OwnTsB w2 (f j) (f (j + 1)) (.slice A m c) m ts) (hk : ∀ b, IsTI w b → (b < f j ∨ f (j + 1) ≤ b) → w2.heap[b]? = w.heap[b]?) : NdUs w2 n (vs.set (j * 2) (.bool op)) tk f (us.set j (op, ts)) := by
  refine ⟨by rw [List.length_set]; exact h.1, fun i hi => ?_⟩
  obtain ⟨h0, h1, h2, A', m', c', h3, h4⟩ := h.2 i hi
  by_cases e : i = j
  · subst e
    have g1 : (vs.set (i * 2) (.bool op))[i * 2]? = some (.bool op) := List.getElem?_set_self (by omega)
    have g2 : (vs.set (i * 2) (.bool op))[i * 2 + 1]? = vs[i * 2 + 1]? := List.getElem?_set_ne (by omega)
    have g3 : (us.set i (op, ts))[i]? = some (op, ts) := List.getElem?_set_self (by rw [h.1]; exact hi)
    rw [g1, g2, g3]
    exact ⟨h0, rfl, h2, A, m, c, htk, ho⟩
  · have g1 : (vs.set (j * 2) (.bool op))[i * 2]? = vs[i * 2]? := List.getElem?_set_ne (by omega)
    have g2 : (vs.set (j * 2) (.bool op))[i * 2 + 1]? = vs[i * 2 + 1]? := List.getElem?_set_ne (by omega)
    have g3 : (us.set j (op, ts))[i]? = us[i]? := List.getElem?_set_ne (fun x => e x.symm)
    rw [g1, g2, g3]
    refine ⟨h0, h1, h2, A', m', c', h3, h4.keep (fun b hb1 hb2 hb3 => hk b hb3 ?_)⟩
    rcases Nat.lt_or_ge i j with hij | hij
    · have := h.mono (i + 1) j (by omega) (by omega); omega
    · have := h.mono (j + 1) i (by omega) (by omega); omega

set_option maxRecDepth 100000 in
set_option maxHeartbeats 1600000 in
theorem markUs_any (base : Nat) (A : Option Addr) (n c : Nat) (k : Int) (us : List Un) (w : World) (h : OwnUs w base (.slice A n c) n us) (hs : SmU us) (h0 : 0 ≤ k) (h1 : k ≤ 1000) (hbs : base ≤ w.heap.size) :
    Calls Tryz.prog 80 #[.slice A n c, .int .i64 k] w fun e w' => e = .returned (.int .i64 (posU k us n)) ∧ OwnUs w' base (.slice A n c) n (mkUL k us n) ∧ Below base w w' ∧ KpC w w' := by
  obtain ⟨vs0, tk, f, ho0, hd0, hf0⟩ := h
  have Hl := qh hd0.1
  have Hs := qh hs
  have Hp := qh (posU_bd k hs)
  have Ho0 := qh ho0
  have Hd0 := qh hd0
  have Hf0 := qh hf0
  have ln : n ≤ 10 := by have := hd0.1; have := hs.1; omega
  clear ho0 hd0 hs hf0
  go_enter Tryz.func80, Tryz.ntmps80
  go_wp2_with fail
  go_loopw [1, 5] (fun q i wr => ∃ (j : Nat) (vs : List Value), i = .int .i64 j ∧ j ≤ n ∧ q = .int .i64 (posU k us j) ∧ wr.ownsRow base 72 2 (.slice A n c) n vs ∧ NdUs wr n vs tk f (mkUL k us j) ∧ Below base w wr ∧ KpC w wr) (fun _ i _ => n - (intOf i).toNat)
  case atStart => exact ⟨0, vs0, rfl, Nat.zero_le _, rfl, Ho0.out, Hd0.out, Below.refl _ _, fun _ _ hb => hb⟩
  case round =>
    obtain ⟨j, vs, rfl, hj, rfl, hown, hnd, hko, hkc⟩ := hrel
    have Hkc := qh hkc
    clear hkc
    by_cases hlt : j < n
    · obtain ⟨g, cap, hv, hgb, hgl⟩ := hown.form (by omega)
      injection hv with e1 e2 e3
      subst e1 e3
      obtain ⟨q0, q1, q2, A', m', c', q3, q4⟩ := hnd.2 j hlt
      have hun : (mkUL k us j)[j]?.getD (false, []) = us[j]?.getD (false, []) := by rw [mkUL_at k us j j (by rw [Hl.out]; exact hlt), if_neg (by omega)]
      rw [hun] at q1 q4
      have hu := un_getD Hs.out j
      have hmm : (us[j]?.getD (false, [])).2.length = m' := by obtain ⟨_, _, _, hh, _⟩ := q4; exact hh.1
      have hm3 : m' ≤ 255 := by rw [← hmm]; exact hu.1
      obtain ⟨p1, p2⟩ := Hp.out j
      have c0 : wr.cell? ⟨g, j * 2, none⟩ = some (.bool (us[j]?.getD (false, [])).1) := by
        have := hown.cells (g := g) rfl (j * 2) _ q1
        rwa [addr_add, Nat.zero_add] at this
      have hfz := hown.frozenAt (j * 2)
      have o1 := own_set hown (j * 2) (.bool (posU k us j % 3 == 0))
      have c1' : (wr.setCell ⟨g, j * 2, none⟩ (.bool (posU k us j % 3 == 0))).cell? ⟨g, j * 2 + 1, none⟩ = some (.slice A' m' c') := by
        have := o1.cells (g := g) rfl (j * 2 + 1) _ (by rw [List.getElem?_set_ne (by omega), q2, q3])
        rwa [addr_add, Nat.zero_add] at this
      have kk1 : (0 : Int) ≤ (j : Int) := by omega
      have kk2 : (j : Int) < (n : Int) := by omega
      have kk3 : 0 ≤ (j : Int) * 2 := by omega
      obtain ⟨g', cur, e1, _, hbk⟩ := own_row hown (by omega)
      injection e1 with e1
      injection e1 with e1
      subst e1
      have Kset := qh (KeepTI.set_ hbk (by decide) (by decide) (j * 2) (.bool (posU k us j % 3 == 0)))
      have Kc1 := qh (show KpC w (wr.setCell ⟨g, j * 2, none⟩ (.bool (posU k us j % 3 == 0))) from Hkc.out.trans (fun g' cs hb => hb.far (p := ⟨g, j * 2, none⟩) (fun e => own_blk_ne hown hb (by decide) (by rw [e]; rfl)) _))
      have kS : Below base w (wr.setCell ⟨g, j * 2, none⟩ (.bool (posU k us j % 3 == 0))) := hko.setCell (p := ⟨g, j * 2, none⟩) hgb _
      have q5 := q4.keep (w' := wr.setCell ⟨g, j * 2, none⟩ (.bool (posU k us j % 3 == 0))) (fun b _ _ hb => Kset.out b hb)
      have hs1 : (wr.setCell ⟨g, j * 2, none⟩ (.bool (posU k us j % 3 == 0))).heap.size = wr.heap.size := by simp [World.setCell]
      have hrem : (posU k us j).tmod 3 = posU k us j % 3 := IntWalk.rem_in _ _ (by omega)
      have Q5 := qh q5
      have O1 := qh o1
      have KS := qh kS
      have Hnd := qh hnd
      have Hmm := qh hmm
      have Hq3 := qh q3
      have Hq0 := qh q0
      have Hown := qh hown
      have Hs1 := qh hs1
      have Hu := qh hu
      have Hpj := qh (show posU k us (j + 1) = posT (posU k us j + 1) (us[j]?.getD (false, [])).2 m' by rw [posU, hmm])
      have Hmk := qh (show mkUL k us (j + 1) = (mkUL k us j).set j (posU k us j % 3 == 0, mkL (posU k us j + 1) (us[j]?.getD (false, [])).2 m') by rw [mkUL, mkU, hmm])
      have pb := (posT_bd (posU k us j + 1) (need_getD hu.2) m')
      clear o1 kS hnd hmm hun q0 q1 q2 q3 q4 q5 hown hs1 hko hbk hu
      generalize posU k us j = q at *
      generalize (us[j]?.getD (false, [])).2 = ts at *
      generalize (us[j]?.getD (false, [])).1 = op at *
      go_wp2_with fail
      generalize wr.setCell ⟨g, j * 2, none⟩ (.bool (q % 3 == 0)) = w1 at *
      refine (markTsB_any (f j) (f (j + 1)) A' m' c' (q + 1) ts w1 Q5.out (by omega) Hu.out.2 (by omega) (by omega)).mono ?_; rintro e w2 ⟨rfl, ho2, hg2⟩
      have z2 := hg2.size
      have R2 := qh (own_keep O1.out (w' := w2) (fun b hb => hg2.block b (O1.out.lt b hb).2 (.inr (.inr (notTI O1.out (by decide) (by decide) hb)))))
      have N2 := qh (Hnd.out.put (w2 := w2) (op := q % 3 == 0) (ts := mkL (q + 1) ts m') hlt (by have := Hown.out.1; omega) Hq3.out ho2 (fun b hb hr => (hg2.block b (by have := hb.lt; have := Hs1.out; omega) (hr.imp id .inl)).trans (Kset.out b hb)))
      have K2 := qh (KS.out.trans (⟨hg2.os, hg2.tape, hg2.output, hg2.size, fun b hb => hg2.block b (by have := KS.out.size; omega) (.inl (by have := Hd0.out.mono 0 j (by omega) (by omega); have := Hf0.out; omega))⟩ : Below base w1 w2))
      have Kc2 := qh (Kc1.out.trans hg2.kpc)
      clear ho2 hg2
      go_wp2_with fail
      go_roundw
      case measure => simp [intOf]; omega
      case rel => exact ⟨j + 1, _, by go_num, by omega, by rw [Hpj.out], R2.out, by rw [Hmk.out]; exact N2.out, K2.out, Kc2.out⟩
    · obtain rfl : j = n := by omega
      have Hown := qh hown
      have Hnd := qh hnd
      have Hko := qh hko
      clear hown hnd hko
      go_wp2_with fail
      go_ret
      exact ⟨rfl, ⟨vs, tk, f, Hown.out, Hnd.out, Hf0.out⟩, Hko.out, Hkc.out⟩

set_option maxRecDepth 100000 in
set_option maxHeartbeats 1600000 in
theorem heldUs_any (B : Nat) (A : Option Addr) (n c : Nat) (k : Int) (us : List Un) (w : World) (h : RdN w B A n (mkUL k us n)) (hs : SmU us) (h0 : 0 ≤ k) (h1 : k ≤ 1000) :
    Calls Tryz.prog 81 #[.slice A n c, .int .i64 k] w fun e w' => e = .returned (.int .i64 (posU k us n)) ∧ w = w' := by
  have Hl := qh (show us.length = n by have := h.len; rwa [mkUL_len] at this)
  have Hs := qh hs
  have Hp := qh (posU_bd k hs)
  have H := qh h
  have ln : n ≤ 10 := by have := Hl.out; have := hs.1; omega
  clear h hs
  go_enter Tryz.func81, Tryz.ntmps81
  go_wp2_with fail
  go_loop [1, 5] (fun q i => ∃ (j : Nat), i = .int .i64 j ∧ j ≤ n ∧ q = .int .i64 (posU k us j)) (fun _ i => n - (intOf i).toNat)
  case atStart => exact ⟨0, rfl, Nat.zero_le _, rfl⟩
  case round =>
    obtain ⟨j, rfl, hj, rfl⟩ := hrel
    by_cases hlt : j < n
    · obtain ⟨b1, o1, A', m', c', rfl, lb1, hc1, hc3, hle3, hr3⟩ := H.out.at_ hlt
      rw [mkUL_at k us n j (by rw [Hl.out]; exact hlt), if_pos hlt] at hc1 hr3
      have hmm : (us[j]?.getD (false, [])).2.length = m' := by have := hr3.len; rw [mkU, mkL_len] at this; exact this
      rw [mkU] at hc1 hr3
      dsimp only at hc1 hr3
      rw [hmm] at hr3
      have hu := un_getD Hs.out j
      have hm3 : m' ≤ 255 := by rw [← hmm]; exact hu.1
      obtain ⟨p1, p2⟩ := Hp.out j
      have Hpj := qh (show posU k us (j + 1) = posT (posU k us j + 1) (us[j]?.getD (false, [])).2 m' by rw [posU, hmm])
      have Hr3 := qh hr3
      have Hu := qh hu
      have kk1 : (0 : Int) ≤ (j : Int) := by omega
      have kk2 : (j : Int) < (n : Int) := by omega
      have kk3 : 0 ≤ (j : Int) * 2 := by omega
      have hrem : (posU k us j).tmod 3 = posU k us j % 3 := IntWalk.rem_in _ _ (by omega)
      have pb := (posT_bd (posU k us j + 1) (need_getD hu.2) m').1
      clear hmm hr3 hu
      generalize posU k us j = q at *
      generalize (us[j]?.getD (false, [])).2 = ts at *
      go_wp2_with fail
      refine (heldTs_any B A' m' c' (q + 1) ts w Hr3.out Hu.out.2 (by omega) (by omega) (by omega)).mono ?_; rintro e w2 ⟨rfl, rfl⟩
      have hneg : ¬ posT (q + 1) ts m' < 0 := by omega
      go_wp2_with fail
      go_round
      case measure => simp [intOf]; omega
      case rel => exact ⟨j + 1, by go_num, by omega, by rw [Hpj.out]⟩
    · obtain rfl : j = n := by omega
      go_wp2_with fail
      go_ret
      exact ⟨rfl, rfl⟩

theorem OwnUs.keepge {w w' : World} {base n : Nat} {v : Value} {us : List Un} (h : OwnUs w base v n us) (hk : ∀ b, base ≤ b → b < w.heap.size → w'.heap[b]? = w.heap[b]?) : OwnUs w' base v n us := by
  obtain ⟨vs, tk, f, h1, h2, h3⟩ := h
  exact ⟨vs, tk, f, own_keep h1 (fun b hb => hk b (h1.lt b hb).1 (h1.lt b hb).2), h2.keep (fun b hb _ hti => hk b (by omega) hti.lt), h3⟩

set_option maxHeartbeats 1600000 in
theorem markCl_any (base : Nat) (A1 A2 : Option Addr) (n1 c1 n2 c2 : Nat) (k : Int) (room : List Int) (us : List Un) (w : World) (h : OwnC w base (.slice A1 n1 c1) (.slice A2 n2 c2) n1 n2 room us) (hs : SmU us) (hn1 : n1 ≤ 100) (h0 : 0 ≤ k) (h1 : k ≤ 100) (hbs : base ≤ w.heap.size) :
    Calls Tryz.prog 38 #[.agg #[.slice A1 n1 c1, .slice A2 n2 c2], .int .i64 k] w fun e w' => e = .returned (.int .i64 (posU (k + n1) us n2)) ∧ OwnC w' base (.slice A1 n1 c1) (.slice A2 n2 c2) n1 n2 (seqI k n1) (mkUL (k + n1) us n2) ∧ Below base w w' ∧ KpC w w' := by
  obtain ⟨hr, md0, hm10, hm20, vs0, tk0, f0, hu0, hd0, hf0⟩ := h
  obtain ⟨md, hmd⟩ : ∃ md, md = min md0 w.heap.size := ⟨_, rfl⟩
  have hm1 : ∀ b, (Value.slice A1 n1 c1).ownBlock = some b → b < md := fun b hb => by have := hm10 b hb; have := (hr.lt b hb).2; omega
  have hm2 : base ≤ md := by omega
  have hms : md ≤ w.heap.size := by omega
  have hu : OwnUs w md (.slice A2 n2 c2) n2 us := ⟨vs0, tk0, f0, own_lo hu0 (by omega), hd0, by omega⟩
  clear hmd hm10 hm20 hu0 hd0 hf0
  have Hr := qh hr
  have Hu := qh hu
  have Hm1 := qh hm1
  have Hs := qh hs
  clear hr hu hm1 hs
  have B1 := qh (alloc_up w (.cells #[.slice A1 n1 c1, .slice A2 n2 c2] 26))
  have P1 := qh (Blk.new w 26 #[.slice A1 n1 c1, .slice A2 n2 c2])
  have R1 := qh (own_alloc Hr.out (.cells #[.slice A1 n1 c1, .slice A2 n2 c2] 26))
  have U1 := qh (Hu.out.keepge (fun b _ hb => B1.out.block b hb))
  have x0 := P1.out.cell 0
  simp only [gT, gZ] at x0
  go_enter Tryz.func38, Tryz.ntmps38
  go_wp2_with fail
  generalize w.alloc (.cells #[.slice A1 n1 c1, .slice A2 n2 c2] 26) = w1 at B1 P1 R1 U1 x0 ⊢
  refine (markRow_any base A1 n1 c1 k room w1 R1.out h0 (by omega)).mono ?_; rintro e w2 ⟨rfl, hr2, hg2⟩
  have z1 := B1.out.size
  have z2 := hg2.size
  have P2 := qh (P1.out.grown hg2 (fun e => own_blk_ne R1.out P1.out (by decide) e.symm))
  have U2 := qh (U1.out.keepge (w' := w2) (fun b hb hlt => hg2.block b hlt (fun e => by have := Hm1.out b e.symm; omega)))
  have K2 := qh (show Below base w w2 from (B1.out.mono hbs).trans ⟨hg2.os, hg2.tape, hg2.output, hg2.size, fun b hb => hg2.block b (by omega) (fun e => by have h1 := (Hr.out.lt b e.symm); omega)⟩)
  have Kc := qh (show KpC w w2 from fun g cs hb => (hb.below B1.out hb.lt).grown hg2 (fun e => own_blk_ne R1.out (hb.below B1.out hb.lt) (by decide) e.symm))
  have R2 := qh hr2
  have x1 := P2.out.cell 1
  simp only [gT, gZ, gS] at x1
  clear hr2 hg2 R1 U1 P1 x0
  go_wp2_with fail
  refine (markUs_any md A2 n2 c2 (k + n1) us w2 U2.out Hs.out (by omega) (by omega) (by omega)).mono ?_; rintro e w3 ⟨rfl, hu3, hk3, hc3⟩
  have R3 := qh (own_keep R2.out (fun b hb => hk3.block b (Hm1.out b hb)))
  go_wp2_with fail
  go_ret
  refine ⟨rfl, ⟨R3.out, md, Hm1.out, hm2, hu3⟩, K2.out.trans (hk3.mono hm2), Kc.out.trans hc3⟩

set_option maxHeartbeats 1600000 in
theorem heldCl_any (A1 A2 : Option Addr) (n1 c1 n2 c2 : Nat) (k : Int) (us : List Un) (w : World) (h1 : RdI w w.heap.size A1 n1 (seqI k n1)) (h2 : RdN w w.heap.size A2 n2 (mkUL (k + n1) us n2)) (hs : SmU us) (hn1 : n1 ≤ 100) (h0 : 0 ≤ k) (hk : k ≤ 100) :
    Calls Tryz.prog 41 #[.agg #[.slice A1 n1 c1, .slice A2 n2 c2], .int .i64 k] w fun e w' => e = .returned (.int .i64 (posU (k + n1) us n2)) ∧ Below w.heap.size w w' := by
  have H1 := qh h1
  have H2 := qh h2
  have Hs := qh hs
  clear h1 h2 hs
  have B1 := qh (alloc_up w (.cells #[.slice A1 n1 c1, .slice A2 n2 c2] 26))
  have P1 := Blk.new w 26 #[.slice A1 n1 c1, .slice A2 n2 c2]
  have x0 := P1.cell 0
  have x1 := P1.cell 1
  simp only [gT, gZ, gS] at x0 x1
  have hneg : ¬ k + (n1 : Int) < 0 := by omega
  have hp := (posU_bd (k + n1) Hs.out n2).1
  have hneg2 : ¬ posU (k + n1) us n2 < 0 := by omega
  have hc1 := qh (heldIntS_any A1 n1 c1 _ k _ (H1.out.up B1.out) h0 (by omega))
  have hc2 := qh (heldUs_any _ A2 n2 c2 (k + n1) us _ (H2.out.up B1.out) Hs.out (by omega) (by omega))
  go_enter Tryz.func41, Tryz.ntmps41
  go_wp2_with (first | (go_at_call 42; refine hc1.out.mono ?_; rintro e w' ⟨rfl, rfl⟩) | (go_at_call 81; refine hc2.out.mono ?_; rintro e w' ⟨rfl, rfl⟩))
  go_ret
  exact ⟨rfl, B1.out⟩
end Go.Proofs.YtjjnbbkdjimcoaaGreat
