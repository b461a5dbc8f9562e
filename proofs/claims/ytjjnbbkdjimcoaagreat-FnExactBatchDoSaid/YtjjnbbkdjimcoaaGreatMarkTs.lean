/- Walks: marks on rows of integers and of tasks of the call's own that may have room behind them, and whether they are held. -/
import Derived.Test.YtjjnbbkdjimcoaaGreatJ4
import Derived.Test.YtjjnbbkdjimcoaaGreatLawMark
namespace Go.Proofs.YtjjnbbkdjimcoaaGreat
open Go Go.RowKit

set_option maxHeartbeats 400000 in
theorem markNone_any (A : Option Addr) (c : Nat) (k : Int) (w : World) :
    Calls Tryz.prog 40 #[.slice A 0 c, .int .i64 k] w fun e w' => e = .returned (.int .i64 k) ∧ w = w' := by
  go_enter Tryz.func40, Tryz.ntmps40
  go_wp2
  refine wp_loop_rounds 1 ?_
  rw [rounds_succ]
  go_wp2
  go_ret
  exact ⟨rfl, rfl⟩

set_option maxRecDepth 100000 in
set_option maxHeartbeats 800000 in
/-- A row that the call owns is marked. -/
theorem markRow_any (base : Nat) (A : Option Addr) (n c : Nat) (k : Int) (xs : List Int) (w : World) (h : w.ownsRow base 3 1 (.slice A n c) n (xs.map (Value.int .i64))) (h0 : 0 ≤ k) (h1 : k + n ≤ 4611686018427387904) :
    Calls Tryz.prog 40 #[.slice A n c, .int .i64 k] w fun e w' => e = .returned (.int .i64 (k + n)) ∧ w'.ownsRow base 3 1 (.slice A n c) n ((seqI k n).map (Value.int .i64)) ∧ w.grownBy w' (Value.slice A n c).ownBlock := by
  have hl := own_len h
  rcases Nat.eq_zero_or_pos n with hn | hn
  · subst hn
    refine (markNone_any A c k w).mono ?_
    rintro e w' ⟨rfl, rfl⟩
    have : xs = [] := List.eq_nil_of_length_eq_zero hl
    subst this
    exact ⟨by simp, by simpa [seqI] using h, ⟨rfl, rfl, rfl, Nat.le_refl _, fun _ _ _ => rfl⟩⟩
  · obtain ⟨g, cap, hv, hb, hlt⟩ := h.form hn
    injection hv with e1 e2 e3
    subst e1
    have H := qh h
    have Hl := qh hl
    clear h hl e2 e3 hb
    go_enter Tryz.func40, Tryz.ntmps40
    go_wp2
    go_loopw [1, 5] (fun q i wr => ∃ j : Nat, i = .int .i64 j ∧ j ≤ n ∧ q = .int .i64 (k + j) ∧ wr.ownsRow base 3 1 (.slice (some ⟨g, 0, none⟩) n c) n ((seqI k j ++ xs.drop j).map (Value.int .i64)) ∧ w.grownBy wr (some g)) (fun _ i _ => n - (intOf i).toNat)
    case atStart => exact ⟨0, rfl, Nat.zero_le _, by simp, H.out, ⟨rfl, rfl, rfl, Nat.le_refl _, fun _ _ _ => rfl⟩⟩
    case round =>
      obtain ⟨j, rfl, hj, rfl, hown, hgr⟩ := hrel
      have Hown := qh hown
      have Hgr := qh hgr
      clear hown hgr
      by_cases hlt' : j < n
      · have hjl : Hid (j < xs.length) := by have := Hl.out; show _ < _; omega
        have hlen : (seqI k j ++ xs.drop j).length = xs.length := by rw [List.length_append, seqI_len, List.length_drop]; have := hjl.out; omega
        obtain ⟨old, hcz⟩ : ∃ old, wr.cell? ⟨g, j, none⟩ = some (.int .i64 old) := by
          have := Hown.out.cells (g := g) rfl j (.int .i64 ((seqI k j ++ xs.drop j)[j]'(by rw [hlen]; exact hjl.out))) (by rw [List.getElem?_map, List.getElem?_eq_getElem (by rw [hlen]; exact hjl.out)]; rfl)
          rw [addr_add, Nat.zero_add] at this
          exact ⟨_, this⟩
        have hfz : wr.frozen? ⟨g, j, none⟩ = false := by
          rcases Hown.out.2 with ⟨e, _⟩ | ⟨g', cap', cur, e, _, hg', _⟩
          · cases e
          · injection e with e1 e2 e3
            injection e1 with e1
            injection e1 with e1
            subst e1
            simp [World.frozen?, hg']
        clear hlen
        go_wp2
        go_roundw
        case rel =>
          refine ⟨j + 1, by go_num, by omega, by go_num, ?_, ⟨Hgr.out.os, Hgr.out.tape, Hgr.out.output, by simpa [World.setCell] using Hgr.out.size, fun b hb hne => (Below.heap_setCell wr ⟨g, j, none⟩ _ b (fun e => hne (by rw [e]))).trans (Hgr.out.block b hb hne)⟩⟩
          have := own_set Hown.out j (.int .i64 (k + j))
          rw [← List.map_set, seqI_set hjl.out] at this
          exact this
        case measure => simp [intOf]; omega
      · have ej : j = n := by omega
        subst ej
        go_wp2
        go_ret
        refine ⟨rfl, ?_, Hgr.out⟩
        have := Hown.out
        rwa [List.drop_of_length_le (by have := Hl.out; omega), List.append_nil] at this

theorem evKo {w w' : World} {lo hi B n : Nat} {A : Option Addr} {xs : List Int} (h : RdI w B A n xs) (k : KeptOut w w' lo hi) (hl : B ≤ lo) (hs : B ≤ w.heap.size) : RdI w' B A n xs :=
  h.keep (fun p hp => World.cell?_of_block (k.block p.block (by omega) (.inl (by omega)))) (Nat.le_refl _)
theorem evShp {w w' : World} (h : Below w.heap.size w w') : Shp w w' := Shp.of_keep (fun b hb => h.block b hb)
theorem evOwnKo {w w' : World} {lo hi base : Nat} {e : TypeId} {size n : Nat} {v : Value} {xs : List Value} (h : w.ownsRow base e size v n xs) (k : KeptOut w w' lo hi) (hb : hi ≤ base) : w'.ownsRow base e size v n xs :=
  own_keep h (fun b hbb => k.block b (h.lt b hbb).2 (.inr (by have := (h.lt b hbb).1; omega)))
theorem rdT_nil' {w : World} {B : Nat} {A : Option Addr} : RdT w B A 0 [] := ⟨rfl, by omega, fun h => by omega⟩
theorem ownTs_len' {w : World} {base n c : Nat} {A : Option Addr} {ts : List Tk} (h : OwnTs w base (.slice A n c) n ts) : ts.length = n ∧ n ≤ c := by
  obtain ⟨vs, nd, h1, h2⟩ := h
  exact ⟨h2.1, own_cap' h1⟩
theorem ownTs_none {w : World} {base : Nat} : OwnTs w base (.slice none 0 0) 0 [] := ⟨[], _, ⟨rfl, .inl ⟨rfl, rfl⟩⟩, NdTs.nil⟩

/-- Where a task's marks begin. -/
def posT (q : Int) (ts : List Tk) : Nat → Int
  | 0 => q
  | j + 1 => posT q ts j + 1 + ((ts[j]?.getD (0, [])).2.length : Int)
def mkT (q : Int) (ts : List Tk) (j : Nat) : Tk := (posT q ts j, seqI (posT q ts j + 1) (ts[j]?.getD (0, [])).2.length)
def mkL (q : Int) (ts : List Tk) : Nat → List Tk
  | 0 => ts
  | j + 1 => (mkL q ts j).set j (mkT q ts j)
theorem mkL_len (q : Int) (ts : List Tk) : ∀ j, (mkL q ts j).length = ts.length
  | 0 => rfl
  | j + 1 => by rw [mkL, List.length_set, mkL_len q ts j]
theorem mkL_at (q : Int) (ts : List Tk) : ∀ j i, i < ts.length → (mkL q ts j)[i]?.getD (0, []) = if i < j then mkT q ts i else ts[i]?.getD (0, [])
  | 0, i, hi => by rw [if_neg (by omega)]; rfl
  | j + 1, i, hi => by
    rw [mkL]
    by_cases e : j = i
    · subst e; rw [List.getElem?_set_self (by rw [mkL_len]; exact hi), if_pos (by omega)]; rfl
    · rw [List.getElem?_set_ne e, mkL_at q ts j i hi]
      by_cases h : i < j
      · rw [if_pos h, if_pos (by omega)]
      · rw [if_neg h, if_neg (by omega)]
theorem posT_bd {ts : List Tk} (q : Int) (h : ∀ j : Nat, (ts[j]?.getD (0, [])).2.length ≤ 3) : ∀ j, q ≤ posT q ts j ∧ posT q ts j ≤ q + 4 * j
  | 0 => by simp [posT]
  | j + 1 => by have := posT_bd q h j; have := h j; rw [posT]; omega
theorem need_getD {ts : List Tk} {b : Nat} (h : ∀ t ∈ ts, t.2.length ≤ b) (j : Nat) : (ts[j]?.getD (0, [])).2.length ≤ b := by
  by_cases hj : j < ts.length
  · rw [List.getElem?_eq_getElem hj]; exact h _ (List.getElem_mem hj)
  · rw [List.getElem?_eq_none (by omega)]; simp

/-- One task is written anew: its number, and its need. -/
theorem NdTs.put {w w2 : World} {base n j m c : Nat} {vs : List Value} {nd : Nat → Value} {us : List Tk} {A : Option Addr} {q : Int} {ys : List Int} (h : NdTs w base n vs nd us) (hj : j < n) (hv : n * 2 = vs.length) (hnd : nd j = .slice A m c)
    (ho : w2.ownsRow base 3 1 (.slice A m c) m (ys.map (Value.int .i64))) (hk : ∀ i, i < n → i ≠ j → ∀ b, (nd i).ownBlock = some b → w2.heap[b]? = w.heap[b]?) : NdTs w2 base n (vs.set (j * 2) (.int .i64 q)) nd (us.set j (q, ys)) := by
  refine ⟨by rw [List.length_set]; exact h.1, fun i hi => ?_, h.2.2⟩
  obtain ⟨h1, h2, A', m', c', h3, h4⟩ := h.2.1 i hi
  by_cases e : i = j
  · subst e
    have g1 : (vs.set (i * 2) (.int .i64 q))[i * 2]? = some (.int .i64 q) := List.getElem?_set_self (by omega)
    have g2 : (vs.set (i * 2) (.int .i64 q))[i * 2 + 1]? = vs[i * 2 + 1]? := List.getElem?_set_ne (by omega)
    have g3 : (us.set i (q, ys))[i]? = some (q, ys) := List.getElem?_set_self (by rw [h.1]; exact hi)
    rw [g1, g2, g3]
    exact ⟨rfl, h2, A, m, c, hnd, ho⟩
  · have g1 : (vs.set (j * 2) (.int .i64 q))[i * 2]? = vs[i * 2]? := List.getElem?_set_ne (by omega)
    have g2 : (vs.set (j * 2) (.int .i64 q))[i * 2 + 1]? = vs[i * 2 + 1]? := List.getElem?_set_ne (by omega)
    have g3 : (us.set j (q, ys))[i]? = us[i]? := List.getElem?_set_ne (fun x => e x.symm)
    rw [g1, g2, g3]
    exact ⟨h1, h2, A', m', c', h3, own_keep h4 (fun b hb => hk i hi e b (by rw [h3]; exact hb))⟩

set_option maxRecDepth 100000 in
set_option maxHeartbeats 1600000 in
theorem markTs_any (base : Nat) (A : Option Addr) (n c : Nat) (k : Int) (ts : List Tk) (w : World) (h : OwnTs w base (.slice A n c) n ts) (hn : n ≤ 2000000) (hm : ∀ t ∈ ts, t.2.length ≤ 3) (h0 : 0 ≤ k) (h1 : k ≤ 1000000) :
    Calls Tryz.prog 39 #[.slice A n c, .int .i64 k] w fun e w' => e = .returned (.int .i64 (posT k ts n)) ∧ OwnTs w' base (.slice A n c) n (mkL k ts n) ∧ KeptOut w w' base w.heap.size := by
  obtain ⟨vs0, nd, ho0, hd0⟩ := h
  have Hl := qh hd0.1
  have Hm := qh (need_getD hm)
  have Hp := qh (posT_bd k Hm.out)
  have Ho0 := qh ho0
  have Hd0 := qh hd0
  clear ho0 hd0 hm
  go_enter Tryz.func39, Tryz.ntmps39
  go_wp2_with fail
  go_loopw [1, 5] (fun q i wr => ∃ (j : Nat) (vs : List Value), i = .int .i64 j ∧ j ≤ n ∧ q = .int .i64 (posT k ts j) ∧ wr.ownsRow base 43 2 (.slice A n c) n vs ∧ NdTs wr base n vs nd (mkL k ts j) ∧ KeptOut w wr base w.heap.size) (fun _ i _ => n - (intOf i).toNat)
  case atStart => exact ⟨0, vs0, rfl, Nat.zero_le _, rfl, Ho0.out, Hd0.out, KeptOut.refl _ _ _⟩
  case round =>
    obtain ⟨j, vs, rfl, hj, rfl, hown, hnd, hko⟩ := hrel
    by_cases hlt : j < n
    · obtain ⟨g, cap, hv, hgb, hgl⟩ := hown.form (by omega)
      injection hv with e1 e2 e3
      subst e1 e3
      obtain ⟨q1, q2, A', m', c', q3, q4⟩ := hnd.2.1 j hlt
      have hneed : (mkL k ts j)[j]?.getD (0, []) = ts[j]?.getD (0, []) := by rw [mkL_at k ts j j (by rw [Hl.out]; exact hlt), if_neg (by omega)]
      rw [hneed] at q4
      have hmm : (ts[j]?.getD (0, [])).2.length = m' := own_len q4
      have hm3 : m' ≤ 3 := by rw [← hmm]; exact Hm.out j
      obtain ⟨p1, p2⟩ := Hp.out j
      have c0 : wr.cell? ⟨g, j * 2, none⟩ = some (.int .i64 ((mkL k ts j)[j]?.getD (0, [])).1) := by
        have := hown.cells (g := g) rfl (j * 2) _ q1
        rwa [addr_add, Nat.zero_add] at this
      have c1 : wr.cell? ⟨g, j * 2 + 1, none⟩ = some (.slice A' m' c') := by
        have := hown.cells (g := g) rfl (j * 2 + 1) _ (by rw [q2, q3])
        rwa [addr_add, Nat.zero_add] at this
      have hfz : wr.frozen? ⟨g, j * 2, none⟩ = false := by
        rcases hown.2 with ⟨e, _⟩ | ⟨g', cap', cur, e, _, hg', _⟩
        · cases e
        · injection e with e1 e2 e3
          injection e1 with e1
          injection e1 with e1
          subst e1
          simp [World.frozen?, hg']
      have o1 := own_set hown (j * 2) (.int .i64 (posT k ts j))
      have c1' : (wr.setCell ⟨g, j * 2, none⟩ (.int .i64 (posT k ts j))).cell? ⟨g, j * 2 + 1, none⟩ = some (.slice A' m' c') := by
        have := o1.cells (g := g) rfl (j * 2 + 1) _ (by rw [List.getElem?_set_ne (by omega), q2, q3])
        rwa [addr_add, Nat.zero_add] at this
      have hne : ∀ b, (Value.slice A' m' c').ownBlock = some b → b ≠ g := fun b hb e => own_types q4 hown (by decide) hb (by rw [e]; rfl)
      have o2 := own_keep q4 (w' := wr.setCell ⟨g, j * 2, none⟩ (.int .i64 (posT k ts j))) (fun b hb => Below.heap_setCell wr _ _ b (hne b hb))
      have kk1 : (0 : Int) ≤ (j : Int) := by omega
      have kk2 : (j : Int) < (n : Int) := by omega
      have kk3 : 0 ≤ (j : Int) * 2 := by omega
      have hs1 : (wr.setCell ⟨g, j * 2, none⟩ (.int .i64 (posT k ts j))).heap.size = wr.heap.size := by simp [World.setCell]
      have kS : KeptOut w (wr.setCell ⟨g, j * 2, none⟩ (.int .i64 (posT k ts j))) base w.heap.size := hko.setCell hgb (show g < w.heap.size from (Ho0.out.lt g rfl).2) _
      have Kset := qh (fun b (hb : b ≠ g) => Below.heap_setCell wr ⟨g, j * 2, none⟩ (.int .i64 (posT k ts j)) b hb)
      have O1 := qh o1
      have O2 := qh o2
      have KS := qh kS
      have Hnd := qh hnd
      have Hmm := qh hmm
      have Hq3 := qh q3
      have Hq4 := qh q4
      have Hown := qh hown
      have Hs1 := qh hs1
      have Hpj := qh (show posT k ts (j + 1) = posT k ts j + 1 + (m' : Int) by rw [posT, hmm])
      have Hmk := qh (show mkL k ts (j + 1) = (mkL k ts j).set j (posT k ts j, seqI (posT k ts j + 1) m') by rw [mkL, mkT, hmm])
      clear o1 o2 kS hnd hmm hneed q1 q2 q3 q4 hown hne hs1 hko
      generalize posT k ts j = q at *
      go_wp2_with fail
      generalize wr.setCell ⟨g, j * 2, none⟩ (.int .i64 q) = w1 at *
      refine (markRow_any base A' m' c' (q + 1) _ w1 O2.out (by omega) (by omega)).mono ?_; rintro e w2 ⟨rfl, ho2, hg2⟩
      have z2 := hg2.size
      have R2 := qh (own_keep O1.out (w' := w2) (fun b hb => hg2.block b (O1.out.lt b hb).2 (fun e => own_types O2.out O1.out (by decide) e.symm hb)))
      have N2 := qh (Hnd.out.put (w2 := w2) (q := q) (ys := seqI (q + 1) m') hlt (by have := Hown.out.1; omega) Hq3.out ho2 (fun i hi hij b hb => by
        have hbg : b ≠ g := by
          obtain ⟨_, _, A'', m'', c'', r3, r4⟩ := Hnd.out.2.1 i hi
          rw [r3] at hb
          exact fun e => own_types r4 Hown.out (by decide) hb (by rw [e]; rfl)
        have hbl : b < w1.heap.size := by have := Hnd.out.old i hi b hb; have := Hs1.out; omega
        refine (hg2.block b hbl (fun e => ?_)).trans (Kset.out b hbg)
        exact Hnd.out.2.2 i j hi hlt hij b hb (by rw [Hq3.out]; exact e.symm)))
      have K2 := qh (KS.out.trans (⟨hg2.os, hg2.tape, hg2.output, hg2.size, fun b hb hc => hg2.block b hb (fun e => by have := (O2.out.lt b e.symm).1; have := Hd0.out.old j hlt b (by rw [Hq3.out]; exact e.symm); omega)⟩ : KeptOut w1 w2 base w.heap.size))
      clear ho2 hg2
      go_wp2_with fail
      go_roundw
      case measure => simp [intOf]; omega
      case rel => exact ⟨j + 1, _, by go_num, by omega, by rw [Hpj.out], R2.out, by rw [Hmk.out]; exact N2.out, K2.out⟩
    · obtain rfl : j = n := by omega
      have Hown := qh hown
      have Hnd := qh hnd
      have Hko := qh hko
      clear hown hnd hko
      go_wp2_with fail
      go_ret
      exact ⟨rfl, ⟨vs, nd, Hown.out, Hnd.out⟩, Hko.out⟩

set_option maxRecDepth 100000 in
set_option maxHeartbeats 1600000 in
theorem heldTs_any (B : Nat) (A : Option Addr) (n c : Nat) (k : Int) (ts : List Tk) (w : World) (h : RdT w B A n (mkL k ts n)) (hm : ∀ t ∈ ts, t.2.length ≤ 3) (hn : n ≤ 2000000) (h0 : 0 ≤ k) (h1 : k ≤ 1000000) :
    Calls Tryz.prog 119 #[.slice A n c, .int .i64 k] w fun e w' => e = .returned (.int .i64 (posT k ts n)) ∧ w = w' := by
  have Hl := qh (show ts.length = n by have := h.len; rwa [mkL_len] at this)
  have Hm := qh (need_getD hm)
  have Hp := qh (posT_bd k Hm.out)
  have H := qh h
  clear h hm
  go_enter Tryz.func119, Tryz.ntmps119
  go_wp2_with fail
  go_loop [1, 5] (fun q i => ∃ (j : Nat), i = .int .i64 j ∧ j ≤ n ∧ q = .int .i64 (posT k ts j)) (fun _ i => n - (intOf i).toNat)
  case atStart => exact ⟨0, rfl, Nat.zero_le _, rfl⟩
  case round =>
    obtain ⟨j, rfl, hj, rfl⟩ := hrel
    by_cases hlt : j < n
    · obtain ⟨b1, o1, A', m', c', rfl, lb1, hc1, hc3, hle3, hr3⟩ := H.out.at_ hlt
      rw [mkL_at k ts n j (by rw [Hl.out]; exact hlt), if_pos hlt] at hc1 hr3
      have hmm : (ts[j]?.getD (0, [])).2.length = m' := by have := hr3.len; rw [mkT, seqI_len] at this; exact this
      rw [mkT] at hc1 hr3
      dsimp only at hc1 hr3
      rw [hmm] at hr3
      have hm3 : m' ≤ 3 := by rw [← hmm]; exact Hm.out j
      obtain ⟨p1, p2⟩ := Hp.out j
      have Hpj := qh (show posT k ts (j + 1) = posT k ts j + 1 + (m' : Int) by rw [posT, hmm])
      have Hr3 := qh hr3
      have kk1 : (0 : Int) ≤ (j : Int) := by omega
      have kk2 : (j : Int) < (n : Int) := by omega
      have kk3 : 0 ≤ (j : Int) * 2 := by omega
      clear hmm hr3
      generalize posT k ts j = q at *
      go_wp2_with fail
      refine (heldIntS_any A' m' c' B (q + 1) w Hr3.out (by omega) (by omega)).mono ?_; rintro e w2 ⟨rfl, rfl⟩
      have hneg : ¬ q + 1 + (m' : Int) < 0 := by omega
      go_wp2_with fail
      go_round
      case measure => simp [intOf]; omega
      case rel => exact ⟨j + 1, by go_num, by omega, by rw [Hpj.out]⟩
    · obtain rfl : j = n := by omega
      go_wp2_with fail
      go_ret
      exact ⟨rfl, rfl⟩

theorem rdT_at {w : World} {B n : Nat} {A : Option Addr} {ts : List Tk} (h : RdT w B A n ts) : ts.length = n := h.len
theorem evKoT {w w' : World} {lo hi B n : Nat} {A : Option Addr} {ts : List Tk} (h : RdT w B A n ts) (k : KeptOut w w' lo hi) (hl : B ≤ lo) (hs : B ≤ w.heap.size) : RdT w' B A n ts :=
  h.keep (fun p hp => World.cell?_of_block (k.block p.block (by omega) (.inl (by omega)))) (Nat.le_refl _)
theorem mkL_short {ts : List Tk} (h : ∀ t ∈ ts, t.2.length ≤ 3) (j : Nat) : ∀ t ∈ mkL 1 ts j, t.2.length ≤ 9223372036854775807 := by
  intro t ht
  obtain ⟨i, hi, rfl⟩ := List.mem_iff_getElem.1 ht
  have hi' : i < ts.length := by rwa [mkL_len] at hi
  have := mkL_at 1 ts j i hi'
  rw [List.getElem?_eq_getElem hi, Option.getD_some] at this
  rw [this]
  have hb := need_getD h i
  split
  · rw [mkT, seqI_len]; omega
  · omega

end Go.Proofs.YtjjnbbkdjimcoaaGreat
