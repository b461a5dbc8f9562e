/- Walks: markIntS, markTaskS, markTaskSS, heldIntS: writes into memory of one's own, shape for shape. -/
import Derived.Test.YtjjnbbkdjimcoaaGreatJ2
namespace Go.Proofs.YtjjnbbkdjimcoaaGreat
open Go.RowKit

/-- Outside lo to hi nothing has turned. -/
structure KeptOut (w w' : World) (lo hi : Nat) : Prop where
  os : w'.os = w.os
  tape : w'.tape = w.tape
  output : w'.output = w.output
  size : w.heap.size ≤ w'.heap.size
  block : ∀ b, b < w.heap.size → b < lo ∨ hi ≤ b → w'.heap[b]? = w.heap[b]?
theorem KeptOut.refl (w : World) (lo hi : Nat) : KeptOut w w lo hi := ⟨rfl, rfl, rfl, Nat.le_refl _, fun _ _ _ => rfl⟩
theorem KeptOut.trans {a b c : World} {lo hi : Nat} (h : KeptOut a b lo hi) (k : KeptOut b c lo hi) : KeptOut a c lo hi :=
  ⟨k.os.trans h.os, k.tape.trans h.tape, k.output.trans h.output, Nat.le_trans h.size k.size, fun x h1 h2 => (k.block x (Nat.lt_of_lt_of_le h1 h.size) h2).trans (h.block x h1 h2)⟩
theorem KeptOut.mono {w w' : World} {lo hi lo' hi' : Nat} (h : KeptOut w w' lo hi) (h1 : lo' ≤ lo) (h2 : hi ≤ hi') : KeptOut w w' lo' hi' :=
  ⟨h.os, h.tape, h.output, h.size, fun b hb hc => h.block b hb (by omega)⟩
theorem KeptOut.setCell {a w : World} {lo hi : Nat} (h : KeptOut a w lo hi) {p : Addr} (h1 : lo ≤ p.block) (h2 : p.block < hi) (u : Value) : KeptOut a (w.setCell p u) lo hi :=
  h.trans ⟨rfl, rfl, rfl, by simp [World.setCell], fun b _ hc => Below.heap_setCell w p u b (by omega)⟩
theorem KeptOut.below {w0 w w' : World} {lo hi : Nat} (hb : Below w0.heap.size w0 w) (h : KeptOut w w' lo hi) (hl : w0.heap.size ≤ lo) : Below w0.heap.size w0 w' :=
  hb.trans ⟨h.os, h.tape, h.output, h.size, fun k hk => h.block k (by have := hb.size; omega) (by omega)⟩
theorem KeptOut.of_below {w w' : World} (h : Below w.heap.size w w') (lo hi : Nat) : KeptOut w w' lo hi := ⟨h.os, h.tape, h.output, h.size, fun b hb _ => h.block b hb⟩

/-- Blocks of integers, of tasks keep their shape; all others are as they were. -/
structure Shp (w w' : World) : Prop where
  ints : ∀ g (xs : List Int), Blk w g 3 (xs.map (Value.int .i64)).toArray → ∃ ys : List Int, ys.length = xs.length ∧ Blk w' g 3 (ys.map (Value.int .i64)).toArray
  tasks : ∀ g (vs : List Value), Blk w g 43 vs.toArray → ∃ vs' : List Value, Blk w' g 43 vs'.toArray ∧ vs'.length = vs.length ∧ (∀ j, vs'[j * 2 + 1]? = vs[j * 2 + 1]?) ∧ (∀ j a, vs[j * 2]? = some (.int .i64 a) → ∃ b, vs'[j * 2]? = some (.int .i64 b))
  rest : ∀ g t cs, t ≠ 3 → t ≠ 43 → Blk w g t cs → Blk w' g t cs
theorem Shp.refl (w : World) : Shp w w := ⟨fun _ xs h => ⟨xs, rfl, h⟩, fun _ vs h => ⟨vs, h, rfl, fun _ => rfl, fun _ a h => ⟨a, h⟩⟩, fun _ _ _ _ _ h => h⟩
theorem Shp.trans {a b c : World} (h : Shp a b) (k : Shp b c) : Shp a c := by
  refine ⟨fun g xs hx => ?_, fun g vs hv => ?_, fun g t cs h1 h2 hx => k.rest g t cs h1 h2 (h.rest g t cs h1 h2 hx)⟩
  · obtain ⟨ys, h1, h2⟩ := h.ints g xs hx
    obtain ⟨zs, h3, h4⟩ := k.ints g ys h2
    exact ⟨zs, by omega, h4⟩
  · obtain ⟨v1, h1, h2, h3, h4⟩ := h.tasks g vs hv
    obtain ⟨v2, k1, k2, k3, k4⟩ := k.tasks g v1 h1
    refine ⟨v2, k1, by omega, fun j => (k3 j).trans (h3 j), fun j a ha => ?_⟩
    obtain ⟨b, hb⟩ := h4 j a ha
    exact k4 j b hb
theorem Shp.of_keep {w w' : World} (h : ∀ b, b < w.heap.size → w'.heap[b]? = w.heap[b]?) : Shp w w' :=
  ⟨fun g xs hx => ⟨xs, rfl, (h g hx.lt).trans hx⟩, fun g vs hv => ⟨vs, (h g hv.lt).trans hv, rfl, fun _ => rfl, fun _ a ha => ⟨a, ha⟩⟩, fun g _ _ _ _ hx => (h g hx.lt).trans hx⟩

theorem blk_inj {w : World} {g : Nat} {t t' : TypeId} {cs cs' : Array Value} (h : Blk w g t cs) (h' : Blk w g t' cs') : t = t' ∧ cs = cs' := by
  unfold Blk at h h'
  rw [h] at h'
  injection h' with h'
  injection h' with h1 h2
  exact ⟨h2, h1⟩
theorem ints_inj' : ∀ xs ys : List Int, xs.map (Value.int .i64) = ys.map (Value.int .i64) → xs = ys
  | [], [], _ => rfl
  | [], _ :: _, h => by cases h
  | _ :: _, [], h => by cases h
  | x :: xs, y :: ys, h => by
    simp only [List.map_cons, List.cons.injEq, Value.int.injEq, true_and] at h
    rw [h.1, ints_inj' xs ys h.2]
theorem ints_inj {xs ys : List Int} (h : (xs.map (Value.int .i64)).toArray = (ys.map (Value.int .i64)).toArray) : xs = ys := ints_inj' xs ys (congrArg Array.toList h)

/-- A block of integers was written anew, all else is as it was. -/
theorem Shp.of_ints {w w' : World} {g : Nat} {xs ys : List Int} (hx : Blk w g 3 (xs.map (Value.int .i64)).toArray) (hy : Blk w' g 3 (ys.map (Value.int .i64)).toArray) (hl : ys.length = xs.length)
    (hk : ∀ b, b < w.heap.size → b ≠ g → w'.heap[b]? = w.heap[b]?) : Shp w w' := by
  refine ⟨fun g' zs hz => ?_, fun g' vs hv => ?_, fun g' t cs h1 h2 hc => ?_⟩
  · by_cases e : g' = g
    · subst e
      have := ints_inj (blk_inj hx hz).2
      subst this
      exact ⟨ys, hl, hy⟩
    · exact ⟨zs, rfl, (hk g' hz.lt e).trans hz⟩
  · have e : g' ≠ g := by
      rintro rfl
      have := (blk_inj hx hv).1
      exact absurd this (by decide)
    exact ⟨vs, (hk g' hv.lt e).trans hv, rfl, fun _ => rfl, fun _ a ha => ⟨a, ha⟩⟩
  · have e : g' ≠ g := by
      rintro rfl
      exact h1 (blk_inj hx hc).1.symm
    exact (hk g' hc.lt e).trans hc
/-- A number of a task was written. -/
theorem Shp.of_id {w : World} {g j : Nat} {vs : List Value} {x : Int} (hv : Blk w g 43 vs.toArray) (hl : j * 2 < vs.length) : Shp w (w.setCell ⟨g, j * 2, none⟩ (.int .i64 x)) := by
  have hk : ∀ b, b ≠ g → (w.setCell ⟨g, j * 2, none⟩ (.int .i64 x)).heap[b]? = w.heap[b]? := fun b hb => Below.heap_setCell w _ _ b hb
  refine ⟨fun g' zs hz => ?_, fun g' us hu => ?_, fun g' t cs h1 h2 hc => ?_⟩
  · have e : g' ≠ g := by
      rintro rfl
      have := (blk_inj hz hv).1
      exact absurd this (by decide)
    exact ⟨zs, rfl, (hk g' e).trans hz⟩
  · by_cases e : g' = g
    · subst e
      have := (blk_inj hv hu).2
      have : vs = us := by simpa using this
      subst this
      have h := hv.set_ (j * 2) (.int .i64 x)
      simp only [pS] at h
      refine ⟨_, h, by simp, fun i => ?_, fun i a ha => ?_⟩
      · rw [List.getElem?_set_ne (by omega)]
      · by_cases ei : i = j
        · subst ei; exact ⟨x, by rw [List.getElem?_set_self hl]⟩
        · exact ⟨a, by rw [List.getElem?_set_ne (by omega)]; exact ha⟩
    · exact ⟨us, (hk g' e).trans hu, rfl, fun _ => rfl, fun _ a ha => ⟨a, ha⟩⟩
  · have e : g' ≠ g := by
      rintro rfl
      exact h2 (blk_inj hv hc).1.symm
    exact (hk g' e).trans hc

/-- Tasks that may be written. -/
def SwI (w : World) (lo hi g n : Nat) : Prop := lo ≤ g ∧ g < hi ∧ ∃ xs : List Int, xs.length = n ∧ Blk w g 3 (xs.map (Value.int .i64)).toArray
def SwT (w : World) (lo hi g n : Nat) : Prop := lo ≤ g ∧ g < hi ∧ ∃ vs : List Value, Blk w g 43 vs.toArray ∧ vs.length = n * 2 ∧ ∀ j, j < n → ∃ a g' m, vs[j * 2]? = some (.int .i64 a) ∧ vs[j * 2 + 1]? = some (.slice (some ⟨g', 0, none⟩) m m) ∧ m ≤ 1048576 ∧ SwI w lo hi g' m
def SwB (w : World) (lo hi g n : Nat) : Prop := lo ≤ g ∧ g < hi ∧ ∃ vs : List Value, Blk w g 27 vs.toArray ∧ vs.length = n ∧ ∀ j, j < n → ∃ g' m, vs[j]? = some (.slice (some ⟨g', 0, none⟩) m m) ∧ m ≤ 1048576 ∧ SwT w lo hi g' m
section
variable {w w' : World} {lo hi g n : Nat}
theorem SwI.shp (h : SwI w lo hi g n) (k : Shp w w') : SwI w' lo hi g n := by
  obtain ⟨h1, h2, xs, h3, h4⟩ := h
  obtain ⟨ys, k1, k2⟩ := k.ints g xs h4
  exact ⟨h1, h2, ys, by omega, k2⟩
theorem SwT.shp (h : SwT w lo hi g n) (k : Shp w w') : SwT w' lo hi g n := by
  obtain ⟨h1, h2, vs, h3, h4, h5⟩ := h
  obtain ⟨us, k1, k2, k3, k4⟩ := k.tasks g vs h3
  refine ⟨h1, h2, us, k1, by omega, fun j hj => ?_⟩
  obtain ⟨a, g', m, e1, e2, e3, e4⟩ := h5 j hj
  obtain ⟨b, hb⟩ := k4 j a e1
  exact ⟨b, g', m, hb, (k3 j).trans e2, e3, e4.shp k⟩
theorem SwB.shp (h : SwB w lo hi g n) (k : Shp w w') : SwB w' lo hi g n := by
  obtain ⟨h1, h2, vs, h3, h4, h5⟩ := h
  refine ⟨h1, h2, vs, k.rest g _ _ (by decide) (by decide) h3, h4, fun j hj => ?_⟩
  obtain ⟨g', m, e1, e2, e3⟩ := h5 j hj
  exact ⟨g', m, e1, e2, e3.shp k⟩
theorem OwI.sw {xs : List Int} (h : OwI w lo g xs) : SwI w lo w.heap.size g xs.length := ⟨h.1, h.2.lt, xs, rfl, h.2⟩
theorem OwT.sw {ts : List Tk} (h : OwT w lo g ts) (hm : ∀ j, j < ts.length → (ts[j]?.getD (0, [])).2.length ≤ 1048576) : SwT w lo w.heap.size g ts.length := by
  obtain ⟨h1, vs, h2, h3, h4⟩ := h
  refine ⟨h1, h2.lt, vs, h2, h3, fun j hj => ?_⟩
  obtain ⟨g', e1, e2, e3, e4⟩ := h4 j hj
  obtain ⟨s1, s2, s3⟩ := e4.sw
  exact ⟨_, g', _, e1, e2, hm j hj, by omega, s2, s3⟩
theorem OwB.sw {bs : List (List Tk)} (h : OwB w lo g bs) (hm : totB bs ≤ 1048576) : SwB w lo w.heap.size g bs.length := by
  obtain ⟨h1, vs, h2, h3, h4⟩ := h
  refine ⟨h1, h2.lt, vs, h2, h3, fun j hj => ?_⟩
  obtain ⟨g', e1, e3, e4⟩ := h4 j hj
  have hb := totB_bin hj
  have hg := totT_ge (bs[j]?.getD [])
  obtain ⟨s1, s2, us, s3, s4, s5⟩ := e4.sw (fun i hi => by have := totT_need hi; omega)
  refine ⟨g', _, e1, by omega, by omega, s2, us, s3, s4, fun i hi => ?_⟩
  obtain ⟨a, g'', m, t1, t2, t3, t4, t5⟩ := s5 i hi
  exact ⟨a, g'', m, t1, t2, t3, by omega, t5⟩
theorem SwI.more {lo' hi' : Nat} (h : SwI w lo hi g n) (h1 : lo' ≤ lo) (h2 : hi ≤ hi') : SwI w lo' hi' g n := ⟨by have := h.1; omega, by have := h.2.1; omega, h.2.2⟩
theorem SwT.more {lo' hi' : Nat} (h : SwT w lo hi g n) (h1 : lo' ≤ lo) (h2 : hi ≤ hi') : SwT w lo' hi' g n := by
  obtain ⟨a, b, vs, c, d, e⟩ := h
  exact ⟨by omega, by omega, vs, c, d, fun j hj => by obtain ⟨x, g', m, e1, e2, e3, e4⟩ := e j hj; exact ⟨x, g', m, e1, e2, e3, e4.more h1 h2⟩⟩
theorem SwB.more {lo' hi' : Nat} (h : SwB w lo hi g n) (h1 : lo' ≤ lo) (h2 : hi ≤ hi') : SwB w lo' hi' g n := by
  obtain ⟨a, b, vs, c, d, e⟩ := h
  exact ⟨by omega, by omega, vs, c, d, fun j hj => by obtain ⟨g', m, e1, e2, e3⟩ := e j hj; exact ⟨g', m, e1, e2, e3.more h1 h2⟩⟩
end

/-- k, k+1, .. -/
def seqI (k : Int) (n : Nat) : List Int := (List.range n).map (fun (j : Nat) => k + (j : Int))
theorem seqI_len (k : Int) (n : Nat) : (seqI k n).length = n := by simp [seqI]
theorem seqI_at (k : Int) {n j : Nat} (h : j < n) : (seqI k n)[j]?.getD 0 = k + j := by simp [seqI, List.getElem?_range h]
theorem seqI_set {k : Int} {xs : List Int} {j : Nat} (h : j < xs.length) : (seqI k j ++ xs.drop j).set j (k + j) = seqI k (j + 1) ++ xs.drop (j + 1) := by
  rw [List.set_append_right _ _ (by rw [seqI_len]; omega), seqI_len, Nat.sub_self, List.drop_eq_getElem_cons h, pZ]
  simp [seqI, List.range_succ]

set_option maxRecDepth 100000 in
set_option maxHeartbeats 800000 in
theorem markIntS_any (g n c : Nat) (t : TypeId) (k : Int) (xs : List Int) (w : World) (hb : Blk w g t (xs.map (Value.int .i64)).toArray) (hn : xs.length = n) (h0 : 0 ≤ k) (h1 : k + n ≤ 4611686018427387904) :
    Calls Tryz.prog 40 #[.slice (some ⟨g, 0, none⟩) n c, .int .i64 k] w fun e w' => e = .returned (.int .i64 (k + n)) ∧ Blk w' g t ((seqI k n).map (Value.int .i64)).toArray ∧ KeptOut w w' g (g + 1) := by
  have Hb := qh hb
  have Hn := qh hn
  clear hb hn
  go_enter Tryz.func40, Tryz.ntmps40
  go_wp2
  go_loopw [1, 5] (fun q i wr => ∃ j : Nat, i = .int .i64 j ∧ j ≤ n ∧ q = .int .i64 (k + j) ∧ Blk wr g t ((seqI k j ++ xs.drop j).map (Value.int .i64)).toArray ∧ KeptOut w wr g (g + 1)) (fun _ i _ => n - (intOf i).toNat)
  case atStart => exact ⟨0, rfl, Nat.zero_le _, by simp, Hb.out, KeptOut.refl _ _ _⟩
  case round =>
    obtain ⟨j, rfl, hj, rfl, hblk, hko⟩ := hrel
    have Hblk := qh hblk
    clear hblk
    by_cases hlt : j < n
    · have hjl : Hid (j < xs.length) := by have := Hn.out; show _ < _; omega
      obtain ⟨old, hcz⟩ : ∃ old, wr.cell? ⟨g, j, none⟩ = some (.int .i64 old) := by
        rw [Hblk.out.cell]
        have hlen : (seqI k j ++ xs.drop j).length = xs.length := by rw [List.length_append, seqI_len, List.length_drop]; have := hjl.out; omega
        exact ⟨_, by rw [gT, List.getElem?_map, List.getElem?_eq_getElem (by rw [hlen]; exact hjl.out)]; rfl⟩
      have hfz : wr.frozen? ⟨g, j, none⟩ = false := Hblk.out.frozen _
      go_wp2
      go_roundw
      case rel =>
        refine ⟨j + 1, by go_num, by omega, by go_num, ?_, hko.setCell (p := ⟨g, j, none⟩) (Nat.le_refl _) (Nat.lt_succ_self _) _⟩
        have := Hblk.out.set_ j (.int .i64 (k + j))
        rw [ints_set, seqI_set hjl.out] at this
        exact this
      case measure => simp [intOf]; omega
    · have ej : j = n := by omega
      subst ej
      go_wp2
      go_ret
      refine ⟨rfl, ?_, hko⟩
      have := Hblk.out
      rwa [List.drop_of_length_le (by have := Hn.out; omega), List.append_nil] at this

set_option maxRecDepth 100000 in
set_option maxHeartbeats 800000 in
theorem heldIntS_any (A : Option Addr) (n c B : Nat) (k : Int) (w : World) (h : RdI w B A n (seqI k n)) (h0 : 0 ≤ k) (h1 : k + n ≤ 4611686018427387904) :
    Calls Tryz.prog 42 #[.slice A n c, .int .i64 k] w fun e w' => e = .returned (.int .i64 (k + n)) ∧ w = w' := by
  have H := qh h
  clear h
  go_enter Tryz.func42, Tryz.ntmps42
  go_wp2
  go_loop [1, 5] (fun q i => ∃ j : Nat, i = .int .i64 j ∧ j ≤ n ∧ q = .int .i64 (k + j)) (fun _ i => n - (intOf i).toNat)
  case atStart => exact ⟨0, rfl, Nat.zero_le _, by simp⟩
  case round =>
    obtain ⟨j, rfl, hj, rfl⟩ := hrel
    by_cases hlt : j < n
    · obtain ⟨b, o, rfl, hb, hc⟩ := H.out.at_ hlt
      rw [seqI_at k hlt] at hc
      go_wp2
      go_round
      case rel => exact ⟨j + 1, by go_num, by omega, by go_num⟩
      case measure => simp [intOf]; omega
    · have ej : j = n := by omega
      subst ej
      go_wp2
      go_ret
      exact ⟨rfl, rfl⟩

set_option maxRecDepth 100000 in
set_option maxHeartbeats 1600000 in
theorem markTaskS_any (lo hi g n c : Nat) (k : Int) (w : World) (h : SwT w lo hi g n) (hn : n ≤ 1048576) (h0 : 0 ≤ k) (h1 : k ≤ 2305843009213693952) :
    Calls Tryz.prog 39 #[.slice (some ⟨g, 0, none⟩) n c, .int .i64 k] w fun e w' => ∃ r, e = .returned (.int .i64 r) ∧ k ≤ r ∧ r ≤ k + n * 1048577 ∧ Shp w w' ∧ KeptOut w w' lo hi := by
  have H := qh h
  clear h
  go_enter Tryz.func39, Tryz.ntmps39
  go_wp2
  go_loopw [1, 5] (fun q i wr => ∃ (j : Nat) (r : Int), i = .int .i64 j ∧ j ≤ n ∧ q = .int .i64 r ∧ k ≤ r ∧ r ≤ k + j * 1048577 ∧ Shp w wr ∧ KeptOut w wr lo hi) (fun _ i _ => n - (intOf i).toNat)
  case atStart => exact ⟨0, k, rfl, Nat.zero_le _, rfl, by omega, by omega, Shp.refl _, KeptOut.refl _ _ _⟩
  case round =>
    obtain ⟨j, r, rfl, hj, rfl, hr0, hr1, hshp, hko⟩ := hrel
    by_cases hlt : j < n
    · obtain ⟨s1, s2, vs, s3, s4, s5⟩ := H.out.shp hshp
      obtain ⟨a, g', m, e1, e2, e3, e4⟩ := s5 j hlt
      have S3 := qh s3
      have S4 := qh s4
      have E4 := qh e4
      have c1 : wr.cell? ⟨g, j * 2, none⟩ = some (.int .i64 a) := by rw [s3.cell]; simpa using e1
      have c2 : wr.cell? ⟨g, j * 2 + 1, none⟩ = some (.slice (some ⟨g', 0, none⟩) m m) := by rw [s3.cell]; simpa using e2
      have f1 : wr.frozen? ⟨g, j * 2, none⟩ = false := s3.frozen _
      have hid := Shp.of_id (x := r) s3 (j := j) (by omega)
      have Hid1 := qh hid
      have q1 : r ≤ 2305843009213693952 + 1048576 * 1048577 := by omega
      clear s3 s4 s5 e1 e2 e4 hid
      go_wp2_with fail
      obtain ⟨t1, t2, xs, t3, t4⟩ := E4.out.shp Hid1.out
      refine (markIntS_any g' m m 3 (r + 1) xs _ t4 t3 (by omega) (by omega)).mono ?_; rintro e w2 ⟨rfl, hb2, hk2⟩
      have Hs2 := qh (Shp.of_ints t4 hb2 (by rw [seqI_len, t3]) (fun b hb hne => hk2.block b hb (by omega)))
      clear hb2 t3 t4
      go_wp2
      go_roundw
      case rel => exact ⟨j + 1, r + 1 + m, by go_num, by omega, by go_num, by omega, by omega, (hshp.trans Hid1.out).trans Hs2.out, (hko.setCell (p := ⟨g, j * 2, none⟩) s1 s2 _).trans (hk2.mono t1 (by omega))⟩
      case measure => simp [intOf]; omega
    · have ej : j = n := by omega
      subst ej
      go_wp2
      go_ret
      exact ⟨r, rfl, hr0, hr1, hshp, hko⟩

end Go.Proofs.YtjjnbbkdjimcoaaGreat
