/- Walks: compare of two tasks, the queue's Less. -/
import Derived.Test.YtjjnbbkdjimcoaaGreatCmp
import Derived.Test.YtjjnbbkdjimcoaaGreatJ10
import Derived.StillTailTactics
namespace Go.Proofs.YtjjnbbkdjimcoaaGreat
set_option linter.unusedSimpArgs false
set_option linter.unusedVariables false
open Go Go.RowKit
attribute [local go_sem ↓] Go.wp_at_zero Go.wp_at_succ

theorem same_calls {P : Program} {f : FuncId} {args : Array Value} {w : World} {v : Value} (h : Calls P f args w fun e w' => e = .returned v ∧ w = w') : Calls P f args w fun e w' => e = .returned v ∧ w' = w :=
  h.mono (fun e w' h => ⟨h.1, h.2.symm⟩)
set_option maxRecDepth 100000 in
set_option maxHeartbeats 1600000 in
theorem compare_any (A1 A2 : Option Addr) (n1 c1 n2 c2 : Nat) (id1 id2 : Int) (xs ys : List Int) (w : World) (h1 : RdI w w.heap.size A1 n1 xs) (h2 : RdI w w.heap.size A2 n2 ys) (l1 : n1 ≤ 1000) (l2 : n2 ≤ 1000)
    (b1 : ∀ x ∈ xs, -1000000 ≤ x ∧ x ≤ 1000000) (b2 : ∀ x ∈ ys, -1000000 ≤ x ∧ x ≤ 1000000) :
    Calls Tryz.prog 182 #[.agg #[.int .i64 id1, .slice A1 n1 c1], .agg #[.int .i64 id2, .slice A2 n2 c2]] w fun e w' => e = .returned (.int .i64 (compP (id1, xs) (id2, ys))) ∧ Below w.heap.size w w' := by
  have B2 := qh ((alloc_up w (.cells #[.int .i64 id1, .slice A1 n1 c1] 43)).alloc (World.size_alloc _ _ ▸ Nat.le_succ _) (.cells #[.int .i64 id2, .slice A2 n2 c2] 43))
  have Z1 := qh ((Blk.new w 43 #[.int .i64 id1, .slice A1 n1 c1]).alloc (.cells #[.int .i64 id2, .slice A2 n2 c2] 43))
  have Z2 := Blk.new (w.alloc (.cells #[.int .i64 id1, .slice A1 n1 c1] 43)) 43 #[.int .i64 id2, .slice A2 n2 c2]
  rw [World.size_alloc] at Z2
  have Z2 := qh Z2
  have H1 := qh h1
  have H2 := qh h2
  have Hb1 := qh b1
  have Hb2 := qh b2
  clear h1 h2 b1 b2
  go_enter Tryz.func182, Tryz.ntmps182
  go_wp2_with fail
  generalize (w.alloc (.cells #[.int .i64 id1, .slice A1 n1 c1] 43)).alloc (.cells #[.int .i64 id2, .slice A2 n2 c2] 43) = w2 at B2 Z1 Z2 ⊢
  have R1 := qh (show RdI w2.drew w2.heap.size A1 n1 xs from H1.out.up B2.out.drew)
  have R2 := qh (show RdI w2.drew w2.heap.size A2 n2 ys from H2.out.up B2.out.drew)
  have x0 := Z1.out.cell 0
  have x1 := Z1.out.cell 1
  have y0 := Z2.out.cell 0
  have y1 := Z2.out.cell 1
  simp only [gT, gZ, gS] at x0 x1 y0 y1
  refine wp_region_still_tail 12 (by kernel_rfl) (by kernel_rfl) ?_
  simp only [List.take_succ_cons, List.take_zero, List.drop_succ_cons, List.drop_zero]
  still_step
  still_step
  still_call (same_calls (total_any A2 n2 c2 _ ys _ R2.out l2 Hb2.out))
  still_step
  still_step
  still_call (same_calls (total_any A1 n1 c1 _ xs _ R1.out l1 Hb1.out))
  still_call (same_calls (cmpInt_any _ _ _))
  still_step
  still_step
  still_step
  still_step
  still_call (same_calls (cmpInt_any _ _ _))
  refine wpStill_nil ?_
  change wpList _ _ _ _ _ w2.drew
  go_wp2_with (go_at_call 183; refine (orTwo_any _ _ _ _ _ ((Blk.new _ _ _).cell 0) ((Blk.new _ _ _).cell 1)).mono ?_; rintro e w' ⟨rfl, rfl⟩)
  go_ret
  exact ⟨rfl, (B2.out.drew).alloc (by have := B2.out.size; exact this) _⟩

/-- Sums of needs are small. -/
def SmT (ts : List Tk) : Prop := ∀ t ∈ ts, t.2.length ≤ 1000 ∧ ∀ x ∈ t.2, -1000000 ≤ x ∧ x ≤ 1000000
theorem SmT.at_ {ts : List Tk} (h : SmT ts) {i : Nat} (hi : i < ts.length) : (gTk ts i).2.length ≤ 1000 ∧ ∀ x ∈ (gTk ts i).2, -1000000 ≤ x ∧ x ≤ 1000000 := by
  unfold gTk
  rw [List.getElem?_eq_getElem hi]
  exact h _ (List.getElem_mem hi)
theorem SmT.perm {ts us : List Tk} (h : SmT ts) (hp : us.Perm ts) : SmT us := fun t ht => h t (hp.subset ht)
set_option maxRecDepth 100000 in
set_option maxHeartbeats 1600000 in
theorem less_any (base g n c i k : Nat) (vs : List Value) (ts : List Tk) (w : World) (ho : w.ownsRow base 43 2 (.slice (some ⟨g, 0, none⟩) n c) n vs) (hn : NdR w base n vs ts) (hs : SmT ts) (hi : i < n) (hk : k < n) :
    Calls Tryz.prog 180 #[.slice (some ⟨g, 0, none⟩) n c, .int .i64 (i : Int), .int .i64 (k : Int)] w fun e w' => e = .returned (.bool (befP (gTk ts i) (gTk ts k))) ∧ Below w.heap.size w w' := by
  have hl := hn.1
  have hr := NdR.rd hn ho
  have hle := hr.le
  obtain ⟨b, o, Ai, mi, ci, e1, _, p0, p1, _, hI⟩ := hr.at_ hi
  obtain ⟨b', o', Ak, mk, ck, e2, _, q0, q1, _, hK⟩ := hr.at_ hk
  injection e1 with e1; injection e1 with e1 e1'; subst e1 e1'
  injection e2 with e2; injection e2 with e2 e2'; subst e2 e2'
  rw [Nat.zero_add] at p0 p1 q0 q1
  have si := hs.at_ (i := i) (by omega)
  have sk := hs.at_ (i := k) (by omega)
  change w.cell? _ = some (.int .i64 (gTk ts i).1) at p0
  change w.cell? _ = some (.int .i64 (gTk ts k).1) at q0
  change RdI w w.heap.size Ai mi (gTk ts i).2 at hI
  change RdI w w.heap.size Ak mk (gTk ts k).2 at hK
  have li : mi ≤ 1000 := by have := hI.len; omega
  have lk : mk ≤ 1000 := by have := hK.len; omega
  have HI := qh (show RdI w.drew w.heap.size Ai mi (gTk ts i).2 from hI)
  have HK := qh (show RdI w.drew w.heap.size Ak mk (gTk ts k).2 from hK)
  have i3 : 0 ≤ (i : Int) * 2 := by omega
  have k3 : 0 ≤ (k : Int) * 2 := by omega
  have SI := qh si.2
  have SK := qh sk.2
  have i0 : (0 : Int) ≤ (i : Int) := by omega
  have i1 : (i : Int) < (n : Int) := by omega
  have k0 : (0 : Int) ≤ (k : Int) := by omega
  have k1 : (k : Int) < (n : Int) := by omega
  have hcb := qh (comp_bef (gTk ts i) (gTk ts k))
  have he1 : ((gTk ts i).1, (gTk ts i).2) = gTk ts i := rfl
  have he2 : ((gTk ts k).1, (gTk ts k).2) = gTk ts k := rfl
  clear hn ho hr hs hI hK si sk hi hk hl he1 he2
  generalize gTk ts i = ti at *
  generalize gTk ts k = tk at *
  go_enter Tryz.func180, Tryz.ntmps180
  go_wp2_with fail
  go_still_tail 8, (by kernel_rfl)
  change wpList _ _ _ _ _ w.drew
  go_wp2_with (go_at_call 182; refine (compare_any Ai Ak mi ci mk ck ti.1 tk.1 ti.2 tk.2 _ HI.out HK.out li lk SI.out SK.out).mono ?_; rintro e w' ⟨rfl, hb⟩; have HB := qh hb; clear hb)
  go_ret
  exact ⟨ret_bool hcb.out, (Below.refl _ w).drew.trans HB.out⟩
end Go.Proofs.YtjjnbbkdjimcoaaGreat
