/- Several texts in one. -/
import Derived.Test.YtlcgbnmmbheleaaGreatV14
import Derived.Deep.DrawnRows
import Derived.Deep.RegionLaw
import Derived.Deep.RegionWith
import Derived.Outline
namespace Go.Proofs.YtlcgbnmmbheleaaGreat
open Go.RowKit

set_option maxRecDepth 100000 in
set_option maxHeartbeats 400000 in
theorem l2All_own (A : Option Addr) (n c : Nat) (bs : List (List Tk)) (w : World) (h : RdB w w.heap.size A n bs) (hz : bs.flatten.length ≤ 1048576) :
    Calls Tryz.prog 27 #[.slice A n c] w fun e w' => ∃ A m c vs, e = .returned (.slice A m c) ∧ m ≤ 1048576 ∧ w'.ownsRow w.heap.size 40 2 (.slice A m c) m vs ∧ TkCells w' w.heap.size vs bs.flatten ∧ bs.flatten.length = m ∧ Below w.heap.size w w' := by
  obtain ⟨i0, hi0, hz0, hz1, hz2⟩ := info_parts task_info
  have hl := qh h.len
  have hn := h.le
  go_enter Tryz.func27, Tryz.ntmps27
  go_wp2
  go_loopw [3, 4] (fun v i wr => ∃ k : Nat, i = .int .i64 k ∧ k ≤ n ∧ Below w.heap.size w wr ∧ ∃ A c vs, v = .slice A (bs.take k).flatten.length c ∧ wr.ownsRow w.heap.size 40 2 v (bs.take k).flatten.length vs ∧ TkCells wr w.heap.size vs (bs.take k).flatten) (fun _ i _ => n - (intOf i).toNat)
  case atStart => exact ⟨0, rfl, Nat.zero_le _, (Below.refl _ _).alloc (Nat.le_refl _) _, _, _, [], rfl, World.ownsRow_made w #[] 0 (Nat.le_refl _) (by unfold maxLen; omega) rfl, TkCells.nil⟩
  case round =>
    obtain ⟨k, rfl, hk, hbel, A0, c0, vs, rfl, hown, htk⟩ := hrel
    by_cases hlt : k < n
    · obtain ⟨b1, o1, A2, m2, c2, rfl, lb1, hc1, _, hr2⟩ := (h.below hbel).at_ hlt
      obtain ⟨news, hsrc, htn⟩ := hr2.src
      have lz := hbel.size
      have H := qh h
      have Hr2 := qh hr2
      have e1 := flat_take_succ (bs := bs) (k := k) (by have := hl.out; omega)
      have e2 : m2 = (bs[k]?.getD []).length := hr2.len.symm
      have e3 := flat_take_le (bs := bs) (k + 1)
      have e4 : (bs.take k).flatten.length + m2 ≤ 1048576 := by rw [e1, List.length_append, ← e2] at e3; omega
      have E1 := qh e1
      have E2 := qh e2
      clear h hr2 e1 e2 e3
      go_wp2_with (at_builtin; go_loud (refine wpList_append_src _ rfl _ _ 30 rfl w.heap.size 40 i0 _ 2 32 Tryz.underlying30 hi0 hz0 hz1 hz2 rfl (by omega) (.slice A0 _ c0) _ vs rfl hown A2 m2 c2 news rfl hsrc htn.one (by unfold maxLen; omega) (by omega) lz ?_); intro v' w1 hown1 hgrow hat)
      have hb' : Below w.heap.size w w1 := hbel.grown hgrow lz (fun j e => (hown.lt j e).1)
      have ht' := (htk.append htn).below ((Below.refl w.heap.size wr).grown hgrow lz (fun j e => (hown.lt j e).1))
      obtain ⟨A1, c1, rfl⟩ := own_shape hown1
      have Hown := qh hown1
      have Ht := qh ht'
      clear hown hown1 ht' htk htn hsrc
      go_roundw
      case rel => exact ⟨k + 1, by go_num, by omega, hb', A1, c1, _, by rw [E1.out, List.length_append, ← E2.out], by rw [E1.out, List.length_append, ← E2.out]; exact Hown.out, by rw [E1.out]; exact Ht.out⟩
      case measure => simp [intOf]; omega
    · have ek : k = n := by omega
      have e0 : bs.take k = bs := List.take_of_length_le (by have := hl.out; omega)
      rw [e0] at hown htk
      have Hown := qh hown
      have Ht := qh htk
      have E0 := qh e0
      clear ek hown htk e0 h
      go_wp2
      go_ret
      exact ⟨A0, bs.flatten.length, c0, vs, congrArg (fun l => Ending.returned (.slice A0 (List.length (List.flatten l)) c0)) E0.out, hz, Hown.out, Ht.out, rfl, hbel⟩

section
variable {w w' : World} {base n c g : Nat} {A : Option Addr} {xs : List Int}
end
end Go.Proofs.YtlcgbnmmbheleaaGreat

namespace Go.Proofs.YtlcgbnmmbheleaaGreat
open Go Go.RowKit

inductive Mix where
  | nil
  | take (i : Nat) (r : Mix)
  | bar (i : Nat) (r : Mix)
  | fork (i : Nat) (r : Mix) (j : Nat) (s : Mix)

def lexMix (ops : Array Oper) : Mix → Nat → Array Bool → Bool
  | .nil, _, listed => (Region.ready .any ops listed).isEmpty
  | .take i r, f, listed => decide (0 < f) && ((Region.ready .any ops listed).contains i && Region.free .any ops listed i) && lexMix ops r (f - 1) (listed.setIfInBounds i true)
  | .bar i r, f, listed => decide (0 < f) && decide (Region.ready .any ops listed = [i]) && lexMix ops r (f - 1) (listed.setIfInBounds i true)
  | .fork i r j s, f, listed => decide (0 < f) && decide (Region.ready .any ops listed = [i, j]) && (lexMix ops r (f - 1) (listed.setIfInBounds i true) && lexMix ops s (f - 1) (listed.setIfInBounds j true))
def mixOk (ops : Array Oper) (ord : Mix) : Bool := Region.noSelect ops && lexMix ops ord ops.size (Array.replicate ops.size false)

section
variable {P : Program} {ops : Array Oper} {Q : Exit → Act → World → Prop} {S : World → Prop}

def wpMix (P : Program) (ops : Array Oper) (Q : Exit → Act → World → Prop) (S : World → Prop) : Mix → Act → World → Prop
  | .nil, a, w => Q .normal a w
  | .take i r, a, w => ∃ o v, ops[i]? = some o ∧ YieldsIf P ops S o v a ∧ wpMix P ops Q S r (a.put o.dst v) w
  | .bar i r, a, w => wpOp P ops Q i (fun a' w' => S w' ∧ wpMix P ops Q S r a' w') a w
  | .fork i r j s, a, w => wpOp P ops Q i (fun a' w' => S w' ∧ wpMix P ops Q S r a' w') a w ∧ wpOp P ops Q j (fun a' w' => S w' ∧ wpMix P ops Q S s a' w') a w

theorem wpAnyH_mix (hsel : Region.noSelect ops = true) (hQ : ∀ c a a' w, Q (.panic c) a w → Q (.panic c) a' w) : ∀ (ord : Mix) (f : Nat) (listed : Array Bool) (a : Act) (w : World),
    lexMix ops ord f listed = true → S w → wpMix P ops Q S ord a w → wpAnyH P .any ops Q S f listed a w
  | .nil, f, _, _, _, hB, _, h => wpAnyH_done (by simpa [lexMix] using hB) h f
  | .take i r, f, listed, a, w, hB, hS, h => by
    simp only [lexMix, Bool.and_eq_true, decide_eq_true_eq] at hB
    obtain ⟨f, rfl⟩ : ∃ g, f = g + 1 := ⟨f - 1, by omega⟩
    obtain ⟨o, v, h0, hy, hK⟩ := h
    exact wpAnyH_take h0 hsel hB.1.2.2 hB.1.2.1 (fun c a' w' hq => hQ c _ _ w' hq) hy hS (wpAnyH_mix hsel hQ r _ _ _ w hB.2 hS hK)
  | .bar i r, f, listed, a, w, hB, hS, h => by
    simp only [lexMix, Bool.and_eq_true, decide_eq_true_eq] at hB
    obtain ⟨f, rfl⟩ : ∃ g, f = g + 1 := ⟨f - 1, by omega⟩
    refine wpAnyH_all (rs := [i]) hB.1.2 (by simp) (fun j hj => ?_)
    have : j = i := by simpa using hj
    subst this
    exact wpOp_mono (fun a' w' hh => ⟨hh.1, wpAnyH_mix hsel hQ r _ _ a' w' hB.2 hh.1 hh.2⟩) h
  | .fork i r j s, f, listed, a, w, hB, hS, h => by
    simp only [lexMix, Bool.and_eq_true, decide_eq_true_eq] at hB
    obtain ⟨f, rfl⟩ : ∃ g, f = g + 1 := ⟨f - 1, by omega⟩
    refine wpAnyH_all (rs := [i, j]) hB.1.2 (by simp) (fun k hk => ?_)
    rcases List.mem_cons.1 hk with rfl | hk
    · exact wpOp_mono (fun a' w' hh => ⟨hh.1, wpAnyH_mix hsel hQ r _ _ a' w' hB.2.1 hh.1 hh.2⟩) h.1
    · have : k = j := by simpa using hk
      subst this
      exact wpOp_mono (fun a' w' hh => ⟨hh.1, wpAnyH_mix hsel hQ s _ _ a' w' hB.2.2 hh.1 hh.2⟩) h.2

theorem wp_region_mix {id : Nat} {Q' : Exit → Act → World → Prop} {a : Act} {w : World} {l : List Oper} (ord : Mix) (S : World → Prop) (hm : P.follows .mixedOrders = true) (hB : mixOk l.toArray ord = true) (hS : S w.drew)
    (h : S w.drew → wpMix P l.toArray (NoPanic Q') S ord a w.drew) : (Code.region id l.toArray true).wp P Q' a w := by
  simp only [mixOk, Bool.and_eq_true] at hB
  exact wp_region_noPanic (wp_region_held_drew hm hS (fun hS => wpAnyH_mix (Q := NoPanic Q') (S := S) hB.1 (fun c a a' w hq => (hq : False).elim) ord _ (Array.replicate l.toArray.size false) a w.drew hB.2 hS (h hS)))

theorem mix_at {i : Nat} {o : Oper} {tl : List Oper} (h : ops.toList.drop i = o :: tl) : ops[i]? = some o := by
  rw [← Array.getElem?_toList, ← Nat.add_zero i, ← List.getElem?_drop, h]; rfl

theorem mxT {i : Nat} {o : Oper} {tl : List Oper} {r : Mix} {a : Act} {w : World} {v : Value} (ho : ops.toList.drop i = o :: tl) (hw : Region.wanted o (yielded ops a.tmps) = true) (hy : ∀ w', S w' → (execOp a.eval o).run P w' = .ok (.value v) w')
    (h : wpMix P ops Q S r (a.put o.dst v) w) : wpMix P ops Q S (.take i r) a w := ⟨o, v, mix_at ho, .inl ⟨hw, hy⟩, h⟩
theorem mxS {i : Nat} {o : Oper} {tl : List Oper} {r : Mix} {a : Act} {w : World} (ho : ops.toList.drop i = o :: tl) (hw : Region.wanted o (yielded ops a.tmps) = false)
    (h : wpMix P ops Q S r (a.put o.dst undef) w) : wpMix P ops Q S (.take i r) a w := ⟨o, undef, mix_at ho, .inr ⟨hw, rfl⟩, h⟩
theorem mxB {i : Nat} {o : Oper} {tl : List Oper} {r : Mix} {a : Act} {w : World} (ho : ops.toList.drop i = o :: tl)
    (h : ∀ K : Act → World → Prop, Shut (∀ a w, S w → (S w → wpMix P ops Q S r a w) → K a w) → if Region.wanted o (yielded ops a.tmps) = true then Oper.wp P o a w K Q else K (a.put o.dst undef) w) : wpMix P ops Q S (.bar i r) a w :=
  wpOp_step (mix_at ho) (fun K' hK => h K' (fun a w hS hW => hK a w ⟨hS, hW hS⟩))
theorem wpMix_fork {i j : Nat} {o o' : Oper} {tl tl' : List Oper} {r s : Mix} {a : Act} {w : World} (ho : ops.toList.drop i = o :: tl) (ho' : ops.toList.drop j = o' :: tl')
    (h : ∀ K : Act → World → Prop, Shut (∀ a w, S w → (S w → wpMix P ops Q S r a w) → K a w) → if Region.wanted o (yielded ops a.tmps) = true then Oper.wp P o a w K Q else K (a.put o.dst undef) w)
    (h' : ∀ K : Act → World → Prop, Shut (∀ a w, S w → (S w → wpMix P ops Q S s a w) → K a w) → if Region.wanted o' (yielded ops a.tmps) = true then Oper.wp P o' a w K Q else K (a.put o'.dst undef) w) : wpMix P ops Q S (.fork i r j s) a w :=
  ⟨wpOp_step (mix_at ho) (fun K' hK => h K' (fun a w hS hW => hK a w ⟨hS, hW hS⟩)), wpOp_step (mix_at ho') (fun K' hK => h' K' (fun a w hS hW => hK a w ⟨hS, hW hS⟩))⟩
theorem wpMix_nil {Q' : Exit → Act → World → Prop} {a : Act} {w : World} (h : Q' .normal a w) : wpMix P ops (NoPanic Q') S .nil a w := h
end
end Go.Proofs.YtlcgbnmmbheleaaGreat

namespace Go.Proofs.YtlcgbnmmbheleaaGreat
open Go.RowKit
attribute [local go_sem ↓] Go.wp_at_zero Go.wp_at_succ

theorem TkCells.single {w : World} {B : Nat} {A : Option Addr} {n c : Nat} {id : Int} {xs : List Int} (h : RdI w B A n xs) (hc : n ≤ c) : TkCells w B [.int .i64 id, .slice A n c] [(id, xs)] :=
  ⟨rfl, fun j hj => by obtain rfl : j = 0 := by simp at hj; omega
                       exact ⟨A, n, c, rfl, rfl, hc, h⟩⟩
theorem box_keep (w : World) (v0 v1 : Value) {w' : World} (hb : Below (w.heap.size + 1) (w.alloc (.cells #[v0, v1] 40)) w') : w'.cell? ⟨w.heap.size, 0, none⟩ = some v0 ∧ w'.cell? ⟨w.heap.size, 1, none⟩ = some v1 := by
  constructor
  · rw [hb.cell (by simp)]; exact (Blk.new w _ _).cell 0
  · rw [hb.cell (by simp)]; exact (Blk.new w _ _).cell 1


set_option maxRecDepth 100000 in
set_option maxHeartbeats 1600000 in
theorem hasRoom_any (A1 A2 A3 : Option Addr) (n1 c1 n2 c2 c3 : Nat) (room : List Int) (ts : List Tk) (id : Int) (xs : List Int) (w : World) (h1 : RdI w w.heap.size A1 n1 room) (h2 : RdT w w.heap.size A2 n2 ts) (h3 : RdI w w.heap.size A3 3 xs)
    (hn1 : 3 ≤ n1) (hn2 : n2 ≤ 900) (hl : ∀ j, j < n2 → (ts[j]?.getD (0, [])).2.length = 3) (hb : ∀ j i : Nat, 0 ≤ (ts[j]?.getD (0, [])).2[i]?.getD 0 ∧ (ts[j]?.getD (0, [])).2[i]?.getD 0 ≤ 1000)
    (hx : ∀ j, j < 3 → -1000000 ≤ xs[j]?.getD 0 ∧ xs[j]?.getD 0 ≤ 1000000) :
    Calls Tryz.prog 104 #[.slice A1 n1 c1, .slice A2 n2 c2, .agg #[.int .i64 id, .slice A3 3 c3]] w fun e w' => e = .returned (.bool (fits3 (add3 (loadP ts) xs) room)) ∧ Below w.heap.size w w' := by
  have HL := qh (show ∀ i, i < 3 → -1000000 ≤ (loadP ts)[i]?.getD 0 ∧ (loadP ts)[i]?.getD 0 ≤ 1000000 from fun i hi => by
    have := loadP_bd hb (k := ts.length) (Nat.le_refl _) i hi
    rw [List.take_length] at this
    have := h2.len
    omega)
  have H1 := qh h1
  have H2 := qh h2
  have H3 := qh h3
  have Hl := qh hl
  have Hb := qh hb
  have Hx := qh hx
  clear h1 h2 h3 hl hb hx
  have B0 := qh (new_up w (.cells #[.int .i64 id, .slice A3 3 c3] 40))
  have hk := qh (fun w' => box_keep w (.int .i64 id) (.slice A3 3 c3) (w' := w'))
  have sz : (w.alloc (.cells #[.int .i64 id, .slice A3 3 c3] 40)).heap.size = w.heap.size + 1 := World.size_alloc _ _
  go_enter Tryz.func104, Tryz.ntmps104
  go_wp2_with fail
  generalize hW : w.alloc (.cells #[.int .i64 id, .slice A3 3 c3] 40) = W at hk B0 sz ⊢
  rw [← sz] at hk
  have K0 := (hk.out W.drew (Below.refl _ _).drew).2
  clear hW sz
  refine wp_region_mix (.take 0 (.take 2 (.take 3 (.take 5 (.bar 1 (.bar 4 (.bar 6 (.take 7 .nil)))))))) (fun w' => w'.cell? ⟨w.heap.size, 1, none⟩ = some (.slice A3 3 c3)) (by kernel_rfl) (by kernel_rfl) K0 (fun _ => ?_)
  clear K0
  repeat ((first | refine mxS (by rfl) (by rfl) ?_ | (refine mxT (v := ?_) (by rfl) (by rfl) (fun z y => ?_) ?_; rotate_left; (focus ((try dsimp only at y); (go_simp <;> with_reducible rfl); done)))); (try simp only [Act.put,pS,pZ,pC]))
  (refine mxB (by rfl) (fun K hK => ?_); go_simp)
  refine (loadOf_any A2 n2 c2 ts W.drew (H2.out.up B0.out.drew) hn2 Hl.out Hb.out).mono ?_; rintro e w1 ⟨A4, c4, rfl, hr1, hb1⟩
  have HQ1 := qh (show Below W.heap.size W w1 from below_to (Below.refl _ _).drew hb1)
  have HB1 := qh (below_to B0.out.drew hb1)
  have HR1 := qh hr1
  clear hb1 hr1
  ((try dsimp only); refine nxK hK _ _ ((hk.out w1 HQ1.out).2) ?_; clear hK K; (try simp only [Act.put,pS,pZ,pC]))
  (refine mxB (by rfl) (fun K hK => ?_); go_simp)
  refine (plus_any A4 A3 3 c4 3 c3 _ _ w1 HR1.out (H3.out.up HB1.out) (Nat.le_refl _) (Nat.le_refl _) HL.out Hx.out).mono ?_; rintro e w2 ⟨A5, c5, rfl, hr2, hb2⟩
  have HQ2 := qh (below_to HQ1.out hb2)
  have HB2 := qh (below_to HB1.out hb2)
  have HR2 := qh hr2
  clear hb2 hr2
  ((try dsimp only); refine nxK hK _ _ ((hk.out w2 HQ2.out).2) ?_; clear hK K; (try simp only [Act.put,pS,pZ,pC]))
  (refine mxB (by rfl) (fun K hK => ?_); go_simp)
  refine (fits_any A5 A1 c5 n1 c1 _ _ _ _ w2 HR2.out (H1.out.below HB2.out) hn1).mono ?_; rintro e w3 ⟨rfl, rfl⟩
  ((try dsimp only); refine nxK hK _ _ ((hk.out _ HQ2.out).2) ?_; clear hK K; (try simp only [Act.put,pS,pZ,pC]))
  repeat ((first | refine mxS (by rfl) (by rfl) ?_ | (refine mxT (v := ?_) (by rfl) (by rfl) (fun z y => ?_) ?_; rotate_left; (focus ((try dsimp only at y); (go_simp <;> with_reducible rfl); done)))); (try simp only [Act.put,pS,pZ,pC]))
  refine wpMix_nil ?_
  go_wp2
  go_ret
  exact ⟨rfl, HB2.out⟩

theorem RdB.one {w : World} {g m c : Nat} {t : TypeId} {A : Option Addr} {ts : List Tk} (h : Blk w g t #[.slice A m c]) (hc : m ≤ c) (hr : RdT w w.heap.size A m ts) : RdB w w.heap.size (some ⟨g, 0, none⟩) 1 [ts] :=
  ⟨rfl, by omega, fun _ => ⟨g, 0, rfl, h.lt, fun j hj => by
    obtain rfl : j = 0 := by omega
    exact ⟨A, m, c, h.cell 0, hc, hr⟩⟩⟩

end Go.Proofs.YtlcgbnmmbheleaaGreat
