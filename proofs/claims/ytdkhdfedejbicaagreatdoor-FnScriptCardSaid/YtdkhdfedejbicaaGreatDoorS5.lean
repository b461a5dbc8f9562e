/- Several texts in one. -/
import Derived.Test.YtdkhdfedejbicaaGreatDoorScAnswer
namespace Go.Proofs.YtdkhdfedejbicaaGreatDoor
set_option linter.unusedSimpArgs false
set_option linter.unusedVariables false
open Go Go.RowKit
attribute [local go_sem ↓] Go.wp_at_zero Go.wp_at_succ

abbrev cells4 : Array Value := #[.bool false, .slice none 0 0, .bool false, .slice none 0 0, .bool false, .slice none 0 0, .bool false, .slice none 0 0]
theorem un4 (w : World) (base : Nat) : UnT w base 4 cells4.toList us4 := ⟨rfl, rfl, fun j hj => by
  have e : ∃ A m c, cells4.toList[j * 2]? = some (.bool (us4[j]?.getD (false, [])).1) ∧ cells4.toList[j * 2 + 1]? = some (.slice A m c) ∧ (A = none ∧ m = 0 ∧ c = 0) ∧ (us4[j]?.getD (false, [])).2 = [] := by
    match j, hj with
    | 0, _ => exact ⟨none, 0, 0, rfl, rfl, ⟨rfl, rfl, rfl⟩, rfl⟩
    | 1, _ => exact ⟨none, 0, 0, rfl, rfl, ⟨rfl, rfl, rfl⟩, rfl⟩
    | 2, _ => exact ⟨none, 0, 0, rfl, rfl, ⟨rfl, rfl, rfl⟩, rfl⟩
    | 3, _ => exact ⟨none, 0, 0, rfl, rfl, ⟨rfl, rfl, rfl⟩, rfl⟩
  obtain ⟨A, m, c, h1, h2, ⟨rfl, rfl, rfl⟩, h3⟩ := e
  exact ⟨none, 0, 0, [], h1, h2, ⟨rfl, .inl ⟨rfl, rfl⟩⟩, by rw [h3]; exact ⟨rfl, rfl, fun i hi => by omega⟩⟩⟩
theorem own4 (w : World) (base : Nat) (hb : base ≤ w.heap.size) : (w.alloc (.cells cells4 83)).ownsRow base 83 2 (.slice (some ⟨w.heap.size, 0, none⟩) 4 4) 4 cells4.toList :=
  ⟨rfl, .inr ⟨w.heap.size, 4, cells4, rfl, hb, heap_alloc_new w _, Nat.le_refl _, by unfold maxLen; omega, rfl, rfl⟩⟩

set_option maxRecDepth 100000 in
set_option maxHeartbeats 3200000 in
theorem clusterNew4_any (A : Option Addr) (c : Nat) (w : World) (h : RdI w w.heap.size A 3 [10, 10, 10]) :
    Calls Tryz.prog 21 #[.slice A 3 c, .int .i64 4] w fun e w' => ∃ A6 c6 A7, e = .returned (.tuple #[.agg #[.slice A6 3 c6, .slice A7 4 4], .bool true]) ∧ (∃ base, OwnCW w' base (.slice A6 3 c6) (.slice A7 4 4) 3 4 [10, 10, 10] us4) ∧ Below w.heap.size w w' := by
  have hmk : ∀ w, (Instr.makeSlice 33 (.int .i64 4) (.int .i64 4)).run Tryz.prog w = .ok (.slice (some ⟨w.heap.size, 0, none⟩) 4 4) (w.alloc (.cells cells4 83)) := fun _ => by kernel_rfl
  unfold cells4 at hmk
  have B1 := qh (alloc_up w (.cells #[.slice none 0 0, .slice none 0 0] 35))
  have Q1 := qh (Blk.new w 35 #[.slice none 0 0, .slice none 0 0])
  have H := qh (h.up B1.out)
  clear h
  have hro : roomOk [10, 10, 10] = true := by decide
  go_enter Tryz.func21, Tryz.ntmps21
  go_wp2_with fail
  generalize hgx : w.heap.size = gx at Q1 ⊢
  generalize w.alloc (.cells #[.slice none 0 0, .slice none 0 0] 35) = w1 at B1 Q1 H ⊢
  have lgx := Q1.out.lt
  refine (roomValid_any A 3 c w1.heap.size [10, 10, 10] w1 H.out).mono ?_; rintro e w9 ⟨rfl, hw9⟩
  rw [← hw9, hro]
  clear hw9 hro w9
  go_wp2_with fail
  refine (within_any 4 1 10 w1).mono ?_; rintro e w9 ⟨rfl, hw9⟩
  rw [← hw9]
  clear hw9 w9
  go_wp2_with fail
  refine wp_region_mix (.take 0 (.take 2 (.fork 1 (.bar 3 (.take 4 (.bar 5 (.take 6 .nil)))) 3 (.bar 1 (.take 4 (.bar 5 (.take 6 .nil))))))) (fun _ => True) (by kernel_rfl) (by kernel_rfl) trivial (fun _ => ?_)
  have Q2 := qh Q1.out.drew
  have B2 := qh B1.out.drew
  have H2 := qh (show RdI w1.drew w1.drew.heap.size A 3 [10, 10, 10] from H.out)
  clear B1 Q1 H lgx
  generalize w1.drew = u2 at B2 Q2 H2 ⊢
  have lgx := Q2.out.lt
  (refine mxT (v := ?_) (by rfl) (by rfl) (fun z y => ?_) ?_; rotate_left; (focus ((try dsimp only at y); (go_simp <;> with_reducible rfl); done)); (try simp only [Act.put,pS,pZ,pC]))
  (refine mxT (v := ?_) (by rfl) (by rfl) (fun z y => ?_) ?_; rotate_left; (focus ((try dsimp only at y); (go_simp <;> with_reducible rfl); done)); (try simp only [Act.put,pS,pZ,pC]))
  refine wpMix_fork (by rfl) (by rfl) (fun K hK => ?_) (fun K hK => ?_)
  · go_simp
    refine (clone_any A 3 c [10, 10, 10] u2 H2.out (by omega)).mono ?_; rintro e u3 ⟨A6, c6, rfl, hO, hb⟩
    have B3 := qh (B2.out.trans (hb.mono (by omega)))
    have Q3 := qh (Q2.out.below hb lgx)
    have lz3 := hb.size
    ((try dsimp only); refine nxK hK _ _ (trivial) ?_; clear hK K; (try simp only [Act.put,pS,pZ,pC]))
    (refine mxB (by rfl) (fun K hK => ?_); go_simp)
    have O4 := qh (own_alloc hO (.cells cells4 83))
    have N4 := qh (own4 u3 gx (by omega))
    have B4 := qh (B3.out.alloc (by omega) (.cells cells4 83))
    have Q4 := qh (Q3.out.alloc (.cells cells4 83))
    clear B2 Q2 H2 hO hb B3 Q3
    unfold cells4 at N4 O4 B4 Q4
    generalize u3.heap.size = gn at N4 ⊢
    generalize u3.alloc _ = u4 at O4 N4 B4 Q4 ⊢
    ((try dsimp only); refine nxK hK _ _ (trivial) ?_; clear hK K; (try simp only [Act.put,pS,pZ,pC]))
    have y0 := Q4.out.cell 0
    have y1 := Q4.out.cell 1
    simp only [gT, gZ, gS] at y0 y1
    have f0 := Q4.out.frozen 0
    have f1 := Q4.out.frozen 1
    (refine mxT (v := ?_) (by rfl) (by rfl) (fun z y => ?_) ?_; rotate_left; (focus ((try dsimp only at y); (go_simp <;> with_reducible rfl); done)); (try simp only [Act.put,pS,pZ,pC]))
    (refine mxB (by rfl) (fun K hK => ?_); go_simp)
    clear y0 y1 f0 f1
    have QF := qh ((Q4.out.set_ 0 (.slice A6 3 c6)).set_ 1 (.slice (some ⟨gn, 0, none⟩) 4 4))
    have KT := KeepTU.trans (KeepTU.set_ Q4.out (by decide) (by decide) (by decide) 0 (.slice A6 3 c6)) (KeepTU.set_ (Q4.out.set_ 0 (.slice A6 3 c6)) (by decide) (by decide) (by decide) 1 (.slice (some ⟨gn, 0, none⟩) 4 4))
    have CF := qh (OwnCW.keepTU (show OwnCW u4 gx (.slice A6 3 c6) (.slice (some ⟨gn, 0, none⟩) 4 4) 3 4 [10, 10, 10] us4 from ⟨own_lo O4.out (by omega), _, N4.out, un4 u4 gx⟩) KT)
    have BF := qh ((B4.out.setCell (p := ⟨gx, 0, none⟩) (by show w.heap.size ≤ gx; omega) (.slice A6 3 c6)).setCell (p := ⟨gx, 1, none⟩) (by show w.heap.size ≤ gx; omega) (.slice (some ⟨gn, 0, none⟩) 4 4))
    clear KT
    generalize (u4.setCell ⟨gx, 0, none⟩ (.slice A6 3 c6)).setCell ⟨gx, 1, none⟩ (.slice (some ⟨gn, 0, none⟩) 4 4) = uf at QF CF BF ⊢
    ((try dsimp only); refine nxK hK _ _ (trivial) ?_; clear hK K; (try simp only [Act.put,pS,pZ,pC]))
    (refine mxT (v := ?_) (by rfl) (by rfl) (fun z y => ?_) ?_; rotate_left; (focus ((try dsimp only at y); (go_simp <;> with_reducible rfl); done)); (try simp only [Act.put,pS,pZ,pC]))
    refine wpMix_nil ?_
    have z0 := QF.out.cell 0
    have z1 := QF.out.cell 1
    simp only [Array.getElem?_setIfInBounds] at z0 z1
    go_wp2_with fail
    refine bodyPost_ret (v := .tuple #[.agg #[.slice A6 3 c6, .slice (some ⟨gn, 0, none⟩) 4 4], .bool true]) (by simp [results, Tryz.results21, go_sem, z0, z1]) rfl ⟨A6, c6, _, rfl, ⟨gx, CF.out⟩, by first | exact BF.out | (rw [← hgx]; exact BF.out)⟩
  · go_simp
    have B3 := qh (B2.out.alloc (by omega) (.cells cells4 83))
    have Q3 := qh (Q2.out.alloc (.cells cells4 83))
    have N3 := qh (own4 u2 gx (by omega))
    have H3 := qh (H2.out.up (alloc_up u2 (.cells cells4 83)))
    have sz : (u2.alloc (.cells cells4 83)).heap.size = u2.heap.size + 1 := by simp
    unfold cells4 at N3 B3 Q3 H3 sz
    clear B2 Q2 H2
    generalize u2.heap.size = gn at N3 lgx sz ⊢
    generalize u2.alloc _ = u3 at N3 B3 Q3 H3 sz ⊢
    ((try dsimp only); refine nxK hK _ _ (trivial) ?_; clear hK K; (try simp only [Act.put,pS,pZ,pC]))
    refine mxB (by rfl) (fun K hK => ?_)
    go_simp
    refine (clone_any A 3 c [10, 10, 10] u3 H3.out (by omega)).mono ?_; rintro e u4 ⟨A6, c6, rfl, hO, hb⟩
    have O4 := qh hO
    have N4 := qh (own_keep N3.out (fun b hb' => hb.block b (N3.out.lt b hb').2))
    have B4 := qh (B3.out.trans (hb.mono (by omega)))
    have Q4 := qh (Q3.out.below hb Q3.out.lt)
    clear hO hb B3 Q3 N3 H3
    ((try dsimp only); refine nxK hK _ _ (trivial) ?_; clear hK K; (try simp only [Act.put,pS,pZ,pC]))
    have y0 := Q4.out.cell 0
    have y1 := Q4.out.cell 1
    simp only [gT, gZ, gS] at y0 y1
    have f0 := Q4.out.frozen 0
    have f1 := Q4.out.frozen 1
    (refine mxT (v := ?_) (by rfl) (by rfl) (fun z y => ?_) ?_; rotate_left; (focus ((try dsimp only at y); (go_simp <;> with_reducible rfl); done)); (try simp only [Act.put,pS,pZ,pC]))
    (refine mxB (by rfl) (fun K hK => ?_); go_simp)
    clear y0 y1 f0 f1
    have QF := qh ((Q4.out.set_ 0 (.slice A6 3 c6)).set_ 1 (.slice (some ⟨gn, 0, none⟩) 4 4))
    have KT := KeepTU.trans (KeepTU.set_ Q4.out (by decide) (by decide) (by decide) 0 (.slice A6 3 c6)) (KeepTU.set_ (Q4.out.set_ 0 (.slice A6 3 c6)) (by decide) (by decide) (by decide) 1 (.slice (some ⟨gn, 0, none⟩) 4 4))
    have CF := qh (OwnCW.keepTU (show OwnCW u4 gx (.slice A6 3 c6) (.slice (some ⟨gn, 0, none⟩) 4 4) 3 4 [10, 10, 10] us4 from ⟨own_lo O4.out (by omega), _, N4.out, un4 u4 gx⟩) KT)
    have BF := qh ((B4.out.setCell (p := ⟨gx, 0, none⟩) (by show w.heap.size ≤ gx; omega) (.slice A6 3 c6)).setCell (p := ⟨gx, 1, none⟩) (by show w.heap.size ≤ gx; omega) (.slice (some ⟨gn, 0, none⟩) 4 4))
    clear KT
    generalize (u4.setCell ⟨gx, 0, none⟩ (.slice A6 3 c6)).setCell ⟨gx, 1, none⟩ (.slice (some ⟨gn, 0, none⟩) 4 4) = uf at QF CF BF ⊢
    ((try dsimp only); refine nxK hK _ _ (trivial) ?_; clear hK K; (try simp only [Act.put,pS,pZ,pC]))
    (refine mxT (v := ?_) (by rfl) (by rfl) (fun z y => ?_) ?_; rotate_left; (focus ((try dsimp only at y); (go_simp <;> with_reducible rfl); done)); (try simp only [Act.put,pS,pZ,pC]))
    refine wpMix_nil ?_
    have z0 := QF.out.cell 0
    have z1 := QF.out.cell 1
    simp only [Array.getElem?_setIfInBounds] at z0 z1
    go_wp2_with fail
    refine bodyPost_ret (v := .tuple #[.agg #[.slice A6 3 c6, .slice (some ⟨gn, 0, none⟩) 4 4], .bool true]) (by simp [results, Tryz.results21, go_sem, z0, z1]) rfl ⟨A6, c6, _, rfl, ⟨gx, CF.out⟩, by first | exact BF.out | (rw [← hgx]; exact BF.out)⟩
end Go.Proofs.YtdkhdfedejbicaaGreatDoor

namespace Go.Proofs.YtdkhdfedejbicaaGreatDoor
set_option linter.unusedSimpArgs false
set_option linter.unusedVariables false
open Go Go.RowKit
attribute [local go_sem ↓] Go.wp_at_zero Go.wp_at_succ

theorem IsB.blk {B b : Nat} {l : List UInt8} {w : World} (h : IsB B b l w) : ∃ p v, Blk w b 40 #[p, v] := by
  rcases h with ⟨_, v, h, _⟩ | ⟨_, v, h, _⟩
  · exact ⟨_, v, h⟩
  · exact ⟨_, v, h⟩
theorem blk_ne9 {w : World} {a b : Nat} {t t' : TypeId} {cs cs' : Array Value} (h : Blk w a t cs) (h' : Blk w b t' cs') (ht : t ≠ t') : a ≠ b := by
  rintro rfl
  unfold Blk at h h'
  rw [h] at h'
  injection h' with e
  injection e with _ e
  exact ht e
theorem Oth.tu {B gb : Nat} {l : List UInt8} {w w' : World} (h : Oth gb w w') (hI : IsB B gb l w) : KeepTU w w' := by
  obtain ⟨p, v, hp⟩ := hI.blk
  rintro b ⟨t, cs, ht, hb⟩
  have hne : b ≠ gb := blk_ne9 hb hp (by rcases ht with rfl | rfl | rfl <;> decide)
  exact (h.blk hb hne (by rcases ht with rfl | rfl | rfl <;> decide)).trans hb.symm
theorem ExW.oth {w u u' : World} {g gb B m5 c4 c5 : Nat} {A4 A5 : Option Addr} {us : List Un} {l : List UInt8} (h : ExW w u g A4 A5 m5 c4 c5 us) (hI : IsB B gb l u) (ho : Oth gb u u') (hb : Below B u u') (hB : w.heap.size ≤ B) : ExW w u' g A4 A5 m5 c4 c5 us := by
  obtain ⟨p, v, hp⟩ := hI.blk
  obtain ⟨base, hc⟩ := h.cw
  exact ⟨h.b.trans (hb.mono hB), ho.blk h.q (blk_ne9 h.q hp (by decide)) (by decide), ⟨base, hc.keepTU (ho.tu hI)⟩, h.lo⟩
theorem cut_mem_len (c : UInt8) : ∀ (l : Bs), ∀ x ∈ cutP c l, x.length ≤ l.length
  | [], x, h => by simp [cutP] at h; subst h; simp
  | y :: ys, x, h => by
    have ih := cut_mem_len c ys
    unfold cutP at h
    split at h
    · rcases List.mem_cons.1 h with rfl | h
      · simp
      · have := ih x h; simp; omega
    · split at h
      · simp at h; subst h; simp
      · rename_i w ws hw
        rw [hw] at ih
        rcases List.mem_cons.1 h with rfl | h
        · have := ih w (List.mem_cons_self ..); simp; omega
        · have := ih x (List.mem_cons_of_mem _ h); simp; omega

def ExE (w u : World) (g : Nat) (us : List Un) : Prop := ∃ A6 A7 m7 c6 c7, ExW w u g A6 A7 m7 c6 c7 us
def cntTo (cts : List Int) (k : Nat) : Bs := ((cts.take k).map (fun n => [32] ++ decD n)).flatten
theorem cntTo_succ {cts : List Int} {k : Nat} (h : k < cts.length) : cntTo cts (k + 1) = cntTo cts k ++ ([32] ++ decD (cts[k]?.getD 0)) := by
  unfold cntTo
  rw [List.take_add_one, List.getElem?_eq_getElem h, List.map_append, List.flatten_append]
  simp only [Option.toList_some, List.map_cons, List.map_nil, List.flatten_cons, List.flatten_nil, List.append_nil, Option.getD_some]

set_option maxRecDepth 100000 in
set_option maxHeartbeats 12800000 in
theorem executeI_any (s : ByteArray) (w : World) (m : Int) (hs : s.size ≤ 9223372036854775807) (hm : w.cell? ⟨0, 0, none⟩ = some (.int .i64 m)) (h0 : 0 < w.heap.size) :
    Calls Tryz.prog 13 #[.string s] w fun e w' => e = .returned (.string (bs (execP s.data.toList))) ∧ Below w.heap.size w w' := by
  have hsl := Lib.size_eq s
  generalize hl : s.data.toList = l at *
  have HL := qh hl
  clear hl
  by_cases h6 : 600 < l.length
  · have t1 : (600 : Int) < (s.size : Int) := by omega
    have Ex := qh (show execP l = tLong from by unfold execP; rw [if_pos h6])
    clear hsl h6 hm h0
    go_enter Tryz.func13, Tryz.ntmps13
    go_wp2
    refine bodyPost_ret (v := .string ⟨#[116, 111, 111, 32, 108, 111, 110, 103, 10]⟩) (by simp [results, Tryz.results13, go_sem]) rfl ⟨by rw [Ex.out]; rfl, Below.refl _ _⟩
  · have t1 : ¬ (600 : Int) < (s.size : Int) := by omega
    have Ex := qh (show execP l = (linesP (cutP 10 l).dropLast us4).2 ++ endT (linesP (cutP 10 l).dropLast us4).1 from by unfold execP; rw [if_neg h6])
    have Hm := qh hm
    clear hm
    have B1 := qh (alloc_up w (.cells #[.int .i64 10, .int .i64 10, .int .i64 10] 3))
    have R1 := qh (own_rdI (show (w.alloc (.cells #[.int .i64 10, .int .i64 10, .int .i64 10] 3)).ownsRow w.heap.size 3 1 (.slice (some ⟨w.heap.size, 0, none⟩) 3 3) 3 (([10, 10, 10] : List Int).map (Value.int .i64)) from ⟨rfl, .inr ⟨w.heap.size, 3, _, rfl, Nat.le_refl _, heap_alloc_new w _, Nat.le_refl _, by unfold maxLen; omega, rfl, rfl⟩⟩) (by omega))
    go_enter Tryz.func13, Tryz.ntmps13
    go_wp2_with fail
    generalize w.alloc (.cells #[.int .i64 10, .int .i64 10, .int .i64 10] 3) = w1 at B1 R1 ⊢
    refine (clusterNew4_any _ 3 w1 R1.out).mono ?_; rintro e w2 ⟨A4, c4, A5, rfl, ⟨base, hC⟩, hb⟩
    have B2 := qh (B1.out.trans (hb.mono B1.out.size))
    have C2 := qh hC
    have lz2 := B2.out.size
    clear hC hb B1 R1
    go_upto_region 5 with fail
    have E4 := qh (show ExW w ((w2.alloc (.cells #[.slice A4 3 c4, .slice A5 4 4] 35)).alloc (.cells #[.pointer none, .slice none 0 0] 40)) w2.heap.size A4 A5 4 c4 4 us4 from
      ⟨(B2.out.alloc lz2 _).alloc (by simp; omega) _, (Blk.new w2 _ _).alloc _, ⟨base, (C2.out.up (alloc_up _ _)).up (alloc_up _ _)⟩, lz2⟩)
    have hI := Lib.IsBuilderF.of (Lib.fresh_isBuilder 40 5 (w2.alloc (.cells #[.slice A4 3 c4, .slice A5 4 4] 35)))
    rw [show (w2.alloc (.cells #[.slice A4 3 c4, .slice A5 4 4] 35)).heap.size = w2.heap.size + 1 by simp] at hI
    have I4 := qh (show IsB (w2.heap.size + 1) (w2.heap.size + 1) [] _ from hI)
    clear hI B2 C2
    generalize w2.heap.size = g at E4 I4 lz2 ⊢
    generalize (w2.alloc (.cells #[.slice A4 3 c4, .slice A5 4 4] 35)).alloc (.cells #[.pointer none, .slice none 0 0] 40) = w4 at E4 I4 ⊢
    go_wp2_with fail
    have hsp := split_any 10 s m w4 (by omega) ((E4.out.b.cell (p := ⟨0, 0, none⟩) h0).trans Hm.out)
    rw [HL.out] at hsp
    refine hsp.mono ?_; rintro e y1 ⟨rfl, hy1⟩
    clear hsp
    rw [hy1]
    clear hy1 y1
    have E5 := qh (E4.out.up (alloc_up w4 (.cells ((cutP 10 l).map strV).toArray 9)))
    have I5 := qh (show IsB (g + 1) (g + 1) [] _ from Lib.IsBuilderF.alloc I4.out (.cells ((cutP 10 l).map strV).toArray 9))
    have L5 := qh (Blk.new w4 9 ((cutP 10 l).map strV).toArray)
    clear E4 I4
    generalize w4.heap.size = gl at L5 ⊢
    generalize w4.alloc (.cells ((cutP 10 l).map strV).toArray 9) = w5 at E5 I5 L5 ⊢
    have Cc := qh (show ∀ v, Blk v gl 9 ((cutP 10 l).map strV).toArray → ∀ j, j < (cutP 10 l).length → v.cell? ⟨gl, j, none⟩ = some (.string (bs ((cutP 10 l)[j]?.getD []))) from fun v hv j hj => by rw [hv.cell]; simp [hj, strV])
    have hcl := cut_len 10 l
    have hcc := List.count_le_length (a := (10 : UInt8)) (l := l)
    have Hml := qh (show ∀ j, ((cutP 10 l)[j]?.getD []).length ≤ 600 from fun j => by
      by_cases hj : j < (cutP 10 l).length
      · rw [List.getElem?_eq_getElem hj]
        have := cut_mem_len 10 l _ (List.getElem_mem hj)
        simp only [Option.getD_some]; omega
      · rw [List.getElem?_eq_none (by omega)]; simp)
    have Hdl := qh (show ∀ j, j < List.count 10 l → (cutP 10 l).dropLast.take (j + 1) = (cutP 10 l).dropLast.take j ++ [(cutP 10 l)[j]?.getD []] from fun j hj => by
      have h1 : j < (cutP 10 l).dropLast.length := by rw [List.length_dropLast]; omega
      rw [List.take_add_one, List.getElem?_eq_getElem h1, List.getElem_dropLast, List.getElem?_eq_getElem (by omega)]
      rfl)
    have Hda := qh (show (cutP 10 l).dropLast.take (List.count 10 l) = (cutP 10 l).dropLast from List.take_of_length_le (by rw [List.length_dropLast]; omega))
    rw [hcl] at Cc ⊢
    generalize List.count 10 l = k1 at *
    clear hcl h6
    have v0 : IntKind.i64.wrap (k1 : Int) = (k1 : Int) := wr64 (by omega) (by omega)
    have q0 : ¬ ((k1 : Int) + 1) < (k1 : Int) := by omega
    go_wp2_with fail
    go_loopw [27] (fun i wr => ∃ k : Nat, i = .int .i64 (k : Int) ∧ k ≤ k1 ∧ IsB (g + 1) (g + 1) (linesP ((cutP 10 l).dropLast.take k) us4).2 wr ∧ Blk wr gl 9 ((cutP 10 l).map strV).toArray ∧ ExE w wr g (linesP ((cutP 10 l).dropLast.take k) us4).1) (fun i _ => k1 - (intOf i).toNat)
    case atStart => exact ⟨0, rfl, Nat.zero_le _, I5.out, L5.out, ⟨_, _, _, _, _, E5.out⟩⟩
    case round =>
      clear E5 I5 L5
      obtain ⟨k, rfl, hk, hI, hL, ⟨A6, A7, m7, c6, c7, hE⟩⟩ := hrel
      obtain ⟨wo, rfl⟩ : ∃ wo, wo = wr := ⟨_, rfl⟩
      have HI := qh hI
      have HL' := qh hL
      have HE := qh hE
      have lz : g + 1 < wo.heap.size := by obtain ⟨p, v, hp⟩ := hI.blk; exact hp.lt
      have lo := hE.lo
      clear hI hL hE
      by_cases hlt : k < k1
      · have q1 : (0 : Int) ≤ (k : Int) := by omega
        have q2 : (k : Int) < (k1 : Int) := by omega
        have x0 := Cc.out wo HL'.out k (by omega)
        have Ea := linesP_snoc ((cutP 10 l).dropLast.take k) ((cutP 10 l)[k]?.getD []) us4
        rw [← Hdl.out k hlt] at Ea
        have hol := lines_len ((cutP 10 l).dropLast.take (k + 1))
        rw [Ea] at hol
        have hol2 : ((cutP 10 l).dropLast.take (k + 1)).length ≤ 601 := by rw [List.length_take]; omega
        have Hok := qh (lines_ok ((cutP 10 l).dropLast.take k) us4_ok)
        have hll := Hml.out k
        have Ea' := qh Ea
        clear Ea
        generalize (cutP 10 l)[k]?.getD [] = ln at *
        generalize (linesP ((cutP 10 l).dropLast.take k) us4).1 = us at *
        generalize (linesP ((cutP 10 l).dropLast.take k) us4).2 = out at *
        have han := answer_any w wo g A6 A7 m7 c6 c7 us (bs ln) m (by rw [bs_size]; omega) ((HE.out.b.cell (p := ⟨0, 0, none⟩) h0).trans Hm.out) (by omega) HE.out Hok.out
        rw [bs_list] at han
        have Han := qh han
        clear han
        generalize bs ln = sln at *
        go_wp2_with fail
        clear x0
        refine Han.out.mono ?_; rintro e u1 ⟨A8, A9, m9, c8, c9, rfl, hE1, hK⟩
        have I1 := qh (HI.out.keep (some g) (fun i hi hne => hK i hi (fun e => hne (by rw [e]))) (fun k' e cs t fz hc => by
          injection e with e
          subst e
          have hq := HE.out.q
          unfold Blk at hq
          rw [hq] at hc
          injection hc with hc
          injection hc with _ hc _
          subst hc
          exact ⟨by decide, by decide⟩))
        have L1 := qh (show Blk u1 gl 9 ((cutP 10 l).map strV).toArray from (hK gl HL'.out.lt (blk_ne9 HL'.out HE.out.q (by decide))).trans HL'.out)
        have E1 := qh hE1
        have lz1 : g + 1 < u1.heap.size := by obtain ⟨p, v, hp⟩ := I1.out.blk; exact hp.lt
        clear hE1 hK HI HL' HE Han
        have hal : (out ++ (lineP us ln).2).length ≤ 1100000 := by simp at hol ⊢; omega
        clear hol
        generalize hans : (lineP us ln).2 = ans at *
        go_wp2_with fail
        refine (writeString_k (g + 1) (g + 1) out (bs ans) u1 I1.out (by rw [bs_size]; simp at hal; omega) (by omega)).mono ?_; rintro e u2 ⟨rfl, hi2, hb2, ho2⟩
        rw [bs_list] at hi2
        have E2 := qh (E1.out.oth I1.out ho2 hb2 (by omega))
        have L2 := qh (show Blk u2 gl 9 ((cutP 10 l).map strV).toArray from by
          obtain ⟨p, v, hp⟩ := I1.out.blk
          exact ho2.blk L1.out (blk_ne9 L1.out hp (by decide)) (by decide))
        have I2 := qh hi2
        clear hi2 hb2 ho2 I1 L1 E1
        go_wp2_with fail
        go_roundw
        case measure => simp [intOf]; omega
        case rel =>
          refine ⟨k + 1, by go_num, by omega, ?_, L2.out, ?_⟩
          · rw [Ea'.out]; exact I2.out
          · rw [Ea'.out]; exact ⟨_, _, _, _, _, E2.out⟩
      · obtain rfl : k = k1 := by omega
        rw [Hda.out] at HI HE
        clear Cc Hml Hdl Hda hk hlt HL'
        have hol := lines_len (cutP 10 l).dropLast
        have hol2 : (cutP 10 l).dropLast.length ≤ 601 := by have := cut_len 10 l; rw [List.length_dropLast]; have := List.count_le_length (a := (10 : UInt8)) (l := l); have h9 : (l.length : Int) ≤ 600 := (by assumption); omega
        have hok := lines_ok (cutP 10 l).dropLast us4_ok
        obtain ⟨na, nb, nc, hcn, hna, hnb, hnc⟩ := counts_is hok
        have Hok := qh hok
        have Hcn := qh hcn
        have He := qh (show endT (linesP (cutP 10 l).dropLast us4).1 = tEnd ++ cntTo [na, nb, nc] 3 ++ [10] from by unfold endT cntTo; rw [hcn]; simp)
        clear hok hcn
        generalize (linesP (cutP 10 l).dropLast us4).1 = us at *
        generalize (linesP (cutP 10 l).dropLast us4).2 = out at *
        have hou : out.length ≤ 1090000 := by omega
        clear hol hol2
        go_wp2_with fail
        refine (writeString_k (g + 1) (g + 1) out (bs tEnd) wo HI.out (by rw [bs_size]; have : tEnd.length = 3 := rfl; omega) (by omega)).mono ?_; rintro e u2 ⟨rfl, hi2, hb2, ho2⟩
        rw [bs_list] at hi2
        have E2 := qh (HE.out.oth HI.out ho2 hb2 (by omega))
        have I2 := qh hi2
        clear hi2 hb2 ho2 HI HE
        obtain ⟨x0, x1⟩ := E2.out.box
        go_wp2_with fail
        clear x0 x1
        refine (clusterCountsI_any A6 A7 3 c6 m7 c7 [10, 10, 10] us u2 E2.out.rd (sh_of' Hok.out)).mono ?_; rintro e u3 ⟨Ac, mc, cc, rfl, hO, hb⟩
        rw [Hcn.out] at hO
        obtain rfl : mc = 3 := by have := hO.1; simpa using this.symm
        have R3 := qh (own_rdI hO (own_le hO))
        have I3 := qh (I2.out.up hb)
        have B3 := qh (E2.out.b.trans (hb.mono E2.out.b.size))
        have K3 := qh (show ∃ gk, Ac = some ⟨gk, 0, none⟩ ∧ ∃ cs, Blk u3 gk 3 cs from by
          rcases hO.2 with ⟨e, _⟩ | ⟨gk, cap, cur, e, _, hc, _⟩
          · cases e
          · injection e with e1 _ _; exact ⟨gk, e1, cur, hc⟩)
        obtain ⟨gk, rfl, cs, hks⟩ := K3.out
        have Ck := qh (show ∀ v, Oth (g + 1) u3 v → ∀ j, j < 3 → v.cell? ⟨gk, j, none⟩ = some (.int .i64 ([na, nb, nc][j]?.getD 0)) from fun v hv j hj => by
          obtain ⟨p, q, hp⟩ := I3.out.blk
          have h1 : Blk v gk 3 cs := hv.blk hks (blk_ne9 hks hp (by decide)) (by decide)
          obtain ⟨b', o', e, _, h2⟩ := R3.out.at_ hj
          injection e with e; injection e with e1 e2; subst e1 e2
          rw [Nat.zero_add, hks.cell] at h2
          rw [h1.cell]; exact h2)
        have Hbd := qh (show ∀ j : Nat, (0 : Int) ≤ ([na, nb, nc] : List Int)[j]?.getD 0 ∧ [na, nb, nc][j]?.getD 0 ≤ 99 from fun j => by
          match j with
          | 0 => exact hna
          | 1 => exact hnb
          | 2 => exact hnc
          | j + 3 => simp)
        have Hsu := qh (show ∀ j, j < 3 → cntTo [na, nb, nc] (j + 1) = cntTo [na, nb, nc] j ++ ([32] ++ decD ([na, nb, nc][j]?.getD 0)) from fun j hj => cntTo_succ hj)
        have lz3 : g + 1 < u3.heap.size := by obtain ⟨p, v, hp⟩ := I3.out.blk; exact hp.lt
        clear hO hb hks K3 R3 I2 E2 hna hnb hnc
        generalize [na, nb, nc] = cts at *
        go_wp2_with fail
        go_loopw [39] (fun i wr => ∃ j : Nat, i = .int .i64 (j : Int) ∧ j ≤ 3 ∧ (out ++ tEnd ++ cntTo cts j).length ≤ 1090010 + 5 * j ∧ IsB (g + 1) (g + 1) (out ++ tEnd ++ cntTo cts j) wr ∧ Oth (g + 1) u3 wr ∧ Below w.heap.size w wr) (fun i _ => 3 - (intOf i).toNat)
        case atStart => exact ⟨0, rfl, Nat.zero_le _, by rw [show cntTo cts 0 = [] from rfl, List.append_nil, List.length_append]; have : tEnd.length = 3 := rfl; omega, by rw [show cntTo cts 0 = [] from rfl, List.append_nil]; exact I3.out, Lib.OthersKept.refl _ _ _, B3.out⟩
        case round =>
          clear I3 B3
          obtain ⟨j, rfl, hj, hlen, hI, hO, hB⟩ := hrel
          obtain ⟨wj, rfl⟩ : ∃ wj, wj = wr := ⟨_, rfl⟩
          have IJ := qh hI
          have OJ := qh hO
          have BJ := qh hB
          have lzj : g + 1 < wj.heap.size := by obtain ⟨p, v, hp⟩ := hI.blk; exact hp.lt
          clear hI hO hB
          by_cases hj3 : j < 3
          · have q1 : (0 : Int) ≤ (j : Int) := by omega
            have q2 : (j : Int) < 3 := by omega
            have x0 := Ck.out wj OJ.out j hj3
            have hbd := Hbd.out j
            have Es := qh (Hsu.out j hj3)
            have HDc := qh (fun W => itoa_any (cts[j]?.getD 0) hbd.1 (by omega) W)
            have hd2 := (decD_len (cts[j]?.getD 0)).2
            have a1 : ∀ W, (Op.stringOp .add ⟨#[32]⟩ (bs (decD (cts[j]?.getD 0)))).run Tryz.prog W = .ok (.string (bs ([32] ++ decD (cts[j]?.getD 0)))) W := add_run [32] (decD (cts[j]?.getD 0)) (by simp; omega)
            have hl1 : ([32] ++ decD (cts[j]?.getD 0)).length ≤ 5 := by simp; omega
            clear hbd
            generalize [32] ++ decD (cts[j]?.getD 0) = x1 at *
            generalize decD (cts[j]?.getD 0) = dd at *
            generalize cts[j]?.getD 0 = cj at *
            go_wp2_with fail
            refine (HDc.out wj).mono ?_; rintro e u9 ⟨rfl, hu9⟩; rw [hu9]; clear hu9 u9
            go_wp2_with fail
            clear x0
            refine (writeString_k (g + 1) (g + 1) _ (bs x1) wj IJ.out (by rw [bs_size]; omega) (by omega)).mono ?_; rintro e u4 ⟨rfl, hi4, hb4, ho4⟩
            rw [bs_list] at hi4
            have I4 := qh (show IsB (g + 1) (g + 1) (out ++ tEnd ++ cntTo cts (j + 1)) u4 from by rw [Es.out, ← List.append_assoc (out ++ tEnd)]; exact hi4)
            have hl2 : (out ++ tEnd ++ cntTo cts (j + 1)).length ≤ 1090010 + 5 * (j + 1) := by rw [Es.out, ← List.append_assoc (out ++ tEnd), List.length_append]; omega
            have O4 := qh (OJ.out.trans ho4)
            have B4 := qh (BJ.out.trans (hb4.mono (by omega)))
            have Hl2 := qh hl2
            clear hi4 hb4 ho4 IJ OJ BJ hlen hl2
            go_wp2_with fail
            go_roundw
            case measure => simp [intOf]; omega
            case rel => exact ⟨j + 1, by go_num, by omega, Hl2.out, I4.out, O4.out, B4.out⟩
          · obtain rfl : j = 3 := by omega
            go_wp2_with fail
            refine (writeByte_k (g + 1) (g + 1) _ 10 wj IJ.out (by omega) (by omega)).mono ?_; rintro e u4 ⟨rfl, hi4, hb4, -⟩
            have I4 := qh hi4
            have B4 := qh (BJ.out.trans (hb4.mono (by omega)))
            have lz4 : g + 1 < u4.heap.size := by obtain ⟨p, v, hp⟩ := hi4.blk; exact hp.lt
            clear hi4 hb4 IJ OJ BJ
            go_wp2_with fail
            refine (builderString_k (g + 1) (g + 1) _ u4 I4.out (by omega)).mono ?_; rintro e u5 ⟨rfl, hb5⟩
            have B5 := qh (B4.out.trans (hb5.mono (by omega)))
            clear hb5 I4 B4
            generalize hfx : out ++ tEnd ++ cntTo cts 3 ++ [10] = fx at *
            have Hfx := qh hfx
            clear hfx
            go_wp2_with fail
            refine bodyPost_ret (v := .string ⟨fx.toArray⟩) (by simp [results, Tryz.results13, go_sem]) rfl ⟨?_, B5.out⟩
            rw [Ex.out, He.out, ← List.append_assoc, ← List.append_assoc, Hfx.out]
            rfl
end Go.Proofs.YtdkhdfedejbicaaGreatDoor
