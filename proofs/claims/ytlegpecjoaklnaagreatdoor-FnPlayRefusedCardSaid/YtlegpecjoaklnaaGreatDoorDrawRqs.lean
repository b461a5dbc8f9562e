/- Walks: DrawClusterCounts, DrawRequestDo, DrawRequestsPlay. -/
import Derived.Test.YtlegpecjoaklnaaGreatDoorDrawRq
import Derived.Test.YtlegpecjoaklnaaGreatDoorRqRows
namespace Go.Proofs.YtlegpecjoaklnaaGreatDoor
set_option linter.unusedSimpArgs false
set_option linter.unusedVariables false
open Go Go.RowKit
attribute [local go_sem ↓] Go.wp_at_zero Go.wp_at_succ

theorem rdU_up {w w' : World} {A : Option Addr} {n : Nat} (h : RdU w w.heap.size A n) (hb : Below w.heap.size w w') : RdU w' w'.heap.size A n := fun hn => by
  obtain ⟨b, o, e, hl, hc⟩ := h hn
  refine ⟨b, o, e, by have := hb.size; omega, fun j hj => ?_⟩
  obtain ⟨u, h1, h2, h3⟩ := hc j hj
  exact ⟨u, h1, h2, (hb.cell (p := ⟨b, o + j, none⟩) hl).trans h3⟩


set_option maxRecDepth 100000 in
set_option maxHeartbeats 1600000 in
theorem drawClusterCounts_any (A : Option Addr) (n c : Nat) (w : World) (h : RdU w w.heap.size A n) (hc : n ≤ c) (hcm : c ≤ 9223372036854775807) :
    Calls Tryz.prog 15 #[.slice A n c] w fun e w' => ∃ A1 m1 c1 A2 m2 c2 room us, e = .returned (.agg #[.slice A1 m1 c1, .slice A2 m2 c2]) ∧ RdC w' A1 A2 m1 m2 room us ∧ ShU us ∧ m1 ≤ 3 ∧ m1 ≤ c1 ∧ m2 ≤ c2 ∧ Below w.heap.size w w' := by
  have B1 := qh (alloc_up w (.cells #[.slice none 0 0, .slice none 0 0] 26))
  have Z1 := qh (Blk.new w 26 #[.slice none 0 0, .slice none 0 0])
  have U1 := qh (show RdU (w.alloc (.cells #[.slice none 0 0, .slice none 0 0] 26)) (w.alloc (.cells #[.slice none 0 0, .slice none 0 0] 26)).heap.size A n from rdU_up h B1.out)
  clear h
  go_enter Tryz.func15, Tryz.ntmps15
  go_wp2_with fail
  generalize hgz : w.heap.size = gz at Z1 ⊢
  generalize w.alloc (.cells #[.slice none 0 0, .slice none 0 0] 26) = w1 at B1 Z1 U1 ⊢
  refine (l6Open_any A n c w1 U1.out hc hcm).mono ?_; rintro e w2 ⟨rfl, R2, hb2⟩
  have B2 := qh (B1.out.trans (hb2.mono B1.out.size))
  have Z2 := qh (Z1.out.below hb2 Z1.out.lt)
  have HR2 := qh R2
  have lz := Z1.out.lt
  have lg := B1.out.size
  clear hb2 R2 U1
  go_wp2_with fail
  refine (l92Cluster_any w1.heap.size 0 w2 HR2.out (by omega)).mono ?_; rintro e w3 hD
  obtain ⟨A1, m1, c1, A2, m2, c2, room, us, rfl, hr, hs, hm1, hc1, hc2, o3, q, hq, r3⟩ := hD
  have B3 := qh (B2.out.trans (o3.belowB (B := w.heap.size) lg B2.out.size))
  have Z3 := qh (o3.blk Z2.out (by omega))
  have x0 := Z3.out.cell 0
  have x1 := Z3.out.cell 1
  simp only [gT, gZ, gS] at x0 x1
  have x2 := Z3.out.frozen 0
  have x3 := Z3.out.frozen 1
  have C3 := qh hr
  have Hs := qh hs
  clear hr hs o3 r3 B1 Z1 B2 Z2 HR2
  go_wp2_with fail
  have KT := (KeepTU.set_ (Z3.out) (by decide) (by decide) (by decide) 0 (.slice A1 m1 c1)).trans (KeepTU.set_ ((Z3.out).set_ 0 (.slice A1 m1 c1)) (by decide) (by decide) (by decide) 1 (.slice A2 m2 c2))
  have EQ := qh (((Z3.out).set_ 0 (.slice A1 m1 c1)).set_ 1 (.slice A2 m2 c2))
  have B9 := qh (((B3.out).setCell (p := ⟨gz, 0, none⟩) (by show w.heap.size ≤ gz; omega) (.slice A1 m1 c1)).setCell (p := ⟨gz, 1, none⟩) (by show w.heap.size ≤ gz; omega) (.slice A2 m2 c2))
  have RC := qh (C3.out _ KT)
  clear KT
  generalize World.setCell (World.setCell w3 ⟨gz, 0, none⟩ (.slice A1 m1 c1)) ⟨gz, 1, none⟩ (.slice A2 m2 c2) = w9 at EQ B9 RC ⊢
  have z0 : w9.cell? ⟨gz, 0, none⟩ = some (.slice A1 m1 c1) := EQ.out.cell 0
  have z1 : w9.cell? ⟨gz, 1, none⟩ = some (.slice A2 m2 c2) := EQ.out.cell 1
  subst hgz
  refine bodyPost_ret (v := .agg #[.slice A1 m1 c1, .slice A2 m2 c2]) (by simp [results, Tryz.results15, go_sem, z0, z1]) rfl ⟨A1, m1, c1, A2, m2, c2, room, us, rfl, RC.out, Hs.out, hm1, hc1, hc2, B9.out⟩

set_option maxRecDepth 100000 in
set_option maxHeartbeats 1600000 in
theorem drawRequestDo_any (A : Option Addr) (n c : Nat) (w : World) (h : RdU w w.heap.size A n) (hc : n ≤ c) (hcm : c ≤ 9223372036854775807) :
    Calls Tryz.prog 26 #[.slice A n c] w fun e w' => ∃ A1 m1 c1 A2 m2 c2 room us r A3 m3 c3, e = .returned (.tuple #[.agg #[.slice A1 m1 c1, .slice A2 m2 c2], rqV r A3 m3 c3]) ∧ RdC w' A1 A2 m1 m2 room us ∧ ShU us ∧ m1 ≤ 3 ∧ m1 ≤ c1 ∧ m2 ≤ c2 ∧ RdI w' w'.heap.size A3 m3 r.xs ∧ m3 ≤ 3 ∧ m3 ≤ c3 ∧ Below w.heap.size w w' := by
  have sz1 : (w.alloc (.cells #[.slice none 0 0, .slice none 0 0] 26)).heap.size = w.heap.size + 1 := World.size_alloc _ _
  have B1 := qh ((alloc_up w (.cells #[.slice none 0 0, .slice none 0 0] 26)).alloc (by rw [sz1]; omega) (.cells #[.int .i64 0, .int .i64 0, .slice none 0 0, .bool false, .int .i64 0] 35))
  have Z1 := qh ((Blk.new w 26 #[.slice none 0 0, .slice none 0 0]).alloc (.cells #[.int .i64 0, .int .i64 0, .slice none 0 0, .bool false, .int .i64 0] 35))
  have hY := Blk.new (w.alloc (.cells #[.slice none 0 0, .slice none 0 0] 26)) 35 #[.int .i64 0, .int .i64 0, .slice none 0 0, .bool false, .int .i64 0]
  rw [sz1] at hY
  have Y1 := qh hY
  have U1 := qh (rdU_up h B1.out)
  clear h hY sz1
  go_enter Tryz.func26, Tryz.ntmps26
  go_wp2_with fail
  generalize (w.alloc (.cells #[.slice none 0 0, .slice none 0 0] 26)).alloc (.cells #[.int .i64 0, .int .i64 0, .slice none 0 0, .bool false, .int .i64 0] 35) = w1 at B1 Z1 Y1 U1 ⊢
  refine (l6Open_any A n c w1 U1.out hc hcm).mono ?_; rintro e w2 ⟨rfl, R2, hb2⟩
  have B2 := qh (B1.out.trans (hb2.mono B1.out.size))
  have Z2 := qh (Z1.out.below hb2 Z1.out.lt)
  have Y2 := qh (Y1.out.below hb2 Y1.out.lt)
  have HR2 := qh R2
  have ly := Y1.out.lt
  have lg := B1.out.size
  clear hb2 R2 U1 B1 Z1 Y1
  go_wp2_with fail
  refine (l92Cluster_any w1.heap.size 0 w2 HR2.out (by omega)).mono ?_; rintro e w3 hD
  obtain ⟨A1, m1, c1, A2, m2, c2, room, us, rfl, hr, hs, hm1, hc1, hc2, o3, q, hq, r3⟩ := hD
  have al := alloc_up w3 (.cells #[.slice A1 m1 c1, .slice A2 m2 c2] 26)
  have b3 := B2.out.trans (o3.belowB (B := w.heap.size) lg B2.out.size)
  have B4 := qh (b3.trans (al.mono b3.size))
  have z3 := o3.blk Z2.out (by omega)
  have y3 := o3.blk Y2.out (by omega)
  have Z4 := qh (z3.below al z3.lt)
  have Y4 := qh (y3.below al y3.lt)
  have R4 := qh (r3.below al)
  have C4 := qh (fun u (hu : KeepTU (w3.alloc (.cells #[.slice A1 m1 c1, .slice A2 m2 c2] 26)) u) => hr u ((KeepTU.up al).trans hu))
  have G4 := qh (Blk.new w3 26 #[.slice A1 m1 c1, .slice A2 m2 c2])
  have Hs := qh hs
  have lw3 : w1.heap.size < w3.heap.size := r3.lt
  clear hr hs o3 r3 B2 Z2 Y2 HR2 al b3 z3 y3
  have g0 := G4.out.cell 0
  have g1 := G4.out.cell 1
  simp only [gT, gZ, gS] at g0 g1
  go_wp2_with fail
  generalize w3.heap.size = gc at G4 g0 g1 lw3 ⊢
  generalize w3.alloc (.cells #[.slice A1 m1 c1, .slice A2 m2 c2] 26) = w4 at B4 Z4 Y4 R4 C4 G4 g0 g1 ⊢
  refine wp_region_mixL (.take 0 (.take 1 (.bar 2 (.last 3 (.last 4 .nil))))) [3, 4] (fun w' => w'.cell? ⟨gc, 0, none⟩ = some (.slice A1 m1 c1) ∧ w'.cell? ⟨gc, 1, none⟩ = some (.slice A2 m2 c2)) (by kernel_rfl) (by kernel_rfl) ⟨g0, g1⟩ (fun _ => ?_)
  have B5 := qh B4.out.drew
  have Z5 := qh Z4.out.drew
  have Y5 := qh Y4.out.drew
  have R5 := qh R4.out.drew
  have C5 := qh (fun u (hu : KeepTU w4.drew u) => C4.out u hu)
  have G5 := qh G4.out.drew
  clear B4 Z4 Y4 R4 C4 G4 g0 g1
  generalize w4.drew = w5 at B5 Z5 Y5 R5 C5 G5 ⊢
  repeat ((first | refine wpMixL_skip (by rfl) (by rfl) ?_ | (refine wpMixL_take (v := ?_) (by rfl) (by rfl) (fun wS hSt => ?_) ?_; rotate_left; (focus ((try dsimp only at hSt); (go_simp <;> with_reducible rfl); done)))); (try simp only [Act.put, pS, pZ, pC]))
  (refine wpMixL_bar (by rfl) (fun K hK => ?_); go_simp)
  refine (l92Request_any w1.heap.size q w5 R5.out (by omega)).mono ?_; rintro e w6 ⟨r, A3, m3, c3, rfl, hx, hm3, hc3, o6, q6, hq6, r6⟩
  have B6 := qh (B5.out.trans (o6.belowB (B := w.heap.size) lg B5.out.size))
  have Z6 := qh (o6.blk Z5.out (by omega))
  have Y6 := qh (o6.blk Y5.out (by omega))
  have C6 := qh (fun u (hu : KeepTU w6 u) => C5.out u ((keepTU_rdr R5.out o6).trans hu))
  have HX := qh hx
  have G6 := qh (o6.blk G5.out (by omega))
  clear hx o6 r6 B5 Z5 Y5 R5 C5 G5
  ((try dsimp only); refine nxK hK _ _ (⟨G6.out.cell 0, G6.out.cell 1⟩) ?_; clear hK K; (try simp only [Act.put, pS, pZ, pC]))
  clear G6
  have x0 := Z6.out.cell 0
  have x1 := Z6.out.cell 1
  simp only [gT, gZ, gS] at x0 x1
  have x2 := Z6.out.frozen 0
  have x3 := Z6.out.frozen 1
  (refine wpMixL_last (by rfl) (fun K hK => ?_); go_simp)
  have KT := (KeepTU.set_ (Z6.out) (by decide) (by decide) (by decide) 0 (.slice A1 m1 c1)).trans (KeepTU.set_ ((Z6.out).set_ 0 (.slice A1 m1 c1)) (by decide) (by decide) (by decide) 1 (.slice A2 m2 c2))
  have Z7 := qh (((Z6.out).set_ 0 (.slice A1 m1 c1)).set_ 1 (.slice A2 m2 c2))
  have B7 := qh (((B6.out).setCell (p := ⟨w.heap.size, 0, none⟩) (Nat.le_refl _) (.slice A1 m1 c1)).setCell (p := ⟨w.heap.size, 1, none⟩) (Nat.le_refl _) (.slice A2 m2 c2))
  have Y7 := qh ((Y6.out.far (p := ⟨w.heap.size, 0, none⟩) (by show w.heap.size + 1 ≠ w.heap.size; omega) (.slice A1 m1 c1)).far (p := ⟨w.heap.size, 1, none⟩) (by show w.heap.size + 1 ≠ w.heap.size; omega) (.slice A2 m2 c2))
  have KT7 := qh KT
  clear KT x0 x1 x2 x3
  ((try dsimp only); refine hK.out _ _ ?_; clear hK K; (try simp only [Act.put, pS, pZ, pC]))
  generalize hw7 : World.setCell (World.setCell w6 ⟨w.heap.size, 0, none⟩ (.slice A1 m1 c1)) ⟨w.heap.size, 1, none⟩ (.slice A2 m2 c2) = w7 at Z7 B7 Y7 KT7 ⊢
  clear hw7
  have y0 := Y7.out.cell 0
  have y1 := Y7.out.cell 1
  have y2 := Y7.out.cell 2
  have y3 := Y7.out.cell 3
  have y4 := Y7.out.cell 4
  simp only [gT, gZ, gS] at y0 y1 y2 y3 y4
  have f0 := Y7.out.frozen 0
  have f1 := Y7.out.frozen 1
  have f2 := Y7.out.frozen 2
  have f3 := Y7.out.frozen 3
  have f4 := Y7.out.frozen 4
  (refine wpMixL_last (by rfl) (fun K hK => ?_); go_simp)
  ((try dsimp only); refine hK.out _ _ ?_; clear hK K; (try simp only [Act.put, pS, pZ, pC]))
  refine wpMixL_nil ?_
  have st : ∀ (i : Nat) (v : Value) (W : World) (cs : Array Value), Blk W (w.heap.size + 1) 35 cs → KeepTU W (W.setCell ⟨w.heap.size + 1, i, none⟩ v) := fun i v W cs hb => KeepTU.set_ hb (by decide) (by decide) (by decide) i v
  have e0 := Y7.out.set_ 0 (.int .i64 r.kind)
  have e1 := e0.set_ 1 (.int .i64 r.id)
  have e2 := e1.set_ 2 (.slice A3 m3 c3)
  have e3 := e2.set_ 3 (.bool r.grant)
  have e4 := qh (e3.set_ 4 (.int .i64 r.num))
  have KT8 := qh (KT7.out.trans ((((st 0 (.int .i64 r.kind) _ _ Y7.out).trans (st 1 (.int .i64 r.id) _ _ e0)).trans ((st 2 (.slice A3 m3 c3) _ _ e1).trans (st 3 (.bool r.grant) _ _ e2))).trans (st 4 (.int .i64 r.num) _ _ e3)))
  have fr : ∀ (i : Nat) (v : Value) (W : World), Blk W w.heap.size 26 #[.slice A1 m1 c1, .slice A2 m2 c2] → Blk (W.setCell ⟨w.heap.size + 1, i, none⟩ v) w.heap.size 26 #[.slice A1 m1 c1, .slice A2 m2 c2] := fun i v W hb => hb.far (p := ⟨w.heap.size + 1, i, none⟩) (by show w.heap.size ≠ w.heap.size + 1; omega) v
  have ZZ := qh (fr 4 (.int .i64 r.num) _ (fr 3 (.bool r.grant) _ (fr 2 (.slice A3 m3 c3) _ (fr 1 (.int .i64 r.id) _ (fr 0 (.int .i64 r.kind) _ Z7.out)))))
  have sb : ∀ (i : Nat) (v : Value) (W : World), Below w.heap.size w W → Below w.heap.size w (W.setCell ⟨w.heap.size + 1, i, none⟩ v) := fun i v W hb => hb.setCell (p := ⟨w.heap.size + 1, i, none⟩) (by show w.heap.size ≤ w.heap.size + 1; omega) v
  have BB := qh (sb 4 (.int .i64 r.num) _ (sb 3 (.bool r.grant) _ (sb 2 (.slice A3 m3 c3) _ (sb 1 (.int .i64 r.id) _ (sb 0 (.int .i64 r.kind) _ B7.out)))))
  clear st fr sb e0 e1 e2 e3 y0 y1 y2 y3 y4 f0 f1 f2 f3 f4
  generalize ((((w7.setCell ⟨w.heap.size + 1, 0, none⟩ (.int .i64 r.kind)).setCell ⟨w.heap.size + 1, 1, none⟩ (.int .i64 r.id)).setCell ⟨w.heap.size + 1, 2, none⟩ (.slice A3 m3 c3)).setCell ⟨w.heap.size + 1, 3, none⟩ (.bool r.grant)).setCell ⟨w.heap.size + 1, 4, none⟩ (.int .i64 r.num) = w9 at e4 KT8 ZZ BB ⊢
  have z0 : w9.cell? ⟨w.heap.size, 0, none⟩ = some (.slice A1 m1 c1) := ZZ.out.cell 0
  have z1 : w9.cell? ⟨w.heap.size, 1, none⟩ = some (.slice A2 m2 c2) := ZZ.out.cell 1
  have u0 : w9.cell? ⟨w.heap.size + 1, 0, none⟩ = some (.int .i64 r.kind) := e4.out.cell 0
  have u1 : w9.cell? ⟨w.heap.size + 1, 1, none⟩ = some (.int .i64 r.id) := e4.out.cell 1
  have u2 : w9.cell? ⟨w.heap.size + 1, 2, none⟩ = some (.slice A3 m3 c3) := e4.out.cell 2
  have u3 : w9.cell? ⟨w.heap.size + 1, 3, none⟩ = some (.bool r.grant) := e4.out.cell 3
  have u4 : w9.cell? ⟨w.heap.size + 1, 4, none⟩ = some (.int .i64 r.num) := e4.out.cell 4
  go_wp2_with fail
  refine bodyPost_ret (v := .tuple #[.agg #[.slice A1 m1 c1, .slice A2 m2 c2], rqV r A3 m3 c3]) (by simp [results, Tryz.results26, go_sem, z0, z1, u0, u1, u2, u3, u4]) rfl ⟨A1, m1, c1, A2, m2, c2, room, us, r, A3, m3, c3, rfl, C6.out _ KT8.out, Hs.out, hm1, hc1, hc2, HX.out _ KT8.out.ti, hm3, hc3, BB.out⟩

/-- A need of a drawn request: it outlives all steps that leave integers and tasks alone. -/
def NdK (w : World) (A : Option Addr) (m : Nat) (xs : List Int) : Prop := m ≤ 3 ∧ ∀ u, KeepTI w u → RdI u u.heap.size A m xs
theorem NdK.go {w w' : World} {A : Option Addr} {m : Nat} {xs : List Int} (h : NdK w A m xs) (k : KeepTI w w') : NdK w' A m xs := ⟨h.1, fun u hu => h.2 u (k.trans hu)⟩
theorem KeepTU.grown' {a b : World} {base s m : Nat} {t : TypeId} {r : Value} {xs : List Value} (ho : a.ownsRow base t s r m xs) (hg : a.grownBy b r.ownBlock) (h1 : t ≠ 3) (h2 : t ≠ 33) (h3 : t ≠ 52) : KeepTU a b := fun g hti => by
  obtain ⟨t', cs', ht, hb'⟩ := hti
  refine hg.block g hb'.lt (fun e => ?_)
  exact own_blk_ne ho hb' (by rcases ht with rfl | rfl | rfl; exact h1; exact h2; exact h3) e.symm
theorem lit5 (w : World) (t : TypeId) (a b c d e : Value) : Src (w.alloc (.cells #[a, b, c, d, e] t)) 5 (some ⟨w.heap.size, 0, none⟩) 1 [a, b, c, d, e] :=
  ⟨rfl, fun _ => ⟨_, rfl, fun j u hu => by rw [addr_add, Nat.zero_add, (Blk.new w t #[a, b, c, d, e]).cell]; simpa using hu⟩⟩
theorem own_some {w : World} {base s n c : Nat} {e : TypeId} {A : Option Addr} {xs : List Value} (h : w.ownsRow base e s (.slice A n c) n xs) (hp : 0 < n) : ∃ b, A = some ⟨b, 0, none⟩ := by
  obtain ⟨g, cap, hv, _, _⟩ := h.form hp
  injection hv with hv
  exact ⟨g, hv⟩

set_option maxRecDepth 100000 in
set_option maxHeartbeats 6400000 in
theorem drawRequestsPlay_any (A : Option Addr) (n c : Nat) (w : World) (h : RdU w w.heap.size A n) (hc : n ≤ c) (hcm : c ≤ 9223372036854775807) :
    Calls Tryz.prog 34 #[.slice A n c] w fun e w' => ∃ A1 m1 c1 A2 m2 c2 room us b3 n3 c3 rs, e = .returned (.tuple #[.agg #[.slice A1 m1 c1, .slice A2 m2 c2], .slice (some ⟨b3, 0, none⟩) n3 c3]) ∧ RdC w' A1 A2 m1 m2 room us ∧ ShU us ∧ m1 ≤ 3 ∧ m1 ≤ c1 ∧ m2 ≤ c2 ∧ RdQ w' w'.heap.size (some ⟨b3, 0, none⟩) n3 rs ∧ n3 ≤ 31 ∧ n3 ≤ c3 ∧ Below w.heap.size w w' := by
  obtain ⟨i0, hi0, hz0, hz1, hz2⟩ := info_parts rq_info
  have B1 := qh (alloc_up w (.cells #[.slice none 0 0, .slice none 0 0] 26))
  have Z1 := qh (Blk.new w 26 #[.slice none 0 0, .slice none 0 0])
  have U1 := qh (rdU_up h B1.out)
  clear h
  go_enter Tryz.func34, Tryz.ntmps34
  go_wp2_with fail
  generalize hgz : w.heap.size = gz at Z1 ⊢
  generalize w.alloc (.cells #[.slice none 0 0, .slice none 0 0] 26) = w1 at B1 Z1 U1 ⊢
  refine (l6Open_any A n c w1 U1.out hc hcm).mono ?_; rintro e w2 ⟨rfl, R2, hb2⟩
  have B2 := qh (B1.out.trans (hb2.mono B1.out.size))
  have Z2 := qh (Z1.out.below hb2 Z1.out.lt)
  have HR2 := qh R2
  have lz := Z1.out.lt
  have lg := B1.out.size
  clear hb2 R2 U1
  go_wp2_with fail
  refine (l92Cluster_any w1.heap.size 0 w2 HR2.out (by omega)).mono ?_; rintro e w3 hD
  obtain ⟨A1, m1, c1, A2, m2, c2, room, us, rfl, hr, hs, hm1, hc1, hc2, o3, q, hq, r3⟩ := hD
  have al := alloc_up w3 (.cells #[.slice A1 m1 c1, .slice A2 m2 c2] 26)
  have b3 := B2.out.trans (o3.belowB (B := w.heap.size) lg B2.out.size)
  have B4 := qh (b3.trans (al.mono b3.size))
  have z3 := o3.blk Z2.out (by omega)
  have Z4 := qh (z3.below al z3.lt)
  have R4 := qh (r3.below al)
  have C4 := qh (fun u (hu : KeepTU (w3.alloc (.cells #[.slice A1 m1 c1, .slice A2 m2 c2] 26)) u) => hr u ((KeepTU.up al).trans hu))
  have G4 := qh (Blk.new w3 26 #[.slice A1 m1 c1, .slice A2 m2 c2])
  have Hs := qh hs
  have lw3 : w1.heap.size < w3.heap.size := r3.lt
  clear hr hs o3 r3 B2 Z2 HR2 al b3 z3 B1 Z1
  go_wp2_with fail
  generalize hgc : w3.heap.size = gc at G4 lw3 ⊢
  clear hgc
  generalize w3.alloc (.cells #[.slice A1 m1 c1, .slice A2 m2 c2] 26) = w4 at B4 Z4 R4 C4 G4 ⊢
  generalize w1.heap.size = g at *
  refine (pick_at 12 R4.out rfl (by omega) (by omega) (by omega)).mono ?_; rintro e w5 ⟨k1, rfl, hk1, r5, o5⟩
  have B5 := qh (B4.out.trans (o5.belowB (B := w.heap.size) (by omega) B4.out.size))
  have Z5 := qh (o5.blk Z4.out (by omega))
  have G5 := qh (o5.blk G4.out (by omega))
  have C5 := qh (fun u (hu : KeepTU w5 u) => C4.out u ((keepTU_rdr R4.out o5).trans hu))
  have R5 := qh r5
  clear r5 o5 B4 Z4 R4 C4 G4
  go_wp2_with fail
  refine (pick_at 24 R5.out rfl (by omega) (by omega) (by omega)).mono ?_; rintro e w6 ⟨k2, rfl, hk2, r6, o6⟩
  have B6 := qh (B5.out.trans (o6.belowB (B := w.heap.size) (by omega) B5.out.size))
  have Z6 := qh (o6.blk Z5.out (by omega))
  have G6 := qh (o6.blk G5.out (by omega))
  have C6 := qh (fun u (hu : KeepTU w6 u) => C5.out u ((keepTU_rdr R5.out o6).trans hu))
  have R6 := qh r6
  clear r6 o6 B5 Z5 R5 C5 G5
  go_upto_if 17 with fail
  go_cut [6] (fun v6 wx => ∃ (nn p : Nat), v6 = .int .i64 (nn : Int) ∧ nn ≤ 31 ∧ p ≤ q + 3 ∧ Below w.heap.size w wx ∧ Blk wx gz 26 #[.slice none 0 0, .slice none 0 0] ∧ Blk wx gc 26 #[.slice A1 m1 c1, .slice A2 m2 c2] ∧ (∀ u, KeepTU wx u → RdC u A1 A2 m1 m2 room us) ∧ Rdr wx g p)
  case first =>
    by_cases h0 : k2 = 0
    · have t0 : ((k2 : Int) == 0) = true := by rw [h0]; rfl
      clear h0
      go_wp2_with fail
      refine (pick_at 2 R6.out rfl (by omega) (by omega) (by omega)).mono ?_; rintro e w7 ⟨k3, rfl, hk3, r7, o7⟩
      have B7 := qh (B6.out.trans (o7.belowB (B := w.heap.size) (by omega) B6.out.size))
      have Z7 := qh (o7.blk Z6.out (by omega))
      have G7 := qh (o7.blk G6.out (by omega))
      have C7 := qh (fun u (hu : KeepTU w7 u) => C6.out u ((keepTU_rdr R6.out o7).trans hu))
      have R7 := qh r7
      have v1 : IntKind.i64.wrap (30 + (k3 : Int)) = 30 + (k3 : Int) := wr64 (by omega) (by omega)
      clear r7 o7 B6 Z6 R6 C6 G6
      go_wp2_with fail
      go_meet
      case rel => exact ⟨30 + k3, _, by go_num, by omega, by omega, B7.out, Z7.out, G7.out, C7.out, R7.out⟩
    · have t0 : ((k2 : Int) == 0) = false := by simpa using (show ¬ (k2 : Int) = 0 by omega)
      go_wp2_with fail
      go_meet
      case rel => exact ⟨k1, _, rfl, by omega, by omega, B6.out, Z6.out, G6.out, C6.out, R6.out⟩
  case rest =>
    clear B6 Z6 R6 C6 G6
    obtain ⟨nn, p, rfl, hnn, hp, hB, hZ, hG, hC, hR⟩ := hcut
    obtain ⟨w7, rfl⟩ : ∃ w7 : World, w7 = wc := ⟨_, rfl⟩
    have al := alloc_up w7 (.cells #[] 35)
    have B8 := qh (hB.trans (al.mono hB.size))
    have Z8 := qh (hZ.below al hZ.lt)
    have G8 := qh (hG.below al hG.lt)
    have R8 := qh (hR.below al)
    have C8 := qh (fun u (hu : KeepTU (w7.alloc (.cells #[] 35)) u) => hC u ((KeepTU.up al).trans hu))
    have O8 := qh (show (w7.alloc (.cells #[] 35)).ownsRow w7.heap.size 35 5 (.slice (some ⟨w7.heap.size, 0, none⟩) 0 0) 0 [] from World.ownsRow_made w7 #[] 0 (Nat.le_refl _) (by unfold maxLen; omega) rfl)
    have lg7 : g < w7.heap.size := hR.lt
    have lz7 : gz < w7.heap.size := hZ.lt
    have lc7 : gc < w7.heap.size := hG.lt
    have lw7 : w.heap.size ≤ w7.heap.size := hB.size
    clear hB hZ hG hR hC al
    go_wp2_with fail
    generalize w7.heap.size = base at *
    generalize w7.alloc (.cells #[] 35) = w8 at B8 Z8 G8 R8 C8 O8 ⊢
    go_loopw [7, 8] (fun v7 i wr => ∃ (k b cc p' : Nat) (vs : List Value) (rs : List Rq), i = .int .i64 k ∧ k ≤ nn ∧ v7 = .slice (some ⟨b, 0, none⟩) k cc ∧ p' ≤ q + 3 + 20 * k ∧ Below w.heap.size w wr ∧ Blk wr gz 26 #[.slice none 0 0, .slice none 0 0] ∧ Blk wr gc 26 #[.slice A1 m1 c1, .slice A2 m2 c2] ∧ (∀ u, KeepTU wr u → RdC u A1 A2 m1 m2 room us) ∧ Rdr wr g p' ∧
      wr.ownsRow base 35 5 (.slice (some ⟨b, 0, none⟩) k cc) k vs ∧ RqCells (NdK wr) vs rs ∧ Hid (rs.length = k)) (fun _ i _ => nn - (intOf i).toNat)
    case atStart => exact ⟨0, base, 0, p, [], [], rfl, Nat.zero_le _, rfl, by omega, B8.out, Z8.out, G8.out, C8.out, R8.out, O8.out, RqCells.nil, qh rfl⟩
    case round =>
      clear B8 Z8 G8 R8 C8 O8
      obtain ⟨k, b, cc, p', vs, rs, rfl, hk, rfl, hp', hB, hZ, hG, hC, hR, hO, hV, hL⟩ := hrel
      have B8 := qh hB
      have Z8 := qh hZ
      have G8 := qh hG
      have C8 := qh hC
      have R8 := qh hR
      have O8 := qh hO
      have V8 := qh hV
      have lb8 : base ≤ wr.heap.size := by have := hO.lt b rfl; omega
      clear hB hZ hG hC hR hO hV
      by_cases hlt : k < nn
      · go_wp2_with fail
        refine (l92Request_any g p' wr R8.out (by omega)).mono ?_; rintro e w9 ⟨⟨kd, id, xs, gr, nm⟩, A3, m3, c3, rfl, hx, hm3, hc3, o9, q9, hq9, r9⟩
        have KT := keepTU_rdr R8.out o9
        have s9 := o9.size
        have X9 := qh (show NdK w9 A3 m3 xs from ⟨hm3, hx⟩)
        have V9 := V8.out.imp (fun A m ys h => h.go KT.ti)
        have al := alloc_up w9 (.cells #[.int .i64 kd, .int .i64 id, .slice A3 m3 c3, .bool gr, .int .i64 nm] 35)
        have b9 := B8.out.trans (o9.belowB (B := w.heap.size) (by omega) B8.out.size)
        have z9 := o9.blk Z8.out (by omega)
        have g9 := o9.blk G8.out (by omega)
        have B10 := qh (b9.trans (al.mono b9.size))
        have Z10 := qh (z9.below al z9.lt)
        have G10 := qh (g9.below al g9.lt)
        have R10 := qh (r9.below al)
        have C10 := qh (fun u (hu : KeepTU (w9.alloc (.cells #[.int .i64 kd, .int .i64 id, .slice A3 m3 c3, .bool gr, .int .i64 nm] 35)) u) => C8.out u ((KT.trans (KeepTU.up al)).trans hu))
        have O10 := qh (own_alloc (own_only O8.out o9 lg7) (.cells #[.int .i64 kd, .int .i64 id, .slice A3 m3 c3, .bool gr, .int .i64 nm] 35))
        have V10 := qh (RqCells.snoc (r := ⟨kd, id, xs, gr, nm⟩) (V9.imp (fun A m ys h => h.go (KeepTI.up al))) hc3 (X9.out.go (KeepTI.up al)))
        have S10 := qh (lit5 w9 35 (.int .i64 kd) (.int .i64 id) (.slice A3 m3 c3) (.bool gr) (.int .i64 nm))
        clear hx o9 r9 KT V9 al b9 z9 g9 B8 Z8 G8 C8 R8 O8 V8 X9
        have lb10 : base ≤ (w9.alloc (.cells #[.int .i64 kd, .int .i64 id, .slice A3 m3 c3, .bool gr, .int .i64 nm] 35)).heap.size := by simp; omega
        go_wp2_with (at_builtin; go_loud (refine wpList_append_src _ rfl _ _ 54 rfl base 35 i0 _ 5 56 Tryz.underlying54 hi0 hz0 hz1 hz2 rfl (by omega) (.slice (some ⟨b, 0, none⟩) k cc) k vs rfl O10.out (some ⟨w9.heap.size, 0, none⟩) 1 1 [.int .i64 kd, .int .i64 id, .slice A3 m3 c3, .bool gr, .int .i64 nm] rfl S10.out (by simp [Value.oneCell']) (by unfold maxLen; omega) (by omega) lb10 ?_); intro v' wz hownz hgrow hat; obtain ⟨A9, c9, rfl⟩ := own_shape hownz)
        obtain ⟨b9, rfl⟩ := own_some hownz (by omega)
        have KG := KeepTU.grown' O10.out hgrow (by decide) (by decide) (by decide)
        have B11 := qh (B10.out.grown hgrow (by omega) (fun j e => by have := (O10.out.lt j e).1; omega))
        have Z11 := qh (Z10.out.grown hgrow (fun e => own_blk_ne O10.out Z10.out (by decide) e.symm))
        have G11 := qh (G10.out.grown hgrow (fun e => own_blk_ne O10.out G10.out (by decide) e.symm))
        have R11 := qh (R10.out.keep (fun b hb => hgrow.block b (by have := R10.out.lt; omega) (fun e => by have := (O10.out.lt b e.symm).1; omega)))
        have C11 := qh (fun u (hu : KeepTU wz u) => C10.out u (KG.trans hu))
        have O11 := qh hownz
        have V11 := qh (V10.out.imp (fun A m ys h => h.go KG.ti))
        clear hownz hgrow hat KG B10 Z10 G10 R10 C10 O10 V10 S10
        go_roundw
        case measure => simp [intOf]; omega
        case rel => exact ⟨k + 1, b9, c9, q9, _, _, by go_num, by omega, rfl, by omega, B11.out, Z11.out, G11.out, C11.out, R11.out, O11.out, V11.out, qh (by simp [hL.out])⟩
      · obtain rfl : k = nn := by omega
        have x0 := G8.out.cell 0
        have x1 := G8.out.cell 1
        have y0 := Z8.out.cell 0
        have y1 := Z8.out.cell 1
        simp only [gT, gZ, gS] at x0 x1 y0 y1
        have f0 := Z8.out.frozen 0
        have f1 := Z8.out.frozen 1
        go_wp2_with fail
        have KT := (KeepTU.set_ (Z8.out) (by decide) (by decide) (by decide) 0 (.slice A1 m1 c1)).trans (KeepTU.set_ ((Z8.out).set_ 0 (.slice A1 m1 c1)) (by decide) (by decide) (by decide) 1 (.slice A2 m2 c2))
        have EQ := qh (((Z8.out).set_ 0 (.slice A1 m1 c1)).set_ 1 (.slice A2 m2 c2))
        subst hgz
        have B9 := qh (((B8.out).setCell (p := ⟨w.heap.size, 0, none⟩) (Nat.le_refl _) (.slice A1 m1 c1)).setCell (p := ⟨w.heap.size, 1, none⟩) (Nat.le_refl _) (.slice A2 m2 c2))
        have RC := qh (C8.out _ KT)
        have hne : ∀ j, (Value.slice (some ⟨b, 0, none⟩) k cc).ownBlock = some j → j ≠ w.heap.size := fun j e => by have := (O8.out.lt j e).1; omega
        have O9 := qh (own_keep O8.out (w' := World.setCell (World.setCell wr ⟨w.heap.size, 0, none⟩ (.slice A1 m1 c1)) ⟨w.heap.size, 1, none⟩ (.slice A2 m2 c2)) (fun j e => (Below.heap_setCell _ _ _ _ (hne j e)).trans (Below.heap_setCell _ _ _ _ (hne j e))))
        have V9 := qh (V8.out.imp (fun A m ys h => h.go KT.ti))
        clear KT x0 x1 y0 y1 f0 f1
        generalize World.setCell (World.setCell wr ⟨w.heap.size, 0, none⟩ (.slice A1 m1 c1)) ⟨w.heap.size, 1, none⟩ (.slice A2 m2 c2) = w9 at EQ B9 RC O9 V9 ⊢
        have z0 : w9.cell? ⟨w.heap.size, 0, none⟩ = some (.slice A1 m1 c1) := EQ.out.cell 0
        have z1 : w9.cell? ⟨w.heap.size, 1, none⟩ = some (.slice A2 m2 c2) := EQ.out.cell 1
        have RQ := qh (RdQ.of_own O9.out V9.out hL.out (fun A m xs h => h.2 w9 (KeepTI.refl w9)))
        refine bodyPost_ret (v := .tuple #[.agg #[.slice A1 m1 c1, .slice A2 m2 c2], .slice (some ⟨b, 0, none⟩) k cc]) (by simp [results, Tryz.results34, go_sem, z0, z1]) rfl ⟨A1, m1, c1, A2, m2, c2, room, us, b, k, cc, rs, rfl, RC.out, Hs.out, hm1, hc1, hc2, RQ.out, by omega, own_cap' O9.out, B9.out⟩
end Go.Proofs.YtlegpecjoaklnaaGreatDoor
