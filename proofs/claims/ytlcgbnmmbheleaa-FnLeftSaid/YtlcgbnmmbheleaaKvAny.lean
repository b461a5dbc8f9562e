/- FnLeft's last region, beside leavers, in any order. (The program of this text: gen_uslaw2a.py.) -/
import Derived.Test.YtlcgbnmmbheleaaV34
import Derived.Test.YtlcgbnmmbheleaaV31
namespace Go.Proofs.Ytlcgbnmmbheleaa
open Go Go.Conc Go.RowKit
set_option linter.unusedVariables false
set_option linter.unusedSimpArgs false

noncomputable def kBody : Code := Try.f4.body.getD .skip
noncomputable def kOps : Array Oper := match kBody with | .seq _ (.seq _ (.seq _ (.seq _ (.seq _ (.seq _ (.seq (.region _ ops _) _)))))) => ops | _ => #[]
def bK : Frame := base 4
theorem fewK : bK.kind ≠ .early := by decide
def kAct (A A1 A2 : Option Addr) (n c n1 c1 n2 c2 cb : Nat) (out : Int) (y2 y25 y26 y27 y28 y29 y30 y31 y32 y33 y34 y35 y36 y37 y38 y39 y40 y41 y42 : Value) : Act := ⟨#[.slice A n c, undef, y2, .pointer (some ⟨cb, 0, none⟩), .int .i64 out, .int .i64 out, .slice A n c, .int .i64 n, .bool false, .slice A n c, (.agg #[.slice A1 n1 c1, .slice A2 n2 c2]), (.agg #[.slice A1 n1 c1, .slice A2 n2 c2]), .int .i64 out, (.agg #[.slice A1 n1 c1, .slice A2 n2 c2]), .int .i64 out, .int .i64 out, .int .i64 out, .bool false, .bool false, .int .i64 out, .bool false, .bool false, undef, undef, undef, y25, y26, y27, y28, y29, y30, y31, y32, y33, y34, y35, y36, y37, y38, y39, y40, y41, y42], []⟩

theorem KV.draw {P : Program} {H : Nat → Prop} {Tgt : Goroutine → World → Prop} {v : World} {g : Goroutine} {g' : Nat → Goroutine} {qu : Question} (hs : g.status = .running)
    (h : ∀ w, stepG P true g w = .go (g' (w.tape w.drawn qu)) { w with drawn := w.drawn + 1 } #[]) (hn : ∀ t, KV P H Tgt (g' t) v) : KV P H Tgt g v :=
  .one hs fun S w hv d => ⟨_, v, { w.at d with drawn := (w.at d).drawn + 1 }, #[], h _, ⟨hv.os, hv.output, hv.size, hv.same, hv.dead, hv.hid, hv.plain, hv.views⟩, by simp, rfl, Nat.le_refl _, fun _ _ => rfl, hn _⟩

structure FK (A1 A2 : Option Addr) (n1 c1 n2 c2 cb : Nat) (room : List Int) (us : List Un) (v0 v : World) : Prop where
  r : RdC v A1 A2 n1 n2 room us
  box : Blk v cb 26 #[.slice A1 n1 c1, .slice A2 n2 c2]
  gr : GR v0 v
structure NK (room : List Int) (us : List Un) (out tg on rs : Int) : Prop where
  hs : ShU us
  hok : clOk room us = true
  htg : (togTo us us.length).sum = tg
  hon : ((openN us : Nat) : Int) = on
  hrs : room.sum = rs
  q : 0 ≤ out
  w7 : IntKind.i64.wrap (out + tg) = out + tg
  w15 : IntKind.i64.wrap (on * rs) = on * rs
  e16 : out + tg = on * rs
theorem FK.go {A1 A2 : Option Addr} {n1 c1 n2 c2 cb : Nat} {room : List Int} {us : List Un} {v0 v v' : World} (h : FK A1 A2 n1 c1 n2 c2 cb room us v0 v) (r : GR v v') : FK A1 A2 n1 c1 n2 c2 cb room us v0 v' := ⟨h.r.gr r, h.box.grr r, h.gr.trans r⟩

section
variable {H : Nat → Prop} {Tgt : Goroutine → World → Prop} {v0 v : World} {A A1 A2 : Option Addr} {n c n1 c1 n2 c2 cb : Nat} {room : List Int} {us : List Un} {out tg on rs : Int} {kk : List Item} {cs : List Frame} {rest : List Nat}
set_option maxRecDepth 100000 in
theorem ko_0 {y2 y25 y26 y27 y28 y29 y30 y31 y32 y33 y34 y35 y36 y37 y38 y39 y40 y41 y42 : Value} (hF : FK A1 A2 n1 c1 n2 c2 cb room us v0 v) (hN : NK room us out tg on rs) (next : KV Try.prog H Tgt (G (bK.at (kAct A A1 A2 n c n1 c1 n2 c2 cb out y2 (.int .i64 out) y26 y27 y28 y29 y30 y31 y32 y33 y34 y35 y36 y37 y38 y39 y40 y41 y42) (.inRegion kOps (rest) :: kk)) cs) v) :
    KV Try.prog H Tgt (G (bK.at (kAct A A1 A2 n c n1 c1 n2 c2 cb out y2 y25 y26 y27 y28 y29 y30 y31 y32 y33 y34 y35 y36 y37 y38 y39 y40 y41 y42) (.inRegion kOps (0 :: rest) :: kk)) cs) v := by
  simp only [kAct, kOps, kBody, Try.f4, Option.getD_some] at next ⊢
  refine KV.op anaA_good rfl (by rfl) fewK (by kernel_rfl) (fun t => anaA.noTr_spec (by kernel_rfl) t) (fun v₁ hs K' hK' => ?_)
  go_simp
  refine hK' _ _ ?_
  try walk_nrm
  exact KV.heap next ⟨hs.heap.symm, hs.os.symm, hs.output.symm⟩
set_option maxRecDepth 100000 in
theorem ko_1 {y2 y26 y27 y28 y29 y30 y31 y32 y33 y34 y35 y36 y37 y38 y39 y40 y41 y42 : Value} (hF : FK A1 A2 n1 c1 n2 c2 cb room us v0 v) (hN : NK room us out tg on rs) (next : KV Try.prog H Tgt (G (bK.at (kAct A A1 A2 n c n1 c1 n2 c2 cb out y2 (.int .i64 out) (.bool true) y27 y28 y29 y30 y31 y32 y33 y34 y35 y36 y37 y38 y39 y40 y41 y42) (.inRegion kOps (rest) :: kk)) cs) v) :
    KV Try.prog H Tgt (G (bK.at (kAct A A1 A2 n c n1 c1 n2 c2 cb out y2 (.int .i64 out) y26 y27 y28 y29 y30 y31 y32 y33 y34 y35 y36 y37 y38 y39 y40 y41 y42) (.inRegion kOps (1 :: rest) :: kk)) cs) v := by
  simp only [kAct, kOps, kBody, Try.f4, Option.getD_some] at next ⊢
  refine KV.op anaA_good rfl (by rfl) fewK (by kernel_rfl) (fun t => anaA.noTr_spec (by kernel_rfl) t) (fun v₁ hs K' hK' => ?_)
  have q1 := hN.q
  have q2 : decide ((0 : Int) ≤ out) = true := decide_eq_true hN.q
  go_simp
  refine hK' _ _ ?_
  try walk_nrm
  exact KV.heap next ⟨hs.heap.symm, hs.os.symm, hs.output.symm⟩
set_option maxRecDepth 100000 in
theorem ko_2 {y2 y25 y27 y28 y29 y30 y31 y32 y33 y34 y35 y36 y37 y38 y39 y40 y41 y42 : Value} (hF : FK A1 A2 n1 c1 n2 c2 cb room us v0 v) (hN : NK room us out tg on rs) (next : KV Try.prog H Tgt (G (bK.at (kAct A A1 A2 n c n1 c1 n2 c2 cb out y2 y25 (.bool true) (.bool true) y28 y29 y30 y31 y32 y33 y34 y35 y36 y37 y38 y39 y40 y41 y42) (.inRegion kOps (rest) :: kk)) cs) v) :
    KV Try.prog H Tgt (G (bK.at (kAct A A1 A2 n c n1 c1 n2 c2 cb out y2 y25 (.bool true) y27 y28 y29 y30 y31 y32 y33 y34 y35 y36 y37 y38 y39 y40 y41 y42) (.inRegion kOps (2 :: rest) :: kk)) cs) v := by
  simp only [kAct, kOps, kBody, Try.f4, Option.getD_some] at next ⊢
  refine KV.op anaA_good rfl (by rfl) fewK (by kernel_rfl) (fun t => anaA.noTr_spec (by kernel_rfl) t) (fun v₁ hs K' hK' => ?_)
  go_simp
  refine hK' _ _ ?_
  try walk_nrm
  exact KV.heap next ⟨hs.heap.symm, hs.os.symm, hs.output.symm⟩
set_option maxRecDepth 100000 in
theorem ko_3 {y2 y25 y26 y28 y29 y30 y31 y32 y33 y34 y35 y36 y37 y38 y39 y40 y41 y42 : Value} (hF : FK A1 A2 n1 c1 n2 c2 cb room us v0 v) (hN : NK room us out tg on rs) (next : KV Try.prog H Tgt (G (bK.at (kAct A A1 A2 n c n1 c1 n2 c2 cb out y2 y25 y26 (.bool true) (.int .i64 out) y29 y30 y31 y32 y33 y34 y35 y36 y37 y38 y39 y40 y41 y42) (.inRegion kOps (rest) :: kk)) cs) v) :
    KV Try.prog H Tgt (G (bK.at (kAct A A1 A2 n c n1 c1 n2 c2 cb out y2 y25 y26 (.bool true) y28 y29 y30 y31 y32 y33 y34 y35 y36 y37 y38 y39 y40 y41 y42) (.inRegion kOps (3 :: rest) :: kk)) cs) v := by
  simp only [kAct, kOps, kBody, Try.f4, Option.getD_some] at next ⊢
  refine KV.op anaA_good rfl (by rfl) fewK (by kernel_rfl) (fun t => anaA.noTr_spec (by kernel_rfl) t) (fun v₁ hs K' hK' => ?_)
  go_simp
  refine hK' _ _ ?_
  try walk_nrm
  exact KV.heap next ⟨hs.heap.symm, hs.os.symm, hs.output.symm⟩
set_option maxRecDepth 100000 in
theorem ko_4 {y2 y25 y26 y28 y29 y30 y31 y32 y33 y34 y35 y36 y37 y38 y39 y40 y41 y42 : Value} (hF : FK A1 A2 n1 c1 n2 c2 cb room us v0 v) (hN : NK room us out tg on rs) (next : KV Try.prog H Tgt (G (bK.at (kAct A A1 A2 n c n1 c1 n2 c2 cb out y2 y25 y26 (.bool true) y28 (.agg #[.slice A1 n1 c1, .slice A2 n2 c2]) y30 y31 y32 y33 y34 y35 y36 y37 y38 y39 y40 y41 y42) (.inRegion kOps (rest) :: kk)) cs) v) :
    KV Try.prog H Tgt (G (bK.at (kAct A A1 A2 n c n1 c1 n2 c2 cb out y2 y25 y26 (.bool true) y28 y29 y30 y31 y32 y33 y34 y35 y36 y37 y38 y39 y40 y41 y42) (.inRegion kOps (4 :: rest) :: kk)) cs) v := by
  simp only [kAct, kOps, kBody, Try.f4, Option.getD_some] at next ⊢
  refine KV.op anaA_good rfl (by rfl) fewK (by kernel_rfl) (fun t => anaA.noTr_spec (by kernel_rfl) t) (fun v₁ hs K' hK' => ?_)
  have hbx := ViewOf_cells_of hF.box hs.heap
  have x0 := hbx.cell 0
  have x1 := hbx.cell 1
  simp only [gT, gZ, gS] at x0 x1
  clear hbx
  go_simp
  refine hK' _ _ ?_
  try walk_nrm
  exact KV.heap next ⟨hs.heap.symm, hs.os.symm, hs.output.symm⟩
set_option maxRecDepth 100000 in
theorem ko_5 {y2 y25 y26 y28 y30 y31 y32 y33 y34 y35 y36 y37 y38 y39 y40 y41 y42 : Value} (hF : FK A1 A2 n1 c1 n2 c2 cb room us v0 v) (hN : NK room us out tg on rs) (next : ∀ A5 c5 v', FK A1 A2 n1 c1 n2 c2 cb room us v0 v' → RdI v' v'.heap.size A5 3 (togTo us us.length) → KV Try.prog H Tgt (G (bK.at (kAct A A1 A2 n c n1 c1 n2 c2 cb out y2 y25 y26 (.bool true) y28 (.agg #[.slice A1 n1 c1, .slice A2 n2 c2]) (.slice A5 3 c5) y31 y32 y33 y34 y35 y36 y37 y38 y39 y40 y41 y42) (.inRegion kOps (rest) :: kk)) cs) v') :
    KV Try.prog H Tgt (G (bK.at (kAct A A1 A2 n c n1 c1 n2 c2 cb out y2 y25 y26 (.bool true) y28 (.agg #[.slice A1 n1 c1, .slice A2 n2 c2]) y30 y31 y32 y33 y34 y35 y36 y37 y38 y39 y40 y41 y42) (.inRegion kOps (5 :: rest) :: kk)) cs) v := by
  simp only [kAct, kOps, kBody, Try.f4, Option.getD_some] at next ⊢
  refine KV.callV rfl (by rfl) fewK rfl (Post := fun x v' => ∃ A c, x = .slice A 3 c ∧ RdI v' v'.heap.size A 3 (togTo us us.length) ∧ GR v v') ?_ (fun x v3 hp => ?_)
  · have hus := usageOf_v (H := H) (c1 := c1) (c2 := c2) hF.r hN.hs hN.hok
    simpa [Act.eval, Act.put] using hus
  obtain ⟨A5, c5, rfl, hrd, hg⟩ := hp
  try walk_nrm
  exact next A5 c5 v3 (hF.go hg) hrd
set_option maxRecDepth 100000 in
theorem ko_6 {y2 y25 y26 y28 y29 y31 y32 y33 y34 y35 y36 y37 y38 y39 y40 y41 y42 : Value} {A5 : Option Addr} {c5 : Nat} (hF : FK A1 A2 n1 c1 n2 c2 cb room us v0 v) (hN : NK room us out tg on rs) (h5 : RdI v v.heap.size A5 3 (togTo us us.length)) (next : KV Try.prog H Tgt (G (bK.at (kAct A A1 A2 n c n1 c1 n2 c2 cb out y2 y25 y26 (.bool true) y28 y29 (.slice A5 3 c5) (.int .i64 tg) y32 y33 y34 y35 y36 y37 y38 y39 y40 y41 y42) (.inRegion kOps (rest) :: kk)) cs) v) :
    KV Try.prog H Tgt (G (bK.at (kAct A A1 A2 n c n1 c1 n2 c2 cb out y2 y25 y26 (.bool true) y28 y29 (.slice A5 3 c5) y31 y32 y33 y34 y35 y36 y37 y38 y39 y40 y41 y42) (.inRegion kOps (6 :: rest) :: kk)) cs) v := by
  simp only [kAct, kOps, kBody, Try.f4, Option.getD_some] at next ⊢
  refine KV.call anaA_good (R := fun v₁ x v' => x = .int .i64 tg ∧ v' = v₁) (f := 9) (by kernel_rfl) (by kernel_rfl) rfl (by rfl) fewK rfl (fun v₁ hs => ?_) (fun v₁ x v4 hs hp => ?_)
  · have ht := sumOf_any A5 3 c5 _ _ v₁ (h5.gain (fun p y hy => (World.cell?_of_block (by rw [hs.heap])).trans hy) (by rw [hs.heap]; exact Nat.le_refl _) : RdI v₁ v₁.heap.size A5 3 (togTo us us.length)) (by omega) (fun j => by have := togTo_bd hN.hok j us.length; have := (clOk_facts hN.hok).2.2.1; omega)
    rw [hN.htg] at ht
    have ht2 : Calls Try.prog 9 #[.slice A5 3 c5] v₁ (fun e v' => ∃ x, e = .returned x ∧ x = .int .i64 tg ∧ v' = v₁) := ht.mono (by rintro e v' ⟨rfl, rfl⟩; exact ⟨_, rfl, rfl, rfl⟩)
    simpa [Act.eval, Act.put] using ht2
  obtain ⟨rfl, rfl⟩ := hp
  try walk_nrm
  exact KV.heap next ⟨hs.heap.symm, hs.os.symm, hs.output.symm⟩
set_option maxRecDepth 100000 in
theorem ko_7 {y2 y25 y26 y29 y30 y32 y33 y34 y35 y36 y37 y38 y39 y40 y41 y42 : Value} (hF : FK A1 A2 n1 c1 n2 c2 cb room us v0 v) (hN : NK room us out tg on rs) (next : KV Try.prog H Tgt (G (bK.at (kAct A A1 A2 n c n1 c1 n2 c2 cb out y2 y25 y26 (.bool true) (.int .i64 out) y29 y30 (.int .i64 tg) (.int .i64 (out + tg)) y33 y34 y35 y36 y37 y38 y39 y40 y41 y42) (.inRegion kOps (rest) :: kk)) cs) v) :
    KV Try.prog H Tgt (G (bK.at (kAct A A1 A2 n c n1 c1 n2 c2 cb out y2 y25 y26 (.bool true) (.int .i64 out) y29 y30 (.int .i64 tg) y32 y33 y34 y35 y36 y37 y38 y39 y40 y41 y42) (.inRegion kOps (7 :: rest) :: kk)) cs) v := by
  simp only [kAct, kOps, kBody, Try.f4, Option.getD_some] at next ⊢
  refine KV.op anaA_good rfl (by rfl) fewK (by kernel_rfl) (fun t => anaA.noTr_spec (by kernel_rfl) t) (fun v₁ hs K' hK' => ?_)
  have w7 := hN.w7
  go_simp
  refine hK' _ _ ?_
  try walk_nrm
  exact KV.heap next ⟨hs.heap.symm, hs.os.symm, hs.output.symm⟩
set_option maxRecDepth 100000 in
theorem ko_8 {y2 y25 y26 y28 y29 y30 y31 y32 y33 y34 y35 y36 y37 y38 y39 y40 y41 y42 : Value} (hF : FK A1 A2 n1 c1 n2 c2 cb room us v0 v) (hN : NK room us out tg on rs) (next : KV Try.prog H Tgt (G (bK.at (kAct A A1 A2 n c n1 c1 n2 c2 cb out y2 y25 y26 (.bool true) y28 y29 y30 y31 y32 (.agg #[.slice A1 n1 c1, .slice A2 n2 c2]) y34 y35 y36 y37 y38 y39 y40 y41 y42) (.inRegion kOps (rest) :: kk)) cs) v) :
    KV Try.prog H Tgt (G (bK.at (kAct A A1 A2 n c n1 c1 n2 c2 cb out y2 y25 y26 (.bool true) y28 y29 y30 y31 y32 y33 y34 y35 y36 y37 y38 y39 y40 y41 y42) (.inRegion kOps (8 :: rest) :: kk)) cs) v := by
  simp only [kAct, kOps, kBody, Try.f4, Option.getD_some] at next ⊢
  refine KV.op anaA_good rfl (by rfl) fewK (by kernel_rfl) (fun t => anaA.noTr_spec (by kernel_rfl) t) (fun v₁ hs K' hK' => ?_)
  have hbx := ViewOf_cells_of hF.box hs.heap
  have x0 := hbx.cell 0
  have x1 := hbx.cell 1
  simp only [gT, gZ, gS] at x0 x1
  clear hbx
  go_simp
  refine hK' _ _ ?_
  try walk_nrm
  exact KV.heap next ⟨hs.heap.symm, hs.os.symm, hs.output.symm⟩
set_option maxRecDepth 100000 in
theorem ko_9 {y2 y25 y26 y28 y29 y30 y31 y32 y34 y35 y36 y37 y38 y39 y40 y41 y42 : Value} (hF : FK A1 A2 n1 c1 n2 c2 cb room us v0 v) (hN : NK room us out tg on rs) (next : ∀ g cap v', FK A1 A2 n1 c1 n2 c2 cb room us v0 v' → v'.cell? ⟨g, 0, none⟩ = some (.int .i64 on) → KV Try.prog H Tgt (G (bK.at (kAct A A1 A2 n c n1 c1 n2 c2 cb out y2 y25 y26 (.bool true) y28 y29 y30 y31 y32 (.agg #[.slice A1 n1 c1, .slice A2 n2 c2]) (.slice (some ⟨g, 0, none⟩) 3 cap) y35 y36 y37 y38 y39 y40 y41 y42) (.inRegion kOps (rest) :: kk)) cs) v') :
    KV Try.prog H Tgt (G (bK.at (kAct A A1 A2 n c n1 c1 n2 c2 cb out y2 y25 y26 (.bool true) y28 y29 y30 y31 y32 (.agg #[.slice A1 n1 c1, .slice A2 n2 c2]) y34 y35 y36 y37 y38 y39 y40 y41 y42) (.inRegion kOps (9 :: rest) :: kk)) cs) v := by
  simp only [kAct, kOps, kBody, Try.f4, Option.getD_some] at next ⊢
  refine KV.call anaA_good (R := fun v₁ x v' => ∃ g cap, x = .slice (some ⟨g, 0, none⟩) 3 cap ∧ v'.cell? ⟨g, 0, none⟩ = some (.int .i64 on) ∧ GR v₁ v') (f := 15) (by kernel_rfl) (by kernel_rfl) rfl (by rfl) fewK rfl (fun v₁ hs => ?_) (fun v₁ x v4 hs hp => ?_)
  · have ht := clusterCountsI_any A1 A2 n1 c1 n2 c2 room us v₁ (hF.r.same hs.heap) hN.hs
    have ht2 : Calls Try.prog 15 #[.agg #[.slice A1 n1 c1, .slice A2 n2 c2]] v₁ (fun e v' => ∃ x, e = .returned x ∧ ∃ g cap, x = .slice (some ⟨g, 0, none⟩) 3 cap ∧ v'.cell? ⟨g, 0, none⟩ = some (.int .i64 on) ∧ GR v₁ v') := ht.mono (by
      rintro e v' ⟨A3, m3, c3, rfl, hown, hb2⟩
      rw [show cntsP room us = [(rankU us us.length : Int), (cntT us us.length : Int), (cntN us us.length : Int)] from by unfold cntsP; rw [if_pos hN.hok], openN_rank] at hown
      have hm : m3 = 3 := by have := hown.1; simpa using this.symm
      subst hm
      obtain ⟨g, cap, hv, _, hlt⟩ := hown.form (by omega)
      refine ⟨_, rfl, g, cap, hv, ?_, below_gr hb2⟩
      have := hown.cells (g := g) (by rw [hv]; rfl) 0 (.int .i64 (openN us : Nat)) rfl
      rw [← hN.hon]
      simpa [addr_add] using this)
    simpa [Act.eval, Act.put] using ht2
  obtain ⟨g, cap, rfl, hcell, hg⟩ := hp
  try walk_nrm
  exact next g cap v4 (hF.go (GR.from hs hg)) hcell
set_option maxRecDepth 100000 in
theorem ko_10 {y2 y25 y26 y28 y29 y30 y31 y32 y33 y35 y36 y37 y38 y39 y40 y41 y42 : Value} {g cap : Nat} (hF : FK A1 A2 n1 c1 n2 c2 cb room us v0 v) (hN : NK room us out tg on rs) (next : KV Try.prog H Tgt (G (bK.at (kAct A A1 A2 n c n1 c1 n2 c2 cb out y2 y25 y26 (.bool true) y28 y29 y30 y31 y32 y33 (.slice (some ⟨g, 0, none⟩) 3 cap) (.pointer (some ⟨g, 0, none⟩)) y36 y37 y38 y39 y40 y41 y42) (.inRegion kOps (rest) :: kk)) cs) v) :
    KV Try.prog H Tgt (G (bK.at (kAct A A1 A2 n c n1 c1 n2 c2 cb out y2 y25 y26 (.bool true) y28 y29 y30 y31 y32 y33 (.slice (some ⟨g, 0, none⟩) 3 cap) y35 y36 y37 y38 y39 y40 y41 y42) (.inRegion kOps (10 :: rest) :: kk)) cs) v := by
  simp only [kAct, kOps, kBody, Try.f4, Option.getD_some] at next ⊢
  refine KV.op anaA_good rfl (by rfl) fewK (by kernel_rfl) (fun t => anaA.noTr_spec (by kernel_rfl) t) (fun v₁ hs K' hK' => ?_)
  go_simp
  refine hK' _ _ ?_
  try walk_nrm
  exact KV.heap next ⟨hs.heap.symm, hs.os.symm, hs.output.symm⟩
set_option maxRecDepth 100000 in
theorem ko_11 {y2 y25 y26 y28 y29 y30 y31 y32 y33 y34 y36 y37 y38 y39 y40 y41 y42 : Value} {g : Nat} (hF : FK A1 A2 n1 c1 n2 c2 cb room us v0 v) (hN : NK room us out tg on rs) (h9 : v.cell? ⟨g, 0, none⟩ = some (.int .i64 on)) (next : KV Try.prog H Tgt (G (bK.at (kAct A A1 A2 n c n1 c1 n2 c2 cb out y2 y25 y26 (.bool true) y28 y29 y30 y31 y32 y33 y34 (.pointer (some ⟨g, 0, none⟩)) (.int .i64 on) y37 y38 y39 y40 y41 y42) (.inRegion kOps (rest) :: kk)) cs) v) :
    KV Try.prog H Tgt (G (bK.at (kAct A A1 A2 n c n1 c1 n2 c2 cb out y2 y25 y26 (.bool true) y28 y29 y30 y31 y32 y33 y34 (.pointer (some ⟨g, 0, none⟩)) y36 y37 y38 y39 y40 y41 y42) (.inRegion kOps (11 :: rest) :: kk)) cs) v := by
  simp only [kAct, kOps, kBody, Try.f4, Option.getD_some] at next ⊢
  refine KV.op anaA_good rfl (by rfl) fewK (by kernel_rfl) (fun t => anaA.noTr_spec (by kernel_rfl) t) (fun v₁ hs K' hK' => ?_)
  have x0 : v₁.cell? ⟨g, 0, none⟩ = some (.int .i64 on) := (World.cell?_of_block (by rw [hs.heap])).trans h9
  go_simp
  refine hK' _ _ ?_
  try walk_nrm
  exact KV.heap next ⟨hs.heap.symm, hs.os.symm, hs.output.symm⟩
set_option maxRecDepth 100000 in
theorem ko_12 {y2 y25 y26 y28 y29 y30 y31 y32 y33 y34 y35 y36 y37 y38 y39 y40 y41 y42 : Value} (hF : FK A1 A2 n1 c1 n2 c2 cb room us v0 v) (hN : NK room us out tg on rs) (next : KV Try.prog H Tgt (G (bK.at (kAct A A1 A2 n c n1 c1 n2 c2 cb out y2 y25 y26 (.bool true) y28 y29 y30 y31 y32 y33 y34 y35 y36 (.pointer (some ⟨cb, 0, none⟩)) y38 y39 y40 y41 y42) (.inRegion kOps (rest) :: kk)) cs) v) :
    KV Try.prog H Tgt (G (bK.at (kAct A A1 A2 n c n1 c1 n2 c2 cb out y2 y25 y26 (.bool true) y28 y29 y30 y31 y32 y33 y34 y35 y36 y37 y38 y39 y40 y41 y42) (.inRegion kOps (12 :: rest) :: kk)) cs) v := by
  simp only [kAct, kOps, kBody, Try.f4, Option.getD_some] at next ⊢
  refine KV.op anaA_good rfl (by rfl) fewK (by kernel_rfl) (fun t => anaA.noTr_spec (by kernel_rfl) t) (fun v₁ hs K' hK' => ?_)
  go_simp
  refine hK' _ _ ?_
  try walk_nrm
  exact KV.heap next ⟨hs.heap.symm, hs.os.symm, hs.output.symm⟩
set_option maxRecDepth 100000 in
theorem ko_13 {y2 y25 y26 y28 y29 y30 y31 y32 y33 y34 y35 y36 y38 y39 y40 y41 y42 : Value} (hF : FK A1 A2 n1 c1 n2 c2 cb room us v0 v) (hN : NK room us out tg on rs) (next : KV Try.prog H Tgt (G (bK.at (kAct A A1 A2 n c n1 c1 n2 c2 cb out y2 y25 y26 (.bool true) y28 y29 y30 y31 y32 y33 y34 y35 y36 (.pointer (some ⟨cb, 0, none⟩)) (.slice A1 n1 c1) y39 y40 y41 y42) (.inRegion kOps (rest) :: kk)) cs) v) :
    KV Try.prog H Tgt (G (bK.at (kAct A A1 A2 n c n1 c1 n2 c2 cb out y2 y25 y26 (.bool true) y28 y29 y30 y31 y32 y33 y34 y35 y36 (.pointer (some ⟨cb, 0, none⟩)) y38 y39 y40 y41 y42) (.inRegion kOps (13 :: rest) :: kk)) cs) v := by
  simp only [kAct, kOps, kBody, Try.f4, Option.getD_some] at next ⊢
  refine KV.op anaA_good rfl (by rfl) fewK (by kernel_rfl) (fun t => anaA.noTr_spec (by kernel_rfl) t) (fun v₁ hs K' hK' => ?_)
  have hbx := ViewOf_cells_of hF.box hs.heap
  have x0 := hbx.cell 0
  have x1 := hbx.cell 1
  simp only [gT, gZ, gS] at x0 x1
  clear hbx
  go_simp
  refine hK' _ _ ?_
  try walk_nrm
  exact KV.heap next ⟨hs.heap.symm, hs.os.symm, hs.output.symm⟩
set_option maxRecDepth 100000 in
theorem ko_14 {y2 y25 y26 y28 y29 y30 y31 y32 y33 y34 y35 y36 y37 y39 y40 y41 y42 : Value} (hF : FK A1 A2 n1 c1 n2 c2 cb room us v0 v) (hN : NK room us out tg on rs) (next : KV Try.prog H Tgt (G (bK.at (kAct A A1 A2 n c n1 c1 n2 c2 cb out y2 y25 y26 (.bool true) y28 y29 y30 y31 y32 y33 y34 y35 y36 y37 (.slice A1 n1 c1) (.int .i64 rs) y40 y41 y42) (.inRegion kOps (rest) :: kk)) cs) v) :
    KV Try.prog H Tgt (G (bK.at (kAct A A1 A2 n c n1 c1 n2 c2 cb out y2 y25 y26 (.bool true) y28 y29 y30 y31 y32 y33 y34 y35 y36 y37 (.slice A1 n1 c1) y39 y40 y41 y42) (.inRegion kOps (14 :: rest) :: kk)) cs) v := by
  simp only [kAct, kOps, kBody, Try.f4, Option.getD_some] at next ⊢
  refine KV.call anaA_good (R := fun v₁ x v' => x = .int .i64 rs ∧ v' = v₁) (f := 9) (by kernel_rfl) (by kernel_rfl) rfl (by rfl) fewK rfl (fun v₁ hs => ?_) (fun v₁ x v4 hs hp => ?_)
  · have ht := sumOf_any A1 n1 c1 _ _ v₁ (hF.r.a.gain (fun p y hy => (World.cell?_of_block (by rw [hs.heap])).trans hy) (by rw [hs.heap]; exact Nat.le_refl _) : RdI v₁ v₁.heap.size A1 n1 room) (by have := (clOk_facts hN.hok).1; have := hF.r.a.len; omega) (fun j => by have := (uok_of hN.hok).2.2.1 j; omega)
    rw [hN.hrs] at ht
    have ht2 : Calls Try.prog 9 #[.slice A1 n1 c1] v₁ (fun e v' => ∃ x, e = .returned x ∧ x = .int .i64 rs ∧ v' = v₁) := ht.mono (by rintro e v' ⟨rfl, rfl⟩; exact ⟨_, rfl, rfl, rfl⟩)
    simpa [Act.eval, Act.put] using ht2
  obtain ⟨rfl, rfl⟩ := hp
  try walk_nrm
  exact KV.heap next ⟨hs.heap.symm, hs.os.symm, hs.output.symm⟩
set_option maxRecDepth 100000 in
theorem ko_15 {y2 y25 y26 y28 y29 y30 y31 y32 y33 y34 y35 y37 y38 y40 y41 y42 : Value} (hF : FK A1 A2 n1 c1 n2 c2 cb room us v0 v) (hN : NK room us out tg on rs) (next : KV Try.prog H Tgt (G (bK.at (kAct A A1 A2 n c n1 c1 n2 c2 cb out y2 y25 y26 (.bool true) y28 y29 y30 y31 y32 y33 y34 y35 (.int .i64 on) y37 y38 (.int .i64 rs) (.int .i64 (on * rs)) y41 y42) (.inRegion kOps (rest) :: kk)) cs) v) :
    KV Try.prog H Tgt (G (bK.at (kAct A A1 A2 n c n1 c1 n2 c2 cb out y2 y25 y26 (.bool true) y28 y29 y30 y31 y32 y33 y34 y35 (.int .i64 on) y37 y38 (.int .i64 rs) y40 y41 y42) (.inRegion kOps (15 :: rest) :: kk)) cs) v := by
  simp only [kAct, kOps, kBody, Try.f4, Option.getD_some] at next ⊢
  refine KV.op anaA_good rfl (by rfl) fewK (by kernel_rfl) (fun t => anaA.noTr_spec (by kernel_rfl) t) (fun v₁ hs K' hK' => ?_)
  have w15 := hN.w15
  go_simp
  refine hK' _ _ ?_
  try walk_nrm
  exact KV.heap next ⟨hs.heap.symm, hs.os.symm, hs.output.symm⟩
set_option maxRecDepth 100000 in
theorem ko_16 {y2 y25 y26 y28 y29 y30 y31 y33 y34 y35 y36 y37 y38 y39 y41 y42 : Value} (hF : FK A1 A2 n1 c1 n2 c2 cb room us v0 v) (hN : NK room us out tg on rs) (next : KV Try.prog H Tgt (G (bK.at (kAct A A1 A2 n c n1 c1 n2 c2 cb out y2 y25 y26 (.bool true) y28 y29 y30 y31 (.int .i64 (out + tg)) y33 y34 y35 y36 y37 y38 y39 (.int .i64 (on * rs)) (.bool true) y42) (.inRegion kOps (rest) :: kk)) cs) v) :
    KV Try.prog H Tgt (G (bK.at (kAct A A1 A2 n c n1 c1 n2 c2 cb out y2 y25 y26 (.bool true) y28 y29 y30 y31 (.int .i64 (out + tg)) y33 y34 y35 y36 y37 y38 y39 (.int .i64 (on * rs)) y41 y42) (.inRegion kOps (16 :: rest) :: kk)) cs) v := by
  simp only [kAct, kOps, kBody, Try.f4, Option.getD_some] at next ⊢
  refine KV.op anaA_good rfl (by rfl) fewK (by kernel_rfl) (fun t => anaA.noTr_spec (by kernel_rfl) t) (fun v₁ hs K' hK' => ?_)
  have e16 : ((out + tg) == on * rs) = true := by rw [hN.e16]; simp
  go_simp
  refine hK' _ _ ?_
  try walk_nrm
  exact KV.heap next ⟨hs.heap.symm, hs.os.symm, hs.output.symm⟩
set_option maxRecDepth 100000 in
theorem ko_17 {y2 y25 y26 y28 y29 y30 y31 y32 y33 y34 y35 y36 y37 y38 y39 y40 y42 : Value} (hF : FK A1 A2 n1 c1 n2 c2 cb room us v0 v) (hN : NK room us out tg on rs) (next : KV Try.prog H Tgt (G (bK.at (kAct A A1 A2 n c n1 c1 n2 c2 cb out y2 y25 y26 (.bool true) y28 y29 y30 y31 y32 y33 y34 y35 y36 y37 y38 y39 y40 (.bool true) (.bool true)) (.inRegion kOps (rest) :: kk)) cs) v) :
    KV Try.prog H Tgt (G (bK.at (kAct A A1 A2 n c n1 c1 n2 c2 cb out y2 y25 y26 (.bool true) y28 y29 y30 y31 y32 y33 y34 y35 y36 y37 y38 y39 y40 (.bool true) y42) (.inRegion kOps (17 :: rest) :: kk)) cs) v := by
  simp only [kAct, kOps, kBody, Try.f4, Option.getD_some] at next ⊢
  refine KV.op anaA_good rfl (by rfl) fewK (by kernel_rfl) (fun t => anaA.noTr_spec (by kernel_rfl) t) (fun v₁ hs K' hK' => ?_)
  go_simp
  refine hK' _ _ ?_
  try walk_nrm
  exact KV.heap next ⟨hs.heap.symm, hs.os.symm, hs.output.symm⟩
set_option maxRecDepth 100000 in
theorem ko_18 {y2 y25 y26 y27 y28 y29 y30 y31 y32 y33 y34 y35 y36 y37 y38 y39 y40 y41 : Value} (hF : FK A1 A2 n1 c1 n2 c2 cb room us v0 v) (hN : NK room us out tg on rs) (next : KV Try.prog H Tgt (G (bK.at (kAct A A1 A2 n c n1 c1 n2 c2 cb out (.bool true) y25 y26 y27 y28 y29 y30 y31 y32 y33 y34 y35 y36 y37 y38 y39 y40 y41 (.bool true)) (.inRegion kOps (rest) :: kk)) cs) v) :
    KV Try.prog H Tgt (G (bK.at (kAct A A1 A2 n c n1 c1 n2 c2 cb out y2 y25 y26 y27 y28 y29 y30 y31 y32 y33 y34 y35 y36 y37 y38 y39 y40 y41 (.bool true)) (.inRegion kOps (18 :: rest) :: kk)) cs) v := by
  simp only [kAct, kOps, kBody, Try.f4, Option.getD_some] at next ⊢
  refine KV.op anaA_good rfl (by rfl) fewK (by kernel_rfl) (fun t => anaA.noTr_spec (by kernel_rfl) t) (fun v₁ hs K' hK' => ?_)
  go_simp
  refine hK' _ _ ?_
  try walk_nrm
  exact KV.heap next ⟨hs.heap.symm, hs.os.symm, hs.output.symm⟩
end
section
variable {H : Nat → Prop} {Tgt : Goroutine → World → Prop} {v0 v : World} {A A1 A2 : Option Addr} {n c n1 c1 n2 c2 cb : Nat} {room : List Int} {us : List Un} {out tg on rs : Int} {kk : List Item} {cs : List Frame}
theorem ks_0_1_2_3_4_5_6_7_8_9_10_11_12_13_14_15_16_17_18 (A5 : Option Addr) (c5 : Nat) (g cap : Nat) (t : Nat) (hF : FK A1 A2 n1 c1 n2 c2 cb room us v0 v) (hN : NK room us out tg on rs) (hend : ∀ (y : Act) v, FK A1 A2 n1 c1 n2 c2 cb room us v0 v → y.defers = [] → y.tmps.size = 43 → y.tmps[2]? = some (.bool true) → KV Try.prog H Tgt (G (bK.at y (.inRegion kOps [] :: kk)) cs) v) :
    KV Try.prog H Tgt (G (bK.at (kAct A A1 A2 n c n1 c1 n2 c2 cb out (.bool true) (.int .i64 out) (.bool true) (.bool true) (.int .i64 out) (.agg #[.slice A1 n1 c1, .slice A2 n2 c2]) (.slice A5 3 c5) (.int .i64 tg) (.int .i64 (out + tg)) (.agg #[.slice A1 n1 c1, .slice A2 n2 c2]) (.slice (some ⟨g, 0, none⟩) 3 cap) (.pointer (some ⟨g, 0, none⟩)) (.int .i64 on) (.pointer (some ⟨cb, 0, none⟩)) (.slice A1 n1 c1) (.int .i64 rs) (.int .i64 (on * rs)) (.bool true) (.bool true)) (.inRegion kOps (Region.linearise.go .any kOps 0 t #[true, true, true, true, true, true, true, true, true, true, true, true, true, true, true, true, true, true, true] []) :: kk)) cs) v := by
  exact hend _ v hF rfl rfl rfl
theorem ks_0_1_2_3_4_5_6_7_8_9_10_11_12_13_14_15_16_17 (A5 : Option Addr) (c5 : Nat) (g cap : Nat) (t : Nat) (hF : FK A1 A2 n1 c1 n2 c2 cb room us v0 v) (hN : NK room us out tg on rs) (hend : ∀ (y : Act) v, FK A1 A2 n1 c1 n2 c2 cb room us v0 v → y.defers = [] → y.tmps.size = 43 → y.tmps[2]? = some (.bool true) → KV Try.prog H Tgt (G (bK.at y (.inRegion kOps [] :: kk)) cs) v) :
    KV Try.prog H Tgt (G (bK.at (kAct A A1 A2 n c n1 c1 n2 c2 cb out (.bool false) (.int .i64 out) (.bool true) (.bool true) (.int .i64 out) (.agg #[.slice A1 n1 c1, .slice A2 n2 c2]) (.slice A5 3 c5) (.int .i64 tg) (.int .i64 (out + tg)) (.agg #[.slice A1 n1 c1, .slice A2 n2 c2]) (.slice (some ⟨g, 0, none⟩) 3 cap) (.pointer (some ⟨g, 0, none⟩)) (.int .i64 on) (.pointer (some ⟨cb, 0, none⟩)) (.slice A1 n1 c1) (.int .i64 rs) (.int .i64 (on * rs)) (.bool true) (.bool true)) (.inRegion kOps (Region.linearise.go .any kOps 1 t #[true, true, true, true, true, true, true, true, true, true, true, true, true, true, true, true, true, true, false] []) :: kk)) cs) v := by
  obtain ⟨i, hi, t', e⟩ := go_some (md := .any) (ops := kOps) (fuel := 0) (t := t) (listed := #[true, true, true, true, true, true, true, true, true, true, true, true, true, true, true, true, true, true, false]) (rs := [18]) (by kernel_rfl) (by simp)
  rw [e]
  clear e
  simp only [List.mem_cons, List.not_mem_nil, or_false] at hi
  rcases hi with rfl
  · exact ko_18 hF hN (ks_0_1_2_3_4_5_6_7_8_9_10_11_12_13_14_15_16_17_18 A5 c5 g cap t' hF hN hend)
theorem ks_0_1_2_3_4_5_6_7_8_9_10_11_12_13_14_15_16 (A5 : Option Addr) (c5 : Nat) (g cap : Nat) (t : Nat) (hF : FK A1 A2 n1 c1 n2 c2 cb room us v0 v) (hN : NK room us out tg on rs) (hend : ∀ (y : Act) v, FK A1 A2 n1 c1 n2 c2 cb room us v0 v → y.defers = [] → y.tmps.size = 43 → y.tmps[2]? = some (.bool true) → KV Try.prog H Tgt (G (bK.at y (.inRegion kOps [] :: kk)) cs) v) :
    KV Try.prog H Tgt (G (bK.at (kAct A A1 A2 n c n1 c1 n2 c2 cb out (.bool false) (.int .i64 out) (.bool true) (.bool true) (.int .i64 out) (.agg #[.slice A1 n1 c1, .slice A2 n2 c2]) (.slice A5 3 c5) (.int .i64 tg) (.int .i64 (out + tg)) (.agg #[.slice A1 n1 c1, .slice A2 n2 c2]) (.slice (some ⟨g, 0, none⟩) 3 cap) (.pointer (some ⟨g, 0, none⟩)) (.int .i64 on) (.pointer (some ⟨cb, 0, none⟩)) (.slice A1 n1 c1) (.int .i64 rs) (.int .i64 (on * rs)) (.bool true) undef) (.inRegion kOps (Region.linearise.go .any kOps 2 t #[true, true, true, true, true, true, true, true, true, true, true, true, true, true, true, true, true, false, false] []) :: kk)) cs) v := by
  obtain ⟨i, hi, t', e⟩ := go_some (md := .any) (ops := kOps) (fuel := 1) (t := t) (listed := #[true, true, true, true, true, true, true, true, true, true, true, true, true, true, true, true, true, false, false]) (rs := [17]) (by kernel_rfl) (by simp)
  rw [e]
  clear e
  simp only [List.mem_cons, List.not_mem_nil, or_false] at hi
  rcases hi with rfl
  · exact ko_17 hF hN (ks_0_1_2_3_4_5_6_7_8_9_10_11_12_13_14_15_16_17 A5 c5 g cap t' hF hN hend)
theorem ks_0_1_2_3_4_5_6_7_8_9_10_11_12_13_14_15 (A5 : Option Addr) (c5 : Nat) (g cap : Nat) (t : Nat) (hF : FK A1 A2 n1 c1 n2 c2 cb room us v0 v) (hN : NK room us out tg on rs) (hend : ∀ (y : Act) v, FK A1 A2 n1 c1 n2 c2 cb room us v0 v → y.defers = [] → y.tmps.size = 43 → y.tmps[2]? = some (.bool true) → KV Try.prog H Tgt (G (bK.at y (.inRegion kOps [] :: kk)) cs) v) :
    KV Try.prog H Tgt (G (bK.at (kAct A A1 A2 n c n1 c1 n2 c2 cb out (.bool false) (.int .i64 out) (.bool true) (.bool true) (.int .i64 out) (.agg #[.slice A1 n1 c1, .slice A2 n2 c2]) (.slice A5 3 c5) (.int .i64 tg) (.int .i64 (out + tg)) (.agg #[.slice A1 n1 c1, .slice A2 n2 c2]) (.slice (some ⟨g, 0, none⟩) 3 cap) (.pointer (some ⟨g, 0, none⟩)) (.int .i64 on) (.pointer (some ⟨cb, 0, none⟩)) (.slice A1 n1 c1) (.int .i64 rs) (.int .i64 (on * rs)) undef undef) (.inRegion kOps (Region.linearise.go .any kOps 3 t #[true, true, true, true, true, true, true, true, true, true, true, true, true, true, true, true, false, false, false] []) :: kk)) cs) v := by
  obtain ⟨i, hi, t', e⟩ := go_some (md := .any) (ops := kOps) (fuel := 2) (t := t) (listed := #[true, true, true, true, true, true, true, true, true, true, true, true, true, true, true, true, false, false, false]) (rs := [16]) (by kernel_rfl) (by simp)
  rw [e]
  clear e
  simp only [List.mem_cons, List.not_mem_nil, or_false] at hi
  rcases hi with rfl
  · exact ko_16 hF hN (ks_0_1_2_3_4_5_6_7_8_9_10_11_12_13_14_15_16 A5 c5 g cap t' hF hN hend)
theorem ks_0_1_2_3_4_5_6_7_8_9_10_11_12_13_14 (A5 : Option Addr) (c5 : Nat) (g cap : Nat) (t : Nat) (hF : FK A1 A2 n1 c1 n2 c2 cb room us v0 v) (hN : NK room us out tg on rs) (hend : ∀ (y : Act) v, FK A1 A2 n1 c1 n2 c2 cb room us v0 v → y.defers = [] → y.tmps.size = 43 → y.tmps[2]? = some (.bool true) → KV Try.prog H Tgt (G (bK.at y (.inRegion kOps [] :: kk)) cs) v) :
    KV Try.prog H Tgt (G (bK.at (kAct A A1 A2 n c n1 c1 n2 c2 cb out (.bool false) (.int .i64 out) (.bool true) (.bool true) (.int .i64 out) (.agg #[.slice A1 n1 c1, .slice A2 n2 c2]) (.slice A5 3 c5) (.int .i64 tg) (.int .i64 (out + tg)) (.agg #[.slice A1 n1 c1, .slice A2 n2 c2]) (.slice (some ⟨g, 0, none⟩) 3 cap) (.pointer (some ⟨g, 0, none⟩)) (.int .i64 on) (.pointer (some ⟨cb, 0, none⟩)) (.slice A1 n1 c1) (.int .i64 rs) undef undef undef) (.inRegion kOps (Region.linearise.go .any kOps 4 t #[true, true, true, true, true, true, true, true, true, true, true, true, true, true, true, false, false, false, false] []) :: kk)) cs) v := by
  obtain ⟨i, hi, t', e⟩ := go_some (md := .any) (ops := kOps) (fuel := 3) (t := t) (listed := #[true, true, true, true, true, true, true, true, true, true, true, true, true, true, true, false, false, false, false]) (rs := [15]) (by kernel_rfl) (by simp)
  rw [e]
  clear e
  simp only [List.mem_cons, List.not_mem_nil, or_false] at hi
  rcases hi with rfl
  · exact ko_15 hF hN (ks_0_1_2_3_4_5_6_7_8_9_10_11_12_13_14_15 A5 c5 g cap t' hF hN hend)
theorem ks_0_1_2_3_4_5_6_8_9_10_11_12_13_14_15 (A5 : Option Addr) (c5 : Nat) (g cap : Nat) (t : Nat) (hF : FK A1 A2 n1 c1 n2 c2 cb room us v0 v) (hN : NK room us out tg on rs) (hend : ∀ (y : Act) v, FK A1 A2 n1 c1 n2 c2 cb room us v0 v → y.defers = [] → y.tmps.size = 43 → y.tmps[2]? = some (.bool true) → KV Try.prog H Tgt (G (bK.at y (.inRegion kOps [] :: kk)) cs) v) :
    KV Try.prog H Tgt (G (bK.at (kAct A A1 A2 n c n1 c1 n2 c2 cb out (.bool false) (.int .i64 out) (.bool true) (.bool true) (.int .i64 out) (.agg #[.slice A1 n1 c1, .slice A2 n2 c2]) (.slice A5 3 c5) (.int .i64 tg) undef (.agg #[.slice A1 n1 c1, .slice A2 n2 c2]) (.slice (some ⟨g, 0, none⟩) 3 cap) (.pointer (some ⟨g, 0, none⟩)) (.int .i64 on) (.pointer (some ⟨cb, 0, none⟩)) (.slice A1 n1 c1) (.int .i64 rs) (.int .i64 (on * rs)) undef undef) (.inRegion kOps (Region.linearise.go .any kOps 4 t #[true, true, true, true, true, true, true, false, true, true, true, true, true, true, true, true, false, false, false] []) :: kk)) cs) v := by
  obtain ⟨i, hi, t', e⟩ := go_some (md := .any) (ops := kOps) (fuel := 3) (t := t) (listed := #[true, true, true, true, true, true, true, false, true, true, true, true, true, true, true, true, false, false, false]) (rs := [7]) (by kernel_rfl) (by simp)
  rw [e]
  clear e
  simp only [List.mem_cons, List.not_mem_nil, or_false] at hi
  rcases hi with rfl
  · exact ko_7 hF hN (ks_0_1_2_3_4_5_6_7_8_9_10_11_12_13_14_15 A5 c5 g cap t' hF hN hend)
theorem ks_0_1_2_3_4_5_6_7_8_9_10_11_12_13 (A5 : Option Addr) (c5 : Nat) (g cap : Nat) (t : Nat) (hF : FK A1 A2 n1 c1 n2 c2 cb room us v0 v) (hN : NK room us out tg on rs) (hend : ∀ (y : Act) v, FK A1 A2 n1 c1 n2 c2 cb room us v0 v → y.defers = [] → y.tmps.size = 43 → y.tmps[2]? = some (.bool true) → KV Try.prog H Tgt (G (bK.at y (.inRegion kOps [] :: kk)) cs) v) :
    KV Try.prog H Tgt (G (bK.at (kAct A A1 A2 n c n1 c1 n2 c2 cb out (.bool false) (.int .i64 out) (.bool true) (.bool true) (.int .i64 out) (.agg #[.slice A1 n1 c1, .slice A2 n2 c2]) (.slice A5 3 c5) (.int .i64 tg) (.int .i64 (out + tg)) (.agg #[.slice A1 n1 c1, .slice A2 n2 c2]) (.slice (some ⟨g, 0, none⟩) 3 cap) (.pointer (some ⟨g, 0, none⟩)) (.int .i64 on) (.pointer (some ⟨cb, 0, none⟩)) (.slice A1 n1 c1) undef undef undef undef) (.inRegion kOps (Region.linearise.go .any kOps 5 t #[true, true, true, true, true, true, true, true, true, true, true, true, true, true, false, false, false, false, false] []) :: kk)) cs) v := by
  obtain ⟨i, hi, t', e⟩ := go_some (md := .any) (ops := kOps) (fuel := 4) (t := t) (listed := #[true, true, true, true, true, true, true, true, true, true, true, true, true, true, false, false, false, false, false]) (rs := [14]) (by kernel_rfl) (by simp)
  rw [e]
  clear e
  simp only [List.mem_cons, List.not_mem_nil, or_false] at hi
  rcases hi with rfl
  · exact ko_14 hF hN (ks_0_1_2_3_4_5_6_7_8_9_10_11_12_13_14 A5 c5 g cap t' hF hN hend)
theorem ks_0_1_2_3_4_5_6_7_8_9_10_12_13_14 (A5 : Option Addr) (c5 : Nat) (g cap : Nat) (t : Nat) (hF : FK A1 A2 n1 c1 n2 c2 cb room us v0 v) (hN : NK room us out tg on rs) (h9 : v.cell? ⟨g, 0, none⟩ = some (.int .i64 on)) (hend : ∀ (y : Act) v, FK A1 A2 n1 c1 n2 c2 cb room us v0 v → y.defers = [] → y.tmps.size = 43 → y.tmps[2]? = some (.bool true) → KV Try.prog H Tgt (G (bK.at y (.inRegion kOps [] :: kk)) cs) v) :
    KV Try.prog H Tgt (G (bK.at (kAct A A1 A2 n c n1 c1 n2 c2 cb out (.bool false) (.int .i64 out) (.bool true) (.bool true) (.int .i64 out) (.agg #[.slice A1 n1 c1, .slice A2 n2 c2]) (.slice A5 3 c5) (.int .i64 tg) (.int .i64 (out + tg)) (.agg #[.slice A1 n1 c1, .slice A2 n2 c2]) (.slice (some ⟨g, 0, none⟩) 3 cap) (.pointer (some ⟨g, 0, none⟩)) undef (.pointer (some ⟨cb, 0, none⟩)) (.slice A1 n1 c1) (.int .i64 rs) undef undef undef) (.inRegion kOps (Region.linearise.go .any kOps 5 t #[true, true, true, true, true, true, true, true, true, true, true, false, true, true, true, false, false, false, false] []) :: kk)) cs) v := by
  obtain ⟨i, hi, t', e⟩ := go_some (md := .any) (ops := kOps) (fuel := 4) (t := t) (listed := #[true, true, true, true, true, true, true, true, true, true, true, false, true, true, true, false, false, false, false]) (rs := [11]) (by kernel_rfl) (by simp)
  rw [e]
  clear e
  simp only [List.mem_cons, List.not_mem_nil, or_false] at hi
  rcases hi with rfl
  · exact ko_11 hF hN h9 (ks_0_1_2_3_4_5_6_7_8_9_10_11_12_13_14 A5 c5 g cap t' hF hN hend)
theorem ks_0_1_2_3_4_5_6_8_9_10_11_12_13_14 (A5 : Option Addr) (c5 : Nat) (g cap : Nat) (t : Nat) (hF : FK A1 A2 n1 c1 n2 c2 cb room us v0 v) (hN : NK room us out tg on rs) (hend : ∀ (y : Act) v, FK A1 A2 n1 c1 n2 c2 cb room us v0 v → y.defers = [] → y.tmps.size = 43 → y.tmps[2]? = some (.bool true) → KV Try.prog H Tgt (G (bK.at y (.inRegion kOps [] :: kk)) cs) v) :
    KV Try.prog H Tgt (G (bK.at (kAct A A1 A2 n c n1 c1 n2 c2 cb out (.bool false) (.int .i64 out) (.bool true) (.bool true) (.int .i64 out) (.agg #[.slice A1 n1 c1, .slice A2 n2 c2]) (.slice A5 3 c5) (.int .i64 tg) undef (.agg #[.slice A1 n1 c1, .slice A2 n2 c2]) (.slice (some ⟨g, 0, none⟩) 3 cap) (.pointer (some ⟨g, 0, none⟩)) (.int .i64 on) (.pointer (some ⟨cb, 0, none⟩)) (.slice A1 n1 c1) (.int .i64 rs) undef undef undef) (.inRegion kOps (Region.linearise.go .any kOps 5 t #[true, true, true, true, true, true, true, false, true, true, true, true, true, true, true, false, false, false, false] []) :: kk)) cs) v := by
  obtain ⟨i, hi, t', e⟩ := go_some (md := .any) (ops := kOps) (fuel := 4) (t := t) (listed := #[true, true, true, true, true, true, true, false, true, true, true, true, true, true, true, false, false, false, false]) (rs := [7, 15]) (by kernel_rfl) (by simp)
  rw [e]
  clear e
  simp only [List.mem_cons, List.not_mem_nil, or_false] at hi
  rcases hi with rfl | rfl
  · exact ko_7 hF hN (ks_0_1_2_3_4_5_6_7_8_9_10_11_12_13_14 A5 c5 g cap t' hF hN hend)
  · exact ko_15 hF hN (ks_0_1_2_3_4_5_6_8_9_10_11_12_13_14_15 A5 c5 g cap t' hF hN hend)
theorem ks_0_1_2_4_5_6_8_9_10_11_12_13_14_15 (A5 : Option Addr) (c5 : Nat) (g cap : Nat) (t : Nat) (hF : FK A1 A2 n1 c1 n2 c2 cb room us v0 v) (hN : NK room us out tg on rs) (hend : ∀ (y : Act) v, FK A1 A2 n1 c1 n2 c2 cb room us v0 v → y.defers = [] → y.tmps.size = 43 → y.tmps[2]? = some (.bool true) → KV Try.prog H Tgt (G (bK.at y (.inRegion kOps [] :: kk)) cs) v) :
    KV Try.prog H Tgt (G (bK.at (kAct A A1 A2 n c n1 c1 n2 c2 cb out (.bool false) (.int .i64 out) (.bool true) (.bool true) undef (.agg #[.slice A1 n1 c1, .slice A2 n2 c2]) (.slice A5 3 c5) (.int .i64 tg) undef (.agg #[.slice A1 n1 c1, .slice A2 n2 c2]) (.slice (some ⟨g, 0, none⟩) 3 cap) (.pointer (some ⟨g, 0, none⟩)) (.int .i64 on) (.pointer (some ⟨cb, 0, none⟩)) (.slice A1 n1 c1) (.int .i64 rs) (.int .i64 (on * rs)) undef undef) (.inRegion kOps (Region.linearise.go .any kOps 5 t #[true, true, true, false, true, true, true, false, true, true, true, true, true, true, true, true, false, false, false] []) :: kk)) cs) v := by
  obtain ⟨i, hi, t', e⟩ := go_some (md := .any) (ops := kOps) (fuel := 4) (t := t) (listed := #[true, true, true, false, true, true, true, false, true, true, true, true, true, true, true, true, false, false, false]) (rs := [3]) (by kernel_rfl) (by simp)
  rw [e]
  clear e
  simp only [List.mem_cons, List.not_mem_nil, or_false] at hi
  rcases hi with rfl
  · exact ko_3 hF hN (ks_0_1_2_3_4_5_6_8_9_10_11_12_13_14_15 A5 c5 g cap t' hF hN hend)
theorem ks_0_1_2_3_4_5_6_7_8_9_10_11_12 (A5 : Option Addr) (c5 : Nat) (g cap : Nat) (t : Nat) (hF : FK A1 A2 n1 c1 n2 c2 cb room us v0 v) (hN : NK room us out tg on rs) (hend : ∀ (y : Act) v, FK A1 A2 n1 c1 n2 c2 cb room us v0 v → y.defers = [] → y.tmps.size = 43 → y.tmps[2]? = some (.bool true) → KV Try.prog H Tgt (G (bK.at y (.inRegion kOps [] :: kk)) cs) v) :
    KV Try.prog H Tgt (G (bK.at (kAct A A1 A2 n c n1 c1 n2 c2 cb out (.bool false) (.int .i64 out) (.bool true) (.bool true) (.int .i64 out) (.agg #[.slice A1 n1 c1, .slice A2 n2 c2]) (.slice A5 3 c5) (.int .i64 tg) (.int .i64 (out + tg)) (.agg #[.slice A1 n1 c1, .slice A2 n2 c2]) (.slice (some ⟨g, 0, none⟩) 3 cap) (.pointer (some ⟨g, 0, none⟩)) (.int .i64 on) (.pointer (some ⟨cb, 0, none⟩)) undef undef undef undef undef) (.inRegion kOps (Region.linearise.go .any kOps 6 t #[true, true, true, true, true, true, true, true, true, true, true, true, true, false, false, false, false, false, false] []) :: kk)) cs) v := by
  obtain ⟨i, hi, t', e⟩ := go_some (md := .any) (ops := kOps) (fuel := 5) (t := t) (listed := #[true, true, true, true, true, true, true, true, true, true, true, true, true, false, false, false, false, false, false]) (rs := [13]) (by kernel_rfl) (by simp)
  rw [e]
  clear e
  simp only [List.mem_cons, List.not_mem_nil, or_false] at hi
  rcases hi with rfl
  · exact ko_13 hF hN (ks_0_1_2_3_4_5_6_7_8_9_10_11_12_13 A5 c5 g cap t' hF hN hend)
theorem ks_0_1_2_3_4_5_6_7_8_9_10_12_13 (A5 : Option Addr) (c5 : Nat) (g cap : Nat) (t : Nat) (hF : FK A1 A2 n1 c1 n2 c2 cb room us v0 v) (hN : NK room us out tg on rs) (h9 : v.cell? ⟨g, 0, none⟩ = some (.int .i64 on)) (hend : ∀ (y : Act) v, FK A1 A2 n1 c1 n2 c2 cb room us v0 v → y.defers = [] → y.tmps.size = 43 → y.tmps[2]? = some (.bool true) → KV Try.prog H Tgt (G (bK.at y (.inRegion kOps [] :: kk)) cs) v) :
    KV Try.prog H Tgt (G (bK.at (kAct A A1 A2 n c n1 c1 n2 c2 cb out (.bool false) (.int .i64 out) (.bool true) (.bool true) (.int .i64 out) (.agg #[.slice A1 n1 c1, .slice A2 n2 c2]) (.slice A5 3 c5) (.int .i64 tg) (.int .i64 (out + tg)) (.agg #[.slice A1 n1 c1, .slice A2 n2 c2]) (.slice (some ⟨g, 0, none⟩) 3 cap) (.pointer (some ⟨g, 0, none⟩)) undef (.pointer (some ⟨cb, 0, none⟩)) (.slice A1 n1 c1) undef undef undef undef) (.inRegion kOps (Region.linearise.go .any kOps 6 t #[true, true, true, true, true, true, true, true, true, true, true, false, true, true, false, false, false, false, false] []) :: kk)) cs) v := by
  obtain ⟨i, hi, t', e⟩ := go_some (md := .any) (ops := kOps) (fuel := 5) (t := t) (listed := #[true, true, true, true, true, true, true, true, true, true, true, false, true, true, false, false, false, false, false]) (rs := [11, 14]) (by kernel_rfl) (by simp)
  rw [e]
  clear e
  simp only [List.mem_cons, List.not_mem_nil, or_false] at hi
  rcases hi with rfl | rfl
  · exact ko_11 hF hN h9 (ks_0_1_2_3_4_5_6_7_8_9_10_11_12_13 A5 c5 g cap t' hF hN hend)
  · exact ko_14 hF hN (ks_0_1_2_3_4_5_6_7_8_9_10_12_13_14 A5 c5 g cap t' hF hN h9 hend)
theorem ks_0_1_2_3_4_5_6_7_8_9_12_13_14 (A5 : Option Addr) (c5 : Nat) (g cap : Nat) (t : Nat) (hF : FK A1 A2 n1 c1 n2 c2 cb room us v0 v) (hN : NK room us out tg on rs) (h9 : v.cell? ⟨g, 0, none⟩ = some (.int .i64 on)) (hend : ∀ (y : Act) v, FK A1 A2 n1 c1 n2 c2 cb room us v0 v → y.defers = [] → y.tmps.size = 43 → y.tmps[2]? = some (.bool true) → KV Try.prog H Tgt (G (bK.at y (.inRegion kOps [] :: kk)) cs) v) :
    KV Try.prog H Tgt (G (bK.at (kAct A A1 A2 n c n1 c1 n2 c2 cb out (.bool false) (.int .i64 out) (.bool true) (.bool true) (.int .i64 out) (.agg #[.slice A1 n1 c1, .slice A2 n2 c2]) (.slice A5 3 c5) (.int .i64 tg) (.int .i64 (out + tg)) (.agg #[.slice A1 n1 c1, .slice A2 n2 c2]) (.slice (some ⟨g, 0, none⟩) 3 cap) undef undef (.pointer (some ⟨cb, 0, none⟩)) (.slice A1 n1 c1) (.int .i64 rs) undef undef undef) (.inRegion kOps (Region.linearise.go .any kOps 6 t #[true, true, true, true, true, true, true, true, true, true, false, false, true, true, true, false, false, false, false] []) :: kk)) cs) v := by
  obtain ⟨i, hi, t', e⟩ := go_some (md := .any) (ops := kOps) (fuel := 5) (t := t) (listed := #[true, true, true, true, true, true, true, true, true, true, false, false, true, true, true, false, false, false, false]) (rs := [10]) (by kernel_rfl) (by simp)
  rw [e]
  clear e
  simp only [List.mem_cons, List.not_mem_nil, or_false] at hi
  rcases hi with rfl
  · exact ko_10 hF hN (ks_0_1_2_3_4_5_6_7_8_9_10_12_13_14 A5 c5 g cap t' hF hN h9 hend)
theorem ks_0_1_2_3_4_5_6_8_9_10_11_12_13 (A5 : Option Addr) (c5 : Nat) (g cap : Nat) (t : Nat) (hF : FK A1 A2 n1 c1 n2 c2 cb room us v0 v) (hN : NK room us out tg on rs) (hend : ∀ (y : Act) v, FK A1 A2 n1 c1 n2 c2 cb room us v0 v → y.defers = [] → y.tmps.size = 43 → y.tmps[2]? = some (.bool true) → KV Try.prog H Tgt (G (bK.at y (.inRegion kOps [] :: kk)) cs) v) :
    KV Try.prog H Tgt (G (bK.at (kAct A A1 A2 n c n1 c1 n2 c2 cb out (.bool false) (.int .i64 out) (.bool true) (.bool true) (.int .i64 out) (.agg #[.slice A1 n1 c1, .slice A2 n2 c2]) (.slice A5 3 c5) (.int .i64 tg) undef (.agg #[.slice A1 n1 c1, .slice A2 n2 c2]) (.slice (some ⟨g, 0, none⟩) 3 cap) (.pointer (some ⟨g, 0, none⟩)) (.int .i64 on) (.pointer (some ⟨cb, 0, none⟩)) (.slice A1 n1 c1) undef undef undef undef) (.inRegion kOps (Region.linearise.go .any kOps 6 t #[true, true, true, true, true, true, true, false, true, true, true, true, true, true, false, false, false, false, false] []) :: kk)) cs) v := by
  obtain ⟨i, hi, t', e⟩ := go_some (md := .any) (ops := kOps) (fuel := 5) (t := t) (listed := #[true, true, true, true, true, true, true, false, true, true, true, true, true, true, false, false, false, false, false]) (rs := [7, 14]) (by kernel_rfl) (by simp)
  rw [e]
  clear e
  simp only [List.mem_cons, List.not_mem_nil, or_false] at hi
  rcases hi with rfl | rfl
  · exact ko_7 hF hN (ks_0_1_2_3_4_5_6_7_8_9_10_11_12_13 A5 c5 g cap t' hF hN hend)
  · exact ko_14 hF hN (ks_0_1_2_3_4_5_6_8_9_10_11_12_13_14 A5 c5 g cap t' hF hN hend)
theorem ks_0_1_2_3_4_5_6_8_9_10_12_13_14 (A5 : Option Addr) (c5 : Nat) (g cap : Nat) (t : Nat) (hF : FK A1 A2 n1 c1 n2 c2 cb room us v0 v) (hN : NK room us out tg on rs) (h9 : v.cell? ⟨g, 0, none⟩ = some (.int .i64 on)) (hend : ∀ (y : Act) v, FK A1 A2 n1 c1 n2 c2 cb room us v0 v → y.defers = [] → y.tmps.size = 43 → y.tmps[2]? = some (.bool true) → KV Try.prog H Tgt (G (bK.at y (.inRegion kOps [] :: kk)) cs) v) :
    KV Try.prog H Tgt (G (bK.at (kAct A A1 A2 n c n1 c1 n2 c2 cb out (.bool false) (.int .i64 out) (.bool true) (.bool true) (.int .i64 out) (.agg #[.slice A1 n1 c1, .slice A2 n2 c2]) (.slice A5 3 c5) (.int .i64 tg) undef (.agg #[.slice A1 n1 c1, .slice A2 n2 c2]) (.slice (some ⟨g, 0, none⟩) 3 cap) (.pointer (some ⟨g, 0, none⟩)) undef (.pointer (some ⟨cb, 0, none⟩)) (.slice A1 n1 c1) (.int .i64 rs) undef undef undef) (.inRegion kOps (Region.linearise.go .any kOps 6 t #[true, true, true, true, true, true, true, false, true, true, true, false, true, true, true, false, false, false, false] []) :: kk)) cs) v := by
  obtain ⟨i, hi, t', e⟩ := go_some (md := .any) (ops := kOps) (fuel := 5) (t := t) (listed := #[true, true, true, true, true, true, true, false, true, true, true, false, true, true, true, false, false, false, false]) (rs := [7, 11]) (by kernel_rfl) (by simp)
  rw [e]
  clear e
  simp only [List.mem_cons, List.not_mem_nil, or_false] at hi
  rcases hi with rfl | rfl
  · exact ko_7 hF hN (ks_0_1_2_3_4_5_6_7_8_9_10_12_13_14 A5 c5 g cap t' hF hN h9 hend)
  · exact ko_11 hF hN h9 (ks_0_1_2_3_4_5_6_8_9_10_11_12_13_14 A5 c5 g cap t' hF hN hend)
theorem ks_0_1_2_4_5_6_8_9_10_11_12_13_14 (A5 : Option Addr) (c5 : Nat) (g cap : Nat) (t : Nat) (hF : FK A1 A2 n1 c1 n2 c2 cb room us v0 v) (hN : NK room us out tg on rs) (hend : ∀ (y : Act) v, FK A1 A2 n1 c1 n2 c2 cb room us v0 v → y.defers = [] → y.tmps.size = 43 → y.tmps[2]? = some (.bool true) → KV Try.prog H Tgt (G (bK.at y (.inRegion kOps [] :: kk)) cs) v) :
    KV Try.prog H Tgt (G (bK.at (kAct A A1 A2 n c n1 c1 n2 c2 cb out (.bool false) (.int .i64 out) (.bool true) (.bool true) undef (.agg #[.slice A1 n1 c1, .slice A2 n2 c2]) (.slice A5 3 c5) (.int .i64 tg) undef (.agg #[.slice A1 n1 c1, .slice A2 n2 c2]) (.slice (some ⟨g, 0, none⟩) 3 cap) (.pointer (some ⟨g, 0, none⟩)) (.int .i64 on) (.pointer (some ⟨cb, 0, none⟩)) (.slice A1 n1 c1) (.int .i64 rs) undef undef undef) (.inRegion kOps (Region.linearise.go .any kOps 6 t #[true, true, true, false, true, true, true, false, true, true, true, true, true, true, true, false, false, false, false] []) :: kk)) cs) v := by
  obtain ⟨i, hi, t', e⟩ := go_some (md := .any) (ops := kOps) (fuel := 5) (t := t) (listed := #[true, true, true, false, true, true, true, false, true, true, true, true, true, true, true, false, false, false, false]) (rs := [3, 15]) (by kernel_rfl) (by simp)
  rw [e]
  clear e
  simp only [List.mem_cons, List.not_mem_nil, or_false] at hi
  rcases hi with rfl | rfl
  · exact ko_3 hF hN (ks_0_1_2_3_4_5_6_8_9_10_11_12_13_14 A5 c5 g cap t' hF hN hend)
  · exact ko_15 hF hN (ks_0_1_2_4_5_6_8_9_10_11_12_13_14_15 A5 c5 g cap t' hF hN hend)
theorem ks_0_1_2_3_4_5_6_7_8_9_10_11 (A5 : Option Addr) (c5 : Nat) (g cap : Nat) (t : Nat) (hF : FK A1 A2 n1 c1 n2 c2 cb room us v0 v) (hN : NK room us out tg on rs) (hend : ∀ (y : Act) v, FK A1 A2 n1 c1 n2 c2 cb room us v0 v → y.defers = [] → y.tmps.size = 43 → y.tmps[2]? = some (.bool true) → KV Try.prog H Tgt (G (bK.at y (.inRegion kOps [] :: kk)) cs) v) :
    KV Try.prog H Tgt (G (bK.at (kAct A A1 A2 n c n1 c1 n2 c2 cb out (.bool false) (.int .i64 out) (.bool true) (.bool true) (.int .i64 out) (.agg #[.slice A1 n1 c1, .slice A2 n2 c2]) (.slice A5 3 c5) (.int .i64 tg) (.int .i64 (out + tg)) (.agg #[.slice A1 n1 c1, .slice A2 n2 c2]) (.slice (some ⟨g, 0, none⟩) 3 cap) (.pointer (some ⟨g, 0, none⟩)) (.int .i64 on) undef undef undef undef undef undef) (.inRegion kOps (Region.linearise.go .any kOps 7 t #[true, true, true, true, true, true, true, true, true, true, true, true, false, false, false, false, false, false, false] []) :: kk)) cs) v := by
  obtain ⟨i, hi, t', e⟩ := go_some (md := .any) (ops := kOps) (fuel := 6) (t := t) (listed := #[true, true, true, true, true, true, true, true, true, true, true, true, false, false, false, false, false, false, false]) (rs := [12]) (by kernel_rfl) (by simp)
  rw [e]
  clear e
  simp only [List.mem_cons, List.not_mem_nil, or_false] at hi
  rcases hi with rfl
  · exact ko_12 hF hN (ks_0_1_2_3_4_5_6_7_8_9_10_11_12 A5 c5 g cap t' hF hN hend)
theorem ks_0_1_2_3_4_5_6_7_8_9_10_12 (A5 : Option Addr) (c5 : Nat) (g cap : Nat) (t : Nat) (hF : FK A1 A2 n1 c1 n2 c2 cb room us v0 v) (hN : NK room us out tg on rs) (h9 : v.cell? ⟨g, 0, none⟩ = some (.int .i64 on)) (hend : ∀ (y : Act) v, FK A1 A2 n1 c1 n2 c2 cb room us v0 v → y.defers = [] → y.tmps.size = 43 → y.tmps[2]? = some (.bool true) → KV Try.prog H Tgt (G (bK.at y (.inRegion kOps [] :: kk)) cs) v) :
    KV Try.prog H Tgt (G (bK.at (kAct A A1 A2 n c n1 c1 n2 c2 cb out (.bool false) (.int .i64 out) (.bool true) (.bool true) (.int .i64 out) (.agg #[.slice A1 n1 c1, .slice A2 n2 c2]) (.slice A5 3 c5) (.int .i64 tg) (.int .i64 (out + tg)) (.agg #[.slice A1 n1 c1, .slice A2 n2 c2]) (.slice (some ⟨g, 0, none⟩) 3 cap) (.pointer (some ⟨g, 0, none⟩)) undef (.pointer (some ⟨cb, 0, none⟩)) undef undef undef undef undef) (.inRegion kOps (Region.linearise.go .any kOps 7 t #[true, true, true, true, true, true, true, true, true, true, true, false, true, false, false, false, false, false, false] []) :: kk)) cs) v := by
  obtain ⟨i, hi, t', e⟩ := go_some (md := .any) (ops := kOps) (fuel := 6) (t := t) (listed := #[true, true, true, true, true, true, true, true, true, true, true, false, true, false, false, false, false, false, false]) (rs := [11, 13]) (by kernel_rfl) (by simp)
  rw [e]
  clear e
  simp only [List.mem_cons, List.not_mem_nil, or_false] at hi
  rcases hi with rfl | rfl
  · exact ko_11 hF hN h9 (ks_0_1_2_3_4_5_6_7_8_9_10_11_12 A5 c5 g cap t' hF hN hend)
  · exact ko_13 hF hN (ks_0_1_2_3_4_5_6_7_8_9_10_12_13 A5 c5 g cap t' hF hN h9 hend)
theorem ks_0_1_2_3_4_5_6_7_8_9_12_13 (A5 : Option Addr) (c5 : Nat) (g cap : Nat) (t : Nat) (hF : FK A1 A2 n1 c1 n2 c2 cb room us v0 v) (hN : NK room us out tg on rs) (h9 : v.cell? ⟨g, 0, none⟩ = some (.int .i64 on)) (hend : ∀ (y : Act) v, FK A1 A2 n1 c1 n2 c2 cb room us v0 v → y.defers = [] → y.tmps.size = 43 → y.tmps[2]? = some (.bool true) → KV Try.prog H Tgt (G (bK.at y (.inRegion kOps [] :: kk)) cs) v) :
    KV Try.prog H Tgt (G (bK.at (kAct A A1 A2 n c n1 c1 n2 c2 cb out (.bool false) (.int .i64 out) (.bool true) (.bool true) (.int .i64 out) (.agg #[.slice A1 n1 c1, .slice A2 n2 c2]) (.slice A5 3 c5) (.int .i64 tg) (.int .i64 (out + tg)) (.agg #[.slice A1 n1 c1, .slice A2 n2 c2]) (.slice (some ⟨g, 0, none⟩) 3 cap) undef undef (.pointer (some ⟨cb, 0, none⟩)) (.slice A1 n1 c1) undef undef undef undef) (.inRegion kOps (Region.linearise.go .any kOps 7 t #[true, true, true, true, true, true, true, true, true, true, false, false, true, true, false, false, false, false, false] []) :: kk)) cs) v := by
  obtain ⟨i, hi, t', e⟩ := go_some (md := .any) (ops := kOps) (fuel := 6) (t := t) (listed := #[true, true, true, true, true, true, true, true, true, true, false, false, true, true, false, false, false, false, false]) (rs := [10, 14]) (by kernel_rfl) (by simp)
  rw [e]
  clear e
  simp only [List.mem_cons, List.not_mem_nil, or_false] at hi
  rcases hi with rfl | rfl
  · exact ko_10 hF hN (ks_0_1_2_3_4_5_6_7_8_9_10_12_13 A5 c5 g cap t' hF hN h9 hend)
  · exact ko_14 hF hN (ks_0_1_2_3_4_5_6_7_8_9_12_13_14 A5 c5 g cap t' hF hN h9 hend)
theorem ks_0_1_2_3_4_5_6_8_9_10_11_12 (A5 : Option Addr) (c5 : Nat) (g cap : Nat) (t : Nat) (hF : FK A1 A2 n1 c1 n2 c2 cb room us v0 v) (hN : NK room us out tg on rs) (hend : ∀ (y : Act) v, FK A1 A2 n1 c1 n2 c2 cb room us v0 v → y.defers = [] → y.tmps.size = 43 → y.tmps[2]? = some (.bool true) → KV Try.prog H Tgt (G (bK.at y (.inRegion kOps [] :: kk)) cs) v) :
    KV Try.prog H Tgt (G (bK.at (kAct A A1 A2 n c n1 c1 n2 c2 cb out (.bool false) (.int .i64 out) (.bool true) (.bool true) (.int .i64 out) (.agg #[.slice A1 n1 c1, .slice A2 n2 c2]) (.slice A5 3 c5) (.int .i64 tg) undef (.agg #[.slice A1 n1 c1, .slice A2 n2 c2]) (.slice (some ⟨g, 0, none⟩) 3 cap) (.pointer (some ⟨g, 0, none⟩)) (.int .i64 on) (.pointer (some ⟨cb, 0, none⟩)) undef undef undef undef undef) (.inRegion kOps (Region.linearise.go .any kOps 7 t #[true, true, true, true, true, true, true, false, true, true, true, true, true, false, false, false, false, false, false] []) :: kk)) cs) v := by
  obtain ⟨i, hi, t', e⟩ := go_some (md := .any) (ops := kOps) (fuel := 6) (t := t) (listed := #[true, true, true, true, true, true, true, false, true, true, true, true, true, false, false, false, false, false, false]) (rs := [7, 13]) (by kernel_rfl) (by simp)
  rw [e]
  clear e
  simp only [List.mem_cons, List.not_mem_nil, or_false] at hi
  rcases hi with rfl | rfl
  · exact ko_7 hF hN (ks_0_1_2_3_4_5_6_7_8_9_10_11_12 A5 c5 g cap t' hF hN hend)
  · exact ko_13 hF hN (ks_0_1_2_3_4_5_6_8_9_10_11_12_13 A5 c5 g cap t' hF hN hend)
theorem ks_0_1_2_3_4_5_6_8_9_10_12_13 (A5 : Option Addr) (c5 : Nat) (g cap : Nat) (t : Nat) (hF : FK A1 A2 n1 c1 n2 c2 cb room us v0 v) (hN : NK room us out tg on rs) (h9 : v.cell? ⟨g, 0, none⟩ = some (.int .i64 on)) (hend : ∀ (y : Act) v, FK A1 A2 n1 c1 n2 c2 cb room us v0 v → y.defers = [] → y.tmps.size = 43 → y.tmps[2]? = some (.bool true) → KV Try.prog H Tgt (G (bK.at y (.inRegion kOps [] :: kk)) cs) v) :
    KV Try.prog H Tgt (G (bK.at (kAct A A1 A2 n c n1 c1 n2 c2 cb out (.bool false) (.int .i64 out) (.bool true) (.bool true) (.int .i64 out) (.agg #[.slice A1 n1 c1, .slice A2 n2 c2]) (.slice A5 3 c5) (.int .i64 tg) undef (.agg #[.slice A1 n1 c1, .slice A2 n2 c2]) (.slice (some ⟨g, 0, none⟩) 3 cap) (.pointer (some ⟨g, 0, none⟩)) undef (.pointer (some ⟨cb, 0, none⟩)) (.slice A1 n1 c1) undef undef undef undef) (.inRegion kOps (Region.linearise.go .any kOps 7 t #[true, true, true, true, true, true, true, false, true, true, true, false, true, true, false, false, false, false, false] []) :: kk)) cs) v := by
  obtain ⟨i, hi, t', e⟩ := go_some (md := .any) (ops := kOps) (fuel := 6) (t := t) (listed := #[true, true, true, true, true, true, true, false, true, true, true, false, true, true, false, false, false, false, false]) (rs := [7, 11, 14]) (by kernel_rfl) (by simp)
  rw [e]
  clear e
  simp only [List.mem_cons, List.not_mem_nil, or_false] at hi
  rcases hi with rfl | rfl | rfl
  · exact ko_7 hF hN (ks_0_1_2_3_4_5_6_7_8_9_10_12_13 A5 c5 g cap t' hF hN h9 hend)
  · exact ko_11 hF hN h9 (ks_0_1_2_3_4_5_6_8_9_10_11_12_13 A5 c5 g cap t' hF hN hend)
  · exact ko_14 hF hN (ks_0_1_2_3_4_5_6_8_9_10_12_13_14 A5 c5 g cap t' hF hN h9 hend)
theorem ks_0_1_2_3_4_5_6_8_9_12_13_14 (A5 : Option Addr) (c5 : Nat) (g cap : Nat) (t : Nat) (hF : FK A1 A2 n1 c1 n2 c2 cb room us v0 v) (hN : NK room us out tg on rs) (h9 : v.cell? ⟨g, 0, none⟩ = some (.int .i64 on)) (hend : ∀ (y : Act) v, FK A1 A2 n1 c1 n2 c2 cb room us v0 v → y.defers = [] → y.tmps.size = 43 → y.tmps[2]? = some (.bool true) → KV Try.prog H Tgt (G (bK.at y (.inRegion kOps [] :: kk)) cs) v) :
    KV Try.prog H Tgt (G (bK.at (kAct A A1 A2 n c n1 c1 n2 c2 cb out (.bool false) (.int .i64 out) (.bool true) (.bool true) (.int .i64 out) (.agg #[.slice A1 n1 c1, .slice A2 n2 c2]) (.slice A5 3 c5) (.int .i64 tg) undef (.agg #[.slice A1 n1 c1, .slice A2 n2 c2]) (.slice (some ⟨g, 0, none⟩) 3 cap) undef undef (.pointer (some ⟨cb, 0, none⟩)) (.slice A1 n1 c1) (.int .i64 rs) undef undef undef) (.inRegion kOps (Region.linearise.go .any kOps 7 t #[true, true, true, true, true, true, true, false, true, true, false, false, true, true, true, false, false, false, false] []) :: kk)) cs) v := by
  obtain ⟨i, hi, t', e⟩ := go_some (md := .any) (ops := kOps) (fuel := 6) (t := t) (listed := #[true, true, true, true, true, true, true, false, true, true, false, false, true, true, true, false, false, false, false]) (rs := [7, 10]) (by kernel_rfl) (by simp)
  rw [e]
  clear e
  simp only [List.mem_cons, List.not_mem_nil, or_false] at hi
  rcases hi with rfl | rfl
  · exact ko_7 hF hN (ks_0_1_2_3_4_5_6_7_8_9_12_13_14 A5 c5 g cap t' hF hN h9 hend)
  · exact ko_10 hF hN (ks_0_1_2_3_4_5_6_8_9_10_12_13_14 A5 c5 g cap t' hF hN h9 hend)
theorem ks_0_1_2_4_5_6_8_9_10_11_12_13 (A5 : Option Addr) (c5 : Nat) (g cap : Nat) (t : Nat) (hF : FK A1 A2 n1 c1 n2 c2 cb room us v0 v) (hN : NK room us out tg on rs) (hend : ∀ (y : Act) v, FK A1 A2 n1 c1 n2 c2 cb room us v0 v → y.defers = [] → y.tmps.size = 43 → y.tmps[2]? = some (.bool true) → KV Try.prog H Tgt (G (bK.at y (.inRegion kOps [] :: kk)) cs) v) :
    KV Try.prog H Tgt (G (bK.at (kAct A A1 A2 n c n1 c1 n2 c2 cb out (.bool false) (.int .i64 out) (.bool true) (.bool true) undef (.agg #[.slice A1 n1 c1, .slice A2 n2 c2]) (.slice A5 3 c5) (.int .i64 tg) undef (.agg #[.slice A1 n1 c1, .slice A2 n2 c2]) (.slice (some ⟨g, 0, none⟩) 3 cap) (.pointer (some ⟨g, 0, none⟩)) (.int .i64 on) (.pointer (some ⟨cb, 0, none⟩)) (.slice A1 n1 c1) undef undef undef undef) (.inRegion kOps (Region.linearise.go .any kOps 7 t #[true, true, true, false, true, true, true, false, true, true, true, true, true, true, false, false, false, false, false] []) :: kk)) cs) v := by
  obtain ⟨i, hi, t', e⟩ := go_some (md := .any) (ops := kOps) (fuel := 6) (t := t) (listed := #[true, true, true, false, true, true, true, false, true, true, true, true, true, true, false, false, false, false, false]) (rs := [3, 14]) (by kernel_rfl) (by simp)
  rw [e]
  clear e
  simp only [List.mem_cons, List.not_mem_nil, or_false] at hi
  rcases hi with rfl | rfl
  · exact ko_3 hF hN (ks_0_1_2_3_4_5_6_8_9_10_11_12_13 A5 c5 g cap t' hF hN hend)
  · exact ko_14 hF hN (ks_0_1_2_4_5_6_8_9_10_11_12_13_14 A5 c5 g cap t' hF hN hend)
theorem ks_0_1_2_4_5_6_8_9_10_12_13_14 (A5 : Option Addr) (c5 : Nat) (g cap : Nat) (t : Nat) (hF : FK A1 A2 n1 c1 n2 c2 cb room us v0 v) (hN : NK room us out tg on rs) (h9 : v.cell? ⟨g, 0, none⟩ = some (.int .i64 on)) (hend : ∀ (y : Act) v, FK A1 A2 n1 c1 n2 c2 cb room us v0 v → y.defers = [] → y.tmps.size = 43 → y.tmps[2]? = some (.bool true) → KV Try.prog H Tgt (G (bK.at y (.inRegion kOps [] :: kk)) cs) v) :
    KV Try.prog H Tgt (G (bK.at (kAct A A1 A2 n c n1 c1 n2 c2 cb out (.bool false) (.int .i64 out) (.bool true) (.bool true) undef (.agg #[.slice A1 n1 c1, .slice A2 n2 c2]) (.slice A5 3 c5) (.int .i64 tg) undef (.agg #[.slice A1 n1 c1, .slice A2 n2 c2]) (.slice (some ⟨g, 0, none⟩) 3 cap) (.pointer (some ⟨g, 0, none⟩)) undef (.pointer (some ⟨cb, 0, none⟩)) (.slice A1 n1 c1) (.int .i64 rs) undef undef undef) (.inRegion kOps (Region.linearise.go .any kOps 7 t #[true, true, true, false, true, true, true, false, true, true, true, false, true, true, true, false, false, false, false] []) :: kk)) cs) v := by
  obtain ⟨i, hi, t', e⟩ := go_some (md := .any) (ops := kOps) (fuel := 6) (t := t) (listed := #[true, true, true, false, true, true, true, false, true, true, true, false, true, true, true, false, false, false, false]) (rs := [3, 11]) (by kernel_rfl) (by simp)
  rw [e]
  clear e
  simp only [List.mem_cons, List.not_mem_nil, or_false] at hi
  rcases hi with rfl | rfl
  · exact ko_3 hF hN (ks_0_1_2_3_4_5_6_8_9_10_12_13_14 A5 c5 g cap t' hF hN h9 hend)
  · exact ko_11 hF hN h9 (ks_0_1_2_4_5_6_8_9_10_11_12_13_14 A5 c5 g cap t' hF hN hend)
theorem ks_0_1_2_3_4_5_6_7_8_9_10 (A5 : Option Addr) (c5 : Nat) (g cap : Nat) (t : Nat) (hF : FK A1 A2 n1 c1 n2 c2 cb room us v0 v) (hN : NK room us out tg on rs) (h9 : v.cell? ⟨g, 0, none⟩ = some (.int .i64 on)) (hend : ∀ (y : Act) v, FK A1 A2 n1 c1 n2 c2 cb room us v0 v → y.defers = [] → y.tmps.size = 43 → y.tmps[2]? = some (.bool true) → KV Try.prog H Tgt (G (bK.at y (.inRegion kOps [] :: kk)) cs) v) :
    KV Try.prog H Tgt (G (bK.at (kAct A A1 A2 n c n1 c1 n2 c2 cb out (.bool false) (.int .i64 out) (.bool true) (.bool true) (.int .i64 out) (.agg #[.slice A1 n1 c1, .slice A2 n2 c2]) (.slice A5 3 c5) (.int .i64 tg) (.int .i64 (out + tg)) (.agg #[.slice A1 n1 c1, .slice A2 n2 c2]) (.slice (some ⟨g, 0, none⟩) 3 cap) (.pointer (some ⟨g, 0, none⟩)) undef undef undef undef undef undef undef) (.inRegion kOps (Region.linearise.go .any kOps 8 t #[true, true, true, true, true, true, true, true, true, true, true, false, false, false, false, false, false, false, false] []) :: kk)) cs) v := by
  obtain ⟨i, hi, t', e⟩ := go_some (md := .any) (ops := kOps) (fuel := 7) (t := t) (listed := #[true, true, true, true, true, true, true, true, true, true, true, false, false, false, false, false, false, false, false]) (rs := [11, 12]) (by kernel_rfl) (by simp)
  rw [e]
  clear e
  simp only [List.mem_cons, List.not_mem_nil, or_false] at hi
  rcases hi with rfl | rfl
  · exact ko_11 hF hN h9 (ks_0_1_2_3_4_5_6_7_8_9_10_11 A5 c5 g cap t' hF hN hend)
  · exact ko_12 hF hN (ks_0_1_2_3_4_5_6_7_8_9_10_12 A5 c5 g cap t' hF hN h9 hend)
theorem ks_0_1_2_3_4_5_6_7_8_9_12 (A5 : Option Addr) (c5 : Nat) (g cap : Nat) (t : Nat) (hF : FK A1 A2 n1 c1 n2 c2 cb room us v0 v) (hN : NK room us out tg on rs) (h9 : v.cell? ⟨g, 0, none⟩ = some (.int .i64 on)) (hend : ∀ (y : Act) v, FK A1 A2 n1 c1 n2 c2 cb room us v0 v → y.defers = [] → y.tmps.size = 43 → y.tmps[2]? = some (.bool true) → KV Try.prog H Tgt (G (bK.at y (.inRegion kOps [] :: kk)) cs) v) :
    KV Try.prog H Tgt (G (bK.at (kAct A A1 A2 n c n1 c1 n2 c2 cb out (.bool false) (.int .i64 out) (.bool true) (.bool true) (.int .i64 out) (.agg #[.slice A1 n1 c1, .slice A2 n2 c2]) (.slice A5 3 c5) (.int .i64 tg) (.int .i64 (out + tg)) (.agg #[.slice A1 n1 c1, .slice A2 n2 c2]) (.slice (some ⟨g, 0, none⟩) 3 cap) undef undef (.pointer (some ⟨cb, 0, none⟩)) undef undef undef undef undef) (.inRegion kOps (Region.linearise.go .any kOps 8 t #[true, true, true, true, true, true, true, true, true, true, false, false, true, false, false, false, false, false, false] []) :: kk)) cs) v := by
  obtain ⟨i, hi, t', e⟩ := go_some (md := .any) (ops := kOps) (fuel := 7) (t := t) (listed := #[true, true, true, true, true, true, true, true, true, true, false, false, true, false, false, false, false, false, false]) (rs := [10, 13]) (by kernel_rfl) (by simp)
  rw [e]
  clear e
  simp only [List.mem_cons, List.not_mem_nil, or_false] at hi
  rcases hi with rfl | rfl
  · exact ko_10 hF hN (ks_0_1_2_3_4_5_6_7_8_9_10_12 A5 c5 g cap t' hF hN h9 hend)
  · exact ko_13 hF hN (ks_0_1_2_3_4_5_6_7_8_9_12_13 A5 c5 g cap t' hF hN h9 hend)
theorem ks_0_1_2_3_4_5_6_7_8_12_13 (A5 : Option Addr) (c5 : Nat) (t : Nat) (hF : FK A1 A2 n1 c1 n2 c2 cb room us v0 v) (hN : NK room us out tg on rs) (hend : ∀ (y : Act) v, FK A1 A2 n1 c1 n2 c2 cb room us v0 v → y.defers = [] → y.tmps.size = 43 → y.tmps[2]? = some (.bool true) → KV Try.prog H Tgt (G (bK.at y (.inRegion kOps [] :: kk)) cs) v) :
    KV Try.prog H Tgt (G (bK.at (kAct A A1 A2 n c n1 c1 n2 c2 cb out (.bool false) (.int .i64 out) (.bool true) (.bool true) (.int .i64 out) (.agg #[.slice A1 n1 c1, .slice A2 n2 c2]) (.slice A5 3 c5) (.int .i64 tg) (.int .i64 (out + tg)) (.agg #[.slice A1 n1 c1, .slice A2 n2 c2]) undef undef undef (.pointer (some ⟨cb, 0, none⟩)) (.slice A1 n1 c1) undef undef undef undef) (.inRegion kOps (Region.linearise.go .any kOps 8 t #[true, true, true, true, true, true, true, true, true, false, false, false, true, true, false, false, false, false, false] []) :: kk)) cs) v := by
  obtain ⟨i, hi, t', e⟩ := go_some (md := .any) (ops := kOps) (fuel := 7) (t := t) (listed := #[true, true, true, true, true, true, true, true, true, false, false, false, true, true, false, false, false, false, false]) (rs := [9]) (by kernel_rfl) (by simp)
  rw [e]
  clear e
  simp only [List.mem_cons, List.not_mem_nil, or_false] at hi
  rcases hi with rfl
  · exact ko_9 hF hN fun g cap v' hF' h9 => ks_0_1_2_3_4_5_6_7_8_9_12_13 A5 c5 g cap t' hF' hN h9 hend
theorem ks_0_1_2_3_4_5_6_8_9_10_11 (A5 : Option Addr) (c5 : Nat) (g cap : Nat) (t : Nat) (hF : FK A1 A2 n1 c1 n2 c2 cb room us v0 v) (hN : NK room us out tg on rs) (hend : ∀ (y : Act) v, FK A1 A2 n1 c1 n2 c2 cb room us v0 v → y.defers = [] → y.tmps.size = 43 → y.tmps[2]? = some (.bool true) → KV Try.prog H Tgt (G (bK.at y (.inRegion kOps [] :: kk)) cs) v) :
    KV Try.prog H Tgt (G (bK.at (kAct A A1 A2 n c n1 c1 n2 c2 cb out (.bool false) (.int .i64 out) (.bool true) (.bool true) (.int .i64 out) (.agg #[.slice A1 n1 c1, .slice A2 n2 c2]) (.slice A5 3 c5) (.int .i64 tg) undef (.agg #[.slice A1 n1 c1, .slice A2 n2 c2]) (.slice (some ⟨g, 0, none⟩) 3 cap) (.pointer (some ⟨g, 0, none⟩)) (.int .i64 on) undef undef undef undef undef undef) (.inRegion kOps (Region.linearise.go .any kOps 8 t #[true, true, true, true, true, true, true, false, true, true, true, true, false, false, false, false, false, false, false] []) :: kk)) cs) v := by
  obtain ⟨i, hi, t', e⟩ := go_some (md := .any) (ops := kOps) (fuel := 7) (t := t) (listed := #[true, true, true, true, true, true, true, false, true, true, true, true, false, false, false, false, false, false, false]) (rs := [7, 12]) (by kernel_rfl) (by simp)
  rw [e]
  clear e
  simp only [List.mem_cons, List.not_mem_nil, or_false] at hi
  rcases hi with rfl | rfl
  · exact ko_7 hF hN (ks_0_1_2_3_4_5_6_7_8_9_10_11 A5 c5 g cap t' hF hN hend)
  · exact ko_12 hF hN (ks_0_1_2_3_4_5_6_8_9_10_11_12 A5 c5 g cap t' hF hN hend)
theorem ks_0_1_2_3_4_5_6_8_9_10_12 (A5 : Option Addr) (c5 : Nat) (g cap : Nat) (t : Nat) (hF : FK A1 A2 n1 c1 n2 c2 cb room us v0 v) (hN : NK room us out tg on rs) (h9 : v.cell? ⟨g, 0, none⟩ = some (.int .i64 on)) (hend : ∀ (y : Act) v, FK A1 A2 n1 c1 n2 c2 cb room us v0 v → y.defers = [] → y.tmps.size = 43 → y.tmps[2]? = some (.bool true) → KV Try.prog H Tgt (G (bK.at y (.inRegion kOps [] :: kk)) cs) v) :
    KV Try.prog H Tgt (G (bK.at (kAct A A1 A2 n c n1 c1 n2 c2 cb out (.bool false) (.int .i64 out) (.bool true) (.bool true) (.int .i64 out) (.agg #[.slice A1 n1 c1, .slice A2 n2 c2]) (.slice A5 3 c5) (.int .i64 tg) undef (.agg #[.slice A1 n1 c1, .slice A2 n2 c2]) (.slice (some ⟨g, 0, none⟩) 3 cap) (.pointer (some ⟨g, 0, none⟩)) undef (.pointer (some ⟨cb, 0, none⟩)) undef undef undef undef undef) (.inRegion kOps (Region.linearise.go .any kOps 8 t #[true, true, true, true, true, true, true, false, true, true, true, false, true, false, false, false, false, false, false] []) :: kk)) cs) v := by
  obtain ⟨i, hi, t', e⟩ := go_some (md := .any) (ops := kOps) (fuel := 7) (t := t) (listed := #[true, true, true, true, true, true, true, false, true, true, true, false, true, false, false, false, false, false, false]) (rs := [7, 11, 13]) (by kernel_rfl) (by simp)
  rw [e]
  clear e
  simp only [List.mem_cons, List.not_mem_nil, or_false] at hi
  rcases hi with rfl | rfl | rfl
  · exact ko_7 hF hN (ks_0_1_2_3_4_5_6_7_8_9_10_12 A5 c5 g cap t' hF hN h9 hend)
  · exact ko_11 hF hN h9 (ks_0_1_2_3_4_5_6_8_9_10_11_12 A5 c5 g cap t' hF hN hend)
  · exact ko_13 hF hN (ks_0_1_2_3_4_5_6_8_9_10_12_13 A5 c5 g cap t' hF hN h9 hend)
theorem ks_0_1_2_3_4_5_6_8_9_12_13 (A5 : Option Addr) (c5 : Nat) (g cap : Nat) (t : Nat) (hF : FK A1 A2 n1 c1 n2 c2 cb room us v0 v) (hN : NK room us out tg on rs) (h9 : v.cell? ⟨g, 0, none⟩ = some (.int .i64 on)) (hend : ∀ (y : Act) v, FK A1 A2 n1 c1 n2 c2 cb room us v0 v → y.defers = [] → y.tmps.size = 43 → y.tmps[2]? = some (.bool true) → KV Try.prog H Tgt (G (bK.at y (.inRegion kOps [] :: kk)) cs) v) :
    KV Try.prog H Tgt (G (bK.at (kAct A A1 A2 n c n1 c1 n2 c2 cb out (.bool false) (.int .i64 out) (.bool true) (.bool true) (.int .i64 out) (.agg #[.slice A1 n1 c1, .slice A2 n2 c2]) (.slice A5 3 c5) (.int .i64 tg) undef (.agg #[.slice A1 n1 c1, .slice A2 n2 c2]) (.slice (some ⟨g, 0, none⟩) 3 cap) undef undef (.pointer (some ⟨cb, 0, none⟩)) (.slice A1 n1 c1) undef undef undef undef) (.inRegion kOps (Region.linearise.go .any kOps 8 t #[true, true, true, true, true, true, true, false, true, true, false, false, true, true, false, false, false, false, false] []) :: kk)) cs) v := by
  obtain ⟨i, hi, t', e⟩ := go_some (md := .any) (ops := kOps) (fuel := 7) (t := t) (listed := #[true, true, true, true, true, true, true, false, true, true, false, false, true, true, false, false, false, false, false]) (rs := [7, 10, 14]) (by kernel_rfl) (by simp)
  rw [e]
  clear e
  simp only [List.mem_cons, List.not_mem_nil, or_false] at hi
  rcases hi with rfl | rfl | rfl
  · exact ko_7 hF hN (ks_0_1_2_3_4_5_6_7_8_9_12_13 A5 c5 g cap t' hF hN h9 hend)
  · exact ko_10 hF hN (ks_0_1_2_3_4_5_6_8_9_10_12_13 A5 c5 g cap t' hF hN h9 hend)
  · exact ko_14 hF hN (ks_0_1_2_3_4_5_6_8_9_12_13_14 A5 c5 g cap t' hF hN h9 hend)
theorem ks_0_1_2_4_5_6_8_9_10_11_12 (A5 : Option Addr) (c5 : Nat) (g cap : Nat) (t : Nat) (hF : FK A1 A2 n1 c1 n2 c2 cb room us v0 v) (hN : NK room us out tg on rs) (hend : ∀ (y : Act) v, FK A1 A2 n1 c1 n2 c2 cb room us v0 v → y.defers = [] → y.tmps.size = 43 → y.tmps[2]? = some (.bool true) → KV Try.prog H Tgt (G (bK.at y (.inRegion kOps [] :: kk)) cs) v) :
    KV Try.prog H Tgt (G (bK.at (kAct A A1 A2 n c n1 c1 n2 c2 cb out (.bool false) (.int .i64 out) (.bool true) (.bool true) undef (.agg #[.slice A1 n1 c1, .slice A2 n2 c2]) (.slice A5 3 c5) (.int .i64 tg) undef (.agg #[.slice A1 n1 c1, .slice A2 n2 c2]) (.slice (some ⟨g, 0, none⟩) 3 cap) (.pointer (some ⟨g, 0, none⟩)) (.int .i64 on) (.pointer (some ⟨cb, 0, none⟩)) undef undef undef undef undef) (.inRegion kOps (Region.linearise.go .any kOps 8 t #[true, true, true, false, true, true, true, false, true, true, true, true, true, false, false, false, false, false, false] []) :: kk)) cs) v := by
  obtain ⟨i, hi, t', e⟩ := go_some (md := .any) (ops := kOps) (fuel := 7) (t := t) (listed := #[true, true, true, false, true, true, true, false, true, true, true, true, true, false, false, false, false, false, false]) (rs := [3, 13]) (by kernel_rfl) (by simp)
  rw [e]
  clear e
  simp only [List.mem_cons, List.not_mem_nil, or_false] at hi
  rcases hi with rfl | rfl
  · exact ko_3 hF hN (ks_0_1_2_3_4_5_6_8_9_10_11_12 A5 c5 g cap t' hF hN hend)
  · exact ko_13 hF hN (ks_0_1_2_4_5_6_8_9_10_11_12_13 A5 c5 g cap t' hF hN hend)
theorem ks_0_1_2_4_5_6_8_9_10_12_13 (A5 : Option Addr) (c5 : Nat) (g cap : Nat) (t : Nat) (hF : FK A1 A2 n1 c1 n2 c2 cb room us v0 v) (hN : NK room us out tg on rs) (h9 : v.cell? ⟨g, 0, none⟩ = some (.int .i64 on)) (hend : ∀ (y : Act) v, FK A1 A2 n1 c1 n2 c2 cb room us v0 v → y.defers = [] → y.tmps.size = 43 → y.tmps[2]? = some (.bool true) → KV Try.prog H Tgt (G (bK.at y (.inRegion kOps [] :: kk)) cs) v) :
    KV Try.prog H Tgt (G (bK.at (kAct A A1 A2 n c n1 c1 n2 c2 cb out (.bool false) (.int .i64 out) (.bool true) (.bool true) undef (.agg #[.slice A1 n1 c1, .slice A2 n2 c2]) (.slice A5 3 c5) (.int .i64 tg) undef (.agg #[.slice A1 n1 c1, .slice A2 n2 c2]) (.slice (some ⟨g, 0, none⟩) 3 cap) (.pointer (some ⟨g, 0, none⟩)) undef (.pointer (some ⟨cb, 0, none⟩)) (.slice A1 n1 c1) undef undef undef undef) (.inRegion kOps (Region.linearise.go .any kOps 8 t #[true, true, true, false, true, true, true, false, true, true, true, false, true, true, false, false, false, false, false] []) :: kk)) cs) v := by
  obtain ⟨i, hi, t', e⟩ := go_some (md := .any) (ops := kOps) (fuel := 7) (t := t) (listed := #[true, true, true, false, true, true, true, false, true, true, true, false, true, true, false, false, false, false, false]) (rs := [3, 11, 14]) (by kernel_rfl) (by simp)
  rw [e]
  clear e
  simp only [List.mem_cons, List.not_mem_nil, or_false] at hi
  rcases hi with rfl | rfl | rfl
  · exact ko_3 hF hN (ks_0_1_2_3_4_5_6_8_9_10_12_13 A5 c5 g cap t' hF hN h9 hend)
  · exact ko_11 hF hN h9 (ks_0_1_2_4_5_6_8_9_10_11_12_13 A5 c5 g cap t' hF hN hend)
  · exact ko_14 hF hN (ks_0_1_2_4_5_6_8_9_10_12_13_14 A5 c5 g cap t' hF hN h9 hend)
theorem ks_0_1_2_4_5_6_8_9_12_13_14 (A5 : Option Addr) (c5 : Nat) (g cap : Nat) (t : Nat) (hF : FK A1 A2 n1 c1 n2 c2 cb room us v0 v) (hN : NK room us out tg on rs) (h9 : v.cell? ⟨g, 0, none⟩ = some (.int .i64 on)) (hend : ∀ (y : Act) v, FK A1 A2 n1 c1 n2 c2 cb room us v0 v → y.defers = [] → y.tmps.size = 43 → y.tmps[2]? = some (.bool true) → KV Try.prog H Tgt (G (bK.at y (.inRegion kOps [] :: kk)) cs) v) :
    KV Try.prog H Tgt (G (bK.at (kAct A A1 A2 n c n1 c1 n2 c2 cb out (.bool false) (.int .i64 out) (.bool true) (.bool true) undef (.agg #[.slice A1 n1 c1, .slice A2 n2 c2]) (.slice A5 3 c5) (.int .i64 tg) undef (.agg #[.slice A1 n1 c1, .slice A2 n2 c2]) (.slice (some ⟨g, 0, none⟩) 3 cap) undef undef (.pointer (some ⟨cb, 0, none⟩)) (.slice A1 n1 c1) (.int .i64 rs) undef undef undef) (.inRegion kOps (Region.linearise.go .any kOps 8 t #[true, true, true, false, true, true, true, false, true, true, false, false, true, true, true, false, false, false, false] []) :: kk)) cs) v := by
  obtain ⟨i, hi, t', e⟩ := go_some (md := .any) (ops := kOps) (fuel := 7) (t := t) (listed := #[true, true, true, false, true, true, true, false, true, true, false, false, true, true, true, false, false, false, false]) (rs := [3, 10]) (by kernel_rfl) (by simp)
  rw [e]
  clear e
  simp only [List.mem_cons, List.not_mem_nil, or_false] at hi
  rcases hi with rfl | rfl
  · exact ko_3 hF hN (ks_0_1_2_3_4_5_6_8_9_12_13_14 A5 c5 g cap t' hF hN h9 hend)
  · exact ko_10 hF hN (ks_0_1_2_4_5_6_8_9_10_12_13_14 A5 c5 g cap t' hF hN h9 hend)
theorem ks_0_1_2_3_4_5_6_7_8_9 (A5 : Option Addr) (c5 : Nat) (g cap : Nat) (t : Nat) (hF : FK A1 A2 n1 c1 n2 c2 cb room us v0 v) (hN : NK room us out tg on rs) (h9 : v.cell? ⟨g, 0, none⟩ = some (.int .i64 on)) (hend : ∀ (y : Act) v, FK A1 A2 n1 c1 n2 c2 cb room us v0 v → y.defers = [] → y.tmps.size = 43 → y.tmps[2]? = some (.bool true) → KV Try.prog H Tgt (G (bK.at y (.inRegion kOps [] :: kk)) cs) v) :
    KV Try.prog H Tgt (G (bK.at (kAct A A1 A2 n c n1 c1 n2 c2 cb out (.bool false) (.int .i64 out) (.bool true) (.bool true) (.int .i64 out) (.agg #[.slice A1 n1 c1, .slice A2 n2 c2]) (.slice A5 3 c5) (.int .i64 tg) (.int .i64 (out + tg)) (.agg #[.slice A1 n1 c1, .slice A2 n2 c2]) (.slice (some ⟨g, 0, none⟩) 3 cap) undef undef undef undef undef undef undef undef) (.inRegion kOps (Region.linearise.go .any kOps 9 t #[true, true, true, true, true, true, true, true, true, true, false, false, false, false, false, false, false, false, false] []) :: kk)) cs) v := by
  obtain ⟨i, hi, t', e⟩ := go_some (md := .any) (ops := kOps) (fuel := 8) (t := t) (listed := #[true, true, true, true, true, true, true, true, true, true, false, false, false, false, false, false, false, false, false]) (rs := [10, 12]) (by kernel_rfl) (by simp)
  rw [e]
  clear e
  simp only [List.mem_cons, List.not_mem_nil, or_false] at hi
  rcases hi with rfl | rfl
  · exact ko_10 hF hN (ks_0_1_2_3_4_5_6_7_8_9_10 A5 c5 g cap t' hF hN h9 hend)
  · exact ko_12 hF hN (ks_0_1_2_3_4_5_6_7_8_9_12 A5 c5 g cap t' hF hN h9 hend)
theorem ks_0_1_2_3_4_5_6_7_8_12 (A5 : Option Addr) (c5 : Nat) (t : Nat) (hF : FK A1 A2 n1 c1 n2 c2 cb room us v0 v) (hN : NK room us out tg on rs) (hend : ∀ (y : Act) v, FK A1 A2 n1 c1 n2 c2 cb room us v0 v → y.defers = [] → y.tmps.size = 43 → y.tmps[2]? = some (.bool true) → KV Try.prog H Tgt (G (bK.at y (.inRegion kOps [] :: kk)) cs) v) :
    KV Try.prog H Tgt (G (bK.at (kAct A A1 A2 n c n1 c1 n2 c2 cb out (.bool false) (.int .i64 out) (.bool true) (.bool true) (.int .i64 out) (.agg #[.slice A1 n1 c1, .slice A2 n2 c2]) (.slice A5 3 c5) (.int .i64 tg) (.int .i64 (out + tg)) (.agg #[.slice A1 n1 c1, .slice A2 n2 c2]) undef undef undef (.pointer (some ⟨cb, 0, none⟩)) undef undef undef undef undef) (.inRegion kOps (Region.linearise.go .any kOps 9 t #[true, true, true, true, true, true, true, true, true, false, false, false, true, false, false, false, false, false, false] []) :: kk)) cs) v := by
  obtain ⟨i, hi, t', e⟩ := go_some (md := .any) (ops := kOps) (fuel := 8) (t := t) (listed := #[true, true, true, true, true, true, true, true, true, false, false, false, true, false, false, false, false, false, false]) (rs := [9, 13]) (by kernel_rfl) (by simp)
  rw [e]
  clear e
  simp only [List.mem_cons, List.not_mem_nil, or_false] at hi
  rcases hi with rfl | rfl
  · exact ko_9 hF hN fun g cap v' hF' h9 => ks_0_1_2_3_4_5_6_7_8_9_12 A5 c5 g cap t' hF' hN h9 hend
  · exact ko_13 hF hN (ks_0_1_2_3_4_5_6_7_8_12_13 A5 c5 t' hF hN hend)
theorem ks_0_1_2_3_4_5_6_7_12_13 (A5 : Option Addr) (c5 : Nat) (t : Nat) (hF : FK A1 A2 n1 c1 n2 c2 cb room us v0 v) (hN : NK room us out tg on rs) (hend : ∀ (y : Act) v, FK A1 A2 n1 c1 n2 c2 cb room us v0 v → y.defers = [] → y.tmps.size = 43 → y.tmps[2]? = some (.bool true) → KV Try.prog H Tgt (G (bK.at y (.inRegion kOps [] :: kk)) cs) v) :
    KV Try.prog H Tgt (G (bK.at (kAct A A1 A2 n c n1 c1 n2 c2 cb out (.bool false) (.int .i64 out) (.bool true) (.bool true) (.int .i64 out) (.agg #[.slice A1 n1 c1, .slice A2 n2 c2]) (.slice A5 3 c5) (.int .i64 tg) (.int .i64 (out + tg)) undef undef undef undef (.pointer (some ⟨cb, 0, none⟩)) (.slice A1 n1 c1) undef undef undef undef) (.inRegion kOps (Region.linearise.go .any kOps 9 t #[true, true, true, true, true, true, true, true, false, false, false, false, true, true, false, false, false, false, false] []) :: kk)) cs) v := by
  obtain ⟨i, hi, t', e⟩ := go_some (md := .any) (ops := kOps) (fuel := 8) (t := t) (listed := #[true, true, true, true, true, true, true, true, false, false, false, false, true, true, false, false, false, false, false]) (rs := [8]) (by kernel_rfl) (by simp)
  rw [e]
  clear e
  simp only [List.mem_cons, List.not_mem_nil, or_false] at hi
  rcases hi with rfl
  · exact ko_8 hF hN (ks_0_1_2_3_4_5_6_7_8_12_13 A5 c5 t' hF hN hend)
theorem ks_0_1_2_3_4_5_6_8_9_10 (A5 : Option Addr) (c5 : Nat) (g cap : Nat) (t : Nat) (hF : FK A1 A2 n1 c1 n2 c2 cb room us v0 v) (hN : NK room us out tg on rs) (h9 : v.cell? ⟨g, 0, none⟩ = some (.int .i64 on)) (hend : ∀ (y : Act) v, FK A1 A2 n1 c1 n2 c2 cb room us v0 v → y.defers = [] → y.tmps.size = 43 → y.tmps[2]? = some (.bool true) → KV Try.prog H Tgt (G (bK.at y (.inRegion kOps [] :: kk)) cs) v) :
    KV Try.prog H Tgt (G (bK.at (kAct A A1 A2 n c n1 c1 n2 c2 cb out (.bool false) (.int .i64 out) (.bool true) (.bool true) (.int .i64 out) (.agg #[.slice A1 n1 c1, .slice A2 n2 c2]) (.slice A5 3 c5) (.int .i64 tg) undef (.agg #[.slice A1 n1 c1, .slice A2 n2 c2]) (.slice (some ⟨g, 0, none⟩) 3 cap) (.pointer (some ⟨g, 0, none⟩)) undef undef undef undef undef undef undef) (.inRegion kOps (Region.linearise.go .any kOps 9 t #[true, true, true, true, true, true, true, false, true, true, true, false, false, false, false, false, false, false, false] []) :: kk)) cs) v := by
  obtain ⟨i, hi, t', e⟩ := go_some (md := .any) (ops := kOps) (fuel := 8) (t := t) (listed := #[true, true, true, true, true, true, true, false, true, true, true, false, false, false, false, false, false, false, false]) (rs := [7, 11, 12]) (by kernel_rfl) (by simp)
  rw [e]
  clear e
  simp only [List.mem_cons, List.not_mem_nil, or_false] at hi
  rcases hi with rfl | rfl | rfl
  · exact ko_7 hF hN (ks_0_1_2_3_4_5_6_7_8_9_10 A5 c5 g cap t' hF hN h9 hend)
  · exact ko_11 hF hN h9 (ks_0_1_2_3_4_5_6_8_9_10_11 A5 c5 g cap t' hF hN hend)
  · exact ko_12 hF hN (ks_0_1_2_3_4_5_6_8_9_10_12 A5 c5 g cap t' hF hN h9 hend)
theorem ks_0_1_2_3_4_5_6_8_9_12 (A5 : Option Addr) (c5 : Nat) (g cap : Nat) (t : Nat) (hF : FK A1 A2 n1 c1 n2 c2 cb room us v0 v) (hN : NK room us out tg on rs) (h9 : v.cell? ⟨g, 0, none⟩ = some (.int .i64 on)) (hend : ∀ (y : Act) v, FK A1 A2 n1 c1 n2 c2 cb room us v0 v → y.defers = [] → y.tmps.size = 43 → y.tmps[2]? = some (.bool true) → KV Try.prog H Tgt (G (bK.at y (.inRegion kOps [] :: kk)) cs) v) :
    KV Try.prog H Tgt (G (bK.at (kAct A A1 A2 n c n1 c1 n2 c2 cb out (.bool false) (.int .i64 out) (.bool true) (.bool true) (.int .i64 out) (.agg #[.slice A1 n1 c1, .slice A2 n2 c2]) (.slice A5 3 c5) (.int .i64 tg) undef (.agg #[.slice A1 n1 c1, .slice A2 n2 c2]) (.slice (some ⟨g, 0, none⟩) 3 cap) undef undef (.pointer (some ⟨cb, 0, none⟩)) undef undef undef undef undef) (.inRegion kOps (Region.linearise.go .any kOps 9 t #[true, true, true, true, true, true, true, false, true, true, false, false, true, false, false, false, false, false, false] []) :: kk)) cs) v := by
  obtain ⟨i, hi, t', e⟩ := go_some (md := .any) (ops := kOps) (fuel := 8) (t := t) (listed := #[true, true, true, true, true, true, true, false, true, true, false, false, true, false, false, false, false, false, false]) (rs := [7, 10, 13]) (by kernel_rfl) (by simp)
  rw [e]
  clear e
  simp only [List.mem_cons, List.not_mem_nil, or_false] at hi
  rcases hi with rfl | rfl | rfl
  · exact ko_7 hF hN (ks_0_1_2_3_4_5_6_7_8_9_12 A5 c5 g cap t' hF hN h9 hend)
  · exact ko_10 hF hN (ks_0_1_2_3_4_5_6_8_9_10_12 A5 c5 g cap t' hF hN h9 hend)
  · exact ko_13 hF hN (ks_0_1_2_3_4_5_6_8_9_12_13 A5 c5 g cap t' hF hN h9 hend)
theorem ks_0_1_2_3_4_5_6_8_12_13 (A5 : Option Addr) (c5 : Nat) (t : Nat) (hF : FK A1 A2 n1 c1 n2 c2 cb room us v0 v) (hN : NK room us out tg on rs) (hend : ∀ (y : Act) v, FK A1 A2 n1 c1 n2 c2 cb room us v0 v → y.defers = [] → y.tmps.size = 43 → y.tmps[2]? = some (.bool true) → KV Try.prog H Tgt (G (bK.at y (.inRegion kOps [] :: kk)) cs) v) :
    KV Try.prog H Tgt (G (bK.at (kAct A A1 A2 n c n1 c1 n2 c2 cb out (.bool false) (.int .i64 out) (.bool true) (.bool true) (.int .i64 out) (.agg #[.slice A1 n1 c1, .slice A2 n2 c2]) (.slice A5 3 c5) (.int .i64 tg) undef (.agg #[.slice A1 n1 c1, .slice A2 n2 c2]) undef undef undef (.pointer (some ⟨cb, 0, none⟩)) (.slice A1 n1 c1) undef undef undef undef) (.inRegion kOps (Region.linearise.go .any kOps 9 t #[true, true, true, true, true, true, true, false, true, false, false, false, true, true, false, false, false, false, false] []) :: kk)) cs) v := by
  obtain ⟨i, hi, t', e⟩ := go_some (md := .any) (ops := kOps) (fuel := 8) (t := t) (listed := #[true, true, true, true, true, true, true, false, true, false, false, false, true, true, false, false, false, false, false]) (rs := [7, 9]) (by kernel_rfl) (by simp)
  rw [e]
  clear e
  simp only [List.mem_cons, List.not_mem_nil, or_false] at hi
  rcases hi with rfl | rfl
  · exact ko_7 hF hN (ks_0_1_2_3_4_5_6_7_8_12_13 A5 c5 t' hF hN hend)
  · exact ko_9 hF hN fun g cap v' hF' h9 => ks_0_1_2_3_4_5_6_8_9_12_13 A5 c5 g cap t' hF' hN h9 hend
theorem ks_0_1_2_4_5_6_8_9_10_11 (A5 : Option Addr) (c5 : Nat) (g cap : Nat) (t : Nat) (hF : FK A1 A2 n1 c1 n2 c2 cb room us v0 v) (hN : NK room us out tg on rs) (hend : ∀ (y : Act) v, FK A1 A2 n1 c1 n2 c2 cb room us v0 v → y.defers = [] → y.tmps.size = 43 → y.tmps[2]? = some (.bool true) → KV Try.prog H Tgt (G (bK.at y (.inRegion kOps [] :: kk)) cs) v) :
    KV Try.prog H Tgt (G (bK.at (kAct A A1 A2 n c n1 c1 n2 c2 cb out (.bool false) (.int .i64 out) (.bool true) (.bool true) undef (.agg #[.slice A1 n1 c1, .slice A2 n2 c2]) (.slice A5 3 c5) (.int .i64 tg) undef (.agg #[.slice A1 n1 c1, .slice A2 n2 c2]) (.slice (some ⟨g, 0, none⟩) 3 cap) (.pointer (some ⟨g, 0, none⟩)) (.int .i64 on) undef undef undef undef undef undef) (.inRegion kOps (Region.linearise.go .any kOps 9 t #[true, true, true, false, true, true, true, false, true, true, true, true, false, false, false, false, false, false, false] []) :: kk)) cs) v := by
  obtain ⟨i, hi, t', e⟩ := go_some (md := .any) (ops := kOps) (fuel := 8) (t := t) (listed := #[true, true, true, false, true, true, true, false, true, true, true, true, false, false, false, false, false, false, false]) (rs := [3, 12]) (by kernel_rfl) (by simp)
  rw [e]
  clear e
  simp only [List.mem_cons, List.not_mem_nil, or_false] at hi
  rcases hi with rfl | rfl
  · exact ko_3 hF hN (ks_0_1_2_3_4_5_6_8_9_10_11 A5 c5 g cap t' hF hN hend)
  · exact ko_12 hF hN (ks_0_1_2_4_5_6_8_9_10_11_12 A5 c5 g cap t' hF hN hend)
theorem ks_0_1_2_4_5_6_8_9_10_12 (A5 : Option Addr) (c5 : Nat) (g cap : Nat) (t : Nat) (hF : FK A1 A2 n1 c1 n2 c2 cb room us v0 v) (hN : NK room us out tg on rs) (h9 : v.cell? ⟨g, 0, none⟩ = some (.int .i64 on)) (hend : ∀ (y : Act) v, FK A1 A2 n1 c1 n2 c2 cb room us v0 v → y.defers = [] → y.tmps.size = 43 → y.tmps[2]? = some (.bool true) → KV Try.prog H Tgt (G (bK.at y (.inRegion kOps [] :: kk)) cs) v) :
    KV Try.prog H Tgt (G (bK.at (kAct A A1 A2 n c n1 c1 n2 c2 cb out (.bool false) (.int .i64 out) (.bool true) (.bool true) undef (.agg #[.slice A1 n1 c1, .slice A2 n2 c2]) (.slice A5 3 c5) (.int .i64 tg) undef (.agg #[.slice A1 n1 c1, .slice A2 n2 c2]) (.slice (some ⟨g, 0, none⟩) 3 cap) (.pointer (some ⟨g, 0, none⟩)) undef (.pointer (some ⟨cb, 0, none⟩)) undef undef undef undef undef) (.inRegion kOps (Region.linearise.go .any kOps 9 t #[true, true, true, false, true, true, true, false, true, true, true, false, true, false, false, false, false, false, false] []) :: kk)) cs) v := by
  obtain ⟨i, hi, t', e⟩ := go_some (md := .any) (ops := kOps) (fuel := 8) (t := t) (listed := #[true, true, true, false, true, true, true, false, true, true, true, false, true, false, false, false, false, false, false]) (rs := [3, 11, 13]) (by kernel_rfl) (by simp)
  rw [e]
  clear e
  simp only [List.mem_cons, List.not_mem_nil, or_false] at hi
  rcases hi with rfl | rfl | rfl
  · exact ko_3 hF hN (ks_0_1_2_3_4_5_6_8_9_10_12 A5 c5 g cap t' hF hN h9 hend)
  · exact ko_11 hF hN h9 (ks_0_1_2_4_5_6_8_9_10_11_12 A5 c5 g cap t' hF hN hend)
  · exact ko_13 hF hN (ks_0_1_2_4_5_6_8_9_10_12_13 A5 c5 g cap t' hF hN h9 hend)
theorem ks_0_1_2_4_5_6_8_9_12_13 (A5 : Option Addr) (c5 : Nat) (g cap : Nat) (t : Nat) (hF : FK A1 A2 n1 c1 n2 c2 cb room us v0 v) (hN : NK room us out tg on rs) (h9 : v.cell? ⟨g, 0, none⟩ = some (.int .i64 on)) (hend : ∀ (y : Act) v, FK A1 A2 n1 c1 n2 c2 cb room us v0 v → y.defers = [] → y.tmps.size = 43 → y.tmps[2]? = some (.bool true) → KV Try.prog H Tgt (G (bK.at y (.inRegion kOps [] :: kk)) cs) v) :
    KV Try.prog H Tgt (G (bK.at (kAct A A1 A2 n c n1 c1 n2 c2 cb out (.bool false) (.int .i64 out) (.bool true) (.bool true) undef (.agg #[.slice A1 n1 c1, .slice A2 n2 c2]) (.slice A5 3 c5) (.int .i64 tg) undef (.agg #[.slice A1 n1 c1, .slice A2 n2 c2]) (.slice (some ⟨g, 0, none⟩) 3 cap) undef undef (.pointer (some ⟨cb, 0, none⟩)) (.slice A1 n1 c1) undef undef undef undef) (.inRegion kOps (Region.linearise.go .any kOps 9 t #[true, true, true, false, true, true, true, false, true, true, false, false, true, true, false, false, false, false, false] []) :: kk)) cs) v := by
  obtain ⟨i, hi, t', e⟩ := go_some (md := .any) (ops := kOps) (fuel := 8) (t := t) (listed := #[true, true, true, false, true, true, true, false, true, true, false, false, true, true, false, false, false, false, false]) (rs := [3, 10, 14]) (by kernel_rfl) (by simp)
  rw [e]
  clear e
  simp only [List.mem_cons, List.not_mem_nil, or_false] at hi
  rcases hi with rfl | rfl | rfl
  · exact ko_3 hF hN (ks_0_1_2_3_4_5_6_8_9_12_13 A5 c5 g cap t' hF hN h9 hend)
  · exact ko_10 hF hN (ks_0_1_2_4_5_6_8_9_10_12_13 A5 c5 g cap t' hF hN h9 hend)
  · exact ko_14 hF hN (ks_0_1_2_4_5_6_8_9_12_13_14 A5 c5 g cap t' hF hN h9 hend)
theorem ks_0_1_2_3_4_5_6_7_8 (A5 : Option Addr) (c5 : Nat) (t : Nat) (hF : FK A1 A2 n1 c1 n2 c2 cb room us v0 v) (hN : NK room us out tg on rs) (hend : ∀ (y : Act) v, FK A1 A2 n1 c1 n2 c2 cb room us v0 v → y.defers = [] → y.tmps.size = 43 → y.tmps[2]? = some (.bool true) → KV Try.prog H Tgt (G (bK.at y (.inRegion kOps [] :: kk)) cs) v) :
    KV Try.prog H Tgt (G (bK.at (kAct A A1 A2 n c n1 c1 n2 c2 cb out (.bool false) (.int .i64 out) (.bool true) (.bool true) (.int .i64 out) (.agg #[.slice A1 n1 c1, .slice A2 n2 c2]) (.slice A5 3 c5) (.int .i64 tg) (.int .i64 (out + tg)) (.agg #[.slice A1 n1 c1, .slice A2 n2 c2]) undef undef undef undef undef undef undef undef undef) (.inRegion kOps (Region.linearise.go .any kOps 10 t #[true, true, true, true, true, true, true, true, true, false, false, false, false, false, false, false, false, false, false] []) :: kk)) cs) v := by
  obtain ⟨i, hi, t', e⟩ := go_some (md := .any) (ops := kOps) (fuel := 9) (t := t) (listed := #[true, true, true, true, true, true, true, true, true, false, false, false, false, false, false, false, false, false, false]) (rs := [9, 12]) (by kernel_rfl) (by simp)
  rw [e]
  clear e
  simp only [List.mem_cons, List.not_mem_nil, or_false] at hi
  rcases hi with rfl | rfl
  · exact ko_9 hF hN fun g cap v' hF' h9 => ks_0_1_2_3_4_5_6_7_8_9 A5 c5 g cap t' hF' hN h9 hend
  · exact ko_12 hF hN (ks_0_1_2_3_4_5_6_7_8_12 A5 c5 t' hF hN hend)
theorem ks_0_1_2_3_4_5_6_7_12 (A5 : Option Addr) (c5 : Nat) (t : Nat) (hF : FK A1 A2 n1 c1 n2 c2 cb room us v0 v) (hN : NK room us out tg on rs) (hend : ∀ (y : Act) v, FK A1 A2 n1 c1 n2 c2 cb room us v0 v → y.defers = [] → y.tmps.size = 43 → y.tmps[2]? = some (.bool true) → KV Try.prog H Tgt (G (bK.at y (.inRegion kOps [] :: kk)) cs) v) :
    KV Try.prog H Tgt (G (bK.at (kAct A A1 A2 n c n1 c1 n2 c2 cb out (.bool false) (.int .i64 out) (.bool true) (.bool true) (.int .i64 out) (.agg #[.slice A1 n1 c1, .slice A2 n2 c2]) (.slice A5 3 c5) (.int .i64 tg) (.int .i64 (out + tg)) undef undef undef undef (.pointer (some ⟨cb, 0, none⟩)) undef undef undef undef undef) (.inRegion kOps (Region.linearise.go .any kOps 10 t #[true, true, true, true, true, true, true, true, false, false, false, false, true, false, false, false, false, false, false] []) :: kk)) cs) v := by
  obtain ⟨i, hi, t', e⟩ := go_some (md := .any) (ops := kOps) (fuel := 9) (t := t) (listed := #[true, true, true, true, true, true, true, true, false, false, false, false, true, false, false, false, false, false, false]) (rs := [8, 13]) (by kernel_rfl) (by simp)
  rw [e]
  clear e
  simp only [List.mem_cons, List.not_mem_nil, or_false] at hi
  rcases hi with rfl | rfl
  · exact ko_8 hF hN (ks_0_1_2_3_4_5_6_7_8_12 A5 c5 t' hF hN hend)
  · exact ko_13 hF hN (ks_0_1_2_3_4_5_6_7_12_13 A5 c5 t' hF hN hend)
theorem ks_0_1_2_3_4_5_6_8_9 (A5 : Option Addr) (c5 : Nat) (g cap : Nat) (t : Nat) (hF : FK A1 A2 n1 c1 n2 c2 cb room us v0 v) (hN : NK room us out tg on rs) (h9 : v.cell? ⟨g, 0, none⟩ = some (.int .i64 on)) (hend : ∀ (y : Act) v, FK A1 A2 n1 c1 n2 c2 cb room us v0 v → y.defers = [] → y.tmps.size = 43 → y.tmps[2]? = some (.bool true) → KV Try.prog H Tgt (G (bK.at y (.inRegion kOps [] :: kk)) cs) v) :
    KV Try.prog H Tgt (G (bK.at (kAct A A1 A2 n c n1 c1 n2 c2 cb out (.bool false) (.int .i64 out) (.bool true) (.bool true) (.int .i64 out) (.agg #[.slice A1 n1 c1, .slice A2 n2 c2]) (.slice A5 3 c5) (.int .i64 tg) undef (.agg #[.slice A1 n1 c1, .slice A2 n2 c2]) (.slice (some ⟨g, 0, none⟩) 3 cap) undef undef undef undef undef undef undef undef) (.inRegion kOps (Region.linearise.go .any kOps 10 t #[true, true, true, true, true, true, true, false, true, true, false, false, false, false, false, false, false, false, false] []) :: kk)) cs) v := by
  obtain ⟨i, hi, t', e⟩ := go_some (md := .any) (ops := kOps) (fuel := 9) (t := t) (listed := #[true, true, true, true, true, true, true, false, true, true, false, false, false, false, false, false, false, false, false]) (rs := [7, 10, 12]) (by kernel_rfl) (by simp)
  rw [e]
  clear e
  simp only [List.mem_cons, List.not_mem_nil, or_false] at hi
  rcases hi with rfl | rfl | rfl
  · exact ko_7 hF hN (ks_0_1_2_3_4_5_6_7_8_9 A5 c5 g cap t' hF hN h9 hend)
  · exact ko_10 hF hN (ks_0_1_2_3_4_5_6_8_9_10 A5 c5 g cap t' hF hN h9 hend)
  · exact ko_12 hF hN (ks_0_1_2_3_4_5_6_8_9_12 A5 c5 g cap t' hF hN h9 hend)
theorem ks_0_1_2_3_4_5_6_8_12 (A5 : Option Addr) (c5 : Nat) (t : Nat) (hF : FK A1 A2 n1 c1 n2 c2 cb room us v0 v) (hN : NK room us out tg on rs) (hend : ∀ (y : Act) v, FK A1 A2 n1 c1 n2 c2 cb room us v0 v → y.defers = [] → y.tmps.size = 43 → y.tmps[2]? = some (.bool true) → KV Try.prog H Tgt (G (bK.at y (.inRegion kOps [] :: kk)) cs) v) :
    KV Try.prog H Tgt (G (bK.at (kAct A A1 A2 n c n1 c1 n2 c2 cb out (.bool false) (.int .i64 out) (.bool true) (.bool true) (.int .i64 out) (.agg #[.slice A1 n1 c1, .slice A2 n2 c2]) (.slice A5 3 c5) (.int .i64 tg) undef (.agg #[.slice A1 n1 c1, .slice A2 n2 c2]) undef undef undef (.pointer (some ⟨cb, 0, none⟩)) undef undef undef undef undef) (.inRegion kOps (Region.linearise.go .any kOps 10 t #[true, true, true, true, true, true, true, false, true, false, false, false, true, false, false, false, false, false, false] []) :: kk)) cs) v := by
  obtain ⟨i, hi, t', e⟩ := go_some (md := .any) (ops := kOps) (fuel := 9) (t := t) (listed := #[true, true, true, true, true, true, true, false, true, false, false, false, true, false, false, false, false, false, false]) (rs := [7, 9, 13]) (by kernel_rfl) (by simp)
  rw [e]
  clear e
  simp only [List.mem_cons, List.not_mem_nil, or_false] at hi
  rcases hi with rfl | rfl | rfl
  · exact ko_7 hF hN (ks_0_1_2_3_4_5_6_7_8_12 A5 c5 t' hF hN hend)
  · exact ko_9 hF hN fun g cap v' hF' h9 => ks_0_1_2_3_4_5_6_8_9_12 A5 c5 g cap t' hF' hN h9 hend
  · exact ko_13 hF hN (ks_0_1_2_3_4_5_6_8_12_13 A5 c5 t' hF hN hend)
theorem ks_0_1_2_3_4_5_6_12_13 (A5 : Option Addr) (c5 : Nat) (t : Nat) (hF : FK A1 A2 n1 c1 n2 c2 cb room us v0 v) (hN : NK room us out tg on rs) (hend : ∀ (y : Act) v, FK A1 A2 n1 c1 n2 c2 cb room us v0 v → y.defers = [] → y.tmps.size = 43 → y.tmps[2]? = some (.bool true) → KV Try.prog H Tgt (G (bK.at y (.inRegion kOps [] :: kk)) cs) v) :
    KV Try.prog H Tgt (G (bK.at (kAct A A1 A2 n c n1 c1 n2 c2 cb out (.bool false) (.int .i64 out) (.bool true) (.bool true) (.int .i64 out) (.agg #[.slice A1 n1 c1, .slice A2 n2 c2]) (.slice A5 3 c5) (.int .i64 tg) undef undef undef undef undef (.pointer (some ⟨cb, 0, none⟩)) (.slice A1 n1 c1) undef undef undef undef) (.inRegion kOps (Region.linearise.go .any kOps 10 t #[true, true, true, true, true, true, true, false, false, false, false, false, true, true, false, false, false, false, false] []) :: kk)) cs) v := by
  obtain ⟨i, hi, t', e⟩ := go_some (md := .any) (ops := kOps) (fuel := 9) (t := t) (listed := #[true, true, true, true, true, true, true, false, false, false, false, false, true, true, false, false, false, false, false]) (rs := [7, 8]) (by kernel_rfl) (by simp)
  rw [e]
  clear e
  simp only [List.mem_cons, List.not_mem_nil, or_false] at hi
  rcases hi with rfl | rfl
  · exact ko_7 hF hN (ks_0_1_2_3_4_5_6_7_12_13 A5 c5 t' hF hN hend)
  · exact ko_8 hF hN (ks_0_1_2_3_4_5_6_8_12_13 A5 c5 t' hF hN hend)
theorem ks_0_1_2_3_4_5_8_12_13 (A5 : Option Addr) (c5 : Nat) (t : Nat) (hF : FK A1 A2 n1 c1 n2 c2 cb room us v0 v) (hN : NK room us out tg on rs) (h5 : RdI v v.heap.size A5 3 (togTo us us.length)) (hend : ∀ (y : Act) v, FK A1 A2 n1 c1 n2 c2 cb room us v0 v → y.defers = [] → y.tmps.size = 43 → y.tmps[2]? = some (.bool true) → KV Try.prog H Tgt (G (bK.at y (.inRegion kOps [] :: kk)) cs) v) :
    KV Try.prog H Tgt (G (bK.at (kAct A A1 A2 n c n1 c1 n2 c2 cb out (.bool false) (.int .i64 out) (.bool true) (.bool true) (.int .i64 out) (.agg #[.slice A1 n1 c1, .slice A2 n2 c2]) (.slice A5 3 c5) undef undef (.agg #[.slice A1 n1 c1, .slice A2 n2 c2]) undef undef undef (.pointer (some ⟨cb, 0, none⟩)) (.slice A1 n1 c1) undef undef undef undef) (.inRegion kOps (Region.linearise.go .any kOps 10 t #[true, true, true, true, true, true, false, false, true, false, false, false, true, true, false, false, false, false, false] []) :: kk)) cs) v := by
  obtain ⟨i, hi, t', e⟩ := go_some (md := .any) (ops := kOps) (fuel := 9) (t := t) (listed := #[true, true, true, true, true, true, false, false, true, false, false, false, true, true, false, false, false, false, false]) (rs := [6]) (by kernel_rfl) (by simp)
  rw [e]
  clear e
  simp only [List.mem_cons, List.not_mem_nil, or_false] at hi
  rcases hi with rfl
  · exact ko_6 hF hN h5 (ks_0_1_2_3_4_5_6_8_12_13 A5 c5 t' hF hN hend)
theorem ks_0_1_2_4_5_6_8_9_10 (A5 : Option Addr) (c5 : Nat) (g cap : Nat) (t : Nat) (hF : FK A1 A2 n1 c1 n2 c2 cb room us v0 v) (hN : NK room us out tg on rs) (h9 : v.cell? ⟨g, 0, none⟩ = some (.int .i64 on)) (hend : ∀ (y : Act) v, FK A1 A2 n1 c1 n2 c2 cb room us v0 v → y.defers = [] → y.tmps.size = 43 → y.tmps[2]? = some (.bool true) → KV Try.prog H Tgt (G (bK.at y (.inRegion kOps [] :: kk)) cs) v) :
    KV Try.prog H Tgt (G (bK.at (kAct A A1 A2 n c n1 c1 n2 c2 cb out (.bool false) (.int .i64 out) (.bool true) (.bool true) undef (.agg #[.slice A1 n1 c1, .slice A2 n2 c2]) (.slice A5 3 c5) (.int .i64 tg) undef (.agg #[.slice A1 n1 c1, .slice A2 n2 c2]) (.slice (some ⟨g, 0, none⟩) 3 cap) (.pointer (some ⟨g, 0, none⟩)) undef undef undef undef undef undef undef) (.inRegion kOps (Region.linearise.go .any kOps 10 t #[true, true, true, false, true, true, true, false, true, true, true, false, false, false, false, false, false, false, false] []) :: kk)) cs) v := by
  obtain ⟨i, hi, t', e⟩ := go_some (md := .any) (ops := kOps) (fuel := 9) (t := t) (listed := #[true, true, true, false, true, true, true, false, true, true, true, false, false, false, false, false, false, false, false]) (rs := [3, 11, 12]) (by kernel_rfl) (by simp)
  rw [e]
  clear e
  simp only [List.mem_cons, List.not_mem_nil, or_false] at hi
  rcases hi with rfl | rfl | rfl
  · exact ko_3 hF hN (ks_0_1_2_3_4_5_6_8_9_10 A5 c5 g cap t' hF hN h9 hend)
  · exact ko_11 hF hN h9 (ks_0_1_2_4_5_6_8_9_10_11 A5 c5 g cap t' hF hN hend)
  · exact ko_12 hF hN (ks_0_1_2_4_5_6_8_9_10_12 A5 c5 g cap t' hF hN h9 hend)
theorem ks_0_1_2_4_5_6_8_9_12 (A5 : Option Addr) (c5 : Nat) (g cap : Nat) (t : Nat) (hF : FK A1 A2 n1 c1 n2 c2 cb room us v0 v) (hN : NK room us out tg on rs) (h9 : v.cell? ⟨g, 0, none⟩ = some (.int .i64 on)) (hend : ∀ (y : Act) v, FK A1 A2 n1 c1 n2 c2 cb room us v0 v → y.defers = [] → y.tmps.size = 43 → y.tmps[2]? = some (.bool true) → KV Try.prog H Tgt (G (bK.at y (.inRegion kOps [] :: kk)) cs) v) :
    KV Try.prog H Tgt (G (bK.at (kAct A A1 A2 n c n1 c1 n2 c2 cb out (.bool false) (.int .i64 out) (.bool true) (.bool true) undef (.agg #[.slice A1 n1 c1, .slice A2 n2 c2]) (.slice A5 3 c5) (.int .i64 tg) undef (.agg #[.slice A1 n1 c1, .slice A2 n2 c2]) (.slice (some ⟨g, 0, none⟩) 3 cap) undef undef (.pointer (some ⟨cb, 0, none⟩)) undef undef undef undef undef) (.inRegion kOps (Region.linearise.go .any kOps 10 t #[true, true, true, false, true, true, true, false, true, true, false, false, true, false, false, false, false, false, false] []) :: kk)) cs) v := by
  obtain ⟨i, hi, t', e⟩ := go_some (md := .any) (ops := kOps) (fuel := 9) (t := t) (listed := #[true, true, true, false, true, true, true, false, true, true, false, false, true, false, false, false, false, false, false]) (rs := [3, 10, 13]) (by kernel_rfl) (by simp)
  rw [e]
  clear e
  simp only [List.mem_cons, List.not_mem_nil, or_false] at hi
  rcases hi with rfl | rfl | rfl
  · exact ko_3 hF hN (ks_0_1_2_3_4_5_6_8_9_12 A5 c5 g cap t' hF hN h9 hend)
  · exact ko_10 hF hN (ks_0_1_2_4_5_6_8_9_10_12 A5 c5 g cap t' hF hN h9 hend)
  · exact ko_13 hF hN (ks_0_1_2_4_5_6_8_9_12_13 A5 c5 g cap t' hF hN h9 hend)
theorem ks_0_1_2_4_5_6_8_12_13 (A5 : Option Addr) (c5 : Nat) (t : Nat) (hF : FK A1 A2 n1 c1 n2 c2 cb room us v0 v) (hN : NK room us out tg on rs) (hend : ∀ (y : Act) v, FK A1 A2 n1 c1 n2 c2 cb room us v0 v → y.defers = [] → y.tmps.size = 43 → y.tmps[2]? = some (.bool true) → KV Try.prog H Tgt (G (bK.at y (.inRegion kOps [] :: kk)) cs) v) :
    KV Try.prog H Tgt (G (bK.at (kAct A A1 A2 n c n1 c1 n2 c2 cb out (.bool false) (.int .i64 out) (.bool true) (.bool true) undef (.agg #[.slice A1 n1 c1, .slice A2 n2 c2]) (.slice A5 3 c5) (.int .i64 tg) undef (.agg #[.slice A1 n1 c1, .slice A2 n2 c2]) undef undef undef (.pointer (some ⟨cb, 0, none⟩)) (.slice A1 n1 c1) undef undef undef undef) (.inRegion kOps (Region.linearise.go .any kOps 10 t #[true, true, true, false, true, true, true, false, true, false, false, false, true, true, false, false, false, false, false] []) :: kk)) cs) v := by
  obtain ⟨i, hi, t', e⟩ := go_some (md := .any) (ops := kOps) (fuel := 9) (t := t) (listed := #[true, true, true, false, true, true, true, false, true, false, false, false, true, true, false, false, false, false, false]) (rs := [3, 9]) (by kernel_rfl) (by simp)
  rw [e]
  clear e
  simp only [List.mem_cons, List.not_mem_nil, or_false] at hi
  rcases hi with rfl | rfl
  · exact ko_3 hF hN (ks_0_1_2_3_4_5_6_8_12_13 A5 c5 t' hF hN hend)
  · exact ko_9 hF hN fun g cap v' hF' h9 => ks_0_1_2_4_5_6_8_9_12_13 A5 c5 g cap t' hF' hN h9 hend
theorem ks_0_1_2_3_4_5_6_7 (A5 : Option Addr) (c5 : Nat) (t : Nat) (hF : FK A1 A2 n1 c1 n2 c2 cb room us v0 v) (hN : NK room us out tg on rs) (hend : ∀ (y : Act) v, FK A1 A2 n1 c1 n2 c2 cb room us v0 v → y.defers = [] → y.tmps.size = 43 → y.tmps[2]? = some (.bool true) → KV Try.prog H Tgt (G (bK.at y (.inRegion kOps [] :: kk)) cs) v) :
    KV Try.prog H Tgt (G (bK.at (kAct A A1 A2 n c n1 c1 n2 c2 cb out (.bool false) (.int .i64 out) (.bool true) (.bool true) (.int .i64 out) (.agg #[.slice A1 n1 c1, .slice A2 n2 c2]) (.slice A5 3 c5) (.int .i64 tg) (.int .i64 (out + tg)) undef undef undef undef undef undef undef undef undef undef) (.inRegion kOps (Region.linearise.go .any kOps 11 t #[true, true, true, true, true, true, true, true, false, false, false, false, false, false, false, false, false, false, false] []) :: kk)) cs) v := by
  obtain ⟨i, hi, t', e⟩ := go_some (md := .any) (ops := kOps) (fuel := 10) (t := t) (listed := #[true, true, true, true, true, true, true, true, false, false, false, false, false, false, false, false, false, false, false]) (rs := [8, 12]) (by kernel_rfl) (by simp)
  rw [e]
  clear e
  simp only [List.mem_cons, List.not_mem_nil, or_false] at hi
  rcases hi with rfl | rfl
  · exact ko_8 hF hN (ks_0_1_2_3_4_5_6_7_8 A5 c5 t' hF hN hend)
  · exact ko_12 hF hN (ks_0_1_2_3_4_5_6_7_12 A5 c5 t' hF hN hend)
theorem ks_0_1_2_3_4_5_6_8 (A5 : Option Addr) (c5 : Nat) (t : Nat) (hF : FK A1 A2 n1 c1 n2 c2 cb room us v0 v) (hN : NK room us out tg on rs) (hend : ∀ (y : Act) v, FK A1 A2 n1 c1 n2 c2 cb room us v0 v → y.defers = [] → y.tmps.size = 43 → y.tmps[2]? = some (.bool true) → KV Try.prog H Tgt (G (bK.at y (.inRegion kOps [] :: kk)) cs) v) :
    KV Try.prog H Tgt (G (bK.at (kAct A A1 A2 n c n1 c1 n2 c2 cb out (.bool false) (.int .i64 out) (.bool true) (.bool true) (.int .i64 out) (.agg #[.slice A1 n1 c1, .slice A2 n2 c2]) (.slice A5 3 c5) (.int .i64 tg) undef (.agg #[.slice A1 n1 c1, .slice A2 n2 c2]) undef undef undef undef undef undef undef undef undef) (.inRegion kOps (Region.linearise.go .any kOps 11 t #[true, true, true, true, true, true, true, false, true, false, false, false, false, false, false, false, false, false, false] []) :: kk)) cs) v := by
  obtain ⟨i, hi, t', e⟩ := go_some (md := .any) (ops := kOps) (fuel := 10) (t := t) (listed := #[true, true, true, true, true, true, true, false, true, false, false, false, false, false, false, false, false, false, false]) (rs := [7, 9, 12]) (by kernel_rfl) (by simp)
  rw [e]
  clear e
  simp only [List.mem_cons, List.not_mem_nil, or_false] at hi
  rcases hi with rfl | rfl | rfl
  · exact ko_7 hF hN (ks_0_1_2_3_4_5_6_7_8 A5 c5 t' hF hN hend)
  · exact ko_9 hF hN fun g cap v' hF' h9 => ks_0_1_2_3_4_5_6_8_9 A5 c5 g cap t' hF' hN h9 hend
  · exact ko_12 hF hN (ks_0_1_2_3_4_5_6_8_12 A5 c5 t' hF hN hend)
theorem ks_0_1_2_3_4_5_6_12 (A5 : Option Addr) (c5 : Nat) (t : Nat) (hF : FK A1 A2 n1 c1 n2 c2 cb room us v0 v) (hN : NK room us out tg on rs) (hend : ∀ (y : Act) v, FK A1 A2 n1 c1 n2 c2 cb room us v0 v → y.defers = [] → y.tmps.size = 43 → y.tmps[2]? = some (.bool true) → KV Try.prog H Tgt (G (bK.at y (.inRegion kOps [] :: kk)) cs) v) :
    KV Try.prog H Tgt (G (bK.at (kAct A A1 A2 n c n1 c1 n2 c2 cb out (.bool false) (.int .i64 out) (.bool true) (.bool true) (.int .i64 out) (.agg #[.slice A1 n1 c1, .slice A2 n2 c2]) (.slice A5 3 c5) (.int .i64 tg) undef undef undef undef undef (.pointer (some ⟨cb, 0, none⟩)) undef undef undef undef undef) (.inRegion kOps (Region.linearise.go .any kOps 11 t #[true, true, true, true, true, true, true, false, false, false, false, false, true, false, false, false, false, false, false] []) :: kk)) cs) v := by
  obtain ⟨i, hi, t', e⟩ := go_some (md := .any) (ops := kOps) (fuel := 10) (t := t) (listed := #[true, true, true, true, true, true, true, false, false, false, false, false, true, false, false, false, false, false, false]) (rs := [7, 8, 13]) (by kernel_rfl) (by simp)
  rw [e]
  clear e
  simp only [List.mem_cons, List.not_mem_nil, or_false] at hi
  rcases hi with rfl | rfl | rfl
  · exact ko_7 hF hN (ks_0_1_2_3_4_5_6_7_12 A5 c5 t' hF hN hend)
  · exact ko_8 hF hN (ks_0_1_2_3_4_5_6_8_12 A5 c5 t' hF hN hend)
  · exact ko_13 hF hN (ks_0_1_2_3_4_5_6_12_13 A5 c5 t' hF hN hend)
theorem ks_0_1_2_3_4_5_8_12 (A5 : Option Addr) (c5 : Nat) (t : Nat) (hF : FK A1 A2 n1 c1 n2 c2 cb room us v0 v) (hN : NK room us out tg on rs) (h5 : RdI v v.heap.size A5 3 (togTo us us.length)) (hend : ∀ (y : Act) v, FK A1 A2 n1 c1 n2 c2 cb room us v0 v → y.defers = [] → y.tmps.size = 43 → y.tmps[2]? = some (.bool true) → KV Try.prog H Tgt (G (bK.at y (.inRegion kOps [] :: kk)) cs) v) :
    KV Try.prog H Tgt (G (bK.at (kAct A A1 A2 n c n1 c1 n2 c2 cb out (.bool false) (.int .i64 out) (.bool true) (.bool true) (.int .i64 out) (.agg #[.slice A1 n1 c1, .slice A2 n2 c2]) (.slice A5 3 c5) undef undef (.agg #[.slice A1 n1 c1, .slice A2 n2 c2]) undef undef undef (.pointer (some ⟨cb, 0, none⟩)) undef undef undef undef undef) (.inRegion kOps (Region.linearise.go .any kOps 11 t #[true, true, true, true, true, true, false, false, true, false, false, false, true, false, false, false, false, false, false] []) :: kk)) cs) v := by
  obtain ⟨i, hi, t', e⟩ := go_some (md := .any) (ops := kOps) (fuel := 10) (t := t) (listed := #[true, true, true, true, true, true, false, false, true, false, false, false, true, false, false, false, false, false, false]) (rs := [6, 13]) (by kernel_rfl) (by simp)
  rw [e]
  clear e
  simp only [List.mem_cons, List.not_mem_nil, or_false] at hi
  rcases hi with rfl | rfl
  · exact ko_6 hF hN h5 (ks_0_1_2_3_4_5_6_8_12 A5 c5 t' hF hN hend)
  · exact ko_13 hF hN (ks_0_1_2_3_4_5_8_12_13 A5 c5 t' hF hN h5 hend)
theorem ks_0_1_2_3_4_5_12_13 (A5 : Option Addr) (c5 : Nat) (t : Nat) (hF : FK A1 A2 n1 c1 n2 c2 cb room us v0 v) (hN : NK room us out tg on rs) (h5 : RdI v v.heap.size A5 3 (togTo us us.length)) (hend : ∀ (y : Act) v, FK A1 A2 n1 c1 n2 c2 cb room us v0 v → y.defers = [] → y.tmps.size = 43 → y.tmps[2]? = some (.bool true) → KV Try.prog H Tgt (G (bK.at y (.inRegion kOps [] :: kk)) cs) v) :
    KV Try.prog H Tgt (G (bK.at (kAct A A1 A2 n c n1 c1 n2 c2 cb out (.bool false) (.int .i64 out) (.bool true) (.bool true) (.int .i64 out) (.agg #[.slice A1 n1 c1, .slice A2 n2 c2]) (.slice A5 3 c5) undef undef undef undef undef undef (.pointer (some ⟨cb, 0, none⟩)) (.slice A1 n1 c1) undef undef undef undef) (.inRegion kOps (Region.linearise.go .any kOps 11 t #[true, true, true, true, true, true, false, false, false, false, false, false, true, true, false, false, false, false, false] []) :: kk)) cs) v := by
  obtain ⟨i, hi, t', e⟩ := go_some (md := .any) (ops := kOps) (fuel := 10) (t := t) (listed := #[true, true, true, true, true, true, false, false, false, false, false, false, true, true, false, false, false, false, false]) (rs := [6, 8]) (by kernel_rfl) (by simp)
  rw [e]
  clear e
  simp only [List.mem_cons, List.not_mem_nil, or_false] at hi
  rcases hi with rfl | rfl
  · exact ko_6 hF hN h5 (ks_0_1_2_3_4_5_6_12_13 A5 c5 t' hF hN hend)
  · exact ko_8 hF hN (ks_0_1_2_3_4_5_8_12_13 A5 c5 t' hF hN h5 hend)
theorem ks_0_1_2_3_4_8_12_13 (t : Nat) (hF : FK A1 A2 n1 c1 n2 c2 cb room us v0 v) (hN : NK room us out tg on rs) (hend : ∀ (y : Act) v, FK A1 A2 n1 c1 n2 c2 cb room us v0 v → y.defers = [] → y.tmps.size = 43 → y.tmps[2]? = some (.bool true) → KV Try.prog H Tgt (G (bK.at y (.inRegion kOps [] :: kk)) cs) v) :
    KV Try.prog H Tgt (G (bK.at (kAct A A1 A2 n c n1 c1 n2 c2 cb out (.bool false) (.int .i64 out) (.bool true) (.bool true) (.int .i64 out) (.agg #[.slice A1 n1 c1, .slice A2 n2 c2]) undef undef undef (.agg #[.slice A1 n1 c1, .slice A2 n2 c2]) undef undef undef (.pointer (some ⟨cb, 0, none⟩)) (.slice A1 n1 c1) undef undef undef undef) (.inRegion kOps (Region.linearise.go .any kOps 11 t #[true, true, true, true, true, false, false, false, true, false, false, false, true, true, false, false, false, false, false] []) :: kk)) cs) v := by
  obtain ⟨i, hi, t', e⟩ := go_some (md := .any) (ops := kOps) (fuel := 10) (t := t) (listed := #[true, true, true, true, true, false, false, false, true, false, false, false, true, true, false, false, false, false, false]) (rs := [5]) (by kernel_rfl) (by simp)
  rw [e]
  clear e
  simp only [List.mem_cons, List.not_mem_nil, or_false] at hi
  rcases hi with rfl
  · exact ko_5 hF hN fun A5 c5 v' hF' h5 => ks_0_1_2_3_4_5_8_12_13 A5 c5 t' hF' hN h5 hend
theorem ks_0_1_2_4_5_6_8_9 (A5 : Option Addr) (c5 : Nat) (g cap : Nat) (t : Nat) (hF : FK A1 A2 n1 c1 n2 c2 cb room us v0 v) (hN : NK room us out tg on rs) (h9 : v.cell? ⟨g, 0, none⟩ = some (.int .i64 on)) (hend : ∀ (y : Act) v, FK A1 A2 n1 c1 n2 c2 cb room us v0 v → y.defers = [] → y.tmps.size = 43 → y.tmps[2]? = some (.bool true) → KV Try.prog H Tgt (G (bK.at y (.inRegion kOps [] :: kk)) cs) v) :
    KV Try.prog H Tgt (G (bK.at (kAct A A1 A2 n c n1 c1 n2 c2 cb out (.bool false) (.int .i64 out) (.bool true) (.bool true) undef (.agg #[.slice A1 n1 c1, .slice A2 n2 c2]) (.slice A5 3 c5) (.int .i64 tg) undef (.agg #[.slice A1 n1 c1, .slice A2 n2 c2]) (.slice (some ⟨g, 0, none⟩) 3 cap) undef undef undef undef undef undef undef undef) (.inRegion kOps (Region.linearise.go .any kOps 11 t #[true, true, true, false, true, true, true, false, true, true, false, false, false, false, false, false, false, false, false] []) :: kk)) cs) v := by
  obtain ⟨i, hi, t', e⟩ := go_some (md := .any) (ops := kOps) (fuel := 10) (t := t) (listed := #[true, true, true, false, true, true, true, false, true, true, false, false, false, false, false, false, false, false, false]) (rs := [3, 10, 12]) (by kernel_rfl) (by simp)
  rw [e]
  clear e
  simp only [List.mem_cons, List.not_mem_nil, or_false] at hi
  rcases hi with rfl | rfl | rfl
  · exact ko_3 hF hN (ks_0_1_2_3_4_5_6_8_9 A5 c5 g cap t' hF hN h9 hend)
  · exact ko_10 hF hN (ks_0_1_2_4_5_6_8_9_10 A5 c5 g cap t' hF hN h9 hend)
  · exact ko_12 hF hN (ks_0_1_2_4_5_6_8_9_12 A5 c5 g cap t' hF hN h9 hend)
theorem ks_0_1_2_4_5_6_8_12 (A5 : Option Addr) (c5 : Nat) (t : Nat) (hF : FK A1 A2 n1 c1 n2 c2 cb room us v0 v) (hN : NK room us out tg on rs) (hend : ∀ (y : Act) v, FK A1 A2 n1 c1 n2 c2 cb room us v0 v → y.defers = [] → y.tmps.size = 43 → y.tmps[2]? = some (.bool true) → KV Try.prog H Tgt (G (bK.at y (.inRegion kOps [] :: kk)) cs) v) :
    KV Try.prog H Tgt (G (bK.at (kAct A A1 A2 n c n1 c1 n2 c2 cb out (.bool false) (.int .i64 out) (.bool true) (.bool true) undef (.agg #[.slice A1 n1 c1, .slice A2 n2 c2]) (.slice A5 3 c5) (.int .i64 tg) undef (.agg #[.slice A1 n1 c1, .slice A2 n2 c2]) undef undef undef (.pointer (some ⟨cb, 0, none⟩)) undef undef undef undef undef) (.inRegion kOps (Region.linearise.go .any kOps 11 t #[true, true, true, false, true, true, true, false, true, false, false, false, true, false, false, false, false, false, false] []) :: kk)) cs) v := by
  obtain ⟨i, hi, t', e⟩ := go_some (md := .any) (ops := kOps) (fuel := 10) (t := t) (listed := #[true, true, true, false, true, true, true, false, true, false, false, false, true, false, false, false, false, false, false]) (rs := [3, 9, 13]) (by kernel_rfl) (by simp)
  rw [e]
  clear e
  simp only [List.mem_cons, List.not_mem_nil, or_false] at hi
  rcases hi with rfl | rfl | rfl
  · exact ko_3 hF hN (ks_0_1_2_3_4_5_6_8_12 A5 c5 t' hF hN hend)
  · exact ko_9 hF hN fun g cap v' hF' h9 => ks_0_1_2_4_5_6_8_9_12 A5 c5 g cap t' hF' hN h9 hend
  · exact ko_13 hF hN (ks_0_1_2_4_5_6_8_12_13 A5 c5 t' hF hN hend)
theorem ks_0_1_2_4_5_6_12_13 (A5 : Option Addr) (c5 : Nat) (t : Nat) (hF : FK A1 A2 n1 c1 n2 c2 cb room us v0 v) (hN : NK room us out tg on rs) (hend : ∀ (y : Act) v, FK A1 A2 n1 c1 n2 c2 cb room us v0 v → y.defers = [] → y.tmps.size = 43 → y.tmps[2]? = some (.bool true) → KV Try.prog H Tgt (G (bK.at y (.inRegion kOps [] :: kk)) cs) v) :
    KV Try.prog H Tgt (G (bK.at (kAct A A1 A2 n c n1 c1 n2 c2 cb out (.bool false) (.int .i64 out) (.bool true) (.bool true) undef (.agg #[.slice A1 n1 c1, .slice A2 n2 c2]) (.slice A5 3 c5) (.int .i64 tg) undef undef undef undef undef (.pointer (some ⟨cb, 0, none⟩)) (.slice A1 n1 c1) undef undef undef undef) (.inRegion kOps (Region.linearise.go .any kOps 11 t #[true, true, true, false, true, true, true, false, false, false, false, false, true, true, false, false, false, false, false] []) :: kk)) cs) v := by
  obtain ⟨i, hi, t', e⟩ := go_some (md := .any) (ops := kOps) (fuel := 10) (t := t) (listed := #[true, true, true, false, true, true, true, false, false, false, false, false, true, true, false, false, false, false, false]) (rs := [3, 8]) (by kernel_rfl) (by simp)
  rw [e]
  clear e
  simp only [List.mem_cons, List.not_mem_nil, or_false] at hi
  rcases hi with rfl | rfl
  · exact ko_3 hF hN (ks_0_1_2_3_4_5_6_12_13 A5 c5 t' hF hN hend)
  · exact ko_8 hF hN (ks_0_1_2_4_5_6_8_12_13 A5 c5 t' hF hN hend)
theorem ks_0_1_2_4_5_8_12_13 (A5 : Option Addr) (c5 : Nat) (t : Nat) (hF : FK A1 A2 n1 c1 n2 c2 cb room us v0 v) (hN : NK room us out tg on rs) (h5 : RdI v v.heap.size A5 3 (togTo us us.length)) (hend : ∀ (y : Act) v, FK A1 A2 n1 c1 n2 c2 cb room us v0 v → y.defers = [] → y.tmps.size = 43 → y.tmps[2]? = some (.bool true) → KV Try.prog H Tgt (G (bK.at y (.inRegion kOps [] :: kk)) cs) v) :
    KV Try.prog H Tgt (G (bK.at (kAct A A1 A2 n c n1 c1 n2 c2 cb out (.bool false) (.int .i64 out) (.bool true) (.bool true) undef (.agg #[.slice A1 n1 c1, .slice A2 n2 c2]) (.slice A5 3 c5) undef undef (.agg #[.slice A1 n1 c1, .slice A2 n2 c2]) undef undef undef (.pointer (some ⟨cb, 0, none⟩)) (.slice A1 n1 c1) undef undef undef undef) (.inRegion kOps (Region.linearise.go .any kOps 11 t #[true, true, true, false, true, true, false, false, true, false, false, false, true, true, false, false, false, false, false] []) :: kk)) cs) v := by
  obtain ⟨i, hi, t', e⟩ := go_some (md := .any) (ops := kOps) (fuel := 10) (t := t) (listed := #[true, true, true, false, true, true, false, false, true, false, false, false, true, true, false, false, false, false, false]) (rs := [3, 6]) (by kernel_rfl) (by simp)
  rw [e]
  clear e
  simp only [List.mem_cons, List.not_mem_nil, or_false] at hi
  rcases hi with rfl | rfl
  · exact ko_3 hF hN (ks_0_1_2_3_4_5_8_12_13 A5 c5 t' hF hN h5 hend)
  · exact ko_6 hF hN h5 (ks_0_1_2_4_5_6_8_12_13 A5 c5 t' hF hN hend)
theorem ks_0_1_2_3_4_5_6 (A5 : Option Addr) (c5 : Nat) (t : Nat) (hF : FK A1 A2 n1 c1 n2 c2 cb room us v0 v) (hN : NK room us out tg on rs) (hend : ∀ (y : Act) v, FK A1 A2 n1 c1 n2 c2 cb room us v0 v → y.defers = [] → y.tmps.size = 43 → y.tmps[2]? = some (.bool true) → KV Try.prog H Tgt (G (bK.at y (.inRegion kOps [] :: kk)) cs) v) :
    KV Try.prog H Tgt (G (bK.at (kAct A A1 A2 n c n1 c1 n2 c2 cb out (.bool false) (.int .i64 out) (.bool true) (.bool true) (.int .i64 out) (.agg #[.slice A1 n1 c1, .slice A2 n2 c2]) (.slice A5 3 c5) (.int .i64 tg) undef undef undef undef undef undef undef undef undef undef undef) (.inRegion kOps (Region.linearise.go .any kOps 12 t #[true, true, true, true, true, true, true, false, false, false, false, false, false, false, false, false, false, false, false] []) :: kk)) cs) v := by
  obtain ⟨i, hi, t', e⟩ := go_some (md := .any) (ops := kOps) (fuel := 11) (t := t) (listed := #[true, true, true, true, true, true, true, false, false, false, false, false, false, false, false, false, false, false, false]) (rs := [7, 8, 12]) (by kernel_rfl) (by simp)
  rw [e]
  clear e
  simp only [List.mem_cons, List.not_mem_nil, or_false] at hi
  rcases hi with rfl | rfl | rfl
  · exact ko_7 hF hN (ks_0_1_2_3_4_5_6_7 A5 c5 t' hF hN hend)
  · exact ko_8 hF hN (ks_0_1_2_3_4_5_6_8 A5 c5 t' hF hN hend)
  · exact ko_12 hF hN (ks_0_1_2_3_4_5_6_12 A5 c5 t' hF hN hend)
theorem ks_0_1_2_3_4_5_8 (A5 : Option Addr) (c5 : Nat) (t : Nat) (hF : FK A1 A2 n1 c1 n2 c2 cb room us v0 v) (hN : NK room us out tg on rs) (h5 : RdI v v.heap.size A5 3 (togTo us us.length)) (hend : ∀ (y : Act) v, FK A1 A2 n1 c1 n2 c2 cb room us v0 v → y.defers = [] → y.tmps.size = 43 → y.tmps[2]? = some (.bool true) → KV Try.prog H Tgt (G (bK.at y (.inRegion kOps [] :: kk)) cs) v) :
    KV Try.prog H Tgt (G (bK.at (kAct A A1 A2 n c n1 c1 n2 c2 cb out (.bool false) (.int .i64 out) (.bool true) (.bool true) (.int .i64 out) (.agg #[.slice A1 n1 c1, .slice A2 n2 c2]) (.slice A5 3 c5) undef undef (.agg #[.slice A1 n1 c1, .slice A2 n2 c2]) undef undef undef undef undef undef undef undef undef) (.inRegion kOps (Region.linearise.go .any kOps 12 t #[true, true, true, true, true, true, false, false, true, false, false, false, false, false, false, false, false, false, false] []) :: kk)) cs) v := by
  obtain ⟨i, hi, t', e⟩ := go_some (md := .any) (ops := kOps) (fuel := 11) (t := t) (listed := #[true, true, true, true, true, true, false, false, true, false, false, false, false, false, false, false, false, false, false]) (rs := [6, 12]) (by kernel_rfl) (by simp)
  rw [e]
  clear e
  simp only [List.mem_cons, List.not_mem_nil, or_false] at hi
  rcases hi with rfl | rfl
  · exact ko_6 hF hN h5 (ks_0_1_2_3_4_5_6_8 A5 c5 t' hF hN hend)
  · exact ko_12 hF hN (ks_0_1_2_3_4_5_8_12 A5 c5 t' hF hN h5 hend)
theorem ks_0_1_2_3_4_5_12 (A5 : Option Addr) (c5 : Nat) (t : Nat) (hF : FK A1 A2 n1 c1 n2 c2 cb room us v0 v) (hN : NK room us out tg on rs) (h5 : RdI v v.heap.size A5 3 (togTo us us.length)) (hend : ∀ (y : Act) v, FK A1 A2 n1 c1 n2 c2 cb room us v0 v → y.defers = [] → y.tmps.size = 43 → y.tmps[2]? = some (.bool true) → KV Try.prog H Tgt (G (bK.at y (.inRegion kOps [] :: kk)) cs) v) :
    KV Try.prog H Tgt (G (bK.at (kAct A A1 A2 n c n1 c1 n2 c2 cb out (.bool false) (.int .i64 out) (.bool true) (.bool true) (.int .i64 out) (.agg #[.slice A1 n1 c1, .slice A2 n2 c2]) (.slice A5 3 c5) undef undef undef undef undef undef (.pointer (some ⟨cb, 0, none⟩)) undef undef undef undef undef) (.inRegion kOps (Region.linearise.go .any kOps 12 t #[true, true, true, true, true, true, false, false, false, false, false, false, true, false, false, false, false, false, false] []) :: kk)) cs) v := by
  obtain ⟨i, hi, t', e⟩ := go_some (md := .any) (ops := kOps) (fuel := 11) (t := t) (listed := #[true, true, true, true, true, true, false, false, false, false, false, false, true, false, false, false, false, false, false]) (rs := [6, 8, 13]) (by kernel_rfl) (by simp)
  rw [e]
  clear e
  simp only [List.mem_cons, List.not_mem_nil, or_false] at hi
  rcases hi with rfl | rfl | rfl
  · exact ko_6 hF hN h5 (ks_0_1_2_3_4_5_6_12 A5 c5 t' hF hN hend)
  · exact ko_8 hF hN (ks_0_1_2_3_4_5_8_12 A5 c5 t' hF hN h5 hend)
  · exact ko_13 hF hN (ks_0_1_2_3_4_5_12_13 A5 c5 t' hF hN h5 hend)
theorem ks_0_1_2_3_4_8_12 (t : Nat) (hF : FK A1 A2 n1 c1 n2 c2 cb room us v0 v) (hN : NK room us out tg on rs) (hend : ∀ (y : Act) v, FK A1 A2 n1 c1 n2 c2 cb room us v0 v → y.defers = [] → y.tmps.size = 43 → y.tmps[2]? = some (.bool true) → KV Try.prog H Tgt (G (bK.at y (.inRegion kOps [] :: kk)) cs) v) :
    KV Try.prog H Tgt (G (bK.at (kAct A A1 A2 n c n1 c1 n2 c2 cb out (.bool false) (.int .i64 out) (.bool true) (.bool true) (.int .i64 out) (.agg #[.slice A1 n1 c1, .slice A2 n2 c2]) undef undef undef (.agg #[.slice A1 n1 c1, .slice A2 n2 c2]) undef undef undef (.pointer (some ⟨cb, 0, none⟩)) undef undef undef undef undef) (.inRegion kOps (Region.linearise.go .any kOps 12 t #[true, true, true, true, true, false, false, false, true, false, false, false, true, false, false, false, false, false, false] []) :: kk)) cs) v := by
  obtain ⟨i, hi, t', e⟩ := go_some (md := .any) (ops := kOps) (fuel := 11) (t := t) (listed := #[true, true, true, true, true, false, false, false, true, false, false, false, true, false, false, false, false, false, false]) (rs := [5, 13]) (by kernel_rfl) (by simp)
  rw [e]
  clear e
  simp only [List.mem_cons, List.not_mem_nil, or_false] at hi
  rcases hi with rfl | rfl
  · exact ko_5 hF hN fun A5 c5 v' hF' h5 => ks_0_1_2_3_4_5_8_12 A5 c5 t' hF' hN h5 hend
  · exact ko_13 hF hN (ks_0_1_2_3_4_8_12_13 t' hF hN hend)
theorem ks_0_1_2_3_4_12_13 (t : Nat) (hF : FK A1 A2 n1 c1 n2 c2 cb room us v0 v) (hN : NK room us out tg on rs) (hend : ∀ (y : Act) v, FK A1 A2 n1 c1 n2 c2 cb room us v0 v → y.defers = [] → y.tmps.size = 43 → y.tmps[2]? = some (.bool true) → KV Try.prog H Tgt (G (bK.at y (.inRegion kOps [] :: kk)) cs) v) :
    KV Try.prog H Tgt (G (bK.at (kAct A A1 A2 n c n1 c1 n2 c2 cb out (.bool false) (.int .i64 out) (.bool true) (.bool true) (.int .i64 out) (.agg #[.slice A1 n1 c1, .slice A2 n2 c2]) undef undef undef undef undef undef undef (.pointer (some ⟨cb, 0, none⟩)) (.slice A1 n1 c1) undef undef undef undef) (.inRegion kOps (Region.linearise.go .any kOps 12 t #[true, true, true, true, true, false, false, false, false, false, false, false, true, true, false, false, false, false, false] []) :: kk)) cs) v := by
  obtain ⟨i, hi, t', e⟩ := go_some (md := .any) (ops := kOps) (fuel := 11) (t := t) (listed := #[true, true, true, true, true, false, false, false, false, false, false, false, true, true, false, false, false, false, false]) (rs := [5, 8]) (by kernel_rfl) (by simp)
  rw [e]
  clear e
  simp only [List.mem_cons, List.not_mem_nil, or_false] at hi
  rcases hi with rfl | rfl
  · exact ko_5 hF hN fun A5 c5 v' hF' h5 => ks_0_1_2_3_4_5_12_13 A5 c5 t' hF' hN h5 hend
  · exact ko_8 hF hN (ks_0_1_2_3_4_8_12_13 t' hF hN hend)
theorem ks_0_1_2_3_8_12_13 (t : Nat) (hF : FK A1 A2 n1 c1 n2 c2 cb room us v0 v) (hN : NK room us out tg on rs) (hend : ∀ (y : Act) v, FK A1 A2 n1 c1 n2 c2 cb room us v0 v → y.defers = [] → y.tmps.size = 43 → y.tmps[2]? = some (.bool true) → KV Try.prog H Tgt (G (bK.at y (.inRegion kOps [] :: kk)) cs) v) :
    KV Try.prog H Tgt (G (bK.at (kAct A A1 A2 n c n1 c1 n2 c2 cb out (.bool false) (.int .i64 out) (.bool true) (.bool true) (.int .i64 out) undef undef undef undef (.agg #[.slice A1 n1 c1, .slice A2 n2 c2]) undef undef undef (.pointer (some ⟨cb, 0, none⟩)) (.slice A1 n1 c1) undef undef undef undef) (.inRegion kOps (Region.linearise.go .any kOps 12 t #[true, true, true, true, false, false, false, false, true, false, false, false, true, true, false, false, false, false, false] []) :: kk)) cs) v := by
  obtain ⟨i, hi, t', e⟩ := go_some (md := .any) (ops := kOps) (fuel := 11) (t := t) (listed := #[true, true, true, true, false, false, false, false, true, false, false, false, true, true, false, false, false, false, false]) (rs := [4]) (by kernel_rfl) (by simp)
  rw [e]
  clear e
  simp only [List.mem_cons, List.not_mem_nil, or_false] at hi
  rcases hi with rfl
  · exact ko_4 hF hN (ks_0_1_2_3_4_8_12_13 t' hF hN hend)
theorem ks_0_1_2_4_5_6_8 (A5 : Option Addr) (c5 : Nat) (t : Nat) (hF : FK A1 A2 n1 c1 n2 c2 cb room us v0 v) (hN : NK room us out tg on rs) (hend : ∀ (y : Act) v, FK A1 A2 n1 c1 n2 c2 cb room us v0 v → y.defers = [] → y.tmps.size = 43 → y.tmps[2]? = some (.bool true) → KV Try.prog H Tgt (G (bK.at y (.inRegion kOps [] :: kk)) cs) v) :
    KV Try.prog H Tgt (G (bK.at (kAct A A1 A2 n c n1 c1 n2 c2 cb out (.bool false) (.int .i64 out) (.bool true) (.bool true) undef (.agg #[.slice A1 n1 c1, .slice A2 n2 c2]) (.slice A5 3 c5) (.int .i64 tg) undef (.agg #[.slice A1 n1 c1, .slice A2 n2 c2]) undef undef undef undef undef undef undef undef undef) (.inRegion kOps (Region.linearise.go .any kOps 12 t #[true, true, true, false, true, true, true, false, true, false, false, false, false, false, false, false, false, false, false] []) :: kk)) cs) v := by
  obtain ⟨i, hi, t', e⟩ := go_some (md := .any) (ops := kOps) (fuel := 11) (t := t) (listed := #[true, true, true, false, true, true, true, false, true, false, false, false, false, false, false, false, false, false, false]) (rs := [3, 9, 12]) (by kernel_rfl) (by simp)
  rw [e]
  clear e
  simp only [List.mem_cons, List.not_mem_nil, or_false] at hi
  rcases hi with rfl | rfl | rfl
  · exact ko_3 hF hN (ks_0_1_2_3_4_5_6_8 A5 c5 t' hF hN hend)
  · exact ko_9 hF hN fun g cap v' hF' h9 => ks_0_1_2_4_5_6_8_9 A5 c5 g cap t' hF' hN h9 hend
  · exact ko_12 hF hN (ks_0_1_2_4_5_6_8_12 A5 c5 t' hF hN hend)
theorem ks_0_1_2_4_5_6_12 (A5 : Option Addr) (c5 : Nat) (t : Nat) (hF : FK A1 A2 n1 c1 n2 c2 cb room us v0 v) (hN : NK room us out tg on rs) (hend : ∀ (y : Act) v, FK A1 A2 n1 c1 n2 c2 cb room us v0 v → y.defers = [] → y.tmps.size = 43 → y.tmps[2]? = some (.bool true) → KV Try.prog H Tgt (G (bK.at y (.inRegion kOps [] :: kk)) cs) v) :
    KV Try.prog H Tgt (G (bK.at (kAct A A1 A2 n c n1 c1 n2 c2 cb out (.bool false) (.int .i64 out) (.bool true) (.bool true) undef (.agg #[.slice A1 n1 c1, .slice A2 n2 c2]) (.slice A5 3 c5) (.int .i64 tg) undef undef undef undef undef (.pointer (some ⟨cb, 0, none⟩)) undef undef undef undef undef) (.inRegion kOps (Region.linearise.go .any kOps 12 t #[true, true, true, false, true, true, true, false, false, false, false, false, true, false, false, false, false, false, false] []) :: kk)) cs) v := by
  obtain ⟨i, hi, t', e⟩ := go_some (md := .any) (ops := kOps) (fuel := 11) (t := t) (listed := #[true, true, true, false, true, true, true, false, false, false, false, false, true, false, false, false, false, false, false]) (rs := [3, 8, 13]) (by kernel_rfl) (by simp)
  rw [e]
  clear e
  simp only [List.mem_cons, List.not_mem_nil, or_false] at hi
  rcases hi with rfl | rfl | rfl
  · exact ko_3 hF hN (ks_0_1_2_3_4_5_6_12 A5 c5 t' hF hN hend)
  · exact ko_8 hF hN (ks_0_1_2_4_5_6_8_12 A5 c5 t' hF hN hend)
  · exact ko_13 hF hN (ks_0_1_2_4_5_6_12_13 A5 c5 t' hF hN hend)
theorem ks_0_1_2_4_5_8_12 (A5 : Option Addr) (c5 : Nat) (t : Nat) (hF : FK A1 A2 n1 c1 n2 c2 cb room us v0 v) (hN : NK room us out tg on rs) (h5 : RdI v v.heap.size A5 3 (togTo us us.length)) (hend : ∀ (y : Act) v, FK A1 A2 n1 c1 n2 c2 cb room us v0 v → y.defers = [] → y.tmps.size = 43 → y.tmps[2]? = some (.bool true) → KV Try.prog H Tgt (G (bK.at y (.inRegion kOps [] :: kk)) cs) v) :
    KV Try.prog H Tgt (G (bK.at (kAct A A1 A2 n c n1 c1 n2 c2 cb out (.bool false) (.int .i64 out) (.bool true) (.bool true) undef (.agg #[.slice A1 n1 c1, .slice A2 n2 c2]) (.slice A5 3 c5) undef undef (.agg #[.slice A1 n1 c1, .slice A2 n2 c2]) undef undef undef (.pointer (some ⟨cb, 0, none⟩)) undef undef undef undef undef) (.inRegion kOps (Region.linearise.go .any kOps 12 t #[true, true, true, false, true, true, false, false, true, false, false, false, true, false, false, false, false, false, false] []) :: kk)) cs) v := by
  obtain ⟨i, hi, t', e⟩ := go_some (md := .any) (ops := kOps) (fuel := 11) (t := t) (listed := #[true, true, true, false, true, true, false, false, true, false, false, false, true, false, false, false, false, false, false]) (rs := [3, 6, 13]) (by kernel_rfl) (by simp)
  rw [e]
  clear e
  simp only [List.mem_cons, List.not_mem_nil, or_false] at hi
  rcases hi with rfl | rfl | rfl
  · exact ko_3 hF hN (ks_0_1_2_3_4_5_8_12 A5 c5 t' hF hN h5 hend)
  · exact ko_6 hF hN h5 (ks_0_1_2_4_5_6_8_12 A5 c5 t' hF hN hend)
  · exact ko_13 hF hN (ks_0_1_2_4_5_8_12_13 A5 c5 t' hF hN h5 hend)
theorem ks_0_1_2_4_5_12_13 (A5 : Option Addr) (c5 : Nat) (t : Nat) (hF : FK A1 A2 n1 c1 n2 c2 cb room us v0 v) (hN : NK room us out tg on rs) (h5 : RdI v v.heap.size A5 3 (togTo us us.length)) (hend : ∀ (y : Act) v, FK A1 A2 n1 c1 n2 c2 cb room us v0 v → y.defers = [] → y.tmps.size = 43 → y.tmps[2]? = some (.bool true) → KV Try.prog H Tgt (G (bK.at y (.inRegion kOps [] :: kk)) cs) v) :
    KV Try.prog H Tgt (G (bK.at (kAct A A1 A2 n c n1 c1 n2 c2 cb out (.bool false) (.int .i64 out) (.bool true) (.bool true) undef (.agg #[.slice A1 n1 c1, .slice A2 n2 c2]) (.slice A5 3 c5) undef undef undef undef undef undef (.pointer (some ⟨cb, 0, none⟩)) (.slice A1 n1 c1) undef undef undef undef) (.inRegion kOps (Region.linearise.go .any kOps 12 t #[true, true, true, false, true, true, false, false, false, false, false, false, true, true, false, false, false, false, false] []) :: kk)) cs) v := by
  obtain ⟨i, hi, t', e⟩ := go_some (md := .any) (ops := kOps) (fuel := 11) (t := t) (listed := #[true, true, true, false, true, true, false, false, false, false, false, false, true, true, false, false, false, false, false]) (rs := [3, 6, 8]) (by kernel_rfl) (by simp)
  rw [e]
  clear e
  simp only [List.mem_cons, List.not_mem_nil, or_false] at hi
  rcases hi with rfl | rfl | rfl
  · exact ko_3 hF hN (ks_0_1_2_3_4_5_12_13 A5 c5 t' hF hN h5 hend)
  · exact ko_6 hF hN h5 (ks_0_1_2_4_5_6_12_13 A5 c5 t' hF hN hend)
  · exact ko_8 hF hN (ks_0_1_2_4_5_8_12_13 A5 c5 t' hF hN h5 hend)
theorem ks_0_1_2_4_8_12_13 (t : Nat) (hF : FK A1 A2 n1 c1 n2 c2 cb room us v0 v) (hN : NK room us out tg on rs) (hend : ∀ (y : Act) v, FK A1 A2 n1 c1 n2 c2 cb room us v0 v → y.defers = [] → y.tmps.size = 43 → y.tmps[2]? = some (.bool true) → KV Try.prog H Tgt (G (bK.at y (.inRegion kOps [] :: kk)) cs) v) :
    KV Try.prog H Tgt (G (bK.at (kAct A A1 A2 n c n1 c1 n2 c2 cb out (.bool false) (.int .i64 out) (.bool true) (.bool true) undef (.agg #[.slice A1 n1 c1, .slice A2 n2 c2]) undef undef undef (.agg #[.slice A1 n1 c1, .slice A2 n2 c2]) undef undef undef (.pointer (some ⟨cb, 0, none⟩)) (.slice A1 n1 c1) undef undef undef undef) (.inRegion kOps (Region.linearise.go .any kOps 12 t #[true, true, true, false, true, false, false, false, true, false, false, false, true, true, false, false, false, false, false] []) :: kk)) cs) v := by
  obtain ⟨i, hi, t', e⟩ := go_some (md := .any) (ops := kOps) (fuel := 11) (t := t) (listed := #[true, true, true, false, true, false, false, false, true, false, false, false, true, true, false, false, false, false, false]) (rs := [3, 5]) (by kernel_rfl) (by simp)
  rw [e]
  clear e
  simp only [List.mem_cons, List.not_mem_nil, or_false] at hi
  rcases hi with rfl | rfl
  · exact ko_3 hF hN (ks_0_1_2_3_4_8_12_13 t' hF hN hend)
  · exact ko_5 hF hN fun A5 c5 v' hF' h5 => ks_0_1_2_4_5_8_12_13 A5 c5 t' hF' hN h5 hend
theorem ks_0_1_2_3_4_5 (A5 : Option Addr) (c5 : Nat) (t : Nat) (hF : FK A1 A2 n1 c1 n2 c2 cb room us v0 v) (hN : NK room us out tg on rs) (h5 : RdI v v.heap.size A5 3 (togTo us us.length)) (hend : ∀ (y : Act) v, FK A1 A2 n1 c1 n2 c2 cb room us v0 v → y.defers = [] → y.tmps.size = 43 → y.tmps[2]? = some (.bool true) → KV Try.prog H Tgt (G (bK.at y (.inRegion kOps [] :: kk)) cs) v) :
    KV Try.prog H Tgt (G (bK.at (kAct A A1 A2 n c n1 c1 n2 c2 cb out (.bool false) (.int .i64 out) (.bool true) (.bool true) (.int .i64 out) (.agg #[.slice A1 n1 c1, .slice A2 n2 c2]) (.slice A5 3 c5) undef undef undef undef undef undef undef undef undef undef undef undef) (.inRegion kOps (Region.linearise.go .any kOps 13 t #[true, true, true, true, true, true, false, false, false, false, false, false, false, false, false, false, false, false, false] []) :: kk)) cs) v := by
  obtain ⟨i, hi, t', e⟩ := go_some (md := .any) (ops := kOps) (fuel := 12) (t := t) (listed := #[true, true, true, true, true, true, false, false, false, false, false, false, false, false, false, false, false, false, false]) (rs := [6, 8, 12]) (by kernel_rfl) (by simp)
  rw [e]
  clear e
  simp only [List.mem_cons, List.not_mem_nil, or_false] at hi
  rcases hi with rfl | rfl | rfl
  · exact ko_6 hF hN h5 (ks_0_1_2_3_4_5_6 A5 c5 t' hF hN hend)
  · exact ko_8 hF hN (ks_0_1_2_3_4_5_8 A5 c5 t' hF hN h5 hend)
  · exact ko_12 hF hN (ks_0_1_2_3_4_5_12 A5 c5 t' hF hN h5 hend)
theorem ks_0_1_2_3_4_8 (t : Nat) (hF : FK A1 A2 n1 c1 n2 c2 cb room us v0 v) (hN : NK room us out tg on rs) (hend : ∀ (y : Act) v, FK A1 A2 n1 c1 n2 c2 cb room us v0 v → y.defers = [] → y.tmps.size = 43 → y.tmps[2]? = some (.bool true) → KV Try.prog H Tgt (G (bK.at y (.inRegion kOps [] :: kk)) cs) v) :
    KV Try.prog H Tgt (G (bK.at (kAct A A1 A2 n c n1 c1 n2 c2 cb out (.bool false) (.int .i64 out) (.bool true) (.bool true) (.int .i64 out) (.agg #[.slice A1 n1 c1, .slice A2 n2 c2]) undef undef undef (.agg #[.slice A1 n1 c1, .slice A2 n2 c2]) undef undef undef undef undef undef undef undef undef) (.inRegion kOps (Region.linearise.go .any kOps 13 t #[true, true, true, true, true, false, false, false, true, false, false, false, false, false, false, false, false, false, false] []) :: kk)) cs) v := by
  obtain ⟨i, hi, t', e⟩ := go_some (md := .any) (ops := kOps) (fuel := 12) (t := t) (listed := #[true, true, true, true, true, false, false, false, true, false, false, false, false, false, false, false, false, false, false]) (rs := [5, 12]) (by kernel_rfl) (by simp)
  rw [e]
  clear e
  simp only [List.mem_cons, List.not_mem_nil, or_false] at hi
  rcases hi with rfl | rfl
  · exact ko_5 hF hN fun A5 c5 v' hF' h5 => ks_0_1_2_3_4_5_8 A5 c5 t' hF' hN h5 hend
  · exact ko_12 hF hN (ks_0_1_2_3_4_8_12 t' hF hN hend)
theorem ks_0_1_2_3_4_12 (t : Nat) (hF : FK A1 A2 n1 c1 n2 c2 cb room us v0 v) (hN : NK room us out tg on rs) (hend : ∀ (y : Act) v, FK A1 A2 n1 c1 n2 c2 cb room us v0 v → y.defers = [] → y.tmps.size = 43 → y.tmps[2]? = some (.bool true) → KV Try.prog H Tgt (G (bK.at y (.inRegion kOps [] :: kk)) cs) v) :
    KV Try.prog H Tgt (G (bK.at (kAct A A1 A2 n c n1 c1 n2 c2 cb out (.bool false) (.int .i64 out) (.bool true) (.bool true) (.int .i64 out) (.agg #[.slice A1 n1 c1, .slice A2 n2 c2]) undef undef undef undef undef undef undef (.pointer (some ⟨cb, 0, none⟩)) undef undef undef undef undef) (.inRegion kOps (Region.linearise.go .any kOps 13 t #[true, true, true, true, true, false, false, false, false, false, false, false, true, false, false, false, false, false, false] []) :: kk)) cs) v := by
  obtain ⟨i, hi, t', e⟩ := go_some (md := .any) (ops := kOps) (fuel := 12) (t := t) (listed := #[true, true, true, true, true, false, false, false, false, false, false, false, true, false, false, false, false, false, false]) (rs := [5, 8, 13]) (by kernel_rfl) (by simp)
  rw [e]
  clear e
  simp only [List.mem_cons, List.not_mem_nil, or_false] at hi
  rcases hi with rfl | rfl | rfl
  · exact ko_5 hF hN fun A5 c5 v' hF' h5 => ks_0_1_2_3_4_5_12 A5 c5 t' hF' hN h5 hend
  · exact ko_8 hF hN (ks_0_1_2_3_4_8_12 t' hF hN hend)
  · exact ko_13 hF hN (ks_0_1_2_3_4_12_13 t' hF hN hend)
theorem ks_0_1_2_3_8_12 (t : Nat) (hF : FK A1 A2 n1 c1 n2 c2 cb room us v0 v) (hN : NK room us out tg on rs) (hend : ∀ (y : Act) v, FK A1 A2 n1 c1 n2 c2 cb room us v0 v → y.defers = [] → y.tmps.size = 43 → y.tmps[2]? = some (.bool true) → KV Try.prog H Tgt (G (bK.at y (.inRegion kOps [] :: kk)) cs) v) :
    KV Try.prog H Tgt (G (bK.at (kAct A A1 A2 n c n1 c1 n2 c2 cb out (.bool false) (.int .i64 out) (.bool true) (.bool true) (.int .i64 out) undef undef undef undef (.agg #[.slice A1 n1 c1, .slice A2 n2 c2]) undef undef undef (.pointer (some ⟨cb, 0, none⟩)) undef undef undef undef undef) (.inRegion kOps (Region.linearise.go .any kOps 13 t #[true, true, true, true, false, false, false, false, true, false, false, false, true, false, false, false, false, false, false] []) :: kk)) cs) v := by
  obtain ⟨i, hi, t', e⟩ := go_some (md := .any) (ops := kOps) (fuel := 12) (t := t) (listed := #[true, true, true, true, false, false, false, false, true, false, false, false, true, false, false, false, false, false, false]) (rs := [4, 13]) (by kernel_rfl) (by simp)
  rw [e]
  clear e
  simp only [List.mem_cons, List.not_mem_nil, or_false] at hi
  rcases hi with rfl | rfl
  · exact ko_4 hF hN (ks_0_1_2_3_4_8_12 t' hF hN hend)
  · exact ko_13 hF hN (ks_0_1_2_3_8_12_13 t' hF hN hend)
theorem ks_0_1_2_3_12_13 (t : Nat) (hF : FK A1 A2 n1 c1 n2 c2 cb room us v0 v) (hN : NK room us out tg on rs) (hend : ∀ (y : Act) v, FK A1 A2 n1 c1 n2 c2 cb room us v0 v → y.defers = [] → y.tmps.size = 43 → y.tmps[2]? = some (.bool true) → KV Try.prog H Tgt (G (bK.at y (.inRegion kOps [] :: kk)) cs) v) :
    KV Try.prog H Tgt (G (bK.at (kAct A A1 A2 n c n1 c1 n2 c2 cb out (.bool false) (.int .i64 out) (.bool true) (.bool true) (.int .i64 out) undef undef undef undef undef undef undef undef (.pointer (some ⟨cb, 0, none⟩)) (.slice A1 n1 c1) undef undef undef undef) (.inRegion kOps (Region.linearise.go .any kOps 13 t #[true, true, true, true, false, false, false, false, false, false, false, false, true, true, false, false, false, false, false] []) :: kk)) cs) v := by
  obtain ⟨i, hi, t', e⟩ := go_some (md := .any) (ops := kOps) (fuel := 12) (t := t) (listed := #[true, true, true, true, false, false, false, false, false, false, false, false, true, true, false, false, false, false, false]) (rs := [4, 8]) (by kernel_rfl) (by simp)
  rw [e]
  clear e
  simp only [List.mem_cons, List.not_mem_nil, or_false] at hi
  rcases hi with rfl | rfl
  · exact ko_4 hF hN (ks_0_1_2_3_4_12_13 t' hF hN hend)
  · exact ko_8 hF hN (ks_0_1_2_3_8_12_13 t' hF hN hend)
theorem ks_0_1_2_4_5_6 (A5 : Option Addr) (c5 : Nat) (t : Nat) (hF : FK A1 A2 n1 c1 n2 c2 cb room us v0 v) (hN : NK room us out tg on rs) (hend : ∀ (y : Act) v, FK A1 A2 n1 c1 n2 c2 cb room us v0 v → y.defers = [] → y.tmps.size = 43 → y.tmps[2]? = some (.bool true) → KV Try.prog H Tgt (G (bK.at y (.inRegion kOps [] :: kk)) cs) v) :
    KV Try.prog H Tgt (G (bK.at (kAct A A1 A2 n c n1 c1 n2 c2 cb out (.bool false) (.int .i64 out) (.bool true) (.bool true) undef (.agg #[.slice A1 n1 c1, .slice A2 n2 c2]) (.slice A5 3 c5) (.int .i64 tg) undef undef undef undef undef undef undef undef undef undef undef) (.inRegion kOps (Region.linearise.go .any kOps 13 t #[true, true, true, false, true, true, true, false, false, false, false, false, false, false, false, false, false, false, false] []) :: kk)) cs) v := by
  obtain ⟨i, hi, t', e⟩ := go_some (md := .any) (ops := kOps) (fuel := 12) (t := t) (listed := #[true, true, true, false, true, true, true, false, false, false, false, false, false, false, false, false, false, false, false]) (rs := [3, 8, 12]) (by kernel_rfl) (by simp)
  rw [e]
  clear e
  simp only [List.mem_cons, List.not_mem_nil, or_false] at hi
  rcases hi with rfl | rfl | rfl
  · exact ko_3 hF hN (ks_0_1_2_3_4_5_6 A5 c5 t' hF hN hend)
  · exact ko_8 hF hN (ks_0_1_2_4_5_6_8 A5 c5 t' hF hN hend)
  · exact ko_12 hF hN (ks_0_1_2_4_5_6_12 A5 c5 t' hF hN hend)
theorem ks_0_1_2_4_5_8 (A5 : Option Addr) (c5 : Nat) (t : Nat) (hF : FK A1 A2 n1 c1 n2 c2 cb room us v0 v) (hN : NK room us out tg on rs) (h5 : RdI v v.heap.size A5 3 (togTo us us.length)) (hend : ∀ (y : Act) v, FK A1 A2 n1 c1 n2 c2 cb room us v0 v → y.defers = [] → y.tmps.size = 43 → y.tmps[2]? = some (.bool true) → KV Try.prog H Tgt (G (bK.at y (.inRegion kOps [] :: kk)) cs) v) :
    KV Try.prog H Tgt (G (bK.at (kAct A A1 A2 n c n1 c1 n2 c2 cb out (.bool false) (.int .i64 out) (.bool true) (.bool true) undef (.agg #[.slice A1 n1 c1, .slice A2 n2 c2]) (.slice A5 3 c5) undef undef (.agg #[.slice A1 n1 c1, .slice A2 n2 c2]) undef undef undef undef undef undef undef undef undef) (.inRegion kOps (Region.linearise.go .any kOps 13 t #[true, true, true, false, true, true, false, false, true, false, false, false, false, false, false, false, false, false, false] []) :: kk)) cs) v := by
  obtain ⟨i, hi, t', e⟩ := go_some (md := .any) (ops := kOps) (fuel := 12) (t := t) (listed := #[true, true, true, false, true, true, false, false, true, false, false, false, false, false, false, false, false, false, false]) (rs := [3, 6, 12]) (by kernel_rfl) (by simp)
  rw [e]
  clear e
  simp only [List.mem_cons, List.not_mem_nil, or_false] at hi
  rcases hi with rfl | rfl | rfl
  · exact ko_3 hF hN (ks_0_1_2_3_4_5_8 A5 c5 t' hF hN h5 hend)
  · exact ko_6 hF hN h5 (ks_0_1_2_4_5_6_8 A5 c5 t' hF hN hend)
  · exact ko_12 hF hN (ks_0_1_2_4_5_8_12 A5 c5 t' hF hN h5 hend)
theorem ks_0_1_2_4_5_12 (A5 : Option Addr) (c5 : Nat) (t : Nat) (hF : FK A1 A2 n1 c1 n2 c2 cb room us v0 v) (hN : NK room us out tg on rs) (h5 : RdI v v.heap.size A5 3 (togTo us us.length)) (hend : ∀ (y : Act) v, FK A1 A2 n1 c1 n2 c2 cb room us v0 v → y.defers = [] → y.tmps.size = 43 → y.tmps[2]? = some (.bool true) → KV Try.prog H Tgt (G (bK.at y (.inRegion kOps [] :: kk)) cs) v) :
    KV Try.prog H Tgt (G (bK.at (kAct A A1 A2 n c n1 c1 n2 c2 cb out (.bool false) (.int .i64 out) (.bool true) (.bool true) undef (.agg #[.slice A1 n1 c1, .slice A2 n2 c2]) (.slice A5 3 c5) undef undef undef undef undef undef (.pointer (some ⟨cb, 0, none⟩)) undef undef undef undef undef) (.inRegion kOps (Region.linearise.go .any kOps 13 t #[true, true, true, false, true, true, false, false, false, false, false, false, true, false, false, false, false, false, false] []) :: kk)) cs) v := by
  obtain ⟨i, hi, t', e⟩ := go_some (md := .any) (ops := kOps) (fuel := 12) (t := t) (listed := #[true, true, true, false, true, true, false, false, false, false, false, false, true, false, false, false, false, false, false]) (rs := [3, 6, 8, 13]) (by kernel_rfl) (by simp)
  rw [e]
  clear e
  simp only [List.mem_cons, List.not_mem_nil, or_false] at hi
  rcases hi with rfl | rfl | rfl | rfl
  · exact ko_3 hF hN (ks_0_1_2_3_4_5_12 A5 c5 t' hF hN h5 hend)
  · exact ko_6 hF hN h5 (ks_0_1_2_4_5_6_12 A5 c5 t' hF hN hend)
  · exact ko_8 hF hN (ks_0_1_2_4_5_8_12 A5 c5 t' hF hN h5 hend)
  · exact ko_13 hF hN (ks_0_1_2_4_5_12_13 A5 c5 t' hF hN h5 hend)
theorem ks_0_1_2_4_8_12 (t : Nat) (hF : FK A1 A2 n1 c1 n2 c2 cb room us v0 v) (hN : NK room us out tg on rs) (hend : ∀ (y : Act) v, FK A1 A2 n1 c1 n2 c2 cb room us v0 v → y.defers = [] → y.tmps.size = 43 → y.tmps[2]? = some (.bool true) → KV Try.prog H Tgt (G (bK.at y (.inRegion kOps [] :: kk)) cs) v) :
    KV Try.prog H Tgt (G (bK.at (kAct A A1 A2 n c n1 c1 n2 c2 cb out (.bool false) (.int .i64 out) (.bool true) (.bool true) undef (.agg #[.slice A1 n1 c1, .slice A2 n2 c2]) undef undef undef (.agg #[.slice A1 n1 c1, .slice A2 n2 c2]) undef undef undef (.pointer (some ⟨cb, 0, none⟩)) undef undef undef undef undef) (.inRegion kOps (Region.linearise.go .any kOps 13 t #[true, true, true, false, true, false, false, false, true, false, false, false, true, false, false, false, false, false, false] []) :: kk)) cs) v := by
  obtain ⟨i, hi, t', e⟩ := go_some (md := .any) (ops := kOps) (fuel := 12) (t := t) (listed := #[true, true, true, false, true, false, false, false, true, false, false, false, true, false, false, false, false, false, false]) (rs := [3, 5, 13]) (by kernel_rfl) (by simp)
  rw [e]
  clear e
  simp only [List.mem_cons, List.not_mem_nil, or_false] at hi
  rcases hi with rfl | rfl | rfl
  · exact ko_3 hF hN (ks_0_1_2_3_4_8_12 t' hF hN hend)
  · exact ko_5 hF hN fun A5 c5 v' hF' h5 => ks_0_1_2_4_5_8_12 A5 c5 t' hF' hN h5 hend
  · exact ko_13 hF hN (ks_0_1_2_4_8_12_13 t' hF hN hend)
theorem ks_0_1_2_4_12_13 (t : Nat) (hF : FK A1 A2 n1 c1 n2 c2 cb room us v0 v) (hN : NK room us out tg on rs) (hend : ∀ (y : Act) v, FK A1 A2 n1 c1 n2 c2 cb room us v0 v → y.defers = [] → y.tmps.size = 43 → y.tmps[2]? = some (.bool true) → KV Try.prog H Tgt (G (bK.at y (.inRegion kOps [] :: kk)) cs) v) :
    KV Try.prog H Tgt (G (bK.at (kAct A A1 A2 n c n1 c1 n2 c2 cb out (.bool false) (.int .i64 out) (.bool true) (.bool true) undef (.agg #[.slice A1 n1 c1, .slice A2 n2 c2]) undef undef undef undef undef undef undef (.pointer (some ⟨cb, 0, none⟩)) (.slice A1 n1 c1) undef undef undef undef) (.inRegion kOps (Region.linearise.go .any kOps 13 t #[true, true, true, false, true, false, false, false, false, false, false, false, true, true, false, false, false, false, false] []) :: kk)) cs) v := by
  obtain ⟨i, hi, t', e⟩ := go_some (md := .any) (ops := kOps) (fuel := 12) (t := t) (listed := #[true, true, true, false, true, false, false, false, false, false, false, false, true, true, false, false, false, false, false]) (rs := [3, 5, 8]) (by kernel_rfl) (by simp)
  rw [e]
  clear e
  simp only [List.mem_cons, List.not_mem_nil, or_false] at hi
  rcases hi with rfl | rfl | rfl
  · exact ko_3 hF hN (ks_0_1_2_3_4_12_13 t' hF hN hend)
  · exact ko_5 hF hN fun A5 c5 v' hF' h5 => ks_0_1_2_4_5_12_13 A5 c5 t' hF' hN h5 hend
  · exact ko_8 hF hN (ks_0_1_2_4_8_12_13 t' hF hN hend)
theorem ks_0_1_2_8_12_13 (t : Nat) (hF : FK A1 A2 n1 c1 n2 c2 cb room us v0 v) (hN : NK room us out tg on rs) (hend : ∀ (y : Act) v, FK A1 A2 n1 c1 n2 c2 cb room us v0 v → y.defers = [] → y.tmps.size = 43 → y.tmps[2]? = some (.bool true) → KV Try.prog H Tgt (G (bK.at y (.inRegion kOps [] :: kk)) cs) v) :
    KV Try.prog H Tgt (G (bK.at (kAct A A1 A2 n c n1 c1 n2 c2 cb out (.bool false) (.int .i64 out) (.bool true) (.bool true) undef undef undef undef undef (.agg #[.slice A1 n1 c1, .slice A2 n2 c2]) undef undef undef (.pointer (some ⟨cb, 0, none⟩)) (.slice A1 n1 c1) undef undef undef undef) (.inRegion kOps (Region.linearise.go .any kOps 13 t #[true, true, true, false, false, false, false, false, true, false, false, false, true, true, false, false, false, false, false] []) :: kk)) cs) v := by
  obtain ⟨i, hi, t', e⟩ := go_some (md := .any) (ops := kOps) (fuel := 12) (t := t) (listed := #[true, true, true, false, false, false, false, false, true, false, false, false, true, true, false, false, false, false, false]) (rs := [3, 4]) (by kernel_rfl) (by simp)
  rw [e]
  clear e
  simp only [List.mem_cons, List.not_mem_nil, or_false] at hi
  rcases hi with rfl | rfl
  · exact ko_3 hF hN (ks_0_1_2_3_8_12_13 t' hF hN hend)
  · exact ko_4 hF hN (ks_0_1_2_4_8_12_13 t' hF hN hend)
theorem ks_0_1_2_3_4 (t : Nat) (hF : FK A1 A2 n1 c1 n2 c2 cb room us v0 v) (hN : NK room us out tg on rs) (hend : ∀ (y : Act) v, FK A1 A2 n1 c1 n2 c2 cb room us v0 v → y.defers = [] → y.tmps.size = 43 → y.tmps[2]? = some (.bool true) → KV Try.prog H Tgt (G (bK.at y (.inRegion kOps [] :: kk)) cs) v) :
    KV Try.prog H Tgt (G (bK.at (kAct A A1 A2 n c n1 c1 n2 c2 cb out (.bool false) (.int .i64 out) (.bool true) (.bool true) (.int .i64 out) (.agg #[.slice A1 n1 c1, .slice A2 n2 c2]) undef undef undef undef undef undef undef undef undef undef undef undef undef) (.inRegion kOps (Region.linearise.go .any kOps 14 t #[true, true, true, true, true, false, false, false, false, false, false, false, false, false, false, false, false, false, false] []) :: kk)) cs) v := by
  obtain ⟨i, hi, t', e⟩ := go_some (md := .any) (ops := kOps) (fuel := 13) (t := t) (listed := #[true, true, true, true, true, false, false, false, false, false, false, false, false, false, false, false, false, false, false]) (rs := [5, 8, 12]) (by kernel_rfl) (by simp)
  rw [e]
  clear e
  simp only [List.mem_cons, List.not_mem_nil, or_false] at hi
  rcases hi with rfl | rfl | rfl
  · exact ko_5 hF hN fun A5 c5 v' hF' h5 => ks_0_1_2_3_4_5 A5 c5 t' hF' hN h5 hend
  · exact ko_8 hF hN (ks_0_1_2_3_4_8 t' hF hN hend)
  · exact ko_12 hF hN (ks_0_1_2_3_4_12 t' hF hN hend)
theorem ks_0_1_2_3_8 (t : Nat) (hF : FK A1 A2 n1 c1 n2 c2 cb room us v0 v) (hN : NK room us out tg on rs) (hend : ∀ (y : Act) v, FK A1 A2 n1 c1 n2 c2 cb room us v0 v → y.defers = [] → y.tmps.size = 43 → y.tmps[2]? = some (.bool true) → KV Try.prog H Tgt (G (bK.at y (.inRegion kOps [] :: kk)) cs) v) :
    KV Try.prog H Tgt (G (bK.at (kAct A A1 A2 n c n1 c1 n2 c2 cb out (.bool false) (.int .i64 out) (.bool true) (.bool true) (.int .i64 out) undef undef undef undef (.agg #[.slice A1 n1 c1, .slice A2 n2 c2]) undef undef undef undef undef undef undef undef undef) (.inRegion kOps (Region.linearise.go .any kOps 14 t #[true, true, true, true, false, false, false, false, true, false, false, false, false, false, false, false, false, false, false] []) :: kk)) cs) v := by
  obtain ⟨i, hi, t', e⟩ := go_some (md := .any) (ops := kOps) (fuel := 13) (t := t) (listed := #[true, true, true, true, false, false, false, false, true, false, false, false, false, false, false, false, false, false, false]) (rs := [4, 12]) (by kernel_rfl) (by simp)
  rw [e]
  clear e
  simp only [List.mem_cons, List.not_mem_nil, or_false] at hi
  rcases hi with rfl | rfl
  · exact ko_4 hF hN (ks_0_1_2_3_4_8 t' hF hN hend)
  · exact ko_12 hF hN (ks_0_1_2_3_8_12 t' hF hN hend)
theorem ks_0_1_2_3_12 (t : Nat) (hF : FK A1 A2 n1 c1 n2 c2 cb room us v0 v) (hN : NK room us out tg on rs) (hend : ∀ (y : Act) v, FK A1 A2 n1 c1 n2 c2 cb room us v0 v → y.defers = [] → y.tmps.size = 43 → y.tmps[2]? = some (.bool true) → KV Try.prog H Tgt (G (bK.at y (.inRegion kOps [] :: kk)) cs) v) :
    KV Try.prog H Tgt (G (bK.at (kAct A A1 A2 n c n1 c1 n2 c2 cb out (.bool false) (.int .i64 out) (.bool true) (.bool true) (.int .i64 out) undef undef undef undef undef undef undef undef (.pointer (some ⟨cb, 0, none⟩)) undef undef undef undef undef) (.inRegion kOps (Region.linearise.go .any kOps 14 t #[true, true, true, true, false, false, false, false, false, false, false, false, true, false, false, false, false, false, false] []) :: kk)) cs) v := by
  obtain ⟨i, hi, t', e⟩ := go_some (md := .any) (ops := kOps) (fuel := 13) (t := t) (listed := #[true, true, true, true, false, false, false, false, false, false, false, false, true, false, false, false, false, false, false]) (rs := [4, 8, 13]) (by kernel_rfl) (by simp)
  rw [e]
  clear e
  simp only [List.mem_cons, List.not_mem_nil, or_false] at hi
  rcases hi with rfl | rfl | rfl
  · exact ko_4 hF hN (ks_0_1_2_3_4_12 t' hF hN hend)
  · exact ko_8 hF hN (ks_0_1_2_3_8_12 t' hF hN hend)
  · exact ko_13 hF hN (ks_0_1_2_3_12_13 t' hF hN hend)
theorem ks_0_1_2_4_5 (A5 : Option Addr) (c5 : Nat) (t : Nat) (hF : FK A1 A2 n1 c1 n2 c2 cb room us v0 v) (hN : NK room us out tg on rs) (h5 : RdI v v.heap.size A5 3 (togTo us us.length)) (hend : ∀ (y : Act) v, FK A1 A2 n1 c1 n2 c2 cb room us v0 v → y.defers = [] → y.tmps.size = 43 → y.tmps[2]? = some (.bool true) → KV Try.prog H Tgt (G (bK.at y (.inRegion kOps [] :: kk)) cs) v) :
    KV Try.prog H Tgt (G (bK.at (kAct A A1 A2 n c n1 c1 n2 c2 cb out (.bool false) (.int .i64 out) (.bool true) (.bool true) undef (.agg #[.slice A1 n1 c1, .slice A2 n2 c2]) (.slice A5 3 c5) undef undef undef undef undef undef undef undef undef undef undef undef) (.inRegion kOps (Region.linearise.go .any kOps 14 t #[true, true, true, false, true, true, false, false, false, false, false, false, false, false, false, false, false, false, false] []) :: kk)) cs) v := by
  obtain ⟨i, hi, t', e⟩ := go_some (md := .any) (ops := kOps) (fuel := 13) (t := t) (listed := #[true, true, true, false, true, true, false, false, false, false, false, false, false, false, false, false, false, false, false]) (rs := [3, 6, 8, 12]) (by kernel_rfl) (by simp)
  rw [e]
  clear e
  simp only [List.mem_cons, List.not_mem_nil, or_false] at hi
  rcases hi with rfl | rfl | rfl | rfl
  · exact ko_3 hF hN (ks_0_1_2_3_4_5 A5 c5 t' hF hN h5 hend)
  · exact ko_6 hF hN h5 (ks_0_1_2_4_5_6 A5 c5 t' hF hN hend)
  · exact ko_8 hF hN (ks_0_1_2_4_5_8 A5 c5 t' hF hN h5 hend)
  · exact ko_12 hF hN (ks_0_1_2_4_5_12 A5 c5 t' hF hN h5 hend)
theorem ks_0_1_2_4_8 (t : Nat) (hF : FK A1 A2 n1 c1 n2 c2 cb room us v0 v) (hN : NK room us out tg on rs) (hend : ∀ (y : Act) v, FK A1 A2 n1 c1 n2 c2 cb room us v0 v → y.defers = [] → y.tmps.size = 43 → y.tmps[2]? = some (.bool true) → KV Try.prog H Tgt (G (bK.at y (.inRegion kOps [] :: kk)) cs) v) :
    KV Try.prog H Tgt (G (bK.at (kAct A A1 A2 n c n1 c1 n2 c2 cb out (.bool false) (.int .i64 out) (.bool true) (.bool true) undef (.agg #[.slice A1 n1 c1, .slice A2 n2 c2]) undef undef undef (.agg #[.slice A1 n1 c1, .slice A2 n2 c2]) undef undef undef undef undef undef undef undef undef) (.inRegion kOps (Region.linearise.go .any kOps 14 t #[true, true, true, false, true, false, false, false, true, false, false, false, false, false, false, false, false, false, false] []) :: kk)) cs) v := by
  obtain ⟨i, hi, t', e⟩ := go_some (md := .any) (ops := kOps) (fuel := 13) (t := t) (listed := #[true, true, true, false, true, false, false, false, true, false, false, false, false, false, false, false, false, false, false]) (rs := [3, 5, 12]) (by kernel_rfl) (by simp)
  rw [e]
  clear e
  simp only [List.mem_cons, List.not_mem_nil, or_false] at hi
  rcases hi with rfl | rfl | rfl
  · exact ko_3 hF hN (ks_0_1_2_3_4_8 t' hF hN hend)
  · exact ko_5 hF hN fun A5 c5 v' hF' h5 => ks_0_1_2_4_5_8 A5 c5 t' hF' hN h5 hend
  · exact ko_12 hF hN (ks_0_1_2_4_8_12 t' hF hN hend)
theorem ks_0_1_2_4_12 (t : Nat) (hF : FK A1 A2 n1 c1 n2 c2 cb room us v0 v) (hN : NK room us out tg on rs) (hend : ∀ (y : Act) v, FK A1 A2 n1 c1 n2 c2 cb room us v0 v → y.defers = [] → y.tmps.size = 43 → y.tmps[2]? = some (.bool true) → KV Try.prog H Tgt (G (bK.at y (.inRegion kOps [] :: kk)) cs) v) :
    KV Try.prog H Tgt (G (bK.at (kAct A A1 A2 n c n1 c1 n2 c2 cb out (.bool false) (.int .i64 out) (.bool true) (.bool true) undef (.agg #[.slice A1 n1 c1, .slice A2 n2 c2]) undef undef undef undef undef undef undef (.pointer (some ⟨cb, 0, none⟩)) undef undef undef undef undef) (.inRegion kOps (Region.linearise.go .any kOps 14 t #[true, true, true, false, true, false, false, false, false, false, false, false, true, false, false, false, false, false, false] []) :: kk)) cs) v := by
  obtain ⟨i, hi, t', e⟩ := go_some (md := .any) (ops := kOps) (fuel := 13) (t := t) (listed := #[true, true, true, false, true, false, false, false, false, false, false, false, true, false, false, false, false, false, false]) (rs := [3, 5, 8, 13]) (by kernel_rfl) (by simp)
  rw [e]
  clear e
  simp only [List.mem_cons, List.not_mem_nil, or_false] at hi
  rcases hi with rfl | rfl | rfl | rfl
  · exact ko_3 hF hN (ks_0_1_2_3_4_12 t' hF hN hend)
  · exact ko_5 hF hN fun A5 c5 v' hF' h5 => ks_0_1_2_4_5_12 A5 c5 t' hF' hN h5 hend
  · exact ko_8 hF hN (ks_0_1_2_4_8_12 t' hF hN hend)
  · exact ko_13 hF hN (ks_0_1_2_4_12_13 t' hF hN hend)
theorem ks_0_1_2_8_12 (t : Nat) (hF : FK A1 A2 n1 c1 n2 c2 cb room us v0 v) (hN : NK room us out tg on rs) (hend : ∀ (y : Act) v, FK A1 A2 n1 c1 n2 c2 cb room us v0 v → y.defers = [] → y.tmps.size = 43 → y.tmps[2]? = some (.bool true) → KV Try.prog H Tgt (G (bK.at y (.inRegion kOps [] :: kk)) cs) v) :
    KV Try.prog H Tgt (G (bK.at (kAct A A1 A2 n c n1 c1 n2 c2 cb out (.bool false) (.int .i64 out) (.bool true) (.bool true) undef undef undef undef undef (.agg #[.slice A1 n1 c1, .slice A2 n2 c2]) undef undef undef (.pointer (some ⟨cb, 0, none⟩)) undef undef undef undef undef) (.inRegion kOps (Region.linearise.go .any kOps 14 t #[true, true, true, false, false, false, false, false, true, false, false, false, true, false, false, false, false, false, false] []) :: kk)) cs) v := by
  obtain ⟨i, hi, t', e⟩ := go_some (md := .any) (ops := kOps) (fuel := 13) (t := t) (listed := #[true, true, true, false, false, false, false, false, true, false, false, false, true, false, false, false, false, false, false]) (rs := [3, 4, 13]) (by kernel_rfl) (by simp)
  rw [e]
  clear e
  simp only [List.mem_cons, List.not_mem_nil, or_false] at hi
  rcases hi with rfl | rfl | rfl
  · exact ko_3 hF hN (ks_0_1_2_3_8_12 t' hF hN hend)
  · exact ko_4 hF hN (ks_0_1_2_4_8_12 t' hF hN hend)
  · exact ko_13 hF hN (ks_0_1_2_8_12_13 t' hF hN hend)
theorem ks_0_1_2_12_13 (t : Nat) (hF : FK A1 A2 n1 c1 n2 c2 cb room us v0 v) (hN : NK room us out tg on rs) (hend : ∀ (y : Act) v, FK A1 A2 n1 c1 n2 c2 cb room us v0 v → y.defers = [] → y.tmps.size = 43 → y.tmps[2]? = some (.bool true) → KV Try.prog H Tgt (G (bK.at y (.inRegion kOps [] :: kk)) cs) v) :
    KV Try.prog H Tgt (G (bK.at (kAct A A1 A2 n c n1 c1 n2 c2 cb out (.bool false) (.int .i64 out) (.bool true) (.bool true) undef undef undef undef undef undef undef undef undef (.pointer (some ⟨cb, 0, none⟩)) (.slice A1 n1 c1) undef undef undef undef) (.inRegion kOps (Region.linearise.go .any kOps 14 t #[true, true, true, false, false, false, false, false, false, false, false, false, true, true, false, false, false, false, false] []) :: kk)) cs) v := by
  obtain ⟨i, hi, t', e⟩ := go_some (md := .any) (ops := kOps) (fuel := 13) (t := t) (listed := #[true, true, true, false, false, false, false, false, false, false, false, false, true, true, false, false, false, false, false]) (rs := [3, 4, 8]) (by kernel_rfl) (by simp)
  rw [e]
  clear e
  simp only [List.mem_cons, List.not_mem_nil, or_false] at hi
  rcases hi with rfl | rfl | rfl
  · exact ko_3 hF hN (ks_0_1_2_3_12_13 t' hF hN hend)
  · exact ko_4 hF hN (ks_0_1_2_4_12_13 t' hF hN hend)
  · exact ko_8 hF hN (ks_0_1_2_8_12_13 t' hF hN hend)
theorem ks_0_1_2_3 (t : Nat) (hF : FK A1 A2 n1 c1 n2 c2 cb room us v0 v) (hN : NK room us out tg on rs) (hend : ∀ (y : Act) v, FK A1 A2 n1 c1 n2 c2 cb room us v0 v → y.defers = [] → y.tmps.size = 43 → y.tmps[2]? = some (.bool true) → KV Try.prog H Tgt (G (bK.at y (.inRegion kOps [] :: kk)) cs) v) :
    KV Try.prog H Tgt (G (bK.at (kAct A A1 A2 n c n1 c1 n2 c2 cb out (.bool false) (.int .i64 out) (.bool true) (.bool true) (.int .i64 out) undef undef undef undef undef undef undef undef undef undef undef undef undef undef) (.inRegion kOps (Region.linearise.go .any kOps 15 t #[true, true, true, true, false, false, false, false, false, false, false, false, false, false, false, false, false, false, false] []) :: kk)) cs) v := by
  obtain ⟨i, hi, t', e⟩ := go_some (md := .any) (ops := kOps) (fuel := 14) (t := t) (listed := #[true, true, true, true, false, false, false, false, false, false, false, false, false, false, false, false, false, false, false]) (rs := [4, 8, 12]) (by kernel_rfl) (by simp)
  rw [e]
  clear e
  simp only [List.mem_cons, List.not_mem_nil, or_false] at hi
  rcases hi with rfl | rfl | rfl
  · exact ko_4 hF hN (ks_0_1_2_3_4 t' hF hN hend)
  · exact ko_8 hF hN (ks_0_1_2_3_8 t' hF hN hend)
  · exact ko_12 hF hN (ks_0_1_2_3_12 t' hF hN hend)
theorem ks_0_1_2_4 (t : Nat) (hF : FK A1 A2 n1 c1 n2 c2 cb room us v0 v) (hN : NK room us out tg on rs) (hend : ∀ (y : Act) v, FK A1 A2 n1 c1 n2 c2 cb room us v0 v → y.defers = [] → y.tmps.size = 43 → y.tmps[2]? = some (.bool true) → KV Try.prog H Tgt (G (bK.at y (.inRegion kOps [] :: kk)) cs) v) :
    KV Try.prog H Tgt (G (bK.at (kAct A A1 A2 n c n1 c1 n2 c2 cb out (.bool false) (.int .i64 out) (.bool true) (.bool true) undef (.agg #[.slice A1 n1 c1, .slice A2 n2 c2]) undef undef undef undef undef undef undef undef undef undef undef undef undef) (.inRegion kOps (Region.linearise.go .any kOps 15 t #[true, true, true, false, true, false, false, false, false, false, false, false, false, false, false, false, false, false, false] []) :: kk)) cs) v := by
  obtain ⟨i, hi, t', e⟩ := go_some (md := .any) (ops := kOps) (fuel := 14) (t := t) (listed := #[true, true, true, false, true, false, false, false, false, false, false, false, false, false, false, false, false, false, false]) (rs := [3, 5, 8, 12]) (by kernel_rfl) (by simp)
  rw [e]
  clear e
  simp only [List.mem_cons, List.not_mem_nil, or_false] at hi
  rcases hi with rfl | rfl | rfl | rfl
  · exact ko_3 hF hN (ks_0_1_2_3_4 t' hF hN hend)
  · exact ko_5 hF hN fun A5 c5 v' hF' h5 => ks_0_1_2_4_5 A5 c5 t' hF' hN h5 hend
  · exact ko_8 hF hN (ks_0_1_2_4_8 t' hF hN hend)
  · exact ko_12 hF hN (ks_0_1_2_4_12 t' hF hN hend)
theorem ks_0_1_2_8 (t : Nat) (hF : FK A1 A2 n1 c1 n2 c2 cb room us v0 v) (hN : NK room us out tg on rs) (hend : ∀ (y : Act) v, FK A1 A2 n1 c1 n2 c2 cb room us v0 v → y.defers = [] → y.tmps.size = 43 → y.tmps[2]? = some (.bool true) → KV Try.prog H Tgt (G (bK.at y (.inRegion kOps [] :: kk)) cs) v) :
    KV Try.prog H Tgt (G (bK.at (kAct A A1 A2 n c n1 c1 n2 c2 cb out (.bool false) (.int .i64 out) (.bool true) (.bool true) undef undef undef undef undef (.agg #[.slice A1 n1 c1, .slice A2 n2 c2]) undef undef undef undef undef undef undef undef undef) (.inRegion kOps (Region.linearise.go .any kOps 15 t #[true, true, true, false, false, false, false, false, true, false, false, false, false, false, false, false, false, false, false] []) :: kk)) cs) v := by
  obtain ⟨i, hi, t', e⟩ := go_some (md := .any) (ops := kOps) (fuel := 14) (t := t) (listed := #[true, true, true, false, false, false, false, false, true, false, false, false, false, false, false, false, false, false, false]) (rs := [3, 4, 12]) (by kernel_rfl) (by simp)
  rw [e]
  clear e
  simp only [List.mem_cons, List.not_mem_nil, or_false] at hi
  rcases hi with rfl | rfl | rfl
  · exact ko_3 hF hN (ks_0_1_2_3_8 t' hF hN hend)
  · exact ko_4 hF hN (ks_0_1_2_4_8 t' hF hN hend)
  · exact ko_12 hF hN (ks_0_1_2_8_12 t' hF hN hend)
theorem ks_0_1_2_12 (t : Nat) (hF : FK A1 A2 n1 c1 n2 c2 cb room us v0 v) (hN : NK room us out tg on rs) (hend : ∀ (y : Act) v, FK A1 A2 n1 c1 n2 c2 cb room us v0 v → y.defers = [] → y.tmps.size = 43 → y.tmps[2]? = some (.bool true) → KV Try.prog H Tgt (G (bK.at y (.inRegion kOps [] :: kk)) cs) v) :
    KV Try.prog H Tgt (G (bK.at (kAct A A1 A2 n c n1 c1 n2 c2 cb out (.bool false) (.int .i64 out) (.bool true) (.bool true) undef undef undef undef undef undef undef undef undef (.pointer (some ⟨cb, 0, none⟩)) undef undef undef undef undef) (.inRegion kOps (Region.linearise.go .any kOps 15 t #[true, true, true, false, false, false, false, false, false, false, false, false, true, false, false, false, false, false, false] []) :: kk)) cs) v := by
  obtain ⟨i, hi, t', e⟩ := go_some (md := .any) (ops := kOps) (fuel := 14) (t := t) (listed := #[true, true, true, false, false, false, false, false, false, false, false, false, true, false, false, false, false, false, false]) (rs := [3, 4, 8, 13]) (by kernel_rfl) (by simp)
  rw [e]
  clear e
  simp only [List.mem_cons, List.not_mem_nil, or_false] at hi
  rcases hi with rfl | rfl | rfl | rfl
  · exact ko_3 hF hN (ks_0_1_2_3_12 t' hF hN hend)
  · exact ko_4 hF hN (ks_0_1_2_4_12 t' hF hN hend)
  · exact ko_8 hF hN (ks_0_1_2_8_12 t' hF hN hend)
  · exact ko_13 hF hN (ks_0_1_2_12_13 t' hF hN hend)
theorem ks_0_1_2 (t : Nat) (hF : FK A1 A2 n1 c1 n2 c2 cb room us v0 v) (hN : NK room us out tg on rs) (hend : ∀ (y : Act) v, FK A1 A2 n1 c1 n2 c2 cb room us v0 v → y.defers = [] → y.tmps.size = 43 → y.tmps[2]? = some (.bool true) → KV Try.prog H Tgt (G (bK.at y (.inRegion kOps [] :: kk)) cs) v) :
    KV Try.prog H Tgt (G (bK.at (kAct A A1 A2 n c n1 c1 n2 c2 cb out (.bool false) (.int .i64 out) (.bool true) (.bool true) undef undef undef undef undef undef undef undef undef undef undef undef undef undef undef) (.inRegion kOps (Region.linearise.go .any kOps 16 t #[true, true, true, false, false, false, false, false, false, false, false, false, false, false, false, false, false, false, false] []) :: kk)) cs) v := by
  obtain ⟨i, hi, t', e⟩ := go_some (md := .any) (ops := kOps) (fuel := 15) (t := t) (listed := #[true, true, true, false, false, false, false, false, false, false, false, false, false, false, false, false, false, false, false]) (rs := [3, 4, 8, 12]) (by kernel_rfl) (by simp)
  rw [e]
  clear e
  simp only [List.mem_cons, List.not_mem_nil, or_false] at hi
  rcases hi with rfl | rfl | rfl | rfl
  · exact ko_3 hF hN (ks_0_1_2_3 t' hF hN hend)
  · exact ko_4 hF hN (ks_0_1_2_4 t' hF hN hend)
  · exact ko_8 hF hN (ks_0_1_2_8 t' hF hN hend)
  · exact ko_12 hF hN (ks_0_1_2_12 t' hF hN hend)
theorem ks_0_1 (t : Nat) (hF : FK A1 A2 n1 c1 n2 c2 cb room us v0 v) (hN : NK room us out tg on rs) (hend : ∀ (y : Act) v, FK A1 A2 n1 c1 n2 c2 cb room us v0 v → y.defers = [] → y.tmps.size = 43 → y.tmps[2]? = some (.bool true) → KV Try.prog H Tgt (G (bK.at y (.inRegion kOps [] :: kk)) cs) v) :
    KV Try.prog H Tgt (G (bK.at (kAct A A1 A2 n c n1 c1 n2 c2 cb out (.bool false) (.int .i64 out) (.bool true) undef undef undef undef undef undef undef undef undef undef undef undef undef undef undef undef) (.inRegion kOps (Region.linearise.go .any kOps 17 t #[true, true, false, false, false, false, false, false, false, false, false, false, false, false, false, false, false, false, false] []) :: kk)) cs) v := by
  obtain ⟨i, hi, t', e⟩ := go_some (md := .any) (ops := kOps) (fuel := 16) (t := t) (listed := #[true, true, false, false, false, false, false, false, false, false, false, false, false, false, false, false, false, false, false]) (rs := [2]) (by kernel_rfl) (by simp)
  rw [e]
  clear e
  simp only [List.mem_cons, List.not_mem_nil, or_false] at hi
  rcases hi with rfl
  · exact ko_2 hF hN (ks_0_1_2 t' hF hN hend)
theorem ks_0 (t : Nat) (hF : FK A1 A2 n1 c1 n2 c2 cb room us v0 v) (hN : NK room us out tg on rs) (hend : ∀ (y : Act) v, FK A1 A2 n1 c1 n2 c2 cb room us v0 v → y.defers = [] → y.tmps.size = 43 → y.tmps[2]? = some (.bool true) → KV Try.prog H Tgt (G (bK.at y (.inRegion kOps [] :: kk)) cs) v) :
    KV Try.prog H Tgt (G (bK.at (kAct A A1 A2 n c n1 c1 n2 c2 cb out (.bool false) (.int .i64 out) undef undef undef undef undef undef undef undef undef undef undef undef undef undef undef undef undef) (.inRegion kOps (Region.linearise.go .any kOps 18 t #[true, false, false, false, false, false, false, false, false, false, false, false, false, false, false, false, false, false, false] []) :: kk)) cs) v := by
  obtain ⟨i, hi, t', e⟩ := go_some (md := .any) (ops := kOps) (fuel := 17) (t := t) (listed := #[true, false, false, false, false, false, false, false, false, false, false, false, false, false, false, false, false, false, false]) (rs := [1]) (by kernel_rfl) (by simp)
  rw [e]
  clear e
  simp only [List.mem_cons, List.not_mem_nil, or_false] at hi
  rcases hi with rfl
  · exact ko_1 hF hN (ks_0_1 t' hF hN hend)
theorem ks_start (t : Nat) (hF : FK A1 A2 n1 c1 n2 c2 cb room us v0 v) (hN : NK room us out tg on rs) (hend : ∀ (y : Act) v, FK A1 A2 n1 c1 n2 c2 cb room us v0 v → y.defers = [] → y.tmps.size = 43 → y.tmps[2]? = some (.bool true) → KV Try.prog H Tgt (G (bK.at y (.inRegion kOps [] :: kk)) cs) v) :
    KV Try.prog H Tgt (G (bK.at (kAct A A1 A2 n c n1 c1 n2 c2 cb out (.bool false) undef undef undef undef undef undef undef undef undef undef undef undef undef undef undef undef undef undef) (.inRegion kOps (Region.linearise.go .any kOps 19 t #[false, false, false, false, false, false, false, false, false, false, false, false, false, false, false, false, false, false, false] []) :: kk)) cs) v := by
  obtain ⟨i, hi, t', e⟩ := go_some (md := .any) (ops := kOps) (fuel := 18) (t := t) (listed := #[false, false, false, false, false, false, false, false, false, false, false, false, false, false, false, false, false, false, false]) (rs := [0]) (by kernel_rfl) (by simp)
  rw [e]
  clear e
  simp only [List.mem_cons, List.not_mem_nil, or_false] at hi
  rcases hi with rfl
  · exact ko_0 hF hN (ks_0 t' hF hN hend)
end
end Go.Proofs.Ytlcgbnmmbheleaa
