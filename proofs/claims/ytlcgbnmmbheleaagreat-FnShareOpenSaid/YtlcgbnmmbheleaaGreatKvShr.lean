/- Beside leavers, over views: UsageShare. (The program of this text: gen_kvshr.py.) -/
import Derived.Test.YtlcgbnmmbheleaaGreatV34
namespace Go.Proofs.YtlcgbnmmbheleaaGreat
open Go Go.Conc Go.RowKit
set_option linter.unusedVariables false
set_option linter.unusedSimpArgs false

def shareP (room : List Int) (us : List Un) (dim : Int) : Int :=
  if clOk room us = true ∧ inR 0 2 dim = true then (if openN us = 0 then 0 else (100 * (togTo us us.length)[dim.toNat]?.getD 0) / (room[dim.toNat]?.getD 0 * (openN us : Nat))) else -1

noncomputable def uzBody : Code := Tryz.f6.body.getD .skip
noncomputable def uzC0 : Code := match uzBody with | .seq a _ => a | _ => .skip
noncomputable def uzC1 : Code := match uzBody with | .seq _ (.seq a _) => a | _ => .skip
noncomputable def uzC3 : Code := match uzBody with | .seq _ (.seq _ (.seq a _)) => a | _ => .skip
noncomputable def uzC4 : Code := match uzBody with | .seq _ (.seq _ (.seq _ (.seq a _))) => a | _ => .skip
noncomputable def uzOps : Array Oper := match uzBody with | .seq _ (.seq _ (.seq _ (.seq _ (.seq (.region _ ops _) _)))) => ops | _ => #[]
theorem uzBody_eq : ∃ i, uzBody = .seq uzC0 (.seq uzC1 (.seq uzC3 (.seq uzC4 (.seq (.region i uzOps true) .ret)))) := ⟨_, by rfl⟩
def UeQ (A1 A2 : Option Addr) (n1 c1 n2 c2 cb : Nat) (dim : Int) (room : List Int) (us : List Un) (v : World) (e : Exit) (a : Act) (v' : World) : Prop :=
  (e = .normal ∧ (clOk room us = true ∧ inR 0 2 dim = true) ∧ a = ⟨#[(.agg #[.slice A1 n1 c1, .slice A2 n2 c2]), .int .i64 dim, .pointer (some ⟨cb, 0, none⟩), undef, .int .i64 0, undef, (.agg #[.slice A1 n1 c1, .slice A2 n2 c2]), .bool true, .bool false, .bool false, .int .i64 dim, .bool true, .bool false, .bool false, undef, undef, undef, undef, undef, undef, undef, undef, undef, undef, undef, undef, undef, undef, undef, undef, undef, undef, undef], []⟩ ∧ GR v v') ∨ (e = .ret ∧ ¬ (clOk room us = true ∧ inR 0 2 dim = true) ∧ a.defers = [] ∧ a.tmps.getD 4 undef = .int .i64 (-1) ∧ GR v v')
section
set_option maxRecDepth 100000 in
theorem uz_c1 (A1 A2 : Option Addr) (n1 c1 n2 c2 cb : Nat) (dim : Int) (room : List Int) (us : List Un) (v : World) (h : RdC v A1 A2 n1 n2 room us) (hs : ShU us) (hbox : Blk v cb 26 #[.slice A1 n1 c1, .slice A2 n2 c2]) :
    uzC1.wp Tryz.prog (UeQ A1 A2 n1 c1 n2 c2 cb dim room us v) ⟨#[(.agg #[.slice A1 n1 c1, .slice A2 n2 c2]), .int .i64 dim, .pointer (some ⟨cb, 0, none⟩), undef, .int .i64 0, undef, undef, undef, undef, undef, undef, undef, undef, undef, undef, undef, undef, undef, undef, undef, undef, undef, undef, undef, undef, undef, undef, undef, undef, undef, undef, undef, undef], []⟩ v := by
  have x0 := hbox.cell 0
  have x1 := hbox.cell 1
  simp only [gT, gZ, gS] at x0 x1
  have Hr := qh h
  have Hs := qh hs
  have hw := qh (fun w => within_any dim 0 2 w)
  clear h hs hbox
  simp only [uzC1, uzBody, Tryz.f6, Option.getD_some]
  go_wp2_with fail
  clear x0 x1
  refine (clusterValidI_any A1 A2 n1 c1 n2 c2 room us v Hr.out Hs.out).mono ?_; rintro e w2 ⟨rfl, hb2⟩
  have B2 := qh hb2
  clear hb2
  cases hok : clOk room us with
  | false =>
    have Hok := qh hok
    clear hok
    go_wp2_with fail
    exact .inr ⟨rfl, fun h => (by rw [Hok.out] at h; cases h.1), rfl, rfl, below_gr B2.out⟩
  | true =>
    have Hok := qh hok
    clear hok
    go_wp2_with fail
    refine (hw.out w2).mono ?_; rintro e w3 ⟨rfl, rfl⟩
    cases hin : inR 0 2 dim with
    | false =>
      have Hin := qh hin
      clear hin
      go_wp2_with fail
      exact .inr ⟨rfl, fun h => (by rw [Hin.out] at h; cases h.2), rfl, rfl, below_gr B2.out⟩
    | true =>
      have Hin := qh hin
      clear hin
      go_wp2_with fail
      exact .inl ⟨rfl, ⟨Hok.out, Hin.out⟩, rfl, below_gr B2.out⟩
set_option maxRecDepth 100000 in
theorem uz_c3 (A1 A2 : Option Addr) (n1 c1 n2 c2 cb : Nat) (dim : Int) (room : List Int) (us : List Un) (v : World) (h : RdC v A1 A2 n1 n2 room us) (hs : ShU us) (hbox : Blk v cb 26 #[.slice A1 n1 c1, .slice A2 n2 c2]) :
    uzC3.wp Tryz.prog (fun e a v' => (e = .normal ∧ a = ⟨#[(.agg #[.slice A1 n1 c1, .slice A2 n2 c2]), .int .i64 dim, .pointer (some ⟨cb, 0, none⟩), undef, .int .i64 0, .int .i64 (openN us : Nat), (.agg #[.slice A1 n1 c1, .slice A2 n2 c2]), .bool true, .bool false, .bool false, .int .i64 dim, .bool true, .bool false, .bool false, (.agg #[.slice A1 n1 c1, .slice A2 n2 c2]), .int .i64 (openN us : Nat), undef, undef, undef, undef, undef, undef, undef, undef, undef, undef, undef, undef, undef, undef, undef, undef, undef], []⟩ ∧ GR v v') ∨ (e = .ret ∧ False)) ⟨#[(.agg #[.slice A1 n1 c1, .slice A2 n2 c2]), .int .i64 dim, .pointer (some ⟨cb, 0, none⟩), undef, .int .i64 0, undef, (.agg #[.slice A1 n1 c1, .slice A2 n2 c2]), .bool true, .bool false, .bool false, .int .i64 dim, .bool true, .bool false, .bool false, undef, undef, undef, undef, undef, undef, undef, undef, undef, undef, undef, undef, undef, undef, undef, undef, undef, undef, undef], []⟩ v := by
  have x0 := hbox.cell 0
  have x1 := hbox.cell 1
  simp only [gT, gZ, gS] at x0 x1
  have Hr := qh h
  have Hs := qh hs
  clear h hs hbox
  simp only [uzC3, uzBody, Tryz.f6, Option.getD_some]
  go_wp2_with fail
  clear x0 x1
  refine (countOpen_any A1 A2 n1 c1 n2 c2 room us v Hr.out (by rw [← Hr.out.b.len]; exact Hs.out.1)).mono ?_; rintro e w3 ⟨rfl, hb3⟩
  have B3 := qh hb3
  clear hb3
  go_wp2_with fail
  exact below_gr B3.out
set_option maxRecDepth 100000 in
theorem uz_c4 (A1 A2 : Option Addr) (n1 c1 n2 c2 cb : Nat) (dim : Int) (us : List Un) (v : World) :
    uzC4.wp Tryz.prog (fun e a v' => (e = .normal ∧ openN us ≠ 0 ∧ a = ⟨#[(.agg #[.slice A1 n1 c1, .slice A2 n2 c2]), .int .i64 dim, .pointer (some ⟨cb, 0, none⟩), undef, .int .i64 0, .int .i64 (openN us : Nat), (.agg #[.slice A1 n1 c1, .slice A2 n2 c2]), .bool true, .bool false, .bool false, .int .i64 dim, .bool true, .bool false, .bool false, (.agg #[.slice A1 n1 c1, .slice A2 n2 c2]), .int .i64 (openN us : Nat), .int .i64 (openN us : Nat), .bool false, undef, undef, undef, undef, undef, undef, undef, undef, undef, undef, undef, undef, undef, undef, undef], []⟩ ∧ v' = v) ∨ (e = .ret ∧ openN us = 0 ∧ a.defers = [] ∧ a.tmps.getD 4 undef = .int .i64 0 ∧ v' = v)) ⟨#[(.agg #[.slice A1 n1 c1, .slice A2 n2 c2]), .int .i64 dim, .pointer (some ⟨cb, 0, none⟩), undef, .int .i64 0, .int .i64 (openN us : Nat), (.agg #[.slice A1 n1 c1, .slice A2 n2 c2]), .bool true, .bool false, .bool false, .int .i64 dim, .bool true, .bool false, .bool false, (.agg #[.slice A1 n1 c1, .slice A2 n2 c2]), .int .i64 (openN us : Nat), undef, undef, undef, undef, undef, undef, undef, undef, undef, undef, undef, undef, undef, undef, undef, undef, undef], []⟩ v := by
  by_cases h0 : openN us = 0
  · have q0 : (((openN us : Nat) : Int) == 0) = true := by simp [h0]
    have Q := qh h0
    simp only [uzC4, uzBody, Tryz.f6, Option.getD_some]
    generalize ((openN us : Nat) : Int) = n at q0 ⊢
    clear h0
    go_wp2_with fail
    exact Q.out
  · have q0 : (((openN us : Nat) : Int) == 0) = false := by simp; omega
    have Q := qh h0
    simp only [uzC4, uzBody, Tryz.f6, Option.getD_some]
    generalize ((openN us : Nat) : Int) = n at q0 ⊢
    clear h0
    go_wp2_with fail
    exact Q.out
end

def uzF : Frame := base 6
theorem fewUe : uzF.kind ≠ .early := by decide
def uzA (A2 : Option Addr) (rb ro c1 c2 cb k : Nat) (us : List Un) (n : Int) (y4 y18 y19 y20 y21 y22 y23 y24 y25 y26 y27 y28 y29 y30 y31 y32 : Value) : Act := ⟨#[(.agg #[.slice (some ⟨rb, ro, none⟩) 3 c1, .slice A2 us.length c2]), .int .i64 (k : Int), .pointer (some ⟨cb, 0, none⟩), undef, y4, .int .i64 n, (.agg #[.slice (some ⟨rb, ro, none⟩) 3 c1, .slice A2 us.length c2]), .bool true, .bool false, .bool false, .int .i64 (k : Int), .bool true, .bool false, .bool false, (.agg #[.slice (some ⟨rb, ro, none⟩) 3 c1, .slice A2 us.length c2]), .int .i64 n, .int .i64 n, .bool false, y18, y19, y20, y21, y22, y23, y24, y25, y26, y27, y28, y29, y30, y31, y32], []⟩
structure FSh (A2 : Option Addr) (rb ro c1 c2 cb k : Nat) (room : List Int) (us : List Un) (r : Int) (v0 v : World) : Prop where
  cl : RdC v (some ⟨rb, ro, none⟩) A2 3 us.length room us
  box : Blk v cb 26 #[.slice (some ⟨rb, ro, none⟩) 3 c1, .slice A2 us.length c2]
  rc : rb < v.heap.size ∧ v.cell? ⟨rb, ro + k, none⟩ = some (.int .i64 r)
  gr : GR v0 v
structure NS (room : List Int) (us : List Un) (k : Nat) (t r n q : Int) : Prop where
  hs : ShU us
  hok : clOk room us = true
  hk : k < 3
  ht : (togTo us us.length)[k]?.getD 0 = t
  hn : ((openN us : Nat) : Int) = n
  w6 : IntKind.i64.wrap (100 * t) = 100 * t
  w13 : IntKind.i64.wrap (r * n) = r * n
  ne : ¬ r * n = 0
  hq : IntKind.i64.wrap ((100 * t).tdiv (r * n)) = q
theorem FSh.go {A2 : Option Addr} {rb ro c1 c2 cb k : Nat} {room : List Int} {us : List Un} {r : Int} {v0 v v' : World} (h : FSh A2 rb ro c1 c2 cb k room us r v0 v) (g : GR v v') : FSh A2 rb ro c1 c2 cb k room us r v0 v' :=
  ⟨h.cl.gr g, h.box.grr g, ⟨Nat.lt_of_lt_of_le h.rc.1 g.size, (World.cell?_of_block (g.rows _ h.rc.1)).trans h.rc.2⟩, h.gr.trans g⟩
section
variable {H : Nat → Prop} {Tgt : Goroutine → World → Prop} {v0 v : World} {A2 : Option Addr} {rb ro c1 c2 cb k : Nat} {room : List Int} {us : List Un} {t r n q : Int} {kk : List Item} {cs : List Frame} {rest : List Nat}
set_option maxRecDepth 100000 in
theorem uz_0 {y4 y18 y19 y20 y21 y22 y23 y24 y25 y26 y27 y28 y29 y30 y31 y32 : Value} (hF : FSh A2 rb ro c1 c2 cb k room us r v0 v) (hN : NS room us k t r n q) (next : KV Tryz.prog H Tgt (G (uzF.at (uzA A2 rb ro c1 c2 cb k us n y4 (.agg #[.slice (some ⟨rb, ro, none⟩) 3 c1, .slice A2 us.length c2]) y19 y20 y21 y22 y23 y24 y25 y26 y27 y28 y29 y30 y31 y32) (.inRegion uzOps (rest) :: kk)) cs) v) :
    KV Tryz.prog H Tgt (G (uzF.at (uzA A2 rb ro c1 c2 cb k us n y4 y18 y19 y20 y21 y22 y23 y24 y25 y26 y27 y28 y29 y30 y31 y32) (.inRegion uzOps (0 :: rest) :: kk)) cs) v := by
  simp only [uzA, uzOps, uzBody, Tryz.f6, Option.getD_some] at next ⊢
  refine KV.op anaA_good rfl (by rfl) fewUe (by kernel_rfl) (fun t => anaA.noTr_spec (by kernel_rfl) t) (fun v₁ hs K' hK' => ?_)
  have hbx := ViewOf_cells_of hF.box hs.heap
  have x0 := hbx.cell 0
  have x1 := hbx.cell 1
  simp only [gT, gZ, gS] at x0 x1
  clear hbx
  go_simp
  refine hK' _ _ ?_
  try walk_nrm
  exact KV.heap next ⟨hs.heap.symm, hs.os.symm, hs.output.symm⟩
set_option maxRecDepth 100000 in
theorem uz_1 {y4 y19 y20 y21 y22 y23 y24 y25 y26 y27 y28 y29 y30 y31 y32 : Value} (hF : FSh A2 rb ro c1 c2 cb k room us r v0 v) (hN : NS room us k t r n q) (next : ∀ C v', GR v v' → FSh A2 rb ro c1 c2 cb k room us r v0 v' → RdLd v' C us → KV Tryz.prog H Tgt (G (uzF.at (uzA A2 rb ro c1 c2 cb k us n y4 (.agg #[.slice (some ⟨rb, ro, none⟩) 3 c1, .slice A2 us.length c2]) (.slice (some ⟨C, 0, none⟩) us.length us.length) y20 y21 y22 y23 y24 y25 y26 y27 y28 y29 y30 y31 y32) (.inRegion uzOps (rest) :: kk)) cs) v') :
    KV Tryz.prog H Tgt (G (uzF.at (uzA A2 rb ro c1 c2 cb k us n y4 (.agg #[.slice (some ⟨rb, ro, none⟩) 3 c1, .slice A2 us.length c2]) y19 y20 y21 y22 y23 y24 y25 y26 y27 y28 y29 y30 y31 y32) (.inRegion uzOps (1 :: rest) :: kk)) cs) v := by
  simp only [uzA, uzOps, uzBody, Tryz.f6, Option.getD_some] at next ⊢
  refine KV.callV rfl (by rfl) fewUe rfl (Post := UsP us v) ?_ (fun x v3 hp => ?_)
  · have hus := usage_v (H := H) (A1 := some ⟨rb, ro, none⟩) (n1 := 3) (c1 := c1) (c2 := c2) (uok_of hN.hok).1 hF.cl.b
    simpa [Act.eval, Act.put] using hus
  obtain ⟨C, xs, rfl, hC, hrow, hxs, hfit, hg3⟩ := hp
  have hrl : RdLd v3 C us := fun c hc => by
    obtain ⟨y, g1, A, m, rfl, g3⟩ := hfit c hc
    exact ⟨A, m, by simp only [World.cell?, hrow]; exact g1, g3⟩
  try walk_nrm
  exact next C v3 hg3 (hF.go hg3) hrl
set_option maxRecDepth 100000 in
theorem uz_2 {y4 y18 y20 y21 y22 y23 y24 y25 y26 y27 y28 y29 y30 y31 y32 : Value} {C : Nat} (hF : FSh A2 rb ro c1 c2 cb k room us r v0 v) (hN : NS room us k t r n q) (h1 : RdLd v C us) (next : ∀ tb to tc v', FSh A2 rb ro c1 c2 cb k room us r v0 v' → (tb < v'.heap.size ∧ v'.cell? ⟨tb, to + k, none⟩ = some (.int .i64 t)) → KV Tryz.prog H Tgt (G (uzF.at (uzA A2 rb ro c1 c2 cb k us n y4 y18 (.slice (some ⟨C, 0, none⟩) us.length us.length) (.slice (some ⟨tb, to, none⟩) 3 tc) y21 y22 y23 y24 y25 y26 y27 y28 y29 y30 y31 y32) (.inRegion uzOps (rest) :: kk)) cs) v') :
    KV Tryz.prog H Tgt (G (uzF.at (uzA A2 rb ro c1 c2 cb k us n y4 y18 (.slice (some ⟨C, 0, none⟩) us.length us.length) y20 y21 y22 y23 y24 y25 y26 y27 y28 y29 y30 y31 y32) (.inRegion uzOps (2 :: rest) :: kk)) cs) v := by
  simp only [uzA, uzOps, uzBody, Tryz.f6, Option.getD_some] at next ⊢
  refine KV.call anaA_good (R := fun v₁ x v' => ∃ A c, x = .slice A 3 c ∧ RdI v' v'.heap.size A 3 (togTo us us.length) ∧ GR v₁ v') (f := 21) (by kernel_rfl) (by kernel_rfl) rfl (by rfl) fewUe rfl (fun v₁ hs => ?_) (fun v₁ x v4 hs hp => ?_)
  · have ht := together_any C us.length room us v₁ (fun c hc => by
      obtain ⟨A, m, g1, g2⟩ := h1 c hc
      exact ⟨A, m, hs.cell g1, g2.gain (fun p y hy => hs.cell hy) (by rw [hs.heap]; exact Nat.le_refl _)⟩) hN.hok rfl
    have ht2 : Calls Tryz.prog 21 #[.slice (some ⟨C, 0, none⟩) us.length us.length] v₁ (fun e v' => ∃ x, e = .returned x ∧ ∃ A c, x = .slice A 3 c ∧ RdI v' v'.heap.size A 3 (togTo us us.length) ∧ GR v₁ v') := ht.mono (by rintro e v' ⟨A, c, rfl, hr, hb⟩; exact ⟨_, rfl, A, c, rfl, hr, below_gr hb⟩)
    simpa [Act.eval, Act.put] using ht2
  obtain ⟨A5, c5, rfl, hrd, hg5⟩ := hp
  obtain ⟨tb, to, rfl, htb, hcells⟩ := hrd.2.2 (by omega)
  have hc := hcells k hN.hk
  rw [hN.ht] at hc
  try walk_nrm
  exact next tb to c5 v4 (hF.go (GR.from hs hg5)) ⟨htb, by simpa using hc⟩
set_option maxRecDepth 100000 in
theorem uz_3 {y4 y18 y19 y20 y21 y22 y23 y24 y25 y26 y27 y28 y29 y30 y31 y32 : Value} (hF : FSh A2 rb ro c1 c2 cb k room us r v0 v) (hN : NS room us k t r n q) (next : KV Tryz.prog H Tgt (G (uzF.at (uzA A2 rb ro c1 c2 cb k us n y4 y18 y19 y20 (.int .i64 (k : Int)) y22 y23 y24 y25 y26 y27 y28 y29 y30 y31 y32) (.inRegion uzOps (rest) :: kk)) cs) v) :
    KV Tryz.prog H Tgt (G (uzF.at (uzA A2 rb ro c1 c2 cb k us n y4 y18 y19 y20 y21 y22 y23 y24 y25 y26 y27 y28 y29 y30 y31 y32) (.inRegion uzOps (3 :: rest) :: kk)) cs) v := by
  simp only [uzA, uzOps, uzBody, Tryz.f6, Option.getD_some] at next ⊢
  refine KV.op anaA_good rfl (by rfl) fewUe (by kernel_rfl) (fun t => anaA.noTr_spec (by kernel_rfl) t) (fun v₁ hs K' hK' => ?_)
  go_simp
  refine hK' _ _ ?_
  try walk_nrm
  exact KV.heap next ⟨hs.heap.symm, hs.os.symm, hs.output.symm⟩
set_option maxRecDepth 100000 in
theorem uz_4 {y4 y18 y19 y22 y23 y24 y25 y26 y27 y28 y29 y30 y31 y32 : Value} {tb to tc : Nat} (hF : FSh A2 rb ro c1 c2 cb k room us r v0 v) (hN : NS room us k t r n q) (next : KV Tryz.prog H Tgt (G (uzF.at (uzA A2 rb ro c1 c2 cb k us n y4 y18 y19 (.slice (some ⟨tb, to, none⟩) 3 tc) (.int .i64 (k : Int)) (.pointer (some ⟨tb, to + k, none⟩)) y23 y24 y25 y26 y27 y28 y29 y30 y31 y32) (.inRegion uzOps (rest) :: kk)) cs) v) :
    KV Tryz.prog H Tgt (G (uzF.at (uzA A2 rb ro c1 c2 cb k us n y4 y18 y19 (.slice (some ⟨tb, to, none⟩) 3 tc) (.int .i64 (k : Int)) y22 y23 y24 y25 y26 y27 y28 y29 y30 y31 y32) (.inRegion uzOps (4 :: rest) :: kk)) cs) v := by
  simp only [uzA, uzOps, uzBody, Tryz.f6, Option.getD_some] at next ⊢
  refine KV.op anaA_good rfl (by rfl) fewUe (by kernel_rfl) (fun t => anaA.noTr_spec (by kernel_rfl) t) (fun v₁ hs K' hK' => ?_)
  have k1 : (0 : Int) ≤ (k : Int) := by omega
  have k2 : (k : Int) < 3 := by have := hN.hk; omega
  go_simp
  refine hK' _ _ ?_
  try walk_nrm
  exact KV.heap next ⟨hs.heap.symm, hs.os.symm, hs.output.symm⟩
set_option maxRecDepth 100000 in
theorem uz_5 {y4 y18 y19 y20 y21 y23 y24 y25 y26 y27 y28 y29 y30 y31 y32 : Value} {tb to : Nat} (hF : FSh A2 rb ro c1 c2 cb k room us r v0 v) (hN : NS room us k t r n q) (h2 : tb < v.heap.size ∧ v.cell? ⟨tb, to + k, none⟩ = some (.int .i64 t)) (next : KV Tryz.prog H Tgt (G (uzF.at (uzA A2 rb ro c1 c2 cb k us n y4 y18 y19 y20 y21 (.pointer (some ⟨tb, to + k, none⟩)) (.int .i64 t) y24 y25 y26 y27 y28 y29 y30 y31 y32) (.inRegion uzOps (rest) :: kk)) cs) v) :
    KV Tryz.prog H Tgt (G (uzF.at (uzA A2 rb ro c1 c2 cb k us n y4 y18 y19 y20 y21 (.pointer (some ⟨tb, to + k, none⟩)) y23 y24 y25 y26 y27 y28 y29 y30 y31 y32) (.inRegion uzOps (5 :: rest) :: kk)) cs) v := by
  simp only [uzA, uzOps, uzBody, Tryz.f6, Option.getD_some] at next ⊢
  refine KV.op anaA_good rfl (by rfl) fewUe (by kernel_rfl) (fun t => anaA.noTr_spec (by kernel_rfl) t) (fun v₁ hs K' hK' => ?_)
  have x0 := hs.cell h2.2
  go_simp
  refine hK' _ _ ?_
  try walk_nrm
  exact KV.heap next ⟨hs.heap.symm, hs.os.symm, hs.output.symm⟩
set_option maxRecDepth 100000 in
theorem uz_6 {y4 y18 y19 y20 y21 y22 y24 y25 y26 y27 y28 y29 y30 y31 y32 : Value} (hF : FSh A2 rb ro c1 c2 cb k room us r v0 v) (hN : NS room us k t r n q) (next : KV Tryz.prog H Tgt (G (uzF.at (uzA A2 rb ro c1 c2 cb k us n y4 y18 y19 y20 y21 y22 (.int .i64 t) (.int .i64 (100 * t)) y25 y26 y27 y28 y29 y30 y31 y32) (.inRegion uzOps (rest) :: kk)) cs) v) :
    KV Tryz.prog H Tgt (G (uzF.at (uzA A2 rb ro c1 c2 cb k us n y4 y18 y19 y20 y21 y22 (.int .i64 t) y24 y25 y26 y27 y28 y29 y30 y31 y32) (.inRegion uzOps (6 :: rest) :: kk)) cs) v := by
  simp only [uzA, uzOps, uzBody, Tryz.f6, Option.getD_some] at next ⊢
  refine KV.op anaA_good rfl (by rfl) fewUe (by kernel_rfl) (fun t => anaA.noTr_spec (by kernel_rfl) t) (fun v₁ hs K' hK' => ?_)
  have w6 := hN.w6
  go_simp
  refine hK' _ _ ?_
  try walk_nrm
  exact KV.heap next ⟨hs.heap.symm, hs.os.symm, hs.output.symm⟩
set_option maxRecDepth 100000 in
theorem uz_7 {y4 y18 y19 y20 y21 y22 y23 y24 y25 y26 y27 y28 y29 y30 y31 y32 : Value} (hF : FSh A2 rb ro c1 c2 cb k room us r v0 v) (hN : NS room us k t r n q) (next : KV Tryz.prog H Tgt (G (uzF.at (uzA A2 rb ro c1 c2 cb k us n y4 y18 y19 y20 y21 y22 y23 y24 (.pointer (some ⟨cb, 0, none⟩)) y26 y27 y28 y29 y30 y31 y32) (.inRegion uzOps (rest) :: kk)) cs) v) :
    KV Tryz.prog H Tgt (G (uzF.at (uzA A2 rb ro c1 c2 cb k us n y4 y18 y19 y20 y21 y22 y23 y24 y25 y26 y27 y28 y29 y30 y31 y32) (.inRegion uzOps (7 :: rest) :: kk)) cs) v := by
  simp only [uzA, uzOps, uzBody, Tryz.f6, Option.getD_some] at next ⊢
  refine KV.op anaA_good rfl (by rfl) fewUe (by kernel_rfl) (fun t => anaA.noTr_spec (by kernel_rfl) t) (fun v₁ hs K' hK' => ?_)
  go_simp
  refine hK' _ _ ?_
  try walk_nrm
  exact KV.heap next ⟨hs.heap.symm, hs.os.symm, hs.output.symm⟩
set_option maxRecDepth 100000 in
theorem uz_8 {y4 y18 y19 y20 y21 y22 y23 y24 y26 y27 y28 y29 y30 y31 y32 : Value} (hF : FSh A2 rb ro c1 c2 cb k room us r v0 v) (hN : NS room us k t r n q) (next : KV Tryz.prog H Tgt (G (uzF.at (uzA A2 rb ro c1 c2 cb k us n y4 y18 y19 y20 y21 y22 y23 y24 (.pointer (some ⟨cb, 0, none⟩)) (.slice (some ⟨rb, ro, none⟩) 3 c1) y27 y28 y29 y30 y31 y32) (.inRegion uzOps (rest) :: kk)) cs) v) :
    KV Tryz.prog H Tgt (G (uzF.at (uzA A2 rb ro c1 c2 cb k us n y4 y18 y19 y20 y21 y22 y23 y24 (.pointer (some ⟨cb, 0, none⟩)) y26 y27 y28 y29 y30 y31 y32) (.inRegion uzOps (8 :: rest) :: kk)) cs) v := by
  simp only [uzA, uzOps, uzBody, Tryz.f6, Option.getD_some] at next ⊢
  refine KV.op anaA_good rfl (by rfl) fewUe (by kernel_rfl) (fun t => anaA.noTr_spec (by kernel_rfl) t) (fun v₁ hs K' hK' => ?_)
  have hbx := ViewOf_cells_of hF.box hs.heap
  have x0 := hbx.cell 0
  have x1 := hbx.cell 1
  simp only [gT, gZ, gS] at x0 x1
  clear hbx
  go_simp
  refine hK' _ _ ?_
  try walk_nrm
  exact KV.heap next ⟨hs.heap.symm, hs.os.symm, hs.output.symm⟩
set_option maxRecDepth 100000 in
theorem uz_9 {y4 y18 y19 y20 y21 y22 y23 y24 y25 y26 y27 y28 y29 y30 y31 y32 : Value} (hF : FSh A2 rb ro c1 c2 cb k room us r v0 v) (hN : NS room us k t r n q) (next : KV Tryz.prog H Tgt (G (uzF.at (uzA A2 rb ro c1 c2 cb k us n y4 y18 y19 y20 y21 y22 y23 y24 y25 y26 (.int .i64 (k : Int)) y28 y29 y30 y31 y32) (.inRegion uzOps (rest) :: kk)) cs) v) :
    KV Tryz.prog H Tgt (G (uzF.at (uzA A2 rb ro c1 c2 cb k us n y4 y18 y19 y20 y21 y22 y23 y24 y25 y26 y27 y28 y29 y30 y31 y32) (.inRegion uzOps (9 :: rest) :: kk)) cs) v := by
  simp only [uzA, uzOps, uzBody, Tryz.f6, Option.getD_some] at next ⊢
  refine KV.op anaA_good rfl (by rfl) fewUe (by kernel_rfl) (fun t => anaA.noTr_spec (by kernel_rfl) t) (fun v₁ hs K' hK' => ?_)
  go_simp
  refine hK' _ _ ?_
  try walk_nrm
  exact KV.heap next ⟨hs.heap.symm, hs.os.symm, hs.output.symm⟩
set_option maxRecDepth 100000 in
theorem uz_10 {y4 y18 y19 y20 y21 y22 y23 y24 y25 y28 y29 y30 y31 y32 : Value} (hF : FSh A2 rb ro c1 c2 cb k room us r v0 v) (hN : NS room us k t r n q) (next : KV Tryz.prog H Tgt (G (uzF.at (uzA A2 rb ro c1 c2 cb k us n y4 y18 y19 y20 y21 y22 y23 y24 y25 (.slice (some ⟨rb, ro, none⟩) 3 c1) (.int .i64 (k : Int)) (.pointer (some ⟨rb, ro + k, none⟩)) y29 y30 y31 y32) (.inRegion uzOps (rest) :: kk)) cs) v) :
    KV Tryz.prog H Tgt (G (uzF.at (uzA A2 rb ro c1 c2 cb k us n y4 y18 y19 y20 y21 y22 y23 y24 y25 (.slice (some ⟨rb, ro, none⟩) 3 c1) (.int .i64 (k : Int)) y28 y29 y30 y31 y32) (.inRegion uzOps (10 :: rest) :: kk)) cs) v := by
  simp only [uzA, uzOps, uzBody, Tryz.f6, Option.getD_some] at next ⊢
  refine KV.op anaA_good rfl (by rfl) fewUe (by kernel_rfl) (fun t => anaA.noTr_spec (by kernel_rfl) t) (fun v₁ hs K' hK' => ?_)
  have k1 : (0 : Int) ≤ (k : Int) := by omega
  have k2 : (k : Int) < 3 := by have := hN.hk; omega
  go_simp
  refine hK' _ _ ?_
  try walk_nrm
  exact KV.heap next ⟨hs.heap.symm, hs.os.symm, hs.output.symm⟩
set_option maxRecDepth 100000 in
theorem uz_11 {y4 y18 y19 y20 y21 y22 y23 y24 y25 y26 y27 y29 y30 y31 y32 : Value} (hF : FSh A2 rb ro c1 c2 cb k room us r v0 v) (hN : NS room us k t r n q) (next : KV Tryz.prog H Tgt (G (uzF.at (uzA A2 rb ro c1 c2 cb k us n y4 y18 y19 y20 y21 y22 y23 y24 y25 y26 y27 (.pointer (some ⟨rb, ro + k, none⟩)) (.int .i64 r) y30 y31 y32) (.inRegion uzOps (rest) :: kk)) cs) v) :
    KV Tryz.prog H Tgt (G (uzF.at (uzA A2 rb ro c1 c2 cb k us n y4 y18 y19 y20 y21 y22 y23 y24 y25 y26 y27 (.pointer (some ⟨rb, ro + k, none⟩)) y29 y30 y31 y32) (.inRegion uzOps (11 :: rest) :: kk)) cs) v := by
  simp only [uzA, uzOps, uzBody, Tryz.f6, Option.getD_some] at next ⊢
  refine KV.op anaA_good rfl (by rfl) fewUe (by kernel_rfl) (fun t => anaA.noTr_spec (by kernel_rfl) t) (fun v₁ hs K' hK' => ?_)
  have x0 := hs.cell hF.rc.2
  go_simp
  refine hK' _ _ ?_
  try walk_nrm
  exact KV.heap next ⟨hs.heap.symm, hs.os.symm, hs.output.symm⟩
set_option maxRecDepth 100000 in
theorem uz_12 {y4 y18 y19 y20 y21 y22 y23 y24 y25 y26 y27 y28 y29 y30 y31 y32 : Value} (hF : FSh A2 rb ro c1 c2 cb k room us r v0 v) (hN : NS room us k t r n q) (next : KV Tryz.prog H Tgt (G (uzF.at (uzA A2 rb ro c1 c2 cb k us n y4 y18 y19 y20 y21 y22 y23 y24 y25 y26 y27 y28 y29 (.int .i64 n) y31 y32) (.inRegion uzOps (rest) :: kk)) cs) v) :
    KV Tryz.prog H Tgt (G (uzF.at (uzA A2 rb ro c1 c2 cb k us n y4 y18 y19 y20 y21 y22 y23 y24 y25 y26 y27 y28 y29 y30 y31 y32) (.inRegion uzOps (12 :: rest) :: kk)) cs) v := by
  simp only [uzA, uzOps, uzBody, Tryz.f6, Option.getD_some] at next ⊢
  refine KV.op anaA_good rfl (by rfl) fewUe (by kernel_rfl) (fun t => anaA.noTr_spec (by kernel_rfl) t) (fun v₁ hs K' hK' => ?_)
  go_simp
  refine hK' _ _ ?_
  try walk_nrm
  exact KV.heap next ⟨hs.heap.symm, hs.os.symm, hs.output.symm⟩
set_option maxRecDepth 100000 in
theorem uz_13 {y4 y18 y19 y20 y21 y22 y23 y24 y25 y26 y27 y28 y31 y32 : Value} (hF : FSh A2 rb ro c1 c2 cb k room us r v0 v) (hN : NS room us k t r n q) (next : KV Tryz.prog H Tgt (G (uzF.at (uzA A2 rb ro c1 c2 cb k us n y4 y18 y19 y20 y21 y22 y23 y24 y25 y26 y27 y28 (.int .i64 r) (.int .i64 n) (.int .i64 (r * n)) y32) (.inRegion uzOps (rest) :: kk)) cs) v) :
    KV Tryz.prog H Tgt (G (uzF.at (uzA A2 rb ro c1 c2 cb k us n y4 y18 y19 y20 y21 y22 y23 y24 y25 y26 y27 y28 (.int .i64 r) (.int .i64 n) y31 y32) (.inRegion uzOps (13 :: rest) :: kk)) cs) v := by
  simp only [uzA, uzOps, uzBody, Tryz.f6, Option.getD_some] at next ⊢
  refine KV.op anaA_good rfl (by rfl) fewUe (by kernel_rfl) (fun t => anaA.noTr_spec (by kernel_rfl) t) (fun v₁ hs K' hK' => ?_)
  have w13 := hN.w13
  go_simp
  refine hK' _ _ ?_
  try walk_nrm
  exact KV.heap next ⟨hs.heap.symm, hs.os.symm, hs.output.symm⟩
set_option maxRecDepth 100000 in
theorem uz_14 {y4 y18 y19 y20 y21 y22 y23 y25 y26 y27 y28 y29 y30 y32 : Value} (hF : FSh A2 rb ro c1 c2 cb k room us r v0 v) (hN : NS room us k t r n q) (next : KV Tryz.prog H Tgt (G (uzF.at (uzA A2 rb ro c1 c2 cb k us n y4 y18 y19 y20 y21 y22 y23 (.int .i64 (100 * t)) y25 y26 y27 y28 y29 y30 (.int .i64 (r * n)) (.int .i64 q)) (.inRegion uzOps (rest) :: kk)) cs) v) :
    KV Tryz.prog H Tgt (G (uzF.at (uzA A2 rb ro c1 c2 cb k us n y4 y18 y19 y20 y21 y22 y23 (.int .i64 (100 * t)) y25 y26 y27 y28 y29 y30 (.int .i64 (r * n)) y32) (.inRegion uzOps (14 :: rest) :: kk)) cs) v := by
  simp only [uzA, uzOps, uzBody, Tryz.f6, Option.getD_some] at next ⊢
  refine KV.op anaA_good rfl (by rfl) fewUe (by kernel_rfl) (fun t => anaA.noTr_spec (by kernel_rfl) t) (fun v₁ hs K' hK' => ?_)
  have ne := hN.ne
  have ne2 : (r * n == 0) = false := by simpa using hN.ne
  have hq := hN.hq
  go_simp
  refine hK' _ _ ?_
  try walk_nrm
  exact KV.heap next ⟨hs.heap.symm, hs.os.symm, hs.output.symm⟩
set_option maxRecDepth 100000 in
theorem uz_15 {y4 y18 y19 y20 y21 y22 y23 y24 y25 y26 y27 y28 y29 y30 y31 : Value} (hF : FSh A2 rb ro c1 c2 cb k room us r v0 v) (hN : NS room us k t r n q) (next : KV Tryz.prog H Tgt (G (uzF.at (uzA A2 rb ro c1 c2 cb k us n (.int .i64 q) y18 y19 y20 y21 y22 y23 y24 y25 y26 y27 y28 y29 y30 y31 (.int .i64 q)) (.inRegion uzOps (rest) :: kk)) cs) v) :
    KV Tryz.prog H Tgt (G (uzF.at (uzA A2 rb ro c1 c2 cb k us n y4 y18 y19 y20 y21 y22 y23 y24 y25 y26 y27 y28 y29 y30 y31 (.int .i64 q)) (.inRegion uzOps (15 :: rest) :: kk)) cs) v := by
  simp only [uzA, uzOps, uzBody, Tryz.f6, Option.getD_some] at next ⊢
  refine KV.op anaA_good rfl (by rfl) fewUe (by kernel_rfl) (fun t => anaA.noTr_spec (by kernel_rfl) t) (fun v₁ hs K' hK' => ?_)
  go_simp
  refine hK' _ _ ?_
  try walk_nrm
  exact KV.heap next ⟨hs.heap.symm, hs.os.symm, hs.output.symm⟩
end
def ueNeed (i : Nat) : List Nat := (#[[], [0], [0, 1], [], [0, 1, 2, 3], [0, 1, 2, 3, 4], [0, 1, 2, 3, 4, 5], [], [7], [], [7, 8, 9], [7, 8, 9, 10], [], [7, 8, 9, 10, 11, 12], [0, 1, 2, 3, 4, 5, 6, 7, 8, 9, 10, 11, 12, 13], [0, 1, 2, 3, 4, 5, 6, 7, 8, 9, 10, 11, 12, 13, 14]] : Array (List Nat))[i]?.getD []
def ueLay : List (List Nat) := [[1, 8, 128, 512, 4096], [3, 9, 129, 136, 384, 513, 520, 640, 4097, 4104, 4224, 4608], [7, 11, 131, 137, 385, 392, 515, 521, 641, 648, 896, 4099, 4105, 4225, 4232, 4480, 4609, 4616, 4736], [15, 135, 139, 387, 393, 519, 523, 643, 649, 897, 904, 1920, 4103, 4107, 4227, 4233, 4481, 4488, 4611, 4617, 4737, 4744, 4992], [31, 143, 391, 395, 527, 647, 651, 899, 905, 1921, 1928, 3968, 4111, 4231, 4235, 4483, 4489, 4615, 4619, 4739, 4745, 4993, 5000, 6016], [63, 159, 399, 543, 655, 903, 907, 1923, 1929, 3969, 3976, 4127, 4239, 4487, 4491, 4623, 4743, 4747, 4995, 5001, 6017, 6024, 8064], [127, 191, 415, 575, 671, 911, 1927, 1931, 3971, 3977, 4159, 4255, 4495, 4639, 4751, 4999, 5003, 6019, 6025, 8065, 8072, 16256], [255, 447, 639, 703, 927, 1935, 3975, 3979, 4223, 4287, 4511, 4671, 4767, 5007, 6023, 6027, 8067, 8073, 16257, 16264], [511, 767, 959, 1951, 3983, 4351, 4543, 4735, 4799, 5023, 6031, 8071, 8075, 16259, 16265], [1023, 1983, 3999, 4607, 4863, 5055, 6047, 8079, 16263, 16267], [2047, 4031, 5119, 6079, 8095, 16271], [4095, 6143, 8127, 16287], [8191, 16319], [16383], [32767], [65535]]
set_option maxRecDepth 100000 in
theorem ueLay_ok : layOk uzOps 16 ueNeed ([0] :: ueLay) = true := by kernel_rfl
section
variable {H : Nat → Prop} {Tgt : Goroutine → World → Prop} {v0 : World} {A2 : Option Addr} {rb ro c1 c2 cb k : Nat} {room : List Int} {us : List Un} {t r n q : Int} {kk : List Item} {cs : List Frame}
def UeEnd (H : Nat → Prop) (Tgt : Goroutine → World → Prop) (v0 : World) (A2 : Option Addr) (rb ro c1 c2 cb k : Nat) (room : List Int) (us : List Un) (r q : Int) (kk : List Item) (cs : List Frame) : Prop :=
  ∀ (y : Act) v, FSh A2 rb ro c1 c2 cb k room us r v0 v → y.defers = [] → y.tmps.size = 33 → y.tmps[4]? = some (.int .i64 q) → KV Tryz.prog H Tgt (G (uzF.at y (.inRegion uzOps [] :: kk)) cs) v
def UeRun (H : Nat → Prop) (Tgt : Goroutine → World → Prop) (v0 : World) (A2 : Option Addr) (rb ro c1 c2 cb k : Nat) (room : List Int) (us : List Un) (t r n q : Int) (kk : List Item) (cs : List Frame) (s : Nat → Bool) (l : List Nat) : Prop :=
  ∀ (C tb to tc : Nat) (v : World), FSh A2 rb ro c1 c2 cb k room us r v0 v → (s 1 = true → s 2 = false → RdLd v C us) → (s 2 = true → tb < v.heap.size ∧ v.cell? ⟨tb, to + k, none⟩ = some (.int .i64 t)) → KV Tryz.prog H Tgt (G (uzF.at (uzA A2 rb ro c1 c2 cb k us n (bif s 15 then (.int .i64 q) else .int .i64 0) (bif s 0 then (.agg #[.slice (some ⟨rb, ro, none⟩) 3 c1, .slice A2 us.length c2]) else undef) (bif s 1 then (.slice (some ⟨C, 0, none⟩) us.length us.length) else undef) (bif s 2 then (.slice (some ⟨tb, to, none⟩) 3 tc) else undef) (bif s 3 then (.int .i64 (k : Int)) else undef) (bif s 4 then (.pointer (some ⟨tb, to + k, none⟩)) else undef) (bif s 5 then (.int .i64 t) else undef) (bif s 6 then (.int .i64 (100 * t)) else undef) (bif s 7 then (.pointer (some ⟨cb, 0, none⟩)) else undef) (bif s 8 then (.slice (some ⟨rb, ro, none⟩) 3 c1) else undef) (bif s 9 then (.int .i64 (k : Int)) else undef) (bif s 10 then (.pointer (some ⟨rb, ro + k, none⟩)) else undef) (bif s 11 then (.int .i64 r) else undef) (bif s 12 then (.int .i64 n) else undef) (bif s 13 then (.int .i64 (r * n)) else undef) (bif s 14 then (.int .i64 q) else undef)) (.inRegion uzOps l :: kk)) cs) v
set_option maxRecDepth 100000 in
theorem us_start (z : Nat) {v : World} (hF : FSh A2 rb ro c1 c2 cb k room us r v0 v) (hN : NS room us k t r n q) (hend : UeEnd H Tgt v0 A2 rb ro c1 c2 cb k room us r q kk cs) :
    KV Tryz.prog H Tgt (G (uzF.at (uzA A2 rb ro c1 c2 cb k us n (.int .i64 0) undef undef undef undef undef undef undef undef undef undef undef undef undef undef undef) (.inRegion uzOps (Region.linearise.go .any uzOps 16 z #[false, false, false, false, false, false, false, false, false, false, false, false, false, false, false, false] []) :: kk)) cs) v := by
  refine region_any (Run := UeRun H Tgt v0 A2 rb ro c1 c2 cb k room us t r n q kk cs) (fun s hs C tb to tc v hF h1 h2 => ?_) (fun s i l hi hf hd hcl nx => ?_) (by decide) ueLay [0] ueLay_ok (fun _ => false) 0 z (by simp) (fun j _ => by simp) 0 0 0 0 v hF (fun h => by cases h) (fun h => by cases h)
  · refine hend _ v hF rfl rfl ?_
    show some (bif s 15 then Value.int .i64 q else .int .i64 0) = _
    rw [hs 15 (by omega)]
    rfl
  · intro C tb to tc v hF h1 h2
    match i, hi with
    | 0, _ =>
      simp only [hf, cond_true, cond_false]
      refine uz_0 hF hN ?_
      have nx2 := nx C tb to tc v hF h1 h2
      simp only [setB, Nat.reduceBEq, cond_true, cond_false] at nx2
      exact nx2
    | 1, _ =>
      have e0 : s 0 = true := hd 0 (by decide)
      simp only [hf, e0, cond_true, cond_false]
      refine uz_1 hF hN fun C' v' hg hF' h1' => ?_
      have nx2 := nx C' tb to tc v' hF' (fun _ _ => h1') (fun h => ⟨Nat.lt_of_lt_of_le (h2 h).1 hg.size, (World.cell?_of_block (hg.rows _ (h2 h).1)).trans (h2 h).2⟩)
      simp only [setB, Nat.reduceBEq, cond_true, cond_false, e0] at nx2
      exact nx2
    | 2, _ =>
      have e0 : s 0 = true := hd 0 (by decide)
      have e1 : s 1 = true := hd 1 (by decide)
      have f4 : s 4 = false := by
        cases h : s 4 with
        | false => rfl
        | true => rw [hcl 4 (by omega) h 2 (by decide)] at hf; cases hf
      simp only [hf, e0, e1, f4, cond_true, cond_false]
      refine uz_2 hF hN (h1 e1 hf) fun tb' to' tc' v' hF' h2' => ?_
      have nx2 := nx C tb' to' tc' v' hF' (fun _ h => by simp [setB] at h) (fun _ => h2')
      simp only [setB, Nat.reduceBEq, cond_true, cond_false, e0, e1, f4] at nx2
      exact nx2
    | 3, _ =>
      simp only [hf, cond_true, cond_false]
      refine uz_3 hF hN ?_
      have nx2 := nx C tb to tc v hF h1 h2
      simp only [setB, Nat.reduceBEq, cond_true, cond_false] at nx2
      exact nx2
    | 4, _ =>
      have e0 : s 0 = true := hd 0 (by decide)
      have e1 : s 1 = true := hd 1 (by decide)
      have e2 : s 2 = true := hd 2 (by decide)
      have e3 : s 3 = true := hd 3 (by decide)
      simp only [hf, e0, e1, e2, e3, cond_true, cond_false]
      refine uz_4 hF hN ?_
      have nx2 := nx C tb to tc v hF h1 h2
      simp only [setB, Nat.reduceBEq, cond_true, cond_false, e0, e1, e2, e3] at nx2
      exact nx2
    | 5, _ =>
      have e0 : s 0 = true := hd 0 (by decide)
      have e1 : s 1 = true := hd 1 (by decide)
      have e2 : s 2 = true := hd 2 (by decide)
      have e3 : s 3 = true := hd 3 (by decide)
      have e4 : s 4 = true := hd 4 (by decide)
      simp only [hf, e0, e1, e2, e3, e4, cond_true, cond_false]
      refine uz_5 hF hN (h2 e2) ?_
      have nx2 := nx C tb to tc v hF h1 h2
      simp only [setB, Nat.reduceBEq, cond_true, cond_false, e0, e1, e2, e3, e4] at nx2
      exact nx2
    | 6, _ =>
      have e0 : s 0 = true := hd 0 (by decide)
      have e1 : s 1 = true := hd 1 (by decide)
      have e2 : s 2 = true := hd 2 (by decide)
      have e3 : s 3 = true := hd 3 (by decide)
      have e4 : s 4 = true := hd 4 (by decide)
      have e5 : s 5 = true := hd 5 (by decide)
      simp only [hf, e0, e1, e2, e3, e4, e5, cond_true, cond_false]
      refine uz_6 hF hN ?_
      have nx2 := nx C tb to tc v hF h1 h2
      simp only [setB, Nat.reduceBEq, cond_true, cond_false, e0, e1, e2, e3, e4, e5] at nx2
      exact nx2
    | 7, _ =>
      simp only [hf, cond_true, cond_false]
      refine uz_7 hF hN ?_
      have nx2 := nx C tb to tc v hF h1 h2
      simp only [setB, Nat.reduceBEq, cond_true, cond_false] at nx2
      exact nx2
    | 8, _ =>
      have e7 : s 7 = true := hd 7 (by decide)
      simp only [hf, e7, cond_true, cond_false]
      refine uz_8 hF hN ?_
      have nx2 := nx C tb to tc v hF h1 h2
      simp only [setB, Nat.reduceBEq, cond_true, cond_false, e7] at nx2
      exact nx2
    | 9, _ =>
      simp only [hf, cond_true, cond_false]
      refine uz_9 hF hN ?_
      have nx2 := nx C tb to tc v hF h1 h2
      simp only [setB, Nat.reduceBEq, cond_true, cond_false] at nx2
      exact nx2
    | 10, _ =>
      have e7 : s 7 = true := hd 7 (by decide)
      have e8 : s 8 = true := hd 8 (by decide)
      have e9 : s 9 = true := hd 9 (by decide)
      simp only [hf, e7, e8, e9, cond_true, cond_false]
      refine uz_10 hF hN ?_
      have nx2 := nx C tb to tc v hF h1 h2
      simp only [setB, Nat.reduceBEq, cond_true, cond_false, e7, e8, e9] at nx2
      exact nx2
    | 11, _ =>
      have e7 : s 7 = true := hd 7 (by decide)
      have e8 : s 8 = true := hd 8 (by decide)
      have e9 : s 9 = true := hd 9 (by decide)
      have e10 : s 10 = true := hd 10 (by decide)
      simp only [hf, e7, e8, e9, e10, cond_true, cond_false]
      refine uz_11 hF hN ?_
      have nx2 := nx C tb to tc v hF h1 h2
      simp only [setB, Nat.reduceBEq, cond_true, cond_false, e7, e8, e9, e10] at nx2
      exact nx2
    | 12, _ =>
      simp only [hf, cond_true, cond_false]
      refine uz_12 hF hN ?_
      have nx2 := nx C tb to tc v hF h1 h2
      simp only [setB, Nat.reduceBEq, cond_true, cond_false] at nx2
      exact nx2
    | 13, _ =>
      have e7 : s 7 = true := hd 7 (by decide)
      have e8 : s 8 = true := hd 8 (by decide)
      have e9 : s 9 = true := hd 9 (by decide)
      have e10 : s 10 = true := hd 10 (by decide)
      have e11 : s 11 = true := hd 11 (by decide)
      have e12 : s 12 = true := hd 12 (by decide)
      simp only [hf, e7, e8, e9, e10, e11, e12, cond_true, cond_false]
      refine uz_13 hF hN ?_
      have nx2 := nx C tb to tc v hF h1 h2
      simp only [setB, Nat.reduceBEq, cond_true, cond_false, e7, e8, e9, e10, e11, e12] at nx2
      exact nx2
    | 14, _ =>
      have e0 : s 0 = true := hd 0 (by decide)
      have e1 : s 1 = true := hd 1 (by decide)
      have e2 : s 2 = true := hd 2 (by decide)
      have e3 : s 3 = true := hd 3 (by decide)
      have e4 : s 4 = true := hd 4 (by decide)
      have e5 : s 5 = true := hd 5 (by decide)
      have e6 : s 6 = true := hd 6 (by decide)
      have e7 : s 7 = true := hd 7 (by decide)
      have e8 : s 8 = true := hd 8 (by decide)
      have e9 : s 9 = true := hd 9 (by decide)
      have e10 : s 10 = true := hd 10 (by decide)
      have e11 : s 11 = true := hd 11 (by decide)
      have e12 : s 12 = true := hd 12 (by decide)
      have e13 : s 13 = true := hd 13 (by decide)
      simp only [hf, e0, e1, e2, e3, e4, e5, e6, e7, e8, e9, e10, e11, e12, e13, cond_true, cond_false]
      refine uz_14 hF hN ?_
      have nx2 := nx C tb to tc v hF h1 h2
      simp only [setB, Nat.reduceBEq, cond_true, cond_false, e0, e1, e2, e3, e4, e5, e6, e7, e8, e9, e10, e11, e12, e13] at nx2
      exact nx2
    | 15, _ =>
      have e0 : s 0 = true := hd 0 (by decide)
      have e1 : s 1 = true := hd 1 (by decide)
      have e2 : s 2 = true := hd 2 (by decide)
      have e3 : s 3 = true := hd 3 (by decide)
      have e4 : s 4 = true := hd 4 (by decide)
      have e5 : s 5 = true := hd 5 (by decide)
      have e6 : s 6 = true := hd 6 (by decide)
      have e7 : s 7 = true := hd 7 (by decide)
      have e8 : s 8 = true := hd 8 (by decide)
      have e9 : s 9 = true := hd 9 (by decide)
      have e10 : s 10 = true := hd 10 (by decide)
      have e11 : s 11 = true := hd 11 (by decide)
      have e12 : s 12 = true := hd 12 (by decide)
      have e13 : s 13 = true := hd 13 (by decide)
      have e14 : s 14 = true := hd 14 (by decide)
      simp only [hf, e0, e1, e2, e3, e4, e5, e6, e7, e8, e9, e10, e11, e12, e13, e14, cond_true, cond_false]
      refine uz_15 hF hN ?_
      have nx2 := nx C tb to tc v hF h1 h2
      simp only [setB, Nat.reduceBEq, cond_true, cond_false, e0, e1, e2, e3, e4, e5, e6, e7, e8, e9, e10, e11, e12, e13, e14] at nx2
      exact nx2
    | i + 16, hi => exact absurd hi (by omega)
end

section
variable {H : Nat → Prop} {v : World} {A1 A2 : Option Addr} {n1 c1 n2 c2 : Nat} {room : List Int} {us : List Un}
theorem share_num (hs : ShU us) (hok : clOk room us = true) {k : Nat} (hk : k < 3) (ho : openN us ≠ 0) :
    NS room us k ((togTo us us.length)[k]?.getD 0) (room[k]?.getD 0) ((openN us : Nat) : Int) (shareP room us k) := by
  obtain ⟨h3, h1, h10, _⟩ := clOk_facts hok
  have t0 := togTo_bd hok k us.length
  have hr := (uok_of hok).2.2.1 k
  have hr1 := room_pos hok hk
  have hn : openN us ≤ us.length := List.length_filter_le _ _
  have hp1 : 0 < room[k]?.getD 0 * ((openN us : Nat) : Int) := Int.mul_pos (by omega) (by omega)
  have hp2 : room[k]?.getD 0 * ((openN us : Nat) : Int) ≤ 20 * 10 := Int.mul_le_mul hr.2 (by omega) (by omega) (by omega)
  refine ⟨hs, hok, hk, rfl, rfl, wr64 (by omega) (by omega), wr64 (by omega) (by omega), by omega, ?_⟩
  unfold shareP
  rw [if_pos ⟨hok, inR_iff.2 ⟨by omega, by omega⟩⟩, if_neg ho, Int.toNat_natCast]
  exact IntWalk.i64_quo _ _ ⟨by omega, by omega, by omega⟩
set_option maxRecDepth 100000 in
set_option maxHeartbeats 2000000 in
theorem uz_r6 {cs : List Frame} (A2 : Option Addr) (rb ro c1 c2 cb k i : Nat) (room : List Int) (us : List Un) (t r n q : Int) (w : World) (hF : FSh A2 rb ro c1 c2 cb k room us r w w) (hN : NS room us k t r n q) :
    KV Tryz.prog H (RetV Tryz.prog 6 cs (fun x v' => x = .int .i64 q ∧ GR w v')) (G (uzF.at (uzA A2 rb ro c1 c2 cb k us n (.int .i64 0) undef undef undef undef undef undef undef undef undef undef undef undef undef undef undef) [.code (.seq (.region i uzOps true) .ret)]) cs) w := by
  refine KV.ctl rfl (fun w => stepG_seq) ?_
  refine KV.draw (qu := .order uzF.fn i) (g' := fun t => G (uzF.at _ (.inRegion uzOps (Region.schedule (Tryz.prog.follows .mixedOrders) uzOps t) :: [.code .ret])) cs) rfl (fun w => stepG_region_draw) fun t => ?_
  have hm : (Tryz.prog.follows .mixedOrders) = true := by kernel_rfl
  simp only [Region.schedule, hm, Bool.true_or, if_true]
  clear hm
  have e : Region.linearise .any uzOps t = Region.linearise.go .any uzOps 16 t #[false, false, false, false, false, false, false, false, false, false, false, false, false, false, false, false] [] := rfl
  rw [e]
  clear e
  refine us_start t hF hN (fun y v hF hd hsz h2 => ?_)
  refine KV.ctl rfl (fun w => stepG_region_end) ?_
  obtain ⟨T, ds⟩ := y
  dsimp only at hd hsz h2
  subst hd
  refine KV.endC anaA_good (Rt := fun v₁ a v' => a.defers = [] ∧ a.tmps.getD 4 undef = .int .i64 q ∧ v' = v₁) (by kernel_rfl) (by kernel_rfl) rfl (by kernel_rfl) (fun v₁ hs => ?_) (fun v₁ a' v' todo hs hq => ?_)
  · have h3' : T[4]'(by omega) = .int .i64 q := by
      rw [Array.getElem?_eq_getElem (by omega)] at h2
      exact Option.some.inj h2
    clear h2 hs
    go_wp2
  · obtain ⟨h1, h2, rfl⟩ := hq
    exact ⟨_, a', todo, _, Tryz.func6, h1, rfl, resultsC_tmp rfl a'.tmps, h2, hF.gr.same hs⟩
set_option maxRecDepth 100000 in
set_option maxHeartbeats 1000000 in
theorem usageShareA_v (dim : Int) (h : RdC v A1 A2 n1 n2 room us) (hs : ShU us) : CallsV Tryz.prog H 6 #[.agg #[.slice A1 n1 c1, .slice A2 n2 c2], .int .i64 dim] v (fun x v' => x = .int .i64 (shareP room us dim) ∧ GR v v') := by
  obtain rfl : us.length = n2 := h.b.len
  refine ⟨_, uzBody, Tryz.func6, by kernel_rfl, by rfl, fun cs => ?_⟩
  have e : (#[Value.agg #[.slice A1 n1 c1, .slice A2 us.length c2], .int .i64 dim] ++ Array.replicate (Tryz.f6.ntmps - (#[Value.agg #[.slice A1 n1 c1, .slice A2 us.length c2], .int .i64 dim] : Array Value).size) undef) = #[(.agg #[.slice A1 n1 c1, .slice A2 us.length c2]), .int .i64 dim, undef, undef, undef, undef, undef, undef, undef, undef, undef, undef, undef, undef, undef, undef, undef, undef, undef, undef, undef, undef, undef, undef, undef, undef, undef, undef, undef, undef, undef, undef, undef] := by kernel_rfl
  have hsu := hs
  obtain ⟨ri, he⟩ := uzBody_eq
  rw [e, he]
  clear e he
  refine KV.seqC anaA_good (Nm := fun v₁ a v' => a = ⟨#[(.agg #[.slice A1 n1 c1, .slice A2 us.length c2]), .int .i64 dim, .pointer (some ⟨v₁.heap.size, 0, none⟩), undef, .int .i64 0, undef, undef, undef, undef, undef, undef, undef, undef, undef, undef, undef, undef, undef, undef, undef, undef, undef, undef, undef, undef, undef, undef, undef, undef, undef, undef, undef, undef], []⟩ ∧ v' = v₁.alloc (.cells #[.slice A1 n1 c1, .slice A2 us.length c2] 26)) (Rt := fun _ _ _ => False) (by kernel_rfl) (by kernel_rfl) rfl (by kernel_rfl) (fun v₁ hs => ?_) (fun v₁ a' v' hs hq => ?_) (fun _ _ _ _ _ h => h.elim)
  · simp only [uzC0, uzBody, Tryz.f6, Option.getD_some]
    go_wp2
  obtain ⟨rfl, rfl⟩ := hq
  rw [hs.heap]
  refine KV.heap (v := v.alloc (.cells #[.slice A1 n1 c1, .slice A2 us.length c2] 26)) ?_ (hs.alloc _).sym
  clear hs v₁
  have hg1 : GR v (v.alloc (.cells #[.slice A1 n1 c1, .slice A2 us.length c2] 26)) := below_gr (alloc_up v _)
  have hbox : Blk (v.alloc (.cells #[.slice A1 n1 c1, .slice A2 us.length c2] 26)) v.heap.size 26 #[.slice A1 n1 c1, .slice A2 us.length c2] := Blk.new v _ _
  have hr1 := h.gr hg1
  generalize v.alloc (.cells #[.slice A1 n1 c1, .slice A2 us.length c2] 26) = w1 at hg1 hbox hr1 ⊢
  generalize v.heap.size = cb at hbox ⊢
  refine KV.seqC anaA_good (Nm := fun v₁ a v' => (clOk room us = true ∧ inR 0 2 dim = true) ∧ a = ⟨#[(.agg #[.slice A1 n1 c1, .slice A2 us.length c2]), .int .i64 dim, .pointer (some ⟨cb, 0, none⟩), undef, .int .i64 0, undef, (.agg #[.slice A1 n1 c1, .slice A2 us.length c2]), .bool true, .bool false, .bool false, .int .i64 dim, .bool true, .bool false, .bool false, undef, undef, undef, undef, undef, undef, undef, undef, undef, undef, undef, undef, undef, undef, undef, undef, undef, undef, undef], []⟩ ∧ GR v₁ v') (Rt := fun v₁ a v' => ¬ (clOk room us = true ∧ inR 0 2 dim = true) ∧ a.defers = [] ∧ a.tmps.getD 4 undef = .int .i64 (-1) ∧ GR v₁ v') (by kernel_rfl) (by kernel_rfl) rfl (by kernel_rfl) (fun v₁ hs => ?_) (fun v₁ a' v' hs hq => ?_) (fun v₁ a' v' todo hs hq => ?_)
  · exact uz_c1 A1 A2 n1 c1 us.length c2 cb dim room us v₁ (hr1.same hs.heap) hsu (ViewOf_cells_of hbox hs.heap)
  · obtain ⟨⟨hok, hin⟩, rfl, hg⟩ := hq
    have hg2 := hg1.trans (GR.from hs hg)
    replace hbox := hbox.grr (GR.from hs hg)
    replace hr1 := hr1.gr (GR.from hs hg)
    clear hg hs hg1
    generalize v' = w2 at hg2 hbox hr1 ⊢
    refine KV.seqC anaA_good (Nm := fun v₁ a v' => a = ⟨#[(.agg #[.slice A1 n1 c1, .slice A2 us.length c2]), .int .i64 dim, .pointer (some ⟨cb, 0, none⟩), undef, .int .i64 0, .int .i64 (openN us : Nat), (.agg #[.slice A1 n1 c1, .slice A2 us.length c2]), .bool true, .bool false, .bool false, .int .i64 dim, .bool true, .bool false, .bool false, (.agg #[.slice A1 n1 c1, .slice A2 us.length c2]), .int .i64 (openN us : Nat), undef, undef, undef, undef, undef, undef, undef, undef, undef, undef, undef, undef, undef, undef, undef, undef, undef], []⟩ ∧ GR v₁ v') (Rt := fun _ _ _ => False) (by kernel_rfl) (by kernel_rfl) rfl (by kernel_rfl) (fun v₁ hs => ?_) (fun v₁ a' v' hs hq => ?_) (fun _ _ _ _ _ h => h.elim)
    · exact uz_c3 A1 A2 n1 c1 us.length c2 cb dim room us v₁ (hr1.same hs.heap) hsu (ViewOf_cells_of hbox hs.heap)
    obtain ⟨rfl, hg⟩ := hq
    replace hg2 := hg2.trans (GR.from hs hg)
    replace hbox := hbox.grr (GR.from hs hg)
    replace hr1 := hr1.gr (GR.from hs hg)
    clear hg hs
    generalize v' = w3 at hg2 hbox hr1 ⊢
    refine KV.seqC anaA_good (Nm := fun v₁ a v' => openN us ≠ 0 ∧ a = ⟨#[(.agg #[.slice A1 n1 c1, .slice A2 us.length c2]), .int .i64 dim, .pointer (some ⟨cb, 0, none⟩), undef, .int .i64 0, .int .i64 (openN us : Nat), (.agg #[.slice A1 n1 c1, .slice A2 us.length c2]), .bool true, .bool false, .bool false, .int .i64 dim, .bool true, .bool false, .bool false, (.agg #[.slice A1 n1 c1, .slice A2 us.length c2]), .int .i64 (openN us : Nat), .int .i64 (openN us : Nat), .bool false, undef, undef, undef, undef, undef, undef, undef, undef, undef, undef, undef, undef, undef, undef, undef], []⟩ ∧ v' = v₁) (Rt := fun v₁ a v' => openN us = 0 ∧ a.defers = [] ∧ a.tmps.getD 4 undef = .int .i64 0 ∧ v' = v₁) (by kernel_rfl) (by kernel_rfl) rfl (by kernel_rfl) (fun v₁ hs => ?_) (fun v₁ a' v' hs hq => ?_) (fun v₁ a' v' todo hs hq => ?_)
    · exact uz_c4 A1 A2 n1 c1 us.length c2 cb dim us v₁
    · obtain ⟨ho, rfl, rfl⟩ := hq
      refine KV.heap (v := w3) ?_ hs.sym
      clear hs
      obtain ⟨m0, m1⟩ := inR_iff.1 hin
      obtain ⟨k, rfl⟩ := Int.eq_ofNat_of_zero_le m0
      have hk : k < 3 := by omega
      obtain rfl : n1 = 3 := by have := (clOk_facts hok).1; have := hr1.a.len; omega
      obtain ⟨rb, ro, rfl, hrb, hcells⟩ := hr1.a.2.2 (by omega)
      have hc := hcells k hk
      refine (uz_r6 A2 rb ro c1 c2 cb k ri room us _ _ _ _ w3 ⟨hr1, hbox, ⟨hrb, by simpa using hc⟩, GR.refl _⟩ (share_num hsu hok hk ho)).mono fun g' u hret => hret.mono fun x u hx => ⟨hx.1, hg2.trans hx.2⟩
    · obtain ⟨ho, h1, h2, rfl⟩ := hq
      exact ⟨_, a', todo, _, Tryz.func6, h1, rfl, resultsC_tmp rfl a'.tmps, by rw [h2]; unfold shareP; rw [if_pos ⟨hok, hin⟩, if_pos ho], hg2.same hs⟩
  · obtain ⟨hn, h1, h2, hg⟩ := hq
    exact ⟨_, a', todo, _, Tryz.func6, h1, rfl, resultsC_tmp rfl a'.tmps, by rw [h2]; unfold shareP; rw [if_neg hn], hg1.trans (GR.from hs hg)⟩
end
end Go.Proofs.YtlcgbnmmbheleaaGreat
