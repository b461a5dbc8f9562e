/- Several texts in one. -/
import Derived.Test.YtlcgbnmmbheleaaGreatUsOpenP
namespace Go.Proofs.YtlcgbnmmbheleaaGreat
open Go Go.Conc Go.RowKit
set_option linter.unusedVariables false
set_option linter.unusedSimpArgs false

noncomputable def soC0 : Code := match soBody with | .seq a _ => a | _ => .skip
noncomputable def soC1 : Code := match soBody with | .seq _ (.seq a _) => a | _ => .skip
noncomputable def soC3 : Code := match soBody with | .seq _ (.seq _ (.seq a _)) => a | _ => .skip
noncomputable def soOps4 : Array Oper := match soBody with | .seq _ (.seq _ (.seq _ (.seq (.region _ ops _) _))) => ops | _ => #[]
noncomputable def soC5 : Code := match soBody with | .seq _ (.seq _ (.seq _ (.seq _ (.seq a _)))) => a | _ => .skip
noncomputable def soC6 : Code := match soBody with | .seq _ (.seq _ (.seq _ (.seq _ (.seq _ (.seq a _))))) => a | _ => .skip
noncomputable def soOps8 : Array Oper := match soBody with | .seq _ (.seq _ (.seq _ (.seq _ (.seq _ (.seq _ (.seq (.seq (.region _ ops _) _) _)))))) => ops | _ => #[]
noncomputable def soE : Code := match soBody with | .seq _ (.seq _ (.seq _ (.seq _ (.seq _ (.seq _ (.seq _ r)))))) => r | _ => .skip
theorem soBody_eq : ∃ i j, soBody = .seq soC0 (.seq soC1 (.seq soC3 (.seq (.region i soOps4 false) (.seq soC5 (.seq soC6 (.seq (.seq (.region j soOps8 false) (.block 0 (.loop soLoop))) soE)))))) := ⟨_, _, by rfl⟩
noncomputable def soOps9 : Array Oper := match soLoop with | .seq (.seq (.region _ ops _) _) _ => ops | _ => #[]
noncomputable def soOps10 : Array Oper := match soLoop with | .seq _ (.seq _ (.region _ ops _)) => ops | _ => #[]
noncomputable def soOps11 : Array Oper := match soLoop with | .seq _ (.seq (.block _ (.seq (.region _ ops _) _)) _) => ops | _ => #[]
noncomputable def soOps12 : Array Oper := match soLoop with | .seq _ (.seq (.block _ (.seq _ (.cond _ (.seq (.region _ ops _) _) _))) _) => ops | _ => #[]
theorem soLoop_eq : ∃ i j k m n, soLoop = .seq (.seq (.region i soOps9 false) (.cond (.tmp 38) .skip (.exit 0))) (.seq (.block 1 (.seq (.region j soOps11 false) (.cond (.tmp 47) (.seq (.region k soOps12 false) (.seq (.region m soOps true) .ret)) .skip))) (.region n soOps10 false)) := ⟨_, _, _, _, _, by rfl⟩
def soL (A A1 A2 : Option Addr) (n c n1 c1 n2 c2 gc i : Nat) (dim out : Int) (y34 y35 y36 y37 y38 y39 y40 y41 y42 y43 y44 y45 y46 y47 : Value) : Array Value := #[.slice A n c, undef, .bool false, .pointer (some ⟨gc, 0, none⟩), .int .i64 dim, .int .i64 out, .int .i64 out, .int .i64 (i : Int), undef, undef, .slice A n c, .int .i64 n, .bool false, .tuple #[.agg #[.slice A1 n1 c1, .slice A2 n2 c2], .int .i64 dim], .slice A n c, .tuple #[.agg #[.slice A1 n1 c1, .slice A2 n2 c2], .int .i64 dim], .agg #[.slice A1 n1 c1, .slice A2 n2 c2], .int .i64 dim, .agg #[.slice A1 n1 c1, .slice A2 n2 c2], .int .i64 dim, .int .i64 out, .agg #[.slice A1 n1 c1, .slice A2 n2 c2], .int .i64 dim, .int .i64 out, .int .i64 out, .int .i64 out, .bool false, .bool false, .int .i64 out, .bool false, .bool false, undef, undef, undef, y34, y35, y36, y37, y38, y39, y40, y41, y42, y43, y44, y45, y46, y47, undef, undef, undef, undef, undef, undef, undef, undef, undef, undef, undef, undef, undef, undef, undef, undef, undef, undef, undef, undef, undef, undef, undef, undef]

section
variable {H : Nat → Prop}
set_option maxRecDepth 100000 in
set_option maxHeartbeats 2000000 in
theorem so_tail {cs : List Frame} {kk : List Item} (A A1 A2 : Option Addr) (n c n1 c1 n2 c2 gc i k m : Nat) (dim out : Int) (room : List Int) (us : List Un) (y34 y35 y36 y37 y38 y39 y40 y41 y42 y43 y44 y45 y46 y47 : Value) (w : World) (h : RdC w A1 A2 n1 n2 room us) (hs : ShU us)
    (hbox : Blk w gc 26 #[.slice A1 n1 c1, .slice A2 n2 c2]) (ho : shareP room us dim = out) (h1 : ¬ out < 1) (hi : i < us.length) (hc : (us[i]?.getD (false, [])).1 = false) :
    KV Tryz.prog H (RetV Tryz.prog 3 cs (fun x v' => x = .bool true ∧ GR w v')) (G ((base 3).at ⟨soL A A1 A2 n c n1 c1 n2 c2 gc i dim out y34 y35 y36 y37 y38 y39 y40 y41 y42 y43 y44 y45 y46 y47, []⟩ (.code (.seq (.region k soOps12 false) (.seq (.region m soOps true) .ret)) :: kk)) cs) w := by
  subst ho
  have hok := (share_some h1).1
  have hle := share_open h1 hi hc
  have hyes := opn_yes hok hi hc
  have htg : togTo (us.set i (true, (us[i]?.getD (false, [])).2)) (us.set i (true, (us[i]?.getD (false, [])).2)).length = togTo us us.length := by rw [List.length_set, togTo_set]
  have hok' : clOk room (us.set i (true, (us[i]?.getD (false, [])).2)) = true := by
    have := (opn_facts (node := (i : Int)) (op := true) hok).2.1
    rwa [hyes] at this
  unfold soL
  refine KV.ctl rfl (fun w => stepG_seq) ?_
  refine KV.ctl rfl (fun w => stepG_region) ?_
  rw [show List.range soOps12.size = [0, 1, 2, 3, 4, 5, 6, 7, 8] from rfl]
  simp only [soOps12, soLoop, soBody, Tryz.f3, Option.getD_some]
  refine KV.op anaA_good rfl (by rfl) (by decide) (by kernel_rfl) (fun t => anaA.noTr_spec (by kernel_rfl) t) (fun v₁ hs K' hK' => ?_)
  have hbx := ViewOf_cells_of hbox hs.heap
  have x0 := hbx.cell 0
  have x1 := hbx.cell 1
  simp only [gT, gZ, gS] at x0 x1
  clear hbx
  go_simp
  refine hK' _ _ ?_
  try walk_nrm
  clear hK' K' x0 x1
  refine KV.heap (v := w) ?_ hs.sym
  clear hs v₁
  refine KV.op anaA_good rfl (by rfl) (by decide) (by kernel_rfl) (fun t => anaA.noTr_spec (by kernel_rfl) t) (fun v₁ hs K' hK' => ?_)
  go_simp
  refine hK' _ _ ?_
  try walk_nrm
  clear hK' K'
  refine KV.heap (v := w) ?_ hs.sym
  clear hs v₁
  refine KV.callM rfl (by rfl) (by decide) rfl (Post := fun x v' => ∃ A3 c3 A4 c4, x = .tuple #[.agg #[.slice A3 n1 c3, .slice A4 n2 c4], .int .i64 0] ∧ RdC v' A3 A4 n1 n2 room (us.set i (true, (us[i]?.getD (false, [])).2)) ∧ GR w v') ?_ (fun x v5 hp => ?_)
  · have hus := clusterOpen_v (H := H) (c1 := c1) (c2 := c2) (i : Int) true h hok
    rw [hyes] at hus
    simpa [Act.eval, Act.put] using hus
  obtain ⟨A3, c3, A4, c4, rfl, hx, g5⟩ := hp
  have hbox5 := hbox.grr g5
  have h5 := h.gr g5
  clear hbox h hyes
  generalize us.set i (true, (us[i]?.getD (false, [])).2) = us' at hx htg hok' hle
  try walk_nrm
  refine KV.op anaA_good rfl (by rfl) (by decide) (by kernel_rfl) (fun t => anaA.noTr_spec (by kernel_rfl) t) (fun v₁ hs K' hK' => ?_)
  go_simp
  refine hK' _ _ ?_
  try walk_nrm
  clear hK' K'
  refine KV.heap (v := v5) ?_ hs.sym
  clear hs v₁
  refine KV.op anaA_good rfl (by rfl) (by decide) (by kernel_rfl) (fun t => anaA.noTr_spec (by kernel_rfl) t) (fun v₁ hs K' hK' => ?_)
  go_simp
  refine hK' _ _ ?_
  try walk_nrm
  clear hK' K'
  refine KV.heap (v := v5) ?_ hs.sym
  clear hs v₁
  refine KV.op anaA_good rfl (by rfl) (by decide) (by kernel_rfl) (fun t => anaA.noTr_spec (by kernel_rfl) t) (fun v₁ hs K' hK' => ?_)
  go_simp
  refine hK' _ _ ?_
  try walk_nrm
  clear hK' K'
  refine KV.heap (v := v5) ?_ hs.sym
  clear hs v₁
  refine KV.op anaA_good rfl (by rfl) (by decide) (by kernel_rfl) (fun t => anaA.noTr_spec (by kernel_rfl) t) (fun v₁ hs K' hK' => ?_)
  go_simp
  refine hK' _ _ ?_
  try walk_nrm
  clear hK' K'
  rw [hs.heap]
  refine KV.heap (v := v5.alloc (.cells #[.slice none 0 0, .slice none 0 0] 26)) ?_ (hs.alloc _).sym
  clear hs v₁
  have Z6 := Blk.new v5 26 #[.slice none 0 0, .slice none 0 0]
  have g6 : GB v5.heap.size v5 (v5.alloc (.cells #[.slice none 0 0, .slice none 0 0] 26)) := GB.new _ (Nat.le_refl _)
  generalize hgx : v5.heap.size = gx at Z6 g6 ⊢
  generalize v5.alloc (.cells #[.slice none 0 0, .slice none 0 0] 26) = v6 at Z6 g6 ⊢
  refine KV.op anaA_good rfl (by rfl) (by decide) (by kernel_rfl) (fun t => anaA.noTr_spec (by kernel_rfl) t) (fun v₁ hs K' hK' => ?_)
  have hbx := ViewOf_cells_of Z6 hs.heap
  have y0 := hbx.cell 0
  have y1 := hbx.cell 1
  simp only [gT, gZ, gS] at y0 y1
  have y2 := hbx.frozen 0
  have y3 := hbx.frozen 1
  clear hbx
  go_simp
  refine hK' _ _ ?_
  try walk_nrm
  clear hK' K' y0 y1 y2 y3
  refine KV.heap (v := (v6.setCell ⟨gx, 0, none⟩ (.slice A3 n1 c3)).setCell ⟨gx, 1, none⟩ (.slice A4 n2 c4)) ?_ ((hs.set _ _).set _ _).sym
  clear hs v₁
  have EQ := (Z6.set_ 0 (.slice A3 n1 c3)).set_ 1 (.slice A4 n2 c4)
  have g7 := (g6.trans (GB.set (p := ⟨gx, 0, none⟩) (by show gx ≤ gx; omega) (.slice A3 n1 c3))).trans (GB.set (p := ⟨gx, 1, none⟩) (by show gx ≤ gx; omega) (.slice A4 n2 c4))
  subst hgx
  have g8 := g7.gr
  have hF : FZ A1 A2 A3 A4 n1 c1 n2 c2 c3 c4 gc v5.heap.size room us us' w ((v6.setCell ⟨v5.heap.size, 0, none⟩ (.slice A3 n1 c3)).setCell ⟨v5.heap.size, 1, none⟩ (.slice A4 n2 c4)) := ⟨h5.gr g8, hx.gr g8, hbox5.grr g8, EQ, g5.trans g8⟩
  generalize v5.heap.size = gx at hF ⊢
  generalize (v6.setCell ⟨gx, 0, none⟩ (.slice A3 n1 c3)).setCell ⟨gx, 1, none⟩ (.slice A4 n2 c4) = v7 at hF ⊢
  clear EQ g7 g8 g6 Z6 h5 hx hbox5 g5
  refine KV.op anaA_good rfl (by rfl) (by decide) (by kernel_rfl) (fun t => anaA.noTr_spec (by kernel_rfl) t) (fun v₁ hs K' hK' => ?_)
  go_simp
  refine hK' _ _ ?_
  try walk_nrm
  clear hK' K'
  refine KV.heap (v := v7) ?_ hs.sym
  clear hs v₁
  refine KV.ctl rfl (fun w => stepG_region_end) ?_
  refine KV.ctl rfl (fun w => stepG_seq) ?_
  refine KV.draw (qu := .order soF.fn m) (g' := fun t => G (soF.at _ (.inRegion soOps (Region.schedule (Tryz.prog.follows .mixedOrders) soOps t) :: .code .ret :: kk)) cs) rfl (fun w => stepG_region_draw) fun t => ?_
  have hm : (Tryz.prog.follows .mixedOrders) = true := by kernel_rfl
  simp only [Region.schedule, hm, Bool.true_or, if_true]
  clear hm
  have e : Region.linearise .any soOps t = Region.linearise.go .any soOps 17 t #[false, false, false, false, false, false, false, false, false, false, false, false, false, false, false, false, false] [] := rfl
  rw [e]
  clear e
  refine sos_start (A := A) (n := n) (c := c) t hF ⟨hok, hok', rfl, hle, htg⟩ (fun y v hF hd hsz h2 => ?_)
  refine KV.ctl rfl (fun w => stepG_region_end) ?_
  obtain ⟨T, ds⟩ := y
  dsimp only at hd hsz h2
  subst hd
  refine KV.ctl rfl (fun w => stepG_ret') (.stop ?_)
  have h3 : T.getD 2 undef = .bool true := by rw [Array.getD_eq_getD_getElem?, h2]; rfl
  exact ⟨_, ⟨T, []⟩, _, _, Tryz.func3, rfl, rfl, resultsC_tmp rfl T, h3, hF.gr⟩
end
end Go.Proofs.YtlcgbnmmbheleaaGreat

namespace Go.Proofs.YtlcgbnmmbheleaaGreat
open Go Go.Conc Go.RowKit
set_option linter.unusedVariables false
set_option linter.unusedSimpArgs false

section
variable {H : Nat → Prop}
set_option maxRecDepth 100000 in
set_option maxHeartbeats 4000000 in
theorem so_loop {cs : List Frame} (A A1 A2 : Option Addr) (n c n1 c1 n2 c2 gc : Nat) (dim out : Int) (room : List Int) (us : List Un) (w : World) (h : RdC w A1 A2 n1 n2 room us) (hs0 : ShU us)
    (hbox : Blk w gc 26 #[.slice A1 n1 c1, .slice A2 n2 c2]) (ho : shareP room us dim = out) (h1 : ¬ out < 1) : ∀ (mm i : Nat) (iv : Int) (y34 y35 y36 y37 y38 y39 y40 y41 y42 y43 y44 y45 y46 y47 : Value), us.length - i = mm → i ≤ us.length → iv = (i : Int) → (∀ j : Nat, j < i → (us[j]?.getD (false, [])).1 = true) →
    KV Tryz.prog H (RetV Tryz.prog 3 cs (fun x v' => x = .bool true ∧ GR w v')) (G ((base 3).at ⟨#[.slice A n c, undef, .bool false, .pointer (some ⟨gc, 0, none⟩), .int .i64 dim, .int .i64 out, .int .i64 out, .int .i64 iv, undef, undef, .slice A n c, .int .i64 n, .bool false, .tuple #[.agg #[.slice A1 n1 c1, .slice A2 n2 c2], .int .i64 dim], .slice A n c, .tuple #[.agg #[.slice A1 n1 c1, .slice A2 n2 c2], .int .i64 dim], .agg #[.slice A1 n1 c1, .slice A2 n2 c2], .int .i64 dim, .agg #[.slice A1 n1 c1, .slice A2 n2 c2], .int .i64 dim, .int .i64 out, .agg #[.slice A1 n1 c1, .slice A2 n2 c2], .int .i64 dim, .int .i64 out, .int .i64 out, .int .i64 out, .bool false, .bool false, .int .i64 out, .bool false, .bool false, undef, undef, undef, y34, y35, y36, y37, y38, y39, y40, y41, y42, y43, y44, y45, y46, y47, undef, undef, undef, undef, undef, undef, undef, undef, undef, undef, undef, undef, undef, undef, undef, undef, undef, undef, undef, undef, undef, undef, undef, undef], []⟩ [.code soLoop, .inLoop soLoop, .inBlock 0, .code soE]) cs) w := by
  intro mm
  induction mm with
  | zero =>
    intro i iv y34 y35 y36 y37 y38 y39 y40 y41 y42 y43 y44 y45 y46 y47 hm hi hiv hop
    obtain rfl : i = us.length := by omega
    subst hiv
    obtain ⟨r1, r2, r3, r4, r5, he⟩ := soLoop_eq
    have hl := h.b.len
    have hle := share_all (by rw [ho]; exact h1) hop
    rw [ho] at hle
    have q1 : decide (((us.length : Nat) : Int) < (n2 : Int)) = false := decide_eq_false (by omega)
    have q2 : ¬ ((us.length : Nat) : Int) < (n2 : Int) := by omega
    have q3 : decide (out ≤ 100) = true := decide_eq_true hle
    generalize ((us.length : Nat) : Int) = iv at q1 q2 ⊢
    clear hop hl
    obtain ⟨kk, hkk⟩ : ∃ kk, kk = [Item.inLoop soLoop, .inBlock 0, .code soE] := ⟨_, rfl⟩
    rw [← hkk, he]
    clear he
    refine KV.ctl rfl (fun w => stepG_seq) ?_
    refine KV.ctl rfl (fun w => stepG_seq) ?_
    refine KV.ctl rfl (fun w => stepG_region) ?_
    rw [show List.range soOps9.size = [0, 1, 2, 3, 4] from rfl]
    simp only [soOps9, soLoop, soBody, Tryz.f3, Option.getD_some]
    refine KV.op anaA_good rfl (by rfl) (by decide) (by kernel_rfl) (fun t => anaA.noTr_spec (by kernel_rfl) t) (fun v₁ hs K' hK' => ?_)
    go_simp
    refine hK' _ _ ?_
    try walk_nrm
    clear hK' K'
    refine KV.heap (v := w) ?_ hs.sym
    clear hs v₁
    refine KV.op anaA_good rfl (by rfl) (by decide) (by kernel_rfl) (fun t => anaA.noTr_spec (by kernel_rfl) t) (fun v₁ hs K' hK' => ?_)
    go_simp
    refine hK' _ _ ?_
    try walk_nrm
    clear hK' K'
    refine KV.heap (v := w) ?_ hs.sym
    clear hs v₁
    refine KV.op anaA_good rfl (by rfl) (by decide) (by kernel_rfl) (fun t => anaA.noTr_spec (by kernel_rfl) t) (fun v₁ hs K' hK' => ?_)
    have hbx := ViewOf_cells_of hbox hs.heap
    have x0 := hbx.cell 0
    have x1 := hbx.cell 1
    simp only [gT, gZ, gS] at x0 x1
    clear hbx
    go_simp
    refine hK' _ _ ?_
    try walk_nrm
    clear hK' K' x0 x1
    refine KV.heap (v := w) ?_ hs.sym
    clear hs v₁
    refine KV.op anaA_good rfl (by rfl) (by decide) (by kernel_rfl) (fun t => anaA.noTr_spec (by kernel_rfl) t) (fun v₁ hs K' hK' => ?_)
    go_simp
    refine hK' _ _ ?_
    try walk_nrm
    clear hK' K'
    refine KV.heap (v := w) ?_ hs.sym
    clear hs v₁
    refine KV.op anaA_good rfl (by rfl) (by decide) (by kernel_rfl) (fun t => anaA.noTr_spec (by kernel_rfl) t) (fun v₁ hs K' hK' => ?_)
    go_simp
    refine hK' _ _ ?_
    try walk_nrm
    clear hK' K'
    refine KV.heap (v := w) ?_ hs.sym
    clear hs v₁
    refine KV.ctl rfl (fun w => stepG_region_end) ?_
    refine KV.ctl rfl (fun w => stepG_cond (t := false) rfl) ?_
    simp only [Bool.false_eq_true, if_false]
    subst hkk
    refine KV.ctl rfl (fun w => stepG_exit rfl) ?_
    refine KV.endC anaA_good (Rt := fun v₁ a v' => a.defers = [] ∧ a.tmps.getD 2 undef = .bool true ∧ v' = v₁) (by kernel_rfl) (by kernel_rfl) rfl (by kernel_rfl) (fun v₁ hs => ?_) (fun v₁ a' v' todo hs hq => ?_)
    · have q4 : out ≤ 100 := hle
      clear h hs0 hbox ho h1
      simp only [soE, soBody, Tryz.f3, Option.getD_some]
      go_wp2
    · obtain ⟨h1, h2, rfl⟩ := hq
      exact ⟨_, a', todo, _, Tryz.func3, h1, rfl, resultsC_tmp rfl a'.tmps, h2, (GR.refl w).same hs⟩
  | succ mm ih =>
    intro i iv y34 y35 y36 y37 y38 y39 y40 y41 y42 y43 y44 y45 y46 y47 hm hi hiv hop
    subst hiv
    obtain ⟨r1, r2, r3, r4, r5, he⟩ := soLoop_eq
    have hl := h.b.len
    have hi2 : i < us.length := by omega
    have q1 : decide ((i : Int) < (n2 : Int)) = true := decide_eq_true (by omega)
    have q2 : (i : Int) < (n2 : Int) := by omega
    have q3 : (0 : Int) ≤ (i : Int) := by omega
    have v2 : IntKind.i64.wrap ((i : Int) + 1) = (i : Int) + 1 := wr64 (by omega) (by have := h.b.le; omega)
    obtain ⟨b, o, Ak, mk, ck, rfl, lb, e0, e1, hmk, hrd⟩ := h.b.at_ (show i < n2 by omega)
    have E0 := qh e0
    have Hl := qh hl
    clear e0 e1 hmk hrd hl
    obtain ⟨kk, hkk⟩ : ∃ kk, kk = [Item.inLoop soLoop, .inBlock 0, .code soE] := ⟨_, rfl⟩
    rw [← hkk, he]
    refine KV.ctl rfl (fun w => stepG_seq) ?_
    refine KV.ctl rfl (fun w => stepG_seq) ?_
    refine KV.ctl rfl (fun w => stepG_region) ?_
    rw [show List.range soOps9.size = [0, 1, 2, 3, 4] from rfl]
    simp only [soOps9, soLoop, soBody, Tryz.f3, Option.getD_some]
    refine KV.op anaA_good rfl (by rfl) (by decide) (by kernel_rfl) (fun t => anaA.noTr_spec (by kernel_rfl) t) (fun v₁ hs K' hK' => ?_)
    go_simp
    refine hK' _ _ ?_
    try walk_nrm
    clear hK' K'
    refine KV.heap (v := w) ?_ hs.sym
    clear hs v₁
    refine KV.op anaA_good rfl (by rfl) (by decide) (by kernel_rfl) (fun t => anaA.noTr_spec (by kernel_rfl) t) (fun v₁ hs K' hK' => ?_)
    go_simp
    refine hK' _ _ ?_
    try walk_nrm
    clear hK' K'
    refine KV.heap (v := w) ?_ hs.sym
    clear hs v₁
    refine KV.op anaA_good rfl (by rfl) (by decide) (by kernel_rfl) (fun t => anaA.noTr_spec (by kernel_rfl) t) (fun v₁ hs K' hK' => ?_)
    have hbx := ViewOf_cells_of hbox hs.heap
    have x0 := hbx.cell 0
    have x1 := hbx.cell 1
    simp only [gT, gZ, gS] at x0 x1
    clear hbx
    go_simp
    refine hK' _ _ ?_
    try walk_nrm
    clear hK' K' x0 x1
    refine KV.heap (v := w) ?_ hs.sym
    clear hs v₁
    refine KV.op anaA_good rfl (by rfl) (by decide) (by kernel_rfl) (fun t => anaA.noTr_spec (by kernel_rfl) t) (fun v₁ hs K' hK' => ?_)
    go_simp
    refine hK' _ _ ?_
    try walk_nrm
    clear hK' K'
    refine KV.heap (v := w) ?_ hs.sym
    clear hs v₁
    refine KV.op anaA_good rfl (by rfl) (by decide) (by kernel_rfl) (fun t => anaA.noTr_spec (by kernel_rfl) t) (fun v₁ hs K' hK' => ?_)
    go_simp
    refine hK' _ _ ?_
    try walk_nrm
    clear hK' K'
    refine KV.heap (v := w) ?_ hs.sym
    clear hs v₁
    refine KV.ctl rfl (fun w => stepG_region_end) ?_
    refine KV.ctl rfl (fun w => stepG_cond (t := true) rfl) ?_
    simp only [if_true]
    refine KV.ctl rfl (fun w => stepG_skip) ?_
    refine KV.ctl rfl (fun w => stepG_seq) ?_
    refine KV.ctl rfl (fun w => stepG_block) ?_
    refine KV.ctl rfl (fun w => stepG_seq) ?_
    refine KV.ctl rfl (fun w => stepG_region) ?_
    rw [show List.range soOps11.size = [0, 1, 2, 3, 4, 5, 6] from rfl]
    simp only [soOps11, soLoop, soBody, Tryz.f3, Option.getD_some]
    refine KV.op anaA_good rfl (by rfl) (by decide) (by kernel_rfl) (fun t => anaA.noTr_spec (by kernel_rfl) t) (fun v₁ hs K' hK' => ?_)
    go_simp
    refine hK' _ _ ?_
    try walk_nrm
    clear hK' K'
    refine KV.heap (v := w) ?_ hs.sym
    clear hs v₁
    refine KV.op anaA_good rfl (by rfl) (by decide) (by kernel_rfl) (fun t => anaA.noTr_spec (by kernel_rfl) t) (fun v₁ hs K' hK' => ?_)
    have hbx := ViewOf_cells_of hbox hs.heap
    have x0 := hbx.cell 0
    have x1 := hbx.cell 1
    simp only [gT, gZ, gS] at x0 x1
    clear hbx
    go_simp
    refine hK' _ _ ?_
    try walk_nrm
    clear hK' K' x0 x1
    refine KV.heap (v := w) ?_ hs.sym
    clear hs v₁
    refine KV.op anaA_good rfl (by rfl) (by decide) (by kernel_rfl) (fun t => anaA.noTr_spec (by kernel_rfl) t) (fun v₁ hs K' hK' => ?_)
    go_simp
    refine hK' _ _ ?_
    try walk_nrm
    clear hK' K'
    refine KV.heap (v := w) ?_ hs.sym
    clear hs v₁
    refine KV.op anaA_good rfl (by rfl) (by decide) (by kernel_rfl) (fun t => anaA.noTr_spec (by kernel_rfl) t) (fun v₁ hs K' hK' => ?_)
    go_simp
    refine hK' _ _ ?_
    try walk_nrm
    clear hK' K'
    refine KV.heap (v := w) ?_ hs.sym
    clear hs v₁
    refine KV.op anaA_good rfl (by rfl) (by decide) (by kernel_rfl) (fun t => anaA.noTr_spec (by kernel_rfl) t) (fun v₁ hs K' hK' => ?_)
    go_simp
    refine hK' _ _ ?_
    try walk_nrm
    clear hK' K'
    refine KV.heap (v := w) ?_ hs.sym
    clear hs v₁
    cases hopn : (us[i]?.getD (false, [])).1 with
    | false =>
      refine KV.op anaA_good rfl (by rfl) (by decide) (by kernel_rfl) (fun t => anaA.noTr_spec (by kernel_rfl) t) (fun v₁ hs K' hK' => ?_)
      have x0 := hs.cell (hopn ▸ E0.out)
      go_simp
      refine hK' _ _ ?_
      try walk_nrm
      clear hK' K' x0
      refine KV.heap (v := w) ?_ hs.sym
      clear hs v₁
      refine KV.op anaA_good rfl (by rfl) (by decide) (by kernel_rfl) (fun t => anaA.noTr_spec (by kernel_rfl) t) (fun v₁ hs K' hK' => ?_)
      go_simp
      refine hK' _ _ ?_
      try walk_nrm
      clear hK' K'
      refine KV.heap (v := w) ?_ hs.sym
      clear hs v₁
      refine KV.ctl rfl (fun w => stepG_region_end) ?_
      refine KV.ctl rfl (fun w => stepG_cond (t := true) rfl) ?_
      simp only [if_true]
      exact so_tail A A1 _ n c n1 c1 n2 c2 gc i r3 r4 dim out room us _ _ _ _ _ _ _ _ _ _ _ _ _ _ w h hs0 hbox ho h1 hi2 hopn
    | true =>
      refine KV.op anaA_good rfl (by rfl) (by decide) (by kernel_rfl) (fun t => anaA.noTr_spec (by kernel_rfl) t) (fun v₁ hs K' hK' => ?_)
      have x0 := hs.cell (hopn ▸ E0.out)
      go_simp
      refine hK' _ _ ?_
      try walk_nrm
      clear hK' K' x0
      refine KV.heap (v := w) ?_ hs.sym
      clear hs v₁
      refine KV.op anaA_good rfl (by rfl) (by decide) (by kernel_rfl) (fun t => anaA.noTr_spec (by kernel_rfl) t) (fun v₁ hs K' hK' => ?_)
      go_simp
      refine hK' _ _ ?_
      try walk_nrm
      clear hK' K'
      refine KV.heap (v := w) ?_ hs.sym
      clear hs v₁
      refine KV.ctl rfl (fun w => stepG_region_end) ?_
      refine KV.ctl rfl (fun w => stepG_cond (t := false) rfl) ?_
      simp only [Bool.false_eq_true, if_false]
      refine KV.ctl rfl (fun w => stepG_skip) ?_
      refine KV.ctl rfl (fun w => stepG_inBlock) ?_
      refine KV.ctl rfl (fun w => stepG_region) ?_
      rw [show List.range soOps10.size = [0, 1, 2] from rfl]
      simp only [soOps10, soLoop, soBody, Tryz.f3, Option.getD_some]
      refine KV.op anaA_good rfl (by rfl) (by decide) (by kernel_rfl) (fun t => anaA.noTr_spec (by kernel_rfl) t) (fun v₁ hs K' hK' => ?_)
      go_simp
      refine hK' _ _ ?_
      try walk_nrm
      clear hK' K'
      refine KV.heap (v := w) ?_ hs.sym
      clear hs v₁
      refine KV.op anaA_good rfl (by rfl) (by decide) (by kernel_rfl) (fun t => anaA.noTr_spec (by kernel_rfl) t) (fun v₁ hs K' hK' => ?_)
      go_simp
      refine hK' _ _ ?_
      try walk_nrm
      clear hK' K'
      refine KV.heap (v := w) ?_ hs.sym
      clear hs v₁
      refine KV.op anaA_good rfl (by rfl) (by decide) (by kernel_rfl) (fun t => anaA.noTr_spec (by kernel_rfl) t) (fun v₁ hs K' hK' => ?_)
      go_simp
      refine hK' _ _ ?_
      try walk_nrm
      clear hK' K'
      refine KV.heap (v := w) ?_ hs.sym
      clear hs v₁
      refine KV.ctl rfl (fun w => stepG_region_end) ?_
      subst hkk
      refine KV.ctl rfl (fun w => stepG_inLoop) ?_
      refine ih (i + 1) _ _ _ _ _ _ _ _ _ _ _ _ _ _ _ (by omega) (by omega) (by simp) (fun j hj => ?_)
      rcases Nat.lt_or_ge j i with hji | hji
      · exact hop j hji
      · obtain rfl : j = i := by omega
        exact hopn
end

section
variable {H : Nat → Prop} {v : World} {A : Option Addr} {n c : Nat}
set_option maxRecDepth 100000 in
theorem so_c3 (A : Option Addr) (n c : Nat) (v : World) (h : RdU v v.heap.size A n) (hc : n ≤ c) (hcm : c ≤ 9223372036854775807) :
    soC3.wp Tryz.prog (fun e a v' => (e = .normal ∧ ∃ gc A1 n1 c1 A2 n2 c2 room us dim, a = ⟨#[.slice A n c, undef, .bool false, .pointer (some ⟨gc, 0, none⟩), .int .i64 dim, undef, undef, undef, undef, undef, .slice A n c, .int .i64 n, .bool false, .tuple #[.agg #[.slice A1 n1 c1, .slice A2 n2 c2], .int .i64 dim], .slice A n c, .tuple #[.agg #[.slice A1 n1 c1, .slice A2 n2 c2], .int .i64 dim], .agg #[.slice A1 n1 c1, .slice A2 n2 c2], .int .i64 dim, undef, undef, undef, undef, undef, undef, undef, undef, undef, undef, undef, undef, undef, undef, undef, undef, undef, undef, undef, undef, undef, undef, undef, undef, undef, undef, undef, undef, undef, undef, undef, undef, undef, undef, undef, undef, undef, undef, undef, undef, undef, undef, undef, undef, undef, undef, undef, undef, undef, undef, undef, undef, undef, undef], []⟩ ∧ RdC v' A1 A2 n1 n2 room us ∧ ShU us ∧ Blk v' gc 26 #[.slice A1 n1 c1, .slice A2 n2 c2] ∧ GR v v') ∨ (e = .ret ∧ False)) ⟨#[.slice A n c, undef, .bool false, undef, undef, undef, undef, undef, undef, undef, .slice A n c, .int .i64 n, .bool false, undef, undef, undef, undef, undef, undef, undef, undef, undef, undef, undef, undef, undef, undef, undef, undef, undef, undef, undef, undef, undef, undef, undef, undef, undef, undef, undef, undef, undef, undef, undef, undef, undef, undef, undef, undef, undef, undef, undef, undef, undef, undef, undef, undef, undef, undef, undef, undef, undef, undef, undef, undef, undef, undef, undef, undef, undef, undef, undef], []⟩ v := by
  simp only [soC3, soBody, Tryz.f3, Option.getD_some]
  go_wp2_with fail
  refine (drawUsageShare_any A n c v h hc hcm).mono ?_; rintro e w2 ⟨A1, n1, c1, A2, n2, c2, room, us, dim, rfl, hr, hs, h1, h2, h3, hb⟩
  have B2 := qh hb
  have R2 := qh hr
  have Hs := qh hs
  clear hr hs hb h1 h2 h3
  have Z3 := qh (Blk.new w2 26 #[.slice none 0 0, .slice none 0 0])
  have y0 := Z3.out.cell 0
  have y1 := Z3.out.cell 1
  simp only [gT, gZ, gS] at y0 y1
  have y2 := Z3.out.frozen 0
  have y3 := Z3.out.frozen 1
  go_wp2_with fail
  exact ⟨_, A1, n1, c1, A2, n2, c2, ⟨rfl, ⟨rfl, rfl, rfl⟩, rfl, rfl, rfl⟩, room, us, R2.out.up (alloc_up w2 _), Hs.out, Blk.new w2 _ _, below_gr (below_to B2.out (alloc_up w2 _))⟩
set_option maxRecDepth 100000 in
theorem so_c5 (A A1 A2 : Option Addr) (n c n1 c1 n2 c2 gc : Nat) (dim out : Int) (room : List Int) (us : List Un) (v : World) (h : RdC v A1 A2 n1 n2 room us) (hs : ShU us) (hbox : Blk v gc 26 #[.slice A1 n1 c1, .slice A2 n2 c2]) (ho : shareP room us dim = out) :
    soC5.wp Tryz.prog (fun e a v' => (e = .normal ∧ a = ⟨#[.slice A n c, undef, .bool false, .pointer (some ⟨gc, 0, none⟩), .int .i64 dim, .int .i64 out, .int .i64 out, undef, undef, undef, .slice A n c, .int .i64 n, .bool false, .tuple #[.agg #[.slice A1 n1 c1, .slice A2 n2 c2], .int .i64 dim], .slice A n c, .tuple #[.agg #[.slice A1 n1 c1, .slice A2 n2 c2], .int .i64 dim], .agg #[.slice A1 n1 c1, .slice A2 n2 c2], .int .i64 dim, .agg #[.slice A1 n1 c1, .slice A2 n2 c2], .int .i64 dim, .int .i64 out, .agg #[.slice A1 n1 c1, .slice A2 n2 c2], .int .i64 dim, .int .i64 out, undef, undef, undef, undef, undef, undef, undef, undef, undef, undef, undef, undef, undef, undef, undef, undef, undef, undef, undef, undef, undef, undef, undef, undef, undef, undef, undef, undef, undef, undef, undef, undef, undef, undef, undef, undef, undef, undef, undef, undef, undef, undef, undef, undef, undef, undef, undef, undef], []⟩ ∧ GR v v') ∨ (e = .ret ∧ False)) ⟨#[.slice A n c, undef, .bool false, .pointer (some ⟨gc, 0, none⟩), .int .i64 dim, .int .i64 out, undef, undef, undef, undef, .slice A n c, .int .i64 n, .bool false, .tuple #[.agg #[.slice A1 n1 c1, .slice A2 n2 c2], .int .i64 dim], .slice A n c, .tuple #[.agg #[.slice A1 n1 c1, .slice A2 n2 c2], .int .i64 dim], .agg #[.slice A1 n1 c1, .slice A2 n2 c2], .int .i64 dim, .agg #[.slice A1 n1 c1, .slice A2 n2 c2], .int .i64 dim, .int .i64 out, undef, undef, undef, undef, undef, undef, undef, undef, undef, undef, undef, undef, undef, undef, undef, undef, undef, undef, undef, undef, undef, undef, undef, undef, undef, undef, undef, undef, undef, undef, undef, undef, undef, undef, undef, undef, undef, undef, undef, undef, undef, undef, undef, undef, undef, undef, undef, undef, undef, undef, undef], []⟩ v := by
  have x0 := hbox.cell 0
  have x1 := hbox.cell 1
  simp only [gT, gZ, gS] at x0 x1
  have Hr := qh h
  have Hs := qh hs
  have Ho := qh ho
  clear h hs hbox ho
  simp only [soC5, soBody, Tryz.f3, Option.getD_some]
  go_wp2_with fail
  clear x0 x1
  refine (usageShareS_any A1 A2 n1 c1 n2 c2 room us dim v Hr.out Hs.out).mono ?_; rintro e w2 ⟨rfl, hb2⟩
  have B2 := qh hb2
  clear hb2
  rw [Ho.out]
  go_wp2_with fail
  exact below_gr B2.out
set_option maxRecDepth 100000 in
theorem so_c6 (A A1 A2 : Option Addr) (n c n1 c1 n2 c2 gc : Nat) (dim out : Int) (v : World) :
    soC6.wp Tryz.prog (fun e a v' => (e = .normal ∧ ¬ out < 1 ∧ a = ⟨#[.slice A n c, undef, .bool false, .pointer (some ⟨gc, 0, none⟩), .int .i64 dim, .int .i64 out, .int .i64 out, undef, undef, undef, .slice A n c, .int .i64 n, .bool false, .tuple #[.agg #[.slice A1 n1 c1, .slice A2 n2 c2], .int .i64 dim], .slice A n c, .tuple #[.agg #[.slice A1 n1 c1, .slice A2 n2 c2], .int .i64 dim], .agg #[.slice A1 n1 c1, .slice A2 n2 c2], .int .i64 dim, .agg #[.slice A1 n1 c1, .slice A2 n2 c2], .int .i64 dim, .int .i64 out, .agg #[.slice A1 n1 c1, .slice A2 n2 c2], .int .i64 dim, .int .i64 out, .int .i64 out, .int .i64 out, .bool false, .bool false, .int .i64 out, .bool false, .bool false, undef, undef, undef, undef, undef, undef, undef, undef, undef, undef, undef, undef, undef, undef, undef, undef, undef, undef, undef, undef, undef, undef, undef, undef, undef, undef, undef, undef, undef, undef, undef, undef, undef, undef, undef, undef, undef, undef, undef, undef, undef], []⟩ ∧ v' = v) ∨ (e = .ret ∧ a.defers = [] ∧ a.tmps.getD 2 undef = .bool true ∧ v' = v)) ⟨#[.slice A n c, undef, .bool false, .pointer (some ⟨gc, 0, none⟩), .int .i64 dim, .int .i64 out, .int .i64 out, undef, undef, undef, .slice A n c, .int .i64 n, .bool false, .tuple #[.agg #[.slice A1 n1 c1, .slice A2 n2 c2], .int .i64 dim], .slice A n c, .tuple #[.agg #[.slice A1 n1 c1, .slice A2 n2 c2], .int .i64 dim], .agg #[.slice A1 n1 c1, .slice A2 n2 c2], .int .i64 dim, .agg #[.slice A1 n1 c1, .slice A2 n2 c2], .int .i64 dim, .int .i64 out, .agg #[.slice A1 n1 c1, .slice A2 n2 c2], .int .i64 dim, .int .i64 out, undef, undef, undef, undef, undef, undef, undef, undef, undef, undef, undef, undef, undef, undef, undef, undef, undef, undef, undef, undef, undef, undef, undef, undef, undef, undef, undef, undef, undef, undef, undef, undef, undef, undef, undef, undef, undef, undef, undef, undef, undef, undef, undef, undef, undef, undef, undef, undef], []⟩ v := by
  simp only [soC6, soBody, Tryz.f3, Option.getD_some]
  by_cases h0 : out < 1
  · have q : decide (out < 1) = true := decide_eq_true h0
    go_wp2
  · have q : decide (out < 1) = false := decide_eq_false h0
    have q2 : 1 ≤ out := by omega
    go_wp2
set_option maxRecDepth 100000 in
set_option maxHeartbeats 1000000 in
theorem fnShareOpen_v (h : RdU v v.heap.size A n) (hc : n ≤ c) (hcm : c ≤ 9223372036854775807) : CallsV Tryz.prog H 3 #[.slice A n c] v (fun x v' => x = .bool true ∧ GR v v') := by
  refine ⟨_, soBody, Tryz.func3, by kernel_rfl, by rfl, fun cs => ?_⟩
  have e : (#[Value.slice A n c] ++ Array.replicate (Tryz.f3.ntmps - (#[Value.slice A n c] : Array Value).size) undef) = #[.slice A n c, undef, undef, undef, undef, undef, undef, undef, undef, undef, undef, undef, undef, undef, undef, undef, undef, undef, undef, undef, undef, undef, undef, undef, undef, undef, undef, undef, undef, undef, undef, undef, undef, undef, undef, undef, undef, undef, undef, undef, undef, undef, undef, undef, undef, undef, undef, undef, undef, undef, undef, undef, undef, undef, undef, undef, undef, undef, undef, undef, undef, undef, undef, undef, undef, undef, undef, undef, undef, undef, undef, undef] := by kernel_rfl
  obtain ⟨ri, rj, he⟩ := soBody_eq
  rw [e, he]
  clear e he
  refine KV.seqC anaA_good (Nm := fun v₁ a v' => a = ⟨#[.slice A n c, undef, .bool false, undef, undef, undef, undef, undef, undef, undef, undef, undef, undef, undef, undef, undef, undef, undef, undef, undef, undef, undef, undef, undef, undef, undef, undef, undef, undef, undef, undef, undef, undef, undef, undef, undef, undef, undef, undef, undef, undef, undef, undef, undef, undef, undef, undef, undef, undef, undef, undef, undef, undef, undef, undef, undef, undef, undef, undef, undef, undef, undef, undef, undef, undef, undef, undef, undef, undef, undef, undef, undef], []⟩ ∧ v' = v₁) (Rt := fun _ _ _ => False) (by kernel_rfl) (by kernel_rfl) rfl (by kernel_rfl) (fun v₁ hs => ?_) (fun v₁ a' v' hs hq => ?_) (fun _ _ _ _ _ h => h.elim)
  · simp only [soC0, soBody, Tryz.f3, Option.getD_some]
    go_wp2
  obtain ⟨rfl, rfl⟩ := hq
  refine KV.heap (v := v) ?_ hs.sym
  clear hs v'
  refine KV.seqC anaA_good (Nm := fun v₁ a v' => a = ⟨#[.slice A n c, undef, .bool false, undef, undef, undef, undef, undef, undef, undef, .slice A n c, .int .i64 n, .bool false, undef, undef, undef, undef, undef, undef, undef, undef, undef, undef, undef, undef, undef, undef, undef, undef, undef, undef, undef, undef, undef, undef, undef, undef, undef, undef, undef, undef, undef, undef, undef, undef, undef, undef, undef, undef, undef, undef, undef, undef, undef, undef, undef, undef, undef, undef, undef, undef, undef, undef, undef, undef, undef, undef, undef, undef, undef, undef, undef], []⟩ ∧ v' = v₁) (Rt := fun v₁ a v' => a.defers = [] ∧ a.tmps.getD 2 undef = .bool true ∧ v' = v₁) (by kernel_rfl) (by kernel_rfl) rfl (by kernel_rfl) (fun v₁ hs => ?_) (fun v₁ a' v' hs hq => ?_) (fun v₁ a' v' todo hs hq => ?_)
  · simp only [soC1, soBody, Tryz.f3, Option.getD_some]
    by_cases hn : 1048576 < n
    · have q : decide ((1048576 : Int) < (n : Int)) = true := decide_eq_true (by omega)
      have q1 : (1048576 : Int) < (n : Int) := by omega
      go_wp2
    · have q : decide ((1048576 : Int) < (n : Int)) = false := decide_eq_false (by omega)
      have q1 : ¬ (1048576 : Int) < (n : Int) := by omega
      have q2 : n ≤ 1048576 := by omega
      go_wp2
  · obtain ⟨rfl, rfl⟩ := hq
    refine KV.heap (v := v) ?_ hs.sym
    clear hs v'
    refine KV.seqC anaA_good (Nm := fun v₁ a v' => ∃ gc A1 n1 c1 A2 n2 c2 room us dim, a = ⟨#[.slice A n c, undef, .bool false, .pointer (some ⟨gc, 0, none⟩), .int .i64 dim, undef, undef, undef, undef, undef, .slice A n c, .int .i64 n, .bool false, .tuple #[.agg #[.slice A1 n1 c1, .slice A2 n2 c2], .int .i64 dim], .slice A n c, .tuple #[.agg #[.slice A1 n1 c1, .slice A2 n2 c2], .int .i64 dim], .agg #[.slice A1 n1 c1, .slice A2 n2 c2], .int .i64 dim, undef, undef, undef, undef, undef, undef, undef, undef, undef, undef, undef, undef, undef, undef, undef, undef, undef, undef, undef, undef, undef, undef, undef, undef, undef, undef, undef, undef, undef, undef, undef, undef, undef, undef, undef, undef, undef, undef, undef, undef, undef, undef, undef, undef, undef, undef, undef, undef, undef, undef, undef, undef, undef, undef], []⟩ ∧ RdC v' A1 A2 n1 n2 room us ∧ ShU us ∧ Blk v' gc 26 #[.slice A1 n1 c1, .slice A2 n2 c2] ∧ GR v₁ v') (Rt := fun _ _ _ => False) (by kernel_rfl) (by kernel_rfl) rfl (by kernel_rfl) (fun v₁ hs => ?_) (fun v₁ a' v' hs hq => ?_) (fun _ _ _ _ _ h => h.elim)
    · exact so_c3 A n c v₁ (fun hn => by
        obtain ⟨b, o, e1, e2, e3⟩ := h hn
        refine ⟨b, o, e1, by rw [hs.heap]; exact e2, fun j hj => ?_⟩
        obtain ⟨u, g1, g2, g3⟩ := e3 j hj
        exact ⟨u, g1, g2, hs.cell g3⟩) hc hcm
    obtain ⟨gc, A1, n1, c1, A2, n2, c2, room, us, dim, rfl, hr, hsu, hbox, hg⟩ := hq
    have hg2 : GR v v' := GR.from hs hg
    clear hg hs
    generalize v' = w2 at hg2 hbox hr ⊢
    refine KV.ctl rfl (fun w => stepG_seq) ?_
    refine KV.ctl rfl (fun w => stepG_region) ?_
    rw [show List.range soOps4.size = [0, 1, 2, 3] from rfl]
    simp only [soOps4, soLoop, soBody, Tryz.f3, Option.getD_some]
    refine KV.op anaA_good rfl (by rfl) (by decide) (by kernel_rfl) (fun t => anaA.noTr_spec (by kernel_rfl) t) (fun v₁ hs K' hK' => ?_)
    have hbx := ViewOf_cells_of hbox hs.heap
    have x0 := hbx.cell 0
    have x1 := hbx.cell 1
    simp only [gT, gZ, gS] at x0 x1
    clear hbx
    go_simp
    refine hK' _ _ ?_
    try walk_nrm
    clear hK' K' x0 x1
    refine KV.heap (v := w2) ?_ hs.sym
    clear hs v₁
    refine KV.op anaA_good rfl (by rfl) (by decide) (by kernel_rfl) (fun t => anaA.noTr_spec (by kernel_rfl) t) (fun v₁ hs K' hK' => ?_)
    go_simp
    refine hK' _ _ ?_
    try walk_nrm
    clear hK' K'
    refine KV.heap (v := w2) ?_ hs.sym
    clear hs v₁
    refine KV.callV rfl (by rfl) (by decide) rfl (Post := fun x v' => x = .int .i64 (shareP room us dim) ∧ GR w2 v') ?_ (fun x v3 hp => ?_)
    · have hus := usageShareA_v (H := H) (c1 := c1) (c2 := c2) dim hr hsu
      simpa [Act.eval, Act.put] using hus
    obtain ⟨rfl, hg3⟩ := hp
    obtain ⟨out, ho⟩ : ∃ out, out = shareP room us dim := ⟨_, rfl⟩
    rw [← ho]
    have Ho := qh ho
    clear ho
    try walk_nrm
    refine KV.op anaA_good rfl (by rfl) (by decide) (by kernel_rfl) (fun t => anaA.noTr_spec (by kernel_rfl) t) (fun v₁ hs K' hK' => ?_)
    go_simp
    refine hK' _ _ ?_
    try walk_nrm
    clear hK' K'
    refine KV.heap (v := v3) ?_ hs.sym
    clear hs v₁
    refine KV.ctl rfl (fun w => stepG_region_end) ?_
    replace hg2 := hg2.trans hg3
    replace hbox := hbox.grr hg3
    replace hr := hr.gr hg3
    clear hg3
    refine KV.seqC anaA_good (Nm := fun v₁ a v' => a = ⟨#[.slice A n c, undef, .bool false, .pointer (some ⟨gc, 0, none⟩), .int .i64 dim, .int .i64 out, .int .i64 out, undef, undef, undef, .slice A n c, .int .i64 n, .bool false, .tuple #[.agg #[.slice A1 n1 c1, .slice A2 n2 c2], .int .i64 dim], .slice A n c, .tuple #[.agg #[.slice A1 n1 c1, .slice A2 n2 c2], .int .i64 dim], .agg #[.slice A1 n1 c1, .slice A2 n2 c2], .int .i64 dim, .agg #[.slice A1 n1 c1, .slice A2 n2 c2], .int .i64 dim, .int .i64 out, .agg #[.slice A1 n1 c1, .slice A2 n2 c2], .int .i64 dim, .int .i64 out, undef, undef, undef, undef, undef, undef, undef, undef, undef, undef, undef, undef, undef, undef, undef, undef, undef, undef, undef, undef, undef, undef, undef, undef, undef, undef, undef, undef, undef, undef, undef, undef, undef, undef, undef, undef, undef, undef, undef, undef, undef, undef, undef, undef, undef, undef, undef, undef], []⟩ ∧ GR v₁ v') (Rt := fun _ _ _ => False) (by kernel_rfl) (by kernel_rfl) rfl (by kernel_rfl) (fun v₁ hs => ?_) (fun v₁ a' v' hs hq => ?_) (fun _ _ _ _ _ h => h.elim)
    · exact so_c5 A A1 A2 n c n1 c1 n2 c2 gc dim out room us v₁ (hr.same hs.heap) hsu (ViewOf_cells_of hbox hs.heap) Ho.out.symm
    obtain ⟨rfl, hg⟩ := hq
    replace hg2 := hg2.trans (GR.from hs hg)
    replace hbox := hbox.grr (GR.from hs hg)
    replace hr := hr.gr (GR.from hs hg)
    clear hg hs
    generalize v' = v4 at hg2 hbox hr ⊢
    refine KV.seqC anaA_good (Nm := fun v₁ a v' => ¬ out < 1 ∧ a = ⟨#[.slice A n c, undef, .bool false, .pointer (some ⟨gc, 0, none⟩), .int .i64 dim, .int .i64 out, .int .i64 out, undef, undef, undef, .slice A n c, .int .i64 n, .bool false, .tuple #[.agg #[.slice A1 n1 c1, .slice A2 n2 c2], .int .i64 dim], .slice A n c, .tuple #[.agg #[.slice A1 n1 c1, .slice A2 n2 c2], .int .i64 dim], .agg #[.slice A1 n1 c1, .slice A2 n2 c2], .int .i64 dim, .agg #[.slice A1 n1 c1, .slice A2 n2 c2], .int .i64 dim, .int .i64 out, .agg #[.slice A1 n1 c1, .slice A2 n2 c2], .int .i64 dim, .int .i64 out, .int .i64 out, .int .i64 out, .bool false, .bool false, .int .i64 out, .bool false, .bool false, undef, undef, undef, undef, undef, undef, undef, undef, undef, undef, undef, undef, undef, undef, undef, undef, undef, undef, undef, undef, undef, undef, undef, undef, undef, undef, undef, undef, undef, undef, undef, undef, undef, undef, undef, undef, undef, undef, undef, undef, undef], []⟩ ∧ v' = v₁) (Rt := fun v₁ a v' => a.defers = [] ∧ a.tmps.getD 2 undef = .bool true ∧ v' = v₁) (by kernel_rfl) (by kernel_rfl) rfl (by kernel_rfl) (fun v₁ hs => ?_) (fun v₁ a' v' hs hq => ?_) (fun v₁ a' v' todo hs hq => ?_)
    · exact so_c6 A A1 A2 n c n1 c1 n2 c2 gc dim out v₁
    · obtain ⟨h0, rfl, rfl⟩ := hq
      refine KV.heap (v := v4) ?_ hs.sym
      clear hs
      refine KV.ctl rfl (fun w => stepG_seq) ?_
      refine KV.ctl rfl (fun w => stepG_seq) ?_
      refine KV.ctl rfl (fun w => stepG_region) ?_
      rw [show List.range soOps8.size = [0] from rfl]
      simp only [soOps8, soLoop, soBody, Tryz.f3, Option.getD_some]
      refine KV.op anaA_good rfl (by rfl) (by decide) (by kernel_rfl) (fun t => anaA.noTr_spec (by kernel_rfl) t) (fun v₁ hs K' hK' => ?_)
      go_simp
      refine hK' _ _ ?_
      try walk_nrm
      clear hK' K'
      refine KV.heap (v := v4) ?_ hs.sym
      clear hs v₁
      refine KV.ctl rfl (fun w => stepG_region_end) ?_
      refine KV.ctl rfl (fun w => stepG_block) ?_
      refine KV.ctl rfl (fun w => stepG_loop) ?_
      exact (so_loop A A1 A2 n c n1 c1 n2 c2 gc dim out room us v4 hr hsu hbox Ho.out.symm h0 _ 0 0 _ _ _ _ _ _ _ _ _ _ _ _ _ _ rfl (by omega) rfl (fun j hj => absurd hj (by omega))).mono fun g' u hret => hret.mono fun x u hx => ⟨hx.1, hg2.trans hx.2⟩
    · obtain ⟨h1, h2, rfl⟩ := hq
      exact ⟨_, a', todo, _, Tryz.func3, h1, rfl, resultsC_tmp rfl a'.tmps, h2, hg2.same hs⟩
  · obtain ⟨h1, h2, rfl⟩ := hq
    exact ⟨_, a', todo, _, Tryz.func3, h1, rfl, resultsC_tmp rfl a'.tmps, h2, (GR.refl v).same hs⟩
end
end Go.Proofs.YtlcgbnmmbheleaaGreat
