/- Walk: RequestsPlay of the program (the paths of region 3 are printed by gen_playi.py). -/
import Derived.Test.YtlegpecjoaklnaaGreatDoorRqDoI
import Derived.Test.YtlegpecjoaklnaaGreatDoorRdQ
import Derived.Test.YtlegpecjoaklnaaGreatDoorMix3
import Derived.Deep.Cut
import Derived.Deep.DeepCutAuto
import Derived.ArgAppend
namespace Go.Proofs.YtlegpecjoaklnaaGreatDoor
set_option linter.unusedSimpArgs false
set_option linter.unusedVariables false
open Go Go.RowKit Go.MuLone
attribute [local go_sem ↓] Go.wp_at_zero Go.wp_at_succ

theorem src_one {w : World} {B : Addr} {u : Value} (h : Src w 1 (some B) 1 [u]) : w.cell? (B.add 0) = some u := by
  obtain ⟨ad, e, hc⟩ := h.2 (by omega)
  injection e with e
  subst e
  exact hc 0 u rfl
/-- One value behind a row of the call's own that has room: the row stays where it lies. -/
theorem wpList_append_in {P : Program} {w : World} {ops : Array Oper} {rest : List Oper} {o : Oper} {a : Act} {Q : Exit → Act → World → Prop} (hgd : o.guard = none) (s x : Operand) (t : TypeId)
    (ho : o.op = .call { callee := .builtin .append, args := #[s, x], argTypes := #[t, t] })
    (base : Nat) (e : TypeId) (i : TypeInfo) (z : Value) (bytes : Nat) (ht : P.underlying t = some (.slice e)) (hi : P.info? e = some i) (hz : i.zero = some z)
    (hsize : i.size = 1) (hby : i.bytes = bytes) (hzs : z.cells.size = 1) (g n cap : Nat) (xs : List Value) (hs : a.eval s = .slice (some ⟨g, 0, none⟩) n cap)
    (hown : w.ownsRow base e 1 (.slice (some ⟨g, 0, none⟩) n cap) n xs) (hroom : n + 1 ≤ cap) (B : Addr) (c : Nat) (u : Value) (hx : a.eval x = .slice (some B) 1 c) (hu : w.cell? (B.add 0) = some u) (h1 : u.oneCell' = true)
    (h63 : n + 1 ≤ maxLen) (hbytes : (n + 1) * bytes ≤ 140737488355328) (hbase : base ≤ w.heap.size)
    (h : ∀ w', w'.ownsRow base e 1 (.slice (some ⟨g, 0, none⟩) (n + 1) cap) (n + 1) (xs ++ [u]) → w.grownBy w' (some g) → wpList P ops Q rest (a.put o.dst (.slice (some ⟨g, 0, none⟩) (n + 1) cap)) w') : wpList P ops Q (o :: rest) a w :=
  wpList_plain hgd fun K hK => by
    have hnews : ∀ j v, [u][j]? = some v → w.cell? (B.add j) = some v := fun j v hj => by
      match j, hj with
      | 0, hj => simp at hj; rw [← hj]; exact hu
      | j + 1, hj => simp at hj
    have hone : ∀ v ∈ [u], v.oneCell' = true := fun v hv => by rw [List.mem_singleton.1 hv]; exact h1
    obtain ⟨v', w', hrun, h2, h3, _⟩ := run_append_src (P := P) w base t o.type e i z 1 bytes ht hi hz hsize hby hzs (by omega) _ n xs hown (some B) 1 c [u] ⟨rfl, fun _ => ⟨B, rfl, hnews⟩⟩ hone h63 hbytes hbase
    obtain ⟨cur, hblk, hsz⟩ : ∃ cur, Blk w g e cur ∧ cur.size = cap := by
      rcases hown.2 with ⟨he, _⟩ | ⟨g', cap', cur, he, _, hg, _, _, hc, _⟩
      · cases he
      · injection he with he1 he2 he3
        injection he1 with he1
        injection he1 with he1
        subst he1 he3
        exact ⟨cur, hg, by rw [hc, Nat.mul_one]⟩
    have hin := run_append_room_cells (P := P) w t o.type e i ht hi g 0 n cap B 1 c [u] (by rw [hsize]; rfl) hnews hone hroom
      (fun j hj => by rw [hblk.cell, hsize, Array.getElem?_eq_getElem (by simp at hj; omega)]; rfl) (fun j hj => hblk.frozen _)
    rw [hin] at hrun
    injection hrun with e1 e2
    subst e1 e2
    have hk := hK _ _ (h _ h2 h3)
    unfold Oper.wp execOp
    simp only [ho, resolve, invoke, builtin, Sem.run_bind, Sem.run_pure, Result.andThen_ok, List.map_toArray, List.map_cons, List.map_nil, hs, hx, hin]
    exact hk

set_option maxRecDepth 100000 in
set_option maxHeartbeats 4000000 in
theorem requestsPlayIM_any (A1 A2 A3' : Option Addr) (n1 c1 n2 c2 n3 c3' : Nat) (room : List Int) (us : List Un) (rs : List Rq) (w : World) (h : RdC w A1 A2 n1 n2 room us) (hs : ShV us) (hq : RdQ w w.heap.size A3' n3 rs) :
    Calls Tryz.prog 35 #[.agg #[.slice A1 n1 c1, .slice A2 n2 c2], .slice A3' n3 c3'] w fun e w' => ∃ A4 m4 c4 A5 m5 c5 A6 m6 c6 md, e = .returned (.tuple #[.agg #[.slice A4 m4 c4, .slice A5 m5 c5], .slice A6 m6 c6]) ∧
      OwnC w' md (.slice A4 m4 c4) (.slice A5 m5 c5) m4 m5 (playP room us rs).1 (playP room us rs).2.1 ∧ w'.ownsRow w.heap.size 3 1 (.slice A6 m6 c6) m6 ((playP room us rs).2.2.map (Value.int .i64)) ∧ Below w.heap.size w w' ∧
      w.heap.size ≤ md ∧ md ≤ w'.heap.size ∧ (0 < m6 → ∀ b, (Value.slice A6 m6 c6).ownBlock = some b → b < md) := by
  obtain ⟨ii, hii, hiz0, hiz1, hiz2⟩ := info_parts int_info
  have sz : (w.alloc (.cells #[.slice A1 n1 c1, .slice A2 n2 c2] 26)).heap.size = w.heap.size + 1 := World.size_alloc _ _
  have hZ := Blk.new (w.alloc (.cells #[.slice A1 n1 c1, .slice A2 n2 c2] 26)) 26 #[.slice none 0 0, .slice none 0 0]
  rw [sz] at hZ
  have B1 := qh ((alloc_up w (.cells #[.slice A1 n1 c1, .slice A2 n2 c2] 26)).alloc (by rw [sz]; omega) (.cells #[.slice none 0 0, .slice none 0 0] 26))
  have P1 := qh ((Blk.new w 26 #[.slice A1 n1 c1, .slice A2 n2 c2]).alloc (.cells #[.slice none 0 0, .slice none 0 0] 26))
  have Z1 := qh hZ
  have H1 := qh (h.up B1.out)
  have Q1 := qh (hq.up B1.out)
  have Hs := qh hs
  clear h hZ sz hq hs
  go_enter Tryz.func35, Tryz.ntmps35
  have x0 := P1.out.cell 0
  have x1 := P1.out.cell 1
  simp only [gT, gZ, gS] at x0 x1
  go_wp2_with fail
  clear x0 x1
  generalize hgb : w.heap.size = gb at P1 Z1 ⊢
  generalize (w.alloc (.cells #[.slice A1 n1 c1, .slice A2 n2 c2] 26)).alloc (.cells #[.slice none 0 0, .slice none 0 0] 26) = w1 at B1 P1 Z1 H1 Q1 ⊢
  have lz1 := Z1.out.lt
  refine (clusterValidIV_any A1 A2 n1 c1 n2 c2 room us w1 H1.out Hs.out).mono ?_; rintro e w2 ⟨rfl, hb2⟩
  have B2 := qh (below_to B1.out hb2)
  have P2 := qh (P1.out.below hb2 P1.out.lt)
  have Z2 := qh (Z1.out.below hb2 Z1.out.lt)
  have H2 := qh (H1.out.up hb2)
  have Q2 := qh (Q1.out.up hb2)
  have lz2 := Z2.out.lt
  clear hb2 B1 P1 Z1 H1 Q1 lz1
  by_cases hgood : clOk room us = true ∧ n3 ≤ 30
  · obtain ⟨hok, h30⟩ := hgood
    have Hok := qh hok
    rw [hok]
    have q30 : ¬ (30 : Int) < (n3 : Int) := by omega
    have hr1 : room.length = 3 := (clOk_facts hok).1
    have ln1 : n1 = 3 := by have := H2.out.a.len; omega
    have Ln1 := qh ln1
    have hlen : n1 ≤ 1048576 := by omega
    clear hok hr1 ln1
    have hmk := fun W : World => run_make (P := Tryz.prog) W 23 3 ii _ Tryz.underlying23 hii hiz0 .i64 .i64 0 n3 (by omega) (by omega) (by rw [hiz2]; omega) (by omega)
    simp only [Int.toNat_natCast, Int.toNat_zero, hiz1] at hmk
    have hmcs : (madeCells (Value.int .i64 0).cells (n3 * 1)).size = n3 * 1 := size_madeCells _ _
    generalize madeCells (Value.int .i64 0).cells (n3 * 1) = mc at hmk hmcs
    go_upto_region 3 with fail
    go_cut [6, 7] (fun v6 v7 wx => ∃ (gz g7 : Nat) (A3 A4 : Option Addr) (c3 c4 : Nat), v6 = .pointer (some ⟨gz, 0, none⟩) ∧ v7 = .slice (some ⟨g7, 0, none⟩) 0 n3 ∧ w2.heap.size ≤ gz ∧ Blk wx gz 26 #[.slice A3 n1 c3, .slice A4 n2 c4] ∧
      OwnC wx w2.heap.size (.slice A3 n1 c3) (.slice A4 n2 c4) n1 n2 room us ∧ wx.ownsRow w2.heap.size 3 1 (.slice (some ⟨g7, 0, none⟩) 0 n3) 0 [] ∧ Below w2.heap.size w2 wx)
    case first =>
      refine wp_region_mix3 (.take 0 (.take 2 (.take 3 (.fork 1 (.fork 4 (.bar 5 (.bar 6 (.take 7 .nil))) 5 (.fork 4 (.bar 6 (.take 7 .nil)) 6 (.bar 4 (.take 7 .nil)))) 4 (.fork 1 (.bar 5 (.bar 6 (.take 7 .nil))) 5 (.bar 1 (.bar 6 (.take 7 .nil)))) 5 (.fork 1 (.fork 4 (.bar 6 (.take 7 .nil)) 6 (.bar 4 (.take 7 .nil))) 4 (.bar 1 (.bar 6 (.take 7 .nil)))))))) (fun w' => w'.cell? ⟨gb, 0, none⟩ = some (.slice A1 n1 c1) ∧ w'.cell? ⟨gb, 1, none⟩ = some (.slice A2 n2 c2)) (by kernel_rfl) (by kernel_rfl) ⟨P2.out.cell 0, P2.out.cell 1⟩ (fun _ => ?_)
      have U0 := qh ((Below.refl w2.heap.size w2).drew)
      generalize w2.drew = u0 at U0 ⊢
      repeat (refine wpMix3_take (v := ?_) (by rfl) (by rfl) (fun wS hSt => ?_) ?_; rotate_left; (focus ((try dsimp only at hSt); (go_simp <;> with_reducible rfl); done)); (try simp only [Act.put, pS, pZ, pC]))
      refine wpMix3_fork (by rfl) (by rfl) (by rfl) (fun K hK => ?_) (fun K hK => ?_) (fun K hK => ?_)
      · skip
        go_simp
        refine (copyOfC_any A1 A2 n1 c1 n2 c2 room us u0 (H2.out.up U0.out) (clOk_sh Hok.out) (by omega)).mono ?_; rintro e u1 ⟨A3, c3, A4, c4, rfl, hoc, hb⟩
        have U1 := qh (U0.out.trans (hb.mono U0.out.size))
        have C1 := qh (hoc.low U0.out.size)
        ((try dsimp only); refine nxK hK _ _ (⟨(P2.out.below U1.out P2.out.lt).cell 0, (P2.out.below U1.out P2.out.lt).cell 1⟩) ?_; clear hK K; (try simp only [Act.put, pS, pZ, pC]))
        clear hoc hb
        refine wpMix_fork (by rfl) (by rfl) (fun K hK => ?_) (fun K hK => ?_)
        · skip
          go_simp
          have hb := alloc_up u1 (.cells mc 3)
          have U2 := qh (U1.out.trans (hb.mono U1.out.size))
          have C2 := qh (C1.out.keepTU (KeepTU.up hb))
          have R2 := qh (World.ownsRow_made (base := w2.heap.size) (e := 3) (size := 1) u1 mc n3 U1.out.size (by unfold maxLen; omega) hmcs)
          ((try dsimp only); refine nxK hK _ _ (⟨(P2.out.below U2.out P2.out.lt).cell 0, (P2.out.below U2.out P2.out.lt).cell 1⟩) ?_; clear hK K; (try simp only [Act.put, pS, pZ, pC]))
          generalize u1.heap.size = g7 at R2 ⊢
          generalize u1.alloc (.cells mc 3) = u2 at U2 C2 R2 ⊢
          clear hb
          refine wpMix_bar (by rfl) (fun K hK => ?_)
          go_simp
          have hb := alloc_up u2 (.cells #[.slice none 0 0, .slice none 0 0] 26)
          have U3 := qh (U2.out.trans (hb.mono U2.out.size))
          have C3 := qh (C2.out.keepTU (KeepTU.up hb))
          have R3 := qh (own_up' R2.out hb)
          have Z3 := qh (Blk.new u2 26 #[.slice none 0 0, .slice none 0 0])
          have hgz : w2.heap.size ≤ u2.heap.size := U2.out.size
          ((try dsimp only); refine nxK hK _ _ (⟨(P2.out.below U3.out P2.out.lt).cell 0, (P2.out.below U3.out P2.out.lt).cell 1⟩) ?_; clear hK K; (try simp only [Act.put, pS, pZ, pC]))
          generalize u2.heap.size = gz at Z3 hgz ⊢
          generalize u2.alloc (.cells #[.slice none 0 0, .slice none 0 0] 26) = u3 at U3 C3 R3 Z3 ⊢
          clear hb
          refine wpMix_bar (by rfl) (fun K hK => ?_)
          have x0 := Z3.out.cell 0
          have x1 := Z3.out.cell 1
          simp only [gT, gZ, gS] at x0 x1
          have x2 := Z3.out.frozen 0
          have x3 := Z3.out.frozen 1
          go_simp
          have KT := (KeepTU.set_ Z3.out (by decide) (by decide) (by decide) 0 (.slice A3 n1 c3)).trans (KeepTU.set_ (Z3.out.set_ 0 (.slice A3 n1 c3)) (by decide) (by decide) (by decide) 1 (.slice A4 n2 c4))
          have U4 := qh ((U3.out.setCell (p := ⟨gz, 0, none⟩) hgz (.slice A3 n1 c3)).setCell (p := ⟨gz, 1, none⟩) hgz (.slice A4 n2 c4))
          have C4 := qh (C3.out.keepTU KT)
          have R4 := qh (own_keepTI R3.out (.inl rfl) KT.ti)
          have Z4 := qh (show Blk (World.setCell (World.setCell u3 ⟨gz, 0, none⟩ (.slice A3 n1 c3)) ⟨gz, 1, none⟩ (.slice A4 n2 c4)) gz 26 #[.slice A3 n1 c3, .slice A4 n2 c4] from (Z3.out.set_ 0 (.slice A3 n1 c3)).set_ 1 (.slice A4 n2 c4))
          ((try dsimp only); refine nxK hK _ _ (⟨(P2.out.below U4.out P2.out.lt).cell 0, (P2.out.below U4.out P2.out.lt).cell 1⟩) ?_; clear hK K; (try simp only [Act.put, pS, pZ, pC]))
          clear x0 x1 x2 x3 KT
          generalize (World.setCell (World.setCell u3 ⟨gz, 0, none⟩ (.slice A3 n1 c3)) ⟨gz, 1, none⟩ (.slice A4 n2 c4)) = u4 at U4 C4 R4 Z4 ⊢
          repeat ((first | refine wpMix_skip (by rfl) (by rfl) ?_ | (refine wpMix_take (v := ?_) (by rfl) (by rfl) (fun wS hSt => ?_) ?_; rotate_left; (focus ((try dsimp only at hSt); (go_simp <;> with_reducible rfl); done)))); (try simp only [Act.put, pS, pZ, pC]))
          refine wpMix_nil ?_
          go_wp2_with fail
          go_meet
          case rel => exact ⟨gz, g7, A3, A4, c3, c4, rfl, rfl, hgz, Z4.out, C4.out, R4.out, U4.out⟩
        · skip
          go_simp
          have hb := alloc_up u1 (.cells #[.slice none 0 0, .slice none 0 0] 26)
          have U2 := qh (U1.out.trans (hb.mono U1.out.size))
          have C2 := qh (C1.out.keepTU (KeepTU.up hb))
          have Z2 := qh (Blk.new u1 26 #[.slice none 0 0, .slice none 0 0])
          have hgz : w2.heap.size ≤ u1.heap.size := U1.out.size
          ((try dsimp only); refine nxK hK _ _ (⟨(P2.out.below U2.out P2.out.lt).cell 0, (P2.out.below U2.out P2.out.lt).cell 1⟩) ?_; clear hK K; (try simp only [Act.put, pS, pZ, pC]))
          generalize u1.heap.size = gz at Z2 hgz ⊢
          generalize u1.alloc (.cells #[.slice none 0 0, .slice none 0 0] 26) = u2 at U2 C2 Z2 ⊢
          clear hb
          refine wpMix_fork (by rfl) (by rfl) (fun K hK => ?_) (fun K hK => ?_)
          · skip
            go_simp
            have hb := alloc_up u2 (.cells mc 3)
            have U3 := qh (U2.out.trans (hb.mono U2.out.size))
            have C3 := qh (C2.out.keepTU (KeepTU.up hb))
            have Z3 := qh (Z2.out.below hb Z2.out.lt)
            have R3 := qh (World.ownsRow_made (base := w2.heap.size) (e := 3) (size := 1) u2 mc n3 U2.out.size (by unfold maxLen; omega) hmcs)
            ((try dsimp only); refine nxK hK _ _ (⟨(P2.out.below U3.out P2.out.lt).cell 0, (P2.out.below U3.out P2.out.lt).cell 1⟩) ?_; clear hK K; (try simp only [Act.put, pS, pZ, pC]))
            generalize u2.heap.size = g7 at R3 ⊢
            generalize u2.alloc (.cells mc 3) = u3 at U3 C3 R3 Z3 ⊢
            clear hb
            refine wpMix_bar (by rfl) (fun K hK => ?_)
            have x0 := Z3.out.cell 0
            have x1 := Z3.out.cell 1
            simp only [gT, gZ, gS] at x0 x1
            have x2 := Z3.out.frozen 0
            have x3 := Z3.out.frozen 1
            go_simp
            have KT := (KeepTU.set_ Z3.out (by decide) (by decide) (by decide) 0 (.slice A3 n1 c3)).trans (KeepTU.set_ (Z3.out.set_ 0 (.slice A3 n1 c3)) (by decide) (by decide) (by decide) 1 (.slice A4 n2 c4))
            have U4 := qh ((U3.out.setCell (p := ⟨gz, 0, none⟩) hgz (.slice A3 n1 c3)).setCell (p := ⟨gz, 1, none⟩) hgz (.slice A4 n2 c4))
            have C4 := qh (C3.out.keepTU KT)
            have R4 := qh (own_keepTI R3.out (.inl rfl) KT.ti)
            have Z4 := qh (show Blk (World.setCell (World.setCell u3 ⟨gz, 0, none⟩ (.slice A3 n1 c3)) ⟨gz, 1, none⟩ (.slice A4 n2 c4)) gz 26 #[.slice A3 n1 c3, .slice A4 n2 c4] from (Z3.out.set_ 0 (.slice A3 n1 c3)).set_ 1 (.slice A4 n2 c4))
            ((try dsimp only); refine nxK hK _ _ (⟨(P2.out.below U4.out P2.out.lt).cell 0, (P2.out.below U4.out P2.out.lt).cell 1⟩) ?_; clear hK K; (try simp only [Act.put, pS, pZ, pC]))
            clear x0 x1 x2 x3 KT
            generalize (World.setCell (World.setCell u3 ⟨gz, 0, none⟩ (.slice A3 n1 c3)) ⟨gz, 1, none⟩ (.slice A4 n2 c4)) = u4 at U4 C4 R4 Z4 ⊢
            repeat ((first | refine wpMix_skip (by rfl) (by rfl) ?_ | (refine wpMix_take (v := ?_) (by rfl) (by rfl) (fun wS hSt => ?_) ?_; rotate_left; (focus ((try dsimp only at hSt); (go_simp <;> with_reducible rfl); done)))); (try simp only [Act.put, pS, pZ, pC]))
            refine wpMix_nil ?_
            go_wp2_with fail
            go_meet
            case rel => exact ⟨gz, g7, A3, A4, c3, c4, rfl, rfl, hgz, Z4.out, C4.out, R4.out, U4.out⟩
          · skip
            have x0 := Z2.out.cell 0
            have x1 := Z2.out.cell 1
            simp only [gT, gZ, gS] at x0 x1
            have x2 := Z2.out.frozen 0
            have x3 := Z2.out.frozen 1
            go_simp
            have KT := (KeepTU.set_ Z2.out (by decide) (by decide) (by decide) 0 (.slice A3 n1 c3)).trans (KeepTU.set_ (Z2.out.set_ 0 (.slice A3 n1 c3)) (by decide) (by decide) (by decide) 1 (.slice A4 n2 c4))
            have U3 := qh ((U2.out.setCell (p := ⟨gz, 0, none⟩) hgz (.slice A3 n1 c3)).setCell (p := ⟨gz, 1, none⟩) hgz (.slice A4 n2 c4))
            have C3 := qh (C2.out.keepTU KT)
            have Z3 := qh (show Blk (World.setCell (World.setCell u2 ⟨gz, 0, none⟩ (.slice A3 n1 c3)) ⟨gz, 1, none⟩ (.slice A4 n2 c4)) gz 26 #[.slice A3 n1 c3, .slice A4 n2 c4] from (Z2.out.set_ 0 (.slice A3 n1 c3)).set_ 1 (.slice A4 n2 c4))
            ((try dsimp only); refine nxK hK _ _ (⟨(P2.out.below U3.out P2.out.lt).cell 0, (P2.out.below U3.out P2.out.lt).cell 1⟩) ?_; clear hK K; (try simp only [Act.put, pS, pZ, pC]))
            clear x0 x1 x2 x3 KT
            generalize (World.setCell (World.setCell u2 ⟨gz, 0, none⟩ (.slice A3 n1 c3)) ⟨gz, 1, none⟩ (.slice A4 n2 c4)) = u3 at U3 C3 Z3 ⊢
            refine wpMix_bar (by rfl) (fun K hK => ?_)
            go_simp
            have hb := alloc_up u3 (.cells mc 3)
            have U4 := qh (U3.out.trans (hb.mono U3.out.size))
            have C4 := qh (C3.out.keepTU (KeepTU.up hb))
            have Z4 := qh (Z3.out.below hb Z3.out.lt)
            have R4 := qh (World.ownsRow_made (base := w2.heap.size) (e := 3) (size := 1) u3 mc n3 U3.out.size (by unfold maxLen; omega) hmcs)
            ((try dsimp only); refine nxK hK _ _ (⟨(P2.out.below U4.out P2.out.lt).cell 0, (P2.out.below U4.out P2.out.lt).cell 1⟩) ?_; clear hK K; (try simp only [Act.put, pS, pZ, pC]))
            generalize u3.heap.size = g7 at R4 ⊢
            generalize u3.alloc (.cells mc 3) = u4 at U4 C4 R4 Z4 ⊢
            clear hb
            repeat ((first | refine wpMix_skip (by rfl) (by rfl) ?_ | (refine wpMix_take (v := ?_) (by rfl) (by rfl) (fun wS hSt => ?_) ?_; rotate_left; (focus ((try dsimp only at hSt); (go_simp <;> with_reducible rfl); done)))); (try simp only [Act.put, pS, pZ, pC]))
            refine wpMix_nil ?_
            go_wp2_with fail
            go_meet
            case rel => exact ⟨gz, g7, A3, A4, c3, c4, rfl, rfl, hgz, Z4.out, C4.out, R4.out, U4.out⟩
      · skip
        go_simp
        have hb := alloc_up u0 (.cells mc 3)
        have U1 := qh (U0.out.trans (hb.mono U0.out.size))
        have R1 := qh (World.ownsRow_made (base := w2.heap.size) (e := 3) (size := 1) u0 mc n3 U0.out.size (by unfold maxLen; omega) hmcs)
        ((try dsimp only); refine nxK hK _ _ (⟨(P2.out.below U1.out P2.out.lt).cell 0, (P2.out.below U1.out P2.out.lt).cell 1⟩) ?_; clear hK K; (try simp only [Act.put, pS, pZ, pC]))
        generalize u0.heap.size = g7 at R1 ⊢
        generalize u0.alloc (.cells mc 3) = u1 at U1 R1 ⊢
        clear hb
        refine wpMix_fork (by rfl) (by rfl) (fun K hK => ?_) (fun K hK => ?_)
        · skip
          go_simp
          refine (copyOfC_any A1 A2 n1 c1 n2 c2 room us u1 (H2.out.up U1.out) (clOk_sh Hok.out) (by omega)).mono ?_; rintro e u2 ⟨A3, c3, A4, c4, rfl, hoc, hb⟩
          have U2 := qh (U1.out.trans (hb.mono U1.out.size))
          have C2 := qh (hoc.low U1.out.size)
          have R2 := qh (own_up' R1.out hb)
          ((try dsimp only); refine nxK hK _ _ (⟨(P2.out.below U2.out P2.out.lt).cell 0, (P2.out.below U2.out P2.out.lt).cell 1⟩) ?_; clear hK K; (try simp only [Act.put, pS, pZ, pC]))
          clear hoc hb
          refine wpMix_bar (by rfl) (fun K hK => ?_)
          go_simp
          have hb := alloc_up u2 (.cells #[.slice none 0 0, .slice none 0 0] 26)
          have U3 := qh (U2.out.trans (hb.mono U2.out.size))
          have C3 := qh (C2.out.keepTU (KeepTU.up hb))
          have R3 := qh (own_up' R2.out hb)
          have Z3 := qh (Blk.new u2 26 #[.slice none 0 0, .slice none 0 0])
          have hgz : w2.heap.size ≤ u2.heap.size := U2.out.size
          ((try dsimp only); refine nxK hK _ _ (⟨(P2.out.below U3.out P2.out.lt).cell 0, (P2.out.below U3.out P2.out.lt).cell 1⟩) ?_; clear hK K; (try simp only [Act.put, pS, pZ, pC]))
          generalize u2.heap.size = gz at Z3 hgz ⊢
          generalize u2.alloc (.cells #[.slice none 0 0, .slice none 0 0] 26) = u3 at U3 C3 R3 Z3 ⊢
          clear hb
          refine wpMix_bar (by rfl) (fun K hK => ?_)
          have x0 := Z3.out.cell 0
          have x1 := Z3.out.cell 1
          simp only [gT, gZ, gS] at x0 x1
          have x2 := Z3.out.frozen 0
          have x3 := Z3.out.frozen 1
          go_simp
          have KT := (KeepTU.set_ Z3.out (by decide) (by decide) (by decide) 0 (.slice A3 n1 c3)).trans (KeepTU.set_ (Z3.out.set_ 0 (.slice A3 n1 c3)) (by decide) (by decide) (by decide) 1 (.slice A4 n2 c4))
          have U4 := qh ((U3.out.setCell (p := ⟨gz, 0, none⟩) hgz (.slice A3 n1 c3)).setCell (p := ⟨gz, 1, none⟩) hgz (.slice A4 n2 c4))
          have C4 := qh (C3.out.keepTU KT)
          have R4 := qh (own_keepTI R3.out (.inl rfl) KT.ti)
          have Z4 := qh (show Blk (World.setCell (World.setCell u3 ⟨gz, 0, none⟩ (.slice A3 n1 c3)) ⟨gz, 1, none⟩ (.slice A4 n2 c4)) gz 26 #[.slice A3 n1 c3, .slice A4 n2 c4] from (Z3.out.set_ 0 (.slice A3 n1 c3)).set_ 1 (.slice A4 n2 c4))
          ((try dsimp only); refine nxK hK _ _ (⟨(P2.out.below U4.out P2.out.lt).cell 0, (P2.out.below U4.out P2.out.lt).cell 1⟩) ?_; clear hK K; (try simp only [Act.put, pS, pZ, pC]))
          clear x0 x1 x2 x3 KT
          generalize (World.setCell (World.setCell u3 ⟨gz, 0, none⟩ (.slice A3 n1 c3)) ⟨gz, 1, none⟩ (.slice A4 n2 c4)) = u4 at U4 C4 R4 Z4 ⊢
          repeat ((first | refine wpMix_skip (by rfl) (by rfl) ?_ | (refine wpMix_take (v := ?_) (by rfl) (by rfl) (fun wS hSt => ?_) ?_; rotate_left; (focus ((try dsimp only at hSt); (go_simp <;> with_reducible rfl); done)))); (try simp only [Act.put, pS, pZ, pC]))
          refine wpMix_nil ?_
          go_wp2_with fail
          go_meet
          case rel => exact ⟨gz, g7, A3, A4, c3, c4, rfl, rfl, hgz, Z4.out, C4.out, R4.out, U4.out⟩
        · skip
          go_simp
          have hb := alloc_up u1 (.cells #[.slice none 0 0, .slice none 0 0] 26)
          have U2 := qh (U1.out.trans (hb.mono U1.out.size))
          have R2 := qh (own_up' R1.out hb)
          have Z2 := qh (Blk.new u1 26 #[.slice none 0 0, .slice none 0 0])
          have hgz : w2.heap.size ≤ u1.heap.size := U1.out.size
          ((try dsimp only); refine nxK hK _ _ (⟨(P2.out.below U2.out P2.out.lt).cell 0, (P2.out.below U2.out P2.out.lt).cell 1⟩) ?_; clear hK K; (try simp only [Act.put, pS, pZ, pC]))
          generalize u1.heap.size = gz at Z2 hgz ⊢
          generalize u1.alloc (.cells #[.slice none 0 0, .slice none 0 0] 26) = u2 at U2 R2 Z2 ⊢
          clear hb
          refine wpMix_bar (by rfl) (fun K hK => ?_)
          go_simp
          refine (copyOfC_any A1 A2 n1 c1 n2 c2 room us u2 (H2.out.up U2.out) (clOk_sh Hok.out) (by omega)).mono ?_; rintro e u3 ⟨A3, c3, A4, c4, rfl, hoc, hb⟩
          have U3 := qh (U2.out.trans (hb.mono U2.out.size))
          have C3 := qh (hoc.low U2.out.size)
          have R3 := qh (own_up' R2.out hb)
          have Z3 := qh (Z2.out.below hb Z2.out.lt)
          ((try dsimp only); refine nxK hK _ _ (⟨(P2.out.below U3.out P2.out.lt).cell 0, (P2.out.below U3.out P2.out.lt).cell 1⟩) ?_; clear hK K; (try simp only [Act.put, pS, pZ, pC]))
          clear hoc hb
          refine wpMix_bar (by rfl) (fun K hK => ?_)
          have x0 := Z3.out.cell 0
          have x1 := Z3.out.cell 1
          simp only [gT, gZ, gS] at x0 x1
          have x2 := Z3.out.frozen 0
          have x3 := Z3.out.frozen 1
          go_simp
          have KT := (KeepTU.set_ Z3.out (by decide) (by decide) (by decide) 0 (.slice A3 n1 c3)).trans (KeepTU.set_ (Z3.out.set_ 0 (.slice A3 n1 c3)) (by decide) (by decide) (by decide) 1 (.slice A4 n2 c4))
          have U4 := qh ((U3.out.setCell (p := ⟨gz, 0, none⟩) hgz (.slice A3 n1 c3)).setCell (p := ⟨gz, 1, none⟩) hgz (.slice A4 n2 c4))
          have C4 := qh (C3.out.keepTU KT)
          have R4 := qh (own_keepTI R3.out (.inl rfl) KT.ti)
          have Z4 := qh (show Blk (World.setCell (World.setCell u3 ⟨gz, 0, none⟩ (.slice A3 n1 c3)) ⟨gz, 1, none⟩ (.slice A4 n2 c4)) gz 26 #[.slice A3 n1 c3, .slice A4 n2 c4] from (Z3.out.set_ 0 (.slice A3 n1 c3)).set_ 1 (.slice A4 n2 c4))
          ((try dsimp only); refine nxK hK _ _ (⟨(P2.out.below U4.out P2.out.lt).cell 0, (P2.out.below U4.out P2.out.lt).cell 1⟩) ?_; clear hK K; (try simp only [Act.put, pS, pZ, pC]))
          clear x0 x1 x2 x3 KT
          generalize (World.setCell (World.setCell u3 ⟨gz, 0, none⟩ (.slice A3 n1 c3)) ⟨gz, 1, none⟩ (.slice A4 n2 c4)) = u4 at U4 C4 R4 Z4 ⊢
          repeat ((first | refine wpMix_skip (by rfl) (by rfl) ?_ | (refine wpMix_take (v := ?_) (by rfl) (by rfl) (fun wS hSt => ?_) ?_; rotate_left; (focus ((try dsimp only at hSt); (go_simp <;> with_reducible rfl); done)))); (try simp only [Act.put, pS, pZ, pC]))
          refine wpMix_nil ?_
          go_wp2_with fail
          go_meet
          case rel => exact ⟨gz, g7, A3, A4, c3, c4, rfl, rfl, hgz, Z4.out, C4.out, R4.out, U4.out⟩
      · skip
        go_simp
        have hb := alloc_up u0 (.cells #[.slice none 0 0, .slice none 0 0] 26)
        have U1 := qh (U0.out.trans (hb.mono U0.out.size))
        have Z1 := qh (Blk.new u0 26 #[.slice none 0 0, .slice none 0 0])
        have hgz : w2.heap.size ≤ u0.heap.size := U0.out.size
        ((try dsimp only); refine nxK hK _ _ (⟨(P2.out.below U1.out P2.out.lt).cell 0, (P2.out.below U1.out P2.out.lt).cell 1⟩) ?_; clear hK K; (try simp only [Act.put, pS, pZ, pC]))
        generalize u0.heap.size = gz at Z1 hgz ⊢
        generalize u0.alloc (.cells #[.slice none 0 0, .slice none 0 0] 26) = u1 at U1 Z1 ⊢
        clear hb
        refine wpMix_fork (by rfl) (by rfl) (fun K hK => ?_) (fun K hK => ?_)
        · skip
          go_simp
          refine (copyOfC_any A1 A2 n1 c1 n2 c2 room us u1 (H2.out.up U1.out) (clOk_sh Hok.out) (by omega)).mono ?_; rintro e u2 ⟨A3, c3, A4, c4, rfl, hoc, hb⟩
          have U2 := qh (U1.out.trans (hb.mono U1.out.size))
          have C2 := qh (hoc.low U1.out.size)
          have Z2 := qh (Z1.out.below hb Z1.out.lt)
          ((try dsimp only); refine nxK hK _ _ (⟨(P2.out.below U2.out P2.out.lt).cell 0, (P2.out.below U2.out P2.out.lt).cell 1⟩) ?_; clear hK K; (try simp only [Act.put, pS, pZ, pC]))
          clear hoc hb
          refine wpMix_fork (by rfl) (by rfl) (fun K hK => ?_) (fun K hK => ?_)
          · skip
            go_simp
            have hb := alloc_up u2 (.cells mc 3)
            have U3 := qh (U2.out.trans (hb.mono U2.out.size))
            have C3 := qh (C2.out.keepTU (KeepTU.up hb))
            have Z3 := qh (Z2.out.below hb Z2.out.lt)
            have R3 := qh (World.ownsRow_made (base := w2.heap.size) (e := 3) (size := 1) u2 mc n3 U2.out.size (by unfold maxLen; omega) hmcs)
            ((try dsimp only); refine nxK hK _ _ (⟨(P2.out.below U3.out P2.out.lt).cell 0, (P2.out.below U3.out P2.out.lt).cell 1⟩) ?_; clear hK K; (try simp only [Act.put, pS, pZ, pC]))
            generalize u2.heap.size = g7 at R3 ⊢
            generalize u2.alloc (.cells mc 3) = u3 at U3 C3 R3 Z3 ⊢
            clear hb
            refine wpMix_bar (by rfl) (fun K hK => ?_)
            have x0 := Z3.out.cell 0
            have x1 := Z3.out.cell 1
            simp only [gT, gZ, gS] at x0 x1
            have x2 := Z3.out.frozen 0
            have x3 := Z3.out.frozen 1
            go_simp
            have KT := (KeepTU.set_ Z3.out (by decide) (by decide) (by decide) 0 (.slice A3 n1 c3)).trans (KeepTU.set_ (Z3.out.set_ 0 (.slice A3 n1 c3)) (by decide) (by decide) (by decide) 1 (.slice A4 n2 c4))
            have U4 := qh ((U3.out.setCell (p := ⟨gz, 0, none⟩) hgz (.slice A3 n1 c3)).setCell (p := ⟨gz, 1, none⟩) hgz (.slice A4 n2 c4))
            have C4 := qh (C3.out.keepTU KT)
            have R4 := qh (own_keepTI R3.out (.inl rfl) KT.ti)
            have Z4 := qh (show Blk (World.setCell (World.setCell u3 ⟨gz, 0, none⟩ (.slice A3 n1 c3)) ⟨gz, 1, none⟩ (.slice A4 n2 c4)) gz 26 #[.slice A3 n1 c3, .slice A4 n2 c4] from (Z3.out.set_ 0 (.slice A3 n1 c3)).set_ 1 (.slice A4 n2 c4))
            ((try dsimp only); refine nxK hK _ _ (⟨(P2.out.below U4.out P2.out.lt).cell 0, (P2.out.below U4.out P2.out.lt).cell 1⟩) ?_; clear hK K; (try simp only [Act.put, pS, pZ, pC]))
            clear x0 x1 x2 x3 KT
            generalize (World.setCell (World.setCell u3 ⟨gz, 0, none⟩ (.slice A3 n1 c3)) ⟨gz, 1, none⟩ (.slice A4 n2 c4)) = u4 at U4 C4 R4 Z4 ⊢
            repeat ((first | refine wpMix_skip (by rfl) (by rfl) ?_ | (refine wpMix_take (v := ?_) (by rfl) (by rfl) (fun wS hSt => ?_) ?_; rotate_left; (focus ((try dsimp only at hSt); (go_simp <;> with_reducible rfl); done)))); (try simp only [Act.put, pS, pZ, pC]))
            refine wpMix_nil ?_
            go_wp2_with fail
            go_meet
            case rel => exact ⟨gz, g7, A3, A4, c3, c4, rfl, rfl, hgz, Z4.out, C4.out, R4.out, U4.out⟩
          · skip
            have x0 := Z2.out.cell 0
            have x1 := Z2.out.cell 1
            simp only [gT, gZ, gS] at x0 x1
            have x2 := Z2.out.frozen 0
            have x3 := Z2.out.frozen 1
            go_simp
            have KT := (KeepTU.set_ Z2.out (by decide) (by decide) (by decide) 0 (.slice A3 n1 c3)).trans (KeepTU.set_ (Z2.out.set_ 0 (.slice A3 n1 c3)) (by decide) (by decide) (by decide) 1 (.slice A4 n2 c4))
            have U3 := qh ((U2.out.setCell (p := ⟨gz, 0, none⟩) hgz (.slice A3 n1 c3)).setCell (p := ⟨gz, 1, none⟩) hgz (.slice A4 n2 c4))
            have C3 := qh (C2.out.keepTU KT)
            have Z3 := qh (show Blk (World.setCell (World.setCell u2 ⟨gz, 0, none⟩ (.slice A3 n1 c3)) ⟨gz, 1, none⟩ (.slice A4 n2 c4)) gz 26 #[.slice A3 n1 c3, .slice A4 n2 c4] from (Z2.out.set_ 0 (.slice A3 n1 c3)).set_ 1 (.slice A4 n2 c4))
            ((try dsimp only); refine nxK hK _ _ (⟨(P2.out.below U3.out P2.out.lt).cell 0, (P2.out.below U3.out P2.out.lt).cell 1⟩) ?_; clear hK K; (try simp only [Act.put, pS, pZ, pC]))
            clear x0 x1 x2 x3 KT
            generalize (World.setCell (World.setCell u2 ⟨gz, 0, none⟩ (.slice A3 n1 c3)) ⟨gz, 1, none⟩ (.slice A4 n2 c4)) = u3 at U3 C3 Z3 ⊢
            refine wpMix_bar (by rfl) (fun K hK => ?_)
            go_simp
            have hb := alloc_up u3 (.cells mc 3)
            have U4 := qh (U3.out.trans (hb.mono U3.out.size))
            have C4 := qh (C3.out.keepTU (KeepTU.up hb))
            have Z4 := qh (Z3.out.below hb Z3.out.lt)
            have R4 := qh (World.ownsRow_made (base := w2.heap.size) (e := 3) (size := 1) u3 mc n3 U3.out.size (by unfold maxLen; omega) hmcs)
            ((try dsimp only); refine nxK hK _ _ (⟨(P2.out.below U4.out P2.out.lt).cell 0, (P2.out.below U4.out P2.out.lt).cell 1⟩) ?_; clear hK K; (try simp only [Act.put, pS, pZ, pC]))
            generalize u3.heap.size = g7 at R4 ⊢
            generalize u3.alloc (.cells mc 3) = u4 at U4 C4 R4 Z4 ⊢
            clear hb
            repeat ((first | refine wpMix_skip (by rfl) (by rfl) ?_ | (refine wpMix_take (v := ?_) (by rfl) (by rfl) (fun wS hSt => ?_) ?_; rotate_left; (focus ((try dsimp only at hSt); (go_simp <;> with_reducible rfl); done)))); (try simp only [Act.put, pS, pZ, pC]))
            refine wpMix_nil ?_
            go_wp2_with fail
            go_meet
            case rel => exact ⟨gz, g7, A3, A4, c3, c4, rfl, rfl, hgz, Z4.out, C4.out, R4.out, U4.out⟩
        · skip
          go_simp
          have hb := alloc_up u1 (.cells mc 3)
          have U2 := qh (U1.out.trans (hb.mono U1.out.size))
          have Z2 := qh (Z1.out.below hb Z1.out.lt)
          have R2 := qh (World.ownsRow_made (base := w2.heap.size) (e := 3) (size := 1) u1 mc n3 U1.out.size (by unfold maxLen; omega) hmcs)
          ((try dsimp only); refine nxK hK _ _ (⟨(P2.out.below U2.out P2.out.lt).cell 0, (P2.out.below U2.out P2.out.lt).cell 1⟩) ?_; clear hK K; (try simp only [Act.put, pS, pZ, pC]))
          generalize u1.heap.size = g7 at R2 ⊢
          generalize u1.alloc (.cells mc 3) = u2 at U2 R2 Z2 ⊢
          clear hb
          refine wpMix_bar (by rfl) (fun K hK => ?_)
          go_simp
          refine (copyOfC_any A1 A2 n1 c1 n2 c2 room us u2 (H2.out.up U2.out) (clOk_sh Hok.out) (by omega)).mono ?_; rintro e u3 ⟨A3, c3, A4, c4, rfl, hoc, hb⟩
          have U3 := qh (U2.out.trans (hb.mono U2.out.size))
          have C3 := qh (hoc.low U2.out.size)
          have R3 := qh (own_up' R2.out hb)
          have Z3 := qh (Z2.out.below hb Z2.out.lt)
          ((try dsimp only); refine nxK hK _ _ (⟨(P2.out.below U3.out P2.out.lt).cell 0, (P2.out.below U3.out P2.out.lt).cell 1⟩) ?_; clear hK K; (try simp only [Act.put, pS, pZ, pC]))
          clear hoc hb
          refine wpMix_bar (by rfl) (fun K hK => ?_)
          have x0 := Z3.out.cell 0
          have x1 := Z3.out.cell 1
          simp only [gT, gZ, gS] at x0 x1
          have x2 := Z3.out.frozen 0
          have x3 := Z3.out.frozen 1
          go_simp
          have KT := (KeepTU.set_ Z3.out (by decide) (by decide) (by decide) 0 (.slice A3 n1 c3)).trans (KeepTU.set_ (Z3.out.set_ 0 (.slice A3 n1 c3)) (by decide) (by decide) (by decide) 1 (.slice A4 n2 c4))
          have U4 := qh ((U3.out.setCell (p := ⟨gz, 0, none⟩) hgz (.slice A3 n1 c3)).setCell (p := ⟨gz, 1, none⟩) hgz (.slice A4 n2 c4))
          have C4 := qh (C3.out.keepTU KT)
          have R4 := qh (own_keepTI R3.out (.inl rfl) KT.ti)
          have Z4 := qh (show Blk (World.setCell (World.setCell u3 ⟨gz, 0, none⟩ (.slice A3 n1 c3)) ⟨gz, 1, none⟩ (.slice A4 n2 c4)) gz 26 #[.slice A3 n1 c3, .slice A4 n2 c4] from (Z3.out.set_ 0 (.slice A3 n1 c3)).set_ 1 (.slice A4 n2 c4))
          ((try dsimp only); refine nxK hK _ _ (⟨(P2.out.below U4.out P2.out.lt).cell 0, (P2.out.below U4.out P2.out.lt).cell 1⟩) ?_; clear hK K; (try simp only [Act.put, pS, pZ, pC]))
          clear x0 x1 x2 x3 KT
          generalize (World.setCell (World.setCell u3 ⟨gz, 0, none⟩ (.slice A3 n1 c3)) ⟨gz, 1, none⟩ (.slice A4 n2 c4)) = u4 at U4 C4 R4 Z4 ⊢
          repeat ((first | refine wpMix_skip (by rfl) (by rfl) ?_ | (refine wpMix_take (v := ?_) (by rfl) (by rfl) (fun wS hSt => ?_) ?_; rotate_left; (focus ((try dsimp only at hSt); (go_simp <;> with_reducible rfl); done)))); (try simp only [Act.put, pS, pZ, pC]))
          refine wpMix_nil ?_
          go_wp2_with fail
          go_meet
          case rel => exact ⟨gz, g7, A3, A4, c3, c4, rfl, rfl, hgz, Z4.out, C4.out, R4.out, U4.out⟩
    case rest =>
      obtain ⟨gz, g7, A3, A4, c3, c4, rfl, rfl, hgz, hz, hc, hr, hu⟩ := hcut
      have Hz := qh hz
      have Hc := qh hc
      have Hr := qh hr
      have Hu := qh hu
      clear hz hc hr hu
      obtain ⟨wd, rfl⟩ : ∃ wd : World, wd = wc := ⟨_, rfl⟩
      go_wp2_with fail
      go_loopw [7, 28] (fun v7 kv wr => ∃ (k : Nat) (A3 A4 : Option Addr) (m3 c3 m4 c4 md : Nat), kv = .int .i64 (k : Nat) ∧ k ≤ n3 ∧ v7 = .slice (some ⟨g7, 0, none⟩) k n3 ∧ Blk wr gz 26 #[.slice A3 m3 c3, .slice A4 m4 c4] ∧
        OwnC wr md (.slice A3 m3 c3) (.slice A4 m4 c4) m3 m4 room (playU room (rs.take k) us).1 ∧ wr.ownsRow w2.heap.size 3 1 (.slice (some ⟨g7, 0, none⟩) k n3) k ((playU room (rs.take k) us).2.map (Value.int .i64)) ∧ Below w2.heap.size w2 wr ∧ w2.heap.size ≤ md ∧ md ≤ wr.heap.size ∧ (0 < k → g7 < md)) (fun _ kv _ => n3 - (intOf kv).toNat)
      case atStart => exact ⟨0, A3, A4, _, c3, _, c4, w2.heap.size, rfl, Nat.zero_le _, rfl, Hz.out, Hc.out, Hr.out, Hu.out, Nat.le_refl _, Hu.out.size, fun hp => absurd hp (by omega)⟩
      case round =>
        clear Hz Hc Hr Hu
        obtain ⟨k, A3, A4, m3, c3, m4, c4, md, rfl, hk, rfl, hz, hc, hr, hu, hmd1, hmd2, hmd3⟩ := hrel
        have Hz := qh hz
        have Hc := qh hc
        have Hr := qh hr
        have Hu := qh hu
        clear hz hc hr hu
        by_cases hlt : k < n3
        · have hkl : k < rs.length := by have := Q2.out.len; omega
          have Hok' := qh (play_ok (room := room) (rs.take k) us Hok.out).1
          have Hsn := qh (show playU room (rs.take (k + 1)) us = ((reqP room (playU room (rs.take k) us).1 (rs[k]?.getD ⟨0, 0, [], false, 0⟩)).2.1, (playU room (rs.take k) us).2 ++ [(reqP room (playU room (rs.take k) us).1 (rs[k]?.getD ⟨0, 0, [], false, 0⟩)).2.2]) from by
            rw [List.take_succ_eq_append_getElem hkl, play_snoc, List.getElem?_eq_getElem hkl]; rfl)
          obtain ⟨b, o, rfl, lb, hcs⟩ := (Q2.out.below Hu.out).2.2 (by omega)
          obtain ⟨A', m', c', e0, e1, e2, e3, e4, hmc, hrx⟩ := hcs k hlt
          have q1 : (0 : Int) ≤ (k : Int) := by omega
          have q2 : (k : Int) < (n3 : Int) := by omega
          have q5 : 0 ≤ (k : Int) * 5 := by omega
          have lzr : w2.heap.size ≤ wr.heap.size := Hu.out.size
          have Hrx := qh (hrx.more lzr)
          clear hcs hrx
          generalize (rs[k]?.getD ⟨0, 0, [], false, 0⟩) = r at *
          generalize playU room (rs.take k) us = pu at *
          have al := alloc_up wr (.cells (rqC r A' m' c') 35)
          have U4 := qh (Hu.out.trans (al.mono lzr))
          have Z4 := qh (Hz.out.below al Hz.out.lt)
          have C4 := qh (Hc.out.keepTU (KeepTU.up al))
          have R4 := qh (own_up' Hr.out al)
          have X4 := qh (Hrx.out.up al)
          have P4 := qh (Blk.new wr 35 (rqC r A' m' c'))
          dsimp only [rqC] at al U4 Z4 C4 R4 X4 P4
          have p0 := P4.out.cell 0
          have p1 := P4.out.cell 1
          have p2 := P4.out.cell 2
          have p3 := P4.out.cell 3
          have p4 := P4.out.cell 4
          have x0 := Z4.out.cell 0
          have x1 := Z4.out.cell 1
          simp only [gT, gZ, gS] at p0 p1 p2 p3 p4 x0 x1
          clear al
          go_wp2_with fail
          clear e0 e1 e2 e3 e4 p0 p1 p2 p3 p4 x0 x1 Hrx
          generalize wr.heap.size = gq at P4 lzr ⊢
          generalize wr.alloc (.cells #[.int .i64 r.kind, .int .i64 r.id, .slice A' m' c', .bool r.grant, .int .i64 r.num] 35) = w4 at U4 Z4 C4 R4 X4 P4 ⊢
          have lm3 : room.length = m3 := C4.out.len
          refine (requestDoI_any A3 A4 A' m3 c3 m4 c4 m' c' room pu.1 r w4 (C4.out.rd (by have := (clOk_facts Hok.out).1; omega) (clOk_sh Hok'.out)) (clOk_sh Hok'.out).v X4.out hmc).mono ?_
          rintro e w5 ⟨A5, m5, c5, A6, m6, c6, rfl, hoc, hb5⟩
          rw [(req_facts Hok'.out).1] at hoc
          obtain ⟨cd, hcd⟩ : ∃ cd, cd = (reqP room pu.1 r).2.2 := ⟨_, rfl⟩
          rw [← hcd]
          have Hcd := qh hcd
          have Ln3 := qh lm3
          have U5 := qh (U4.out.trans (hb5.mono U4.out.size))
          have Z5 := qh (Z4.out.below hb5 Z4.out.lt)
          have R5 := qh (own_up' R4.out hb5)
          have C5 := qh hoc
          have l45 : w4.heap.size ≤ w5.heap.size := hb5.size
          have l24 : w2.heap.size ≤ w4.heap.size := U4.out.size
          have al6 := alloc_up w5 (.cells #[.slice A5 m5 c5, .slice A6 m6 c6] 26)
          have U6 := qh (U5.out.trans (al6.mono U5.out.size))
          have Z6 := qh (Z5.out.below al6 Z5.out.lt)
          have R6 := qh (own_up' R5.out al6)
          have C6 := qh (C5.out.keepTU (KeepTU.up al6))
          have y0 := (Blk.new w5 26 #[.slice A5 m5 c5, .slice A6 m6 c6]).cell 0
          have y1 := (Blk.new w5 26 #[.slice A5 m5 c5, .slice A6 m6 c6]).cell 1
          have x0 := Z6.out.cell 0
          have x1 := Z6.out.cell 1
          simp only [gT, gZ, gS] at y0 y1 x0 x1
          have x2 := Z6.out.frozen 0
          have x3 := Z6.out.frozen 1
          have KT := (KeepTU.set_ Z6.out (by decide) (by decide) (by decide) 0 (.slice A5 m5 c5)).trans (KeepTU.set_ (Z6.out.set_ 0 (.slice A5 m5 c5)) (by decide) (by decide) (by decide) 1 (.slice A6 m6 c6))
          have U7 := qh ((U6.out.setCell (p := ⟨gz, 0, none⟩) hgz (.slice A5 m5 c5)).setCell (p := ⟨gz, 1, none⟩) hgz (.slice A6 m6 c6))
          have C7 := qh (C6.out.keepTU KT)
          have R7 := qh (own_keepTI R6.out (.inl rfl) KT.ti)
          have Z7 := qh (show Blk (World.setCell (World.setCell (w5.alloc (.cells #[.slice A5 m5 c5, .slice A6 m6 c6] 26)) ⟨gz, 0, none⟩ (.slice A5 m5 c5)) ⟨gz, 1, none⟩ (.slice A6 m6 c6)) gz 26 #[.slice A5 m5 c5, .slice A6 m6 c6] from (Z6.out.set_ 0 (.slice A5 m5 c5)).set_ 1 (.slice A6 m6 c6))
          have hs7 : (World.setCell (World.setCell (w5.alloc (.cells #[.slice A5 m5 c5, .slice A6 m6 c6] 26)) ⟨gz, 0, none⟩ (.slice A5 m5 c5)) ⟨gz, 1, none⟩ (.slice A6 m6 c6)).heap.size = w5.heap.size + 1 := by simp [World.setCell, World.size_alloc]
          have hS8 := lit1c (World.setCell (World.setCell (w5.alloc (.cells #[.slice A5 m5 c5, .slice A6 m6 c6] 26)) ⟨gz, 0, none⟩ (.slice A5 m5 c5)) ⟨gz, 1, none⟩ (.slice A6 m6 c6)) 3 (.int .i64 cd)
          rw [hs7] at hS8
          have S8 := qh hS8
          have al8 := alloc_up (World.setCell (World.setCell (w5.alloc (.cells #[.slice A5 m5 c5, .slice A6 m6 c6] 26)) ⟨gz, 0, none⟩ (.slice A5 m5 c5)) ⟨gz, 1, none⟩ (.slice A6 m6 c6)) (.cells #[.int .i64 cd] 3)
          have U8 := qh (U7.out.trans (al8.mono U7.out.size))
          have Z8 := qh (Z7.out.below al8 Z7.out.lt)
          have R8 := qh (own_up' R7.out al8)
          have C8 := qh (C7.out.keepTU (KeepTU.up al8))
          have lz8 := U8.out.size
          have lz89 : w5.heap.size ≤ ((World.setCell (World.setCell (w5.alloc (.cells #[.slice A5 m5 c5, .slice A6 m6 c6] 26)) ⟨gz, 0, none⟩ (.slice A5 m5 c5)) ⟨gz, 1, none⟩ (.slice A6 m6 c6)).alloc (.cells #[.int .i64 cd] 3)).heap.size := by rw [World.size_alloc, hs7]; omega
          clear al6 al8 KT hs7 hS8 hoc hb5 hcd lm3 U4 Z4 C4 X4 P4 R5 C5 U5 Z5 R6 C6 U6 Z6 U7 C7 R7 Z7
          dsimp only
          have lg7 : g7 < w4.heap.size := (R4.out.lt g7 rfl).2
          go_wp2_with (at_builtin; refine wpList_append_in rfl _ _ 23 rfl w2.heap.size 3 ii _ 8 Tryz.underlying23 hii hiz0 hiz1 hiz2 rfl g7 k n3 _ rfl R8.out (by omega) ⟨w5.heap.size + 1, 0, none⟩ 1 (.int .i64 cd) rfl (src_one S8.out) rfl (by unfold maxLen; omega) (by omega) lz8 ?_; intro wn hown6 hgrow6)
          refine ⟨⟨k + 1, A5, A6, m5, c5, m6, c6, w4.heap.size, by go_num, by omega, rfl, ?_, ?_, ?_, U8.out.grown hgrow6 lz8 (fun a e => (R8.out.lt a e).1), l24, by have := hgrow6.size; have := C8.out; have := lz89; omega, fun _ => lg7⟩, by simp [intOf]; omega⟩
          · exact (hgrow6.block gz Z8.out.lt (fun e => own_blk_ne R8.out Z8.out (by decide) e.symm)).trans Z8.out
          · rw [Hsn.out]
            exact C8.out.keepR (fun b' hb1 hb2 => hgrow6.block b' hb2 (fun e => by injection e with e; omega))
          · rw [Hsn.out]
            dsimp only
            rw [List.map_append, ← Hcd.out]
            exact hown6
        · obtain rfl : k = n3 := by omega
          have htk : rs.take k = rs := List.take_of_length_le (by have := Q2.out.len; omega)
          have hcc := Hc.out
          have hrr := Hr.out
          rw [htk] at hcc hrr
          have hlen30 : rs.length ≤ 30 := by have := Q2.out.len; omega
          have hpp : playP room us rs = (room, playU room rs us) := play_yes Hok.out hlen30
          have Hpp := qh hpp
          have ZB := qh (Z2.out.below Hu.out Z2.out.lt)
          have x0 := Hz.out.cell 0
          have x1 := Hz.out.cell 1
          have y0 := ZB.out.cell 0
          have y1 := ZB.out.cell 1
          simp only [gT, gZ, gS] at x0 x1 y0 y1
          have y2 := ZB.out.frozen 0
          have y3 := ZB.out.frozen 1
          have BE := qh (B2.out.trans (Hu.out.mono (by omega)))
          have lgb : gb ≤ w2.heap.size := by omega
          have C3 := qh hcc
          have R3 := qh (own_lo hrr lgb)
          clear Hc Hr htk hcc hrr hpp hlen30
          generalize playU room rs us = pu at *
          go_wp2_with fail
          have KT := (KeepTU.set_ ZB.out (by decide) (by decide) (by decide) 0 (.slice A3 m3 c3)).trans (KeepTU.set_ (ZB.out.set_ 0 (.slice A3 m3 c3)) (by decide) (by decide) (by decide) 1 (.slice A4 m4 c4))
          have EQ := qh ((ZB.out.set_ 0 (.slice A3 m3 c3)).set_ 1 (.slice A4 m4 c4))
          have B9 := qh ((BE.out.setCell (p := ⟨gb + 1, 0, none⟩) (by show w.heap.size ≤ gb + 1; omega) (.slice A3 m3 c3)).setCell (p := ⟨gb + 1, 1, none⟩) (by show w.heap.size ≤ gb + 1; omega) (.slice A4 m4 c4))
          have C9 := qh (C3.out.keepTU KT)
          have R9 := qh (own_keepTI R3.out (.inl rfl) KT.ti)
          have hz9 : (World.setCell (World.setCell wr ⟨gb + 1, 0, none⟩ (.slice A3 m3 c3)) ⟨gb + 1, 1, none⟩ (.slice A4 m4 c4)).heap.size = wr.heap.size := by simp [World.setCell]
          clear KT
          generalize World.setCell (World.setCell wr ⟨gb + 1, 0, none⟩ (.slice A3 m3 c3)) ⟨gb + 1, 1, none⟩ (.slice A4 m4 c4) = w9 at EQ B9 C9 R9 hz9 ⊢
          have z0 : w9.cell? ⟨gb + 1, 0, none⟩ = some (.slice A3 m3 c3) := EQ.out.cell 0
          have z1 : w9.cell? ⟨gb + 1, 1, none⟩ = some (.slice A4 m4 c4) := EQ.out.cell 1
          refine bodyPost_ret (v := .tuple #[.agg #[.slice A3 m3 c3, .slice A4 m4 c4], .slice (some ⟨g7, 0, none⟩) k k]) (by simp [results, Tryz.results35, go_sem, z0, z1]) rfl ⟨A3, m3, c3, A4, m4, c4, some ⟨g7, 0, none⟩, k, k, md, rfl, ?_, ?_, B9.out, by omega, by have := hz9; omega, fun hp b hb => by have hb' : g7 = b := Option.some.inj hb; have := hmd3 hp; omega⟩
          · rw [Hpp.out]; exact C9.out
          · rw [Hpp.out, hgb]; exact R9.out
  · have Hpp := qh (play_bad (room := room) (us := us) (rs := rs) (fun h => hgood ⟨h.1, by have := Q2.out.len; omega⟩))
    cases hok : clOk room us with
    | false =>
      clear hok hgood
      have y0 := Z2.out.cell 0
      have y1 := Z2.out.cell 1
      simp only [gT, gZ, gS] at y0 y1
      have y2 := Z2.out.frozen 0
      have y3 := Z2.out.frozen 1
      go_wp2_with fail
      have KT := (KeepTU.set_ Z2.out (by decide) (by decide) (by decide) 0 (.slice none 0 0)).trans (KeepTU.set_ (Z2.out.set_ 0 (.slice none 0 0)) (by decide) (by decide) (by decide) 1 (.slice none 0 0))
      have EQ := qh ((Z2.out.set_ 0 (.slice none 0 0)).set_ 1 (.slice none 0 0))
      have B9 := qh ((B2.out.setCell (p := ⟨gb + 1, 0, none⟩) (by show w.heap.size ≤ gb + 1; omega) (.slice none 0 0)).setCell (p := ⟨gb + 1, 1, none⟩) (by show w.heap.size ≤ gb + 1; omega) (.slice none 0 0))
      clear KT
      generalize World.setCell (World.setCell w2 ⟨gb + 1, 0, none⟩ (.slice none 0 0)) ⟨gb + 1, 1, none⟩ (.slice none 0 0) = w9 at EQ B9 ⊢
      have z0 : w9.cell? ⟨gb + 1, 0, none⟩ = some (.slice none 0 0) := EQ.out.cell 0
      have z1 : w9.cell? ⟨gb + 1, 1, none⟩ = some (.slice none 0 0) := EQ.out.cell 1
      refine bodyPost_ret (v := .tuple #[.agg #[.slice none 0 0, .slice none 0 0], .slice none 0 0]) (by simp [results, Tryz.results35, go_sem, z0, z1]) rfl ⟨none, 0, 0, none, 0, 0, none, 0, 0, w.heap.size, rfl, ?_, ?_, B9.out, Nat.le_refl _, B9.out.size, fun hp => absurd hp (by omega)⟩
      · rw [Hpp.out]; exact OwnC.none B9.out.size
      · rw [Hpp.out]; exact ⟨rfl, .inl ⟨rfl, rfl⟩⟩
    | true =>
      have q30 : (30 : Int) < (n3 : Int) := by have : ¬ n3 ≤ 30 := fun h => hgood ⟨hok, h⟩; omega
      clear hok hgood
      have y0 := Z2.out.cell 0
      have y1 := Z2.out.cell 1
      simp only [gT, gZ, gS] at y0 y1
      have y2 := Z2.out.frozen 0
      have y3 := Z2.out.frozen 1
      go_wp2_with fail
      have KT := (KeepTU.set_ Z2.out (by decide) (by decide) (by decide) 0 (.slice none 0 0)).trans (KeepTU.set_ (Z2.out.set_ 0 (.slice none 0 0)) (by decide) (by decide) (by decide) 1 (.slice none 0 0))
      have EQ := qh ((Z2.out.set_ 0 (.slice none 0 0)).set_ 1 (.slice none 0 0))
      have B9 := qh ((B2.out.setCell (p := ⟨gb + 1, 0, none⟩) (by show w.heap.size ≤ gb + 1; omega) (.slice none 0 0)).setCell (p := ⟨gb + 1, 1, none⟩) (by show w.heap.size ≤ gb + 1; omega) (.slice none 0 0))
      clear KT
      generalize World.setCell (World.setCell w2 ⟨gb + 1, 0, none⟩ (.slice none 0 0)) ⟨gb + 1, 1, none⟩ (.slice none 0 0) = w9 at EQ B9 ⊢
      have z0 : w9.cell? ⟨gb + 1, 0, none⟩ = some (.slice none 0 0) := EQ.out.cell 0
      have z1 : w9.cell? ⟨gb + 1, 1, none⟩ = some (.slice none 0 0) := EQ.out.cell 1
      refine bodyPost_ret (v := .tuple #[.agg #[.slice none 0 0, .slice none 0 0], .slice none 0 0]) (by simp [results, Tryz.results35, go_sem, z0, z1]) rfl ⟨none, 0, 0, none, 0, 0, none, 0, 0, w.heap.size, rfl, ?_, ?_, B9.out, Nat.le_refl _, B9.out.size, fun hp => absurd hp (by omega)⟩
      · rw [Hpp.out]; exact OwnC.none B9.out.size
      · rw [Hpp.out]; exact ⟨rfl, .inl ⟨rfl, rfl⟩⟩

theorem requestsPlayI_any (A1 A2 A3' : Option Addr) (n1 c1 n2 c2 n3 c3' : Nat) (room : List Int) (us : List Un) (rs : List Rq) (w : World) (h : RdC w A1 A2 n1 n2 room us) (hs : ShV us) (hq : RdQ w w.heap.size A3' n3 rs) :
    Calls Tryz.prog 35 #[.agg #[.slice A1 n1 c1, .slice A2 n2 c2], .slice A3' n3 c3'] w fun e w' => ∃ A4 m4 c4 A5 m5 c5 A6 m6 c6, e = .returned (.tuple #[.agg #[.slice A4 m4 c4, .slice A5 m5 c5], .slice A6 m6 c6]) ∧
      OwnC w' w.heap.size (.slice A4 m4 c4) (.slice A5 m5 c5) m4 m5 (playP room us rs).1 (playP room us rs).2.1 ∧ w'.ownsRow w.heap.size 3 1 (.slice A6 m6 c6) m6 ((playP room us rs).2.2.map (Value.int .i64)) ∧ Below w.heap.size w w' :=
  (requestsPlayIM_any A1 A2 A3' n1 c1 n2 c2 n3 c3' room us rs w h hs hq).mono fun e w' ⟨A4, m4, c4, A5, m5, c5, A6, m6, c6, md, he, h1, h2, h3, h4, _, _⟩ => ⟨A4, m4, c4, A5, m5, c5, A6, m6, c6, he, h1.low h4, h2, h3⟩
end Go.Proofs.YtlegpecjoaklnaaGreatDoor
