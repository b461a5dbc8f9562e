/- Several texts in one. -/
import Derived.Test.YtlcgbnmmbheleaaV20
namespace Go.Proofs.Ytlcgbnmmbheleaa
set_option linter.unusedSimpArgs false
set_option linter.unusedVariables false
open Go Go.RowKit

structure Far (w : World) (ob : Nat) (wr : World) : Prop where
  os : wr.os = w.os
  tape : wr.tape = w.tape
  output : wr.output = w.output
  size : w.heap.size ≤ wr.heap.size
  block : ∀ b, b < w.heap.size → b ≠ ob → wr.heap[b]? = w.heap[b]?
section
variable {w wr w' : World} {ob : Nat}
theorem Far.refl (w : World) (ob : Nat) : Far w ob w := ⟨rfl, rfl, rfl, Nat.le_refl _, fun _ _ _ => rfl⟩
theorem Far.below (h : Far w ob wr) (hb : Below wr.heap.size wr w') : Far w ob w' :=
  ⟨hb.os.trans h.os, hb.tape.trans h.tape, hb.output.trans h.output, Nat.le_trans h.size hb.size, fun b h1 h2 => (hb.block b (Nat.lt_of_lt_of_le h1 h.size)).trans (h.block b h1 h2)⟩
theorem Far.drew (h : Far w ob wr) : Far w ob wr.drew := ⟨h.os, h.tape, h.output, h.size, h.block⟩
theorem Far.grown (h : Far w ob wr) {row : Option Nat} (hg : wr.grownBy w' row) (hr : row = some ob ∨ ∃ g, row = some g ∧ w.heap.size ≤ g) : Far w ob w' :=
  ⟨hg.os.trans h.os, hg.tape.trans h.tape, hg.output.trans h.output, Nat.le_trans h.size hg.size, fun b h1 h2 => (hg.block b (Nat.lt_of_lt_of_le h1 h.size) (fun e => by
    rcases hr with hr | ⟨g, hr, hg⟩
    · rw [hr] at e; injection e with e; exact h2 e
    · rw [hr] at e; injection e with e; omega)).trans (h.block b h1 h2)⟩
theorem Far.cell (h : Far w ob wr) {t : TypeId} {f : Nat × Nat} (ho : w.heap[ob]? = some (.cells #[] t f)) {p : Addr} {y : Value} (hy : w.cell? p = some y) : wr.cell? p = some y := by
  have hb : p.block < w.heap.size := by
    unfold World.cell? at hy
    cases hx : w.heap[p.block]? with
    | none => rw [hx] at hy; cases hy
    | some o => exact (Array.getElem?_eq_some_iff.1 hx).1
  have hne : p.block ≠ ob := fun e => by
    unfold World.cell? at hy
    rw [e, ho] at hy
    simp at hy
  exact (World.cell?_of_block (h.block _ hb hne)).trans hy
theorem RdI.gain {v v' : World} {B B' n : Nat} {A : Option Addr} {xs : List Int} (h : RdI v B A n xs) (hc : ∀ (p : Addr) (y : Value), v.cell? p = some y → v'.cell? p = some y) (hB : B ≤ B') : RdI v' B' A n xs :=
  ⟨h.1, h.2.1, fun hn => by
    obtain ⟨b, o, e, hb, hx⟩ := h.2.2 hn
    exact ⟨b, o, e, Nat.lt_of_lt_of_le hb hB, fun j hj => hc _ _ (hx j hj)⟩⟩
end

def RdLd (w : World) (C : Nat) (us : List Un) : Prop :=
  ∀ c, c < us.length → ∃ A m, w.cell? ⟨C, c, none⟩ = some (.slice A 3 m) ∧ RdI w w.heap.size A 3 (loadP (us[c]?.getD (false, [])).2)
def leftP (room : List Int) (u : Un) : Int := if u.1 then room.sum - (loadP u.2).sum else -1
def leftsP (room : List Int) (us : List Un) : List Int := us.map (leftP room)
theorem lefts_succ {room : List Int} {us : List Un} {k : Nat} (h : k < us.length) : leftsP room (us.take (k + 1)) = leftsP room (us.take k) ++ [leftP room (us[k]?.getD (false, []))] := by
  unfold leftsP
  rw [List.take_succ_eq_append_getElem h, List.map_append, List.getElem?_eq_getElem h]
  rfl
theorem sum3 {xs : List Int} (h : xs.length = 3) : xs.sum = xs[0]?.getD 0 + xs[1]?.getD 0 + xs[2]?.getD 0 := by
  match xs, h with
  | [a, b, c], _ => simp; omega
theorem sub3_sum {a b : List Int} (ha : a.length = 3) (hb : b.length = 3) : (sub3 a b).sum = a.sum - b.sum := by
  rw [sum3 ha, sum3 hb, sum3 (sub3_len a b)]
  simp [sub3]
  omega

noncomputable def lBody : Code := Try.f22.body.getD .skip
noncomputable def lRest : Code := match lBody with | .seq _ (.seq _ (.seq _ r)) => r | _ => .skip
def lV (A1 A2 : Option Addr) (n1 c1 n2 c2 cb C : Nat) : Array Value :=
  #[.agg #[.slice A1 n1 c1, .slice A2 n2 c2], .pointer (some ⟨cb, 0, none⟩), .slice none 0 0, .slice (some ⟨cb + 1, 0, none⟩) 0 0, .slice (some ⟨C, 0, none⟩) n2 n2, undef, undef, undef, .slice (some ⟨cb + 1, 0, none⟩) 0 0, .agg #[.slice A1 n1 c1, .slice A2 n2 c2], .slice (some ⟨C, 0, none⟩) n2 n2,
    undef, undef, undef, undef, undef, undef, undef, undef, undef, undef, undef, undef, undef, undef, undef, undef, undef, undef, undef, undef, undef, undef, undef, undef]

set_option maxRecDepth 100000 in
set_option maxHeartbeats 3200000 in
theorem lf_rest (A1 A2 : Option Addr) (n1 c1 n2 c2 cb C : Nat) (room : List Int) (us : List Un) (w : World) (h1 : RdI w w.heap.size A1 3 room) (h2 : RdN w w.heap.size A2 n2 us) (hL : RdLd w C us) (hn : n2 ≤ 1000) (hn1 : n1 = 3)
    (hb1 : ∀ j : Nat, 0 ≤ room[j]?.getD 0 ∧ room[j]?.getD 0 ≤ 1000) (hb2 : ∀ k j : Nat, 0 ≤ (loadP (us[k]?.getD (false, [])).2)[j]?.getD 0 ∧ (loadP (us[k]?.getD (false, [])).2)[j]?.getD 0 ≤ 900000)
    (hbox : Blk w cb 26 #[.slice A1 n1 c1, .slice A2 n2 c2]) (hob : w.heap[cb + 1]? = some (.cells #[] 3)) :
    lRest.wp Try.prog (fun e a w' => e = .ret ∧ a.defers = [] ∧ ∃ A c, a.tmps.getD 2 undef = .slice A n2 c ∧ w'.ownsRow (cb + 1) 3 1 (.slice A n2 c) n2 ((leftsP room us).map (Value.int .i64)) ∧ Far w (cb + 1) w') ⟨lV A1 A2 n1 c1 n2 c2 cb C, []⟩ w := by
  subst hn1
  obtain ⟨i0, hi0, hz0, hz1, hz2⟩ := info_parts int_info
  have O0 := qh (show w.ownsRow (cb + 1) 3 1 (.slice (some ⟨cb + 1, 0, none⟩) 0 0) 0 [] from ⟨rfl, .inr ⟨cb + 1, 0, #[], rfl, Nat.le_refl _, hob, Nat.le_refl _, Nat.zero_le _, rfl, rfl⟩⟩)
  have lz : cb + 1 < w.heap.size := (Array.getElem?_eq_some_iff.1 hob).1
  have hul := qh h2.len
  have H1 := qh h1
  have H2 := qh h2
  have HL := qh hL
  have Hb1 := qh hb1
  have Hb2 := qh hb2
  have Hob := qh hob
  have Hbox := qh hbox
  have x1 := hbox.cell 1
  simp only [gT, gZ, gS] at x1
  clear h1 h2 hL hb1 hb2 hob hbox
  simp only [lRest, lBody, lV, Try.f22, Option.getD_some]
  go_wp2_with fail
  clear x1
  go_loopw [3, 14] (fun v i wr => ∃ (k : Nat) (A6 : Option Addr) (c6 : Nat), i = .int .i64 k ∧ k ≤ n2 ∧ v = .slice A6 k c6 ∧ Far w (cb + 1) wr ∧ wr.ownsRow (cb + 1) 3 1 (.slice A6 k c6) k ((leftsP room (us.take k)).map (Value.int .i64)) ∧
    (Value.ownBlock (.slice A6 k c6) = some (cb + 1) ∨ ∃ g, Value.ownBlock (.slice A6 k c6) = some g ∧ w.heap.size ≤ g)) (fun _ i _ => n2 - (intOf i).toNat)
  case atStart => exact ⟨0, _, _, rfl, Nat.zero_le _, rfl, Far.refl _ _, O0.out, .inl rfl⟩
  case round =>
    clear O0
    obtain ⟨k, A6, c6, rfl, hk, rfl, hfar, hown, hblk⟩ := hrel
    have HF := qh hfar
    have Hown := qh hown
    have Hblk := qh hblk
    have lzr := hfar.size
    clear hfar hown hblk
    by_cases hlt : k < n2
    · have k1 : (0 : Int) ≤ (k : Int) := by omega
      have k2 : (k : Int) < (n2 : Int) := by omega
      have k3 : 0 ≤ (k : Int) * 2 := by omega
      have hku : Hid (k < us.length) := by have := hul.out; show _ < _; omega
      obtain ⟨b, o, Ak, mk, ck, rfl, lb, e0, e1, hmk, hrd⟩ := H2.out.at_ hlt
      replace e0 := HF.out.cell Hob.out e0
      replace e1 := HF.out.cell Hob.out e1
      obtain ⟨Al, ml, el, hrl⟩ := HL.out k hku.out
      have El := qh el
      clear el hrd hmk
      have Hs := qh (lefts_succ (room := room) hku.out)
      have Hld := qh (Hb2.out k)
      have Hrl := qh hrl
      clear hrl
      have Hll : Hid ((loadP (us[k]?.getD (false, [])).2).length = 3) := qh Hrl.out.len
      generalize us[k]?.getD (false, []) = u at *
      obtain ⟨op, ts⟩ := u
      dsimp only at e0 Hld Hrl Hll
      cases op with
      | false =>
        have sz : (wr.alloc (.cells #[.bool false, .slice Ak mk ck] 33)).heap.size = wr.heap.size + 1 := World.size_alloc _ _
        have Own7 := qh (own_alloc (own_alloc Hown.out (.cells #[.bool false, .slice Ak mk ck] 33)) (.cells #[.int .i64 (-1)] 3))
        have hX := own_src' (World.ownsRow_lit (base := 0) (e := 3) (size := 1) (wr.alloc (.cells #[.bool false, .slice Ak mk ck] 33)) #[.int .i64 (-1)] 1 (Nat.zero_le _) (by unfold maxLen; omega) rfl)
        rw [sz] at hX
        have X7 := qh hX
        have lz7 : cb + 1 ≤ ((wr.alloc (.cells #[.bool false, .slice Ak mk ck] 33)).alloc (.cells #[.int .i64 (-1)] 3)).heap.size := by rw [World.size_alloc, sz]; omega
        have F7 := qh ((HF.out.below (alloc_up wr (.cells #[.bool false, .slice Ak mk ck] 33))).below (alloc_up _ (.cells #[.int .i64 (-1)] 3)))
        clear hX sz
        go_wp2_with (at_builtin; refine wpList_append_src _ rfl _ _ 23 rfl (cb + 1) 3 i0 _ 1 8 Try.underlying23 hi0 hz0 hz1 hz2 rfl (by omega) (.slice A6 k c6) k _ rfl Own7.out (some ⟨wr.heap.size + 1, 0, none⟩) 1 1 [.int .i64 (-1)] rfl X7.out (by simp [Value.oneCell']) (by unfold maxLen; omega) (by omega) lz7 ?_; intro v' w8 hown8 hgrow8 hat8; obtain ⟨A8, c8, rfl⟩ := own_shape hown8)
        have O8 := qh hown8
        have F8 := qh (F7.out.grown hgrow8 Hblk.out)
        have hB8 := hat8.imp (fun e => e.trans rfl) id
        have B8 := qh hat8
        clear hown8 hgrow8 hat8 hB8
        go_roundw
        case rel =>
          refine ⟨k + 1, A8, c8, by go_num, by omega, rfl, F8.out, ?_, ?_⟩
          · rw [Hs.out, List.map_append]
            exact O8.out
          · rcases B8.out with e | e
            · rw [e]; exact Hblk.out
            · exact .inr ⟨_, e, Nat.le_trans lzr (by rw [World.size_alloc, World.size_alloc]; omega)⟩
        case measure => simp [intOf]; omega
      | true =>
        have F5 := qh (HF.out.below (alloc_up wr (.cells #[.bool true, .slice Ak mk ck] 33)))
        have Own5 := qh (own_alloc Hown.out (.cells #[.bool true, .slice Ak mk ck] 33))
        have lz5 : wr.heap.size < (wr.alloc (.cells #[.bool true, .slice Ak mk ck] 33)).heap.size := by rw [World.size_alloc]; omega
        go_wp2_with fail
        generalize wr.alloc (.cells #[.bool true, .slice Ak mk ck] 33) = w5 at F5 Own5 lz5 ⊢
        have y0 := F5.out.cell Hob.out (Hbox.out.cell 0)
        have y1 := F5.out.cell Hob.out El.out
        refine wp_region_mix (.take 0 (.take 1 (.take 2 (.take 3 (.take 4 (.take 5 (.bar 6 (.bar 7 (.take 8 .nil))))))))) (fun w' => w'.cell? ⟨cb, 0, none⟩ = some (.slice A1 3 c1) ∧ w'.cell? ⟨C, k, none⟩ = some (.slice Al 3 ml)) (by kernel_rfl) (by kernel_rfl) ⟨y0, y1⟩ (fun _ => ?_)
        clear y0 y1
        have F6 := qh F5.out.drew
        have Own6 := qh (World.ownsRow.drew Own5.out)
        have lz6 : wr.heap.size < w5.drew.heap.size := lz5
        clear F5 Own5 lz5
        generalize w5.drew = w6 at F6 Own6 lz6 ⊢
        repeat ((first | refine mxS (by rfl) (by rfl) ?_ | (refine mxT (v := ?_) (by rfl) (by rfl) (fun z y => ?_) ?_; rotate_left; (focus ((try dsimp only at y); (go_simp <;> with_reducible rfl); done)))); (try simp only [Act.put,pS,pZ,pC]))
        (refine mxB (by rfl) (fun K hK => ?_); go_simp)
        refine (minus_any A1 Al 3 c1 3 ml room (loadP ts) w6 (H1.out.gain (fun p y hy => F6.out.cell Hob.out hy) F6.out.size) (Hrl.out.gain (fun p y hy => F6.out.cell Hob.out hy) F6.out.size) (by omega) (by omega) (fun j hj => ?_) (fun j hj => ?_)).mono ?_
        · have := Hb1.out j; omega
        · have := Hld.out j; omega
        rintro e w7 ⟨A7, c7, rfl, hr7, hb7⟩
        have F7 := qh (F6.out.below hb7)
        have Own7 := qh (own_keep Own6.out (fun b hb => hb7.block b (Own6.out.lt b hb).2))
        have R7 := qh hr7
        have lz7 := Nat.lt_of_lt_of_le lz6 hb7.size
        clear hb7 hr7 F6 Own6 lz6
        ((try dsimp only); refine nxK hK _ _ (⟨F7.out.cell Hob.out (Hbox.out.cell 0), F7.out.cell Hob.out El.out⟩) ?_; clear hK K; (try simp only [Act.put,pS,pZ,pC]))
        (refine mxB (by rfl) (fun K hK => ?_); go_simp)
        refine (total_any A7 3 c7 _ _ w7 R7.out (by omega) (fun j => ?_)).mono ?_
        · rcases Nat.lt_or_ge j 3 with hj | hj
          · rw [sub3_at hj]; have := Hld.out j; have := Hb1.out j; omega
          · rw [List.getElem?_eq_none (by simpa using hj)]; simp
        rintro e w8 ⟨rfl, rfl⟩
        ((try dsimp only); refine nxK hK _ _ (⟨F7.out.cell Hob.out (Hbox.out.cell 0), F7.out.cell Hob.out El.out⟩) ?_; clear hK K; (try simp only [Act.put,pS,pZ,pC]))
        repeat ((first | refine mxS (by rfl) (by rfl) ?_ | (refine mxT (v := ?_) (by rfl) (by rfl) (fun z y => ?_) ?_; rotate_left; (focus ((try dsimp only at y); (go_simp <;> with_reducible rfl); done)))); (try simp only [Act.put,pS,pZ,pC]))
        refine wpMix_nil ?_
        have Hsum := qh (sub3_sum H1.out.len Hll.out)
        generalize hsv : (sub3 room (loadP ts)).sum = sv at Hsum ⊢
        clear hsv
        have Own8 := qh (own_alloc Own7.out (.cells #[.int .i64 sv] 3))
        have X7 := qh (own_src' (World.ownsRow_lit (base := 0) (e := 3) (size := 1) w7 #[.int .i64 sv] 1 (Nat.zero_le _) (by unfold maxLen; omega) rfl))
        have lz8 : cb + 1 ≤ (w7.alloc (.cells #[.int .i64 sv] 3)).heap.size := by rw [World.size_alloc]; omega
        have F8a := qh (F7.out.below (alloc_up w7 (.cells #[.int .i64 sv] 3)))
        go_wp2_with (at_builtin; refine wpList_append_src _ rfl _ _ 23 rfl (cb + 1) 3 i0 _ 1 8 Try.underlying23 hi0 hz0 hz1 hz2 rfl (by omega) (.slice A6 k c6) k _ rfl Own8.out (some ⟨w7.heap.size, 0, none⟩) 1 1 [.int .i64 sv] rfl X7.out (by simp [Value.oneCell']) (by unfold maxLen; omega) (by omega) lz8 ?_; intro v' w8 hown8 hgrow8 hat8; obtain ⟨A8, c8, rfl⟩ := own_shape hown8)
        have O8 := qh hown8
        have F8 := qh (F8a.out.grown hgrow8 Hblk.out)
        have hB8 := hat8.imp (fun e => e.trans rfl) id
        have B8 := qh hat8
        clear hown8 hgrow8 hat8 hB8
        go_roundw
        case rel =>
          refine ⟨k + 1, A8, c8, by go_num, by omega, rfl, F8.out, ?_, ?_⟩
          · rw [Hs.out, List.map_append, show leftP room (true, ts) = sv from by rw [Hsum.out]; rfl]
            exact O8.out
          · rcases B8.out with e | e
            · rw [e]; exact Hblk.out
            · exact .inr ⟨_, e, Nat.le_trans lzr (by rw [World.size_alloc]; omega)⟩
        case measure => simp [intOf]; omega
    · obtain rfl : k = n2 := by omega
      have E0 := qh (List.take_of_length_le (l := us) (i := k) (by have := hul.out; omega))
      have HF2 := qh HF.out
      go_wp2_with fail
      refine ⟨A6, c6, ⟨rfl, rfl⟩, ?_, HF2.out⟩
      have := Hown.out
      rw [E0.out] at this
      exact this
end Go.Proofs.Ytlcgbnmmbheleaa

namespace Go.Proofs.Ytlcgbnmmbheleaa
open Go Go.Conc Go.RowKit
set_option linter.unusedVariables false
set_option linter.unusedSimpArgs false

section
variable {P : Program} {A : Ana} {H : Nat → Prop} {Tgt : Goroutine → World → Prop} {v : World} {f : FuncId} {a : Act} {c r : Code} {cs : List Frame} {Nm Rt : World → Act → World → Prop}
theorem KV.seqC (hA : A.good P = true) (hb : A.inB f = true) (htr : A.noTr f = true) (hd : a.defers = []) (hc : codeOK P A f c = true)
    (hwp : ∀ v₁, SameHeap v₁ v → c.wp P (fun e a' v' => (e = .normal ∧ Nm v₁ a' v') ∨ (e = .ret ∧ Rt v₁ a' v')) a v₁)
    (hn : ∀ v₁ a' v', SameHeap v₁ v → Nm v₁ a' v' → KV P H Tgt (G ((base f).at a' [.code r]) cs) v') (hr : ∀ v₁ a' v' todo, SameHeap v₁ v → Rt v₁ a' v' → Tgt (G { (base f).at a' todo with mode := .returning } cs) v') :
    KV P H Tgt (G ((base f).at a [.code (.seq c r)]) cs) v := by
  refine KV.ctl rfl (fun w => stepG_seq) ?_
  refine KV.code hA (Q := fun v₁ e a' v' => (e = .normal ∧ Nm v₁ a' v') ∨ (e = .ret ∧ Rt v₁ a' v')) hb rfl hd (fun t => A.noTr_spec htr t) hc hwp (fun v₁ e a' v' h => h.imp And.left And.left) (fun v₁ a' v' hs h => ?_) (fun v₁ a' v' todo hs h => ?_)
  · rcases h with ⟨_, h⟩ | ⟨h, _⟩
    · exact hn v₁ a' v' hs h
    · cases h
  · rcases h with ⟨h, _⟩ | ⟨_, h⟩
    · cases h
    · exact .stop (hr v₁ a' v' todo hs h)
theorem KV.endC (hA : A.good P = true) (hb : A.inB f = true) (htr : A.noTr f = true) (hd : a.defers = []) (hc : codeOK P A f c = true)
    (hwp : ∀ v₁, SameHeap v₁ v → c.wp P (fun e a' v' => e = .ret ∧ Rt v₁ a' v') a v₁) (hr : ∀ v₁ a' v' todo, SameHeap v₁ v → Rt v₁ a' v' → Tgt (G { (base f).at a' todo with mode := .returning } cs) v') :
    KV P H Tgt (G ((base f).at a [.code c]) cs) v := by
  refine KV.code hA (Q := fun v₁ e a' v' => e = .ret ∧ Rt v₁ a' v') hb rfl hd (fun t => A.noTr_spec htr t) hc hwp (fun v₁ e a' v' h => .inr h.1) (fun v₁ a' v' hs h => nomatch h.1) (fun v₁ a' v' todo hs h => .stop (hr v₁ a' v' todo hs h.2))
end

theorem uok_of {room : List Int} {us : List Un} (h : clOk room us = true) : UOk us ∧ room.length = 3 ∧ (∀ j : Nat, 0 ≤ room[j]?.getD 0 ∧ room[j]?.getD 0 ≤ 20) ∧ ∀ u ∈ us, u.2.length ≤ 14 ∧ ∀ t ∈ u.2, vecOk t.2 = true := by
  obtain ⟨h3, h1, h10, hu⟩ := clOk_facts h
  have hv : vecOk room = true ∧ ∀ u ∈ us, ∀ t ∈ u.2, vecOk t.2 = true := by
    simp only [clOk, binsOk, tasksOk, Bool.and_eq_true, decide_eq_true_eq, List.all_eq_true] at h
    obtain ⟨⟨_, ⟨_, ⟨⟨⟨h3, _⟩, h5⟩, _⟩⟩, _⟩, _⟩ := h
    simp only [roomOk, Bool.and_eq_true] at h3
    refine ⟨h3.1, fun u hu t ht => ?_⟩
    have := h5 t (List.mem_flatten.2 ⟨u.2, List.mem_map.2 ⟨u, hu, rfl⟩, ht⟩)
    simp only [taskOk, vecFits, Bool.and_eq_true] at this
    exact this.2.1.1
  have hk : ∀ k : Nat, us[k]?.getD (false, []) = (false, []) ∨ us[k]?.getD (false, []) ∈ us := fun k => by
    rcases Nat.lt_or_ge k us.length with h | h
    · exact .inr (un_mem h)
    · exact .inl (by rw [List.getElem?_eq_none h]; rfl)
  have ht : ∀ k j : Nat, (us[k]?.getD (false, [])).2[j]?.getD (0, []) = (0, []) ∨ vecOk ((us[k]?.getD (false, [])).2[j]?.getD (0, [])).2 = true := fun k j => by
    rcases hk k with e | e
    · rw [e]; exact .inl rfl
    · rcases Nat.lt_or_ge j (us[k]?.getD (false, [])).2.length with hj | hj
      · right
        refine hv.2 _ e _ ?_
        rw [List.getElem?_eq_getElem hj]
        exact List.getElem_mem hj
      · left; rw [List.getElem?_eq_none hj]; rfl
  refine ⟨⟨h1, by omega, fun k => ?_, fun k j hj => ?_, fun k j i => ?_⟩, h3, fun j => vecOk_bd hv.1 j, fun u hu' => ⟨(hu u hu').1, hv.2 u hu'⟩⟩
  · rcases hk k with e | e
    · rw [e]; simp
    · have := (hu _ e).1; omega
  · rcases ht k j with e | e
    · rcases hk k with e2 | e2
      · rw [e2] at hj; simp at hj
      · refine (hu _ e2).2 _ ?_
        rw [List.getElem?_eq_getElem hj]
        exact List.getElem_mem hj
    · exact vecOk_len e
  · rcases ht k j with e | e
    · rw [e]; simp
    · have := vecOk_bd e i; omega
theorem loads_bd {us : List Un} (h : UOk us) (k j : Nat) : 0 ≤ (loadP (us[k]?.getD (false, [])).2)[j]?.getD 0 ∧ (loadP (us[k]?.getD (false, [])).2)[j]?.getD 0 ≤ 900000 := by
  rcases Nat.lt_or_ge j 3 with hj | hj
  · have := loadP_bd (ts := (us[k]?.getD (false, [])).2) (h.nb k) (Nat.le_refl _) j hj
    rw [List.take_length] at this
    have := h.n900 k
    omega
  · rw [List.getElem?_eq_none (by rw [loadP_len]; exact hj)]
    simp

theorem RdN.gain {v v' : World} {B B' n : Nat} {A : Option Addr} {us : List Un} (h : RdN v B A n us) (hc : ∀ (p : Addr) (y : Value), v.cell? p = some y → v'.cell? p = some y) (hB : B ≤ B') : RdN v' B' A n us :=
  ⟨h.1, h.2.1, fun hn => by
    obtain ⟨b, o, e, hb, hx⟩ := h.2.2 hn
    refine ⟨b, o, e, Nat.lt_of_lt_of_le hb hB, fun j hj => ?_⟩
    obtain ⟨A', m, c, h1, h2, h3, h4⟩ := hx j hj
    exact ⟨A', m, c, hc _ _ h1, hc _ _ h2, h3, RdT.gain h4 (fun p y _ hy => hc p y hy) hB⟩⟩

noncomputable def lOps2 : Array Oper := match lBody with | .seq _ (.seq _ (.seq (.region _ ops _) _)) => ops | _ => #[]
noncomputable def lC0 : Code := match lBody with | .seq a _ => a | _ => .skip
noncomputable def lC1 : Code := match lBody with | .seq _ (.seq a _) => a | _ => .skip
theorem lBody_eq : ∃ i, lBody = .seq lC0 (.seq lC1 (.seq (.region i lOps2 false) lRest)) := ⟨_, by rfl⟩
def lV0 (A1 A2 : Option Addr) (n1 c1 n2 c2 : Nat) (x1 x2 x3 x8 : Value) : Array Value :=
  #[.agg #[.slice A1 n1 c1, .slice A2 n2 c2], x1, x2, x3, undef, undef, undef, undef, x8, undef, undef, undef, undef, undef, undef, undef, undef, undef, undef, undef, undef, undef, undef, undef, undef, undef, undef, undef, undef, undef, undef, undef, undef, undef, undef]
section
variable {H : Nat → Prop} {v : World} {A1 A2 : Option Addr} {n1 c1 n2 c2 : Nat} {room : List Int} {us : List Un}
set_option maxRecDepth 100000 in
set_option maxHeartbeats 1000000 in
theorem lefts_v (h : RdC v A1 A2 n1 n2 room us) (hok : clOk room us = true) : CallsV Try.prog H 22 #[.agg #[.slice A1 n1 c1, .slice A2 n2 c2]] v (fun x v' => ∃ A c, x = .slice A n2 c ∧ RdI v' v'.heap.size A n2 (leftsP room us) ∧ GR v v') := by
  obtain ⟨hu, hl3, hbr, hut⟩ := uok_of hok
  obtain rfl : us.length = n2 := h.b.len
  obtain rfl : n1 = 3 := by have := h.a.len; omega
  refine ⟨_, lBody, Try.func22, by kernel_rfl, by rfl, fun cs => ?_⟩
  obtain ⟨i, hb⟩ := lBody_eq
  have e : (#[Value.agg #[.slice A1 3 c1, .slice A2 us.length c2]] ++ Array.replicate (Try.f22.ntmps - (#[Value.agg #[.slice A1 3 c1, .slice A2 us.length c2]] : Array Value).size) undef) = lV0 A1 A2 3 c1 us.length c2 undef undef undef undef := by kernel_rfl
  rw [e, hb]
  clear e hb
  refine KV.seqC anaA_good (Nm := fun v₁ a v' => a = ⟨lV0 A1 A2 3 c1 us.length c2 (.pointer (some ⟨v₁.heap.size, 0, none⟩)) (.slice none 0 0) undef undef, []⟩ ∧ v' = v₁.alloc (.cells #[.slice A1 3 c1, .slice A2 us.length c2] 26)) (Rt := fun _ _ _ => False) (by kernel_rfl) (by kernel_rfl) rfl (by kernel_rfl) (fun v₁ hs => ?_) (fun v₁ a' v' hs hq => ?_) (fun _ _ _ _ _ h => h.elim)
  · simp only [lC0, lBody, Try.f22, Option.getD_some, lV0]
    go_wp2
  obtain ⟨rfl, rfl⟩ := hq
  rw [hs.heap]
  refine KV.heap (v := v.alloc (.cells #[.slice A1 3 c1, .slice A2 us.length c2] 26)) ?_ ⟨by show v.heap.push _ = v₁.heap.push _; rw [hs.heap], hs.os.symm, hs.output.symm⟩
  clear hs v₁
  refine KV.seqC anaA_good (Nm := fun v₁ a v' => a = ⟨lV0 A1 A2 3 c1 us.length c2 (.pointer (some ⟨v.heap.size, 0, none⟩)) (.slice none 0 0) (.slice (some ⟨v₁.heap.size, 0, none⟩) 0 0) (.slice (some ⟨v₁.heap.size, 0, none⟩) 0 0), []⟩ ∧ v' = v₁.alloc (.cells #[] 3)) (Rt := fun _ _ _ => False) (by kernel_rfl) (by kernel_rfl) rfl (by kernel_rfl) (fun v₁ hs => ?_) (fun v₁ a' v' hs hq => ?_) (fun _ _ _ _ _ h => h.elim)
  · simp only [lC1, lBody, Try.f22, Option.getD_some, lV0]
    go_wp2
  obtain ⟨rfl, rfl⟩ := hq
  rw [hs.heap, show (v.alloc (.cells #[.slice A1 3 c1, .slice A2 us.length c2] 26)).heap.size = v.heap.size + 1 from World.size_alloc _ _]
  refine KV.heap (v := (v.alloc (.cells #[.slice A1 3 c1, .slice A2 us.length c2] 26)).alloc (.cells #[] 3)) ?_ ⟨by show World.heap (World.alloc _ _) = v₁.heap.push _; rw [hs.heap]; rfl, hs.os.symm, hs.output.symm⟩
  clear hs v₁
  have hB : Below v.heap.size v ((v.alloc (.cells #[.slice A1 3 c1, .slice A2 us.length c2] 26)).alloc (.cells #[] 3)) := (alloc_up v _).trans ((alloc_up _ _).mono (by rw [World.size_alloc]; omega))
  have hbox : Blk ((v.alloc (.cells #[.slice A1 3 c1, .slice A2 us.length c2] 26)).alloc (.cells #[] 3)) v.heap.size 26 #[.slice A1 3 c1, .slice A2 us.length c2] := (Blk.new v _ _).alloc _
  have hob : ((v.alloc (.cells #[.slice A1 3 c1, .slice A2 us.length c2] 26)).alloc (.cells #[] 3)).heap[v.heap.size + 1]? = some (.cells #[] 3) := by
    show ((v.heap.push _).push _)[v.heap.size + 1]? = _
    rw [Array.getElem?_push, if_pos (by simp)]
  have hsz : ((v.alloc (.cells #[.slice A1 3 c1, .slice A2 us.length c2] 26)).alloc (.cells #[] 3)).heap.size = v.heap.size + 2 := by rw [World.size_alloc, World.size_alloc]
  generalize (v.alloc (.cells #[.slice A1 3 c1, .slice A2 us.length c2] 26)).alloc (.cells #[] 3) = w2 at hB hbox hob hsz ⊢
  have hr2 : RdC w2 A1 A2 3 us.length room us := h.up hB
  refine KV.ctl rfl (fun w => stepG_seq) ?_
  refine KV.ctl rfl (fun w => stepG_region) ?_
  rw [show List.range lOps2.size = [0, 1, 2] from rfl]
  simp only [lOps2, lBody, Try.f22, Option.getD_some, lV0]
  refine KV.op anaA_good rfl (by rfl) (by decide) (by kernel_rfl) (fun t => anaA.noTr_spec (by kernel_rfl) t) (fun v₁ hs K' hK' => ?_)
  have hbx : Blk v₁ v.heap.size 26 #[.slice A1 3 c1, .slice A2 us.length c2] := (congrArg (fun h => h[v.heap.size]?) hs.heap).trans hbox
  have x0 := hbx.cell 0
  have x1 := hbx.cell 1
  simp only [gT, gZ, gS] at x0 x1
  go_simp
  refine hK' _ _ ?_
  try walk_nrm
  clear x0 x1 hbx hK' K'
  refine KV.heap (v := w2) ?_ ⟨hs.heap.symm, hs.os.symm, hs.output.symm⟩
  clear hs v₁
  refine KV.callV rfl (by rfl) (by decide) rfl (Post := UsP us w2) ?_ (fun x v3 hp => ?_)
  · have hus := usage_v (H := H) (A1 := A1) (n1 := 3) (c1 := c1) (c2 := c2) hu hr2.b
    simpa [Act.eval, Act.put] using hus
  obtain ⟨C, xs, rfl, hC, hrow, hxs, hfit, hgr⟩ := hp
  try walk_nrm
  refine KV.op anaA_good rfl (by rfl) (by decide) (by kernel_rfl) (fun t => anaA.noTr_spec (by kernel_rfl) t) (fun v₁ hs K' hK' => ?_)
  go_simp
  refine hK' _ _ ?_
  try walk_nrm
  clear hK' K'
  refine KV.heap (v := v3) ?_ ⟨hs.heap.symm, hs.os.symm, hs.output.symm⟩
  clear hs v₁
  refine KV.ctl rfl (fun w => stepG_region_end) ?_
  have hB3 : ∀ b, b < w2.heap.size → v3.heap[b]? = w2.heap[b]? := hgr.rows
  refine KV.endC anaA_good (Rt := fun v₁ a v' => a.defers = [] ∧ ∃ A c, a.tmps.getD 2 undef = .slice A us.length c ∧ v'.ownsRow (v.heap.size + 1) 3 1 (.slice A us.length c) us.length ((leftsP room us).map (Value.int .i64)) ∧ Far v₁ (v.heap.size + 1) v') (by kernel_rfl) (by kernel_rfl) rfl (by kernel_rfl) (fun v₁ hs => ?_) (fun v₁ a' v' todo hs hq => ?_)
  · have hcell : ∀ (p : Addr) (y : Value), w2.cell? p = some y → v₁.cell? p = some y := fun p y hy => by
      have hlt := cell_lt hy
      exact (World.cell?_of_block (by rw [hs.heap]; exact hB3 _ hlt)).trans hy
    have hsv : w2.heap.size ≤ v₁.heap.size := by rw [hs.heap]; exact hgr.size
    exact lf_rest A1 A2 3 c1 us.length c2 v.heap.size C room us v₁ (hr2.a.gain hcell hsv) (hr2.b.gain hcell hsv) (fun c hc => by
      obtain ⟨y, g1, A, m, rfl, g3⟩ := hfit c hc
      refine ⟨A, m, ?_, g3.gain (fun p y hy => (World.cell?_of_block (by rw [hs.heap])).trans hy) (by rw [hs.heap]; exact Nat.le_refl _)⟩
      simp only [World.cell?, hs.heap, hrow]
      exact g1) hu.len rfl (fun j => by have := hbr j; omega) (fun k j => loads_bd hu k j) (by show v₁.heap[_]? = _; rw [hs.heap, hB3 _ (by omega)]; exact hbox) (by rw [hs.heap, hB3 _ (by omega)]; exact hob)
  · obtain ⟨h1, A, c, h2, h3, h4⟩ := hq
    refine ⟨_, a', todo, _, Try.func22, h1, rfl, resultsC_tmp rfl a'.tmps, A, c, h2, ?_, ?_⟩
    · exact RdI.of_own h3 (by have := hu.len; omega)
    · refine ⟨(h4.os.trans hs.os).trans (hgr.os.trans hB.os), (h4.output.trans hs.output).trans (hgr.output.trans hB.output), ?_, fun b hb => ?_⟩
      · have e1 := h4.size
        rw [hs.heap] at e1
        have e2 := hgr.size
        omega
      · rw [h4.block b (by rw [hs.heap]; have := hgr.size; omega) (by omega), hs.heap, hB3 b (by omega)]
        exact hB.block b hb
end
end Go.Proofs.Ytlcgbnmmbheleaa

namespace Go.Proofs.Ytlcgbnmmbheleaa
open Go Go.RowKit
attribute [local go_sem ↓] Go.wp_at_zero Go.wp_at_succ

theorem snd_succ {us : List Un} {k : Nat} (h : k < us.length) : (us.take (k + 1)).map (·.2) = (us.take k).map (·.2) ++ [(us[k]?.getD (false, [])).2] := by
  rw [List.take_succ_eq_append_getElem h, List.map_append, List.getElem?_eq_getElem h]
  rfl

set_option maxRecDepth 100000 in
set_option maxHeartbeats 1600000 in
theorem l21Bins_any (A1 A2 : Option Addr) (n1 c1 n2 c2 : Nat) (us : List Un) (w : World) (h : RdN w w.heap.size A2 n2 us) (hn : n2 ≤ 1048576) :
    Calls Try.prog 32 #[.agg #[.slice A1 n1 c1, .slice A2 n2 c2]] w fun e w' => ∃ A' m c', e = .returned (.slice A' m c') ∧ RdB w' w'.heap.size A' m (us.map (·.2)) ∧ Below w.heap.size w w' := by
  obtain ⟨i0, hi0, hz0, hz1, hz2⟩ := info_parts slice_info'
  have hl := qh h.len
  have H := qh h
  clear h
  have sz : (w.alloc (.cells #[.slice A1 n1 c1, .slice A2 n2 c2] 26)).heap.size = w.heap.size + 1 := World.size_alloc _ _
  have P2 := qh ((Blk.new w 26 #[.slice A1 n1 c1, .slice A2 n2 c2]).alloc (.cells #[] 31))
  have O2 := qh (World.ownsRow_lit (base := w.heap.size) (e := 31) (size := 1) (w.alloc (.cells #[.slice A1 n1 c1, .slice A2 n2 c2] 26)) #[] 0 (by rw [sz]; omega) (by unfold maxLen; omega) rfl)
  rw [sz] at O2
  have B2 := qh (((Below.refl w.heap.size w).alloc (Nat.le_refl _) (.cells #[.slice A1 n1 c1, .slice A2 n2 c2] 26)).alloc (by simp) (.cells #[] 31))
  clear sz
  go_enter Try.func32, Try.ntmps32
  go_wp2_with fail
  generalize (w.alloc (.cells #[.slice A1 n1 c1, .slice A2 n2 c2] 26)).alloc (.cells #[] 31) = w2 at P2 O2 B2 ⊢
  go_loopw [3, 4] (fun v i wr => ∃ (k : Nat) (A6 : Option Addr) (m6 c6 : Nat) (vs : List Value), i = .int .i64 k ∧ k ≤ n2 ∧ v = .slice A6 m6 c6 ∧ Below w.heap.size w wr ∧ Blk wr w.heap.size 26 #[.slice A1 n1 c1, .slice A2 n2 c2] ∧
    wr.ownsRow w.heap.size 31 1 (.slice A6 m6 c6) m6 vs ∧ m6 = k ∧ BnCells wr w.heap.size vs ((us.take k).map (·.2))) (fun _ i _ => n2 - (intOf i).toNat)
  case atStart => exact ⟨0, _, _, _, [], rfl, Nat.zero_le _, rfl, B2.out, P2.out, O2.out, rfl, BnCells.nil⟩
  case round =>
    clear B2 P2 O2
    obtain ⟨k, A6, m6, c6, vs, rfl, hk, rfl, hbel, hblk, hown, hmk, hcs⟩ := hrel
    have Hbel := qh hbel
    have Hblk := qh hblk
    have Hown := qh hown
    have Hcs := qh hcs
    have Hmk := qh hmk
    have lm : m6 ≤ 1048576 := by omega
    have lz := hbel.size
    have x1 := hblk.cell 1
    simp only [gT, gZ, gS] at x1
    clear hbel hblk hown hcs hmk
    by_cases hlt : k < n2
    · have k1 : (0 : Int) ≤ (k : Int) := by omega
      have k2 : (k : Int) < (n2 : Int) := by omega
      have k3 : 0 ≤ (k : Int) * 2 := by omega
      have hkl : Hid (k < us.length) := by have := hl.out; show _ < _; omega
      have Hs := qh (snd_succ hkl.out)
      obtain ⟨b, o, A', m', c', rfl, lb, hc1, hc2, hmc, hrd⟩ := (H.out.below Hbel.out).at_ hlt
      have Hrd := qh hrd
      clear hrd
      generalize (us[k]?.getD (false, [])).2 = ts at *
      have Own7 := qh (own_alloc Hown.out (.cells #[.slice A' m' c'] 31))
      have X7 := qh (lit1 wr 31 (.slice A' m' c'))
      have lz7 : w.heap.size ≤ (wr.alloc (.cells #[.slice A' m' c'] 31)).heap.size := by rw [World.size_alloc]; omega
      go_wp2_with (at_builtin; refine wpList_append_src _ rfl _ _ 51 rfl w.heap.size 31 i0 _ 1 24 Try.underlying51 hi0 hz0 hz1 hz2 rfl (by omega) (.slice A6 m6 c6) m6 _ rfl Own7.out (some ⟨wr.heap.size, 0, none⟩) 1 1 [.slice A' m' c'] rfl X7.out (one1 _ rfl) (by unfold maxLen; omega) (by omega) lz7 ?_; intro v' w8 hown8 hgrow8 hat8)
      have lo8 := (Below.refl w.heap.size wr).alloc lz (.cells #[.slice A' m' c'] 31)
      have up8 := lo8.grown hgrow8 lz7 (fun j e => (Own7.out.lt j e).1)
      have Hb8 := qh (Hbel.out.trans up8)
      have Hp8 := qh ((Hblk.out.alloc (.cells #[.slice A' m' c'] 31)).grown hgrow8 (fun e => own_blk_ne Hown.out Hblk.out (by decide) e.symm))
      obtain ⟨A8, c8, rfl⟩ := own_shape hown8
      have Own8 := qh hown8
      have Hc8 := qh ((Hcs.out.snoc Hrd.out hmc).keep (fun p hp => up8.cell hp) (Nat.le_refl _))
      clear hown8 hgrow8 hat8 X7 up8 lo8
      go_wp2_with fail
      go_roundw
      case measure => simp [intOf]; omega
      case rel => exact ⟨k + 1, A8, m6 + 1, c8, _, by go_num, by omega, rfl, Hb8.out, Hp8.out, Own8.out, by have := Hmk.out; omega, by rw [Hs.out]; exact Hc8.out⟩
    · obtain rfl : k = n2 := by omega
      go_wp2_with fail
      go_ret
      have hc := Hcs.out
      rw [List.take_of_length_le (by rw [hl.out]; exact Nat.le_refl _)] at hc
      exact ⟨A6, m6, c6, rfl, RdB.of_own Hown.out hc lz (by omega), Hbel.out⟩

theorem all_un {us : List Un} {p : Un → Bool} : us.all p = true ↔ ∀ j, j < us.length → p (us[j]?.getD (false, [])) = true := by
  rw [List.all_eq_true]
  constructor
  · intro h j hj; exact h _ (un_mem hj)
  · intro h x hx
    obtain ⟨j, hj, rfl⟩ := List.getElem_of_mem hx
    have := h j hj
    rwa [List.getElem?_eq_getElem hj] at this
def unOk (u : Un) : Bool := u.1 || u.2.isEmpty
theorem clOk_unfold (room : List Int) (us : List Un) : clOk room us = (decide (1 ≤ us.length ∧ us.length ≤ 10) && binsOk room (us.map (·.2)) && us.all unOk) := rfl
theorem inR_len (n : Nat) : inR 1 10 (n : Int) = decide (1 ≤ n ∧ n ≤ 10) := by
  rw [Bool.eq_iff_iff, inR_iff, decide_eq_true_iff]; omega
theorem flat_len {us : List Un} (h : ShU us) : ((us.map (·.2)).flatten).length ≤ 1048576 := by
  have key : ∀ (l : List Un), (∀ u ∈ l, u.2.length ≤ 1000) → ((l.map (·.2)).flatten).length ≤ 1000 * l.length := by
    intro l
    induction l with
    | nil => simp
    | cons u l ih =>
      intro hh
      have := ih (fun u hu => hh u (by simp [hu]))
      have := hh u (by simp)
      simp only [List.map_cons, List.flatten_cons, List.length_append, List.length_cons]
      omega
  have := key us (fun u hu => (h.2 u hu).1)
  have := h.1
  omega

theorem ShU.v {us : List Un} (h : ShU us) : ShV us := ⟨by have := h.1; omega, flat_len h⟩

set_option maxRecDepth 100000 in
set_option maxHeartbeats 1600000 in
theorem clusterValidSV_any (A1 A2 : Option Addr) (n1 c1 n2 c2 : Nat) (room : List Int) (us : List Un) (w : World) (h : RdC w A1 A2 n1 n2 room us) (hs : ShV us) :
    Calls Try.prog 16 #[.agg #[.slice A1 n1 c1, .slice A2 n2 c2]] w fun e w' => e = .returned (.bool (clOk room us)) ∧ Below w.heap.size w w' := by
  have hl := qh h.b.len
  have H := qh h
  have Hs := qh hs
  have ln : n2 ≤ 1048576 := by have := h.b.len; have := hs.1; omega
  clear h hs
  have B1 := qh (alloc_up w (.cells #[.slice A1 n1 c1, .slice A2 n2 c2] 26))
  have P1 := qh (Blk.new w 26 #[.slice A1 n1 c1, .slice A2 n2 c2])
  go_enter Try.func16, Try.ntmps16
  go_wp2_with fail
  generalize w.alloc (.cells #[.slice A1 n1 c1, .slice A2 n2 c2] 26) = w1 at B1 P1 ⊢
  have x0 := P1.out.cell 0
  have x1 := P1.out.cell 1
  simp only [gT, gZ, gS] at x0 x1
  go_loop [3] (fun i => ∃ k : Nat, i = .int .i64 k ∧ k ≤ n2 ∧ (∀ j, j < k → unOk (us[j]?.getD (false, [])) = true)) (fun i => n2 - (intOf i).toNat)
  case atStart => exact ⟨0, rfl, Nat.zero_le _, by intro j hj; omega⟩
  case round =>
    obtain ⟨k, rfl, hk, hall⟩ := hrel
    have Hall := qh hall
    clear hall
    by_cases hlt : k < n2
    · have k1 : (0 : Int) ≤ (k : Int) := by omega
      have k2 : (k : Int) < (n2 : Int) := by omega
      have k3 : 0 ≤ (k : Int) * 2 := by omega
      have hkl : Hid (k < us.length) := by have := hl.out; show _ < _; omega
      obtain ⟨b, o, A', m', c', rfl, lb, hc1, hc2, hmc, hrd⟩ := (H.out.b.below B1.out).at_ hlt
      have hrl := qh hrd.len
      clear hrd
      cases hop : (us[k]?.getD (false, [])).1 with
      | true =>
        rw [hop] at hc1
        have Hok := qh (show unOk (us[k]?.getD (false, [])) = true by rw [unOk, hop]; rfl)
        clear hop
        go_wp2_with fail
        go_round
        case rel => exact ⟨k + 1, by go_num, by omega, fun j hj => by
          by_cases e : j = k
          · rw [e]; exact Hok.out
          · exact Hall.out j (by omega)⟩
        case measure => simp [intOf]; omega
      | false =>
        rw [hop] at hc1
        by_cases hm0 : 0 < m'
        · have Hok := qh (show unOk (us[k]?.getD (false, [])) = false by
            rw [unOk, hop, Bool.false_or, ← Bool.not_eq_true, List.isEmpty_iff]
            intro e; have := hrl.out; rw [e] at this; simp at this; omega)
          clear hop
          go_wp2_with fail
          go_ret
          refine ⟨ret_bool ?_, B1.out⟩
          symm
          rw [clOk_unfold, Bool.and_eq_false_iff]; right
          rw [← Bool.not_eq_true, all_un]
          intro hh
          have := hh k hkl.out
          rw [Hok.out] at this; cases this
        · have Hok := qh (show unOk (us[k]?.getD (false, [])) = true by
            rw [unOk, hop, Bool.false_or, List.isEmpty_iff]
            exact List.eq_nil_of_length_eq_zero (by have := hrl.out; omega))
          clear hop
          go_wp2_with fail
          go_round
          case rel => exact ⟨k + 1, by go_num, by omega, fun j hj => by
            by_cases e : j = k
            · rw [e]; exact Hok.out
            · exact Hall.out j (by omega)⟩
          case measure => simp [intOf]; omega
    · obtain rfl : k = n2 := by omega
      have Hau := qh (all_un.2 (fun j hj => Hall.out j (by rw [← hl.out]; exact hj)))
      clear Hall
      go_wp2_with fail
      have D1 := qh (B1.out.drew)
      have K0 : (w1.drew.cell? ⟨w.heap.size, 0, none⟩ = some (.slice A1 n1 c1) ∧ w1.drew.cell? ⟨w.heap.size, 1, none⟩ = some (.slice A2 k c2)) := ⟨x0, x1⟩
      have hk2 : ∀ w', Below w1.heap.size w1.drew w' → (w'.cell? ⟨w.heap.size, 0, none⟩ = some (.slice A1 n1 c1) ∧ w'.cell? ⟨w.heap.size, 1, none⟩ = some (.slice A2 k c2)) := fun w' hb => ⟨(hb.cell (p := ⟨w.heap.size, 0, none⟩) P1.out.lt).trans x0, (hb.cell (p := ⟨w.heap.size, 1, none⟩) P1.out.lt).trans x1⟩
      have Hk2 := qh hk2
      clear hk2
      have H1 := qh (H.out.up D1.out)
      clear x0 x1
      by_cases hin : inR 1 10 (k : Int) = true
      · refine wp_region_mix (.take 0 (.take 1 (.take 2 (.bar 3 (.take 4 (.take 5 (.take 6 (.take 7 (.bar 8 (.bar 9 (.take 10 (.take 11 .nil)))))))))))) (fun w' => w'.cell? ⟨w.heap.size, 0, none⟩ = some (.slice A1 n1 c1) ∧ w'.cell? ⟨w.heap.size, 1, none⟩ = some (.slice A2 k c2)) (by kernel_rfl) (by kernel_rfl) K0 (fun _ => ?_)
        clear K0
        repeat ((first | refine mxS (by rfl) (by rfl) ?_ | (refine mxT (v := ?_) (by rfl) (by rfl) (fun z y => ?_) ?_; rotate_left; (focus ((try dsimp only at y); (go_simp <;> with_reducible rfl); done)))); (try simp only [Act.put,pS,pZ,pC]))
        (refine mxB (by rfl) (fun K hK => ?_); go_simp)
        refine (l6In_any _ _ _ _).mono ?_; rintro e w2 ⟨rfl, rfl⟩
        rw [hin]
        ((try dsimp only); refine nxK hK _ _ (Hk2.out _ (Below.refl _ _)) ?_; clear hK K; (try simp only [Act.put,pS,pZ,pC]))
        repeat ((first | refine mxS (by rfl) (by rfl) ?_ | (refine mxT (v := ?_) (by rfl) (by rfl) (fun z y => ?_) ?_; rotate_left; (focus ((try dsimp only at y); (go_simp <;> with_reducible rfl); done)))); (try simp only [Act.put,pS,pZ,pC]))
        (refine mxB (by rfl) (fun K hK => ?_); go_simp)
        refine (l21Bins_any A1 A2 n1 c1 k c2 us w1.drew H1.out.b ln).mono ?_; rintro e w3 ⟨A5, m5, c5, rfl, hr5, hb5⟩
        have Hr5 := qh hr5
        have Hb5 := qh hb5
        clear hr5 hb5
        ((try dsimp only); refine nxK hK _ _ (Hk2.out _ Hb5.out) ?_; clear hK K; (try simp only [Act.put,pS,pZ,pC]))
        (refine mxB (by rfl) (fun K hK => ?_); go_simp)
        refine (binsValidS_any A1 A5 n1 c1 m5 c5 room _ w3 (H1.out.a.up Hb5.out) Hr5.out (Hs.out.2)).mono ?_; rintro e w4 ⟨rfl, hb6⟩
        have Hb6 := qh hb6
        clear hb6
        ((try dsimp only); refine nxK hK _ _ (Hk2.out _ (below_to Hb5.out Hb6.out)) ?_; clear hK K; (try simp only [Act.put,pS,pZ,pC]))
        repeat ((first | refine mxS (by rfl) (by rfl) ?_ | (refine mxT (v := ?_) (by rfl) (by rfl) (fun z y => ?_) ?_; rotate_left; (focus ((try dsimp only at y); (go_simp <;> with_reducible rfl); done)))); (try simp only [Act.put,pS,pZ,pC]))
        refine wpMix_nil ?_
        go_wp2
        go_ret
        refine ⟨ret_bool ?_, below_to D1.out (below_to Hb5.out Hb6.out)⟩
        rw [clOk_unfold, Hau.out, Bool.and_true, ← inR_len, hl.out, hin, Bool.true_and]
      · have hin : inR 1 10 (k : Int) = false := by simpa using hin
        refine wp_region_mix (.take 0 (.take 1 (.take 2 (.bar 3 (.take 4 (.take 5 (.take 6 (.take 7 (.take 8 (.take 9 (.take 10 (.take 11 .nil)))))))))))) (fun w' => w'.cell? ⟨w.heap.size, 0, none⟩ = some (.slice A1 n1 c1) ∧ w'.cell? ⟨w.heap.size, 1, none⟩ = some (.slice A2 k c2)) (by kernel_rfl) (by kernel_rfl) K0 (fun _ => ?_)
        clear K0
        repeat ((first | refine mxS (by rfl) (by rfl) ?_ | (refine mxT (v := ?_) (by rfl) (by rfl) (fun z y => ?_) ?_; rotate_left; (focus ((try dsimp only at y); (go_simp <;> with_reducible rfl); done)))); (try simp only [Act.put,pS,pZ,pC]))
        (refine mxB (by rfl) (fun K hK => ?_); go_simp)
        refine (l6In_any _ _ _ _).mono ?_; rintro e w2 ⟨rfl, rfl⟩
        rw [hin]
        ((try dsimp only); refine nxK hK _ _ (Hk2.out _ (Below.refl _ _)) ?_; clear hK K; (try simp only [Act.put,pS,pZ,pC]))
        repeat ((first | refine mxS (by rfl) (by rfl) ?_ | (refine mxT (v := ?_) (by rfl) (by rfl) (fun z y => ?_) ?_; rotate_left; (focus ((try dsimp only at y); (go_simp <;> with_reducible rfl); done)))); (try simp only [Act.put,pS,pZ,pC]))
        refine wpMix_nil ?_
        go_wp2
        go_ret
        refine ⟨ret_bool ?_, D1.out⟩
        rw [clOk_unfold, ← inR_len, hl.out, hin, Bool.false_and, Bool.false_and]
theorem clusterValidS_any (A1 A2 : Option Addr) (n1 c1 n2 c2 : Nat) (room : List Int) (us : List Un) (w : World) (h : RdC w A1 A2 n1 n2 room us) (hs : ShU us) :
    Calls Try.prog 16 #[.agg #[.slice A1 n1 c1, .slice A2 n2 c2]] w fun e w' => e = .returned (.bool (clOk room us)) ∧ Below w.heap.size w w' := clusterValidSV_any A1 A2 n1 c1 n2 c2 room us w h hs.v
end Go.Proofs.Ytlcgbnmmbheleaa
