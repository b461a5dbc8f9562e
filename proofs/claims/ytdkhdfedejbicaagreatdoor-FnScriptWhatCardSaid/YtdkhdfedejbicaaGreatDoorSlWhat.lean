/- Walk: the law FnScriptWhat. (Printed by gen_sclaws.py.) -/
import Derived.Test.YtdkhdfedejbicaaGreatDoorScLw
namespace Go.Proofs.YtdkhdfedejbicaaGreatDoor
set_option linter.unusedSimpArgs false
set_option linter.unusedVariables false
open Go Go.RowKit
attribute [local go_sem ↓] Go.wp_at_zero Go.wp_at_succ

theorem lastTo_len (y : Bs) : ∀ n, (lastTo y n).length ≤ y.length
  | 0 => Nat.le_refl _
  | n + 1 => by
    rw [lastTo]
    split
    · rw [List.length_drop]; omega
    · exact lastTo_len y n

set_option maxRecDepth 100000 in
set_option maxHeartbeats 6400000 in
theorem scriptWhat_walk (A : Option Addr) (n c : Nat) (w : World) (hu : RdU w w.heap.size A n) (hc : n ≤ c) (hcm : c ≤ 9223372036854775807) (m : Int) (hm : w.cell? ⟨0, 0, none⟩ = some (.int .i64 m)) (h0 : 0 < w.heap.size) :
    Calls Tryz.prog 5 #[.slice A n c] w fun e w' => e = .returned (.bool true) ∧ Below w.heap.size w w' := by
  by_cases hl : (1048576 : Int) < (n : Int)
  · go_enter Tryz.func5, Tryz.ntmps5
    go_wp2
    go_ret
    exact ⟨rfl, Below.refl _ _⟩
  · have H1 := qh (drawExecute_any A n c w hu hc hcm)
    have HI := qh (fun (t : ByteArray) w2 (ht : t.size ≤ 9223372036854775807) (hb : Below w.heap.size w w2) => executeI_any t w2 m ht ((hb.cell (p := ⟨0, 0, none⟩) h0).trans hm) (by have := hb.size; omega))
    clear hm hu
    go_enter Tryz.func5, Tryz.ntmps5
    go_wp2_with fail
    refine H1.out.mono ?_; rintro e w1 ⟨t, rfl, ht, hb⟩
    have B1 := qh hb
    have hsz : (bs t).size ≤ 9223372036854775807 := by rw [bs_size]; omega
    have HA := qh (HI.out (bs t) w1 hsz hb)
    have HB := qh (fun W => execS_any (bs t) W hsz)
    rw [bs_list] at HA HB
    have Hbz := qh (bs_size t)
    clear hb H1 hsz
    generalize hbt : bs t = st at *
    have Hbt := qh hbt
    clear hbt
    have Hpo := qh (exec_pos t)
    have Hle := qh (exec_len t)
    have Hxz := qh (bs_size (execP t))
    have Hwh := qh (fun (h : ¬ 600 < t.length + 4) => exec_what h)
    have Hcl := qh (comp_len t)
    have Hco := qh (fun W => completeLines_any t ht W)
    have Hp2 := qh (exec_pos (compP t))
    have Hl2 := qh (exec_len (compP t))
    generalize hx : bs (execP t) = x at *
    have Hx := qh hx
    clear hx
    go_wp2_with fail
    refine HA.out.mono ?_; rintro e w2 ⟨rfl, hb⟩
    have B2 := qh (B1.out.trans (hb.mono B1.out.size))
    clear hb HA B1
    go_wp2_with fail
    refine (HB.out w2).mono ?_; rintro e w3 ⟨rfl, hb⟩
    have B3 := qh (B2.out.trans (hb.mono B2.out.size))
    clear hb HB B2
    rw [Hbt.out] at Hco
    have v1 : IntKind.i64.wrap ((st.size : Int) + 4) = (st.size : Int) + 4 := wr64 (by have := Hbz.out; omega) (by have := Hbz.out; omega)
    by_cases h6 : 600 < t.length + 4
    · have t1 : (600 : Int) < (st.size : Int) + 4 := by have := Hbz.out; omega
      go_wp2_with fail
      go_ret
      exact ⟨rfl, B3.out⟩
    · have t1 : ¬ (600 : Int) < (st.size : Int) + 4 := by have := Hbz.out; omega
      have Hc2 := qh (HI.out (bs (compP t)) w3 (by rw [bs_size]; have := Hcl.out; omega) B3.out)
      rw [bs_list] at Hc2
      have Hw := qh (congrArg bs (Hwh.out h6))
      clear Hwh
      generalize compP t = ct at *
      have Hin := qh (fun W (hb : Below w.heap.size w W) => HI.out (bs (ct ++ (wZzz ++ [10]))) W (by rw [bs_size]; have : wZzz.length = 3 := rfl; simp; have := Hcl.out; omega) hb)
      rw [bs_list, Hw.out] at Hin
      have a0 : ∀ W, (Op.stringOp .add (bs ct) ⟨#[122, 122, 122, 10]⟩).run Tryz.prog W = .ok (.string (bs (ct ++ (wZzz ++ [10])))) W := fun W => by rw [← (show bs (wZzz ++ [10]) = ⟨#[122, 122, 122, 10]⟩ from rfl)]; exact add_run ct (wZzz ++ [10]) (by have : wZzz.length = 3 := rfl; simp; have := Hcl.out; omega) W
      generalize ct ++ (wZzz ++ [10]) = cz at *
      generalize execP ct = o at *
      have HL := qh (fun W => lastLine_any o (by have := Hl2.out; omega) Hp2.out W)
      have hel := lastTo_len o (o.length - 1)
      have Hel := qh (show (lastL o).length ≤ o.length from hel)
      clear hel
      generalize lastL o = el at *
      have Hoz := qh (bs_size o)
      have Hez := qh (bs_size el)
      have Hxt := qh (show (bs o).extract 0 (o.length - el.length) = bs (o.take (o.length - el.length)) from by rw [bs_cut]; simp)
      have a1 : ∀ W, (Op.stringOp .add (bs (o.take (o.length - el.length))) ⟨#[119, 104, 97, 116, 10]⟩).run Tryz.prog W = .ok (.string (bs (o.take (o.length - el.length) ++ tWhat))) W := add_big _ tWhat (by have : tWhat.length = 5 := rfl; rw [List.length_take]; have := Hl2.out; omega)
      have a2 := add_big (o.take (o.length - el.length) ++ tWhat) el (by have : tWhat.length = 5 := rfl; rw [List.length_append, List.length_take]; have := Hl2.out; have := Hel.out; omega)
      generalize o.take (o.length - el.length) ++ tWhat ++ el = z2 at *
      generalize o.take (o.length - el.length) ++ tWhat = z1 at *
      generalize o.take (o.length - el.length) = z0 at *
      generalize hso : bs o = so at *
      generalize hse : bs el = se at *
      have v2 : IntKind.i64.wrap ((so.size : Int) - (se.size : Int)) = (so.size : Int) - (se.size : Int) := wr64 (by have := Hoz.out; have := Hez.out; have := Hel.out; omega) (by have := Hoz.out; have := Hez.out; have := Hl2.out; omega)
      have q1 : (0 : Int) ≤ (so.size : Int) - (se.size : Int) ∧ (so.size : Int) - (se.size : Int) ≤ (so.size : Int) := by have := Hoz.out; have := Hez.out; have := Hel.out; omega
      have hnat : ((so.size : Int) - (se.size : Int)).toNat = o.length - el.length := by have := Hoz.out; have := Hez.out; have := Hel.out; omega
      have hxt := Hxt.out
      have q3 : se.size ≤ so.size := by have := Hoz.out; have := Hez.out; have := Hel.out; omega
      have hxt2 : so.extract 0 (so.size - se.size) = bs z0 := by rw [Hoz.out, Hez.out]; exact Hxt.out
      rw [← hnat] at hxt
      clear hnat
      clear hso hse
      generalize bs ct = sct at *
      generalize bs cz = scz at *
      generalize bs z2 = sz2 at *
      generalize bs z1 = sz1 at *
      generalize bs z0 = sz0 at *
      go_wp2_with fail
      refine (Hco.out w3).mono ?_; rintro e w4 ⟨rfl, hw4⟩
      rw [hw4]; clear hw4 w4
      go_wp2_with fail
      refine Hc2.out.mono ?_; rintro e w4 ⟨rfl, hb⟩
      have B4 := qh (B3.out.trans (hb.mono B3.out.size))
      clear hb Hc2 B3
      go_wp2_with fail
      refine (HL.out w4).mono ?_; rintro e w5 ⟨rfl, hw5⟩
      rw [hw5]; clear hw5 w5
      go_wp2_with fail
      refine wp_region_mix (.take 0 (.take 1 (.take 3 (.take 4 (.take 5 (.take 6 (.take 7 (.take 8 (.take 9 (.take 10 (.take 11 (.take 12 (.bar 2 (.take 13 (.take 14 .nil))))))))))))))) (fun _ => True) (by kernel_rfl) (by kernel_rfl) trivial (fun _ => ?_)
      repeat ((first | refine mxS (by rfl) (by rfl) ?_ | (refine mxT (v := ?_) (by rfl) (by rfl) (fun z y => ?_) ?_; rotate_left; (focus ((try dsimp only at y); (go_simp <;> with_reducible rfl); done)))); (try simp only [Act.put,pS,pZ,pC]))
      (refine mxB (by rfl) (fun K hK => ?_); go_simp)
      refine (Hin.out _ B4.out.drew).mono ?_; rintro e w6 ⟨rfl, hb⟩
      have B6 := qh (B4.out.drew.trans (hb.mono B4.out.drew.size))
      clear hb
      ((try dsimp only); refine nxK hK _ _ (trivial) ?_; clear hK K; (try simp only [Act.put,pS,pZ,pC]))
      repeat ((first | refine mxS (by rfl) (by rfl) ?_ | (refine mxT (v := ?_) (by rfl) (by rfl) (fun z y => ?_) ?_; rotate_left; (focus ((try dsimp only at y); (go_simp <;> with_reducible rfl); done)))); (try simp only [Act.put,pS,pZ,pC]))
      refine wpMix_nil ?_
      go_wp2_with fail
      go_ret
      exact ⟨rfl, B6.out⟩
end Go.Proofs.YtdkhdfedejbicaaGreatDoor
