/- Walks: the host's open, depart, arrive. -/
import Derived.Test.YtdkhdfedejbicaaGreatDoorJ12
import Derived.Test.YtdkhdfedejbicaaGreatDoorJ11
namespace Go.Proofs.YtdkhdfedejbicaaGreatDoor
set_option linter.unusedSimpArgs false
set_option linter.unusedVariables false
open Go Go.RowKit Go.MuLone
attribute [local go_sem ↓] Go.wp_at_zero Go.wp_at_succ

set_option maxRecDepth 100000 in
set_option maxHeartbeats 1600000 in
theorem openH_any (base hb : Nat) (A1 : Option Addr) (n1 c1 n : Nat) (room : List Int) (us : List Un) (node : Int) (op : Bool) (w : World) (h : HostR w base hb 0 A1 n1 c1 n room us) (hok : clOk room us = true) :
    Calls Tryz.prog 101 #[.pointer (some ⟨hb, 0, none⟩), .int .i64 node, .bool op] w fun e w' => e = .returned (.int .i64 (opnP room us node op).2.2) ∧ HostP w' hb A1 n1 c1 n room (opnP room us node op).2.1 ∧ Below base w w' := by
  obtain ⟨vs, zs, tk, X⟩ := h
  have hk := X.lk.1
  have hf := X.lk.2
  have HX := qh (X.setL (l' := 1))
  have hl : us.length = n := X.un.1
  have hn10 := X.n
  have hb0 := X.ge
  have B1 := qh ((Below.refl base w).setCell (p := ⟨hb, 0, none⟩) hb0 (.int .i32 1))
  have Hok := qh hok
  have Hl := qh hl
  have n1' : (0 : Int) ≤ (n : Int) := by omega
  have n2' : (n : Int) ≤ 10 := by omega
  have v1 : IntKind.i64.wrap ((n : Int) - 1) = (n : Int) - 1 := wr64 (by omega) (by omega)
  clear X hok hl
  go_enter_defers Tryz.func101, Tryz.ntmps101
  go_wp2_with fail
  refine (lock_free muLib ⟨hb, 0, none⟩ w hk hf).mono ?_; rintro e w2 ⟨rfl, rfl⟩
  generalize w.setCell ⟨hb, 0, none⟩ (.int .i32 1) = w2 at HX B1 ⊢
  clear hk hf
  have c3 := HX.out.view.c3
  go_wp2_with fail
  refine (within_any node 0 ((n : Int) - 1) w2).mono ?_; rintro e w3 ⟨rfl, rfl⟩
  clear c3
  cases hin : inR 0 ((n : Int) - 1) node with
  | false =>
    have Hin := qh (show inR 0 ((us.length : Int) - 1) node = false from by rw [Hl.out]; exact hin)
    clear hin
    go_wp2_with fail
    refine leaves_cons (f := 103) (args := #[.pointer (some ⟨hb, 0, none⟩)]) (by simp) (by simp [go_sem]) ?_
    refine (unlock_deferred muLib ⟨hb, 0, none⟩ .returning _ HX.out.lk.1 HX.out.lk.2).mono ?_
    rintro e u' w'' ⟨rfl, rfl, rfl⟩
    exact ⟨_, results_tmp rfl _ _ _, by rw [opnP_none Hok.out Hin.out]; rfl, by rw [opnP_none Hok.out Hin.out]; exact (HX.out.setL (l' := 0)).post, B1.out.setCell (p := ⟨hb, 0, none⟩) hb0 (.int .i32 0)⟩
  | true =>
    obtain ⟨m0, m1⟩ := inR_iff.1 hin
    obtain ⟨k, rfl⟩ := Int.eq_ofNat_of_zero_le m0
    have Hin := qh (show inR 0 ((us.length : Int) - 1) (k : Int) = true from by rw [Hl.out]; exact hin)
    have hk : k < n := by omega
    have kl : (k : Int) < 10 := by omega
    obtain ⟨b, o, A', m', c', hA, lb, hc1, hc2, hmc, hrd⟩ := HX.out.view.un.at_ hk
    injection hA with hA
    injection hA with hA1 hA2
    subst hA1 hA2
    have hm := hrd.len
    clear hin hrd
    cases hop : (us[k]?.getD (false, [])).1 == op with
    | true =>
      have Ho := qh (show (us[k]?.getD (false, [])).1 = op from by simpa using hop)
      clear hop
      rw [Ho.out] at hc1
      have hee : (op == op) = true := by simp
      go_wp2_with fail
      refine leaves_cons (f := 103) (args := #[.pointer (some ⟨hb, 0, none⟩)]) (by simp) (by simp [go_sem]) ?_
      refine (unlock_deferred muLib ⟨hb, 0, none⟩ .returning _ HX.out.lk.1 HX.out.lk.2).mono ?_
      rintro e u' w'' ⟨rfl, rfl, rfl⟩
      exact ⟨_, results_tmp rfl _ _ _, by rw [opnP_twice Hok.out Hin.out Ho.out]; rfl, by rw [opnP_twice Hok.out Hin.out Ho.out]; exact (HX.out.setL (l' := 0)).post, B1.out.setCell (p := ⟨hb, 0, none⟩) hb0 (.int .i32 0)⟩
    | false =>
      have Ho := qh (show (us[k]?.getD (false, [])).1 ≠ op from by simpa using hop)
      by_cases hbz : 0 < (us[k]?.getD (false, [])).2.length
      · have Hb := qh hbz
        have hmp : (0 : Int) < (m' : Int) := by omega
        clear hbz hm
        generalize (us[k]?.getD (false, [])).1 = o1 at hc1 hop
        go_wp2_with fail
        refine leaves_cons (f := 103) (args := #[.pointer (some ⟨hb, 0, none⟩)]) (by simp) (by simp [go_sem]) ?_
        refine (unlock_deferred muLib ⟨hb, 0, none⟩ .returning _ HX.out.lk.1 HX.out.lk.2).mono ?_
        rintro e u' w'' ⟨rfl, rfl, rfl⟩
        exact ⟨_, results_tmp rfl _ _ _, by rw [opnP_busy Hok.out Hin.out Ho.out Hb.out]; rfl, by rw [opnP_busy Hok.out Hin.out Ho.out Hb.out]; exact (HX.out.setL (l' := 0)).post, B1.out.setCell (p := ⟨hb, 0, none⟩) hb0 (.int .i32 0)⟩
      · have Hb := qh hbz
        have hmp : ¬ (0 : Int) < (m' : Int) := by omega
        clear hbz hm
        have HS := qh (HX.out.setU (i := k * 2) (by omega) (.bool op) (HX.out.un.open_ hk))
        have hf1 := HX.out.blk.frozen (4 + k * 2)
        have B2 := qh (B1.out.setCell (p := ⟨hb, 4 + k * 2, none⟩) hb0 (.bool op))
        generalize (us[k]?.getD (false, [])).1 = o1 at hc1 hop
        go_wp2_with fail
        refine leaves_cons (f := 103) (args := #[.pointer (some ⟨hb, 0, none⟩)]) (by simp) (by simp [go_sem]) ?_
        refine (unlock_deferred muLib ⟨hb, 0, none⟩ .returning _ HS.out.lk.1 HS.out.lk.2).mono ?_
        rintro e u' w'' ⟨rfl, rfl, rfl⟩
        exact ⟨_, results_tmp rfl _ _ _, by rw [opnP_yes Hok.out Hin.out Ho.out Hb.out]; rfl, by rw [opnP_yes Hok.out Hin.out Ho.out Hb.out]; exact (HS.out.setL (l' := 0)).post, B2.out.setCell (p := ⟨hb, 0, none⟩) hb0 (.int .i32 0)⟩

theorem un_pair {room : List Int} {us : List Un} (h : clOk room us = true) {k : Nat} (hk : k < us.length) : (us[k]?.getD (false, [])).2.Pairwise (fun x y => x.1 ≠ y.1) := by
  refine (ids_pair (binsOk_nodup (clOk_iff.1 h).2.1)).1 _ ?_
  rw [← map_snd_at hk, List.getElem?_eq_getElem (by rw [List.length_map]; exact hk)]
  exact List.getElem_mem _

set_option maxRecDepth 100000 in
set_option maxHeartbeats 3200000 in
theorem departH_any (base hb : Nat) (A1 : Option Addr) (n1 c1 n : Nat) (room : List Int) (us : List Un) (id : Int) (w : World) (h : HostR w base hb 0 A1 n1 c1 n room us) (hok : clOk room us = true) :
    Calls Tryz.prog 100 #[.pointer (some ⟨hb, 0, none⟩), .int .i64 id] w fun e w' => e = .returned (.int .i64 (depP room us id).2.2) ∧ HostP w' hb A1 n1 c1 n room (depP room us id).2.1 ∧ Below base w w' := by
  obtain ⟨vs, zs, tk, X⟩ := h
  have hk := X.lk.1
  have hf := X.lk.2
  have HX := qh (X.setL (l' := 1))
  have hl : us.length = n := X.un.1
  have hn10 := X.n
  have hb0 := X.ge
  have B1 := qh ((Below.refl base w).setCell (p := ⟨hb, 0, none⟩) hb0 (.int .i32 1))
  have Hok := qh hok
  have Hl := qh hl
  have hbl := X.blk.lt
  clear X hok hl
  go_enter_defers Tryz.func100, Tryz.ntmps100
  go_wp2_with fail
  refine (lock_free muLib ⟨hb, 0, none⟩ w hk hf).mono ?_; rintro e w2 ⟨rfl, rfl⟩
  have lz : base ≤ (w.setCell ⟨hb, 0, none⟩ (.int .i32 1)).heap.size := by simp [World.setCell]; omega
  generalize w.setCell ⟨hb, 0, none⟩ (.int .i32 1) = w2 at HX B1 lz ⊢
  clear hk hf
  go_wp2_with fail
  refine (find_any hb A1 n1 c1 n room us id w2 HX.out.view hn10).mono ?_; rintro e w3 ⟨rfl, hb3⟩
  have X3 := qh (HX.out.up hb3)
  have B3 := qh (B1.out.trans (hb3.mono lz))
  have lz3 := hb3.size
  clear HX B1 hb3
  rcases whereP_or (us.map (·.2)) id with hw | ⟨k, hw, hkl⟩
  · have Hw := qh hw
    have hfi : findU us id = (-1, -1) := by unfold findU; rw [hw, if_pos (by omega)]
    rw [hfi]
    have m1 : (-1 : Int) < 0 := by omega
    clear hw hfi
    dsimp only
    go_wp2_with fail
    refine leaves_cons (f := 103) (args := #[.pointer (some ⟨hb, 0, none⟩)]) (by simp) (by simp [go_sem]) ?_
    refine (unlock_deferred muLib ⟨hb, 0, none⟩ .returning _ X3.out.lk.1 X3.out.lk.2).mono ?_
    rintro e u' w'' ⟨rfl, rfl, rfl⟩
    exact ⟨_, results_tmp rfl _ _ _, by rw [depP_none Hok.out Hw.out]; rfl, by rw [depP_none Hok.out Hw.out]; exact (X3.out.setL (l' := 0)).post, B3.out.setCell (p := ⟨hb, 0, none⟩) hb0 (.int .i32 0)⟩
  · rw [List.length_map] at hkl
    have Hw := qh hw
    obtain ⟨_, hhas⟩ := where_has hw
    rw [map_snd_at hkl] at hhas
    obtain ⟨q, hq, hql, hqid⟩ : ∃ q : Nat, atP (us[k]?.getD (false, [])).2 id = (q : Int) ∧ q < (us[k]?.getD (false, [])).2.length ∧ ((us[k]?.getD (false, [])).2[q]?.getD (0, [])).1 = id := by
      rcases atP_or (us[k]?.getD (false, [])).2 id with ⟨hh, _⟩ | ⟨_, q, e, hq⟩
      · rw [hhas] at hh; cases hh
      · obtain ⟨h1, h2⟩ := idx_at (d := (0, [])) e
        exact ⟨q, e, hq, by simpa using h2⟩
    have hfi : findU us id = ((k : Int), (q : Int)) := by unfold findU; rw [hw, if_neg (by omega), Int.toNat_natCast, hq]
    rw [hfi]
    have hkn : k < n := by have := Hl.out; omega
    have m0 : ¬ (k : Int) < 0 := by omega
    have m2 : (0 : Int) ≤ (k : Int) := by omega
    have m3 : (k : Int) < 10 := by omega
    have m4 : IntKind.i64.wrap ((q : Int) + 1) = (q : Int) + 1 := by
      have h1 := (clOk_facts Hok.out).2.2.2 _ (un_mem (k := k) hkl)
      exact wr64 (by omega) (by omega)
    have htake : takeP (us[k]?.getD (false, [])).2 id = (us[k]?.getD (false, [])).2.eraseIdx q := by
      rw [← hqid, List.getElem?_eq_getElem hql]
      exact take_erase (un_pair Hok.out hkl) hql
    have Htk := qh htake
    have hm14 := ((clOk_facts Hok.out).2.2.2 _ (un_mem (k := k) hkl)).1
    clear hw hfi hhas htake hqid
    dsimp only
    obtain ⟨hc1, hc2, Ak, mk, ck, vt, htkk, hown, hnd⟩ := X3.out.un.2.2.1 k hkn
    have hmk : mk = (us[k]?.getD (false, [])).2.length := hnd.1.symm
    obtain ⟨gk, cur, rfl, hbk, _⟩ := own_row hown (by omega)
    have Hcell := qh (show w3.cell? ⟨hb, 4 + k * 2 + 1, none⟩ = some (.slice (some ⟨gk, 0, none⟩) mk ck) from by rw [Nat.add_assoc, X3.out.cellU (by omega), hc2, htkk])
    have Hown := qh hown
    have Hnd := qh hnd
    have Htkk := qh htkk
    have mq : q < mk := by omega
    have mm : mk ≤ 1000 := by omega
    clear hc1 hc2 hown hnd htkk hmk
    go_wp2_with fail
    refine wp_region_mixL (.take 0 (.take 1 (.take 2 (.take 3 (.take 4 (.take 5 (.take 6 (.take 7 (.take 8 (.take 9 (.take 10 (.take 11 (.take 13 (.take 14 (.bar 12 (.take 15 (.take 16 (.last 17 .nil)))))))))))))))))) [17] (fun w' => w'.cell? ⟨hb, 4 + k * 2 + 1, none⟩ = some (.slice (some ⟨gk, 0, none⟩) mk ck)) (by kernel_rfl) (by kernel_rfl) Hcell.out (fun _ => ?_)
    have X4 := qh (X3.out.up (Below.refl _ _).drew)
    have B4 := qh B3.out.drew
    have Own4 := qh (World.ownsRow.drew Hown.out)
    have Nd4 := qh (Hnd.out.keepTI (KeepTI.drew w3))
    have lz4 : base ≤ w3.drew.heap.size := by show base ≤ w3.heap.size; omega
    generalize w3.drew = w4 at X4 B4 Own4 Nd4 lz4 ⊢
    clear X3 B3 Hown Hnd Hcell lz3
    repeat ((first | refine lxS (by rfl) (by rfl) ?_ | (refine lxT (v := ?_) (by rfl) (by rfl) (fun z y => ?_) ?_; rotate_left; (focus ((try dsimp only at y); (go_simp <;> with_reducible rfl); done)))); (try simp only [Act.put,pS,pZ,pC]))
    (refine lxB (by rfl) (fun K hK => ?_); go_simp)
    refine (delete_any base gk mk ck q vt (us[k]?.getD (false, [])).2 w4 Own4.out Nd4.out mq mm).mono ?_; rintro e w5 ⟨rfl, hown5, hnd5, hoth, hbel5, hgr5⟩
    have hne : hb ≠ gk := fun e => own_blk_ne Own4.out X4.out.blk (by decide) (by rw [e]; rfl)
    have Blk5 := qh ((hoth hb hne).trans X4.out.blk)
    have Blk5' := qh (show Blk w5 hb 135 (hostC 1 A1 n1 c1 n (vs ++ zs)) from Blk5.out)
    have Rm5 := qh (own_keepB X4.out.rm (w' := w5) (fun b cs hb' hc => hoth b (fun e => by
      subst e
      exact own_blk_ne Own4.out hc (by decide) rfl)))
    have Un5 := qh (X4.out.un.grow (w' := w5) hkn (by rw [Htkk.out]; exact hgr5) hown5 hnd5 (.inl (by rw [Htkk.out]; rfl)))
    have X5 := qh (show HostX w5 base hb 1 A1 n1 c1 n room us vs zs tk ∨ True from .inr trivial)
    have B5 := qh (B4.out.trans hbel5)
    have hc5 : w5.cell? ⟨hb, 4 + k * 2 + 1, none⟩ = some (.slice (some ⟨gk, 0, none⟩) mk ck) := by
      obtain ⟨_, h2, Ak, mk', ck', vt', h3, h4, h5⟩ := X4.out.un.2.2.1 k hkn
      rw [Blk5'.out.cell, Nat.add_assoc, hostC_unit, List.getElem?_append_left (by rw [X4.out.un.2.1]; omega), h2, Htkk.out]
    have hf5 := Blk5'.out.frozen (4 + k * 2 + 1)
    clear hown5 hnd5 hoth hbel5 hgr5 Blk5 X5
    ((try dsimp only); refine nxK hK _ _ (hc5) ?_; clear hK K; (try simp only [Act.put,pS,pZ,pC]))
    repeat ((first | refine lxS (by rfl) (by rfl) ?_ | (refine lxT (v := ?_) (by rfl) (by rfl) (fun z y => ?_) ?_; rotate_left; (focus ((try dsimp only at y); (go_simp <;> with_reducible rfl); done)))); (try simp only [Act.put,pS,pZ,pC]))
    (refine wpMixL_last (by rfl) (fun K hK => ?_); go_simp)
    ((try dsimp only); refine hK.out _ _ ?_; clear hK K; (try simp only [Act.put,pS,pZ,pC]))
    refine wpMixL_nil ?_
    have X6 := qh (show HostX (w5.setCell ⟨hb, 4 + k * 2 + 1, none⟩ (.slice (some ⟨gk, 0, none⟩) (mk - 1) ck)) base hb 1 A1 n1 c1 n room (us.set k ((us[k]?.getD (false, [])).1, (us[k]?.getD (false, [])).2.eraseIdx q)) (vs.set (k * 2 + 1) (.slice (some ⟨gk, 0, none⟩) (mk - 1) ck)) zs (fun i => if i = k then .slice (some ⟨gk, 0, none⟩) (mk - 1) ck else tk i) from by
      have hkt : KeepTI w5 (w5.setCell ⟨hb, 4 + k * 2 + 1, none⟩ (.slice (some ⟨gk, 0, none⟩) (mk - 1) ck)) := KeepTI.set_ Blk5'.out (by decide) (by decide) _ _
      refine ⟨?_, hb0, own_keepTI Rm5.out (.inl rfl) hkt, Un5.out.keepTI hkt, hn10⟩
      have := Blk5'.out.set_ (4 + k * 2 + 1) (.slice (some ⟨gk, 0, none⟩) (mk - 1) ck)
      rwa [Nat.add_assoc, hostC_set, List.set_append_left _ _ (by rw [X4.out.un.2.1]; omega)] at this)
    have B6 := qh (B5.out.setCell (p := ⟨hb, 4 + k * 2 + 1, none⟩) hb0 (.slice (some ⟨gk, 0, none⟩) (mk - 1) ck))
    generalize w5.setCell ⟨hb, 4 + k * 2 + 1, none⟩ (.slice (some ⟨gk, 0, none⟩) (mk - 1) ck) = w6 at X6 B6 ⊢
    clear hc5 hf5 Rm5 Un5 Blk5' B5
    go_wp2_with fail
    refine leaves_cons (f := 103) (args := #[.pointer (some ⟨hb, 0, none⟩)]) (by simp) (by simp [go_sem]) ?_
    refine (unlock_deferred muLib ⟨hb, 0, none⟩ .returning _ X6.out.lk.1 X6.out.lk.2).mono ?_
    rintro e u' w'' ⟨rfl, rfl, rfl⟩
    exact ⟨_, results_tmp rfl _ _ _, by rw [depP_yes Hok.out Hw.out, Htk.out]; rfl, by rw [depP_yes Hok.out Hw.out, Htk.out]; exact (X6.out.setL (l' := 0)).post, B6.out.setCell (p := ⟨hb, 0, none⟩) hb0 (.int .i32 0)⟩

theorem idxP_congr {α : Type} {p q : α → Bool} {l : List α} (h : ∀ x ∈ l, p x = q x) : idxP p l = idxP q l := by
  unfold idxP
  have : l.findIdx? p = l.findIdx? q := by
    induction l with
    | nil => rfl
    | cons x l ih =>
      rw [List.findIdx?_cons, List.findIdx?_cons, h x (by simp), ih (fun y hy => h y (by simp [hy]))]
  rw [this]
theorem place_arv {room : List Int} {us : List Un} {id : Int} {xs : List Int} {g : Bool} (h : clOk room us = true) (ht : tasksOk room [(id, xs)] = true) : placeP room us xs g = arvAt room us xs g := by
  have e1 : idxP (openB1 room xs) us = cAtP room us xs true := idxP_congr fun u _ => by unfold openB1 atB; cases u.1 <;> rfl
  have hfx : fits3 xs room = true ∧ xs.length = 3 := by
    simp only [tasksOk, Bool.and_eq_true, List.all_eq_true] at ht
    have := ht.1.2 (id, xs) (by simp)
    simp only [taskOk, vecFits, Bool.and_eq_true] at this
    exact ⟨this.2.2, vecOk_len this.2.1.1⟩
  have e2 : idxP (fun u : Un => !u.1) us = cAtP room us xs false := idxP_congr fun u hu => by
    unfold atB
    cases ho : u.1 with
    | true => rfl
    | false =>
      have he : u.2 = [] := ((clOk_iff.1 h).2.2 u hu).resolve_left (by rw [ho]; simp)
      have hf : fits3 (add3 (loadP u.2) xs) room = true := by
        rw [he, fits3_iff]
        intro j hj
        rw [add3_at hj]
        have h0 : (loadP [])[j]?.getD 0 = 0 := by
          match j, hj with
          | 0, _ => rfl
          | 1, _ => rfl
          | 2, _ => rfl
        rw [h0, Int.zero_add]
        exact fits3_iff.1 hfx.1 j hj
      rw [hf]; rfl
  unfold placeP arvAt
  rw [e1, e2]
  have hr : cAtP room us xs true = -1 ∨ ∃ k : Nat, cAtP room us xs true = (k : Int) := by
    rcases idxP_or (atB room xs true) us with e | ⟨k, e, _⟩
    · exact .inl e
    · exact .inr ⟨k, e⟩
  rcases hr with e | ⟨k, e⟩
  · rw [e, if_neg (by omega)]
    cases g with
    | true => rw [if_pos rfl, if_pos ⟨by omega, rfl⟩]
    | false => rw [if_neg (by simp), if_neg (by simp)]
  · rw [e, if_pos (by omega), if_neg (by omega)]

set_option maxRecDepth 100000 in
set_option maxHeartbeats 800000 in
theorem arriveH_any (base hb : Nat) (A1 A3 : Option Addr) (n1 c1 n n3 c3 : Nat) (room : List Int) (us : List Un) (id : Int) (xs : List Int) (g : Bool) (w : World) (h : HostR w base hb 0 A1 n1 c1 n room us) (hok : clOk room us = true) (hx : RdI w w.heap.size A3 n3 xs) (hc3 : n3 ≤ c3) :
    Calls Tryz.prog 99 #[.pointer (some ⟨hb, 0, none⟩), .agg #[.int .i64 id, .slice A3 n3 c3], .bool g] w fun e w' => e = .returned (.int .i64 (cavP room us id xs g).2.2) ∧ HostP w' hb A1 n1 c1 n room (cavP room us id xs g).2.1 ∧ Below base w w' := by
  obtain ⟨i0, hi0, hz0, hz1, hz2⟩ := info_parts task_info
  obtain ⟨vs, zs, tk, X⟩ := h
  have hal := alloc_up w (.cells #[.int .i64 id, .slice A3 n3 c3] 75)
  have X0 := X.up hal
  have hk := X0.lk.1
  have hf := X0.lk.2
  have hx0 := hx.up hal
  have HR := qh (hx0.lock (v := .int .i32 1) hk)
  have HX := qh (X0.setL (l' := 1))
  have hl : us.length = n := X.un.1
  have hn10 := X.n
  have hb0 := X.ge
  have hbl := X.blk.lt
  have B1 := qh ((((Below.refl base w).trans (hal.mono (by omega)))).setCell (p := ⟨hb, 0, none⟩) hb0 (.int .i32 1))
  have P1 := qh ((Blk.new w 75 #[.int .i64 id, .slice A3 n3 c3]).far (p := ⟨hb, 0, none⟩) (by show w.heap.size ≠ hb; omega) (.int .i32 1))
  have Hok := qh hok
  have Hl := qh hl
  have Hold := qh (fun i hi b hb => X.un.old i hi b hb)
  have lz : base ≤ ((w.alloc (.cells #[.int .i64 id, .slice A3 n3 c3] 75)).setCell ⟨hb, 0, none⟩ (.int .i32 1)).heap.size := by simp [World.setCell]; omega
  clear X X0 hok hl hx hx0 hal
  go_enter_defers Tryz.func99, Tryz.ntmps99
  go_wp2_with fail
  refine (lock_free muLib ⟨hb, 0, none⟩ _ hk hf).mono ?_; rintro e w2 ⟨rfl, rfl⟩
  have hsz : ((w.alloc (.cells #[.int .i64 id, .slice A3 n3 c3] 75)).setCell ⟨hb, 0, none⟩ (.int .i32 1)).heap.size = (w.alloc (.cells #[.int .i64 id, .slice A3 n3 c3] 75)).heap.size := by simp [World.setCell]
  rw [← hsz] at HR
  generalize w.heap.size = gx at P1 hbl Hold ⊢
  generalize (w.alloc (.cells #[.int .i64 id, .slice A3 n3 c3] 75)).setCell ⟨hb, 0, none⟩ (.int .i32 1) = w2 at HX B1 P1 HR lz ⊢
  clear hk hf hsz
  go_wp2_with fail
  have lx := P1.out.lt
  refine wp_region_mixL (.take 0 (.take 1 (.take 2 (.take 3 (.take 4 (.bar 5 (.bar 6 (.take 7 .nil)))))))) [] (fun w' => w'.cell? ⟨hb, 2, none⟩ = some (.slice A1 n1 c1) ∧ w'.cell? ⟨gx, 0, none⟩ = some (.int .i64 id) ∧ w'.cell? ⟨gx, 1, none⟩ = some (.slice A3 n3 c3)) (by kernel_rfl) (by kernel_rfl) ⟨HX.out.view.c2, P1.out.cell 0, P1.out.cell 1⟩ (fun _ => ?_)
  have XU := qh (HX.out.up (Below.refl _ _).drew)
  have RU := qh (HR.out.up (Below.refl _ _).drew)
  have PU := qh P1.out.drew
  have BU := qh B1.out.drew
  have lzu : base ≤ w2.drew.heap.size := lz
  generalize w2.drew = u2 at XU RU PU BU lzu ⊢
  clear HX HR P1 B1 lz
  repeat ((first | refine lxS (by rfl) (by rfl) ?_ | (refine lxT (v := ?_) (by rfl) (by rfl) (fun z y => ?_) ?_; rotate_left; (focus ((try dsimp only at y); (go_simp <;> with_reducible rfl); done)))); (try simp only [Act.put,pS,pZ,pC]))
  (refine lxB (by rfl) (fun K hK => ?_); go_simp)
  have up3 := alloc_up u2 (.cells #[.int .i64 id, .slice A3 n3 c3] 75)
  have X3 := qh (XU.out.up up3)
  have R3 := qh (RU.out.up up3)
  have P3 := qh (PU.out.below up3 PU.out.lt)
  have B3 := qh (BU.out.trans (up3.mono lzu))
  have Y3 := qh (Blk.new u2 75 #[.int .i64 id, .slice A3 n3 c3])
  have lz3 : base ≤ (u2.alloc (.cells #[.int .i64 id, .slice A3 n3 c3] 75)).heap.size := Nat.le_trans lzu up3.size
  ((try dsimp only); refine nxK hK _ _ (⟨X3.out.view.c2, P3.out.cell 0, P3.out.cell 1⟩) ?_; clear hK K; (try simp only [Act.put,pS,pZ,pC]))
  generalize u2.heap.size = gy at Y3 ⊢
  generalize u2.alloc (.cells #[.int .i64 id, .slice A3 n3 c3] 75) = w3 at X3 R3 P3 B3 Y3 lz3 ⊢
  clear XU RU PU BU up3
  have Rt3 := qh (show RdT w3 w3.heap.size (some ⟨gy, 0, none⟩) 1 [(id, xs)] from ⟨rfl, by omega, fun _ => ⟨gy, 0, rfl, Y3.out.lt, fun j hj => by
    obtain rfl : j = 0 := by omega
    exact ⟨A3, n3, c3, Y3.out.cell 0, Y3.out.cell 1, hc3, R3.out⟩⟩⟩)
  (refine lxB (by rfl) (fun K hK => ?_); go_simp)
  refine (tasksValidI_any A1 (some ⟨gy, 0, none⟩) n1 c1 1 1 room [(id, xs)] w3 X3.out.view.rm Rt3.out).mono ?_; rintro e w4 ⟨rfl, hb4⟩
  obtain ⟨bt, hbt⟩ : ∃ bt, bt = tasksOk room [(id, xs)] := ⟨_, rfl⟩
  rw [← hbt]
  have Hbt := qh hbt
  clear hbt
  have X4 := qh (X3.out.up hb4)
  have R4 := qh (R3.out.up hb4)
  have P4 := qh (P3.out.below hb4 P3.out.lt)
  have B4 := qh (B3.out.trans (hb4.mono lz3))
  have lz4 : base ≤ w4.heap.size := Nat.le_trans lz3 hb4.size
  ((try dsimp only); refine nxK hK _ _ (⟨X4.out.view.c2, P4.out.cell 0, P4.out.cell 1⟩) ?_; clear hK K; (try simp only [Act.put,pS,pZ,pC]))
  clear X3 R3 P3 B3 Y3 Rt3 hb4
  repeat ((first | refine lxS (by rfl) (by rfl) ?_ | (refine lxT (v := ?_) (by rfl) (by rfl) (fun z y => ?_) ?_; rotate_left; (focus ((try dsimp only at y); (go_simp <;> with_reducible rfl); done)))); (try simp only [Act.put,pS,pZ,pC]))
  refine wpMixL_nil ?_
  cases bt with
  | false =>
    have Htv := qh Hbt.out.symm
    go_wp2_with fail
    refine leaves_cons (f := 103) (args := #[.pointer (some ⟨hb, 0, none⟩)]) (by simp) (by simp [go_sem]) ?_
    refine (unlock_deferred muLib ⟨hb, 0, none⟩ .returning _ X4.out.lk.1 X4.out.lk.2).mono ?_
    rintro e u' w'' ⟨rfl, rfl, rfl⟩
    exact ⟨_, results_tmp rfl _ _ _, by rw [cavP_task Hok.out Htv.out]; rfl, by rw [cavP_task Hok.out Htv.out]; exact (X4.out.setL (l' := 0)).post, B4.out.setCell (p := ⟨hb, 0, none⟩) hb0 (.int .i32 0)⟩
  | true =>
    have Htv := qh Hbt.out.symm
    have z0 := P4.out.cell 0
    simp only [gT, gZ, gS] at z0
    go_wp2_with fail
    refine (find_any hb A1 n1 c1 n room us id w4 X4.out.view hn10).mono ?_; rintro e w5 ⟨rfl, hb5⟩
    have X5 := qh (X4.out.up hb5)
    have R5 := qh (R4.out.up hb5)
    have P5 := qh (P4.out.below hb5 P4.out.lt)
    have B5 := qh (B4.out.trans (hb5.mono lz4))
    have lz5 : base ≤ w5.heap.size := Nat.le_trans lz4 hb5.size
    clear X4 R4 P4 B4 hb5 z0
    rcases whereP_or (us.map (·.2)) id with hw | ⟨k, hw, hkl⟩
    · have Hw := qh hw
      have hfi : findU us id = (-1, -1) := by unfold findU; rw [hw, if_pos (by omega)]
      rw [hfi]
      have m1 : ¬ (0 : Int) ≤ -1 := by omega
      have hvx : vecOk xs = true := tasksOk_vecs Htv.out (id, xs) (List.mem_singleton.2 rfl)
      have Hv := qh hvx
      have hxl : n3 = 3 := by have := R5.out.len; have := vecOk_len hvx; omega
      have Hn3 := qh hxl
      have hR := R5.out
      rw [hxl] at hR
      have R5' := qh hR
      clear hw hfi hvx hxl hR R5
      dsimp only
      have z0 := P5.out.cell 0
      have z1 := P5.out.cell 1
      simp only [gT, gZ, gS] at z0 z1
      rw [Hn3.out] at z1
      go_wp2_with fail
      have hr3 : 3 ≤ n1 := by
        have h1 := (clOk_facts Hok.out).1
        have h2 := X5.out.view.rm.len
        omega
      refine (place_any hb A1 A3 n1 c1 n c3 room us id xs g w5 X5.out.view hn10 hr3 R5'.out (fun u hu => ⟨((clOk_vecs Hok.out).2 u hu).1, ((clOk_vecs Hok.out).2 u hu).2⟩) Hv.out).mono ?_; rintro e w6 ⟨rfl, hb6⟩
      rw [place_arv Hok.out Htv.out]
      have X6 := qh (X5.out.up hb6)
      have R6 := qh (R5'.out.up hb6)
      have P6 := qh (P5.out.below hb6 P5.out.lt)
      have B6 := qh (B5.out.trans (hb6.mono lz5))
      have lz6 : base ≤ w6.heap.size := Nat.le_trans lz5 hb6.size
      clear X5 R5' P5 B5 hb6 z0 z1
      rcases arvAt_or (room := room) (us := us) (xs := xs) (g := g) with ha | ⟨k, ha⟩
      · have Ha := qh ha
        rw [ha]
        have m2 : (-1 : Int) < 0 := by omega
        clear ha
        go_wp2_with fail
        refine leaves_cons (f := 103) (args := #[.pointer (some ⟨hb, 0, none⟩)]) (by simp) (by simp [go_sem]) ?_
        refine (unlock_deferred muLib ⟨hb, 0, none⟩ .returning _ X6.out.lk.1 X6.out.lk.2).mono ?_
        rintro e u' w'' ⟨rfl, rfl, rfl⟩
        exact ⟨_, results_tmp rfl _ _ _, by rw [cavP_new Hok.out Htv.out Hw.out, arvP_none Ha.out]; rfl, by rw [cavP_new Hok.out Htv.out Hw.out, arvP_none Ha.out]; exact (X6.out.setL (l' := 0)).post, B6.out.setCell (p := ⟨hb, 0, none⟩) hb0 (.int .i32 0)⟩
      · obtain ⟨hkl, hfit⟩ := arv_fits ha
        have Ha := qh ha
        rw [ha]
        have m2 : ¬ (k : Int) < 0 := by omega
        have ht14 := clOk_total Hok.out
        clear ha hfit
        go_wp2_with fail
        refine (tasks_any hb A1 n1 c1 n room us w6 X6.out.view hn10 (by omega)).mono ?_; rintro e w7 ⟨rfl, hb7⟩
        have X7 := qh (X6.out.up hb7)
        have R7 := qh (R6.out.up hb7)
        have P7 := qh (P6.out.below hb7 P6.out.lt)
        have B7 := qh (B6.out.trans (hb7.mono lz6))
        have lz7 : base ≤ w7.heap.size := Nat.le_trans lz6 hb7.size
        clear X6 R6 P6 B6 hb7
        by_cases hfull : (us.map (·.2)).flatten.length = 14
        · have Hf := qh hfull
          have m3 : (14 : Int) ≤ (((us.map (·.2)).flatten.length : Nat) : Int) := by omega
          clear hfull
          generalize (us.map (·.2)).flatten.length = tot at m3 ⊢
          go_wp2_with fail
          refine leaves_cons (f := 103) (args := #[.pointer (some ⟨hb, 0, none⟩)]) (by simp) (by simp [go_sem]) ?_
          refine (unlock_deferred muLib ⟨hb, 0, none⟩ .returning _ X7.out.lk.1 X7.out.lk.2).mono ?_
          rintro e u' w'' ⟨rfl, rfl, rfl⟩
          exact ⟨_, results_tmp rfl _ _ _, by rw [cavP_new Hok.out Htv.out Hw.out, arvP_full Hf.out]; rfl, by rw [cavP_new Hok.out Htv.out Hw.out, arvP_full Hf.out]; exact (X7.out.setL (l' := 0)).post, B7.out.setCell (p := ⟨hb, 0, none⟩) hb0 (.int .i32 0)⟩
        · have Hf := qh hfull
          have m3 : ¬ (14 : Int) ≤ (((us.map (·.2)).flatten.length : Nat) : Int) := by omega
          clear hfull
          generalize (us.map (·.2)).flatten.length = tot at m3 ⊢
          have hkn : k < n := by have := Hl.out; omega
          have m4 : (0 : Int) ≤ (k : Int) := by omega
          have m5 : (k : Int) < 10 := by omega
          have hm14 := ((clOk_facts Hok.out).2.2.2 _ (un_mem (k := k) hkl)).1
          -- the node is open
          have X8 := qh (X7.out.setU (i := k * 2) (by omega) (.bool true) (X7.out.un.open_ (op := true) hkn))
          have hc7 := X7.out.blk.cell (4 + k * 2)
          rw [hostC_unit, List.getElem?_append_left (by rw [X7.out.un.2.1]; omega), (X7.out.un.2.2.1 k hkn).1] at hc7
          have hf7 := X7.out.blk.frozen (4 + k * 2)
          have hc : ∀ q : Addr, q.block ≠ hb → (w7.setCell ⟨hb, 4 + k * 2, none⟩ (.bool true)).cell? q = w7.cell? q := fun q hq => World.cell?_setCell_other _ _ _ _ (fun e => hq (by rw [← e]))
          have P8 := qh (P7.out.far (p := ⟨hb, 4 + k * 2, none⟩) (by show gx ≠ hb; omega) (.bool true))
          have B8 := qh (B7.out.setCell (p := ⟨hb, 4 + k * 2, none⟩) hb0 (.bool true))
          have hR8 : RdI (w7.setCell ⟨hb, 4 + k * 2, none⟩ (.bool true)) w7.heap.size A3 3 xs := ⟨R7.out.1, R7.out.2.1, fun hn => by
            obtain ⟨bb, oo, e, hbb, hcc⟩ := R7.out.2.2 hn
            refine ⟨bb, oo, e, hbb, fun j hj => ?_⟩
            rw [World.cell?_setCell_other _ _ _ _ (fun e => by
              have h1 := hcc j hj
              rw [← e, hc7] at h1
              injection h1 with h1
              cases h1)]
            exact hcc j hj⟩
          have hsz8 : (w7.setCell ⟨hb, 4 + k * 2, none⟩ (.bool true)).heap.size = w7.heap.size := by simp [World.setCell]
          have lz8 : base ≤ (w7.setCell ⟨hb, 4 + k * 2, none⟩ (.bool true)).heap.size := by rw [hsz8]; exact lz7
          rw [← hsz8] at hR8
          have R8 := qh hR8
          clear hc hR8 hsz8
          generalize (us[k]?.getD (false, [])).1 = o1 at hc7
          go_wp2_with fail
          generalize w7.setCell ⟨hb, 4 + k * 2, none⟩ (.bool true) = w8 at X8 P8 B8 R8 lz8 ⊢
          clear hc7 hf7 X7 R7 P7 B7 lz7
          -- the task is appended
          obtain ⟨hc1, hc2, Ak, mk, ck, vt, htkk, hown, hnd⟩ := X8.out.un.2.2.1 k hkn
          have hg8 : ((us.set k (true, (us[k]?.getD (false, [])).2))[k]?.getD (false, [])) = (true, (us[k]?.getD (false, [])).2) := by rw [List.getElem?_set_self hkl]; rfl
          rw [hg8] at hnd
          have hmk : mk = (us[k]?.getD (false, [])).2.length := hnd.1.symm
          have Hcell := qh (show w8.cell? ⟨hb, 4 + k * 2 + 1, none⟩ = some (.slice Ak mk ck) from by rw [Nat.add_assoc, X8.out.cellU (by omega), hc2, htkk])
          have Hown := qh hown
          have Hnd := qh hnd
          have Htkk := qh htkk
          have mm : mk ≤ 14 := by omega
          have lx8 := P8.out.lt
          clear hc1 hc2 hown hnd htkk hmk hm14
          have hop9 : ∀ W : World, Below w8.heap.size w8 W → W.cell? ⟨hb, 4 + k * 2 + 1, none⟩ = some (.slice Ak mk ck) ∧ W.cell? ⟨gx, 0, none⟩ = some (.int .i64 id) ∧ W.cell? ⟨gx, 1, none⟩ = some (.slice A3 3 c3) := fun W hW => by
            refine ⟨(hW.cell (p := ⟨hb, 4 + k * 2 + 1, none⟩) X8.out.blk.lt).trans Hcell.out, (P8.out.below hW P8.out.lt).cell 0, ?_⟩
            have := (P8.out.below hW P8.out.lt).cell 1
            rw [Hn3.out] at this
            exact this
          have Hop9 := qh hop9
          clear hop9
          refine wp_region_mixL (.take 0 (.take 1 (.take 2 (.take 3 (.take 4 (.take 5 (.take 6 (.take 7 (.take 8 (.take 9 (.take 13 (.take 14 (.bar 10 (.bar 11 (.bar 12 (.take 15 (.take 16 (.last 17 .nil)))))))))))))))))) [17] (fun w' => w'.cell? ⟨hb, 4 + k * 2 + 1, none⟩ = some (.slice Ak mk ck) ∧ w'.cell? ⟨gx, 0, none⟩ = some (.int .i64 id) ∧ w'.cell? ⟨gx, 1, none⟩ = some (.slice A3 3 c3)) (by kernel_rfl) (by kernel_rfl) (Hop9.out _ (Below.refl _ _).drew) (fun _ => ?_)
          have U9 := qh ((Below.refl w8.heap.size w8).drew)
          have R9 := qh (R8.out.up (Below.refl _ _).drew)
          have X9 := qh (X8.out.up (Below.refl _ _).drew)
          have B9 := qh B8.out.drew
          have Own9 := qh (World.ownsRow.drew Hown.out)
          have Nd9 := qh (Hnd.out.keepTI (KeepTI.drew w8))
          have lz9 : base ≤ w8.drew.heap.size := lz8
          have le9 : w8.heap.size ≤ w8.drew.heap.size := Nat.le_refl _
          generalize w8.drew = w9 at U9 R9 X9 B9 Own9 Nd9 lz9 le9 ⊢
          clear R8 X8 P8 B8 Hown Hnd Hcell lz8
          repeat ((first | refine lxS (by rfl) (by rfl) ?_ | (refine lxT (v := ?_) (by rfl) (by rfl) (fun z y => ?_) ?_; rotate_left; (focus ((try dsimp only at y); (go_simp <;> with_reducible rfl); done)))); (try simp only [Act.put,pS,pZ,pC]))
          (refine lxB (by rfl) (fun K hK => ?_); go_simp)
          refine (copyOf_any A3 3 c3 id xs w9 R9.out (by omega)).mono ?_; rintro e u1 ⟨Ax, cx, rfl, hox, hb1⟩
          have U1 := qh (U9.out.trans (hb1.mono le9))
          have X1 := qh (X9.out.up hb1)
          have B1' := qh (B9.out.trans (hb1.mono lz9))
          have O1 := qh (own_up' Own9.out hb1)
          have N1 := qh (Nd9.out.keepTI (KeepTI.up hb1))
          have Ox1 := qh (own_lo hox lz9)
          have lu1 : base ≤ u1.heap.size := Nat.le_trans lz9 hb1.size
          have le1 : w8.heap.size ≤ u1.heap.size := Nat.le_trans le9 hb1.size
          ((try dsimp only); refine nxK hK _ _ (Hop9.out _ U1.out) ?_; clear hK K; (try simp only [Act.put,pS,pZ,pC]))
          clear hox hb1 X9 B9 Own9 Nd9 U9 R9
          repeat ((first | refine lxS (by rfl) (by rfl) ?_ | (refine lxT (v := ?_) (by rfl) (by rfl) (fun z y => ?_) ?_; rotate_left; (focus ((try dsimp only at y); (go_simp <;> with_reducible rfl); done)))); (try simp only [Act.put,pS,pZ,pC]))
          (refine lxB (by rfl) (fun K hK => ?_); go_simp)
          have al2 := alloc_up u1 (.cells #[.int .i64 id, .slice Ax 3 cx] 75)
          have U2 := qh (U1.out.trans (al2.mono le1))
          have X2 := qh (X1.out.up al2)
          have B2' := qh (B1'.out.trans (al2.mono lu1))
          have O2 := qh (own_up' O1.out al2)
          have N2 := qh (N1.out.keepTI (KeepTI.up al2))
          have Ox2 := qh (own_up' Ox1.out al2)
          have S2 := qh (lit2 u1 75 (.int .i64 id) (.slice Ax 3 cx))
          have lu2 : base ≤ (u1.alloc (.cells #[.int .i64 id, .slice Ax 3 cx] 75)).heap.size := Nat.le_trans lu1 al2.size
          have le2 : w8.heap.size ≤ (u1.alloc (.cells #[.int .i64 id, .slice Ax 3 cx] 75)).heap.size := Nat.le_trans le1 al2.size
          ((try dsimp only); refine nxK hK _ _ (Hop9.out _ U2.out) ?_; clear hK K; (try simp only [Act.put,pS,pZ,pC]))
          clear al2 X1 B1' O1 N1 Ox1 U1
          generalize u1.heap.size = gs at S2 ⊢
          generalize u1.alloc (.cells #[.int .i64 id, .slice Ax 3 cx] 75) = u2 at U2 X2 B2' O2 N2 Ox2 S2 lu2 le2 ⊢
          refine lxB (by rfl) (fun K hK => ?_)
          rw [if_pos (by rfl)]
          refine wp_append_src _ _ _ 81 (by rfl) base 75 i0 _ 2 32 Tryz.underlying81 hi0 hz0 hz1 hz2 rfl (by omega) (.slice Ak mk ck) mk vt (by rfl) O2.out (some ⟨gs, 0, none⟩) 1 1 [.int .i64 id, .slice Ax 3 cx] (by rfl) S2.out (one2 _ _ rfl rfl) (by unfold maxLen; omega) (by omega) lu2 ?_
          intro v6 u3 hown6 hgrow6 hrow6
          obtain ⟨A8, c8, rfl⟩ := own_shape hown6
          have hne : ∀ cs, Blk u2 hb 135 cs → (Value.slice Ak mk ck).ownBlock ≠ some hb := fun cs hc => own_blk_ne O2.out hc (by decide)
          have Blk3 := qh (show Blk u3 hb 135 (hostC 1 A1 n1 c1 n (vs.set (k * 2) (.bool true) ++ zs)) from X2.out.blk.grown hgrow6 (fun e => hne _ X2.out.blk e.symm))
          have Rm3 := qh (own_keepB X2.out.rm (w' := u3) (fun b cs hb' hc => hgrow6.block b hc.lt (fun e => own_blk_ne O2.out hc (by decide) e.symm)))
          have N3 := qh ((N2.out.snoc (id := id) Ox2.out).grown O2.out (by decide) hgrow6)
          have Un3 := qh (X2.out.un.grow (w' := u3) hkn (by rw [Htkk.out]; exact hgrow6) hown6 N3.out (by
            rw [Htkk.out]
            rcases hrow6 with h | h
            · exact .inl h
            · exact .inr h))
          have B3' := qh (B2'.out.grown hgrow6 lu2 (fun j e => (O2.out.lt j e).1))
          have hc3 := Blk3.out.cell (4 + k * 2 + 1)
          rw [Nat.add_assoc, hostC_unit, List.getElem?_append_left (by rw [X2.out.un.2.1]; omega), (X2.out.un.2.2.1 k hkn).2.1, Htkk.out, ← Nat.add_assoc] at hc3
          have hgx : u3.cell? ⟨gx, 0, none⟩ = some (.int .i64 id) ∧ u3.cell? ⟨gx, 1, none⟩ = some (.slice A3 3 c3) := by
            have hb2 : u3.heap[gx]? = u2.heap[gx]? := hgrow6.block gx (by omega) (fun e => by
              have := Hold.out k hkn gx (by rw [Htkk.out]; exact e.symm)
              omega)
            have h2 := Hop9.out _ U2.out
            exact ⟨(World.cell?_of_block (a := ⟨gx, 0, none⟩) hb2).trans h2.2.1, (World.cell?_of_block (a := ⟨gx, 1, none⟩) hb2).trans h2.2.2⟩
          have hf3 := Blk3.out.frozen (4 + k * 2 + 1)
          ((try dsimp only); refine nxK hK _ _ (⟨hc3, hgx.1, hgx.2⟩) ?_; clear hK K; (try simp only [Act.put,pS,pZ,pC]))
          clear hown6 hgrow6 hrow6 X2 B2' O2 N2 Ox2 S2 U2 N3
          repeat ((first | refine lxS (by rfl) (by rfl) ?_ | (refine lxT (v := ?_) (by rfl) (by rfl) (fun z y => ?_) ?_; rotate_left; (focus ((try dsimp only at y); (go_simp <;> with_reducible rfl); done)))); (try simp only [Act.put,pS,pZ,pC]))
          (refine wpMixL_last (by rfl) (fun K hK => ?_); go_simp)
          ((try dsimp only); refine hK.out _ _ ?_; clear hK K; (try simp only [Act.put,pS,pZ,pC]))
          refine wpMixL_nil ?_
          have hlv : (vs.set (k * 2) (.bool true)).length = n * 2 := by have := Un3.out.2.1; simpa using this
          have hus : (us.set k (true, (us[k]?.getD (false, [])).2)).set k (((us.set k (true, (us[k]?.getD (false, [])).2))[k]?.getD (false, [])).1, (us[k]?.getD (false, [])).2 ++ [(id, xs)]) = us.set k (true, (us[k]?.getD (false, [])).2 ++ [(id, xs)]) := by rw [hg8, List.set_set]
          have Un4 := Un3.out
          rw [hus] at Un4
          have X6 := qh (show HostX (u3.setCell ⟨hb, 4 + k * 2 + 1, none⟩ (.slice A8 (mk + 1) c8)) base hb 1 A1 n1 c1 n room (us.set k (true, (us[k]?.getD (false, [])).2 ++ [(id, xs)])) ((vs.set (k * 2) (.bool true)).set (k * 2 + 1) (.slice A8 (mk + 1) c8)) zs (fun i => if i = k then .slice A8 (mk + 1) c8 else tk i) from by
            have hkt : KeepTI u3 (u3.setCell ⟨hb, 4 + k * 2 + 1, none⟩ (.slice A8 (mk + 1) c8)) := KeepTI.set_ Blk3.out (by decide) (by decide) _ _
            refine ⟨?_, hb0, own_keepTI Rm3.out (.inl rfl) hkt, Un4.keepTI hkt, hn10⟩
            have := Blk3.out.set_ (4 + k * 2 + 1) (.slice A8 (mk + 1) c8)
            rwa [Nat.add_assoc, hostC_set, List.set_append_left _ _ (by rw [hlv]; omega)] at this)
          have B6 := qh (B3'.out.setCell (p := ⟨hb, 4 + k * 2 + 1, none⟩) hb0 (.slice A8 (mk + 1) c8))
          generalize u3.setCell ⟨hb, 4 + k * 2 + 1, none⟩ (.slice A8 (mk + 1) c8) = w6 at X6 B6 ⊢
          clear hc3 hgx hf3 Rm3 Un3 Blk3 B3' hus Un4 hne hg8
          go_wp2_with fail
          refine leaves_cons (f := 103) (args := #[.pointer (some ⟨hb, 0, none⟩)]) (by simp) (by simp [go_sem]) ?_
          refine (unlock_deferred muLib ⟨hb, 0, none⟩ .returning _ X6.out.lk.1 X6.out.lk.2).mono ?_
          rintro e u' w'' ⟨rfl, rfl, rfl⟩
          exact ⟨_, results_tmp rfl _ _ _, by rw [cavP_new Hok.out Htv.out Hw.out, arvP_yes Ha.out Hf.out]; rfl, by rw [cavP_new Hok.out Htv.out Hw.out, arvP_yes Ha.out Hf.out]; exact (X6.out.setL (l' := 0)).post, B6.out.setCell (p := ⟨hb, 0, none⟩) hb0 (.int .i32 0)⟩
    · have Hw := qh hw
      obtain ⟨_, hhas⟩ := where_has hw
      have hkl' : k < us.length := by
        have := (where_has hw).1
        rwa [List.length_map] at this
      rw [map_snd_at hkl'] at hhas
      obtain ⟨q, hq⟩ : ∃ q : Nat, atP (us[k]?.getD (false, [])).2 id = (q : Int) := by
        rcases atP_or (us[k]?.getD (false, [])).2 id with ⟨hh, _⟩ | ⟨_, q, e, _⟩
        · rw [hhas] at hh; cases hh
        · exact ⟨q, e⟩
      have hfi : findU us id = ((k : Int), (q : Int)) := by unfold findU; rw [hw, if_neg (by omega), Int.toNat_natCast, hq]
      rw [hfi]
      have m0 : (0 : Int) ≤ (k : Int) := by omega
      clear hw hfi hhas hq
      dsimp only
      go_wp2_with fail
      refine leaves_cons (f := 103) (args := #[.pointer (some ⟨hb, 0, none⟩)]) (by simp) (by simp [go_sem]) ?_
      refine (unlock_deferred muLib ⟨hb, 0, none⟩ .returning _ X5.out.lk.1 X5.out.lk.2).mono ?_
      rintro e u' w'' ⟨rfl, rfl, rfl⟩
      exact ⟨_, results_tmp rfl _ _ _, by rw [cavP_twice Hok.out Htv.out Hw.out]; rfl, by rw [cavP_twice Hok.out Htv.out Hw.out]; exact (X5.out.setL (l' := 0)).post, B5.out.setCell (p := ⟨hb, 0, none⟩) hb0 (.int .i32 0)⟩
end Go.Proofs.YtdkhdfedejbicaaGreatDoor
