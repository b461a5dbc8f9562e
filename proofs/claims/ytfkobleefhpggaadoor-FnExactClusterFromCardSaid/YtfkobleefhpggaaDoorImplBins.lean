/- Walks: the program's TasksValid, slices.Concat, BinsValid, whereOf. -/
import Derived.Test.YtfkobleefhpggaaDoorImplVec
import Derived.Test.YtfkobleefhpggaaDoorMapLaws
import Derived.Lib.AppendZeros
namespace Go.Proofs.YtfkobleefhpggaaDoor
open Go.RowKit

theorem zeroTask (w : World) : (zeroValue 66).run Tryd.prog w = .ok (.agg #[.int .i64 0, .slice none 0 0]) w := by kernel_rfl

theorem hasP_map {ts : List Tk} {id : Int} : hasP ts id = true ↔ id ∈ ts.map (·.1) := by
  simp only [hasP, List.any_eq_true, beq_iff_eq, List.mem_map]
theorem look_of_has {l : List (Int × Value)} {ts : List Tk} {id : Int} (hm : l.map (·.1) = ts.map (·.1)) (h : hasP ts id = true) : ∃ p ∈ l, p.1 = id ∧ lookL l id = some p.2 := by
  rw [hasP_map, ← hm, List.mem_map] at h
  exact lookL_some h
theorem look_of_not {l : List (Int × Value)} {ts : List Tk} {id : Int} (hm : l.map (·.1) = ts.map (·.1)) (h : hasP ts id = false) : lookL l id = none := by
  refine lookL_none (fun p hp he => ?_)
  have : hasP ts id = true := by rw [hasP_map, ← hm]; exact List.mem_map.2 ⟨p, hp, he⟩
  rw [h] at this; cases this

/-- The value of a task in a map. -/
def IsTaskV (v : Value) : Prop := ∃ i A m c, v = .agg #[.int .i64 i, .slice A m c]

set_option maxRecDepth 100000 in
set_option maxHeartbeats 1600000 in
theorem tasksValidI_any (A1 A2 : Option Addr) (n1 c1 n2 c2 : Nat) (room : List Int) (ts : List Tk) (w : World) (h1 : RdI w w.heap.size A1 n1 room) (h2 : RdT w w.heap.size A2 n2 ts) :
    Calls Tryd.prog 66 #[.slice A1 n1 c1, .slice A2 n2 c2] w fun e w' => e = .returned (.bool (tasksOk room ts)) ∧ Below w.heap.size w w' := by
  have hl := Lib.hid h2.len
  have hn := h2.le
  have H1 := Lib.hid h1
  have H2 := Lib.hid h2
  clear h1 h2
  by_cases hr : roomOk room = true
  · by_cases h14 : n2 ≤ 14
    · have Hr := Lib.hid hr
      have hmm := @run_makeMap Tryd.prog
      go_enter Tryd.func66, Tryd.ntmps66
      go_wp2_with (go_at_call 81; refine (roomValid_any _ _ _ _ _ _ H1.out).mono ?_; rintro e w1 ⟨rfl, rfl⟩)
      clear hmm hr
      go_loopw [21] (fun i wr => ∃ k : Nat, i = .int .i64 k ∧ k ≤ n2 ∧ Below w.heap.size w wr ∧ (∃ l, IMap wr w.heap.size l ∧ l.map (·.1) = (ts.take k).map (·.1) ∧ ∀ p ∈ l, IsTaskV p.2) ∧ (∀ j, j < k → taskOk room (ts[j]?.getD (0, [])) = true ∧ hasP (ts.take j) (ts[j]?.getD (0, [])).1 = false)) (fun i _ => n2 - (intOf i).toNat)
      case atStart => exact ⟨0, rfl, Nat.zero_le _, (Below.refl _ _).alloc (Nat.le_refl _) _, ⟨[], IMap.made w, rfl, by simp⟩, by intro j hj; omega⟩
      case round =>
        obtain ⟨k, rfl, hk, hbel, ⟨l, hl1, hl2, hl3⟩, hall⟩ := hrel
        have Hall := Lib.hid hall
        have L1 := Lib.hid hl1
        have L2 := Lib.hid hl2
        have L3 := Lib.hid hl3
        clear hall hl1 hl2 hl3
        by_cases hlt : k < n2
        · obtain ⟨b, o, A', m', c', rfl, hb, hc1, hc2, hmc, hrd⟩ := (H2.out.below hbel).at_ hlt
          have lz := hbel.size
          have Hrd := Lib.hid hrd
          clear hrd
          have hkl : Hid (k < ts.length) := by have := hl.out; show _ < _; omega
          generalize hid0 : (ts[k]?.getD (0, [])).1 = id at hc1
          have Hid0 := Lib.hid hid0
          clear hid0
          have hal : ∀ (o1 o2 : Obj), Below w.heap.size wr ((wr.alloc o1).alloc o2) := fun o1 o2 => ((Below.refl _ _).alloc lz _).alloc (by simp; omega) _
          have Hal := Lib.hid hal
          clear hal
          by_cases hh : hasP (ts.take k) id = true
          · obtain ⟨p, hp, hpe, hlook⟩ := look_of_has L2.out hh
            obtain ⟨i', A'', m'', c'', hpv⟩ := L3.out p hp
            rw [hpv] at hlook
            have Hlook := Lib.hid hlook
            clear hlook hpv hpe
            go_wp2_with (at_lookup; refine wpList_look_ok rfl _ _ 130 rfl 3 66 Tryd.underlying130 Tryd.underlying3 _ (zeroTask _) w.heap.size l rfl (L1.out.alloc _) id rfl (.agg #[.int .i64 i', .slice A'' m'' c'']) true (by rw [Hlook.out]; rfl) (by rw [Hlook.out]; rfl) ?_)
            go_ret
            exact ⟨ret_bool (tasksOk_twice hkl.out (by rw [Hid0.out]; exact hh)).symm, hbel.trans (Hal.out _ _)⟩
          · have hh : hasP (ts.take k) id = false := by simpa using hh
            have Hlook := Lib.hid (look_of_not L2.out hh)
            have Hh := Lib.hid hh
            clear hh
            by_cases hid : inR 1 40 id = true
            · by_cases hf : vecFits (ts[k]?.getD (0, [])).2 room = true
              · have Hf := Lib.hid hf
                have Hin := Lib.hid hid
                go_wp2_with (first
                  | (at_lookup; refine wpList_look_ok rfl _ _ 130 rfl 3 66 Tryd.underlying130 Tryd.underlying3 _ (zeroTask _) w.heap.size l rfl (L1.out.alloc _) id rfl (.agg #[.int .i64 0, .slice none 0 0]) false (by rw [Hlook.out]; rfl) (by rw [Hlook.out]; rfl) ?_)
                  | (go_at_call 82; refine (idValid_any _ _).mono ?_; rintro e w1 ⟨rfl, rfl⟩)
                  | (go_at_call 83; refine (vecFitsI_any _ _ _ _ _ _ _ _ _ _ _ (Hrd.out.below (Hal.out _ _)) (H1.out.below (hbel.trans (Hal.out _ _)))).mono ?_; rintro e w1 ⟨rfl, rfl⟩)
                  | (at_mapUpdate; refine wpList_put rfl _ _ _ 130 rfl 3 66 Tryd.underlying130 Tryd.underlying3 w.heap.size l rfl ((L1.out.alloc _).alloc _) id _ rfl rfl Hlook.out ?_; intro w2 him2 hgrow2))
                have him := Lib.hid him2
                clear him2
                go_roundw
                case rel =>
                  refine ⟨k + 1, by go_num, by omega, (hbel.trans (Hal.out _ _)).grown hgrow2 (by simp; omega) (fun j e => by injection e with e; omega), ⟨_, him.out, ?_, ?_⟩, ?_⟩
                  · rw [List.map_append, L2.out, List.take_succ_eq_append_getElem hkl.out, List.map_append]
                    have := Hid0.out
                    rw [List.getElem?_eq_getElem hkl.out] at this
                    simp only [Option.getD_some] at this
                    simp [this]
                  · intro p hp
                    rw [List.mem_append] at hp
                    rcases hp with hp | hp
                    · exact L3.out p hp
                    · simp at hp; rw [hp]; exact ⟨_, _, _, _, rfl⟩
                  · intro j hj
                    by_cases e : j = k
                    · rw [e, Hid0.out]; exact ⟨by rw [taskOk, Hid0.out, Hin.out, Hf.out]; rfl, Hh.out⟩
                    · exact Hall.out j (by omega)
                case measure => simp [intOf]; omega
              · have hf : vecFits (ts[k]?.getD (0, [])).2 room = false := by simpa using hf
                have Hf := Lib.hid hf
                go_wp2_with (first
                  | (at_lookup; refine wpList_look_ok rfl _ _ 130 rfl 3 66 Tryd.underlying130 Tryd.underlying3 _ (zeroTask _) w.heap.size l rfl (L1.out.alloc _) id rfl (.agg #[.int .i64 0, .slice none 0 0]) false (by rw [Hlook.out]; rfl) (by rw [Hlook.out]; rfl) ?_)
                  | (go_at_call 82; refine (idValid_any _ _).mono ?_; rintro e w1 ⟨rfl, rfl⟩)
                  | (go_at_call 83; refine (vecFitsI_any _ _ _ _ _ _ _ _ _ _ _ (Hrd.out.below (Hal.out _ _)) (H1.out.below (hbel.trans (Hal.out _ _)))).mono ?_; rintro e w1 ⟨rfl, rfl⟩))
                go_ret
                exact ⟨ret_bool (tasksOk_bad hkl.out (by rw [taskOk, Hf.out, Bool.and_false])).symm, hbel.trans (Hal.out _ _)⟩
            · have hid : inR 1 40 id = false := by simpa using hid
              have Hin := Lib.hid hid
              go_wp2_with (first
                | (at_lookup; refine wpList_look_ok rfl _ _ 130 rfl 3 66 Tryd.underlying130 Tryd.underlying3 _ (zeroTask _) w.heap.size l rfl (L1.out.alloc _) id rfl (.agg #[.int .i64 0, .slice none 0 0]) false (by rw [Hlook.out]; rfl) (by rw [Hlook.out]; rfl) ?_)
                | (go_at_call 82; refine (idValid_any _ _).mono ?_; rintro e w1 ⟨rfl, rfl⟩))
              go_ret
              exact ⟨ret_bool (tasksOk_bad hkl.out (by rw [taskOk, Hid0.out, Hin.out, Bool.false_and])).symm, hbel.trans (Hal.out _ _)⟩
        · go_wp2
          go_ret
          refine ⟨ret_bool ?_, hbel⟩
          rw [tasksOk_all Hr.out (fun j hj => Hall.out j (by have := hl.out; omega)), hl.out]
          symm
          simpa using h14
    · have hmm := @run_makeMap Tryd.prog
      go_enter Tryd.func66, Tryd.ntmps66
      go_wp2_with (go_at_call 81; refine (roomValid_any _ _ _ _ _ _ H1.out).mono ?_; rintro e w1 ⟨rfl, rfl⟩)
      go_ret
      refine ⟨ret_bool ?_, Below.refl _ _⟩
      symm
      rw [← Bool.not_eq_true]
      intro hh
      have := tasksOk_len hh
      have := hl.out
      omega
  · have hr : roomOk room = false := by simpa using hr
    go_enter Tryd.func66, Tryd.ntmps66
    go_wp2_with (go_at_call 81; refine (roomValid_any _ _ _ _ _ _ H1.out).mono ?_; rintro e w1 ⟨rfl, rfl⟩)
    go_ret
    exact ⟨ret_bool (tasksOk_room hr).symm, Below.refl _ _⟩

/-- slices.Grow of nothing: room for n tasks. -/
theorem grow_zero (w : World) : Calls Tryd.prog 84 #[.slice none 0 0, .int .i64 0] w fun e w' => e = .returned (.slice none 0 0) ∧ w = w' := by
  go_enter Tryd.func84, Tryd.ntmps84
  go_wp2
  go_ret
  exact ⟨rfl, rfl⟩

theorem own_zero {w : World} {base g : Nat} {t : TypeId} {cap size : Nat} {cs : Array Value} (hb : w.heap[g]? = some (.cells cs t (0, 0))) (hg : base ≤ g) (hm : cap ≤ maxLen) (hs : cs.size = cap * size) :
    w.ownsRow base t size (.slice (some ⟨g, 0, none⟩) 0 cap) 0 [] :=
  ⟨by simp, .inr ⟨g, cap, cs, rfl, hg, hb, Nat.zero_le _, hm, hs, by simp⟩⟩

set_option maxRecDepth 100000 in
set_option maxHeartbeats 800000 in
theorem grow_any (n : Nat) (hn : n ≤ 1048576) (w : World) : Calls Tryd.prog 84 #[.slice none 0 0, .int .i64 (n : Int)] w fun e w' =>
    ∃ A c, e = .returned (.slice A 0 c) ∧ w'.ownsRow w.heap.size 66 2 (.slice A 0 c) 0 [] ∧ Below w.heap.size w w' := by
  rcases Nat.eq_zero_or_pos n with h0 | h0
  · subst h0
    exact (grow_zero w).mono fun e w' ⟨he, hw⟩ => ⟨none, 0, he, by rw [← hw]; exact World.ownsRow_nil _ _ _ _, by rw [← hw]; exact Below.refl _ _⟩
  · obtain ⟨i0, hi0, hz0, hz1, hz2⟩ := info_parts task_info
    have hrun := Lib.run_append_nil_zeros (P := Tryd.prog) w 60 3 60 66 i0 _ .i64 .i64 Tryd.underlying60 Tryd.underlying3 hi0 hz0 n h0 (by omega) (by omega) (by rw [hz2]; omega)
    have hcap := grownCap_le_maxLen w n 0 66 (by unfold maxLen; omega)
    have hge := grownCap_ge w n 0 66
    generalize hgc : grownCap w n 0 66 = gc at hrun hcap hge
    have Hcap := Lib.hid hcap
    have Hrun := Lib.hid hrun
    have Hgc := Lib.hid hgc
    have k1 : (0 : Int) < (n : Int) := by omega
    clear hcap hrun hgc
    go_enter Tryd.func84, Tryd.ntmps84
    go_wp2_with (at_builtin; refine Lib.wpList_append_run _ rfl _ _ _ _ rfl _ _ rfl rfl _ _ Hrun.out ?_)
    go_ret
    refine ⟨_, _, rfl, own_zero (heap_alloc_new w.drew _) (Nat.le_refl _) Hcap.out ?_, (Below.refl _ _).drew.alloc (Nat.le_refl _) _⟩
    simp [size_zeroCells]
    omega

theorem sum_take_succ {bs : List (List Tk)} {k : Nat} (h : k < bs.length) : ((bs.take (k + 1)).flatten.length : Int) = (bs.take k).flatten.length + (bs[k]?.getD []).length := by
  rw [flat_take_succ h, List.length_append]; omega

set_option maxRecDepth 100000 in
set_option maxHeartbeats 1600000 in
theorem concat_any (A : Option Addr) (n c : Nat) (bs : List (List Tk)) (w : World) (h : RdB w w.heap.size A n bs) (hz : bs.flatten.length ≤ 1048576) :
    Calls Tryd.prog 67 #[.slice A n c] w fun e w' => ∃ A m c vs, e = .returned (.slice A m c) ∧ w'.ownsRow w.heap.size 66 2 (.slice A m c) m vs ∧ TkCells w' w.heap.size vs bs.flatten ∧ RdT w' w'.heap.size A m bs.flatten ∧ Below w.heap.size w w' := by
  obtain ⟨i0, hi0, hz0, hz1, hz2⟩ := info_parts task_info
  have hl := Lib.hid h.len
  have hn := h.le
  have H := Lib.hid h
  clear h
  go_enter Tryd.func67, Tryd.ntmps67
  go_wp2
  go_loop [3, 11] (fun s i => ∃ k q : Nat, i = .int .i64 k ∧ k ≤ n ∧ s = .int .i64 q ∧ q ≤ 1048576 ∧ Hid (q = (bs.take k).flatten.length)) (fun _ i => n - (intOf i).toNat)
  case atStart => exact ⟨0, 0, rfl, Nat.zero_le _, rfl, by omega, Lib.hid (by simp)⟩
  case round =>
    obtain ⟨k, q, rfl, hk, rfl, hq, hq2⟩ := hrel
    by_cases hlt : k < n
    · obtain ⟨b1, o1, A2, m2, c2, rfl, lb1, hc1, _, hr2⟩ := H.out.at_ hlt
      have hkl : Hid (k < bs.length) := by have := hl.out; show _ < _; omega
      have Hr2 := Lib.hid hr2
      clear hr2
      have e4 : q + m2 ≤ 1048576 := by
        have e3 := flat_take_le (bs := bs) (k + 1)
        rw [flat_take_succ hkl.out, List.length_append, Hr2.out.len, ← hq2.out] at e3; omega
      go_wp2
      go_round
      case rel => exact ⟨k + 1, q + m2, by go_num, by omega, by go_num, by omega, Lib.hid (by rw [flat_take_succ hkl.out, List.length_append, Hr2.out.len, ← hq2.out])⟩
      case measure => simp [intOf]; omega
    · have ek : k = n := by omega
      have hqf : Hid (q = bs.flatten.length) := by have := hq2.out; rw [ek, List.take_of_length_le (by have := hl.out; omega)] at this; exact this
      clear ek
      go_wp2_with (go_at_call 84; refine (grow_any _ hq _).mono ?_; rintro e w1 ⟨A0, c0, rfl, hown0, hb0⟩)
      have Hown0 := Lib.hid hown0
      clear hown0
      go_loopw [6, 27] (fun v i wr => ∃ k : Nat, i = .int .i64 k ∧ k ≤ n ∧ Below w.heap.size w wr ∧ ∃ A c m vs, v = .slice A m c ∧ Hid (m = (bs.take k).flatten.length) ∧ wr.ownsRow w.heap.size 66 2 v m vs ∧ TkCells wr w.heap.size vs (bs.take k).flatten) (fun _ i _ => n - (intOf i).toNat)
      case atStart => exact ⟨0, rfl, Nat.zero_le _, hb0, A0, c0, 0, [], rfl, Lib.hid rfl, Hown0.out, TkCells.nil⟩
      case round =>
        obtain ⟨k, rfl, hk, hbel, A1, c1, m1, vs, rfl, hm1, hown, htk⟩ := hrel
        have lz := hbel.size
        by_cases hlt : k < n
        · obtain ⟨b1, o1, A2, m2, c2, rfl, lb1, hc1, _, hr2⟩ := (H.out.below hbel).at_ hlt
          have hkl : Hid (k < bs.length) := by have := hl.out; show _ < _; omega
          obtain ⟨news, hsrc, htn⟩ := hr2.src
          have Hr2 := Lib.hid hr2
          clear hr2
          have e4 : m1 + m2 ≤ 1048576 := by
            have e3 := flat_take_le (bs := bs) (k + 1)
            rw [flat_take_succ hkl.out, List.length_append, Hr2.out.len, ← hm1.out] at e3; omega
          go_wp2_with (at_builtin; refine wpList_append_src _ rfl _ _ 60 rfl w.heap.size 66 i0 _ 2 32 Tryd.underlying60 hi0 hz0 hz1 hz2 rfl (by omega) (.slice A1 m1 c1) _ vs rfl hown A2 m2 c2 news rfl hsrc htn.one (by unfold maxLen; omega) (by omega) lz ?_; intro v' w2 hown1 hgrow hat)
          have hb' : Below w.heap.size w w2 := hbel.grown hgrow lz (fun j e => (hown.lt j e).1)
          have ht' := (htk.append htn).below ((Below.refl w.heap.size wr).grown hgrow lz (fun j e => (hown.lt j e).1))
          obtain ⟨A3, c3, rfl⟩ := own_shape hown1
          have Hown := Lib.hid hown1
          have Ht := Lib.hid ht'
          clear hown hown1 ht' htk htn hsrc
          go_roundw
          case rel => exact ⟨k + 1, by go_num, by omega, hb', A3, c3, m1 + m2, _, rfl, Lib.hid (by rw [flat_take_succ hkl.out, List.length_append, Hr2.out.len, ← hm1.out]), Hown.out, by rw [flat_take_succ hkl.out]; exact Ht.out⟩
          case measure => simp [intOf]; omega
        · have ek : k = n := by omega
          have e0 : bs.take k = bs := List.take_of_length_le (by have := hl.out; omega)
          rw [e0] at hm1 htk
          have Hown := Lib.hid hown
          have Ht := Lib.hid htk
          clear ek hown htk e0
          go_wp2
          go_ret
          exact ⟨A1, m1, c1, vs, rfl, Hown.out, Ht.out, RdT.of_own Hown.out Ht.out lz (by have := hm1.out; omega), hbel⟩

set_option maxRecDepth 100000 in
set_option maxHeartbeats 800000 in
theorem binsValidI_any (A1 A2 : Option Addr) (n1 c1 n2 c2 : Nat) (room : List Int) (bs : List (List Tk)) (w : World) (h1 : RdI w w.heap.size A1 n1 room) (h2 : RdB w w.heap.size A2 n2 bs) (hz : bs.flatten.length ≤ 1048576) :
    Calls Tryd.prog 46 #[.slice A1 n1 c1, .slice A2 n2 c2] w fun e w' => e = .returned (.bool (binsOk room bs)) ∧ Below w.heap.size w w' := by
  have hl := Lib.hid h2.len
  have hn := h2.le
  have H1 := Lib.hid h1
  have H2 := Lib.hid h2
  clear h1 h2
  by_cases h14 : n2 ≤ 14
  · by_cases hr : tasksOk room bs.flatten = true
    · have Hr := Lib.hid hr
      go_enter Tryd.func46, Tryd.ntmps46
      go_wp2_with fail
      refine (concat_any _ _ _ _ _ H2.out hz).mono ?_; rintro e w1 ⟨A3, n3, c3, vs, rfl, _, _, hr3, hb3⟩
      have Hr3 := Lib.hid hr3
      clear hr3
      go_wp2_with fail
      refine (tasksValidI_any _ _ _ _ _ _ _ _ _ (H1.out.up hb3) Hr3.out).mono ?_; rintro e w2 ⟨rfl, hb4⟩
      have hb5 : Below w.heap.size w w2 := hb3.trans (hb4.mono hb3.size)
      go_wp2
      go_loopw [19] (fun i wr => ∃ k : Nat, i = .int .i64 k ∧ k ≤ n2 ∧ Below w.heap.size w wr ∧ (∀ j, j < k → fits3 (loadP (bs[j]?.getD [])) room = true)) (fun i _ => n2 - (intOf i).toNat)
      case atStart => exact ⟨0, rfl, Nat.zero_le _, hb5, by intro j hj; omega⟩
      case round =>
        obtain ⟨k, rfl, hk, hbel, hall⟩ := hrel
        have Hall := Lib.hid hall
        clear hall
        by_cases hlt : k < n2
        · obtain ⟨b, o, A', m', c', rfl, hb, hc1, hmc, hrd⟩ := (H2.out.below hbel).at_ hlt
          have lz := hbel.size
          have hkl : Hid (k < bs.length) := by have := hl.out; show _ < _; omega
          have Hrd := Lib.hid (hrd.more lz)
          have hm : m' ≤ 14 := by have := hrd.len; have := bin_len hkl.out; have := tasksOk_len Hr.out; omega
          clear hrd
          have lo := Lib.hid (load_ok (fun t ht => tasksOk_vecs Hr.out t (bin_mem hkl.out ht)))
          by_cases hf : fits3 (loadP (bs[k]?.getD [])) room = true
          · go_wp2_with fail
            refine (loadOf_any _ _ _ _ _ Hrd.out (by omega) (fun j hj => lo.out.1 j (by have := Hrd.out.len; omega)) lo.out.2).mono ?_; rintro e w1 ⟨A4, c4, rfl, hr4, hb4⟩
            have Hr4 := Lib.hid hr4
            clear hr4
            go_wp2_with fail
            refine (fits_any _ _ _ _ _ _ _ _ _ _ Hr4.out ((H1.out.below hbel).below (hb4.mono lz)) (by have := H1.out.len; have := vecOk_len (roomOk_vec (tasksOk_room' Hr.out)); omega)).mono ?_; rintro e w3 ⟨rfl, rfl⟩
            have Hf := Lib.hid hf
            go_wp2
            go_roundw
            case rel => exact ⟨k + 1, by go_num, by omega, (hbel.trans (hb4.mono lz)), fun j hj => by
              by_cases e : j = k
              · rw [e]; exact Hf.out
              · exact Hall.out j (by omega)⟩
            case measure => simp [intOf]; omega
          · have hf : fits3 (loadP (bs[k]?.getD [])) room = false := by simpa using hf
            go_wp2_with fail
            refine (loadOf_any _ _ _ _ _ Hrd.out (by omega) (fun j hj => lo.out.1 j (by have := Hrd.out.len; omega)) lo.out.2).mono ?_; rintro e w1 ⟨A4, c4, rfl, hr4, hb4⟩
            have Hr4 := Lib.hid hr4
            clear hr4
            go_wp2_with fail
            refine (fits_any _ _ _ _ _ _ _ _ _ _ Hr4.out ((H1.out.below hbel).below (hb4.mono lz)) (by have := H1.out.len; have := vecOk_len (roomOk_vec (tasksOk_room' Hr.out)); omega)).mono ?_; rintro e w3 ⟨rfl, rfl⟩
            go_wp2
            go_ret
            refine ⟨ret_bool ?_, (hbel.trans (hb4.mono lz))⟩
            symm
            rw [binsOk, Bool.and_eq_false_iff]; right
            rw [← Bool.not_eq_true, allB_iff]
            intro hh
            have := hh k hkl.out
            rw [hf] at this; cases this
        · go_wp2
          go_ret
          refine ⟨ret_bool ?_, hbel⟩
          symm
          rw [binsOk, Hr.out, allB_iff.2 (fun j hj => Hall.out j (by have := hl.out; omega))]
          simp
          have := hl.out; omega
    · have hr : tasksOk room bs.flatten = false := by simpa using hr
      go_enter Tryd.func46, Tryd.ntmps46
      go_wp2_with fail
      refine (concat_any _ _ _ _ _ H2.out hz).mono ?_; rintro e w1 ⟨A3, n3, c3, vs, rfl, _, _, hr3, hb3⟩
      have Hr3 := Lib.hid hr3
      clear hr3
      go_wp2_with fail
      refine (tasksValidI_any _ _ _ _ _ _ _ _ _ (H1.out.up hb3) Hr3.out).mono ?_; rintro e w2 ⟨rfl, hb4⟩
      go_wp2
      go_ret
      exact ⟨ret_bool (by symm; simp [binsOk, hr]), hb3.trans (hb4.mono hb3.size)⟩
  · go_enter Tryd.func46, Tryd.ntmps46
    go_wp2
    go_ret
    exact ⟨ret_bool (by symm; rw [binsOk, decide_eq_false (by have := hl.out; omega)]; simp), Below.refl _ _⟩
end Go.Proofs.YtfkobleefhpggaaDoor
