/- Walks: spec.TasksValid, l2All, BinsValid, l2Where. -/
import Derived.Test.YtfkobleefhpggaaDoorMem
namespace Go.Proofs.YtfkobleefhpggaaDoor
open Go.RowKit

theorem hasP_take_iff {ts : List Tk} {k : Nat} {id : Int} (hk : k ≤ ts.length) : hasP (ts.take k) id = true ↔ ∃ i, i < k ∧ (ts[i]?.getD (0, [])).1 = id := by
  simp only [hasP, List.any_eq_true, beq_iff_eq]
  constructor
  · rintro ⟨t, ht, he⟩
    obtain ⟨i, hi, rfl⟩ := List.getElem_of_mem ht
    have hi' : i < k := by simp at hi; omega
    refine ⟨i, hi', ?_⟩
    rw [List.getElem?_eq_getElem (by omega)]
    simpa using he
  · rintro ⟨i, hi, he⟩
    rw [List.getElem?_eq_getElem (by omega)] at he
    refine ⟨ts[i], ?_, by simpa using he⟩
    rw [List.mem_take_iff_getElem]
    exact ⟨i, by omega, rfl⟩

theorem nodup_iff {ts : List Tk} : (ts.map (·.1)).Nodup ↔ ∀ j, j < ts.length → hasP (ts.take j) (ts[j]?.getD (0, [])).1 = false := by
  unfold List.Nodup
  rw [List.pairwise_iff_getElem]
  constructor
  · intro h j hj
    rw [← Bool.not_eq_true, hasP_take_iff (by omega)]
    rintro ⟨i, hi, he⟩
    have := h i j (by simp; omega) (by simpa using hj) hi
    rw [List.getElem?_eq_getElem (by omega), List.getElem?_eq_getElem hj] at he
    exact this (by simpa using he)
  · intro h i j hi hj hij he
    have := h j (by simpa using hj)
    rw [← Bool.not_eq_true, hasP_take_iff (by simp at hj; omega)] at this
    refine this ⟨i, hij, ?_⟩
    rw [List.getElem?_eq_getElem (by simpa using hi), List.getElem?_eq_getElem (by simpa using hj)]
    simpa using he

theorem allT_iff {ts : List Tk} {p : Tk → Bool} : ts.all p = true ↔ ∀ j, j < ts.length → p (ts[j]?.getD (0, [])) = true := by
  rw [List.all_eq_true]
  constructor
  · intro h j hj
    rw [List.getElem?_eq_getElem hj]
    exact h _ (List.getElem_mem _)
  · intro h x hx
    obtain ⟨j, hj, rfl⟩ := List.getElem_of_mem hx
    have := h j hj
    rwa [List.getElem?_eq_getElem hj] at this

theorem tasksOk_all {room : List Int} {ts : List Tk} (hr : roomOk room = true) (h : ∀ j, j < ts.length → taskOk room (ts[j]?.getD (0, [])) = true ∧ hasP (ts.take j) (ts[j]?.getD (0, [])).1 = false) :
    tasksOk room ts = decide (ts.length ≤ 14) := by
  unfold tasksOk
  rw [hr, allT_iff.2 (fun j hj => (h j hj).1), decide_eq_true (nodup_iff.2 (fun j hj => (h j hj).2))]
  simp
theorem tasksOk_room {room : List Int} {ts : List Tk} (hr : roomOk room = false) : tasksOk room ts = false := by simp [tasksOk, hr]
theorem tasksOk_bad {room : List Int} {ts : List Tk} {k : Nat} (hk : k < ts.length) (h : taskOk room (ts[k]?.getD (0, [])) = false) : tasksOk room ts = false := by
  rw [← Bool.not_eq_true]; intro hh
  simp only [tasksOk, Bool.and_eq_true] at hh
  have := allT_iff.1 hh.1.2 k hk
  rw [h] at this; cases this
theorem tasksOk_twice {room : List Int} {ts : List Tk} {k : Nat} (hk : k < ts.length) (h : hasP (ts.take k) (ts[k]?.getD (0, [])).1 = true) : tasksOk room ts = false := by
  rw [← Bool.not_eq_true]; intro hh
  simp only [tasksOk, Bool.and_eq_true, decide_eq_true_eq] at hh
  have := nodup_iff.1 hh.2 k hk
  rw [h] at this; cases this
theorem tasksOk_room' {room : List Int} {ts : List Tk} (h : tasksOk room ts = true) : roomOk room = true := by
  simp only [tasksOk, Bool.and_eq_true] at h; exact h.1.1.1
theorem tasksOk_len {room : List Int} {ts : List Tk} (h : tasksOk room ts = true) : ts.length ≤ 14 := by
  simp only [tasksOk, Bool.and_eq_true, decide_eq_true_eq] at h; exact h.1.1.2
theorem tasksOk_at {room : List Int} {ts : List Tk} (h : tasksOk room ts = true) {k : Nat} (hk : k < ts.length) : taskOk room (ts[k]?.getD (0, [])) = true := by
  simp only [tasksOk, Bool.and_eq_true, decide_eq_true_eq] at h; exact allT_iff.1 h.1.2 k hk
theorem tasksOk_mem {room : List Int} {ts : List Tk} (h : tasksOk room ts = true) {t : Tk} (ht : t ∈ ts) : taskOk room t = true := by
  simp only [tasksOk, Bool.and_eq_true, decide_eq_true_eq] at h; exact List.all_eq_true.1 h.1.2 t ht
theorem taskOk_vec {room : List Int} {t : Tk} (h : taskOk room t = true) : vecOk t.2 = true := by
  simp only [taskOk, vecFits, Bool.and_eq_true] at h; exact h.2.1.1
theorem roomOk_vec {room : List Int} (h : roomOk room = true) : vecOk room = true := by
  simp only [roomOk, Bool.and_eq_true] at h; exact h.1

set_option maxRecDepth 100000 in
set_option maxHeartbeats 400000 in
theorem tasksValidS_any (A1 A2 : Option Addr) (n1 c1 n2 c2 : Nat) (room : List Int) (ts : List Tk) (w : World) (h1 : RdI w w.heap.size A1 n1 room) (h2 : RdT w w.heap.size A2 n2 ts) :
    Calls Tryd.prog 76 #[.slice A1 n1 c1, .slice A2 n2 c2] w fun e w' => e = .returned (.bool (tasksOk room ts)) ∧ ∃ m, w.drewN m = w' := by
  have hl := Lib.hid h2.len
  have hn := h2.le
  have H1 := Lib.hid h1
  clear h1
  by_cases hr : roomOk room = true
  · have Hr := Lib.hid hr
    go_enter Tryd.func76, Tryd.ntmps76
    go_wp2_with (go_at_call 72; refine (l2Room_any _ _ _ _ _ _ H1.out).mono ?_; rintro e w1 ⟨rfl, rfl⟩)
    go_loopw [5] (fun i wr => ∃ k m : Nat, i = .int .i64 k ∧ k ≤ n2 ∧ wr = w.drewN m ∧ (∀ j, j < k → taskOk room (ts[j]?.getD (0, [])) = true ∧ hasP (ts.take j) (ts[j]?.getD (0, [])).1 = false)) (fun i _ => n2 - (intOf i).toNat)
    case atStart => exact ⟨0, 0, rfl, Nat.zero_le _, rfl, by intro j hj; omega⟩
    case round =>
      obtain ⟨k, m, rfl, hk, rfl, hall⟩ := hrel
      have Hall := Lib.hid hall
      clear hall
      by_cases hlt : k < n2
      · obtain ⟨b, o, A', m', c', rfl, hb, hc1, hc2, hmc, hrd⟩ := h2.at_ hlt
        have H2 := Lib.hid h2
        have Hrd := Lib.hid hrd
        clear h2 hrd
        by_cases hid : inR 1 40 (ts[k]?.getD (0, [])).1 = true
        · by_cases hh : hasP (ts.take k) (ts[k]?.getD (0, [])).1 = true
          · go_wp2_with fail
            refine (l6In_any _ _ _ _).mono ?_; rintro e w1 ⟨rfl, rfl⟩
            go_wp2_with fail
            refine (l2Has_any _ _ _ _ _ _ _ _ (H2.out.drewN m) (by omega) (by omega)).mono ?_; rintro e w1 ⟨rfl, rfl⟩
            rw [Int.toNat_natCast]
            go_wp2
            go_ret
            exact ⟨ret_bool (tasksOk_twice (by have := hl.out; omega) hh).symm, _, rfl⟩
          · have hh : hasP (ts.take k) (ts[k]?.getD (0, [])).1 = false := by simpa using hh
            by_cases hf : vecFits (ts[k]?.getD (0, [])).2 room = true
            · go_wp2_with fail
              refine (l6In_any _ _ _ _).mono ?_; rintro e w1 ⟨rfl, rfl⟩
              go_wp2_with fail
              refine (l2Has_any _ _ _ _ _ _ _ _ (H2.out.drewN m) (by omega) (by omega)).mono ?_; rintro e w1 ⟨rfl, rfl⟩
              rw [Int.toNat_natCast]
              go_wp2_with fail
              refine (vecFits_any _ _ _ _ _ _ _ _ _ _ _ (Hrd.out.drewN m) (H1.out.drewN m)).mono ?_; rintro e w1 ⟨rfl, q, rfl⟩
              have Hid := Lib.hid hid
              have Hh := Lib.hid hh
              have Hf := Lib.hid hf
              go_wp2
              go_roundw
              case rel => exact ⟨k + 1, _, by go_num, by omega, rfl, fun j hj => by
                by_cases e : j = k
                · rw [e]; exact ⟨by simp [taskOk, Hid.out, Hf.out], Hh.out⟩
                · exact Hall.out j (by omega)⟩
              case measure => simp [intOf]; omega
            · have hf : vecFits (ts[k]?.getD (0, [])).2 room = false := by simpa using hf
              go_wp2_with fail
              refine (l6In_any _ _ _ _).mono ?_; rintro e w1 ⟨rfl, rfl⟩
              go_wp2_with fail
              refine (l2Has_any _ _ _ _ _ _ _ _ (H2.out.drewN m) (by omega) (by omega)).mono ?_; rintro e w1 ⟨rfl, rfl⟩
              rw [Int.toNat_natCast]
              go_wp2_with fail
              refine (vecFits_any _ _ _ _ _ _ _ _ _ _ _ (Hrd.out.drewN m) (H1.out.drewN m)).mono ?_; rintro e w1 ⟨rfl, q, rfl⟩
              go_wp2
              go_ret
              exact ⟨ret_bool (tasksOk_bad (k := k) (by have := hl.out; omega) (by simp [taskOk, hf])).symm, _, rfl⟩
        · have hid : inR 1 40 (ts[k]?.getD (0, [])).1 = false := by simpa using hid
          go_wp2_with fail
          refine (l6In_any _ _ _ _).mono ?_; rintro e w1 ⟨rfl, rfl⟩
          go_wp2
          go_ret
          exact ⟨ret_bool (tasksOk_bad (k := k) (by have := hl.out; omega) (by simp [taskOk, hid])).symm, _, rfl⟩
      · have H2 := Lib.hid h2
        clear h2
        go_wp2
        go_ret
        refine ⟨ret_bool ?_, _, rfl⟩
        rw [tasksOk_all Hr.out (fun j hj => Hall.out j (by have := hl.out; omega)), hl.out, Bool.eq_iff_iff]
        simp
        omega
  · have hr : roomOk room = false := by simpa using hr
    go_enter Tryd.func76, Tryd.ntmps76
    go_wp2_with (go_at_call 72; refine (l2Room_any _ _ _ _ _ _ H1.out).mono ?_; rintro e w1 ⟨rfl, rfl⟩)
    go_ret
    exact ⟨ret_bool (tasksOk_room hr).symm, 0, rfl⟩

theorem flat_take_succ {bs : List (List Tk)} {k : Nat} (h : k < bs.length) : (bs.take (k + 1)).flatten = (bs.take k).flatten ++ bs[k]?.getD [] := by
  rw [List.take_succ_eq_append_getElem h, List.flatten_append, List.getElem?_eq_getElem h]
  simp
theorem flat_take_le {bs : List (List Tk)} (k : Nat) : (bs.take k).flatten.length ≤ bs.flatten.length := by
  conv => rhs; rw [← List.take_append_drop k bs, List.flatten_append, List.length_append]
  omega

set_option maxRecDepth 100000 in
set_option maxHeartbeats 400000 in
theorem l2All_any (A : Option Addr) (n c : Nat) (bs : List (List Tk)) (w : World) (h : RdB w w.heap.size A n bs) (hz : bs.flatten.length ≤ 1048576) :
    Calls Tryd.prog 78 #[.slice A n c] w fun e w' => ∃ A m c, e = .returned (.slice A m c) ∧ RdT w' w'.heap.size A m bs.flatten ∧ Below w.heap.size w w' := by
  obtain ⟨i0, hi0, hz0, hz1, hz2⟩ := info_parts task_info
  have hl := Lib.hid h.len
  have hn := h.le
  go_enter Tryd.func78, Tryd.ntmps78
  go_wp2
  go_loopw [3, 4] (fun v i wr => ∃ k : Nat, i = .int .i64 k ∧ k ≤ n ∧ Below w.heap.size w wr ∧ ∃ A c vs, v = .slice A (bs.take k).flatten.length c ∧ wr.ownsRow w.heap.size 66 2 v (bs.take k).flatten.length vs ∧ TkCells wr w.heap.size vs (bs.take k).flatten) (fun _ i _ => n - (intOf i).toNat)
  case atStart => exact ⟨0, rfl, Nat.zero_le _, (Below.refl _ _).alloc (Nat.le_refl _) _, _, _, [], rfl, World.ownsRow_made w #[] 0 (Nat.le_refl _) (by unfold maxLen; omega) rfl, TkCells.nil⟩
  case round =>
    obtain ⟨k, rfl, hk, hbel, A0, c0, vs, rfl, hown, htk⟩ := hrel
    by_cases hlt : k < n
    · obtain ⟨b1, o1, A2, m2, c2, rfl, lb1, hc1, _, hr2⟩ := (h.below hbel).at_ hlt
      obtain ⟨news, hsrc, htn⟩ := hr2.src
      have lz := hbel.size
      have H := Lib.hid h
      have Hr2 := Lib.hid hr2
      have e1 := flat_take_succ (bs := bs) (k := k) (by have := hl.out; omega)
      have e2 : m2 = (bs[k]?.getD []).length := hr2.len.symm
      have e3 := flat_take_le (bs := bs) (k + 1)
      have e4 : (bs.take k).flatten.length + m2 ≤ 1048576 := by rw [e1, List.length_append, ← e2] at e3; omega
      have E1 := Lib.hid e1
      have E2 := Lib.hid e2
      clear h hr2 e1 e2 e3
      go_wp2_with (at_builtin; go_loud (refine wpList_append_src _ rfl _ _ 60 rfl w.heap.size 66 i0 _ 2 32 Tryd.underlying60 hi0 hz0 hz1 hz2 rfl (by omega) (.slice A0 _ c0) _ vs rfl hown A2 m2 c2 news rfl hsrc htn.one (by unfold maxLen; omega) (by omega) lz ?_); intro v' w1 hown1 hgrow hat)
      have hb' : Below w.heap.size w w1 := hbel.grown hgrow lz (fun j e => (hown.lt j e).1)
      have ht' := (htk.append htn).below ((Below.refl w.heap.size wr).grown hgrow lz (fun j e => (hown.lt j e).1))
      obtain ⟨A1, c1, rfl⟩ := own_shape hown1
      have Hown := Lib.hid hown1
      have Ht := Lib.hid ht'
      clear hown hown1 ht' htk htn hsrc
      go_roundw
      case rel => exact ⟨k + 1, by go_num, by omega, hb', A1, c1, _, by rw [E1.out, List.length_append, ← E2.out], by rw [E1.out, List.length_append, ← E2.out]; exact Hown.out, by rw [E1.out]; exact Ht.out⟩
      case measure => simp [intOf]; omega
    · have ek : k = n := by omega
      have e0 : bs.take k = bs := List.take_of_length_le (by have := hl.out; omega)
      rw [e0] at hown htk
      have Hown := Lib.hid hown
      have Ht := Lib.hid htk
      have E0 := Lib.hid e0
      clear ek hown htk e0 h
      go_wp2
      go_ret
      exact ⟨A0, bs.flatten.length, c0, congrArg (fun l => Ending.returned (.slice A0 (List.length (List.flatten l)) c0)) E0.out, RdT.of_own Hown.out Ht.out hbel.size (by omega), hbel⟩

theorem bin_mem {bs : List (List Tk)} {k : Nat} (h : k < bs.length) {t : Tk} (ht : t ∈ bs[k]?.getD []) : t ∈ bs.flatten := by
  rw [List.getElem?_eq_getElem h] at ht
  exact List.mem_flatten.2 ⟨_, List.getElem_mem h, ht⟩
theorem bin_len {bs : List (List Tk)} {k : Nat} (h : k < bs.length) : (bs[k]?.getD []).length ≤ bs.flatten.length := by
  have h1 := flat_take_succ h
  have h2 := flat_take_le (bs := bs) (k + 1)
  rw [h1, List.length_append] at h2
  omega
theorem tk_default {ts : List Tk} {p : Tk → Prop} (h : ∀ t ∈ ts, p t) (h0 : p (0, [])) (j : Nat) : p (ts[j]?.getD (0, [])) := by
  by_cases hj : j < ts.length
  · rw [List.getElem?_eq_getElem hj]; exact h _ (List.getElem_mem hj)
  · rw [List.getElem?_eq_none (by omega)]; exact h0
theorem tk_at {ts : List Tk} {p : Tk → Prop} (h : ∀ t ∈ ts, p t) {j : Nat} (hj : j < ts.length) : p (ts[j]?.getD (0, [])) := by
  rw [List.getElem?_eq_getElem hj]; exact h _ (List.getElem_mem hj)
/-- Valid tasks can be added up. -/
theorem load_ok {ts : List Tk} (h : ∀ t ∈ ts, vecOk t.2 = true) : (∀ j, j < ts.length → (ts[j]?.getD (0, [])).2.length = 3) ∧ (∀ j i : Nat, 0 ≤ (ts[j]?.getD (0, [])).2[i]?.getD 0 ∧ (ts[j]?.getD (0, [])).2[i]?.getD 0 ≤ 1000) :=
  ⟨fun _ hj => tk_at (p := fun t => t.2.length = 3) (fun t ht => vecOk_len (h t ht)) hj,
   fun j i => tk_default (p := fun t => 0 ≤ t.2[i]?.getD 0 ∧ t.2[i]?.getD 0 ≤ 1000) (fun t ht => by have := vecOk_bd (h t ht) i; omega) (by simp) j⟩
theorem tasksOk_vecs {room : List Int} {ts : List Tk} (h : tasksOk room ts = true) : ∀ t ∈ ts, vecOk t.2 = true := fun _ ht => taskOk_vec (tasksOk_mem h ht)

theorem allB_iff {bs : List (List Tk)} {p : List Tk → Bool} : bs.all p = true ↔ ∀ j, j < bs.length → p (bs[j]?.getD []) = true := by
  rw [List.all_eq_true]
  constructor
  · intro h j hj
    rw [List.getElem?_eq_getElem hj]
    exact h _ (List.getElem_mem _)
  · intro h x hx
    obtain ⟨j, hj, rfl⟩ := List.getElem_of_mem hx
    have := h j hj
    rwa [List.getElem?_eq_getElem hj] at this
theorem binsOk_tasks {room : List Int} {bs : List (List Tk)} (h : binsOk room bs = true) : tasksOk room bs.flatten = true := by
  simp only [binsOk, Bool.and_eq_true] at h; exact h.1.2
theorem binsOk_len {room : List Int} {bs : List (List Tk)} (h : binsOk room bs = true) : bs.length ≤ 14 := by
  simp only [binsOk, Bool.and_eq_true, decide_eq_true_eq] at h; exact h.1.1

set_option maxRecDepth 100000 in
set_option maxHeartbeats 800000 in
theorem binsValidS_any (A1 A2 : Option Addr) (n1 c1 n2 c2 : Nat) (room : List Int) (bs : List (List Tk)) (w : World) (h1 : RdI w w.heap.size A1 n1 room) (h2 : RdB w w.heap.size A2 n2 bs) (hz : bs.flatten.length ≤ 1048576) :
    Calls Tryd.prog 61 #[.slice A1 n1 c1, .slice A2 n2 c2] w fun e w' => e = .returned (.bool (binsOk room bs)) ∧ Below w.heap.size w w' := by
  have hl := Lib.hid h2.len
  have hn := h2.le
  have H1 := Lib.hid h1
  have H2 := Lib.hid h2
  clear h1 h2
  by_cases hr : tasksOk room bs.flatten = true
  · by_cases h14 : n2 ≤ 14
    · go_enter Tryd.func61, Tryd.ntmps61
      go_wp2_with fail
      refine (l2All_any _ _ _ _ _ H2.out hz).mono ?_; rintro e w1 ⟨A3, n3, c3, rfl, hr3, hb3⟩
      have Hr3 := Lib.hid hr3
      clear hr3
      go_wp2_with fail
      refine (tasksValidS_any _ _ _ _ _ _ _ _ _ (H1.out.up hb3) Hr3.out).mono ?_; rintro e w2 ⟨rfl, m, rfl⟩
      have Hr := Lib.hid hr
      go_wp2
      go_loopw [5] (fun i wr => ∃ k : Nat, i = .int .i64 k ∧ k ≤ n2 ∧ Below w.heap.size w wr ∧ (∀ j, j < k → fits3 (loadP (bs[j]?.getD [])) room = true)) (fun i _ => n2 - (intOf i).toNat)
      case atStart => exact ⟨0, rfl, Nat.zero_le _, below_drewN hb3 _, by intro j hj; omega⟩
      case round =>
        obtain ⟨k, rfl, hk, hbel, hall⟩ := hrel
        have Hall := Lib.hid hall
        clear hall
        by_cases hlt : k < n2
        · obtain ⟨b, o, A', m', c', rfl, hb, hc1, hmc, hrd⟩ := (H2.out.below hbel).at_ hlt
          have lz := hbel.size
          have hkl : Hid (k < bs.length) := by have := hl.out; show _ < _; omega
          have Hrd := Lib.hid (hrd.more lz)
          have hm : m' ≤ 14 := by have := hrd.len; have := bin_len hkl.out; have := tasksOk_len Hr.out; omega
          clear hrd
          have lo := Lib.hid (load_ok (fun t ht => tasksOk_vecs Hr.out t (bin_mem hkl.out ht)))
          by_cases hf : fits3 (loadP (bs[k]?.getD [])) room = true
          · go_wp2_with fail
            refine (l2Load_any _ _ _ _ _ Hrd.out (by omega) (fun j hj => lo.out.1 j (by have := Hrd.out.len; omega)) lo.out.2).mono ?_; rintro e w1 ⟨A4, c4, rfl, hr4, hb4⟩
            have Hr4 := Lib.hid hr4
            clear hr4
            go_wp2_with fail
            refine (l1Fits_any _ _ _ _ _ _ _ _ _ _ _ Hr4.out ((H1.out.below hbel).below (hb4.mono lz)) (by omega) (by have := H1.out.len; have := vecOk_len (roomOk_vec (tasksOk_room' Hr.out)); omega)).mono ?_; rintro e w3 ⟨rfl, q, rfl⟩
            have Hf := Lib.hid hf
            go_wp2
            go_roundw
            case rel => exact ⟨k + 1, by go_num, by omega, below_drewN (hbel.trans (hb4.mono lz)) _, fun j hj => by
              by_cases e : j = k
              · rw [e]; exact Hf.out
              · exact Hall.out j (by omega)⟩
            case measure => simp [intOf]; omega
          · have hf : fits3 (loadP (bs[k]?.getD [])) room = false := by simpa using hf
            go_wp2_with fail
            refine (l2Load_any _ _ _ _ _ Hrd.out (by omega) (fun j hj => lo.out.1 j (by have := Hrd.out.len; omega)) lo.out.2).mono ?_; rintro e w1 ⟨A4, c4, rfl, hr4, hb4⟩
            have Hr4 := Lib.hid hr4
            clear hr4
            go_wp2_with fail
            refine (l1Fits_any _ _ _ _ _ _ _ _ _ _ _ Hr4.out ((H1.out.below hbel).below (hb4.mono lz)) (by omega) (by have := H1.out.len; have := vecOk_len (roomOk_vec (tasksOk_room' Hr.out)); omega)).mono ?_; rintro e w3 ⟨rfl, q, rfl⟩
            go_wp2
            go_ret
            refine ⟨ret_bool ?_, below_drewN (hbel.trans (hb4.mono lz)) _⟩
            symm
            rw [binsOk, Bool.and_eq_false_iff]; right
            rw [← Bool.not_eq_true, allB_iff]
            intro hh
            have := hh k hkl.out
            rw [hf] at this; cases this
        · go_wp2
          go_ret
          refine ⟨ret_bool ?_, hbel⟩
          symm
          rw [binsOk, Hr.out, allB_iff.2 (fun j hj => Hall.out j (by have := hl.out; omega))]
          simp
          have := hl.out; omega
    · go_enter Tryd.func61, Tryd.ntmps61
      go_wp2_with fail
      refine (l2All_any _ _ _ _ _ H2.out hz).mono ?_; rintro e w1 ⟨A3, n3, c3, rfl, hr3, hb3⟩
      have Hr3 := Lib.hid hr3
      clear hr3
      go_wp2_with fail
      refine (tasksValidS_any _ _ _ _ _ _ _ _ _ (H1.out.up hb3) Hr3.out).mono ?_; rintro e w2 ⟨rfl, m, rfl⟩
      go_wp2
      go_ret
      exact ⟨ret_bool (by symm; rw [binsOk, decide_eq_false (by have := hl.out; omega)]; simp), below_drewN hb3 _⟩
  · have hr : tasksOk room bs.flatten = false := by simpa using hr
    go_enter Tryd.func61, Tryd.ntmps61
    go_wp2_with fail
    refine (l2All_any _ _ _ _ _ H2.out hz).mono ?_; rintro e w1 ⟨A3, n3, c3, rfl, hr3, hb3⟩
    have Hr3 := Lib.hid hr3
    clear hr3
    go_wp2_with fail
    refine (tasksValidS_any _ _ _ _ _ _ _ _ _ (H1.out.up hb3) Hr3.out).mono ?_; rintro e w2 ⟨rfl, m, rfl⟩
    go_wp2
    go_ret
    exact ⟨ret_bool (by symm; simp [binsOk, hr]), below_drewN hb3 _⟩

theorem whereP_none {bs : List (List Tk)} {id : Int} (h : ∀ j, j < bs.length → hasP (bs[j]?.getD []) id = false) : whereP bs id = -1 := by
  have : bs.findIdx? (fun b => hasP b id) = none := by
    rw [List.findIdx?_eq_none_iff]
    intro b hb
    obtain ⟨j, hj, rfl⟩ := List.getElem_of_mem hb
    have := h j hj
    rwa [List.getElem?_eq_getElem hj] at this
  rw [whereP, this]
theorem whereP_some {bs : List (List Tk)} {id : Int} {k : Nat} (hk : k < bs.length) (hh : hasP (bs[k]?.getD []) id = true) (h : ∀ j, j < k → hasP (bs[j]?.getD []) id = false) : whereP bs id = k := by
  have : bs.findIdx? (fun b => hasP b id) = some k := by
    rw [List.findIdx?_eq_some_iff_getElem]
    refine ⟨hk, by rwa [List.getElem?_eq_getElem hk] at hh, fun j hj => ?_⟩
    have := h j hj
    rw [List.getElem?_eq_getElem (by omega)] at this
    simpa using this
  rw [whereP, this]
theorem whereP_cases (bs : List (List Tk)) (id : Int) : (whereP bs id = -1 ∧ ∀ j, j < bs.length → hasP (bs[j]?.getD []) id = false) ∨ (∃ k, k < bs.length ∧ whereP bs id = k ∧ hasP (bs[k]?.getD []) id = true ∧ ∀ j, j < k → hasP (bs[j]?.getD []) id = false) := by
  cases h : bs.findIdx? (fun b => hasP b id) with
  | none =>
    refine .inl ⟨by rw [whereP, h], fun j hj => ?_⟩
    rw [List.findIdx?_eq_none_iff] at h
    rw [List.getElem?_eq_getElem hj]
    exact h _ (List.getElem_mem hj)
  | some k =>
    have h' := h
    rw [List.findIdx?_eq_some_iff_getElem] at h
    obtain ⟨hk, h1, h2⟩ := h
    refine .inr ⟨k, hk, by rw [whereP, h'], by rw [List.getElem?_eq_getElem hk]; exact h1, fun j hj => ?_⟩
    rw [List.getElem?_eq_getElem (by omega)]
    simpa using h2 j hj

theorem quiet_add_left {P : Program} {f : FuncId} {args : Array Value} {w : World} {a n : Nat} {v : Value}
    (h : Calls P f args (w.drewN (a + n)) fun e w' => e = .returned v ∧ w.drewN (a + n) = w') : Calls P f args (w.drewN (a + n)) fun e w'' => e = .returned v ∧ ∃ m, w'' = w.drewN (a + m) :=
  h.mono fun _ _ ⟨he, hm⟩ => ⟨he, n, hm.symm⟩
theorem quiet_left {P : Program} {f : FuncId} {args : Array Value} {w : World} {n : Nat} {v : Value}
    (h : Calls P f args (w.drewN n) fun e w' => e = .returned v ∧ w.drewN n = w') : Calls P f args (w.drewN n) fun e w'' => e = .returned v ∧ ∃ m, w'' = w.drewN m :=
  h.mono fun _ _ ⟨he, hm⟩ => ⟨he, n, hm.symm⟩

set_option maxRecDepth 100000 in
set_option maxHeartbeats 400000 in
theorem l2Where_any (A : Option Addr) (n c : Nat) (bs : List (List Tk)) (id : Int) (w : World) (h : RdB w w.heap.size A n bs) :
    Calls Tryd.prog 74 #[.slice A n c, .int .i64 id] w fun e w' => e = .returned (.int .i64 (whereP bs id)) ∧ ∃ m, w.drewN m = w' := by
  have hl := Lib.hid h.len
  have hn := h.le
  have H := Lib.hid h
  clear h
  go_enter Tryd.func74, Tryd.ntmps74
  go_wp2
  go_loopw [5] (fun i wr => ∃ k m : Nat, i = .int .i64 k ∧ k ≤ n ∧ wr = w.drewN m ∧ (∀ j, j < k → hasP (bs[j]?.getD []) id = false)) (fun i _ => n - (intOf i).toNat)
  case atStart => exact ⟨0, 0, rfl, Nat.zero_le _, rfl, by intro j hj; omega⟩
  case round =>
    obtain ⟨k, m, rfl, hk, rfl, hall⟩ := hrel
    have Hall := Lib.hid hall
    clear hall
    by_cases hlt : k < n
    · obtain ⟨b, o, A', m', c', rfl, hb, hc1, hmc, hrd⟩ := H.out.at_ hlt
      have Hrd := Lib.hid hrd
      have hkl : Hid (k < bs.length) := by have := hl.out; show _ < _; omega
      clear hrd
      have k1 : (0 : Int) ≤ (k : Int) := by omega
      have k2 : (k : Int) < (n : Int) := by omega
      have ecall : (∀ q, Calls Tryd.prog 90 #[.slice A' m' c', .int .i64 (m' : Int), .int .i64 id] (w.drewN q) fun e w' => e = .returned (.bool (hasP (bs[k]?.getD []) id)) ∧ w.drewN q = w') := by
        intro q
        have := l2Has_any A' m' c' w.heap.size _ (m' : Int) id (w.drewN q) (Hrd.out.drewN q) (by omega) (by omega)
        rw [Int.toNat_natCast, List.take_of_length_le (by have := Hrd.out.len; omega)] at this
        exact this
      by_cases hh : hasP (bs[k]?.getD []) id = true
      · rw [hh] at ecall
        have Ecall := Lib.hid ecall
        clear ecall
        go_wp2
        go_quiet ((go_at_call 90; exact quiet_add_left (Ecall.out _)))
        go_wp2
        go_ret
        exact ⟨ret_int (whereP_some hkl.out hh Hall.out).symm, _, (World.drewN_drewN _ _ _).symm⟩
      · have hh : hasP (bs[k]?.getD []) id = false := by simpa using hh
        have Hh := Lib.hid hh
        rw [hh] at ecall
        have Ecall := Lib.hid ecall
        clear ecall hh
        go_wp2
        go_quiet ((go_at_call 90; exact quiet_add_left (Ecall.out _)))
        go_wp2
        go_roundw
        case rel => exact ⟨k + 1, _, by go_num, by omega, rfl, fun j hj => by
          by_cases e : j = k
          · rw [e]; exact Hh.out
          · exact Hall.out j (by omega)⟩
        case measure => simp [intOf]; omega
    · go_wp2
      go_ret
      exact ⟨ret_int (whereP_none (fun j hj => Hall.out j (by have := hl.out; omega))).symm, _, rfl⟩
end Go.Proofs.YtfkobleefhpggaaDoor
