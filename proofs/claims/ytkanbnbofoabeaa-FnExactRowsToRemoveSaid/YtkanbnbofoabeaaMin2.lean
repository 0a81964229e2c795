/- MinimalSets, of the program and of the reference. -/
import Derived.Test.YtkanbnbofoabeaaSort
import Derived.Test.YtkanbnbofoabeaaHasL
namespace Go.Proofs.Ytkanbnbofoabeaa
open Go.RowKit
set_option linter.unusedVariables false
set_option maxRecDepth 100000

theorem c_areSets (oa) (cap : Nat) (L : List Int) (w : World) (hL : IntsAt w oa L) :
    Ans Try.prog 141 #[.slice oa L.length cap] w (.bool (setsF L && decide (L.length ≤ 100))) := by
  unfold Ans
  have hn : L.length ≤ 1073741824 := hL.len
  go_enter Try.func141, Try.ntmps141
  go_wp2
  go_loopw [7] (fun i wr => ∃ k : Nat, i = .int .i64 k ∧ k ≤ L.length ∧ (L.take k).all stB = true ∧ Below w.heap.size w wr) (fun i _ => L.length - (intOf i).toNat)
  case atStart => exact ⟨0, rfl, Nat.zero_le _, by simp, Below.refl _ _⟩
  case round =>
    obtain ⟨k, rfl, hk, hall, hb⟩ := hrel
    have HA : Hid ((L.take k).all stB = true) := hall
    clear hall
    by_cases hlt : k < L.length
    · obtain ⟨b, off, rfl, hbs, hc⟩ := hL.at_ (by omega)
      have hc1 := cell_keep (hc k hlt) hb
      have HT : Hid ((L.take (k + 1)).all stB = ((L.take k).all stB && stB (nth L k))) := all_take_succ _ L k hlt
      have HF : Hid (stB (nth L k) = false → setsF L = false) := all_false _ L k hlt
      clear hc
      cases hst : stB (nth L k)
      · go_wp2_with (first | (go_at_call 158; refine Calls.mono (c_isSet _ _) ?_; rintro e w1 ⟨rfl, hbn⟩; replace hb := bel_to (w := w) (by first | exact hb | exact hb.alloc hb.size _ | exact (hb.alloc hb.size _).alloc (Nat.le_trans hb.size (by simp)) _ | exact hb.setCell (by simp [hb.size]) _) hbn; clear hbn))
        go_ret
        exact ⟨ret_bool (by rw [HF.out hst]; rfl), hb⟩
      · go_wp2_with (first | (go_at_call 158; refine Calls.mono (c_isSet _ _) ?_; rintro e w1 ⟨rfl, hbn⟩; replace hb := bel_to (w := w) (by first | exact hb | exact hb.alloc hb.size _ | exact (hb.alloc hb.size _).alloc (Nat.le_trans hb.size (by simp)) _ | exact hb.setCell (by simp [hb.size]) _) hbn; clear hbn))
        go_roundw
        case rel => exact ⟨k + 1, by go_num, by omega, by rw [HT.out, HA.out, hst]; rfl, hb⟩
        case measure => simp [intOf]; omega
    · have hkk : k = L.length := by omega
      have HS : Hid (setsF L = true) := by have := HA.out; rw [hkk, List.take_length] at this; exact this
      clear hkk
      go_wp2
      go_ret
      exact ⟨ret_bool (by rw [HS.out, Bool.true_and, decide_eq_decide]; omega), hb⟩
theorem c_l4Sets (oa) (cap : Nat) (L : List Int) (w : World) (hL : IntsAt w oa L) :
    Ans Try.prog 138 #[.slice oa L.length cap] w (.bool (setsF L && decide (L.length ≤ 100))) := by
  unfold Ans
  have hn : L.length ≤ 1073741824 := hL.len
  go_enter Try.func138, Try.ntmps138
  go_wp2
  go_loopw [3] (fun i wr => ∃ k : Nat, i = .int .i64 k ∧ k ≤ L.length ∧ (L.take k).all stB = true ∧ Below w.heap.size w wr) (fun i _ => L.length - (intOf i).toNat)
  case atStart => exact ⟨0, rfl, Nat.zero_le _, by simp, Below.refl _ _⟩
  case round =>
    obtain ⟨k, rfl, hk, hall, hb⟩ := hrel
    have HA : Hid ((L.take k).all stB = true) := hall
    clear hall
    by_cases hlt : k < L.length
    · obtain ⟨b, off, rfl, hbs, hc⟩ := hL.at_ (by omega)
      have hc1 := cell_keep (hc k hlt) hb
      have HT : Hid ((L.take (k + 1)).all stB = ((L.take k).all stB && stB (nth L k))) := all_take_succ _ L k hlt
      have HF : Hid (stB (nth L k) = false → setsF L = false) := all_false _ L k hlt
      clear hc
      cases hst : stB (nth L k)
      · go_wp2_with (first | (go_at_call 157; refine Calls.mono (c_l2Valid _ _) ?_; rintro e w1 ⟨rfl, hbn⟩; replace hb := bel_to (w := w) (by first | exact hb | exact hb.alloc hb.size _ | exact (hb.alloc hb.size _).alloc (Nat.le_trans hb.size (by simp)) _ | exact hb.setCell (by simp [hb.size]) _) hbn; clear hbn))
        go_ret
        exact ⟨ret_bool (by rw [HF.out hst]; rfl), hb⟩
      · go_wp2_with (first | (go_at_call 157; refine Calls.mono (c_l2Valid _ _) ?_; rintro e w1 ⟨rfl, hbn⟩; replace hb := bel_to (w := w) (by first | exact hb | exact hb.alloc hb.size _ | exact (hb.alloc hb.size _).alloc (Nat.le_trans hb.size (by simp)) _ | exact hb.setCell (by simp [hb.size]) _) hbn; clear hbn))
        go_roundw
        case rel => exact ⟨k + 1, by go_num, by omega, by rw [HT.out, HA.out, hst]; rfl, hb⟩
        case measure => simp [intOf]; omega
    · have hkk : k = L.length := by omega
      have HS : Hid (setsF L = true) := by have := HA.out; rw [hkk, List.take_length] at this; exact this
      clear hkk
      go_wp2
      go_ret
      exact ⟨ret_bool (by rw [HS.out, Bool.true_and, decide_eq_decide]; omega), hb⟩
theorem drop_cons {L : List Int} {k : Nat} (h : k < L.length) : L.drop k = nth L k :: L.drop (k + 1) := by
  have e := nth_eq h
  rw [List.getElem?_eq_getElem h] at e
  injection e with e
  rw [List.drop_eq_getElem_cons h, e]
set_option maxHeartbeats 800000 in
theorem c_l4Put (oa) (cap base : Nat) (L : List Int) (x : Int) (w : World) (hl : L.length ≤ 1000) (h : OwnI w base (.slice oa L.length cap) L) (hbase : base ≤ w.heap.size) :
    Calls Try.prog 139 #[.slice oa L.length cap, .int .i64 x] w fun e w' => ∃ v, e = .returned v ∧ OwnI w' base v (putF L x) ∧ Below w.heap.size w w' := by
  obtain ⟨i0, hi, hz0, hz1, hz2⟩ := info_parts info_int
  have hr : L.length ≤ Room := by unfold Room; omega
  have hL := h.ints rfl hr
  have hb := Below.refl w.heap.size w
  cases hin : inB' L x
  · have HM : Hid (putF L x = insF x L) := by show putF L x = insF x L; unfold putF; rw [if_neg (by simpa [inB'] using hin)]
    go_enter Try.func139, Try.ntmps139
    go_wp2_with (first | (go_at_call 104; refine Calls.mono (c_l2Has _ _ _ _ _ hL) ?_; rintro e w1 ⟨rfl, hbn⟩; replace hb := bel_to (w := w) (by first | exact hb | exact hb.alloc hb.size _ | exact (hb.alloc hb.size _).alloc (Nat.le_trans hb.size (by simp)) _ | exact hb.setCell (by simp [hb.size]) _) hbn; clear hbn))
    go_loopw [5, 6, 7] (fun v p i wr => ∃ (k : Nat) (pb : Bool) (M : List Int), p = .bool pb ∧ i = .int .i64 k ∧ k ≤ L.length ∧ M.length ≤ 2 * k ∧ M ++ restF x pb (L.drop k) = insF x L ∧ OwnI wr w.heap.size v M ∧ Below w.heap.size w wr) (fun _ _ i _ => L.length - (intOf i).toNat)
    case atStart => exact ⟨0, false, [], rfl, rfl, Nat.zero_le _, by simp, by simp [restF], (OwnI.empty _ _ (Nat.le_refl _)).based hb.size, hb.alloc hb.size _⟩
    case round =>
      clear hb
      obtain ⟨k, pb, M, rfl, rfl, hk, hml, hrest, hI, hb⟩ := hrel
      have HR : Hid (M ++ restF x pb (L.drop k) = insF x L) := hrest
      clear hrest
      by_cases hlt : k < L.length
      · obtain ⟨b, off, rfl, hbs, hc⟩ := hL.at_ (by omega)
        have hc0 := hc k hlt
        have hc1 := cell_keep hc0 hb
        have HD : Hid (L.drop k = nth L k :: L.drop (k + 1)) := drop_cons hlt
        clear hc
        cases pb
        · by_cases hgt : x < nth L k
          · have HN : Hid ((M ++ [x]) ++ [nth L k] ++ restF x true (L.drop (k + 1)) = insF x L) := by
              have := HR.out
              rw [HD.out] at this
              simp only [restF, Bool.false_eq_true, if_false, insF, if_pos (show nth L k > x from hgt)] at this
              show (M ++ [x]) ++ [nth L k] ++ restF x true (L.drop (k + 1)) = insF x L
              simpa [restF] using this
            have hq : True := trivial
            go_wp2_with (first | (clear hq; (at_builtin; refine wpList_append_own _ rfl _ _ 69 rfl w.heap.size 3 i0 (.int .i64 0) 1 8 Try.underlying69 hi hz0 hz1 hz2 rfl (by decide) _ _ _ rfl (World.ownsRow.alloc hI _) _ 1 1 [.int .i64 (x)] rfl rfl (by intro j u hj; match j, hj with | 0, hj => simp at hj; subst hj; simp [Addr.add]) (by intro u hu; simp at hu; subst hu; rfl) (by unfold maxLen; omega) (by omega) (by have := hb.size; simp; omega) ?_; intro v' w1 hown hgrow _; replace hb := (hb.alloc hb.size _).grown hgrow (by have := hb.size; simp; omega) (fun g hg => (World.ownsRow.lt hI g hg).1); replace hI := OwnI.snoc hown; clear hown hgrow); have hc2 := cell_keep hc0 hb; have hml2 : (M ++ [x]).length ≤ 2 * k + 1 := (by simp; omega)) | (at_builtin; refine wpList_append_own _ rfl _ _ 69 rfl w.heap.size 3 i0 (.int .i64 0) 1 8 Try.underlying69 hi hz0 hz1 hz2 rfl (by decide) _ _ _ rfl (World.ownsRow.alloc hI _) _ 1 1 [.int .i64 ((nth L k))] rfl rfl (by intro j u hj; match j, hj with | 0, hj => simp at hj; subst hj; simp [Addr.add]) (by intro u hu; simp at hu; subst hu; rfl) (by unfold maxLen; omega) (by omega) (by have := hb.size; simp; omega) ?_; intro v' w1 hown hgrow _; replace hb := (hb.alloc hb.size _).grown hgrow (by have := hb.size; simp; omega) (fun g hg => (World.ownsRow.lt hI g hg).1); replace hI := OwnI.snoc hown; clear hown hgrow))
            go_roundw
            case rel => exact ⟨k + 1, true, _, rfl, by go_num, by omega, by simp; omega, HN.out, hI, hb⟩
            case measure => simp [intOf]; omega
          · have HN : Hid (M ++ [nth L k] ++ restF x false (L.drop (k + 1)) = insF x L) := by
              have := HR.out
              rw [HD.out] at this
              simp only [restF, Bool.false_eq_true, if_false, insF, if_neg (show ¬ nth L k > x from hgt)] at this
              show M ++ [nth L k] ++ restF x false (L.drop (k + 1)) = insF x L
              simpa [restF] using this
            go_wp2_with (first | (at_builtin; refine wpList_append_own _ rfl _ _ 69 rfl w.heap.size 3 i0 (.int .i64 0) 1 8 Try.underlying69 hi hz0 hz1 hz2 rfl (by decide) _ _ _ rfl (World.ownsRow.alloc hI _) _ 1 1 [.int .i64 ((nth L k))] rfl rfl (by intro j u hj; match j, hj with | 0, hj => simp at hj; subst hj; simp [Addr.add]) (by intro u hu; simp at hu; subst hu; rfl) (by unfold maxLen; omega) (by omega) (by have := hb.size; simp; omega) ?_; intro v' w1 hown hgrow _; replace hb := (hb.alloc hb.size _).grown hgrow (by have := hb.size; simp; omega) (fun g hg => (World.ownsRow.lt hI g hg).1); replace hI := OwnI.snoc hown; clear hown hgrow) | fail)
            go_roundw
            case rel => exact ⟨k + 1, false, _, rfl, by go_num, by omega, by simp; omega, HN.out, hI, hb⟩
            case measure => simp [intOf]; omega
        · have HN : Hid (M ++ [nth L k] ++ restF x true (L.drop (k + 1)) = insF x L) := by
            have := HR.out
            rw [HD.out] at this
            show M ++ [nth L k] ++ restF x true (L.drop (k + 1)) = insF x L
            simpa [restF] using this
          go_wp2_with (first | (at_builtin; refine wpList_append_own _ rfl _ _ 69 rfl w.heap.size 3 i0 (.int .i64 0) 1 8 Try.underlying69 hi hz0 hz1 hz2 rfl (by decide) _ _ _ rfl (World.ownsRow.alloc hI _) _ 1 1 [.int .i64 ((nth L k))] rfl rfl (by intro j u hj; match j, hj with | 0, hj => simp at hj; subst hj; simp [Addr.add]) (by intro u hu; simp at hu; subst hu; rfl) (by unfold maxLen; omega) (by omega) (by have := hb.size; simp; omega) ?_; intro v' w1 hown hgrow _; replace hb := (hb.alloc hb.size _).grown hgrow (by have := hb.size; simp; omega) (fun g hg => (World.ownsRow.lt hI g hg).1); replace hI := OwnI.snoc hown; clear hown hgrow) | fail)
          go_roundw
          case rel => exact ⟨k + 1, true, _, rfl, by go_num, by omega, by simp; omega, HN.out, hI, hb⟩
          case measure => simp [intOf]; omega
      · have hkk : k = L.length := by omega
        have HD : Hid (L.drop k = []) := List.drop_eq_nil_of_le (by omega)
        have HK : Hid (k = L.length) := hkk
        clear hkk
        cases pb
        · have HN : Hid (M ++ [x] = insF x L) := by
            have := HR.out
            rw [HD.out] at this
            show M ++ [x] = insF x L
            show M ++ [x] = insF x L
            simpa [restF, insF] using this
          go_wp2_with (first | (at_builtin; refine wpList_append_own _ rfl _ _ 69 rfl w.heap.size 3 i0 (.int .i64 0) 1 8 Try.underlying69 hi hz0 hz1 hz2 rfl (by decide) _ _ _ rfl (World.ownsRow.alloc hI _) _ 1 1 [.int .i64 (x)] rfl rfl (by intro j u hj; match j, hj with | 0, hj => simp at hj; subst hj; simp [Addr.add]) (by intro u hu; simp at hu; subst hu; rfl) (by unfold maxLen; omega) (by omega) (by have := hb.size; simp; omega) ?_; intro v' w1 hown hgrow _; replace hb := (hb.alloc hb.size _).grown hgrow (by have := hb.size; simp; omega) (fun g hg => (World.ownsRow.lt hI g hg).1); replace hI := OwnI.snoc hown; clear hown hgrow) | fail)
          go_ret
          exact ⟨_, rfl, by rw [HM.out, ← HN.out]; exact hI.based hbase, hb⟩
        · have HN : Hid (M = insF x L) := by
            have := HR.out
            rw [HD.out] at this
            show M = insF x L
            simpa [restF] using this
          go_wp2
          go_ret
          exact ⟨_, rfl, by rw [HM.out, ← HN.out]; exact hI.based hbase, hb⟩
  · have HM : Hid (putF L x = L) := by show putF L x = L; unfold putF; rw [if_pos (by simpa [inB'] using hin)]
    go_enter Try.func139, Try.ntmps139
    go_wp2_with (first | (go_at_call 104; refine Calls.mono (c_l2Has _ _ _ _ _ hL) ?_; rintro e w1 ⟨rfl, hbn⟩; replace h := h.keep hbn; replace hb := bel_to (w := w) (by first | exact hb | exact hb.alloc hb.size _ | exact (hb.alloc hb.size _).alloc (Nat.le_trans hb.size (by simp)) _ | exact hb.setCell (by simp [hb.size]) _) hbn; clear hbn))
    go_ret
    exact ⟨_, rfl, by rw [HM.out]; exact h, hb⟩
end Go.Proofs.Ytkanbnbofoabeaa
