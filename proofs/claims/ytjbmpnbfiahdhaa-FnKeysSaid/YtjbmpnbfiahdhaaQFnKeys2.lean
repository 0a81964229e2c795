/- Contracts and lemmas for FnKeys, part 2 of 6. -/
import Derived.Test.YtjbmpnbfiahdhaaQFnKeys1
namespace Go.Proofs.Ytjbmpnbfiahdhaa
open Go.RowKit
set_option linter.unusedVariables false
set_option maxRecDepth 100000

theorem c_areSets (oa) (cap : Nat) (L : List Int) (w : World) (hL : IntsAt w oa L) :
    Ans Try.prog 187 #[.slice oa L.length cap] w (.bool (setsF L && decide (L.length ≤ 100))) := by
  unfold Ans
  have hn : L.length ≤ 1073741824 := hL.len
  go_enter Try.func187, Try.ntmps187
  go_wp2
  go_loopw [7] (fun i wr => ∃ k : Nat, i = .int .i64 k ∧ k ≤ L.length ∧ (L.take k).all stB = true ∧ Below w.heap.size w wr) (fun i _ => L.length - (intOf i).toNat)
  case atStart => exact ⟨0, rfl, Nat.zero_le _, by simp, Below.refl _ _⟩
  case round =>
    obtain ⟨k, rfl, hk, hall, hb⟩ := hrel
    have HA : Hid ((L.take k).all stB = true) := hall
    clear hall
    by_cases hlt : k < L.length
    · obtain ⟨b, off, rfl, hbs, hc⟩ := hL.at_ (by omega)
      have hc1 := cell_keep (hc k hlt) hb
      have HT : Hid ((L.take (k + 1)).all stB = ((L.take k).all stB && stB (nth L k))) := all_take_succ _ L k hlt
      have HF : Hid (stB (nth L k) = false → setsF L = false) := all_false _ L k hlt
      clear hc
      cases hst : stB (nth L k)
      · go_wp2_with (first | (go_at_call 125; refine Calls.mono (c_isSet _ _) ?_; rintro e w1 ⟨rfl, hbn⟩; replace hb := bel_to (w := w) (by first | exact hb | exact hb.alloc hb.size _ | exact (hb.alloc hb.size _).alloc (Nat.le_trans hb.size (by simp)) _ | exact hb.setCell (by simp [hb.size]) _) hbn; clear hbn))
        go_ret
        exact ⟨ret_bool (by rw [HF.out hst]; rfl), hb⟩
      · go_wp2_with (first | (go_at_call 125; refine Calls.mono (c_isSet _ _) ?_; rintro e w1 ⟨rfl, hbn⟩; replace hb := bel_to (w := w) (by first | exact hb | exact hb.alloc hb.size _ | exact (hb.alloc hb.size _).alloc (Nat.le_trans hb.size (by simp)) _ | exact hb.setCell (by simp [hb.size]) _) hbn; clear hbn))
        go_roundw
        case rel => exact ⟨k + 1, by go_num, by omega, by rw [HT.out, HA.out, hst]; rfl, hb⟩
        case measure => simp [intOf]; omega
    · have hkk : k = L.length := by omega
      have HS : Hid (setsF L = true) := by have := HA.out; rw [hkk, List.take_length] at this; exact this
      clear hkk
      go_wp2
      go_ret
      exact ⟨ret_bool (by rw [HS.out, Bool.true_and, decide_eq_decide]; omega), hb⟩
theorem c_l4Sets (oa) (cap : Nat) (L : List Int) (w : World) (hL : IntsAt w oa L) :
    Ans Try.prog 189 #[.slice oa L.length cap] w (.bool (setsF L && decide (L.length ≤ 100))) := by
  unfold Ans
  have hn : L.length ≤ 1073741824 := hL.len
  go_enter Try.func189, Try.ntmps189
  go_wp2
  go_loopw [3] (fun i wr => ∃ k : Nat, i = .int .i64 k ∧ k ≤ L.length ∧ (L.take k).all stB = true ∧ Below w.heap.size w wr) (fun i _ => L.length - (intOf i).toNat)
  case atStart => exact ⟨0, rfl, Nat.zero_le _, by simp, Below.refl _ _⟩
  case round =>
    obtain ⟨k, rfl, hk, hall, hb⟩ := hrel
    have HA : Hid ((L.take k).all stB = true) := hall
    clear hall
    by_cases hlt : k < L.length
    · obtain ⟨b, off, rfl, hbs, hc⟩ := hL.at_ (by omega)
      have hc1 := cell_keep (hc k hlt) hb
      have HT : Hid ((L.take (k + 1)).all stB = ((L.take k).all stB && stB (nth L k))) := all_take_succ _ L k hlt
      have HF : Hid (stB (nth L k) = false → setsF L = false) := all_false _ L k hlt
      clear hc
      cases hst : stB (nth L k)
      · go_wp2_with (first | (go_at_call 176; refine Calls.mono (c_l2Valid _ _) ?_; rintro e w1 ⟨rfl, hbn⟩; replace hb := bel_to (w := w) (by first | exact hb | exact hb.alloc hb.size _ | exact (hb.alloc hb.size _).alloc (Nat.le_trans hb.size (by simp)) _ | exact hb.setCell (by simp [hb.size]) _) hbn; clear hbn))
        go_ret
        exact ⟨ret_bool (by rw [HF.out hst]; rfl), hb⟩
      · go_wp2_with (first | (go_at_call 176; refine Calls.mono (c_l2Valid _ _) ?_; rintro e w1 ⟨rfl, hbn⟩; replace hb := bel_to (w := w) (by first | exact hb | exact hb.alloc hb.size _ | exact (hb.alloc hb.size _).alloc (Nat.le_trans hb.size (by simp)) _ | exact hb.setCell (by simp [hb.size]) _) hbn; clear hbn))
        go_roundw
        case rel => exact ⟨k + 1, by go_num, by omega, by rw [HT.out, HA.out, hst]; rfl, hb⟩
        case measure => simp [intOf]; omega
    · have hkk : k = L.length := by omega
      have HS : Hid (setsF L = true) := by have := HA.out; rw [hkk, List.take_length] at this; exact this
      clear hkk
      go_wp2
      go_ret
      exact ⟨ret_bool (by rw [HS.out, Bool.true_and, decide_eq_decide]; omega), hb⟩
theorem drop_cons {L : List Int} {k : Nat} (h : k < L.length) : L.drop k = nth L k :: L.drop (k + 1) := by
  have e := nth_eq h
  rw [List.getElem?_eq_getElem h] at e
  injection e with e
  rw [List.drop_eq_getElem_cons h, e]
set_option maxHeartbeats 800000 in
theorem c_l4Put (oa) (cap base : Nat) (L : List Int) (x : Int) (w : World) (hl : L.length ≤ 1000) (h : OwnI w base (.slice oa L.length cap) L) (hbase : base ≤ w.heap.size) :
    Calls Try.prog 183 #[.slice oa L.length cap, .int .i64 x] w fun e w' => ∃ v, e = .returned v ∧ OwnI w' base v (putF L x) ∧ Below w.heap.size w w' := by
  obtain ⟨i0, hi, hz0, hz1, hz2⟩ := info_parts info_int
  have hr : L.length ≤ Room := by unfold Room; omega
  have hL := h.ints rfl hr
  have hb := Below.refl w.heap.size w
  cases hin : inB' L x
  · have HM : Hid (putF L x = insF x L) := by show putF L x = insF x L; unfold putF; rw [if_neg (by simpa [inB'] using hin)]
    go_enter Try.func183, Try.ntmps183
    go_wp2_with (first | (go_at_call 174; refine Calls.mono (c_l2Has _ _ _ _ _ hL) ?_; rintro e w1 ⟨rfl, hbn⟩; replace hb := bel_to (w := w) (by first | exact hb | exact hb.alloc hb.size _ | exact (hb.alloc hb.size _).alloc (Nat.le_trans hb.size (by simp)) _ | exact hb.setCell (by simp [hb.size]) _) hbn; clear hbn))
    go_loopw [5, 6, 7] (fun v p i wr => ∃ (k : Nat) (pb : Bool) (M : List Int), p = .bool pb ∧ i = .int .i64 k ∧ k ≤ L.length ∧ M.length ≤ 2 * k ∧ M ++ restF x pb (L.drop k) = insF x L ∧ OwnI wr w.heap.size v M ∧ Below w.heap.size w wr) (fun _ _ i _ => L.length - (intOf i).toNat)
    case atStart => exact ⟨0, false, [], rfl, rfl, Nat.zero_le _, by simp, by simp [restF], (OwnI.empty _ _ (Nat.le_refl _)).based hb.size, hb.alloc hb.size _⟩
    case round =>
      clear hb
      obtain ⟨k, pb, M, rfl, rfl, hk, hml, hrest, hI, hb⟩ := hrel
      have HR : Hid (M ++ restF x pb (L.drop k) = insF x L) := hrest
      clear hrest
      by_cases hlt : k < L.length
      · obtain ⟨b, off, rfl, hbs, hc⟩ := hL.at_ (by omega)
        have hc0 := hc k hlt
        have hc1 := cell_keep hc0 hb
        have HD : Hid (L.drop k = nth L k :: L.drop (k + 1)) := drop_cons hlt
        clear hc
        cases pb
        · by_cases hgt : x < nth L k
          · have HN : Hid ((M ++ [x]) ++ [nth L k] ++ restF x true (L.drop (k + 1)) = insF x L) := by
              have := HR.out
              rw [HD.out] at this
              simp only [restF, Bool.false_eq_true, if_false, insF, if_pos (show nth L k > x from hgt)] at this
              show (M ++ [x]) ++ [nth L k] ++ restF x true (L.drop (k + 1)) = insF x L
              simpa [restF] using this
            have hq : True := trivial
            go_wp2_with (first | (clear hq; (at_builtin; refine wpList_append_own _ rfl _ _ 68 rfl w.heap.size 3 i0 (.int .i64 0) 1 8 Try.underlying68 hi hz0 hz1 hz2 rfl (by decide) _ _ _ rfl (World.ownsRow.alloc hI _) _ 1 1 [.int .i64 (x)] rfl rfl (by intro j u hj; match j, hj with | 0, hj => simp at hj; subst hj; simp [Addr.add]) (by intro u hu; simp at hu; subst hu; rfl) (by unfold maxLen; omega) (by omega) (by have := hb.size; simp; omega) ?_; intro v' w1 hown hgrow _; replace hb := (hb.alloc hb.size _).grown hgrow (by have := hb.size; simp; omega) (fun g hg => (World.ownsRow.lt hI g hg).1); replace hI := OwnI.snoc hown; clear hown hgrow); have hc2 := cell_keep hc0 hb; have hml2 : (M ++ [x]).length ≤ 2 * k + 1 := (by simp; omega)) | (at_builtin; refine wpList_append_own _ rfl _ _ 68 rfl w.heap.size 3 i0 (.int .i64 0) 1 8 Try.underlying68 hi hz0 hz1 hz2 rfl (by decide) _ _ _ rfl (World.ownsRow.alloc hI _) _ 1 1 [.int .i64 ((nth L k))] rfl rfl (by intro j u hj; match j, hj with | 0, hj => simp at hj; subst hj; simp [Addr.add]) (by intro u hu; simp at hu; subst hu; rfl) (by unfold maxLen; omega) (by omega) (by have := hb.size; simp; omega) ?_; intro v' w1 hown hgrow _; replace hb := (hb.alloc hb.size _).grown hgrow (by have := hb.size; simp; omega) (fun g hg => (World.ownsRow.lt hI g hg).1); replace hI := OwnI.snoc hown; clear hown hgrow))
            go_roundw
            case rel => exact ⟨k + 1, true, _, rfl, by go_num, by omega, by simp; omega, HN.out, hI, hb⟩
            case measure => simp [intOf]; omega
          · have HN : Hid (M ++ [nth L k] ++ restF x false (L.drop (k + 1)) = insF x L) := by
              have := HR.out
              rw [HD.out] at this
              simp only [restF, Bool.false_eq_true, if_false, insF, if_neg (show ¬ nth L k > x from hgt)] at this
              show M ++ [nth L k] ++ restF x false (L.drop (k + 1)) = insF x L
              simpa [restF] using this
            go_wp2_with (first | (at_builtin; refine wpList_append_own _ rfl _ _ 68 rfl w.heap.size 3 i0 (.int .i64 0) 1 8 Try.underlying68 hi hz0 hz1 hz2 rfl (by decide) _ _ _ rfl (World.ownsRow.alloc hI _) _ 1 1 [.int .i64 ((nth L k))] rfl rfl (by intro j u hj; match j, hj with | 0, hj => simp at hj; subst hj; simp [Addr.add]) (by intro u hu; simp at hu; subst hu; rfl) (by unfold maxLen; omega) (by omega) (by have := hb.size; simp; omega) ?_; intro v' w1 hown hgrow _; replace hb := (hb.alloc hb.size _).grown hgrow (by have := hb.size; simp; omega) (fun g hg => (World.ownsRow.lt hI g hg).1); replace hI := OwnI.snoc hown; clear hown hgrow) | fail)
            go_roundw
            case rel => exact ⟨k + 1, false, _, rfl, by go_num, by omega, by simp; omega, HN.out, hI, hb⟩
            case measure => simp [intOf]; omega
        · have HN : Hid (M ++ [nth L k] ++ restF x true (L.drop (k + 1)) = insF x L) := by
            have := HR.out
            rw [HD.out] at this
            show M ++ [nth L k] ++ restF x true (L.drop (k + 1)) = insF x L
            simpa [restF] using this
          go_wp2_with (first | (at_builtin; refine wpList_append_own _ rfl _ _ 68 rfl w.heap.size 3 i0 (.int .i64 0) 1 8 Try.underlying68 hi hz0 hz1 hz2 rfl (by decide) _ _ _ rfl (World.ownsRow.alloc hI _) _ 1 1 [.int .i64 ((nth L k))] rfl rfl (by intro j u hj; match j, hj with | 0, hj => simp at hj; subst hj; simp [Addr.add]) (by intro u hu; simp at hu; subst hu; rfl) (by unfold maxLen; omega) (by omega) (by have := hb.size; simp; omega) ?_; intro v' w1 hown hgrow _; replace hb := (hb.alloc hb.size _).grown hgrow (by have := hb.size; simp; omega) (fun g hg => (World.ownsRow.lt hI g hg).1); replace hI := OwnI.snoc hown; clear hown hgrow) | fail)
          go_roundw
          case rel => exact ⟨k + 1, true, _, rfl, by go_num, by omega, by simp; omega, HN.out, hI, hb⟩
          case measure => simp [intOf]; omega
      · have hkk : k = L.length := by omega
        have HD : Hid (L.drop k = []) := List.drop_eq_nil_of_le (by omega)
        have HK : Hid (k = L.length) := hkk
        clear hkk
        cases pb
        · have HN : Hid (M ++ [x] = insF x L) := by
            have := HR.out
            rw [HD.out] at this
            show M ++ [x] = insF x L
            show M ++ [x] = insF x L
            simpa [restF, insF] using this
          go_wp2_with (first | (at_builtin; refine wpList_append_own _ rfl _ _ 68 rfl w.heap.size 3 i0 (.int .i64 0) 1 8 Try.underlying68 hi hz0 hz1 hz2 rfl (by decide) _ _ _ rfl (World.ownsRow.alloc hI _) _ 1 1 [.int .i64 (x)] rfl rfl (by intro j u hj; match j, hj with | 0, hj => simp at hj; subst hj; simp [Addr.add]) (by intro u hu; simp at hu; subst hu; rfl) (by unfold maxLen; omega) (by omega) (by have := hb.size; simp; omega) ?_; intro v' w1 hown hgrow _; replace hb := (hb.alloc hb.size _).grown hgrow (by have := hb.size; simp; omega) (fun g hg => (World.ownsRow.lt hI g hg).1); replace hI := OwnI.snoc hown; clear hown hgrow) | fail)
          go_ret
          exact ⟨_, rfl, by rw [HM.out, ← HN.out]; exact hI.based hbase, hb⟩
        · have HN : Hid (M = insF x L) := by
            have := HR.out
            rw [HD.out] at this
            show M = insF x L
            simpa [restF] using this
          go_wp2
          go_ret
          exact ⟨_, rfl, by rw [HM.out, ← HN.out]; exact hI.based hbase, hb⟩
  · have HM : Hid (putF L x = L) := by show putF L x = L; unfold putF; rw [if_pos (by simpa [inB'] using hin)]
    go_enter Try.func183, Try.ntmps183
    go_wp2_with (first | (go_at_call 174; refine Calls.mono (c_l2Has _ _ _ _ _ hL) ?_; rintro e w1 ⟨rfl, hbn⟩; replace h := h.keep hbn; replace hb := bel_to (w := w) (by first | exact hb | exact hb.alloc hb.size _ | exact (hb.alloc hb.size _).alloc (Nat.le_trans hb.size (by simp)) _ | exact hb.setCell (by simp [hb.size]) _) hbn; clear hbn))
    go_ret
    exact ⟨_, rfl, by rw [HM.out]; exact h, hb⟩
end Go.Proofs.Ytjbmpnbfiahdhaa
namespace Go.Proofs.Ytjbmpnbfiahdhaa
open Go.RowKit
set_option linter.unusedVariables false
set_option maxRecDepth 100000

theorem filter_take_succ (p : Int → Bool) (L : List Int) (k : Nat) (hk : k < L.length) : (L.take (k + 1)).filter p = (L.take k).filter p ++ (if p (nth L k) then [nth L k] else []) := by
  rw [List.take_add_one, nth_eq hk, List.filter_append]
  simp [List.filter_cons]
theorem bneI (x y : Int) : (x != y) = !(x == y) := rfl

set_option maxHeartbeats 1600000 in
theorem c_MinimalSets (oa) (cap : Nat) (L : List Int) (w : World) (hL : IntsAt w oa L) (hnil : oa = none → cap = 0) :
    Calls Try.prog 150 #[.slice oa L.length cap] w fun e w' => ∃ v, e = .returned v ∧ OwnI w' w.heap.size v (minF L) ∧ Below w.heap.size w w' := by
  obtain ⟨i0, hi, hz0, hz1, hz2⟩ := info_parts info_int
  have hn : L.length ≤ 1073741824 := hL.len
  have hb := (Below.refl w.heap.size w).alloc (Nat.le_refl _) (.cells #[] 3)
  have hI := OwnI.empty w w.heap.size (Nat.le_refl _)
  cases hs : (setsF L && decide (L.length ≤ 100))
  · have HM : Hid (minF L = []) := by show minF L = []; unfold minF; rw [hs]; rfl
    go_enter Try.func150, Try.ntmps150
    go_wp2_with (first | (go_at_call 187; refine Calls.mono (Ans.eqb (c_areSets _ _ _ _ (hL.keep hb)) hs) ?_; rintro e w1 ⟨rfl, hbn⟩; replace hI := hI.keep hbn; replace hb := bel_to (w := w) (by first | exact hb | exact hb.alloc hb.size _ | exact (hb.alloc hb.size _).alloc (Nat.le_trans hb.size (by simp)) _ | exact hb.setCell (by simp [hb.size]) _) hbn; clear hbn))
    go_ret
    exact ⟨_, rfl, by rw [HM.out]; exact hI, hb⟩
  · have hs' : setsF L = true ∧ L.length ≤ 100 := by simpa using hs
    have HM : Hid (minF L = (distinctF L).filter (minB L)) := minF_filter hs'.1 hs'.2
    have hml : (distinctF L).length ≤ 32 := by rw [distinctF_flt (setsF_mem hs'.1)]; exact flt_le _ _
    go_enter Try.func150, Try.ntmps150
    go_wp2_with (first | (go_at_call 187; refine Calls.mono (Ans.eqb (c_areSets _ _ _ _ (hL.keep hb)) hs) ?_; rintro e w1 ⟨rfl, hbn⟩; replace hI := hI.keep hbn; replace hb := bel_to (w := w) (by first | exact hb | exact hb.alloc hb.size _ | exact (hb.alloc hb.size _).alloc (Nat.le_trans hb.size (by simp)) _ | exact hb.setCell (by simp [hb.size]) _) hbn; clear hbn))
    have old := hI
    refine (c_distinct _ _ _ _ (hL.keep hb) hnil).mono ?_
    rintro e w1 ⟨v1, rfl, hM, hbn⟩
    have ap_hM := (apart_old old hM).symm
    replace hI := hI.keep hbn
    replace hM := hM.based hb.size
    replace hb := bel_to hb hbn
    clear old hbn
    generalize distinctF L = M at *
    obtain ⟨o1, c1, rfl⟩ := hM.shape
    go_wp2
    go_loopw [3, 17] (fun v i wr => ∃ k : Nat, i = .int .i64 k ∧ k ≤ M.length ∧ OwnI wr w.heap.size v ((M.take k).filter (minB L)) ∧ OwnI wr w.heap.size (.slice o1 M.length c1) M ∧ Apart (.slice o1 M.length c1) v ∧ Below w.heap.size w wr) (fun _ i _ => M.length - (intOf i).toNat)
    case atStart => exact ⟨0, rfl, Nat.zero_le _, by simpa using hI, hM, ap_hM, hb⟩
    case round =>
      clear hI hM ap_hM hb
      obtain ⟨k, rfl, hk, hI, hM, ap_hM, hb⟩ := hrel
      by_cases hlt : k < M.length
      · have HS : Hid ((M.take (k + 1)).filter (minB L) = (M.take k).filter (minB L) ++ (if minB L (nth M k) then [nth M k] else [])) := filter_take_succ _ _ _ hlt
        have hfl : ((M.take k).filter (minB L)).length ≤ 32 := by
          have := List.length_filter_le (minB L) (M.take k)
          rw [List.length_take] at this
          omega
        obtain ⟨b1, off1, rfl, hbs1, hca⟩ := (hM.ints rfl (by unfold Room; omega)).at_ (by omega)
        have hc1 := hca k hlt
        clear hca
        generalize nth M k = x at *
        generalize (M.take k).filter (minB L) = F at *
        go_wp2
        go_loopw [6, 23] (fun b i wr => ∃ j : Nat, i = .int .i64 j ∧ j ≤ L.length ∧ b = .bool ((L.take j).all fun y => (x == y) || !ins y x) ∧ OwnI wr w.heap.size u3 F ∧ OwnI wr w.heap.size (.slice (some ⟨b1, off1, none⟩) M.length c1) M ∧ Below w.heap.size w wr) (fun _ i _ => L.length - (intOf i).toNat)
        case atStart => exact ⟨0, rfl, Nat.zero_le _, by simp, hI, hM, hb⟩
        case round =>
          clear hI hM hb hc1
          obtain ⟨j, rfl, hj, rfl, hI, hM, hb⟩ := hrel
          by_cases hlj : j < L.length
          · obtain ⟨b2, off2, rfl, hbs2, hc⟩ := hL.at_ (by omega)
            have hc2 := cell_keep (hc j hlj) hb
            have HT : Hid ((L.take (j + 1)).all (fun y => (x == y) || !ins y x) = ((L.take j).all (fun y => (x == y) || !ins y x) && ((x == nth L j) || !ins (nth L j) x))) := all_take_succ (fun y => (x == y) || !ins y x) L j hlj
            clear hc
            generalize (L.take j).all (fun y => (x == y) || !ins y x) = A at *
            cases A
            · go_wp2
              go_roundw
              case rel => exact ⟨j + 1, by go_num, by omega, by rw [HT.out]; rfl, hI, hM, hb⟩
              case measure => simp [intOf]; omega
            · cases hxy : (x == nth L j)
              · cases hin : ins (nth L j) x
                · go_wp2_with (first | (go_at_call 106; refine Calls.mono (Ans.eqb (c_inside _ _ _) hin) ?_; rintro e w1 ⟨rfl, hbn⟩; replace hI := hI.keep hbn; replace hM := hM.keep hbn; replace hb := bel_to (w := w) (by first | exact hb | exact hb.alloc hb.size _ | exact (hb.alloc hb.size _).alloc (Nat.le_trans hb.size (by simp)) _ | exact hb.setCell (by simp [hb.size]) _) hbn; clear hbn))
                  go_roundw
                  case rel => exact ⟨j + 1, by go_num, by omega, by rw [HT.out, hxy, hin]; rfl, hI, hM, hb⟩
                  case measure => simp [intOf]; omega
                · go_wp2_with (first | (go_at_call 106; refine Calls.mono (Ans.eqb (c_inside _ _ _) hin) ?_; rintro e w1 ⟨rfl, hbn⟩; replace hI := hI.keep hbn; replace hM := hM.keep hbn; replace hb := bel_to (w := w) (by first | exact hb | exact hb.alloc hb.size _ | exact (hb.alloc hb.size _).alloc (Nat.le_trans hb.size (by simp)) _ | exact hb.setCell (by simp [hb.size]) _) hbn; clear hbn))
                  go_roundw
                  case rel => exact ⟨j + 1, by go_num, by omega, by rw [HT.out, hxy, hin]; rfl, hI, hM, hb⟩
                  case measure => simp [intOf]; omega
              · go_wp2
                go_roundw
                case rel => exact ⟨j + 1, by go_num, by omega, by rw [HT.out, hxy]; rfl, hI, hM, hb⟩
                case measure => simp [intOf]; omega
          · have hjj : j = L.length := by omega
            have HA : Hid ((L.take j).all (fun y => (x == y) || !ins y x) = minB L x) := by
              show (L.take j).all (fun y => (x == y) || !ins y x) = minB L x
              rw [hjj, List.take_length]; rfl
            clear hjj
            generalize (L.take j).all (fun y => (x == y) || !ins y x) = A at *
            cases A
            · go_wp2
              go_roundw
              case rel => exact ⟨k + 1, by go_num, by omega, by rw [HS.out, ← HA.out]; simpa using hI, hM, ap_hM, hb⟩
              case measure => simp [intOf]; omega
            · go_wp2_with (first | (at_builtin; refine wpList_append_fresh rfl _ _ 68 rfl w.heap.size 3 i0 (.int .i64 0) 1 8 Try.underlying68 hi hz0 hz1 hz2 rfl (by decide) _ _ _ rfl (World.ownsRow.alloc hI _) _ 1 1 [.int .i64 (x)] rfl rfl (by intro j u hj; match j, hj with | 0, hj => simp at hj; subst hj; simp [Addr.add]) (by intro u hu; simp at hu; subst hu; rfl) (by unfold maxLen; omega) (by omega) (by have := hb.size; simp; omega) ?_; intro v' w1 hown hgrow hfr; replace hb := (hb.alloc hb.size _).grown hgrow (by have := hb.size; simp; omega) (fun g hg => (World.ownsRow.lt hI g hg).1); obtain ⟨hM, ap_hM⟩ := OwnI.past hM hgrow ap_hM hfr; replace hI := OwnI.snoc hown; clear hown hgrow hfr) | fail)
              go_roundw
              case rel => exact ⟨k + 1, by go_num, by omega, by rw [HS.out, ← HA.out]; exact hI, hM, ap_hM, hb⟩
              case measure => simp [intOf]; omega
      · have hkk : k = M.length := by omega
        have HF : Hid ((M.take k).filter (minB L) = M.filter (minB L)) := by
          show (M.take k).filter (minB L) = M.filter (minB L)
          rw [hkk, List.take_length]
        clear hkk
        go_wp2
        go_ret
        exact ⟨_, rfl, by rw [HM.out, ← HF.out]; exact hI, hb⟩

end Go.Proofs.Ytjbmpnbfiahdhaa
namespace Go.Proofs.Ytjbmpnbfiahdhaa
open Go.RowKit
set_option linter.unusedVariables false
set_option maxRecDepth 100000

theorem min_step {L : List Int} {k : Nat} (hk : k < L.length) (hs : St (nth L k)) :
    flt (fun y => inB' (L.take (k + 1)) y && minB L y) 32 = (if minB L (nth L k) then putF (flt (fun y => inB' (L.take k) y && minB L y) 32) (nth L k) else flt (fun y => inB' (L.take k) y && minB L y) 32) := by
  have e : ∀ y, inB' (L.take (k + 1)) y = (inB' (L.take k) y || y == nth L k) := fun y => by
    unfold inB'
    rw [List.take_add_one, nth_eq hk]
    simp [Bool.decide_or]
    rfl
  split
  · next h =>
    rw [putF_flt _ hs]
    congr 1
    funext y
    rw [e]
    cases hy : (y == nth L k)
    · simp
    · have : y = nth L k := by simpa using hy
      rw [this, h]; simp
  · next h =>
    congr 1
    funext y
    rw [e]
    cases hy : (y == nth L k)
    · simp
    · have : y = nth L k := by simpa using hy
      rw [this]
      simp only [Bool.not_eq_true] at h
      rw [h]; simp
set_option maxHeartbeats 1600000 in
theorem c_specMinimalSets (oa) (cap : Nat) (L : List Int) (w : World) (hL : IntsAt w oa L) :
    Calls Try.prog 151 #[.slice oa L.length cap] w fun e w' => ∃ v, e = .returned v ∧ OwnI w' w.heap.size v (minF L) ∧ Below w.heap.size w w' := by
  obtain ⟨i0, hi, hz0, hz1, hz2⟩ := info_parts info_int
  have hn : L.length ≤ 1073741824 := hL.len
  have hb := (Below.refl w.heap.size w).alloc (Nat.le_refl _) (.cells #[] 3)
  have hI := OwnI.empty w w.heap.size (Nat.le_refl _)
  cases hs : (setsF L && decide (L.length ≤ 100))
  · have HM : Hid (minF L = []) := by show minF L = []; unfold minF; rw [hs]; rfl
    go_enter Try.func151, Try.ntmps151
    go_wp2
    go_loopw [3, 4] (fun v i wr => i = .int .i64 0 ∧ OwnI wr w.heap.size v [] ∧ Below w.heap.size w wr) (fun _ _ _ => 0)
    case atStart => exact ⟨rfl, hI, hb⟩
    case round =>
      clear hI hb
      obtain ⟨rfl, hI, hb⟩ := hrel
      by_cases h0 : 0 < L.length
      · go_wp2_with (first | (go_at_call 189; refine Calls.mono (Ans.eqb (c_l4Sets _ _ _ _ (hL.keep hb)) hs) ?_; rintro e w1 ⟨rfl, hbn⟩; replace hI := hI.keep hbn; replace hb := bel_to (w := w) (by first | exact hb | exact hb.alloc hb.size _ | exact (hb.alloc hb.size _).alloc (Nat.le_trans hb.size (by simp)) _ | exact hb.setCell (by simp [hb.size]) _) hbn; clear hbn))
        go_ret
        exact ⟨_, rfl, by rw [HM.out]; exact hI, hb⟩
      · go_wp2
        go_ret
        exact ⟨_, rfl, by rw [HM.out]; exact hI, hb⟩
  · have hs' : setsF L = true ∧ L.length ≤ 100 := by simpa using hs
    have hsm := setsF_mem hs'.1
    have HM : Hid (minF L = flt (fun x => inB' L x && minB L x) 32) := minF_sets hs'.1 hs'.2
    go_enter Try.func151, Try.ntmps151
    go_wp2
    go_loopw [3, 4] (fun v i wr => ∃ k : Nat, i = .int .i64 k ∧ k ≤ L.length ∧ OwnI wr w.heap.size v (flt (fun y => inB' (L.take k) y && minB L y) 32) ∧ Below w.heap.size w wr) (fun _ i _ => L.length - (intOf i).toNat)
    case atStart =>
      have e : flt (fun y => inB' (L.take 0) y && minB L y) 32 = [] := by unfold flt inB'; simp
      exact ⟨0, rfl, Nat.zero_le _, by rw [e]; exact hI, hb⟩
    case round =>
      clear hI hb
      obtain ⟨k, rfl, hk, hI, hb⟩ := hrel
      by_cases hlt : k < L.length
      · have hst : St (nth L k) := hsm _ (List.mem_iff_getElem?.2 ⟨k, nth_eq hlt⟩)
        have HS := (show Hid _ from min_step hlt hst)
        have hfl : (flt (fun y => inB' (L.take k) y && minB L y) 32).length ≤ 32 := flt_le _ _
        obtain ⟨b1, off1, rfl, hbs1, hc1⟩ := hL.at_ (by omega)
        have hd1 := hc1 k hlt
        have HC : Hid (∀ k, k < L.length → w.cell? ⟨b1, off1 + k, none⟩ = some (.int .i64 (nth L k))) := hc1
        clear hc1
        generalize flt (fun y => inB' (L.take k) y && minB L y) 32 = F at *
        generalize hx : nth L k = x at *
        go_wp2_with (first | (go_at_call 189; refine Calls.mono (Ans.eqb (c_l4Sets _ _ _ _ (hL.keep hb)) hs) ?_; rintro e w1 ⟨rfl, hbn⟩; replace hI := hI.keep hbn; replace hb := bel_to (w := w) (by first | exact hb | exact hb.alloc hb.size _ | exact (hb.alloc hb.size _).alloc (Nat.le_trans hb.size (by simp)) _ | exact hb.setCell (by simp [hb.size]) _) hbn; clear hbn))
        go_loopw [5, 6] (fun b i wr => ∃ j : Nat, i = .int .i64 j ∧ j ≤ L.length ∧ b = .bool ((L.take j).all fun y => (y == x) || !(bits BinOp.and .i64 x y == y)) ∧ OwnI wr w.heap.size u3 F ∧ Below w.heap.size w wr) (fun _ i _ => L.length - (intOf i).toNat)
        case atStart => exact ⟨0, rfl, Nat.zero_le _, by simp, hI, hb⟩
        case round =>
          clear hI hb
          obtain ⟨j, rfl, hj, rfl, hI, hb⟩ := hrel
          have hc2 := cell_keep hd1 hb
          by_cases hlj : j < L.length
          · have hc3 := cell_keep (HC.out j hlj) hb
            have HT : Hid ((L.take (j + 1)).all (fun y => (y == x) || !(bits BinOp.and .i64 x y == y)) = ((L.take j).all (fun y => (y == x) || !(bits BinOp.and .i64 x y == y)) && ((nth L j == x) || !(bits BinOp.and .i64 x (nth L j) == nth L j)))) := all_take_succ (fun y => (y == x) || !(bits BinOp.and .i64 x y == y)) L j hlj
            generalize hy : nth L j = y at *
            generalize (L.take j).all (fun y => (y == x) || !(bits BinOp.and .i64 x y == y)) = A at *
            cases A
            · go_wp2_with fail
              (refine wp_region_after (by kernel_rfl) (by kernel_rfl) ?_; have q_hc2 := fun (x : After _) => cell_keep hc2 x.bel; have q_hc3 := fun (x : After _) => cell_keep hc3 x.bel; (repeat (go_big_quiet_step (fail))); clear q_hc2; clear q_hc3; refine wpQuiet_nil ?_; rintro _ ⟨⟨w1, hbn⟩, rfl⟩; (try simp only [After.w]); replace hc2 := cell_keep hc2 hbn; replace hc3 := cell_keep hc3 hbn; replace hI := hI.keep hbn; replace hb := bel_to (w := w) (by first | exact hb | exact hb.alloc hb.size _ | exact (hb.alloc hb.size _).alloc (Nat.le_trans hb.size (by simp)) _ | exact hb.setCell (by simp [hb.size]) _) hbn; clear hbn)
              go_wp2
              go_roundw
              case rel => exact ⟨j + 1, by go_num, by omega, by rw [HT.out]; rfl, hI, hb⟩
              case measure => simp [intOf]; omega
            · cases hxy : (y == x)
              · cases hin : (bits BinOp.and .i64 x y == y)
                · have hin2 : (bits BinOp.and .i64 x y != y) = true := by rw [bneI, hin]; rfl
                  go_wp2_with fail
                  (refine wp_region_after (by kernel_rfl) (by kernel_rfl) ?_; have q_hc2 := fun (x : After _) => cell_keep hc2 x.bel; have q_hc3 := fun (x : After _) => cell_keep hc3 x.bel; (repeat (go_big_quiet_step (fail))); clear q_hc2; clear q_hc3; refine wpQuiet_nil ?_; rintro _ ⟨⟨w1, hbn⟩, rfl⟩; (try simp only [After.w]); replace hc2 := cell_keep hc2 hbn; replace hc3 := cell_keep hc3 hbn; replace hI := hI.keep hbn; replace hb := bel_to (w := w) (by first | exact hb | exact hb.alloc hb.size _ | exact (hb.alloc hb.size _).alloc (Nat.le_trans hb.size (by simp)) _ | exact hb.setCell (by simp [hb.size]) _) hbn; clear hbn)
                  go_wp2
                  go_roundw
                  case rel => exact ⟨j + 1, by go_num, by omega, by rw [HT.out, hxy, hin]; rfl, hI, hb⟩
                  case measure => simp [intOf]; omega
                · have hin2 : (bits BinOp.and .i64 x y != y) = false := by rw [bneI, hin]; rfl
                  go_wp2_with fail
                  (refine wp_region_after (by kernel_rfl) (by kernel_rfl) ?_; have q_hc2 := fun (x : After _) => cell_keep hc2 x.bel; have q_hc3 := fun (x : After _) => cell_keep hc3 x.bel; (repeat (go_big_quiet_step (fail))); clear q_hc2; clear q_hc3; refine wpQuiet_nil ?_; rintro _ ⟨⟨w1, hbn⟩, rfl⟩; (try simp only [After.w]); replace hc2 := cell_keep hc2 hbn; replace hc3 := cell_keep hc3 hbn; replace hI := hI.keep hbn; replace hb := bel_to (w := w) (by first | exact hb | exact hb.alloc hb.size _ | exact (hb.alloc hb.size _).alloc (Nat.le_trans hb.size (by simp)) _ | exact hb.setCell (by simp [hb.size]) _) hbn; clear hbn)
                  go_wp2
                  go_roundw
                  case rel => exact ⟨j + 1, by go_num, by omega, by rw [HT.out, hxy, hin]; rfl, hI, hb⟩
                  case measure => simp [intOf]; omega
              · go_wp2_with fail
                (refine wp_region_after (by kernel_rfl) (by kernel_rfl) ?_; have q_hc2 := fun (x : After _) => cell_keep hc2 x.bel; have q_hc3 := fun (x : After _) => cell_keep hc3 x.bel; (repeat (go_big_quiet_step (fail))); clear q_hc2; clear q_hc3; refine wpQuiet_nil ?_; rintro _ ⟨⟨w1, hbn⟩, rfl⟩; (try simp only [After.w]); replace hc2 := cell_keep hc2 hbn; replace hc3 := cell_keep hc3 hbn; replace hI := hI.keep hbn; replace hb := bel_to (w := w) (by first | exact hb | exact hb.alloc hb.size _ | exact (hb.alloc hb.size _).alloc (Nat.le_trans hb.size (by simp)) _ | exact hb.setCell (by simp [hb.size]) _) hbn; clear hbn)
                go_wp2
                go_roundw
                case rel => exact ⟨j + 1, by go_num, by omega, by rw [HT.out, hxy]; rfl, hI, hb⟩
                case measure => simp [intOf]; omega
          · have hjj : j = L.length := by omega
            have HA : Hid ((L.take j).all (fun y => (y == x) || !(bits BinOp.and .i64 x y == y)) = minB L x) := by
              show (L.take j).all (fun y => (y == x) || !(bits BinOp.and .i64 x y == y)) = minB L x
              rw [hjj, List.take_length]; exact minB_same L hsm x hst
            clear hjj
            generalize (L.take j).all (fun y => (y == x) || !(bits BinOp.and .i64 x y == y)) = A at *
            cases A
            · go_wp2
              go_roundw
              case rel => exact ⟨k + 1, by go_num, by omega, by rw [HS.out, ← HA.out]; simpa using hI, hb⟩
              case measure => simp [intOf]; omega
            · obtain ⟨oF, cF, rfl⟩ := hI.shape
              go_wp2_with (first | (go_at_call 183; refine (c_l4Put _ _ _ _ _ _ (by omega) hI hb.size).mono ?_; rintro e w1 ⟨v1, rfl, hI1, hbn⟩; replace hb := bel_to hb hbn; replace hI := hI1; clear hI1 hbn) | fail)
              go_roundw
              case rel => exact ⟨k + 1, by go_num, by omega, by rw [HS.out, ← HA.out]; exact hI, hb⟩
              case measure => simp [intOf]; omega
      · have hkk : k = L.length := by omega
        have HF : Hid (flt (fun y => inB' (L.take k) y && minB L y) 32 = flt (fun y => inB' L y && minB L y) 32) := by
          show flt (fun y => inB' (L.take k) y && minB L y) 32 = flt (fun y => inB' L y && minB L y) 32
          rw [hkk, List.take_length]
        clear hkk
        go_wp2
        go_ret
        exact ⟨_, rfl, by rw [HM.out, ← HF.out]; exact hI, hb⟩
end Go.Proofs.Ytjbmpnbfiahdhaa
namespace Go.Proofs.Ytjbmpnbfiahdhaa
open Go.RowKit Go.Shelf Go.Lib Go.Sort
set_option linter.unusedVariables false
set_option maxRecDepth 100000

def pcN (x : Nat) : Nat := ((List.range 5).filter fun c => x.testBit c).length
def cfN (x y : Nat) : Int := if (pcN x : Int) = pcN y then (x : Int) - y else (pcN x : Int) - pcN y
theorem pcN_le (x : Nat) : pcN x ≤ 5 := by
  have := List.length_filter_le (fun c => x.testBit c) (List.range 5)
  simpa [pcN] using this
theorem u64_small : ∀ x < 32, IntKind.u64.wrap ((x : Nat) : Int) = ((x : Nat) : Int) := by decide +kernel
theorem c_OnesCount64 (x : Nat) (hx : x < 32) (w : World) : Calls Try.prog 214 #[.int .u64 x] w fun e w' => e = .returned (.int .i64 (pcN x)) ∧ w' = w := by
  go_enter Try.func214, Try.ntmps214
  go_wp2
  go_ret
  refine ⟨ret_int ?_, rfl⟩
  clear w
  revert x
  decide +kernel
theorem c_OnesCount (x : Nat) (hx : x < 32) (w : World) : Calls Try.prog 196 #[.int .u64 x] w fun e w' => e = .returned (.int .i64 (pcN x)) ∧ w' = w := by
  go_enter Try.func196, Try.ntmps196
  go_wp2_with (first | (go_at_call 214; refine (c_OnesCount64 x hx _).mono ?_; rintro e w' ⟨rfl, rfl⟩))
  go_ret
  exact ⟨rfl, rfl⟩
theorem c_compareSets (x y : Nat) (hx : x < 32) (hy : y < 32) (w : World) : Calls Try.prog 186 #[.int .i64 x, .int .i64 y] w fun e w' => e = .returned (.int .i64 (cfN x y)) ∧ w' = w := by
  have hwx := u64_small x hx
  have hwy := u64_small y hy
  have px := pcN_le x
  have py := pcN_le y
  by_cases h : (pcN x : Int) = pcN y
  · have hc : cfN x y = (x : Int) - y := by unfold cfN; rw [if_pos h]
    have hne : ((pcN x : Int) != pcN y) = false := by simp [h]
    rw [hc]
    have HH : Hid ((pcN x : Int) = pcN y) := h
    clear h hc
    have hq : True := trivial
    go_enter Try.func186, Try.ntmps186
    go_wp2_with (first | (clear hq; go_at_call 196; refine (c_OnesCount x hx _).mono ?_; rintro e w' ⟨rfl, rfl⟩) | (go_at_call 196; refine (c_OnesCount y hy _).mono ?_; rintro e w' ⟨rfl, rfl⟩))
    go_ret
    exact ⟨rfl, rfl⟩
  · have hc : cfN x y = (pcN x : Int) - pcN y := by unfold cfN; rw [if_neg h]
    have hne : ((pcN x : Int) != pcN y) = true := by simp; omega
    rw [hc]
    clear h hc
    have hq : True := trivial
    go_enter Try.func186, Try.ntmps186
    go_wp2_with (first | (clear hq; go_at_call 196; refine (c_OnesCount x hx _).mono ?_; rintro e w' ⟨rfl, rfl⟩) | (go_at_call 196; refine (c_OnesCount y hy _).mono ?_; rintro e w' ⟨rfl, rfl⟩))
    go_ret
    exact ⟨rfl, rfl⟩

def fvS (x : Fin 32) : Value := .int .i64 (x.val : Int)
def cfS (x y : Fin 32) : Int := cfN x.val y.val
theorem ltS (x y : Fin 32) : ltOf cfS x y = decide (pcN x.val < pcN y.val ∨ (pcN x.val = pcN y.val ∧ x.val < y.val)) := by
  unfold ltOf cfS cfN
  rw [decide_eq_decide]
  split
  · next h => constructor <;> intro h' <;> omega
  · next h => constructor <;> intro h' <;> omega
theorem swoS : SWO (ltOf cfS) where
  irrefl x := by rw [ltS]; simp
  trans x y z h1 h2 := by rw [ltS] at *; simp only [decide_eq_true_eq] at *; omega
  ntrans x y z h1 h2 := by rw [ltS] at *; simp only [decide_eq_false_iff_not] at *; omega
theorem totS (x y : Fin 32) (h1 : ltOf cfS x y = false) (h2 : ltOf cfS y x = false) : x = y := by
  rw [ltS] at *
  simp only [decide_eq_false_iff_not] at *
  exact Fin.ext (by omega)
def sortS (L : List (Fin 32)) : List (Fin 32) := L.mergeSort fun x y => !(ltOf cfS) y x
def valS (L : List (Fin 32)) : List Int := L.map fun x => (x.val : Int)
theorem cmpS (blk off size : Nat) (w : World) : CmpLays1 Try.prog 186 #[] fvS cfS blk off size w :=
  fun m os dk hs x y => (c_compareSets x.val y.val x.isLt y.isLt _).mono fun e w' ⟨he, hw⟩ => ⟨he, 0, #[], by rw [hw, grow_empty]; rfl⟩
theorem putRow_fin (w : World) (g : Nat) (L : List (Fin 32)) : putRow fvS w g 0 L.toArray = putRow (Value.int .i64) w g 0 (valS L).toArray := by
  unfold putRow
  congr 1
  funext c
  unfold putCells valS
  congr 1
  funext k x
  by_cases h : k < L.length
  · rw [if_pos (by simp; omega), if_pos (by simp; omega), getElem!_pos _ _ (by simp; omega), getElem!_pos _ _ (by simp; omega)]
    simp [fvS]
  · rw [if_neg (by simp; omega), if_neg (by simp; omega)]
theorem c_SortParts (oa) (cap base : Nat) (L : List (Fin 32)) (w : World) (hL : L.length ≤ Room) (h0 : L ≠ []) (h : OwnI w base (.slice oa (valS L).length cap) (valS L)) :
    Calls Try.prog 185 #[.slice oa L.length cap, .func (.func 186) #[] #[]] w fun e w' => e = .returned (.tuple #[]) ∧ OwnI w' base (.slice oa L.length cap) (valS (sortS L)) ∧ w.grownBy w' (Value.slice oa L.length cap).ownBlock := by
  have hl : (valS L).length = L.length := by simp [valS]
  have hs : (valS (sortS L)).length = (valS L).length := by simp [valS, sortS, List.length_mergeSort]
  unfold Room at hL
  rcases h.2 with ⟨hv, hn⟩ | ⟨g, c, cur, hv, hbase, hb, h1, h2, h3, h4⟩
  · exact absurd (List.eq_nil_of_length_eq_zero (by omega)) h0
  · simp only [Value.slice.injEq] at hv
    obtain ⟨rfl, _, rfl⟩ := hv
    have hg : g < w.heap.size := (Array.getElem?_eq_some_iff.1 hb).1
    have hH : Holds fvS w g 0 L.toArray := by
      intro j hj
      have hj : j < L.length := by simpa using hj
      have hc := h.cell rfl j (by omega)
      refine ⟨?_, by rw [Nat.zero_add]; exact hc.2⟩
      rw [Nat.zero_add, hc.1, getElem!_pos _ _ (by simpa using hj)]
      simp [fvS, nth, valS, List.getD, hj]
    have eg : ∀ args w, (callFunc 186 args).run Try.prog w = .ok (.enter 186 args) w := enters_of Try.func186 (by kernel_rfl) rfl
    have hcon := Try.slices_SortFunc_total fvS (fun _ => rfl) cfS swoS 186 #[] g 0 cap L.toArray w eg (cmpS _ _ _ _) hH hg (by simp; omega) totS
    simp only [List.size_toArray] at hcon
    refine hcon.mono fun e w' ⟨he, n, os, hw⟩ => ⟨he, ?_, ?_⟩
    · have e1 : sortWorld fvS w g 0 n (L.toArray.toList.mergeSort fun x y => !(ltOf cfS) y x).toArray os = Go.Sort.grow (putRow (Value.int .i64) (Go.Sort.ahead w n) g 0 (valS (sortS L)).toArray) os := by
        unfold sortWorld
        rw [← putRow_fin]
        rfl
      rw [hw, e1]
      have := ownsRow_sortedI (n := n) (os := os) (ts := valS (sortS L)) hs hbase hb h1 h2 h3
      unfold OwnI
      rw [hs]
      rw [hl] at this ⊢
      exact this
    · have e1 : sortWorld fvS w g 0 n (L.toArray.toList.mergeSort fun x y => !(ltOf cfS) y x).toArray os = Go.Sort.grow (putRow (Value.int .i64) (Go.Sort.ahead w n) g 0 (valS (sortS L)).toArray) os := by
        unfold sortWorld
        rw [← putRow_fin]
        rfl
      rw [hw, e1]
      exact grownBy_sortedI _

def finsB (k : Nat) : List (Fin 32) := (List.range k).map fun i => Fin.ofNat 32 i
theorem flt_fin : ∀ N < 33, flt (fun _ => true) N = valS (finsB N) := by decide +kernel
def partsF (n : Int) : List Int := if 0 ≤ n ∧ n ≤ 5 then valS (sortS (finsB (2 ^ n.toNat))) else []
theorem partsF_mem {n : Int} (h0 : 0 ≤ n) (h5 : n ≤ 5) {x : Int} : x ∈ partsF n ↔ 0 ≤ x ∧ x < 2 ^ n.toNat := by
  have hp := pow_nat h0 h5
  unfold partsF
  rw [if_pos ⟨h0, h5⟩]
  have e : x ∈ valS (sortS (finsB (2 ^ n.toNat))) ↔ x ∈ valS (finsB (2 ^ n.toNat)) := by
    unfold valS sortS
    rw [List.mem_map, List.mem_map]
    constructor
    · rintro ⟨y, hy, e⟩; exact ⟨y, (List.mergeSort_perm _ _).mem_iff.1 hy, e⟩
    · rintro ⟨y, hy, e⟩; exact ⟨y, (List.mergeSort_perm _ _).mem_iff.2 hy, e⟩
  rw [e, ← flt_fin _ (by omega), flt_mem, hp.1]
  simp
theorem partsF_len (n : Int) : (partsF n).length ≤ 32 := by
  unfold partsF
  split
  · next h =>
    have hp := pow_nat h.1 h.2
    simp [valS, sortS, List.length_mergeSort, finsB]
    exact hp.2.1
  · simp
set_option maxHeartbeats 400000 in
theorem c_PartsBySize (n : Int) (w : World) :
    Calls Try.prog 149 #[.int .i64 n] w fun e w' => ∃ v, e = .returned v ∧ OwnI w' w.heap.size v (partsF n) ∧ Below w.heap.size w w' := by
  obtain ⟨i0, hi, hz0, hz1, hz2⟩ := info_parts info_int
  have hb := (Below.refl w.heap.size w).alloc (Nat.le_refl _) (.cells #[] 3)
  have hI := OwnI.empty w w.heap.size (Nat.le_refl _)
  by_cases h0 : 0 ≤ n
  case neg =>
    have HM : Hid (partsF n = []) := by show partsF n = []; unfold partsF; rw [if_neg (by omega)]
    go_enter Try.func149, Try.ntmps149
    go_wp2
    go_ret
    exact ⟨_, rfl, by rw [HM.out]; exact hI, hb⟩
  by_cases h5 : n ≤ 5
  case neg =>
    have HM : Hid (partsF n = []) := by show partsF n = []; unfold partsF; rw [if_neg (by omega)]
    go_enter Try.func149, Try.ntmps149
    go_wp2
    go_ret
    exact ⟨_, rfl, by rw [HM.out]; exact hI, hb⟩
  have HM : Hid (partsF n = valS (sortS (finsB (2 ^ n.toNat)))) := by show partsF n = _; unfold partsF; rw [if_pos ⟨h0, h5⟩]
  have hp := (pow_wrap h0 h5).1
  obtain ⟨hp1, hp2, hp3⟩ := pow_nat h0 h5
  generalize hQ : (2 : Nat) ^ n.toNat = N at *
  have hp4 : wrap64 (2 ^ n.toNat) = N := by rw [hp, ← hp1]
  clear hp hp1 hQ
  go_enter Try.func149, Try.ntmps149
  go_wp2
  go_loopw [3, 4] (fun v i wr => ∃ k : Nat, i = .int .i64 k ∧ k ≤ N ∧ OwnI wr w.heap.size v (flt (fun _ => true) k) ∧ Below w.heap.size w wr) (fun _ i _ => N - (intOf i).toNat)
  case atStart => exact ⟨0, rfl, Nat.zero_le _, hI, hb⟩
  case round =>
    clear hI hb
    obtain ⟨k, rfl, hk, hI, hb⟩ := hrel
    have HS : Hid (flt (fun _ => true) (k + 1) = flt (fun _ => true) k ++ [(k : Int)]) := by show flt (fun _ => true) (k + 1) = flt (fun _ => true) k ++ [(k : Int)]; rw [flt_succ]; simp
    have hle := flt_le (fun _ => true) k
    by_cases hlt : k < N
    · go_wp2_with (first | (at_builtin; refine wpList_append_own _ rfl _ _ 68 rfl w.heap.size 3 i0 (.int .i64 0) 1 8 Try.underlying68 hi hz0 hz1 hz2 rfl (by decide) _ _ _ rfl (World.ownsRow.alloc hI _) _ 1 1 [.int .i64 ((k : Int))] rfl rfl (by intro j u hj; match j, hj with | 0, hj => simp at hj; subst hj; simp [Addr.add]) (by intro u hu; simp at hu; subst hu; rfl) (by unfold maxLen; omega) (by omega) (by have := hb.size; simp; omega) ?_; intro v' w1 hown hgrow _; replace hb := (hb.alloc hb.size _).grown hgrow (by have := hb.size; simp; omega) (fun g hg => (World.ownsRow.lt hI g hg).1); replace hI := OwnI.snoc hown; clear hown hgrow) | fail)
      go_roundw
      case rel => exact ⟨k + 1, by go_num, by omega, by rw [HS.out]; exact hI, hb⟩
      case measure => simp [intOf]; omega
    · have hkk : k = N := by omega
      have HF : Hid (flt (fun _ => true) k = valS (finsB N)) := by show flt (fun _ => true) k = valS (finsB N); rw [hkk]; exact flt_fin N (by omega)
      rw [HF.out] at hI
      have hfl : (finsB N).length = N := by simp [finsB]
      have hne : finsB N ≠ [] := by intro e; rw [e] at hfl; simp at hfl; omega
      have hr : (finsB N).length ≤ Room := by rw [hfl]; unfold Room; omega
      have HL : Hid ((valS (finsB N)).length = (finsB N).length) := by show (valS (finsB N)).length = (finsB N).length; simp [valS]
      clear hkk hle HS HF hfl
      obtain ⟨oF, cF, e1⟩ := hI.shape
      rw [HL.out] at e1
      subst e1
      have hI' : OwnI wr w.heap.size (.slice oF (valS (finsB N)).length cF) (valS (finsB N)) := by rw [HL.out]; exact hI
      go_wp2_with fail
      refine (c_SortParts _ _ _ _ _ hr hne hI').mono ?_
      rintro e w1 ⟨rfl, hR, hg⟩
      replace hb := hb.grown hg hb.size (fun g hk => (World.ownsRow.lt hI g hk).1)
      clear hg hI hI'
      go_wp2
      go_ret
      exact ⟨_, rfl, by rw [HM.out]; exact hR, hb⟩
end Go.Proofs.Ytjbmpnbfiahdhaa
namespace Go.Proofs.Ytjbmpnbfiahdhaa
open Go.RowKit
set_option linter.unusedVariables false
set_option maxRecDepth 100000

/-- x is maximal in L -/
def maxB (L : List Int) (x : Int) : Bool := L.all fun y => (x == y) || !ins x y
def maxF (L : List Int) : List Int := if setsF L && decide (L.length ≤ 100) then flt (fun x => inB' L x && maxB L x) 32 else []
theorem maxF_sets {L : List Int} (h : setsF L = true) (hl : L.length ≤ 100) : maxF L = flt (fun x => inB' L x && maxB L x) 32 := by
  unfold maxF; rw [h]; simp [hl]
theorem maxF_filter {L : List Int} (h : setsF L = true) (hl : L.length ≤ 100) : maxF L = (distinctF L).filter (maxB L) := by
  rw [maxF_sets h hl, distinctF_flt (setsF_mem h), flt_filter]
theorem maxF_len (L : List Int) : (maxF L).length ≤ 32 := by
  unfold maxF
  split
  · exact flt_le _ _
  · simp
theorem maxF_st {L : List Int} : ∀ x ∈ maxF L, St x := by
  unfold maxF
  split
  · intro x hx; have := (flt_mem.1 hx).1; exact ⟨by omega, by omega⟩
  · intro x hx; cases hx
theorem maxB_same (L : List Int) (h : ∀ x ∈ L, St x) (x : Int) (hx : St x) : (L.all fun y => (y == x) || !(bits BinOp.and .i64 x y == x)) = maxB L x := by
  unfold maxB
  rw [Bool.eq_iff_iff, List.all_eq_true, List.all_eq_true]
  have e : ∀ y ∈ L, ((y == x) || !(bits BinOp.and .i64 x y == x)) = ((x == y) || !ins x y) := fun y hy => by
    obtain ⟨n, hn, rfl⟩ := st_nat hx; obtain ⟨m, hm, rfl⟩ := st_nat (h y hy)
    have h' : ∀ n < 32, ∀ m < 32, ((((m : Nat) : Int) == ((n : Nat) : Int)) || !(bits BinOp.and .i64 ((n : Nat) : Int) ((m : Nat) : Int) == ((n : Nat) : Int))) = ((((n : Nat) : Int) == ((m : Nat) : Int)) || !ins (n : Nat) (m : Nat)) := by decide +kernel
    exact h' n hn m hm
  exact ⟨fun H y hy => by rw [← e y hy]; exact H y hy, fun H y hy => by rw [e y hy]; exact H y hy⟩
theorem max_step {L : List Int} {k : Nat} (hk : k < L.length) (hs : St (nth L k)) :
    flt (fun y => inB' (L.take (k + 1)) y && maxB L y) 32 = (if maxB L (nth L k) then putF (flt (fun y => inB' (L.take k) y && maxB L y) 32) (nth L k) else flt (fun y => inB' (L.take k) y && maxB L y) 32) := by
  have e : ∀ y, inB' (L.take (k + 1)) y = (inB' (L.take k) y || y == nth L k) := fun y => by
    unfold inB'
    rw [List.take_add_one, nth_eq hk]
    simp [Bool.decide_or]
    rfl
  split
  · next h =>
    rw [putF_flt _ hs]
    congr 1
    funext y
    rw [e]
    cases hy : (y == nth L k)
    · simp
    · have : y = nth L k := by simpa using hy
      rw [this, h]; simp
  · next h =>
    congr 1
    funext y
    rw [e]
    cases hy : (y == nth L k)
    · simp
    · have : y = nth L k := by simpa using hy
      rw [this]
      simp only [Bool.not_eq_true] at h
      rw [h]; simp
end Go.Proofs.Ytjbmpnbfiahdhaa
namespace Go.Proofs.Ytjbmpnbfiahdhaa
open Go.RowKit
set_option linter.unusedVariables false
set_option maxRecDepth 100000

theorem c_eqIntS (oa ob) (ca cb : Nat) (L M : List Int) (w : World) (hL : IntsAt w oa L) (hM : IntsAt w ob M) :
    Ans Try.prog 155 #[.slice oa L.length ca, .slice ob M.length cb] w (.bool (decide (L = M))) := by
  unfold Ans
  have hn : L.length ≤ 1073741824 := hL.len
  by_cases hlen : L.length = M.length
  · have hb0 : ((L.length : Int) != (M.length : Int)) = false := bne_false (by omega)
    have HL : Hid (L.length = M.length) := hlen
    have hlm : L.length ≤ M.length := by omega
    clear hlen
    go_enter Try.func155, Try.ntmps155
    go_wp2
    go_loopw [5] (fun i wr => ∃ k : Nat, i = .int .i64 k ∧ k ≤ L.length ∧ (∀ j, j < k → nth L j = nth M j) ∧ Below w.heap.size w wr) (fun i _ => L.length - (intOf i).toNat)
    case atStart => exact ⟨0, rfl, Nat.zero_le _, fun j hj => absurd hj (by omega), Below.refl _ _⟩
    case round =>
      obtain ⟨k, rfl, hk, hall, hb⟩ := hrel
      have HA : Hid (∀ j, j < k → nth L j = nth M j) := hall
      clear hall
      by_cases hlt : k < L.length
      · obtain ⟨b, off, rfl, hbs, hc⟩ := hL.at_ (by omega)
        obtain ⟨b', off', rfl, hbs', hc'⟩ := hM.at_ (by omega)
        have hc1 := cell_keep (hc k hlt) hb
        have hc2 := cell_keep (hc' k (by omega)) hb
        clear hc hc'
        by_cases he : nth L k = nth M k
        · have hne := bne_false he
          have HE : Hid (nth L k = nth M k) := he
          clear he
          go_wp2_with fail
          (refine wp_region_after (by kernel_rfl) (by kernel_rfl) ?_; have q_hc1 := fun (x : After _) => cell_keep hc1 x.bel; have q_hc2 := fun (x : After _) => cell_keep hc2 x.bel; (repeat (go_big_quiet_step (fail))); clear q_hc1; clear q_hc2; refine wpQuiet_nil ?_; rintro _ ⟨⟨w1, hbn⟩, rfl⟩; (try simp only [After.w]); replace hc1 := cell_keep hc1 hbn; replace hc2 := cell_keep hc2 hbn; replace hb := bel_to (w := w) (by first | exact hb | exact hb.alloc hb.size _ | exact (hb.alloc hb.size _).alloc (Nat.le_trans hb.size (by simp)) _ | exact hb.setCell (by simp [hb.size]) _) hbn; clear hbn)
          go_wp2
          go_roundw
          case rel => exact ⟨k + 1, by go_num, by omega, lt_step HA.out HE.out, hb⟩
          case measure => simp [intOf]; omega
        · have hne := bne_true he
          go_wp2_with fail
          (refine wp_region_after (by kernel_rfl) (by kernel_rfl) ?_; have q_hc1 := fun (x : After _) => cell_keep hc1 x.bel; have q_hc2 := fun (x : After _) => cell_keep hc2 x.bel; (repeat (go_big_quiet_step (fail))); clear q_hc1; clear q_hc2; refine wpQuiet_nil ?_; rintro _ ⟨⟨w1, hbn⟩, rfl⟩; (try simp only [After.w]); replace hc1 := cell_keep hc1 hbn; replace hc2 := cell_keep hc2 hbn; replace hb := bel_to (w := w) (by first | exact hb | exact hb.alloc hb.size _ | exact (hb.alloc hb.size _).alloc (Nat.le_trans hb.size (by simp)) _ | exact hb.setCell (by simp [hb.size]) _) hbn; clear hbn)
          go_wp2
          go_ret
          exact ⟨ret_bool (by symm; rw [decide_eq_false_iff_not]; intro e; exact he (by rw [e])), hb⟩
      · have hkk : k = L.length := by omega
        have HK := Hid (k = L.length)
        clear hkk
        go_wp2
        go_ret
        exact ⟨ret_bool (by symm; rw [decide_eq_true_iff]; exact list_ext HL.out fun j hj => HA.out j (by omega)), hb⟩
  · have hb0 : ((L.length : Int) != (M.length : Int)) = true := bne_true (by omega)
    go_enter Try.func155, Try.ntmps155
    go_wp2
    go_ret
    exact ⟨ret_bool (by symm; rw [decide_eq_false_iff_not]; intro e; exact hlen (by rw [e])), Below.refl _ _⟩
theorem c_toIntS (oa) (ca : Nat) (L : List Int) (w : World) (hL : IntsAt w oa L) :
    Calls Try.prog 160 #[.slice oa L.length ca] w fun e w' => ∃ v, e = .returned v ∧ OwnI w' w.heap.size v L ∧ Below w.heap.size w w' := by
  have hn : L.length ≤ 1073741824 := hL.len
  obtain ⟨i0, hi, hz0, hz1, hz2⟩ := info_parts info_int
  go_enter Try.func160, Try.ntmps160
  go_wp2_with (first | (at_make; refine wpList_make_full _ rfl _ _ 68 rfl w.heap.size 3 i0 (.int .i64 0) 1 Try.underlying68 hi hz0 hz1 .i64 .i64 _ _ L.length rfl rfl rfl rfl (by rw [hz2]; omega) (by unfold maxLen; omega) (Nat.le_refl _) ?_; intro w1 hown hgrow))
  have hI := ownI_made hown
  have hb1 : Below w.heap.size w w1 := below_grown hgrow (Nat.le_refl _) (by simp)
  clear hown hgrow hi hz0 hz1 hz2 i0
  go_loopw [4] (fun i wr => ∃ (k : Nat) (M : List Int), i = .int .i64 k ∧ k ≤ L.length ∧ M.length = L.length ∧ (∀ j, j < k → nth M j = nth L j) ∧
      OwnI wr w.heap.size (.slice (some ⟨w.heap.size, 0, none⟩) L.length L.length) M ∧ Below w.heap.size w wr) (fun i _ => L.length - (intOf i).toNat)
  case atStart => exact ⟨0, _, rfl, Nat.zero_le _, by simp, fun j hj => absurd hj (by omega), hI, hb1⟩
  case round =>
    clear hI hb1
    obtain ⟨k, M, rfl, hk, hM, hall, hI, hb⟩ := hrel
    have HM : Hid (M.length = L.length) := hM
    have HA : Hid (∀ j, j < k → nth M j = nth L j) := hall
    clear hall hM
    by_cases hlt : k < L.length
    · obtain ⟨b, off, rfl, hbs, hc⟩ := hL.at_ (by omega)
      have hc1 := cell_keep (hc k hlt) hb
      obtain ⟨hg1, hg2⟩ := hI.cell HM.out.symm k hlt
      have hI2 := hI.store HM.out.symm k (nth L k)
      have HI2 := (show Hid _ from hI2)
      clear hc hI2
      go_wp2
      go_roundw
      case rel =>
        refine ⟨k + 1, M.set k (nth L k), by go_num, by omega, by rw [List.length_set]; exact HM.out, ?_, HI2.out, hb.setCell (Nat.le_refl _) _⟩
        intro j hj
        rw [nth_set (by have := HM.out; omega)]
        split
        · next h => rw [h]
        · exact HA.out j (by omega)
      case measure => simp [intOf]; omega
    · have hkk : k = L.length := by omega
      have HK : Hid (k = L.length) := hkk
      clear hkk
      go_wp2
      go_ret
      have : M = L := list_ext HM.out fun j hj => HA.out j (by have := HM.out; have := HK.out; omega)
      subst this
      exact ⟨_, rfl, hI, hb⟩
end Go.Proofs.Ytjbmpnbfiahdhaa
namespace Go.Proofs.Ytjbmpnbfiahdhaa
open Go.RowKit
set_option linter.unusedVariables false
set_option maxRecDepth 100000

def row (R : List (List Int)) (k : Nat) : List Int := R.getD k []
theorem row_eq {R : List (List Int)} {k : Nat} (h : k < R.length) : R[k]? = some (row R k) := by simp [row, List.getD, h]
theorem row_mem {R : List (List Int)} {k : Nat} (h : k < R.length) : row R k ∈ R := List.mem_iff_getElem?.2 ⟨k, row_eq h⟩
structure RowsAt (w : World) (oa : Option Addr) (R : List (List Int)) : Prop where
  len : R.length ≤ Room
  at_ : 0 < R.length → ∃ b off, oa = some ⟨b, off, none⟩ ∧ b < w.heap.size ∧ ∀ k, k < R.length → ∃ o c, w.cell? ⟨b, off + k, none⟩ = some (.slice o (row R k).length c) ∧ IntsAt w o (row R k)
theorem RowsAt.keep {w w' : World} {oa : Option Addr} {R : List (List Int)} (h : RowsAt w oa R) (hb : Below w.heap.size w w') : RowsAt w' oa R :=
  ⟨h.len, fun h0 => by
    obtain ⟨b, off, e, hlt, hc⟩ := h.at_ h0
    exact ⟨b, off, e, Nat.lt_of_lt_of_le hlt hb.size, fun k hk => by
      obtain ⟨o, c, h1, h2⟩ := hc k hk
      exact ⟨o, c, cell_keep h1 hb, h2.keep hb⟩⟩⟩
/-- An argument that came in: its length, the lengths of its lists. -/
structure RowsIn (w : World) (oa : Option Addr) (n : Nat) (Ln : Nat → Nat) : Prop where
  len : n ≤ maxLen
  rows : 0 < n → ∃ b off, oa = some ⟨b, off, none⟩ ∧ b < w.heap.size ∧ ∀ r, r < n → Ln r ≤ maxLen ∧ ∃ o c, w.cell? ⟨b, off + r, none⟩ = some (.slice o (Ln r) c) ∧ (Ln r ≤ Room → ∃ L : List Int, L.length = Ln r ∧ IntsAt w o L)
theorem RowsIn.read {w : World} {oa : Option Addr} {n : Nat} {Ln : Nat → Nat} (h : RowsIn w oa n Ln) (hn : n ≤ Room) (hL : ∀ r, r < n → Ln r ≤ Room) : ∃ R : List (List Int), R.length = n ∧ RowsAt w oa R := by
  rcases Nat.eq_zero_or_pos n with h0 | h0
  · exact ⟨[], by simp [h0], by simp, fun h => absurd h (by simp)⟩
  · obtain ⟨b, off, e, hb, hr⟩ := h.rows h0
    have each : ∀ r, r < n → ∃ L : List Int, L.length = Ln r ∧ ∃ o c, w.cell? ⟨b, off + r, none⟩ = some (.slice o (Ln r) c) ∧ IntsAt w o L := fun r hrn => by
      obtain ⟨_, o, c, h1, h2⟩ := hr r hrn
      obtain ⟨L, h3, h4⟩ := h2 (hL r hrn)
      exact ⟨L, h3, o, c, h1, h4⟩
    have hch : ∃ f : Nat → List Int, ∀ r, r < n → (f r).length = Ln r ∧ ∃ o c, w.cell? ⟨b, off + r, none⟩ = some (.slice o (Ln r) c) ∧ IntsAt w o (f r) :=
      ⟨fun r => if hr : r < n then Classical.choose (each r hr) else [], fun r hr => by simp only [hr, dif_pos]; exact Classical.choose_spec (each r hr)⟩
    obtain ⟨f, hf⟩ := hch
    refine ⟨(List.range n).map f, by simp, by simpa using hn, fun _ => ⟨b, off, e, hb, fun k hk => ?_⟩⟩
    have hk : k < n := by simpa using hk
    have er : row ((List.range n).map f) k = f k := by simp [row, List.getD, hk]
    obtain ⟨h1, o, c, h2, h3⟩ := hf k hk
    exact ⟨o, c, by rw [er, h1]; exact h2, by rw [er]; exact h3⟩

theorem c_szIntS (oa) (n cap : Nat) (left : Int) (h0 : 0 ≤ left ∧ left ≤ 1048576) (hn : n ≤ maxLen) (w : World) :
    Ans Try.prog 158 #[.slice oa n cap, .int .i64 left] w (.int .i64 (if (n : Int) ≤ left then left - n else -1)) := by
  unfold Ans
  obtain ⟨h1, h2⟩ := h0
  unfold maxLen at hn
  by_cases h : (n : Int) ≤ left
  · have e : (if (n : Int) ≤ left then left - n else -1) = left - n := if_pos h
    rw [e]
    go_enter Try.func158, Try.ntmps158
    go_wp2
    go_ret
    exact ⟨rfl, Below.refl _ _⟩
  · have e : (if (n : Int) ≤ left then left - n else -1) = -1 := if_neg h
    rw [e]
    go_enter Try.func158, Try.ntmps158
    go_wp2
    go_ret
    exact ⟨rfl, Below.refl _ _⟩
theorem c_szIntSS (oa) (n cap : Nat) (Ln : Nat → Nat) (w : World) (h : RowsIn w oa n Ln) :
    Calls Try.prog 88 #[.slice oa n cap, .int .i64 1048576] w fun e w' => (∃ x : Int, e = .returned (.int .i64 x) ∧ (x = -1 ∨ (0 ≤ x ∧ x ≤ 1048576 ∧ n ≤ 1048576 ∧ ∀ r, r < n → Ln r ≤ 1048576))) ∧ Below w.heap.size w w' := by
  have hn := h.len
  unfold maxLen at hn
  by_cases hbig : (1048576 : Int) < n
  · go_enter Try.func88, Try.ntmps88
    go_wp2
    go_ret
    exact ⟨⟨_, rfl, .inl rfl⟩, Below.refl _ _⟩
  go_enter Try.func88, Try.ntmps88
  go_wp2
  go_loopw [1, 5] (fun l i wr => ∃ (x : Int) (k : Nat), l = .int .i64 x ∧ i = .int .i64 k ∧ k ≤ n ∧ 0 ≤ x ∧ x ≤ 1048576 ∧ (∀ r, r < k → Ln r ≤ 1048576) ∧ Below w.heap.size w wr) (fun _ i _ => n - (intOf i).toNat)
  case atStart => exact ⟨_, 0, rfl, rfl, Nat.zero_le _, by omega, by omega, fun r hr => absurd hr (by omega), Below.refl _ _⟩
  case round =>
    obtain ⟨x, k, rfl, rfl, hk, hx0, hx1, hall, hb⟩ := hrel
    have HA : Hid (∀ r, r < k → Ln r ≤ 1048576) := hall
    clear hall
    by_cases hlt : k < n
    · obtain ⟨b, off, rfl, hbs, hc⟩ := h.rows (by omega)
      obtain ⟨hm, o, c, hc0, _⟩ := hc k hlt
      have hc1 := cell_keep hc0 hb
      clear hc hc0
      by_cases hle : (Ln k : Int) ≤ x
      · have e : (if (Ln k : Int) ≤ x then x - Ln k else -1) = x - Ln k := if_pos hle
        go_wp2_with fail
        refine (show Ans _ _ _ _ (.int .i64 (x - Ln k)) from e ▸ c_szIntS _ _ _ _ ⟨hx0, hx1⟩ hm _).mono ?_
        rintro en w1 ⟨rfl, hbn⟩
        replace hb := bel_to hb hbn
        clear hbn e
        go_wp2
        go_roundw
        case rel => exact ⟨x - Ln k, k + 1, rfl, by go_num, by omega, by omega, by omega, lt_step HA.out (by omega), hb⟩
        case measure => simp [intOf]; omega
      · have e : (if (Ln k : Int) ≤ x then x - Ln k else -1) = -1 := if_neg hle
        go_wp2_with fail
        refine (show Ans _ _ _ _ (.int .i64 (-1)) from e ▸ c_szIntS _ _ _ _ ⟨hx0, hx1⟩ hm _).mono ?_
        rintro en w1 ⟨rfl, hbn⟩
        replace hb := bel_to hb hbn
        clear hbn e
        go_wp2
        go_ret
        exact ⟨⟨_, rfl, .inl rfl⟩, hb⟩
    · have hkk : k = n := by omega
      have HK : Hid (k = n) := hkk
      clear hkk
      go_wp2
      go_ret
      exact ⟨⟨_, rfl, .inr ⟨hx0, hx1, by omega, by rw [← HK.out]; exact HA.out⟩⟩, hb⟩

def OwnV (w : World) (base : Nat) (v : Value) (xs : List Value) : Prop := w.ownsRow base 68 1 v xs.length xs
theorem OwnV.keep {w w' : World} {base : Nat} {v : Value} {xs : List Value} (h : OwnV w base v xs) (hb : Below w.heap.size w w') : OwnV w' base v xs := owns_keep h hb
theorem ownV_made {w : World} {base : Nat} {v : Value} {n : Nat} (h : w.ownsRow base 68 1 v n (madeCells (Value.cells (.slice none 0 0)) (n * 1)).toList) : OwnV w base v (List.replicate n (.slice none 0 0)) := by
  have e : (madeCells (Value.cells (.slice none 0 0)) (n * 1)).toList = List.replicate n (.slice none 0 0) := by
    rw [Nat.mul_one]
    have : (Value.cells (.slice none 0 0)) = #[Value.slice none 0 0] := rfl
    rw [this, toList_madeCells_one]
  rw [e] at h
  unfold OwnV
  rw [List.length_replicate]
  exact h
theorem OwnV.cell {w : World} {base g n cap : Nat} {xs : List Value} (h : OwnV w base (.slice (some ⟨g, 0, none⟩) n cap) xs) (hn : n = xs.length) (j : Nat) (hj : j < n) :
    w.cell? ⟨g, j, none⟩ = xs[j]? ∧ w.frozen? ⟨g, j, none⟩ = false := by
  subst hn
  exact ⟨h.cellAt j (by omega), h.frozenAt j⟩
theorem OwnV.store {w : World} {base g n cap : Nat} {xs : List Value} (h : OwnV w base (.slice (some ⟨g, 0, none⟩) n cap) xs) (hn : n = xs.length) (j : Nat) (u : Value) (hu : u.oneCell' = true) :
    OwnV (w.setCell ⟨g, j, none⟩ u) base (.slice (some ⟨g, 0, none⟩) n cap) (xs.set j u) := by
  subst hn
  unfold OwnV
  rw [List.length_set]
  exact (h.stored j u).1
theorem info_ints : (Try.prog.info? 68).map (fun i => (i.zero, i.size, i.bytes)) = some (some (.slice none 0 0), 1, 24) := by kernel_rfl
def Off (o : Option Addr) (g : Nat) : Prop := ∀ b off s, o = some ⟨b, off, s⟩ → g < b
theorem cell_far {w : World} {a a' : Addr} {u v : Value} (h : w.cell? a = some v) (hne : a.block ≠ a'.block) : (w.setCell a' u).cell? a = some v :=
  (World.cell?_of_block (Below.heap_setCell w a' u a.block hne)).trans h
theorem IntsAt.far {w : World} {o : Option Addr} {L : List Int} {g j : Nat} {u : Value} (h : IntsAt w o L) (ho : Off o g) : IntsAt (w.setCell ⟨g, j, none⟩ u) o L :=
  ⟨h.len, fun h0 => by
    obtain ⟨b, off, e, hlt, hc⟩ := h.at_ h0
    exact ⟨b, off, e, Nat.lt_of_lt_of_le hlt (grown_set w g j u).size, fun k hk => cell_far (hc k hk) (by have := ho b off none e; simp; omega)⟩⟩
theorem off_new {w : World} {base g n c : Nat} {o : Option Addr} {e : TypeId} {xs : List Value} (h : w.ownsRow base e 1 (.slice o n c) n xs) (hg : g < base) : Off o g := by
  intro b off s e
  subst e
  have := (World.ownsRow.lt h b rfl).1
  omega

/-- A list of lists whose blocks all lie from block B on. -/
structure RowsNew (w : World) (B : Nat) (oa : Option Addr) (R : List (List Int)) : Prop where
  len : R.length ≤ Room
  at_ : 0 < R.length → ∃ b off, oa = some ⟨b, off, none⟩ ∧ B ≤ b ∧ b < w.heap.size ∧ ∀ k, k < R.length → ∃ o c, w.cell? ⟨b, off + k, none⟩ = some (.slice o (row R k).length c) ∧ IntsAt w o (row R k) ∧ Off o B
theorem RowsNew.rows {w : World} {B : Nat} {oa : Option Addr} {R : List (List Int)} (h : RowsNew w B oa R) : RowsAt w oa R :=
  ⟨h.len, fun h0 => by
    obtain ⟨b, off, e, _, hlt, hc⟩ := h.at_ h0
    exact ⟨b, off, e, hlt, fun k hk => by
      obtain ⟨o, c, h1, h2, _⟩ := hc k hk
      exact ⟨o, c, h1, h2⟩⟩⟩
theorem RowsNew.far {w : World} {B : Nat} {oa : Option Addr} {R : List (List Int)} (h : RowsNew w B oa R) {g : Nat} (j : Nat) (u : Value) (hg : g < B) : RowsNew (w.setCell ⟨g, j, none⟩ u) B oa R :=
  ⟨h.len, fun h0 => by
    obtain ⟨b, off, e, hB, hlt, hc⟩ := h.at_ h0
    exact ⟨b, off, e, hB, Nat.lt_of_lt_of_le hlt (grown_set w g j u).size, fun k hk => by
      obtain ⟨o, c, h1, h2, h3⟩ := hc k hk
      exact ⟨o, c, cell_far h1 (by simp; omega), h2.far (fun b off s e => by have := h3 b off s e; omega), h3⟩⟩⟩
set_option maxHeartbeats 800000 in
theorem c_toIntSS (oa) (ca : Nat) (R : List (List Int)) (w : World) (hR : RowsAt w oa R) :
    Calls Try.prog 91 #[.slice oa R.length ca] w fun e w' => ∃ o c, e = .returned (.slice o R.length c) ∧ RowsNew w' w.heap.size o R ∧ Below w.heap.size w w' := by
  have hn : R.length ≤ 1073741824 := hR.len
  obtain ⟨i0, hi, hz0, hz1, hz2⟩ := info_parts info_ints
  go_enter Try.func91, Try.ntmps91
  go_wp2_with (first | (at_make; refine wpList_make_full _ rfl _ _ 24 rfl w.heap.size 68 i0 (.slice none 0 0) 1 Try.underlying24 hi hz0 hz1 .i64 .i64 _ _ R.length rfl rfl rfl rfl (by rw [hz2]; omega) (by unfold maxLen; omega) (Nat.le_refl _) ?_; intro w1 hown hgrow))
  have hI := ownV_made hown
  have hb1 : Below w.heap.size w w1 := below_grown hgrow (Nat.le_refl _) (by simp)
  clear hown hgrow hi hz0 hz1 hz2 i0
  go_loopw [4] (fun i wr => ∃ (k : Nat) (xs : List Value), i = .int .i64 k ∧ k ≤ R.length ∧ xs.length = R.length ∧ (∀ j, j < k → ∃ o c, xs[j]? = some (.slice o (row R j).length c) ∧ IntsAt wr o (row R j) ∧ Off o w.heap.size) ∧
      OwnV wr w.heap.size (.slice (some ⟨w.heap.size, 0, none⟩) R.length R.length) xs ∧ Below w.heap.size w wr) (fun i _ => R.length - (intOf i).toNat)
  case atStart => exact ⟨0, _, rfl, Nat.zero_le _, by simp, fun j hj => absurd hj (by omega), hI, hb1⟩
  case round =>
    clear hI hb1
    obtain ⟨k, xs, rfl, hk, hM, hall, hI, hb⟩ := hrel
    have HM : Hid (xs.length = R.length) := hM
    have HA : Hid (∀ j, j < k → ∃ o c, xs[j]? = some (.slice o (row R j).length c) ∧ IntsAt wr o (row R j) ∧ Off o w.heap.size) := hall
    clear hall hM
    by_cases hlt : k < R.length
    · obtain ⟨b, off, rfl, hbs, hc⟩ := hR.at_ (by omega)
      obtain ⟨o, c, hc0, hrow⟩ := hc k hlt
      have hc1 := cell_keep hc0 hb
      have hgl := (World.ownsRow.lt hI w.heap.size rfl).2
      clear hc hc0
      go_wp2_with fail
      refine (c_toIntS _ _ _ _ (hrow.keep hb)).mono ?_
      rintro en w1 ⟨v1, rfl, h1, hbn⟩
      obtain ⟨o1, c1, rfl⟩ := h1.shape
      have hoff := off_new h1 hgl
      have hr1 := h1.ints rfl hrow.len
      replace hI := hI.keep hbn
      replace hb := bel_to hb hbn
      obtain ⟨hg1, hg2⟩ := hI.cell HM.out.symm k hlt
      rw [List.getElem?_eq_getElem (by have := HM.out; omega)] at hg1
      have HI2 := (show Hid _ from hI.store HM.out.symm k (.slice o1 (row R k).length c1) rfl)
      have HB2 := (show Hid _ from Below.setCell (p := (⟨w.heap.size, k, none⟩ : Addr)) hb (Nat.le_refl _) (.slice o1 (row R k).length c1))
      have HR2 : Hid (IntsAt (w1.setCell ⟨w.heap.size, k, none⟩ (.slice o1 (row R k).length c1)) o1 (row R k)) := hr1.far hoff
      have HA2 : Hid (∀ j, j < k → ∃ o c, xs[j]? = some (.slice o (row R j).length c) ∧ IntsAt (w1.setCell ⟨w.heap.size, k, none⟩ (.slice o1 (row R k).length c1)) o (row R j) ∧ Off o w.heap.size) := fun j hj => by
        obtain ⟨o', c', h1', h2', h3'⟩ := HA.out j hj
        exact ⟨o', c', h1', (h2'.keep hbn).far h3', h3'⟩
      have HO : Hid (Off o1 w.heap.size) := hoff
      clear h1 hbn hr1 HA hI hb hoff
      generalize hxk : xs[k]'(by have := HM.out; omega) = xk at hg1
      go_wp2
      go_roundw
      case rel =>
        refine ⟨k + 1, xs.set k (.slice o1 (row R k).length c1), by go_num, by omega, by rw [List.length_set]; exact HM.out, ?_, HI2.out, HB2.out⟩
        refine lt_step (fun j hj => ?_) ⟨o1, c1, ?_, HR2.out, HO.out⟩
        · obtain ⟨o', c', h1', h2', h3'⟩ := HA2.out j hj
          exact ⟨o', c', by rw [List.getElem?_set_ne (by omega)]; exact h1', h2', h3'⟩
        · rw [List.getElem?_set_self (by have := HM.out; omega)]
      case measure => simp [intOf]; omega
    · have hkk : k = R.length := by omega
      have HK : Hid (k = R.length) := hkk
      clear hkk
      go_wp2
      go_ret
      refine ⟨_, _, rfl, ⟨hn, fun h0 => ⟨w.heap.size, 0, rfl, Nat.le_refl _, (World.ownsRow.lt hI w.heap.size rfl).2, fun j hj => ?_⟩⟩, hb⟩
      obtain ⟨o', c', h1', h2', h3'⟩ := HA.out j (by have := HK.out; omega)
      exact ⟨o', c', by rw [Nat.zero_add, (hI.cell HM.out.symm j hj).1]; exact h1', h2', h3'⟩
end Go.Proofs.Ytjbmpnbfiahdhaa
namespace Go.Proofs.Ytjbmpnbfiahdhaa
open Go.RowKit
set_option linter.unusedVariables false
set_option maxRecDepth 100000

def rowOk (n : Int) (L : List Int) : Bool := L.all (fun v => inB v (-1) 40) && ((L.length : Int) == n)
def isTabF (n : Int) (R : List (List Int)) : Bool := R.all (rowOk n) && (decide (1 ≤ n) && decide (n ≤ 5) && decide (R.length ≤ 40))
def modeF (m : Int) : Bool := (m == 0) || (m == 1)
def eqCellF (m a b : Int) : Bool := modeF m && ((a == b) && ((m == 0) || (a != -1)))
def agreeStep (m : Int) (A B : List Int) (x : Int) (c : Nat) : Int := if eqCellF m (nth A c) (nth B c) then uni x (one c) else x
def agreeF (m : Int) (A B : List Int) : Int := (List.range A.length).foldl (agreeStep m A B) 0
theorem rall_take_succ (p : List Int → Bool) (R : List (List Int)) (k : Nat) (hk : k < R.length) : (R.take (k + 1)).all p = ((R.take k).all p && p (row R k)) := by
  rw [List.take_add_one, row_eq hk]; simp
theorem rall_false (p : List Int → Bool) (R : List (List Int)) (k : Nat) (hk : k < R.length) (h : p (row R k) = false) : R.all p = false := by
  rw [List.all_eq_false]
  exact ⟨row R k, row_mem hk, by simp [h]⟩
theorem range_succ_fold {α : Type} (f : α → Nat → α) (z : α) (k : Nat) : (List.range (k + 1)).foldl f z = f ((List.range k).foldl f z) k := by
  rw [List.range_succ, List.foldl_append]; rfl

theorem c_isRow (oa) (cap : Nat) (L : List Int) (n : Int) (w : World) (hL : IntsAt w oa L) :
    Ans Try.prog 144 #[.slice oa L.length cap, .int .i64 n] w (.bool (rowOk n L)) := by
  unfold Ans
  have hn : L.length ≤ 1073741824 := hL.len
  go_enter Try.func144, Try.ntmps144
  go_wp2
  go_loop [9] (fun i => ∃ k : Nat, i = .int .i64 k ∧ k ≤ L.length ∧ (L.take k).all (fun v => inB v (-1) 40) = true) (fun i => L.length - (intOf i).toNat)
  case atStart => exact ⟨0, rfl, Nat.zero_le _, by simp⟩
  case round =>
    obtain ⟨k, rfl, hk, hall⟩ := hrel
    have HA : Hid ((L.take k).all (fun v => inB v (-1) 40) = true) := hall
    clear hall
    by_cases hlt : k < L.length
    · obtain ⟨b, off, rfl, hbs, hc⟩ := hL.at_ (by omega)
      have hc1 := hc k hlt
      have HT : Hid ((L.take (k + 1)).all (fun v => inB v (-1) 40) = ((L.take k).all (fun v => inB v (-1) 40) && inB (nth L k) (-1) 40)) := all_take_succ _ L k hlt
      have HF : Hid (inB (nth L k) (-1) 40 = false → L.all (fun v => inB v (-1) 40) = false) := all_false (fun v => inB v (-1) 40) L k hlt
      clear hc
      generalize nth L k = v at *
      by_cases h1 : v < -1
      · have HX : Hid (inB v (-1) 40 = false) := by show inB v (-1) 40 = false; simp [inB]; omega
        go_wp2
        go_ret
        exact ⟨ret_bool (by unfold rowOk; rw [HF.out HX.out]; rfl), Below.refl _ _⟩
      by_cases h2 : 40 < v
      · have HX : Hid (inB v (-1) 40 = false) := by show inB v (-1) 40 = false; simp [inB]; omega
        go_wp2
        go_ret
        exact ⟨ret_bool (by unfold rowOk; rw [HF.out HX.out]; rfl), Below.refl _ _⟩
      · have HX : Hid (inB v (-1) 40 = true) := by show inB v (-1) 40 = true; simp [inB]; omega
        go_wp2
        go_round
        case rel => exact ⟨k + 1, by go_num, by omega, by rw [HT.out, HA.out, HX.out]; rfl⟩
        case measure => simp [intOf]; omega
    · have hkk : k = L.length := by omega
      have HS : Hid (L.all (fun v => inB v (-1) 40) = true) := by have := HA.out; rw [hkk, List.take_length] at this; exact this
      clear hkk
      go_wp2
      go_ret
      exact ⟨ret_bool (by unfold rowOk; rw [HS.out]; rfl), Below.refl _ _⟩
theorem c_l3Row (oa) (cap : Nat) (L : List Int) (n : Int) (w : World) (hL : IntsAt w oa L) :
    Ans Try.prog 154 #[.slice oa L.length cap, .int .i64 n] w (.bool (rowOk n L)) := by
  unfold Ans
  have hn : L.length ≤ 1073741824 := hL.len
  go_enter Try.func154, Try.ntmps154
  go_wp2
  go_loopw [5] (fun i wr => ∃ k : Nat, i = .int .i64 k ∧ k ≤ L.length ∧ (L.take k).all (fun v => inB v (-1) 40) = true ∧ Below w.heap.size w wr) (fun i _ => L.length - (intOf i).toNat)
  case atStart => exact ⟨0, rfl, Nat.zero_le _, by simp, Below.refl _ _⟩
  case round =>
    obtain ⟨k, rfl, hk, hall, hb⟩ := hrel
    have HA : Hid ((L.take k).all (fun v => inB v (-1) 40) = true) := hall
    clear hall
    by_cases hlt : k < L.length
    · obtain ⟨b, off, rfl, hbs, hc⟩ := hL.at_ (by omega)
      have hc1 := cell_keep (hc k hlt) hb
      have HT : Hid ((L.take (k + 1)).all (fun v => inB v (-1) 40) = ((L.take k).all (fun v => inB v (-1) 40) && inB (nth L k) (-1) 40)) := all_take_succ _ L k hlt
      have HF : Hid (inB (nth L k) (-1) 40 = false → L.all (fun v => inB v (-1) 40) = false) := all_false (fun v => inB v (-1) 40) L k hlt
      clear hc
      generalize nth L k = v at *
      cases hin : inB v (-1) 40
      · go_wp2_with (first | (go_at_call 109; refine Calls.mono (Ans.eqb (c_l1In _ _ _ _) hin) ?_; rintro e w1 ⟨rfl, hbn⟩; replace hb := bel_to (w := w) (by first | exact hb | exact hb.alloc hb.size _ | exact (hb.alloc hb.size _).alloc (Nat.le_trans hb.size (by simp)) _ | exact hb.setCell (by simp [hb.size]) _) hbn; clear hbn))
        go_ret
        exact ⟨ret_bool (by unfold rowOk; rw [HF.out hin]; rfl), hb⟩
      · go_wp2_with (first | (go_at_call 109; refine Calls.mono (Ans.eqb (c_l1In _ _ _ _) hin) ?_; rintro e w1 ⟨rfl, hbn⟩; replace hb := bel_to (w := w) (by first | exact hb | exact hb.alloc hb.size _ | exact (hb.alloc hb.size _).alloc (Nat.le_trans hb.size (by simp)) _ | exact hb.setCell (by simp [hb.size]) _) hbn; clear hbn))
        go_roundw
        case rel => exact ⟨k + 1, by go_num, by omega, by rw [HT.out, HA.out, hin]; rfl, hb⟩
        case measure => simp [intOf]; omega
    · have hkk : k = L.length := by omega
      have HS : Hid (L.all (fun v => inB v (-1) 40) = true) := by have := HA.out; rw [hkk, List.take_length] at this; exact this
      clear hkk
      go_wp2
      go_ret
      exact ⟨ret_bool (by unfold rowOk; rw [HS.out]; rfl), hb⟩
theorem c_isMode (m : Int) (w : World) : Ans Try.prog 92 #[.int .i64 m] w (.bool (modeF m)) := by
  unfold Ans modeF
  go_enter Try.func92, Try.ntmps92
  cases h0 : (m == 0)
  · go_wp2
    go_ret
    exact ⟨rfl, Below.refl _ _⟩
  · go_wp2
    go_ret
    exact ⟨rfl, Below.refl _ _⟩
theorem c_l4Mode (m : Int) (w : World) : Ans Try.prog 159 #[.int .i64 m] w (.bool (modeF m)) := by
  unfold Ans modeF
  go_enter Try.func159, Try.ntmps159
  cases h0 : (m == 0)
  · go_wp2
    go_ret
    exact ⟨rfl, Below.refl _ _⟩
  · go_wp2
    go_ret
    exact ⟨rfl, Below.refl _ _⟩
theorem c_EqualCells (m a b : Int) (w : World) : Ans Try.prog 121 #[.int .i64 m, .int .i64 a, .int .i64 b] w (.bool (eqCellF m a b)) := by
  unfold Ans eqCellF
  have hb := Below.refl w.heap.size w
  go_enter Try.func121, Try.ntmps121
  cases hm : modeF m
  · go_wp2_with (first | (go_at_call 92; refine Calls.mono (Ans.eqb (c_isMode _ _) hm) ?_; rintro e w1 ⟨rfl, hbn⟩; replace hb := bel_to (w := w) (by first | exact hb | exact hb.alloc hb.size _ | exact (hb.alloc hb.size _).alloc (Nat.le_trans hb.size (by simp)) _ | exact hb.setCell (by simp [hb.size]) _) hbn; clear hbn))
    go_ret
    exact ⟨rfl, hb⟩
  · cases hab : (a == b)
    · go_wp2_with (first | (go_at_call 92; refine Calls.mono (Ans.eqb (c_isMode _ _) hm) ?_; rintro e w1 ⟨rfl, hbn⟩; replace hb := bel_to (w := w) (by first | exact hb | exact hb.alloc hb.size _ | exact (hb.alloc hb.size _).alloc (Nat.le_trans hb.size (by simp)) _ | exact hb.setCell (by simp [hb.size]) _) hbn; clear hbn))
      go_ret
      exact ⟨rfl, hb⟩
    · cases h0 : (m == 0)
      · go_wp2_with (first | (go_at_call 92; refine Calls.mono (Ans.eqb (c_isMode _ _) hm) ?_; rintro e w1 ⟨rfl, hbn⟩; replace hb := bel_to (w := w) (by first | exact hb | exact hb.alloc hb.size _ | exact (hb.alloc hb.size _).alloc (Nat.le_trans hb.size (by simp)) _ | exact hb.setCell (by simp [hb.size]) _) hbn; clear hbn))
        go_ret
        exact ⟨rfl, hb⟩
      · go_wp2_with (first | (go_at_call 92; refine Calls.mono (Ans.eqb (c_isMode _ _) hm) ?_; rintro e w1 ⟨rfl, hbn⟩; replace hb := bel_to (w := w) (by first | exact hb | exact hb.alloc hb.size _ | exact (hb.alloc hb.size _).alloc (Nat.le_trans hb.size (by simp)) _ | exact hb.setCell (by simp [hb.size]) _) hbn; clear hbn))
        go_ret
        exact ⟨rfl, hb⟩
theorem c_specEqualCells (m a b : Int) (w : World) : Ans Try.prog 175 #[.int .i64 m, .int .i64 a, .int .i64 b] w (.bool (eqCellF m a b)) := by
  unfold Ans eqCellF
  have hb := Below.refl w.heap.size w
  go_enter Try.func175, Try.ntmps175
  cases hm : modeF m
  · go_wp2_with (first | (go_at_call 159; refine Calls.mono (Ans.eqb (c_l4Mode _ _) hm) ?_; rintro e w1 ⟨rfl, hbn⟩; replace hb := bel_to (w := w) (by first | exact hb | exact hb.alloc hb.size _ | exact (hb.alloc hb.size _).alloc (Nat.le_trans hb.size (by simp)) _ | exact hb.setCell (by simp [hb.size]) _) hbn; clear hbn))
    go_ret
    exact ⟨rfl, hb⟩
  · cases hab : (a == b)
    · go_wp2_with (first | (go_at_call 159; refine Calls.mono (Ans.eqb (c_l4Mode _ _) hm) ?_; rintro e w1 ⟨rfl, hbn⟩; replace hb := bel_to (w := w) (by first | exact hb | exact hb.alloc hb.size _ | exact (hb.alloc hb.size _).alloc (Nat.le_trans hb.size (by simp)) _ | exact hb.setCell (by simp [hb.size]) _) hbn; clear hbn))
      go_ret
      exact ⟨rfl, hb⟩
    · cases h0 : (m == 0)
      · go_wp2_with (first | (go_at_call 159; refine Calls.mono (Ans.eqb (c_l4Mode _ _) hm) ?_; rintro e w1 ⟨rfl, hbn⟩; replace hb := bel_to (w := w) (by first | exact hb | exact hb.alloc hb.size _ | exact (hb.alloc hb.size _).alloc (Nat.le_trans hb.size (by simp)) _ | exact hb.setCell (by simp [hb.size]) _) hbn; clear hbn))
        go_ret
        exact ⟨rfl, hb⟩
      · go_wp2_with (first | (go_at_call 159; refine Calls.mono (Ans.eqb (c_l4Mode _ _) hm) ?_; rintro e w1 ⟨rfl, hbn⟩; replace hb := bel_to (w := w) (by first | exact hb | exact hb.alloc hb.size _ | exact (hb.alloc hb.size _).alloc (Nat.le_trans hb.size (by simp)) _ | exact hb.setCell (by simp [hb.size]) _) hbn; clear hbn))
        go_ret
        exact ⟨rfl, hb⟩
end Go.Proofs.Ytjbmpnbfiahdhaa
namespace Go.Proofs.Ytjbmpnbfiahdhaa
open Go.RowKit
set_option linter.unusedVariables false
set_option maxRecDepth 100000

theorem isTab_of {n : Int} {R : List (List Int)} (h : isTabF n R = true) : 1 ≤ n ∧ n ≤ 5 ∧ R.length ≤ 40 ∧ ∀ k, k < R.length → ((row R k).length : Int) = n := by
  unfold isTabF at h
  simp only [Bool.and_eq_true, decide_eq_true_eq] at h
  refine ⟨h.2.1.1, h.2.1.2, h.2.2, fun k hk => ?_⟩
  have := List.all_eq_true.1 h.1 _ (row_mem hk)
  unfold rowOk at this
  simp only [Bool.and_eq_true, beq_iff_eq] at this
  exact this.2
theorem c_IsTable (n : Int) (oa) (cap : Nat) (R : List (List Int)) (w : World) (hR : RowsAt w oa R) :
    Ans Try.prog 67 #[.agg #[.int .i64 n, .slice oa R.length cap]] w (.bool (isTabF n R)) := by
  unfold Ans
  have hn : R.length ≤ 1073741824 := hR.len
  have hb := (Below.refl w.heap.size w).alloc (Nat.le_refl _) (.cells #[.int .i64 n, .slice oa R.length cap] 26)
  have b0 := box_at w #[.int .i64 n, .slice oa R.length cap] 26 0 _ rfl
  have b1 := box_at w #[.int .i64 n, .slice oa R.length cap] 26 1 _ rfl
  by_cases h1 : n < 1
  · go_enter Try.func67, Try.ntmps67
    go_wp2
    go_ret
    exact ⟨ret_bool (by unfold isTabF; rw [decide_eq_false (show ¬ (1 ≤ n) by omega)]; simp), hb⟩
  by_cases h5 : 5 < n
  · go_enter Try.func67, Try.ntmps67
    go_wp2
    go_ret
    exact ⟨ret_bool (by unfold isTabF; rw [decide_eq_false (show ¬ (n ≤ 5) by omega)]; simp), hb⟩
  by_cases h40 : 40 < R.length
  · go_enter Try.func67, Try.ntmps67
    go_wp2
    go_ret
    exact ⟨ret_bool (by unfold isTabF; rw [decide_eq_false (show ¬ (R.length ≤ 40) by omega)]; simp), hb⟩
  have HB : Hid (∀ b, R.all (rowOk n) = b → isTabF n R = b) := fun b h => by
    unfold isTabF; rw [h, decide_eq_true (show 1 ≤ n by omega), decide_eq_true (show n ≤ 5 by omega), decide_eq_true (show R.length ≤ 40 by omega)]; simp
  go_enter Try.func67, Try.ntmps67
  go_wp2
  go_loopw [22] (fun i wr => ∃ k : Nat, i = .int .i64 k ∧ k ≤ R.length ∧ (R.take k).all (rowOk n) = true ∧ wr.cell? ⟨w.heap.size, 0, none⟩ = some (.int .i64 n) ∧ Below w.heap.size w wr) (fun i _ => R.length - (intOf i).toNat)
  case atStart => exact ⟨0, rfl, Nat.zero_le _, by simp, b0, hb⟩
  case round =>
    clear b0 b1 hb
    obtain ⟨k, rfl, hk, hall, b0, hb⟩ := hrel
    have HA : Hid ((R.take k).all (rowOk n) = true) := hall
    clear hall
    by_cases hlt : k < R.length
    · obtain ⟨b, off, rfl, hbs, hc⟩ := hR.at_ (by omega)
      obtain ⟨o, c, h1', hr⟩ := hc k hlt
      have hc1 := cell_keep h1' hb
      have HT : Hid ((R.take (k + 1)).all (rowOk n) = ((R.take k).all (rowOk n) && rowOk n (row R k))) := rall_take_succ _ R k hlt
      have HF : Hid (rowOk n (row R k) = false → R.all (rowOk n) = false) := rall_false _ R k hlt
      clear hc h1'
      generalize row R k = L at *
      cases hok : rowOk n L
      · go_wp2_with (first | (go_at_call 144; refine Calls.mono (Ans.eqb (c_isRow _ _ _ _ _ (hr.keep hb)) hok) ?_; rintro e w1 ⟨rfl, hbn⟩; replace b0 := cell_keep b0 hbn; replace hb := bel_to (w := w) (by first | exact hb | exact hb.alloc hb.size _ | exact (hb.alloc hb.size _).alloc (Nat.le_trans hb.size (by simp)) _ | exact hb.setCell (by simp [hb.size]) _) hbn; clear hbn))
        go_ret
        exact ⟨ret_bool (HB.out _ (HF.out hok)).symm, hb⟩
      · go_wp2_with (first | (go_at_call 144; refine Calls.mono (Ans.eqb (c_isRow _ _ _ _ _ (hr.keep hb)) hok) ?_; rintro e w1 ⟨rfl, hbn⟩; replace b0 := cell_keep b0 hbn; replace hb := bel_to (w := w) (by first | exact hb | exact hb.alloc hb.size _ | exact (hb.alloc hb.size _).alloc (Nat.le_trans hb.size (by simp)) _ | exact hb.setCell (by simp [hb.size]) _) hbn; clear hbn))
        go_roundw
        case rel => exact ⟨k + 1, by go_num, by omega, by rw [HT.out, HA.out, hok]; rfl, b0, hb⟩
        case measure => simp [intOf]; omega
    · have hkk : k = R.length := by omega
      have HS : Hid (R.all (rowOk n) = true) := by have := HA.out; rw [hkk, List.take_length] at this; exact this
      clear hkk
      go_wp2
      go_ret
      exact ⟨ret_bool (HB.out _ HS.out).symm, hb⟩
theorem c_specIsTable (n : Int) (oa) (cap : Nat) (R : List (List Int)) (w : World) (hR : RowsAt w oa R) :
    Ans Try.prog 76 #[.agg #[.int .i64 n, .slice oa R.length cap]] w (.bool (isTabF n R)) := by
  unfold Ans
  have hn : R.length ≤ 1073741824 := hR.len
  have hb := (Below.refl w.heap.size w).alloc (Nat.le_refl _) (.cells #[.int .i64 n, .slice oa R.length cap] 26)
  have b0 := box_at w #[.int .i64 n, .slice oa R.length cap] 26 0 _ rfl
  have b1 := box_at w #[.int .i64 n, .slice oa R.length cap] 26 1 _ rfl
  go_enter Try.func76, Try.ntmps76
  go_wp2
  go_loopw [3] (fun i wr => ∃ k : Nat, i = .int .i64 k ∧ k ≤ R.length ∧ (R.take k).all (rowOk n) = true ∧ wr.cell? ⟨w.heap.size, 0, none⟩ = some (.int .i64 n) ∧ wr.cell? ⟨w.heap.size, 1, none⟩ = some (.slice oa R.length cap) ∧ Below w.heap.size w wr) (fun i _ => R.length - (intOf i).toNat)
  case atStart => exact ⟨0, rfl, Nat.zero_le _, by simp, b0, b1, hb⟩
  case round =>
    clear b0 b1 hb
    obtain ⟨k, rfl, hk, hall, b0, b1, hb⟩ := hrel
    have HA : Hid ((R.take k).all (rowOk n) = true) := hall
    clear hall
    by_cases hlt : k < R.length
    · obtain ⟨b, off, rfl, hbs, hc⟩ := hR.at_ (by omega)
      obtain ⟨o, c, h1', hr⟩ := hc k hlt
      have hc1 := cell_keep h1' hb
      have hx := fun (x : After wr) => (hr.keep hb).keep x.bel
      have HT : Hid ((R.take (k + 1)).all (rowOk n) = ((R.take k).all (rowOk n) && rowOk n (row R k))) := rall_take_succ _ R k hlt
      have HF : Hid (rowOk n (row R k) = false → R.all (rowOk n) = false) := rall_false _ R k hlt
      clear hc h1'
      generalize row R k = L at *
      cases hok : rowOk n L
      · go_wp2_with fail
        (refine wp_region_after (by kernel_rfl) (by kernel_rfl) ?_; have q_b0 := fun (x : After _) => cell_keep b0 x.bel; have q_b1 := fun (x : After _) => cell_keep b1 x.bel; have q_hc1 := fun (x : After _) => cell_keep hc1 x.bel; (repeat (go_big_quiet_step ((first | (go_at_call 154; exact Ans.after (Ans.eqb (c_l3Row _ _ _ _ _ (hx _)) hok)))))); clear q_b0; clear q_b1; clear q_hc1; refine wpQuiet_nil ?_; rintro _ ⟨⟨w1, hbn⟩, rfl⟩; (try simp only [After.w]); replace b0 := cell_keep b0 hbn; replace b1 := cell_keep b1 hbn; replace hc1 := cell_keep hc1 hbn; replace hb := bel_to (w := w) (by first | exact hb | exact hb.alloc hb.size _ | exact (hb.alloc hb.size _).alloc (Nat.le_trans hb.size (by simp)) _ | exact hb.setCell (by simp [hb.size]) _) hbn; clear hbn)
        go_wp2
        go_ret
        exact ⟨ret_bool (by unfold isTabF; rw [HF.out hok]; rfl), hb⟩
      · go_wp2_with fail
        (refine wp_region_after (by kernel_rfl) (by kernel_rfl) ?_; have q_b0 := fun (x : After _) => cell_keep b0 x.bel; have q_b1 := fun (x : After _) => cell_keep b1 x.bel; have q_hc1 := fun (x : After _) => cell_keep hc1 x.bel; (repeat (go_big_quiet_step ((first | (go_at_call 154; exact Ans.after (Ans.eqb (c_l3Row _ _ _ _ _ (hx _)) hok)))))); clear q_b0; clear q_b1; clear q_hc1; refine wpQuiet_nil ?_; rintro _ ⟨⟨w1, hbn⟩, rfl⟩; (try simp only [After.w]); replace b0 := cell_keep b0 hbn; replace b1 := cell_keep b1 hbn; replace hc1 := cell_keep hc1 hbn; replace hb := bel_to (w := w) (by first | exact hb | exact hb.alloc hb.size _ | exact (hb.alloc hb.size _).alloc (Nat.le_trans hb.size (by simp)) _ | exact hb.setCell (by simp [hb.size]) _) hbn; clear hbn)
        go_wp2
        go_roundw
        case rel => exact ⟨k + 1, by go_num, by omega, by rw [HT.out, HA.out, hok]; rfl, b0, b1, hb⟩
        case measure => simp [intOf]; omega
    · have hkk : k = R.length := by omega
      have HS : Hid (R.all (rowOk n) = true) := by have := HA.out; rw [hkk, List.take_length] at this; exact this
      clear hkk
      cases hin : inB n 1 5
      · go_wp2_with (first | (go_at_call 109; refine Calls.mono (Ans.eqb (c_l1In _ _ _ _) hin) ?_; rintro e w1 ⟨rfl, hbn⟩; replace b1 := cell_keep b1 hbn; replace hb := bel_to (w := w) (by first | exact hb | exact hb.alloc hb.size _ | exact (hb.alloc hb.size _).alloc (Nat.le_trans hb.size (by simp)) _ | exact hb.setCell (by simp [hb.size]) _) hbn; clear hbn))
        go_ret
        exact ⟨ret_bool (by unfold inB at hin; unfold isTabF; rw [HS.out, hin]; rfl), hb⟩
      · go_wp2_with (first | (go_at_call 109; refine Calls.mono (Ans.eqb (c_l1In _ _ _ _) hin) ?_; rintro e w1 ⟨rfl, hbn⟩; replace b1 := cell_keep b1 hbn; replace hb := bel_to (w := w) (by first | exact hb | exact hb.alloc hb.size _ | exact (hb.alloc hb.size _).alloc (Nat.le_trans hb.size (by simp)) _ | exact hb.setCell (by simp [hb.size]) _) hbn; clear hbn))
        go_ret
        exact ⟨ret_bool (by unfold inB at hin; unfold isTabF; rw [HS.out, hin, Bool.true_and, Bool.true_and, decide_eq_decide]; omega), hb⟩
theorem c_l4Fine (n : Int) (oa) (cap : Nat) (R : List (List Int)) (m : Int) (w : World) (hR : RowsAt w oa R) :
    Ans Try.prog 89 #[.agg #[.int .i64 n, .slice oa R.length cap], .int .i64 m] w (.bool (isTabF n R && modeF m)) := by
  unfold Ans
  have hb := (Below.refl w.heap.size w).alloc (Nat.le_refl _) (.cells #[.int .i64 n, .slice oa R.length cap] 26)
  go_enter Try.func89, Try.ntmps89
  cases ht : isTabF n R
  · go_wp2_with (first | (go_at_call 76; refine Calls.mono (Ans.eqb (c_specIsTable _ _ _ _ _ (hR.keep hb)) ht) ?_; rintro e w1 ⟨rfl, hbn⟩; replace hb := bel_to (w := w) (by first | exact hb | exact hb.alloc hb.size _ | exact (hb.alloc hb.size _).alloc (Nat.le_trans hb.size (by simp)) _ | exact hb.setCell (by simp [hb.size]) _) hbn; clear hbn))
    go_ret
    exact ⟨rfl, hb⟩
  · go_wp2_with (first | (go_at_call 76; refine Calls.mono (Ans.eqb (c_specIsTable _ _ _ _ _ (hR.keep hb)) ht) ?_; rintro e w1 ⟨rfl, hbn⟩; replace hb := bel_to (w := w) (by first | exact hb | exact hb.alloc hb.size _ | exact (hb.alloc hb.size _).alloc (Nat.le_trans hb.size (by simp)) _ | exact hb.setCell (by simp [hb.size]) _) hbn; clear hbn) | (go_at_call 159; refine Calls.mono (c_l4Mode _ _) ?_; rintro e w1 ⟨rfl, hbn⟩; replace hb := bel_to (w := w) (by first | exact hb | exact hb.alloc hb.size _ | exact (hb.alloc hb.size _).alloc (Nat.le_trans hb.size (by simp)) _ | exact hb.setCell (by simp [hb.size]) _) hbn; clear hbn))
    go_ret
    exact ⟨rfl, hb⟩
set_option maxHeartbeats 400000 in
theorem c_agree (m : Int) (oa ob) (ca cb : Nat) (A B : List Int) (w : World) (hA : IntsAt w oa A) (hB : IntsAt w ob B) (hl : A.length ≤ 5) (hAB : B.length = A.length) :
    Ans Try.prog 122 #[.int .i64 m, .slice oa A.length ca, .slice ob B.length cb] w (.int .i64 (agreeF m A B)) := by
  unfold Ans
  have HL : Hid (B.length = A.length) := hAB
  have hlb : A.length ≤ B.length := by omega
  clear hAB
  go_enter Try.func122, Try.ntmps122
  go_wp2
  go_loopw [7, 11] (fun x i wr => ∃ k : Nat, i = .int .i64 k ∧ k ≤ A.length ∧ x = .int .i64 ((List.range k).foldl (agreeStep m A B) 0) ∧ Below w.heap.size w wr) (fun _ i _ => A.length - (intOf i).toNat)
  case atStart => exact ⟨0, rfl, Nat.zero_le _, rfl, Below.refl _ _⟩
  case round =>
    obtain ⟨k, rfl, hk, rfl, hb⟩ := hrel
    by_cases hlt : k < A.length
    · obtain ⟨b1, off1, rfl, hbs1, hca⟩ := hA.at_ (by omega)
      obtain ⟨b2, off2, rfl, hbs2, hcb⟩ := hB.at_ (by omega)
      have hc1 := cell_keep (hca k hlt) hb
      have hc2 := cell_keep (hcb k (by omega)) hb
      have HS : Hid ((List.range (k + 1)).foldl (agreeStep m A B) 0 = agreeStep m A B ((List.range k).foldl (agreeStep m A B) 0) k) := range_succ_fold _ _ _
      have HG : Hid (∀ x, agreeStep m A B x k = if eqCellF m (nth A k) (nth B k) then uni x (one k) else x) := fun x => rfl
      clear hca hcb
      generalize (List.range k).foldl (agreeStep m A B) 0 = x at *
      generalize nth A k = a at *
      generalize nth B k = b at *
      cases he : eqCellF m a b
      · go_wp2_with fail
        (refine wp_region_after (by kernel_rfl) (by kernel_rfl) ?_; have q_hc1 := fun (x : After _) => cell_keep hc1 x.bel; have q_hc2 := fun (x : After _) => cell_keep hc2 x.bel; (repeat (go_big_quiet_step ((first | (go_at_call 121; exact Ans.after (Ans.eqb (c_EqualCells _ _ _ _) he)))))); clear q_hc1; clear q_hc2; refine wpQuiet_nil ?_; rintro _ ⟨⟨w1, hbn⟩, rfl⟩; (try simp only [After.w]); replace hc1 := cell_keep hc1 hbn; replace hc2 := cell_keep hc2 hbn; replace hb := bel_to (w := w) (by first | exact hb | exact hb.alloc hb.size _ | exact (hb.alloc hb.size _).alloc (Nat.le_trans hb.size (by simp)) _ | exact hb.setCell (by simp [hb.size]) _) hbn; clear hbn)
        go_wp2
        go_roundw
        case rel => exact ⟨k + 1, by go_num, by omega, by rw [HS.out, HG.out, he]; rfl, hb⟩
        case measure => simp [intOf]; omega
      · go_wp2_with fail
        (refine wp_region_after (by kernel_rfl) (by kernel_rfl) ?_; have q_hc1 := fun (x : After _) => cell_keep hc1 x.bel; have q_hc2 := fun (x : After _) => cell_keep hc2 x.bel; (repeat (go_big_quiet_step ((first | (go_at_call 121; exact Ans.after (Ans.eqb (c_EqualCells _ _ _ _) he)))))); clear q_hc1; clear q_hc2; refine wpQuiet_nil ?_; rintro _ ⟨⟨w1, hbn⟩, rfl⟩; (try simp only [After.w]); replace hc1 := cell_keep hc1 hbn; replace hc2 := cell_keep hc2 hbn; replace hb := bel_to (w := w) (by first | exact hb | exact hb.alloc hb.size _ | exact (hb.alloc hb.size _).alloc (Nat.le_trans hb.size (by simp)) _ | exact hb.setCell (by simp [hb.size]) _) hbn; clear hbn)
        go_wp2
        go_roundw
        case rel => exact ⟨k + 1, by go_num, by omega, by rw [HS.out, HG.out, he]; rfl, hb⟩
        case measure => simp [intOf]; omega
    · have hkk : k = A.length := by omega
      have HK : Hid (k = A.length) := hkk
      clear hkk
      go_wp2
      go_ret
      exact ⟨ret_int (by rw [HK.out]; rfl), hb⟩
set_option maxHeartbeats 800000 in
theorem c_l4Agree (n : Int) (oa) (ca : Nat) (R : List (List Int)) (m : Int) (i j : Nat) (w : World) (hR : RowsAt w oa R) (ht : isTabF n R = true) (hi : i < R.length) (hj : j < R.length) :
    Ans Try.prog 124 #[.agg #[.int .i64 n, .slice oa R.length ca], .int .i64 m, .int .i64 i, .int .i64 j] w (.int .i64 (agreeF m (row R i) (row R j))) := by
  unfold Ans
  obtain ⟨hn1, hn5, hr40, hlen⟩ := isTab_of ht
  have li := hlen i hi
  have lj := hlen j hj
  clear hlen ht
  obtain ⟨b, off, rfl, hbs, hca⟩ := hR.at_ (by omega)
  obtain ⟨o1, c1, h1, r1⟩ := hca i hi
  obtain ⟨o2, c2, h2, r2⟩ := hca j hj
  clear hca hR
  have HN : Hid (n = (row R i).length) := li.symm
  have HF : Hid (agreeF m (row R i) (row R j) = (List.range (row R i).length).foldl (agreeStep m (row R i) (row R j)) 0) := rfl
  have hAB : (row R j).length = (row R i).length := by omega
  generalize row R i = A at *
  generalize row R j = B at *
  have hA5 : A.length ≤ 5 := by omega
  have HL : Hid (B.length = A.length) := hAB
  have hlb : A.length ≤ B.length := by omega
  obtain rfl : n = (A.length : Int) := by omega
  clear hAB li lj HN
  have hb := (Below.refl w.heap.size w).alloc (Nat.le_refl _) (.cells #[.int .i64 A.length, .slice (some ⟨b, off, none⟩) R.length ca] 26)
  have b0 := box_at w #[.int .i64 A.length, .slice (some ⟨b, off, none⟩) R.length ca] 26 0 _ rfl
  have b1 := box_at w #[.int .i64 A.length, .slice (some ⟨b, off, none⟩) R.length ca] 26 1 _ rfl
  go_enter Try.func124, Try.ntmps124
  go_wp2
  go_loopw [9, 10] (fun x i wr => ∃ k : Nat, i = .int .i64 k ∧ k ≤ A.length ∧ x = .int .i64 ((List.range k).foldl (agreeStep m A B) 0) ∧ wr.cell? ⟨w.heap.size, 0, none⟩ = some (.int .i64 A.length) ∧ wr.cell? ⟨w.heap.size, 1, none⟩ = some (.slice (some ⟨b, off, none⟩) R.length ca) ∧ Below w.heap.size w wr) (fun _ i _ => A.length - (intOf i).toNat)
  case atStart => exact ⟨0, rfl, Nat.zero_le _, rfl, b0, b1, hb⟩
  case round =>
    clear b0 b1 hb
    obtain ⟨k, rfl, hk, rfl, b0, b1, hb⟩ := hrel
    have d1 := cell_keep h1 hb
    have d2 := cell_keep h2 hb
    by_cases hlt : k < A.length
    · obtain ⟨b3, off3, rfl, hbs3, hca⟩ := r1.at_ (by omega)
      obtain ⟨b4, off4, rfl, hbs4, hcb⟩ := r2.at_ (by omega)
      have hc1 := cell_keep (hca k hlt) hb
      have hc2 := cell_keep (hcb k (by omega)) hb
      have HS : Hid ((List.range (k + 1)).foldl (agreeStep m A B) 0 = agreeStep m A B ((List.range k).foldl (agreeStep m A B) 0) k) := range_succ_fold _ _ _
      have HG : Hid (∀ x, agreeStep m A B x k = if eqCellF m (nth A k) (nth B k) then uni x (one k) else x) := fun x => rfl
      clear hca hcb
      generalize (List.range k).foldl (agreeStep m A B) 0 = x at *
      generalize nth A k = a at *
      generalize nth B k = b' at *
      cases he : eqCellF m a b'
      · go_wp2_with fail
        (refine wp_region_after (by kernel_rfl) (by kernel_rfl) ?_; have q_b0 := fun (x : After _) => cell_keep b0 x.bel; have q_b1 := fun (x : After _) => cell_keep b1 x.bel; have q_d1 := fun (x : After _) => cell_keep d1 x.bel; have q_d2 := fun (x : After _) => cell_keep d2 x.bel; have q_hc1 := fun (x : After _) => cell_keep hc1 x.bel; have q_hc2 := fun (x : After _) => cell_keep hc2 x.bel; (repeat (go_big_quiet_step ((first | (go_at_call 175; exact Ans.after (Ans.eqb (c_specEqualCells _ _ _ _) he)))))); clear q_b0; clear q_b1; clear q_d1; clear q_d2; clear q_hc1; clear q_hc2; refine wpQuiet_nil ?_; rintro _ ⟨⟨w1, hbn⟩, rfl⟩; (try simp only [After.w]); replace b0 := cell_keep b0 hbn; replace b1 := cell_keep b1 hbn; replace d1 := cell_keep d1 hbn; replace d2 := cell_keep d2 hbn; replace hc1 := cell_keep hc1 hbn; replace hc2 := cell_keep hc2 hbn; replace hb := bel_to (w := w) (by first | exact hb | exact hb.alloc hb.size _ | exact (hb.alloc hb.size _).alloc (Nat.le_trans hb.size (by simp)) _ | exact hb.setCell (by simp [hb.size]) _) hbn; clear hbn)
        go_wp2
        go_roundw
        case rel => exact ⟨k + 1, by go_num, by omega, by rw [HS.out, HG.out, he]; rfl, b0, b1, hb⟩
        case measure => simp [intOf]; omega
      · go_wp2_with fail
        (refine wp_region_after (by kernel_rfl) (by kernel_rfl) ?_; have q_b0 := fun (x : After _) => cell_keep b0 x.bel; have q_b1 := fun (x : After _) => cell_keep b1 x.bel; have q_d1 := fun (x : After _) => cell_keep d1 x.bel; have q_d2 := fun (x : After _) => cell_keep d2 x.bel; have q_hc1 := fun (x : After _) => cell_keep hc1 x.bel; have q_hc2 := fun (x : After _) => cell_keep hc2 x.bel; (repeat (go_big_quiet_step ((first | (go_at_call 175; exact Ans.after (Ans.eqb (c_specEqualCells _ _ _ _) he)))))); clear q_b0; clear q_b1; clear q_d1; clear q_d2; clear q_hc1; clear q_hc2; refine wpQuiet_nil ?_; rintro _ ⟨⟨w1, hbn⟩, rfl⟩; (try simp only [After.w]); replace b0 := cell_keep b0 hbn; replace b1 := cell_keep b1 hbn; replace d1 := cell_keep d1 hbn; replace d2 := cell_keep d2 hbn; replace hc1 := cell_keep hc1 hbn; replace hc2 := cell_keep hc2 hbn; replace hb := bel_to (w := w) (by first | exact hb | exact hb.alloc hb.size _ | exact (hb.alloc hb.size _).alloc (Nat.le_trans hb.size (by simp)) _ | exact hb.setCell (by simp [hb.size]) _) hbn; clear hbn)
        go_wp2
        go_roundw
        case rel => exact ⟨k + 1, by go_num, by omega, by rw [HS.out, HG.out, he]; rfl, b0, b1, hb⟩
        case measure => simp [intOf]; omega
    · have hkk : k = A.length := by omega
      have HK : Hid (k = A.length) := hkk
      clear hkk
      go_wp2
      go_ret
      exact ⟨ret_int (by rw [HF.out, HK.out]), hb⟩
end Go.Proofs.Ytjbmpnbfiahdhaa
namespace Go.Proofs.Ytjbmpnbfiahdhaa
open Go.RowKit
set_option linter.unusedVariables false
set_option maxRecDepth 100000

theorem two_a (w : World) (c1 : Array Value) (T1 : TypeId) (c2 : Array Value) (T2 : TypeId) (j : Nat) (v : Value) (h : c1[j]? = some v) : ((w.alloc (.cells c1 T1)).alloc (.cells c2 T2)).cell? ⟨w.heap.size, j, none⟩ = some v :=
  cell_keep (box_at w c1 T1 j v h) ((Below.refl _ _).alloc (Nat.le_refl _) _)
theorem two_b (w : World) (c1 : Array Value) (T1 : TypeId) (c2 : Array Value) (T2 : TypeId) (j : Nat) (v : Value) (h : c2[j]? = some v) : ((w.alloc (.cells c1 T1)).alloc (.cells c2 T2)).cell? ⟨w.heap.size + 1, j, none⟩ = some v := by
  have := box_at (w.alloc (.cells c1 T1)) c2 T2 j v h
  simpa using this
theorem bel2 (w : World) (o1 o2 : Obj) : Below w.heap.size w ((w.alloc o1).alloc o2) := ((Below.refl w.heap.size w).alloc (Nat.le_refl _) o1).alloc (by simp) o2

def askF (n : Int) (R : List (List Int)) (m l r : Int) : Bool := (isTabF n R && modeF m) && isDepF n l r
def violF (R : List (List Int)) (m l r : Int) (i k : Nat) : Bool := ins l (agreeF m (row R i) (row R k)) && !hasc (agreeF m (row R i) (row R k)) r
def holdsF (R : List (List Int)) (m l r : Int) : Bool := decide (∀ i, i < R.length → ∀ k, k < R.length → i < k → violF R m l r i k = false)
theorem holdsF_no {R : List (List Int)} {m l r : Int} {i k : Nat} (hik : i < k) (hk : k < R.length) (h : violF R m l r i k = true) : holdsF R m l r = false := by
  unfold holdsF
  rw [decide_eq_false_iff_not]
  intro H
  have := H i (by omega) k hk hik
  rw [h] at this
  cases this
theorem dep_of {n l r : Int} (h : isDepF n l r = true) (h5 : n ≤ 5) : St l ∧ Co r := by
  unfold isDepF at h
  simp only [Bool.and_eq_true, decide_eq_true_eq] at h
  obtain ⟨⟨⟨h1, h2⟩, h3⟩, h4⟩ := h
  unfold isAttr at h2
  simp only [Bool.and_eq_true, decide_eq_true_eq] at h2
  have hp := (pow_wrap (n := n) (by omega) h5).2.1
  exact ⟨⟨h2.1.2, by omega⟩, ⟨h3, by omega⟩⟩
theorem agreeStep_st {m : Int} {A B : List Int} {x : Int} {c : Nat} (hx : St x) (hc : c < 5) : St (agreeStep m A B x c) := by
  unfold agreeStep
  split
  · exact uni_st hx (one_st ⟨by omega, by omega⟩)
  · exact hx
theorem agreeF_st {m : Int} {A B : List Int} (h : A.length ≤ 5) : St (agreeF m A B) := by
  have : ∀ k, k ≤ 5 → St ((List.range k).foldl (agreeStep m A B) 0) := by
    intro k
    induction k with
    | zero => intro _; exact ⟨by simp, by simp⟩
    | succ k ih => intro hk; rw [range_succ_fold]; exact agreeStep_st (ih (by omega)) (by omega)
  exact this _ h

theorem c_asked (n : Int) (oa) (cap : Nat) (R : List (List Int)) (m l r : Int) (w : World) (hR : RowsAt w oa R) :
    Ans Try.prog 119 #[.agg #[.int .i64 n, .slice oa R.length cap], .int .i64 m, .agg #[.int .i64 l, .int .i64 r]] w (.bool (askF n R m l r)) := by
  unfold Ans askF
  have hb := bel2 w (.cells #[.int .i64 n, .slice oa R.length cap] 26) (.cells #[.int .i64 l, .int .i64 r] 55)
  have a0 := two_a w #[.int .i64 n, .slice oa R.length cap] 26 #[.int .i64 l, .int .i64 r] 55 0 _ rfl
  have d0 := two_b w #[.int .i64 n, .slice oa R.length cap] 26 #[.int .i64 l, .int .i64 r] 55 0 _ rfl
  have d1 := two_b w #[.int .i64 n, .slice oa R.length cap] 26 #[.int .i64 l, .int .i64 r] 55 1 _ rfl
  go_enter Try.func119, Try.ntmps119
  cases ht : isTabF n R
  · go_wp2_with (first | (go_at_call 67; refine Calls.mono (Ans.eqb (c_IsTable _ _ _ _ _ (hR.keep hb)) ht) ?_; rintro e w1 ⟨rfl, hbn⟩; replace a0 := cell_keep a0 hbn; replace d0 := cell_keep d0 hbn; replace d1 := cell_keep d1 hbn; replace hb := bel_to (w := w) (by first | exact hb | exact hb.alloc hb.size _ | exact (hb.alloc hb.size _).alloc (Nat.le_trans hb.size (by simp)) _ | exact hb.setCell (by simp [hb.size]) _) hbn; clear hbn))
    go_ret
    exact ⟨rfl, hb⟩
  · cases hm : modeF m
    · go_wp2_with (first | (go_at_call 67; refine Calls.mono (Ans.eqb (c_IsTable _ _ _ _ _ (hR.keep hb)) ht) ?_; rintro e w1 ⟨rfl, hbn⟩; replace a0 := cell_keep a0 hbn; replace d0 := cell_keep d0 hbn; replace d1 := cell_keep d1 hbn; replace hb := bel_to (w := w) (by first | exact hb | exact hb.alloc hb.size _ | exact (hb.alloc hb.size _).alloc (Nat.le_trans hb.size (by simp)) _ | exact hb.setCell (by simp [hb.size]) _) hbn; clear hbn) | (go_at_call 92; refine Calls.mono (Ans.eqb (c_isMode _ _) hm) ?_; rintro e w1 ⟨rfl, hbn⟩; replace a0 := cell_keep a0 hbn; replace d0 := cell_keep d0 hbn; replace d1 := cell_keep d1 hbn; replace hb := bel_to (w := w) (by first | exact hb | exact hb.alloc hb.size _ | exact (hb.alloc hb.size _).alloc (Nat.le_trans hb.size (by simp)) _ | exact hb.setCell (by simp [hb.size]) _) hbn; clear hbn))
      go_ret
      exact ⟨rfl, hb⟩
    · go_wp2_with (first | (go_at_call 67; refine Calls.mono (Ans.eqb (c_IsTable _ _ _ _ _ (hR.keep hb)) ht) ?_; rintro e w1 ⟨rfl, hbn⟩; replace a0 := cell_keep a0 hbn; replace d0 := cell_keep d0 hbn; replace d1 := cell_keep d1 hbn; replace hb := bel_to (w := w) (by first | exact hb | exact hb.alloc hb.size _ | exact (hb.alloc hb.size _).alloc (Nat.le_trans hb.size (by simp)) _ | exact hb.setCell (by simp [hb.size]) _) hbn; clear hbn) | (go_at_call 92; refine Calls.mono (Ans.eqb (c_isMode _ _) hm) ?_; rintro e w1 ⟨rfl, hbn⟩; replace a0 := cell_keep a0 hbn; replace d0 := cell_keep d0 hbn; replace d1 := cell_keep d1 hbn; replace hb := bel_to (w := w) (by first | exact hb | exact hb.alloc hb.size _ | exact (hb.alloc hb.size _).alloc (Nat.le_trans hb.size (by simp)) _ | exact hb.setCell (by simp [hb.size]) _) hbn; clear hbn) | (go_at_call 59; refine Calls.mono (c_isDep _ _ _ _) ?_; rintro e w1 ⟨rfl, hbn⟩; replace a0 := cell_keep a0 hbn; replace d0 := cell_keep d0 hbn; replace d1 := cell_keep d1 hbn; replace hb := bel_to (w := w) (by first | exact hb | exact hb.alloc hb.size _ | exact (hb.alloc hb.size _).alloc (Nat.le_trans hb.size (by simp)) _ | exact hb.setCell (by simp [hb.size]) _) hbn; clear hbn))
      go_ret
      exact ⟨rfl, hb⟩

set_option maxHeartbeats 1600000 in
theorem c_WitnessOf (n : Int) (oa) (cap : Nat) (R : List (List Int)) (m l r : Int) (w : World) (hR : RowsAt w oa R) :
    Calls Try.prog 54 #[.agg #[.int .i64 n, .slice oa R.length cap], .int .i64 m, .agg #[.int .i64 l, .int .i64 r]] w fun e w' => (∃ x y : Int, e = .returned (.tuple #[.int .i64 x, .int .i64 y, .bool (askF n R m l r && !holdsF R m l r)])) ∧ Below w.heap.size w w' := by
  have hb := bel2 w (.cells #[.int .i64 n, .slice oa R.length cap] 26) (.cells #[.int .i64 l, .int .i64 r] 55)
  have a0 := two_a w #[.int .i64 n, .slice oa R.length cap] 26 #[.int .i64 l, .int .i64 r] 55 0 _ rfl
  have a1 := two_a w #[.int .i64 n, .slice oa R.length cap] 26 #[.int .i64 l, .int .i64 r] 55 1 _ rfl
  have d0 := two_b w #[.int .i64 n, .slice oa R.length cap] 26 #[.int .i64 l, .int .i64 r] 55 0 _ rfl
  have d1 := two_b w #[.int .i64 n, .slice oa R.length cap] 26 #[.int .i64 l, .int .i64 r] 55 1 _ rfl
  cases hask : askF n R m l r
  · go_enter Try.func54, Try.ntmps54
    go_wp2_with (first | (go_at_call 119; refine Calls.mono (Ans.eqb (c_asked _ _ _ _ _ _ _ _ (hR.keep hb)) hask) ?_; rintro e w1 ⟨rfl, hbn⟩; replace a0 := cell_keep a0 hbn; replace a1 := cell_keep a1 hbn; replace d0 := cell_keep d0 hbn; replace d1 := cell_keep d1 hbn; replace hb := bel_to (w := w) (by first | exact hb | exact hb.alloc hb.size _ | exact (hb.alloc hb.size _).alloc (Nat.le_trans hb.size (by simp)) _ | exact hb.setCell (by simp [hb.size]) _) hbn; clear hbn))
    go_ret3
    exact ⟨⟨_, _, rfl⟩, hb⟩
  · have hk := hask
    unfold askF at hk
    simp only [Bool.and_eq_true] at hk
    obtain ⟨⟨ht, hm⟩, hd⟩ := hk
    obtain ⟨hn1, hn5, hr40, hlen⟩ := isTab_of ht
    obtain ⟨hsl, hcr⟩ := dep_of hd hn5
    have hcr64 : 0 ≤ r ∧ r < 64 := ⟨hcr.1, by have := hcr.2; omega⟩
    have HL : Hid (∀ k, k < R.length → ((row R k).length : Int) = n) := hlen
    have HH : Hid ((∀ i, i < R.length → ∀ k, k < R.length → i < k → violF R m l r i k = false) → holdsF R m l r = true) := fun h => decide_eq_true h
    have HN : Hid (∀ i k, i < k → k < R.length → violF R m l r i k = true → holdsF R m l r = false) := fun i k h1 h2 h3 => holdsF_no h1 h2 h3
    clear hm ht hlen hcr hd
    go_enter Try.func54, Try.ntmps54
    go_wp2_with (first | (go_at_call 119; refine Calls.mono (Ans.eqb (c_asked _ _ _ _ _ _ _ _ (hR.keep hb)) hask) ?_; rintro e w1 ⟨rfl, hbn⟩; replace a0 := cell_keep a0 hbn; replace a1 := cell_keep a1 hbn; replace d0 := cell_keep d0 hbn; replace d1 := cell_keep d1 hbn; replace hb := bel_to (w := w) (by first | exact hb | exact hb.alloc hb.size _ | exact (hb.alloc hb.size _).alloc (Nat.le_trans hb.size (by simp)) _ | exact hb.setCell (by simp [hb.size]) _) hbn; clear hbn))
    go_loopw [21] (fun i wr => ∃ k : Nat, i = .int .i64 k ∧ k ≤ R.length ∧ (∀ i, i < k → ∀ k, k < R.length → i < k → violF R m l r i k = false) ∧ wr.cell? ⟨w.heap.size, 1, none⟩ = some (.slice oa R.length cap) ∧ wr.cell? ⟨w.heap.size + 1, 0, none⟩ = some (.int .i64 l) ∧ wr.cell? ⟨w.heap.size + 1, 1, none⟩ = some (.int .i64 r) ∧ Below w.heap.size w wr) (fun i _ => R.length - (intOf i).toNat)
    case atStart => exact ⟨0, rfl, Nat.zero_le _, fun i hi => absurd hi (by omega), a1, d0, d1, hb⟩
    case round =>
      clear a0 a1 d0 d1 hb
      obtain ⟨i, rfl, hi, hall, a1, d0, d1, hb⟩ := hrel
      have HA : Hid (∀ i', i' < i → ∀ k, k < R.length → i' < k → violF R m l r i' k = false) := hall
      clear hall
      by_cases hlt : i < R.length
      · obtain ⟨b, off, rfl, hbs, hca⟩ := hR.at_ (by omega)
        obtain ⟨o1, c1, e1, r1⟩ := hca i hlt
        have hc1 := cell_keep e1 hb
        have HC : Hid (∀ k, k < R.length → ∃ o c, w.cell? ⟨b, off + k, none⟩ = some (.slice o (row R k).length c) ∧ IntsAt w o (row R k)) := hca
        clear hca e1
        go_wp2
        go_loopw [11] (fun i' wr => ∃ k : Nat, i' = .int .i64 k ∧ i < k ∧ k ≤ R.length ∧ (∀ k', k' < k → i < k' → violF R m l r i k' = false) ∧ wr.cell? ⟨w.heap.size, 1, none⟩ = some (.slice (some ⟨b, off, none⟩) R.length cap) ∧ wr.cell? ⟨w.heap.size + 1, 0, none⟩ = some (.int .i64 l) ∧ wr.cell? ⟨w.heap.size + 1, 1, none⟩ = some (.int .i64 r) ∧ Below w.heap.size w wr) (fun i _ => R.length - (intOf i).toNat)
        case atStart => exact ⟨i + 1, by go_num, by omega, by omega, fun k' h1 h2 => absurd h1 (by omega), a1, d0, d1, hb⟩
        case round =>
          clear a1 d0 d1 hb hc1
          obtain ⟨k, rfl, hik, hk, hall, a1, d0, d1, hb⟩ := hrel
          have HI : Hid (∀ k', k' < k → i < k' → violF R m l r i k' = false) := hall
          clear hall
          by_cases hlk : k < R.length
          · obtain ⟨o2, c2, e2, r2⟩ := HC.out k hlk
            have hc2 := cell_keep e2 hb
            have hA5 : (row R i).length ≤ 5 := by have := HL.out i hlt; omega
            have hAB : Hid ((row R k).length = (row R i).length) := by have h1 := HL.out i hlt; have h2 := HL.out k hlk; show (row R k).length = (row R i).length; omega
            have HV : Hid (violF R m l r i k = (ins l (agreeF m (row R i) (row R k)) && !hasc (agreeF m (row R i) (row R k)) r)) := rfl
            clear e2
            go_wp2_with fail
            refine Calls.mono (c_agree m _ _ _ _ _ _ _ (r1.keep hb) (r2.keep hb) hA5 hAB.out) ?_
            rintro e w1 ⟨rfl, hbn⟩
            replace a1 := cell_keep a1 hbn
            replace d0 := cell_keep d0 hbn
            replace d1 := cell_keep d1 hbn
            replace hb := bel_to hb hbn
            clear hbn hc2 hAB hA5
            generalize agreeF m (row R i) (row R k) = x at *
            cases h1 : ins l x
            · go_wp2_with (first | (go_at_call 106; refine Calls.mono (Ans.eqb (c_inside _ _ _) h1) ?_; rintro e w1 ⟨rfl, hbn⟩; replace a1 := cell_keep a1 hbn; replace d0 := cell_keep d0 hbn; replace d1 := cell_keep d1 hbn; replace hb := bel_to (w := w) (by first | exact hb | exact hb.alloc hb.size _ | exact (hb.alloc hb.size _).alloc (Nat.le_trans hb.size (by simp)) _ | exact hb.setCell (by simp [hb.size]) _) hbn; clear hbn))
              go_roundw
              case rel => exact ⟨k + 1, by go_num, by omega, by omega, lt_step (p := fun k' => i < k' → violF R m l r i k' = false) HI.out (fun _ => by rw [HV.out, h1]; rfl), a1, d0, d1, hb⟩
              case measure => simp [intOf]; omega
            · cases h2 : hasc x r
              · go_wp2_with (first | (go_at_call 106; refine Calls.mono (Ans.eqb (c_inside _ _ _) h1) ?_; rintro e w1 ⟨rfl, hbn⟩; replace a1 := cell_keep a1 hbn; replace d0 := cell_keep d0 hbn; replace d1 := cell_keep d1 hbn; replace hb := bel_to (w := w) (by first | exact hb | exact hb.alloc hb.size _ | exact (hb.alloc hb.size _).alloc (Nat.le_trans hb.size (by simp)) _ | exact hb.setCell (by simp [hb.size]) _) hbn; clear hbn) | (go_at_call 105; refine Calls.mono (Ans.eqb (c_has _ _ hcr64 _) h2) ?_; rintro e w1 ⟨rfl, hbn⟩; replace a1 := cell_keep a1 hbn; replace d0 := cell_keep d0 hbn; replace d1 := cell_keep d1 hbn; replace hb := bel_to (w := w) (by first | exact hb | exact hb.alloc hb.size _ | exact (hb.alloc hb.size _).alloc (Nat.le_trans hb.size (by simp)) _ | exact hb.setCell (by simp [hb.size]) _) hbn; clear hbn))
                go_ret3
                exact ⟨⟨_, _, by rw [HN.out i k hik hlk (by rw [HV.out, h1, h2]; rfl)]; rfl⟩, hb⟩
              · go_wp2_with (first | (go_at_call 106; refine Calls.mono (Ans.eqb (c_inside _ _ _) h1) ?_; rintro e w1 ⟨rfl, hbn⟩; replace a1 := cell_keep a1 hbn; replace d0 := cell_keep d0 hbn; replace d1 := cell_keep d1 hbn; replace hb := bel_to (w := w) (by first | exact hb | exact hb.alloc hb.size _ | exact (hb.alloc hb.size _).alloc (Nat.le_trans hb.size (by simp)) _ | exact hb.setCell (by simp [hb.size]) _) hbn; clear hbn) | (go_at_call 105; refine Calls.mono (Ans.eqb (c_has _ _ hcr64 _) h2) ?_; rintro e w1 ⟨rfl, hbn⟩; replace a1 := cell_keep a1 hbn; replace d0 := cell_keep d0 hbn; replace d1 := cell_keep d1 hbn; replace hb := bel_to (w := w) (by first | exact hb | exact hb.alloc hb.size _ | exact (hb.alloc hb.size _).alloc (Nat.le_trans hb.size (by simp)) _ | exact hb.setCell (by simp [hb.size]) _) hbn; clear hbn))
                go_roundw
                case rel => exact ⟨k + 1, by go_num, by omega, by omega, lt_step (p := fun k' => i < k' → violF R m l r i k' = false) HI.out (fun _ => by rw [HV.out, h1, h2]; rfl), a1, d0, d1, hb⟩
                case measure => simp [intOf]; omega
          · have HI2 : Hid (∀ k', k' < R.length → i < k' → violF R m l r i k' = false) := fun k' h1 h2 => HI.out k' (by omega) h2
            go_wp2
            go_roundw
            case rel => exact ⟨i + 1, by go_num, by omega, lt_step (p := fun i => ∀ k, k < R.length → i < k → violF R m l r i k = false) HA.out HI2.out, a1, d0, d1, hb⟩
            case measure => simp [intOf]; omega
      · have HE : Hid (holdsF R m l r = true) := HH.out fun i' h1 => HA.out i' (by omega)
        go_wp2
        go_ret3
        exact ⟨⟨_, _, by rw [HE.out]; rfl⟩, hb⟩
theorem c_HoldsDep (n : Int) (oa) (cap : Nat) (R : List (List Int)) (m l r : Int) (w : World) (hR : RowsAt w oa R) :
    Ans Try.prog 52 #[.agg #[.int .i64 n, .slice oa R.length cap], .int .i64 m, .agg #[.int .i64 l, .int .i64 r]] w (.bool (askF n R m l r && holdsF R m l r)) := by
  unfold Ans
  have hb := bel2 w (.cells #[.int .i64 n, .slice oa R.length cap] 26) (.cells #[.int .i64 l, .int .i64 r] 55)
  have a0 := two_a w #[.int .i64 n, .slice oa R.length cap] 26 #[.int .i64 l, .int .i64 r] 55 0 _ rfl
  have a1 := two_a w #[.int .i64 n, .slice oa R.length cap] 26 #[.int .i64 l, .int .i64 r] 55 1 _ rfl
  have d0 := two_b w #[.int .i64 n, .slice oa R.length cap] 26 #[.int .i64 l, .int .i64 r] 55 0 _ rfl
  have d1 := two_b w #[.int .i64 n, .slice oa R.length cap] 26 #[.int .i64 l, .int .i64 r] 55 1 _ rfl
  have hW := c_WitnessOf n oa cap R m l r _ (hR.keep hb)
  have HK := fun (w' : World) (h : RowsAt w' oa R) => c_asked n oa cap R m l r w' h
  cases hask : askF n R m l r <;> cases hh : holdsF R m l r <;> rw [hask, hh] at hW <;> (
    go_enter Try.func52, Try.ntmps52
    go_wp2_with fail
    refine hW.mono ?_
    rintro e w1 ⟨⟨x, y, rfl⟩, hbn⟩
    replace a0 := cell_keep a0 hbn
    replace a1 := cell_keep a1 hbn
    replace d0 := cell_keep d0 hbn
    replace d1 := cell_keep d1 hbn
    replace hb := bel_to hb hbn
    clear hbn
    go_wp2_with (first | (go_at_call 119; refine Calls.mono (Ans.eqb (HK _ (hR.keep hb)) hask) ?_; rintro e w1 ⟨rfl, hbn⟩; replace a0 := cell_keep a0 hbn; replace a1 := cell_keep a1 hbn; replace d0 := cell_keep d0 hbn; replace d1 := cell_keep d1 hbn; replace hb := bel_to (w := w) (by first | exact hb | exact hb.alloc hb.size _ | exact (hb.alloc hb.size _).alloc (Nat.le_trans hb.size (by simp)) _ | exact hb.setCell (by simp [hb.size]) _) hbn; clear hbn))
    go_ret
    exact ⟨rfl, hb⟩)
end Go.Proofs.Ytjbmpnbfiahdhaa
namespace Go.Proofs.Ytjbmpnbfiahdhaa
open Go.RowKit
set_option linter.unusedVariables false
set_option maxRecDepth 100000

/-- x is the set in which two rows agree, the second of them before place i; or the second is i and the first before place j. -/
def agP (R : List (List Int)) (m : Int) (i j : Nat) (x : Int) : Prop := (∃ b, b < i ∧ ∃ a, a < b ∧ agreeF m (row R a) (row R b) = x) ∨ ∃ a, a < j ∧ agreeF m (row R a) (row R i) = x
/-- the same, first rows before place i; or the first is i and the second behind it and before place j -/
def agQ (R : List (List Int)) (m : Int) (i j : Nat) (x : Int) : Prop := (∃ a, a < i ∧ ∃ b, b < R.length ∧ a < b ∧ agreeF m (row R a) (row R b) = x) ∨ ∃ b, b < j ∧ i < b ∧ agreeF m (row R i) (row R b) = x
def agPB (R : List (List Int)) (m : Int) (i j : Nat) (x : Int) : Bool := ((List.range i).any fun b => (List.range b).any fun a => agreeF m (row R a) (row R b) == x) || (List.range j).any fun a => agreeF m (row R a) (row R i) == x
def agQB (R : List (List Int)) (m : Int) (i j : Nat) (x : Int) : Bool := ((List.range i).any fun a => (List.range R.length).any fun b => decide (a < b) && (agreeF m (row R a) (row R b) == x)) || (List.range j).any fun b => decide (i < b) && (agreeF m (row R i) (row R b) == x)
theorem agPB_iff {R : List (List Int)} {m : Int} {i j : Nat} {x : Int} : agPB R m i j x = true ↔ agP R m i j x := by
  unfold agPB agP
  simp [List.any_eq_true]
theorem agQB_iff {R : List (List Int)} {m : Int} {i j : Nat} {x : Int} : agQB R m i j x = true ↔ agQ R m i j x := by
  unfold agQB agQ
  simp [List.any_eq_true]
def agreeSetsF (n : Int) (R : List (List Int)) (m : Int) : List Int := if isTabF n R && modeF m then flt (agPB R m R.length 0) 32 else []
theorem eqCell_comm (m a b : Int) : eqCellF m a b = eqCellF m b a := by
  unfold eqCellF
  by_cases h : a = b
  · subst h; rfl
  · have h1 : (a == b) = false := by simpa using h
    have h2 : (b == a) = false := by simpa using (fun e : b = a => h e.symm)
    rw [h1, h2]; simp
theorem agree_comm {m : Int} {A B : List Int} (h : A.length = B.length) : agreeF m A B = agreeF m B A := by
  unfold agreeF
  rw [h]
  congr 1
  funext x c
  unfold agreeStep
  rw [eqCell_comm]
theorem agPB_step (R : List (List Int)) (m : Int) (i j : Nat) (hij : j < i) : (fun x => agPB R m i j x || x == agreeF m (row R j) (row R i)) = agPB R m i (j + 1) := by
  funext x
  rw [Bool.eq_iff_iff, Bool.or_eq_true, agPB_iff, agPB_iff]
  unfold agP
  constructor
  · rintro ((h | ⟨a, ha, e⟩) | e)
    · exact .inl h
    · exact .inr ⟨a, by omega, e⟩
    · exact .inr ⟨j, by omega, by simpa using (beq_iff_eq.1 e).symm⟩
  · rintro (h | ⟨a, ha, e⟩)
    · exact .inl (.inl h)
    · by_cases hj : a = j
      · subst hj; exact .inr (by simp [e])
      · exact .inl (.inr ⟨a, by omega, e⟩)
theorem agPB_next (R : List (List Int)) (m : Int) (i : Nat) : agPB R m i i = agPB R m (i + 1) 0 := by
  funext x
  rw [Bool.eq_iff_iff, agPB_iff, agPB_iff]
  unfold agP
  constructor
  · rintro (⟨b, hb, h⟩ | ⟨a, ha, e⟩)
    · exact .inl ⟨b, by omega, h⟩
    · exact .inl ⟨i, by omega, a, ha, e⟩
  · rintro (⟨b, hb, a, ha, e⟩ | ⟨a, ha, _⟩)
    · by_cases h : b = i
      · subst h; exact .inr ⟨a, ha, e⟩
      · exact .inl ⟨b, by omega, a, ha, e⟩
    · omega
theorem agQB_step (R : List (List Int)) (m : Int) (i j : Nat) (hij : i < j) : (fun x => agQB R m i j x || x == agreeF m (row R i) (row R j)) = agQB R m i (j + 1) := by
  funext x
  rw [Bool.eq_iff_iff, Bool.or_eq_true, agQB_iff, agQB_iff]
  unfold agQ
  constructor
  · rintro ((h | ⟨b, hb, hib, e⟩) | e)
    · exact .inl h
    · exact .inr ⟨b, by omega, hib, e⟩
    · exact .inr ⟨j, by omega, hij, by simpa using (beq_iff_eq.1 e).symm⟩
  · rintro (h | ⟨b, hb, hib, e⟩)
    · exact .inl (.inl h)
    · by_cases hj : b = j
      · subst hj; exact .inr (by simp [e])
      · exact .inl (.inr ⟨b, by omega, hib, e⟩)
theorem agQB_next (R : List (List Int)) (m : Int) (i : Nat) (hi : i < R.length) : agQB R m i R.length = agQB R m (i + 1) (i + 2) := by
  funext x
  rw [Bool.eq_iff_iff, agQB_iff, agQB_iff]
  unfold agQ
  constructor
  · rintro (⟨a, ha, h⟩ | ⟨b, hb, hib, e⟩)
    · exact .inl ⟨a, by omega, h⟩
    · exact .inl ⟨i, by omega, b, hb, hib, e⟩
  · rintro (⟨a, ha, b, hb, hab, e⟩ | ⟨b, hb, hib, _⟩)
    · by_cases h : a = i
      · subst h; exact .inr ⟨b, hb, hab, e⟩
      · exact .inl ⟨a, by omega, b, hb, hab, e⟩
    · omega
theorem agQB_first (R : List (List Int)) (m : Int) (i : Nat) : agQB R m i (i + 1) = agQB R m i 0 := by
  funext x
  rw [Bool.eq_iff_iff, agQB_iff, agQB_iff]
  unfold agQ
  constructor
  · rintro (h | ⟨b, hb, hib, _⟩)
    · exact .inl h
    · omega
  · rintro (h | ⟨b, hb, _⟩)
    · exact .inl h
    · omega
theorem agQB_all (R : List (List Int)) (m : Int) : agQB R m R.length 0 = agPB R m R.length 0 := by
  funext x
  rw [Bool.eq_iff_iff, agQB_iff, agPB_iff]
  unfold agQ agP
  constructor
  · rintro (⟨a, ha, b, hb, hab, e⟩ | ⟨b, hb, _⟩)
    · exact .inl ⟨b, hb, a, hab, e⟩
    · omega
  · rintro (⟨b, hb, a, ha, e⟩ | ⟨b, hb, _⟩)
    · exact .inl ⟨a, by omega, b, hb, ha, e⟩
    · omega
theorem agQB_none (R : List (List Int)) (m : Int) : flt (agQB R m 0 0) 32 = [] := by
  have : agQB R m 0 0 = fun _ => false := by
    funext x
    rw [Bool.eq_iff_iff, agQB_iff]
    unfold agQ
    constructor
    · rintro (⟨a, ha, _⟩ | ⟨b, hb, _⟩) <;> omega
    · intro h; cases h
  rw [this]; unfold flt; simp
/-- What the list holds, as it grows. -/
def AgL (R : List (List Int)) (m : Int) (i j : Nat) (L : List Int) : Prop := (∀ x, x ∈ L ↔ agP R m i j x) ∧ (∀ x ∈ L, St x) ∧ L.length ≤ 40 * i + j
theorem AgL.none (R : List (List Int)) (m : Int) : AgL R m 0 0 [] := by
  refine ⟨fun x => ⟨fun h => (by cases h), fun h => ?_⟩, fun x hx => (by cases hx), Nat.zero_le _⟩
  unfold agP at h
  rcases h with ⟨b, hb, _⟩ | ⟨a, ha, _⟩
  · omega
  · omega
theorem AgL.distinct {R : List (List Int)} {m : Int} {L : List Int} (h : AgL R m R.length 0 L) : distinctF L = flt (agPB R m R.length 0) 32 := by
  rw [distinctF_flt h.2.1]
  congr 1
  funext x
  rw [Bool.eq_iff_iff, agPB_iff, ← h.1]
  unfold inB'
  simp
theorem AgL.snoc {R : List (List Int)} {m : Int} {i j : Nat} {L : List Int} (h : AgL R m i j L) (hij : j < i) {x : Int} (hx : x = agreeF m (row R j) (row R i)) (hs : St x) : AgL R m i (j + 1) (L ++ [x]) := by
  refine ⟨fun y => ?_, fun y hy => ?_, by simp; have := h.2.2; omega⟩
  · have e := congrFun (agPB_step R m i j hij) y
    rw [List.mem_append, List.mem_singleton, h.1, ← agPB_iff (j := j + 1), ← e, Bool.or_eq_true, agPB_iff, hx]
    simp
  · rcases List.mem_append.1 hy with hy | hy
    · exact h.2.1 y hy
    · simp at hy; subst hy; exact hs
theorem AgL.next {R : List (List Int)} {m : Int} {i : Nat} {L : List Int} (h : AgL R m i i L) (hi : i ≤ 40) : AgL R m (i + 1) 0 L := by
  refine ⟨fun y => ?_, h.2.1, by have := h.2.2; omega⟩
  have e := congrFun (agPB_next R m i) y
  rw [h.1, ← agPB_iff, e, agPB_iff]
theorem agreeSets_st {n : Int} {R : List (List Int)} {m : Int} : ∀ x ∈ agreeSetsF n R m, St x := by
  unfold agreeSetsF
  split
  · intro x hx; have := (flt_mem.1 hx).1; exact ⟨by omega, by omega⟩
  · intro x hx; cases hx
theorem agreeSets_len (n : Int) (R : List (List Int)) (m : Int) : (agreeSetsF n R m).length ≤ 32 := by
  unfold agreeSetsF
  split
  · exact flt_le _ _
  · simp
end Go.Proofs.Ytjbmpnbfiahdhaa
namespace Go.Proofs.Ytjbmpnbfiahdhaa
open Go.RowKit
set_option linter.unusedVariables false
set_option maxRecDepth 100000

set_option maxHeartbeats 1600000 in
theorem c_AgreeSets (n : Int) (oa) (cap : Nat) (R : List (List Int)) (m : Int) (w : World) (hR : RowsAt w oa R) (hcap : R.length ≤ cap) :
    Calls Try.prog 152 #[.agg #[.int .i64 n, .slice oa R.length cap], .int .i64 m] w fun e w' => ∃ v, e = .returned v ∧ OwnI w' w.heap.size v (agreeSetsF n R m) ∧ Below w.heap.size w w' := by
  obtain ⟨i0, hi, hz0, hz1, hz2⟩ := info_parts info_int
  have hb := bel2 w (.cells #[.int .i64 n, .slice oa R.length cap] 26) (.cells #[] 3)
  have a0 := two_a w #[.int .i64 n, .slice oa R.length cap] 26 #[] 3 0 _ rfl
  have a1 := two_a w #[.int .i64 n, .slice oa R.length cap] 26 #[] 3 1 _ rfl
  have hI : OwnI ((w.alloc (.cells #[.int .i64 n, .slice oa R.length cap] 26)).alloc (.cells #[] 3)) (w.heap.size + 1) (.slice (some ⟨w.heap.size + 1, 0, none⟩) 0 0) [] := by
    have h := (OwnI.empty (w.alloc (.cells #[.int .i64 n, .slice oa R.length cap] 26)) _ (Nat.le_refl _))
    simpa using h
  cases ht : isTabF n R
  · have HM : Hid (agreeSetsF n R m = []) := by show agreeSetsF n R m = []; unfold agreeSetsF; rw [ht]; rfl
    go_enter Try.func152, Try.ntmps152
    go_wp2_with (first | (go_at_call 67; refine Calls.mono (Ans.eqb (c_IsTable _ _ _ _ _ (hR.keep hb)) ht) ?_; rintro e w1 ⟨rfl, hbn⟩; replace a0 := cell_keep a0 hbn; replace a1 := cell_keep a1 hbn; replace hI := hI.keep hbn; replace hb := bel_to (w := w) (by first | exact hb | exact hb.alloc hb.size _ | exact (hb.alloc hb.size _).alloc (Nat.le_trans hb.size (by simp)) _ | exact hb.setCell (by simp [hb.size]) _) hbn; clear hbn))
    go_ret
    exact ⟨_, rfl, by rw [HM.out]; exact hI.based (Nat.le_succ _), hb⟩
  cases hm : modeF m
  · have HM : Hid (agreeSetsF n R m = []) := by show agreeSetsF n R m = []; unfold agreeSetsF; rw [ht, hm]; rfl
    go_enter Try.func152, Try.ntmps152
    go_wp2_with (first | (go_at_call 67; refine Calls.mono (Ans.eqb (c_IsTable _ _ _ _ _ (hR.keep hb)) ht) ?_; rintro e w1 ⟨rfl, hbn⟩; replace a0 := cell_keep a0 hbn; replace a1 := cell_keep a1 hbn; replace hI := hI.keep hbn; replace hb := bel_to (w := w) (by first | exact hb | exact hb.alloc hb.size _ | exact (hb.alloc hb.size _).alloc (Nat.le_trans hb.size (by simp)) _ | exact hb.setCell (by simp [hb.size]) _) hbn; clear hbn) | (go_at_call 92; refine Calls.mono (Ans.eqb (c_isMode _ _) hm) ?_; rintro e w1 ⟨rfl, hbn⟩; replace a0 := cell_keep a0 hbn; replace a1 := cell_keep a1 hbn; replace hI := hI.keep hbn; replace hb := bel_to (w := w) (by first | exact hb | exact hb.alloc hb.size _ | exact (hb.alloc hb.size _).alloc (Nat.le_trans hb.size (by simp)) _ | exact hb.setCell (by simp [hb.size]) _) hbn; clear hbn))
    go_ret
    exact ⟨_, rfl, by rw [HM.out]; exact hI.based (Nat.le_succ _), hb⟩
  have HM : Hid (agreeSetsF n R m = flt (agPB R m R.length 0) 32) := by show agreeSetsF n R m = _; unfold agreeSetsF; rw [ht, hm]; rfl
  obtain ⟨hn1, hn5, hr40, hlen⟩ := isTab_of ht
  have HL : Hid (∀ k, k < R.length → ((row R k).length : Int) = n) := hlen
  clear hlen
  go_enter Try.func152, Try.ntmps152
  go_wp2_with (first | (go_at_call 67; refine Calls.mono (Ans.eqb (c_IsTable _ _ _ _ _ (hR.keep hb)) ht) ?_; rintro e w1 ⟨rfl, hbn⟩; replace a0 := cell_keep a0 hbn; replace a1 := cell_keep a1 hbn; replace hI := hI.keep hbn; replace hb := bel_to (w := w) (by first | exact hb | exact hb.alloc hb.size _ | exact (hb.alloc hb.size _).alloc (Nat.le_trans hb.size (by simp)) _ | exact hb.setCell (by simp [hb.size]) _) hbn; clear hbn) | (go_at_call 92; refine Calls.mono (Ans.eqb (c_isMode _ _) hm) ?_; rintro e w1 ⟨rfl, hbn⟩; replace a0 := cell_keep a0 hbn; replace a1 := cell_keep a1 hbn; replace hI := hI.keep hbn; replace hb := bel_to (w := w) (by first | exact hb | exact hb.alloc hb.size _ | exact (hb.alloc hb.size _).alloc (Nat.le_trans hb.size (by simp)) _ | exact hb.setCell (by simp [hb.size]) _) hbn; clear hbn))
  clear ht hm
  go_loopw [5, 23] (fun v k wr => ∃ (i : Nat) (L : List Int), k = .int .i64 i ∧ i ≤ R.length ∧ Hid (AgL R m i 0 L) ∧ OwnI wr (w.heap.size + 1) v L ∧ wr.cell? ⟨w.heap.size, 1, none⟩ = some (.slice oa R.length cap) ∧ Below w.heap.size w wr) (fun _ k _ => R.length - (intOf k).toNat)
  case atStart => exact ⟨0, [], rfl, Nat.zero_le _, AgL.none R m, hI, a1, hb⟩
  case round =>
    clear a0 a1 hb hI
    obtain ⟨i, L, rfl, hi', HAg, hI, a1, hb⟩ := hrel
    by_cases hlt : i < R.length
    · obtain ⟨b, off, rfl, hbs, hca⟩ := hR.at_ (by omega)
      obtain ⟨o1, c1, e1, r1⟩ := hca i hlt
      have hc1 := cell_keep e1 hb
      have HC : Hid (∀ k, k < R.length → ∃ o c, w.cell? ⟨b, off + k, none⟩ = some (.slice o (row R k).length c) ∧ IntsAt w o (row R k)) := hca
      have hic : i ≤ cap := by omega
      clear hca e1
      go_wp2
      go_loopw [5, 33] (fun v k wr => ∃ (j : Nat) (L : List Int), k = .int .i64 j ∧ j ≤ i ∧ Hid (AgL R m i j L) ∧ OwnI wr (w.heap.size + 1) v L ∧ wr.cell? ⟨w.heap.size, 1, none⟩ = some (.slice (some ⟨b, off, none⟩) R.length cap) ∧ Below w.heap.size w wr) (fun _ k _ => i - (intOf k).toNat)
      case atStart => exact ⟨0, L, rfl, Nat.zero_le _, HAg, hI, a1, hb⟩
      case round =>
        clear a1 hb hI hc1 HAg
        obtain ⟨j, L, rfl, hj, HAg, hI, a1, hb⟩ := hrel
        by_cases hlj : j < i
        · obtain ⟨o2, c2, e2, r2⟩ := HC.out j (by omega)
          have hc2 := cell_keep e2 hb
          have hA5 : (row R i).length ≤ 5 := by have := HL.out i hlt; omega
          have hAB : Hid ((row R j).length = (row R i).length) := by have h1 := HL.out i hlt; have h2 := HL.out j (by omega); show (row R j).length = (row R i).length; omega
          have HX : Hid (agreeF m (row R i) (row R j) = agreeF m (row R j) (row R i)) := agree_comm hAB.out.symm
          have HS : Hid (St (agreeF m (row R i) (row R j))) := agreeF_st hA5
          have hll : L.length ≤ 2000 := by have := HAg.out.2.2; omega
          clear e2
          go_wp2_with fail
          refine Calls.mono (c_agree m _ _ _ _ _ _ _ (r1.keep hb) (r2.keep hb) hA5 hAB.out) ?_
          rintro e w1 ⟨rfl, hbn⟩
          replace a1 := cell_keep a1 hbn
          replace hI := hI.keep hbn
          replace hb := bel_to hb hbn
          clear hbn hc2 hA5
          have HY : Hid (∀ x, x = agreeF m (row R i) (row R j) → AgL R m i (j + 1) (L ++ [x])) := fun x hx => HAg.out.snoc hlj (hx.trans HX.out) (hx ▸ HS.out)
          generalize agreeF m (row R i) (row R j) = x at *
          go_wp2_with (first | (at_builtin; refine wpList_append_fresh rfl _ _ 68 rfl (w.heap.size + 1) 3 i0 (.int .i64 0) 1 8 Try.underlying68 hi hz0 hz1 hz2 rfl (by decide) _ _ _ rfl (World.ownsRow.alloc hI _) _ 1 1 [.int .i64 (x)] rfl rfl (by intro j u hj; match j, hj with | 0, hj => simp at hj; subst hj; simp [Addr.add]) (by intro u hu; simp at hu; subst hu; rfl) (by unfold maxLen; omega) (by omega) (by have := World.block_lt_of_cell? _ _ a1; simp at this; simp; omega) ?_; intro v' w1 hown hgrow hfr; replace hb := (hb.alloc hb.size _).grown hgrow (by have := hb.size; simp; omega) (fun g hg => Nat.le_trans (Nat.le_succ _) (World.ownsRow.lt hI g hg).1); replace a1 := cell_gr (cell_al a1 _) (World.ownsRow.alloc hI _) (by omega) hgrow; replace hI := OwnI.snoc hown; clear hown hgrow hfr) | fail)
          go_roundw
          case rel => exact ⟨j + 1, _, by go_num, by omega, HY.out x rfl, hI, a1, hb⟩
          case measure => simp [intOf]; omega
        · have hjj : j = i := by omega
          have HN : Hid (AgL R m (i + 1) 0 L) := by have h := HAg.out; rw [hjj] at h; exact h.next (by omega)
          clear hjj
          go_wp2
          go_roundw
          case rel => exact ⟨i + 1, L, by go_num, by omega, HN.out, hI, a1, hb⟩
          case measure => simp [intOf]; omega
    · have hii : i = R.length := by omega
      have HD : Hid (distinctF L = flt (agPB R m R.length 0) 32) := by have h := HAg.out; rw [hii] at h; exact h.distinct
      have hfr : L.length ≤ Room := by have := HAg.out.2.2; unfold Room; omega
      clear hii HAg
      obtain ⟨oF, cF, rfl, hcF, hnF⟩ := hI.cap
      go_wp2_with fail
      refine (c_distinct _ _ _ _ (hI.ints rfl hfr) hnF).mono ?_
      rintro e w1 ⟨v1, rfl, hD, hbn⟩
      replace hD := hD.based hb.size
      replace hb := bel_to hb hbn
      clear hbn
      go_wp2
      go_ret
      exact ⟨_, rfl, by rw [HM.out, ← HD.out]; exact hD, hb⟩
set_option maxHeartbeats 1600000 in
theorem c_specAgreeSets (n : Int) (oa) (cap : Nat) (R : List (List Int)) (m : Int) (w : World) (hR : RowsAt w oa R) :
    Calls Try.prog 143 #[.agg #[.int .i64 n, .slice oa R.length cap], .int .i64 m] w fun e w' => ∃ v, e = .returned v ∧ OwnI w' w.heap.size v (agreeSetsF n R m) ∧ Below w.heap.size w w' := by
  obtain ⟨i0, hi, hz0, hz1, hz2⟩ := info_parts info_int
  have hb := bel2 w (.cells #[.int .i64 n, .slice oa R.length cap] 26) (.cells #[] 3)
  have a0 := two_a w #[.int .i64 n, .slice oa R.length cap] 26 #[] 3 0 _ rfl
  have a1 := two_a w #[.int .i64 n, .slice oa R.length cap] 26 #[] 3 1 _ rfl
  have hI : OwnI ((w.alloc (.cells #[.int .i64 n, .slice oa R.length cap] 26)).alloc (.cells #[] 3)) (w.heap.size + 1) (.slice (some ⟨w.heap.size + 1, 0, none⟩) 0 0) [] := by
    have h := (OwnI.empty (w.alloc (.cells #[.int .i64 n, .slice oa R.length cap] 26)) _ (Nat.le_refl _))
    simpa using h
  cases hf : (isTabF n R && modeF m)
  · have HM : Hid (agreeSetsF n R m = []) := by show agreeSetsF n R m = []; unfold agreeSetsF; rw [hf]; rfl
    go_enter Try.func143, Try.ntmps143
    go_wp2
    go_loopw [5, 6] (fun v k wr => k = .int .i64 0 ∧ OwnI wr (w.heap.size + 1) v [] ∧ wr.cell? ⟨w.heap.size, 0, none⟩ = some (.int .i64 n) ∧ wr.cell? ⟨w.heap.size, 1, none⟩ = some (.slice oa R.length cap) ∧ Below w.heap.size w wr) (fun _ _ _ => 0)
    case atStart => exact ⟨rfl, hI, a0, a1, hb⟩
    case round =>
      clear a0 a1 hb hI
      obtain ⟨rfl, hI, a0, a1, hb⟩ := hrel
      by_cases h0 : 0 < R.length
      · go_wp2_with (first | (go_at_call 89; refine Calls.mono (Ans.eqb (c_l4Fine _ _ _ _ _ _ (hR.keep hb)) hf) ?_; rintro e w1 ⟨rfl, hbn⟩; replace a0 := cell_keep a0 hbn; replace a1 := cell_keep a1 hbn; replace hI := hI.keep hbn; replace hb := bel_to (w := w) (by first | exact hb | exact hb.alloc hb.size _ | exact (hb.alloc hb.size _).alloc (Nat.le_trans hb.size (by simp)) _ | exact hb.setCell (by simp [hb.size]) _) hbn; clear hbn))
        go_ret
        exact ⟨_, rfl, by rw [HM.out]; exact hI.based (Nat.le_succ _), hb⟩
      · go_wp2
        go_ret
        exact ⟨_, rfl, by rw [HM.out]; exact hI.based (Nat.le_succ _), hb⟩
  have HM : Hid (agreeSetsF n R m = flt (agQB R m R.length 0) 32) := by show agreeSetsF n R m = _; unfold agreeSetsF; rw [hf, agQB_all]; rfl
  have ht : isTabF n R = true := by have := hf; simp only [Bool.and_eq_true] at this; exact this.1
  obtain ⟨hn1, hn5, hr40, hlen⟩ := isTab_of ht
  have HT : Hid (isTabF n R = true) := ht
  have HL : Hid (∀ k, k < R.length → ((row R k).length : Int) = n) := hlen
  clear hlen ht
  go_enter Try.func143, Try.ntmps143
  go_wp2
  go_loopw [5, 6] (fun v k wr => ∃ i : Nat, k = .int .i64 i ∧ i ≤ R.length ∧ OwnI wr (w.heap.size + 1) v (flt (agQB R m i 0) 32) ∧ wr.cell? ⟨w.heap.size, 0, none⟩ = some (.int .i64 n) ∧ wr.cell? ⟨w.heap.size, 1, none⟩ = some (.slice oa R.length cap) ∧ Below w.heap.size w wr) (fun _ k _ => R.length - (intOf k).toNat)
  case atStart => exact ⟨0, rfl, Nat.zero_le _, by rw [agQB_none]; exact hI, a0, a1, hb⟩
  case round =>
    clear a0 a1 hb hI
    obtain ⟨i, rfl, hi', hI, a0, a1, hb⟩ := hrel
    by_cases hlt : i < R.length
    · go_wp2_with (first | (go_at_call 89; refine Calls.mono (Ans.eqb (c_l4Fine _ _ _ _ _ _ (hR.keep hb)) hf) ?_; rintro e w1 ⟨rfl, hbn⟩; replace a0 := cell_keep a0 hbn; replace a1 := cell_keep a1 hbn; replace hI := hI.keep hbn; replace hb := bel_to (w := w) (by first | exact hb | exact hb.alloc hb.size _ | exact (hb.alloc hb.size _).alloc (Nat.le_trans hb.size (by simp)) _ | exact hb.setCell (by simp [hb.size]) _) hbn; clear hbn))
      go_loopw [5, 7] (fun v k wr => ∃ j : Nat, k = .int .i64 j ∧ i < j ∧ j ≤ R.length ∧ OwnI wr (w.heap.size + 1) v (flt (agQB R m i j) 32) ∧ wr.cell? ⟨w.heap.size, 0, none⟩ = some (.int .i64 n) ∧ wr.cell? ⟨w.heap.size, 1, none⟩ = some (.slice oa R.length cap) ∧ Below w.heap.size w wr) (fun _ k _ => R.length - (intOf k).toNat)
      case atStart => exact ⟨i + 1, by go_num, by omega, by omega, by rw [agQB_first]; exact hI, a0, a1, hb⟩
      case round =>
        clear a0 a1 hb hI
        obtain ⟨j, rfl, hij, hj, hI, a0, a1, hb⟩ := hrel
        by_cases hlj : j < R.length
        · have HS : Hid (St (agreeF m (row R i) (row R j))) := agreeF_st (by have := HL.out i hlt; omega)
          have HX : Hid (putF (flt (agQB R m i j) 32) (agreeF m (row R i) (row R j)) = flt (agQB R m i (j + 1)) 32) := (putF_flt _ HS.out).trans (by rw [agQB_step R m i j hij])
          have hfl := flt_le (agQB R m i j) 32
          go_wp2_with fail
          refine Calls.mono (c_l4Agree n _ _ _ m i j _ (hR.keep hb) HT.out hlt hlj) ?_
          rintro e w1 ⟨rfl, hbn⟩
          replace a0 := cell_keep a0 hbn
          replace a1 := cell_keep a1 hbn
          replace hI := hI.keep hbn
          replace hb := bel_to hb hbn
          clear hbn
          generalize agreeF m (row R i) (row R j) = x at *
          generalize flt (agQB R m i j) 32 = F at *
          obtain ⟨oF, cF, rfl⟩ := hI.shape
          go_wp2_with fail
          refine (c_l4Put _ _ _ _ _ _ (by omega) hI (by have := World.block_lt_of_cell? _ _ a1; simp at this; omega)).mono ?_
          rintro e w2 ⟨v2, rfl, hI2, hbn⟩
          replace a0 := cell_keep a0 hbn
          replace a1 := cell_keep a1 hbn
          replace hb := bel_to hb hbn
          clear hbn hI
          go_wp2
          go_roundw
          case rel => exact ⟨j + 1, by go_num, by omega, by omega, by rw [← HX.out]; exact hI2, a0, a1, hb⟩
          case measure => simp [intOf]; omega
        · have hjj : j = R.length := by omega
          have HX : Hid (flt (agQB R m i j) 32 = flt (agQB R m (i + 1) 0) 32) := by
            show flt (agQB R m i j) 32 = flt (agQB R m (i + 1) 0) 32
            rw [hjj, agQB_next R m i hlt, agQB_first]
          clear hjj
          go_wp2
          go_roundw
          case rel => exact ⟨i + 1, by go_num, by omega, by rw [← HX.out]; exact hI, a0, a1, hb⟩
          case measure => simp [intOf]; omega
    · have hii : i = R.length := by omega
      have HI2 : Hid (flt (agQB R m i 0) 32 = flt (agQB R m R.length 0) 32) := by show flt (agQB R m i 0) 32 = flt (agQB R m R.length 0) 32; rw [hii]
      clear hii
      go_wp2
      go_ret
      exact ⟨_, rfl, by rw [HM.out, ← HI2.out]; exact hI.based (Nat.le_succ _), hb⟩
end Go.Proofs.Ytjbmpnbfiahdhaa
namespace Go.Proofs.Ytjbmpnbfiahdhaa
open Go.RowKit
set_option linter.unusedVariables false
set_option maxRecDepth 100000

def growOne (e x : Int) : List Int := if apart x e then (membersF e).map (fun c => uni x (one c)) else [x]
def grownF (L : List Int) (e : Int) : List Int := L.flatMap (growOne e)
def growOk (L : List Int) (e : Int) : Bool := (setsF L && decide (L.length ≤ 100)) && stB e
def growF (L : List Int) (e : Int) : List Int := if growOk L e then minF (distinctF (grownF L e)) else []
theorem growOne_len (e x : Int) : (growOne e x).length ≤ 5 := by
  unfold growOne
  split
  · rw [List.length_map]; exact members_len e
  · simp
theorem grown_succ {L : List Int} (e : Int) {k : Nat} (hk : k < L.length) : grownF (L.take (k + 1)) e = grownF (L.take k) e ++ growOne e (nth L k) := by
  unfold grownF
  rw [List.take_add_one, nth_eq hk, List.flatMap_append]
  simp
theorem grown_len (e : Int) : ∀ L : List Int, (grownF L e).length ≤ 5 * L.length
  | [] => by simp [grownF]
  | x :: L => by
    have h1 := growOne_len e x
    have h2 := grown_len e L
    have : grownF (x :: L) e = growOne e x ++ grownF L e := rfl
    rw [this, List.length_append, List.length_cons]
    omega
theorem growOne_st {e x : Int} (hx : St x) : ∀ y ∈ growOne e x, St y := by
  intro y hy
  unfold growOne at hy
  split at hy
  · obtain ⟨c, hc, rfl⟩ := List.mem_map.1 hy
    exact uni_st hx (one_st (members_co c hc).1)
  · simp at hy; subst hy; exact hx
theorem grown_st {L : List Int} {e : Int} (h : ∀ x ∈ L, St x) : ∀ y ∈ grownF L e, St y := by
  intro y hy
  obtain ⟨x, hx, hy⟩ := List.mem_flatMap.1 hy
  exact growOne_st (h x hx) y hy
theorem growF_len (L : List Int) (e : Int) : (growF L e).length ≤ Room := by
  unfold growF
  split
  · have := minF_len (distinctF (grownF L e)); unfold Room; omega
  · simp
theorem map_take_succ {f : Int → Int} {M : List Int} {j : Nat} (h : j < M.length) : (M.take (j + 1)).map f = (M.take j).map f ++ [f (nth M j)] := by
  rw [List.take_add_one, nth_eq h, List.map_append]; rfl

end Go.Proofs.Ytjbmpnbfiahdhaa
