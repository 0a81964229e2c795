/- IsTable and the set of the columns in which two rows agree, of the program and of the reference. -/
import Derived.Test.YtkanbnbofoabeaaTab3
namespace Go.Proofs.Ytkanbnbofoabeaa
open Go.RowKit
set_option linter.unusedVariables false
set_option maxRecDepth 100000

theorem isTab_of {n : Int} {R : List (List Int)} (h : isTabF n R = true) : 1 ≤ n ∧ n ≤ 5 ∧ R.length ≤ 40 ∧ ∀ k, k < R.length → ((row R k).length : Int) = n := by
  unfold isTabF at h
  simp only [Bool.and_eq_true, decide_eq_true_eq] at h
  refine ⟨h.2.1.1, h.2.1.2, h.2.2, fun k hk => ?_⟩
  have := List.all_eq_true.1 h.1 _ (row_mem hk)
  unfold rowOk at this
  simp only [Bool.and_eq_true, beq_iff_eq] at this
  exact this.2
theorem c_IsTable (n : Int) (oa) (cap : Nat) (R : List (List Int)) (w : World) (hR : RowsAt w oa R) :
    Ans Try.prog 79 #[.agg #[.int .i64 n, .slice oa R.length cap]] w (.bool (isTabF n R)) := by
  unfold Ans
  have hn : R.length ≤ 1073741824 := hR.len
  have hb := (Below.refl w.heap.size w).alloc (Nat.le_refl _) (.cells #[.int .i64 n, .slice oa R.length cap] 28)
  have b0 := box_at w #[.int .i64 n, .slice oa R.length cap] 28 0 _ rfl
  have b1 := box_at w #[.int .i64 n, .slice oa R.length cap] 28 1 _ rfl
  by_cases h1 : n < 1
  · go_enter Try.func79, Try.ntmps79
    go_wp2
    go_ret
    exact ⟨ret_bool (by unfold isTabF; rw [decide_eq_false (show ¬ (1 ≤ n) by omega)]; simp), hb⟩
  by_cases h5 : 5 < n
  · go_enter Try.func79, Try.ntmps79
    go_wp2
    go_ret
    exact ⟨ret_bool (by unfold isTabF; rw [decide_eq_false (show ¬ (n ≤ 5) by omega)]; simp), hb⟩
  by_cases h40 : 40 < R.length
  · go_enter Try.func79, Try.ntmps79
    go_wp2
    go_ret
    exact ⟨ret_bool (by unfold isTabF; rw [decide_eq_false (show ¬ (R.length ≤ 40) by omega)]; simp), hb⟩
  have HB : Hid (∀ b, R.all (rowOk n) = b → isTabF n R = b) := fun b h => by
    unfold isTabF; rw [h, decide_eq_true (show 1 ≤ n by omega), decide_eq_true (show n ≤ 5 by omega), decide_eq_true (show R.length ≤ 40 by omega)]; simp
  go_enter Try.func79, Try.ntmps79
  go_wp2
  go_loopw [22] (fun i wr => ∃ k : Nat, i = .int .i64 k ∧ k ≤ R.length ∧ (R.take k).all (rowOk n) = true ∧ wr.cell? ⟨w.heap.size, 0, none⟩ = some (.int .i64 n) ∧ Below w.heap.size w wr) (fun i _ => R.length - (intOf i).toNat)
  case atStart => exact ⟨0, rfl, Nat.zero_le _, by simp, b0, hb⟩
  case round =>
    clear b0 b1 hb
    obtain ⟨k, rfl, hk, hall, b0, hb⟩ := hrel
    have HA : Hid ((R.take k).all (rowOk n) = true) := hall
    clear hall
    by_cases hlt : k < R.length
    · obtain ⟨b, off, rfl, hbs, hc⟩ := hR.at_ (by omega)
      obtain ⟨o, c, h1', hr⟩ := hc k hlt
      have hc1 := cell_keep h1' hb
      have HT : Hid ((R.take (k + 1)).all (rowOk n) = ((R.take k).all (rowOk n) && rowOk n (row R k))) := rall_take_succ _ R k hlt
      have HF : Hid (rowOk n (row R k) = false → R.all (rowOk n) = false) := rall_false _ R k hlt
      clear hc h1'
      generalize row R k = L at *
      cases hok : rowOk n L
      · go_wp2_with (first | (go_at_call 124; refine Calls.mono (Ans.eqb (c_isRow _ _ _ _ _ (hr.keep hb)) hok) ?_; rintro e w1 ⟨rfl, hbn⟩; replace b0 := cell_keep b0 hbn; replace hb := bel_to (w := w) (by first | exact hb | exact hb.alloc hb.size _ | exact (hb.alloc hb.size _).alloc (Nat.le_trans hb.size (by simp)) _ | exact hb.setCell (by simp [hb.size]) _) hbn; clear hbn))
        go_ret
        exact ⟨ret_bool (HB.out _ (HF.out hok)).symm, hb⟩
      · go_wp2_with (first | (go_at_call 124; refine Calls.mono (Ans.eqb (c_isRow _ _ _ _ _ (hr.keep hb)) hok) ?_; rintro e w1 ⟨rfl, hbn⟩; replace b0 := cell_keep b0 hbn; replace hb := bel_to (w := w) (by first | exact hb | exact hb.alloc hb.size _ | exact (hb.alloc hb.size _).alloc (Nat.le_trans hb.size (by simp)) _ | exact hb.setCell (by simp [hb.size]) _) hbn; clear hbn))
        go_roundw
        case rel => exact ⟨k + 1, by go_num, by omega, by rw [HT.out, HA.out, hok]; rfl, b0, hb⟩
        case measure => simp [intOf]; omega
    · have hkk : k = R.length := by omega
      have HS : Hid (R.all (rowOk n) = true) := by have := HA.out; rw [hkk, List.take_length] at this; exact this
      clear hkk
      go_wp2
      go_ret
      exact ⟨ret_bool (HB.out _ HS.out).symm, hb⟩
theorem c_specIsTable (n : Int) (oa) (cap : Nat) (R : List (List Int)) (w : World) (hR : RowsAt w oa R) :
    Ans Try.prog 121 #[.agg #[.int .i64 n, .slice oa R.length cap]] w (.bool (isTabF n R)) := by
  unfold Ans
  have hn : R.length ≤ 1073741824 := hR.len
  have hb := (Below.refl w.heap.size w).alloc (Nat.le_refl _) (.cells #[.int .i64 n, .slice oa R.length cap] 28)
  have b0 := box_at w #[.int .i64 n, .slice oa R.length cap] 28 0 _ rfl
  have b1 := box_at w #[.int .i64 n, .slice oa R.length cap] 28 1 _ rfl
  go_enter Try.func121, Try.ntmps121
  go_wp2
  go_loopw [3] (fun i wr => ∃ k : Nat, i = .int .i64 k ∧ k ≤ R.length ∧ (R.take k).all (rowOk n) = true ∧ wr.cell? ⟨w.heap.size, 0, none⟩ = some (.int .i64 n) ∧ wr.cell? ⟨w.heap.size, 1, none⟩ = some (.slice oa R.length cap) ∧ Below w.heap.size w wr) (fun i _ => R.length - (intOf i).toNat)
  case atStart => exact ⟨0, rfl, Nat.zero_le _, by simp, b0, b1, hb⟩
  case round =>
    clear b0 b1 hb
    obtain ⟨k, rfl, hk, hall, b0, b1, hb⟩ := hrel
    have HA : Hid ((R.take k).all (rowOk n) = true) := hall
    clear hall
    by_cases hlt : k < R.length
    · obtain ⟨b, off, rfl, hbs, hc⟩ := hR.at_ (by omega)
      obtain ⟨o, c, h1', hr⟩ := hc k hlt
      have hc1 := cell_keep h1' hb
      have hx := fun (x : After wr) => (hr.keep hb).keep x.bel
      have HT : Hid ((R.take (k + 1)).all (rowOk n) = ((R.take k).all (rowOk n) && rowOk n (row R k))) := rall_take_succ _ R k hlt
      have HF : Hid (rowOk n (row R k) = false → R.all (rowOk n) = false) := rall_false _ R k hlt
      clear hc h1'
      generalize row R k = L at *
      cases hok : rowOk n L
      · go_wp2_with fail
        (refine wp_region_after (by kernel_rfl) (by kernel_rfl) ?_; have q_b0 := fun (x : After _) => cell_keep b0 x.bel; have q_b1 := fun (x : After _) => cell_keep b1 x.bel; have q_hc1 := fun (x : After _) => cell_keep hc1 x.bel; (repeat (go_big_quiet_step ((first | (go_at_call 151; exact Ans.after (Ans.eqb (c_l3Row _ _ _ _ _ (hx _)) hok)))))); clear q_b0; clear q_b1; clear q_hc1; refine wpQuiet_nil ?_; rintro _ ⟨⟨w1, hbn⟩, rfl⟩; (try simp only [After.w]); replace b0 := cell_keep b0 hbn; replace b1 := cell_keep b1 hbn; replace hc1 := cell_keep hc1 hbn; replace hb := bel_to (w := w) (by first | exact hb | exact hb.alloc hb.size _ | exact (hb.alloc hb.size _).alloc (Nat.le_trans hb.size (by simp)) _ | exact hb.setCell (by simp [hb.size]) _) hbn; clear hbn)
        go_wp2
        go_ret
        exact ⟨ret_bool (by unfold isTabF; rw [HF.out hok]; rfl), hb⟩
      · go_wp2_with fail
        (refine wp_region_after (by kernel_rfl) (by kernel_rfl) ?_; have q_b0 := fun (x : After _) => cell_keep b0 x.bel; have q_b1 := fun (x : After _) => cell_keep b1 x.bel; have q_hc1 := fun (x : After _) => cell_keep hc1 x.bel; (repeat (go_big_quiet_step ((first | (go_at_call 151; exact Ans.after (Ans.eqb (c_l3Row _ _ _ _ _ (hx _)) hok)))))); clear q_b0; clear q_b1; clear q_hc1; refine wpQuiet_nil ?_; rintro _ ⟨⟨w1, hbn⟩, rfl⟩; (try simp only [After.w]); replace b0 := cell_keep b0 hbn; replace b1 := cell_keep b1 hbn; replace hc1 := cell_keep hc1 hbn; replace hb := bel_to (w := w) (by first | exact hb | exact hb.alloc hb.size _ | exact (hb.alloc hb.size _).alloc (Nat.le_trans hb.size (by simp)) _ | exact hb.setCell (by simp [hb.size]) _) hbn; clear hbn)
        go_wp2
        go_roundw
        case rel => exact ⟨k + 1, by go_num, by omega, by rw [HT.out, HA.out, hok]; rfl, b0, b1, hb⟩
        case measure => simp [intOf]; omega
    · have hkk : k = R.length := by omega
      have HS : Hid (R.all (rowOk n) = true) := by have := HA.out; rw [hkk, List.take_length] at this; exact this
      clear hkk
      cases hin : inB n 1 5
      · go_wp2_with (first | (go_at_call 95; refine Calls.mono (Ans.eqb (c_l1In _ _ _ _) hin) ?_; rintro e w1 ⟨rfl, hbn⟩; replace b1 := cell_keep b1 hbn; replace hb := bel_to (w := w) (by first | exact hb | exact hb.alloc hb.size _ | exact (hb.alloc hb.size _).alloc (Nat.le_trans hb.size (by simp)) _ | exact hb.setCell (by simp [hb.size]) _) hbn; clear hbn))
        go_ret
        exact ⟨ret_bool (by unfold inB at hin; unfold isTabF; rw [HS.out, hin]; rfl), hb⟩
      · go_wp2_with (first | (go_at_call 95; refine Calls.mono (Ans.eqb (c_l1In _ _ _ _) hin) ?_; rintro e w1 ⟨rfl, hbn⟩; replace b1 := cell_keep b1 hbn; replace hb := bel_to (w := w) (by first | exact hb | exact hb.alloc hb.size _ | exact (hb.alloc hb.size _).alloc (Nat.le_trans hb.size (by simp)) _ | exact hb.setCell (by simp [hb.size]) _) hbn; clear hbn))
        go_ret
        exact ⟨ret_bool (by unfold inB at hin; unfold isTabF; rw [HS.out, hin, Bool.true_and, Bool.true_and, decide_eq_decide]; omega), hb⟩
theorem c_l4Fine (n : Int) (oa) (cap : Nat) (R : List (List Int)) (m : Int) (w : World) (hR : RowsAt w oa R) :
    Ans Try.prog 75 #[.agg #[.int .i64 n, .slice oa R.length cap], .int .i64 m] w (.bool (isTabF n R && modeF m)) := by
  unfold Ans
  have hb := (Below.refl w.heap.size w).alloc (Nat.le_refl _) (.cells #[.int .i64 n, .slice oa R.length cap] 28)
  go_enter Try.func75, Try.ntmps75
  cases ht : isTabF n R
  · go_wp2_with (first | (go_at_call 121; refine Calls.mono (Ans.eqb (c_specIsTable _ _ _ _ _ (hR.keep hb)) ht) ?_; rintro e w1 ⟨rfl, hbn⟩; replace hb := bel_to (w := w) (by first | exact hb | exact hb.alloc hb.size _ | exact (hb.alloc hb.size _).alloc (Nat.le_trans hb.size (by simp)) _ | exact hb.setCell (by simp [hb.size]) _) hbn; clear hbn))
    go_ret
    exact ⟨rfl, hb⟩
  · go_wp2_with (first | (go_at_call 121; refine Calls.mono (Ans.eqb (c_specIsTable _ _ _ _ _ (hR.keep hb)) ht) ?_; rintro e w1 ⟨rfl, hbn⟩; replace hb := bel_to (w := w) (by first | exact hb | exact hb.alloc hb.size _ | exact (hb.alloc hb.size _).alloc (Nat.le_trans hb.size (by simp)) _ | exact hb.setCell (by simp [hb.size]) _) hbn; clear hbn) | (go_at_call 122; refine Calls.mono (c_l4Mode _ _) ?_; rintro e w1 ⟨rfl, hbn⟩; replace hb := bel_to (w := w) (by first | exact hb | exact hb.alloc hb.size _ | exact (hb.alloc hb.size _).alloc (Nat.le_trans hb.size (by simp)) _ | exact hb.setCell (by simp [hb.size]) _) hbn; clear hbn))
    go_ret
    exact ⟨rfl, hb⟩
set_option maxHeartbeats 400000 in
theorem c_agree (m : Int) (oa ob) (ca cb : Nat) (A B : List Int) (w : World) (hA : IntsAt w oa A) (hB : IntsAt w ob B) (hl : A.length ≤ 5) (hAB : B.length = A.length) :
    Ans Try.prog 152 #[.int .i64 m, .slice oa A.length ca, .slice ob B.length cb] w (.int .i64 (agreeF m A B)) := by
  unfold Ans
  have HL : Hid (B.length = A.length) := hAB
  have hlb : A.length ≤ B.length := by omega
  clear hAB
  go_enter Try.func152, Try.ntmps152
  go_wp2
  go_loopw [7, 11] (fun x i wr => ∃ k : Nat, i = .int .i64 k ∧ k ≤ A.length ∧ x = .int .i64 ((List.range k).foldl (agreeStep m A B) 0) ∧ Below w.heap.size w wr) (fun _ i _ => A.length - (intOf i).toNat)
  case atStart => exact ⟨0, rfl, Nat.zero_le _, rfl, Below.refl _ _⟩
  case round =>
    obtain ⟨k, rfl, hk, rfl, hb⟩ := hrel
    by_cases hlt : k < A.length
    · obtain ⟨b1, off1, rfl, hbs1, hca⟩ := hA.at_ (by omega)
      obtain ⟨b2, off2, rfl, hbs2, hcb⟩ := hB.at_ (by omega)
      have hc1 := cell_keep (hca k hlt) hb
      have hc2 := cell_keep (hcb k (by omega)) hb
      have HS : Hid ((List.range (k + 1)).foldl (agreeStep m A B) 0 = agreeStep m A B ((List.range k).foldl (agreeStep m A B) 0) k) := range_succ_fold _ _ _
      have HG : Hid (∀ x, agreeStep m A B x k = if eqCellF m (nth A k) (nth B k) then uni x (one k) else x) := fun x => rfl
      clear hca hcb
      generalize (List.range k).foldl (agreeStep m A B) 0 = x at *
      generalize nth A k = a at *
      generalize nth B k = b at *
      cases he : eqCellF m a b
      · go_wp2_with fail
        (refine wp_region_after (by kernel_rfl) (by kernel_rfl) ?_; have q_hc1 := fun (x : After _) => cell_keep hc1 x.bel; have q_hc2 := fun (x : After _) => cell_keep hc2 x.bel; (repeat (go_big_quiet_step ((first | (go_at_call 92; exact Ans.after (Ans.eqb (c_EqualCells _ _ _ _) he)))))); clear q_hc1; clear q_hc2; refine wpQuiet_nil ?_; rintro _ ⟨⟨w1, hbn⟩, rfl⟩; (try simp only [After.w]); replace hc1 := cell_keep hc1 hbn; replace hc2 := cell_keep hc2 hbn; replace hb := bel_to (w := w) (by first | exact hb | exact hb.alloc hb.size _ | exact (hb.alloc hb.size _).alloc (Nat.le_trans hb.size (by simp)) _ | exact hb.setCell (by simp [hb.size]) _) hbn; clear hbn)
        go_wp2
        go_roundw
        case rel => exact ⟨k + 1, by go_num, by omega, by rw [HS.out, HG.out, he]; rfl, hb⟩
        case measure => simp [intOf]; omega
      · go_wp2_with fail
        (refine wp_region_after (by kernel_rfl) (by kernel_rfl) ?_; have q_hc1 := fun (x : After _) => cell_keep hc1 x.bel; have q_hc2 := fun (x : After _) => cell_keep hc2 x.bel; (repeat (go_big_quiet_step ((first | (go_at_call 92; exact Ans.after (Ans.eqb (c_EqualCells _ _ _ _) he)))))); clear q_hc1; clear q_hc2; refine wpQuiet_nil ?_; rintro _ ⟨⟨w1, hbn⟩, rfl⟩; (try simp only [After.w]); replace hc1 := cell_keep hc1 hbn; replace hc2 := cell_keep hc2 hbn; replace hb := bel_to (w := w) (by first | exact hb | exact hb.alloc hb.size _ | exact (hb.alloc hb.size _).alloc (Nat.le_trans hb.size (by simp)) _ | exact hb.setCell (by simp [hb.size]) _) hbn; clear hbn)
        go_wp2
        go_roundw
        case rel => exact ⟨k + 1, by go_num, by omega, by rw [HS.out, HG.out, he]; rfl, hb⟩
        case measure => simp [intOf]; omega
    · have hkk : k = A.length := by omega
      have HK : Hid (k = A.length) := hkk
      clear hkk
      go_wp2
      go_ret
      exact ⟨ret_int (by rw [HK.out]; rfl), hb⟩
set_option maxHeartbeats 800000 in
theorem c_l4Agree (n : Int) (oa) (ca : Nat) (R : List (List Int)) (m : Int) (i j : Nat) (w : World) (hR : RowsAt w oa R) (ht : isTabF n R = true) (hi : i < R.length) (hj : j < R.length) :
    Ans Try.prog 90 #[.agg #[.int .i64 n, .slice oa R.length ca], .int .i64 m, .int .i64 i, .int .i64 j] w (.int .i64 (agreeF m (row R i) (row R j))) := by
  unfold Ans
  obtain ⟨hn1, hn5, hr40, hlen⟩ := isTab_of ht
  have li := hlen i hi
  have lj := hlen j hj
  clear hlen ht
  obtain ⟨b, off, rfl, hbs, hca⟩ := hR.at_ (by omega)
  obtain ⟨o1, c1, h1, r1⟩ := hca i hi
  obtain ⟨o2, c2, h2, r2⟩ := hca j hj
  clear hca hR
  have HN : Hid (n = (row R i).length) := li.symm
  have HF : Hid (agreeF m (row R i) (row R j) = (List.range (row R i).length).foldl (agreeStep m (row R i) (row R j)) 0) := rfl
  have hAB : (row R j).length = (row R i).length := by omega
  generalize row R i = A at *
  generalize row R j = B at *
  have hA5 : A.length ≤ 5 := by omega
  have HL : Hid (B.length = A.length) := hAB
  have hlb : A.length ≤ B.length := by omega
  obtain rfl : n = (A.length : Int) := by omega
  clear hAB li lj HN
  have hb := (Below.refl w.heap.size w).alloc (Nat.le_refl _) (.cells #[.int .i64 A.length, .slice (some ⟨b, off, none⟩) R.length ca] 28)
  have b0 := box_at w #[.int .i64 A.length, .slice (some ⟨b, off, none⟩) R.length ca] 28 0 _ rfl
  have b1 := box_at w #[.int .i64 A.length, .slice (some ⟨b, off, none⟩) R.length ca] 28 1 _ rfl
  go_enter Try.func90, Try.ntmps90
  go_wp2
  go_loopw [9, 10] (fun x i wr => ∃ k : Nat, i = .int .i64 k ∧ k ≤ A.length ∧ x = .int .i64 ((List.range k).foldl (agreeStep m A B) 0) ∧ wr.cell? ⟨w.heap.size, 0, none⟩ = some (.int .i64 A.length) ∧ wr.cell? ⟨w.heap.size, 1, none⟩ = some (.slice (some ⟨b, off, none⟩) R.length ca) ∧ Below w.heap.size w wr) (fun _ i _ => A.length - (intOf i).toNat)
  case atStart => exact ⟨0, rfl, Nat.zero_le _, rfl, b0, b1, hb⟩
  case round =>
    clear b0 b1 hb
    obtain ⟨k, rfl, hk, rfl, b0, b1, hb⟩ := hrel
    have d1 := cell_keep h1 hb
    have d2 := cell_keep h2 hb
    by_cases hlt : k < A.length
    · obtain ⟨b3, off3, rfl, hbs3, hca⟩ := r1.at_ (by omega)
      obtain ⟨b4, off4, rfl, hbs4, hcb⟩ := r2.at_ (by omega)
      have hc1 := cell_keep (hca k hlt) hb
      have hc2 := cell_keep (hcb k (by omega)) hb
      have HS : Hid ((List.range (k + 1)).foldl (agreeStep m A B) 0 = agreeStep m A B ((List.range k).foldl (agreeStep m A B) 0) k) := range_succ_fold _ _ _
      have HG : Hid (∀ x, agreeStep m A B x k = if eqCellF m (nth A k) (nth B k) then uni x (one k) else x) := fun x => rfl
      clear hca hcb
      generalize (List.range k).foldl (agreeStep m A B) 0 = x at *
      generalize nth A k = a at *
      generalize nth B k = b' at *
      cases he : eqCellF m a b'
      · go_wp2_with fail
        (refine wp_region_after (by kernel_rfl) (by kernel_rfl) ?_; have q_b0 := fun (x : After _) => cell_keep b0 x.bel; have q_b1 := fun (x : After _) => cell_keep b1 x.bel; have q_d1 := fun (x : After _) => cell_keep d1 x.bel; have q_d2 := fun (x : After _) => cell_keep d2 x.bel; have q_hc1 := fun (x : After _) => cell_keep hc1 x.bel; have q_hc2 := fun (x : After _) => cell_keep hc2 x.bel; (repeat (go_big_quiet_step ((first | (go_at_call 131; exact Ans.after (Ans.eqb (c_specEqualCells _ _ _ _) he)))))); clear q_b0; clear q_b1; clear q_d1; clear q_d2; clear q_hc1; clear q_hc2; refine wpQuiet_nil ?_; rintro _ ⟨⟨w1, hbn⟩, rfl⟩; (try simp only [After.w]); replace b0 := cell_keep b0 hbn; replace b1 := cell_keep b1 hbn; replace d1 := cell_keep d1 hbn; replace d2 := cell_keep d2 hbn; replace hc1 := cell_keep hc1 hbn; replace hc2 := cell_keep hc2 hbn; replace hb := bel_to (w := w) (by first | exact hb | exact hb.alloc hb.size _ | exact (hb.alloc hb.size _).alloc (Nat.le_trans hb.size (by simp)) _ | exact hb.setCell (by simp [hb.size]) _) hbn; clear hbn)
        go_wp2
        go_roundw
        case rel => exact ⟨k + 1, by go_num, by omega, by rw [HS.out, HG.out, he]; rfl, b0, b1, hb⟩
        case measure => simp [intOf]; omega
      · go_wp2_with fail
        (refine wp_region_after (by kernel_rfl) (by kernel_rfl) ?_; have q_b0 := fun (x : After _) => cell_keep b0 x.bel; have q_b1 := fun (x : After _) => cell_keep b1 x.bel; have q_d1 := fun (x : After _) => cell_keep d1 x.bel; have q_d2 := fun (x : After _) => cell_keep d2 x.bel; have q_hc1 := fun (x : After _) => cell_keep hc1 x.bel; have q_hc2 := fun (x : After _) => cell_keep hc2 x.bel; (repeat (go_big_quiet_step ((first | (go_at_call 131; exact Ans.after (Ans.eqb (c_specEqualCells _ _ _ _) he)))))); clear q_b0; clear q_b1; clear q_d1; clear q_d2; clear q_hc1; clear q_hc2; refine wpQuiet_nil ?_; rintro _ ⟨⟨w1, hbn⟩, rfl⟩; (try simp only [After.w]); replace b0 := cell_keep b0 hbn; replace b1 := cell_keep b1 hbn; replace d1 := cell_keep d1 hbn; replace d2 := cell_keep d2 hbn; replace hc1 := cell_keep hc1 hbn; replace hc2 := cell_keep hc2 hbn; replace hb := bel_to (w := w) (by first | exact hb | exact hb.alloc hb.size _ | exact (hb.alloc hb.size _).alloc (Nat.le_trans hb.size (by simp)) _ | exact hb.setCell (by simp [hb.size]) _) hbn; clear hbn)
        go_wp2
        go_roundw
        case rel => exact ⟨k + 1, by go_num, by omega, by rw [HS.out, HG.out, he]; rfl, b0, b1, hb⟩
        case measure => simp [intOf]; omega
    · have hkk : k = A.length := by omega
      have HK : Hid (k = A.length) := hkk
      clear hkk
      go_wp2
      go_ret
      exact ⟨ret_int (by rw [HF.out, HK.out]), hb⟩
end Go.Proofs.Ytkanbnbofoabeaa
