/- MinimalDeps, of the program and of the reference. -/
import Derived.Test.YtaomdnibnnobiaaMinD2
import Derived.Test.YtaomdnibnnobiaaBorder
namespace Go.Proofs.Ytaomdnibnnobiaa
open Go.RowKit
set_option linter.unusedVariables false
set_option maxRecDepth 100000

theorem c_closM (n : Int) (oa) (cap : Nat) (R : List (List Int)) (m x r : Int) (B C : Nat) (w : World) (hR : RowsAt w oa R) (a0 : w.cell? ⟨B, 0, none⟩ = some (.int .i64 n)) (a1 : w.cell? ⟨B, 1, none⟩ = some (.slice oa R.length cap)) (m0 : w.cell? ⟨C, 0, none⟩ = some (.int .i64 m)) :
    Ans Try.prog 69 #[.agg #[.int .i64 x, .int .i64 r], .pointer (some ⟨B, 0, none⟩), .pointer (some ⟨C, 0, none⟩)] w (.bool (askF n R m x r && holdsF R m x r)) := by
  unfold Ans
  have hb := (Below.refl w.heap.size w).alloc (Nat.le_refl _) (.cells #[.int .i64 x, .int .i64 r] 54)
  have b0 := cell_al a0 (.cells #[.int .i64 x, .int .i64 r] 54)
  have b1 := cell_al a1 (.cells #[.int .i64 x, .int .i64 r] 54)
  have c0 := cell_al m0 (.cells #[.int .i64 x, .int .i64 r] 54)
  clear a0 a1 m0
  go_enter Try.func69, Try.ntmps69
  go_wp2_with (first | (go_at_call 70; refine Calls.mono (c_HoldsDep _ _ _ _ _ _ _ _ (hR.keep hb)) ?_; rintro e w1 ⟨rfl, hbn⟩; replace hb := bel_to (w := w) (by first | exact hb | exact hb.alloc hb.size _ | exact (hb.alloc hb.size _).alloc (Nat.le_trans hb.size (by simp)) _ | exact hb.setCell (by simp [hb.size]) _) hbn; clear hbn))
  go_ret
  exact ⟨rfl, hb⟩
theorem OwnD.nil (w : World) (base : Nat) : OwnD w base (.slice none 0 0) [] := ⟨rfl, Or.inl ⟨rfl, rfl⟩⟩
set_option maxHeartbeats 800000 in
theorem c_MinimalDeps (n : Int) (oa) (cap : Nat) (R : List (List Int)) (m : Int) (w : World) (hR : RowsAt w oa R) :
    Calls Try.prog 31 #[.agg #[.int .i64 n, .slice oa R.length cap], .int .i64 m] w fun e w' => ∃ v, e = .returned v ∧ OwnD w' w.heap.size v (minDepsF n R m) ∧ Below w.heap.size w w' := by
  have hb := bel2 w (.cells #[.int .i64 n, .slice oa R.length cap] 41) (.cells #[.int .i64 m] 3)
  have a0 := two_a w #[.int .i64 n, .slice oa R.length cap] 41 #[.int .i64 m] 3 0 _ rfl
  have a1 := two_a w #[.int .i64 n, .slice oa R.length cap] 41 #[.int .i64 m] 3 1 _ rfl
  have m0 := two_b w #[.int .i64 n, .slice oa R.length cap] 41 #[.int .i64 m] 3 0 _ rfl
  cases ht : isTabF n R
  · have HM : Hid (minDepsF n R m = []) := by show minDepsF n R m = []; unfold minDepsF; rw [ht]; rfl
    go_enter Try.func31, Try.ntmps31
    go_wp2_with (first | (go_at_call 62; refine Calls.mono (Ans.eqb (c_IsTable _ _ _ _ _ (hR.keep hb)) ht) ?_; rintro e w1 ⟨rfl, hbn⟩; replace a0 := cell_keep a0 hbn; replace a1 := cell_keep a1 hbn; replace m0 := cell_keep m0 hbn; replace hb := bel_to (w := w) (by first | exact hb | exact hb.alloc hb.size _ | exact (hb.alloc hb.size _).alloc (Nat.le_trans hb.size (by simp)) _ | exact hb.setCell (by simp [hb.size]) _) hbn; clear hbn))
    go_ret
    exact ⟨_, rfl, by rw [HM.out]; exact OwnD.nil _ _, hb⟩
  cases hm : modeF m
  · have HM : Hid (minDepsF n R m = []) := by show minDepsF n R m = []; unfold minDepsF; rw [ht, hm]; rfl
    go_enter Try.func31, Try.ntmps31
    go_wp2_with (first | (go_at_call 62; refine Calls.mono (Ans.eqb (c_IsTable _ _ _ _ _ (hR.keep hb)) ht) ?_; rintro e w1 ⟨rfl, hbn⟩; replace a0 := cell_keep a0 hbn; replace a1 := cell_keep a1 hbn; replace m0 := cell_keep m0 hbn; replace hb := bel_to (w := w) (by first | exact hb | exact hb.alloc hb.size _ | exact (hb.alloc hb.size _).alloc (Nat.le_trans hb.size (by simp)) _ | exact hb.setCell (by simp [hb.size]) _) hbn; clear hbn) | (go_at_call 63; refine Calls.mono (Ans.eqb (c_isMode _ _) hm) ?_; rintro e w1 ⟨rfl, hbn⟩; replace a0 := cell_keep a0 hbn; replace a1 := cell_keep a1 hbn; replace m0 := cell_keep m0 hbn; replace hb := bel_to (w := w) (by first | exact hb | exact hb.alloc hb.size _ | exact (hb.alloc hb.size _).alloc (Nat.le_trans hb.size (by simp)) _ | exact hb.setCell (by simp [hb.size]) _) hbn; clear hbn))
    go_ret
    exact ⟨_, rfl, by rw [HM.out]; exact OwnD.nil _ _, hb⟩
  obtain ⟨hn1, hn5, _, _⟩ := isTab_of ht
  obtain ⟨N, rfl⟩ := Int.eq_ofNat_of_zero_le (show 0 ≤ n by omega)
  have HM : Hid (minDepsF N R m = colsF (fun x r => holdsF R m x r) (partsF N) N) := by show minDepsF N R m = _; unfold minDepsF; rw [ht, hm, Int.toNat_natCast]; rfl
  have HA : Hid (∀ x r : Int, St x → (0 ≤ r ∧ r < N) → x < 2 ^ N → askF N R m x r = true) := fun x r hx hr h2 =>
    (bord_dep (n := (N : Int)) (r := r) (by unfold bordOk; rw [ht, hm, decide_eq_true hr.1, decide_eq_true hr.2]; rfl) hx.1 (by rw [Int.toNat_natCast]; exact h2)).1
  have hN5 : N ≤ 5 := by omega
  go_enter Try.func31, Try.ntmps31
  go_wp2_with (first | (go_at_call 62; refine Calls.mono (Ans.eqb (c_IsTable _ _ _ _ _ (hR.keep hb)) ht) ?_; rintro e w1 ⟨rfl, hbn⟩; replace a0 := cell_keep a0 hbn; replace a1 := cell_keep a1 hbn; replace m0 := cell_keep m0 hbn; replace hb := bel_to (w := w) (by first | exact hb | exact hb.alloc hb.size _ | exact (hb.alloc hb.size _).alloc (Nat.le_trans hb.size (by simp)) _ | exact hb.setCell (by simp [hb.size]) _) hbn; clear hbn) | (go_at_call 63; refine Calls.mono (Ans.eqb (c_isMode _ _) hm) ?_; rintro e w1 ⟨rfl, hbn⟩; replace a0 := cell_keep a0 hbn; replace a1 := cell_keep a1 hbn; replace m0 := cell_keep m0 hbn; replace hb := bel_to (w := w) (by first | exact hb | exact hb.alloc hb.size _ | exact (hb.alloc hb.size _).alloc (Nat.le_trans hb.size (by simp)) _ | exact hb.setCell (by simp [hb.size]) _) hbn; clear hbn))
  refine (c_minimalDeps_M N hN5 _ _ (fun x r => holdsF R m x r) _ ?_).mono ?_
  · intro W x r hst hr hx2 hB
    exact Ans.eqb (c_closM N oa cap R m x r _ _ W ((hR.keep hb).keep hB) (cell_keep a0 hB) (cell_keep a1 hB) (cell_keep m0 hB)) (by rw [HA.out x r hst hr hx2]; rfl)
  rintro e w2 ⟨v2, rfl, hO, hbn⟩
  replace hO := hO.based hb.size
  replace hb := bel_to hb hbn
  clear hbn
  go_wp2
  go_ret
  exact ⟨_, rfl, by rw [HM.out]; exact hO, hb⟩

theorem emptyD_behind {w' : World} {B j : Nat} {v : Value} (h : w'.cell? ⟨B, j, none⟩ = some v) : OwnD (w'.alloc (.cells #[] 54)) (B + 1) (.slice (some ⟨w'.heap.size, 0, none⟩) 0 0) [] := OwnD.empty _ _ (World.block_lt_of_cell? _ _ h)
theorem colG_len (n : Int) (R : List (List Int)) (m : Int) (L : List Int) (r : Int) : (colG n R m L r).length ≤ L.length := by
  unfold colG
  rw [List.length_map]
  exact List.length_filter_le _ _
theorem colsG_len (n : Int) (R : List (List Int)) (m : Int) : ∀ k, (colsG n R m k).length ≤ 32 * k
  | 0 => by simp [colsG]
  | k + 1 => by
    rw [colsG_succ, List.length_append]
    have h1 := colsG_len n R m k
    have h2 := colG_len n R m (partsF n) k
    have h3 := partsF_len n
    omega
set_option maxHeartbeats 1600000 in
theorem c_specMinimalDeps (n : Int) (oa) (cap : Nat) (R : List (List Int)) (m : Int) (w : World) (hR : RowsAt w oa R) :
    Calls Try.prog 30 #[.agg #[.int .i64 n, .slice oa R.length cap], .int .i64 m] w fun e w' => ∃ v, e = .returned v ∧ OwnD w' w.heap.size v (minDepsF n R m) ∧ Below w.heap.size w w' := by
  obtain ⟨j0, hj, hy0, hy1, hy2⟩ := info_parts info_dep
  have hb := bel2 w (.cells #[.int .i64 n, .slice oa R.length cap] 41) (.cells #[] 54)
  have a0 := two_a w #[.int .i64 n, .slice oa R.length cap] 41 #[] 54 0 _ rfl
  have a1 := two_a w #[.int .i64 n, .slice oa R.length cap] 41 #[] 54 1 _ rfl
  have hO : OwnD ((w.alloc (.cells #[.int .i64 n, .slice oa R.length cap] 41)).alloc (.cells #[] 54)) (w.heap.size + 1) (.slice (some ⟨w.heap.size + 1, 0, none⟩) 0 0) [] := by
    have h := (OwnD.empty (w.alloc (.cells #[.int .i64 n, .slice oa R.length cap] 41)) _ (Nat.le_refl _))
    simpa using h
  cases hf : (isTabF n R && modeF m)
  · have HM : Hid (minDepsF n R m = []) := by show minDepsF n R m = []; unfold minDepsF; rw [hf]; rfl
    go_enter Try.func30, Try.ntmps30
    go_wp2_with (first | (go_at_call 57; refine Calls.mono (Ans.eqb (c_l4Fine _ _ _ _ _ _ (hR.keep hb)) hf) ?_; rintro e w1 ⟨rfl, hbn⟩; replace a0 := cell_keep a0 hbn; replace a1 := cell_keep a1 hbn; replace hO := hO.keep hbn; replace hb := bel_to (w := w) (by first | exact hb | exact hb.alloc hb.size _ | exact (hb.alloc hb.size _).alloc (Nat.le_trans hb.size (by simp)) _ | exact hb.setCell (by simp [hb.size]) _) hbn; clear hbn))
    go_ret
    exact ⟨_, rfl, by rw [HM.out]; exact hO.based (Nat.le_succ _), hb⟩
  have ht : isTabF n R = true := by have := hf; simp only [Bool.and_eq_true] at this; exact this.1
  obtain ⟨hn1, hn5, _, hlen⟩ := isTab_of ht
  obtain ⟨N, rfl⟩ := Int.eq_ofNat_of_zero_le (show 0 ≤ n by omega)
  have hN5 : N ≤ 5 := by omega
  have HM : Hid (minDepsF N R m = colsG N R m N) := by
    show minDepsF N R m = _
    unfold minDepsF
    rw [if_pos hf, Int.toNat_natCast]
    exact cols_same hN5 (fun i hi => by have := hlen i hi; omega) N (Nat.le_refl _)
  have HH : Hid (∀ (w' : World) (x r : Int), St x → Co r → RowsAt w' oa R → Ans Try.prog 68 #[.agg #[.int .i64 N, .slice oa R.length cap], .int .i64 m, .agg #[.int .i64 x, .int .i64 r]] w' (.bool (l7F N R m x r))) := fun w' x r hx hr h => c_l7Minimal N oa cap R m x r w' h ht hx hr
  have hpl := partsF_len N
  have HPS : Hid (∀ x ∈ partsF N, St x) := fun x hx => by
    have h := (partsF_mem (n := N) (by omega) (by omega)).1 hx
    have h2 := (pow_wrap (n := (N : Int)) (by omega) (by omega)).2.1
    exact ⟨h.1, by omega⟩
  clear ht hlen
  go_enter Try.func30, Try.ntmps30
  go_wp2_with (first | (go_at_call 57; refine Calls.mono (Ans.eqb (c_l4Fine _ _ _ _ _ _ (hR.keep hb)) hf) ?_; rintro e w1 ⟨rfl, hbn⟩; replace a0 := cell_keep a0 hbn; replace a1 := cell_keep a1 hbn; replace hO := hO.keep hbn; replace hb := bel_to (w := w) (by first | exact hb | exact hb.alloc hb.size _ | exact (hb.alloc hb.size _).alloc (Nat.le_trans hb.size (by simp)) _ | exact hb.setCell (by simp [hb.size]) _) hbn; clear hbn))
  have old := hO
  refine (c_specPartsBySize (N : Int) _).mono ?_
  rintro e w2 ⟨v2, rfl, hP, hbn⟩
  have ap_PO := (apart_old old hP).symm
  replace hO := hO.keep hbn
  replace hP := hP.based (World.block_lt_of_cell? _ _ a1)
  replace a0 := cell_keep a0 hbn
  replace a1 := cell_keep a1 hbn
  replace hb := bel_to hb hbn
  clear old hbn
  have HGS : Hid (∀ k : Nat, colsG N R m (k + 1) = colsG N R m k ++ colG N R m (partsF N) k) := fun k => colsG_succ _ _ _ k
  generalize partsF N = P at *
  obtain ⟨o1, c1, rfl⟩ := hP.shape
  have hPr : P.length ≤ Room := by unfold Room; omega
  go_wp2
  go_loopw [5, 7] (fun v i wr => ∃ r : Nat, i = .int .i64 r ∧ r ≤ N ∧ OwnD wr (w.heap.size + 1) v (colsG N R m r) ∧ OwnI wr (w.heap.size + 1) (.slice o1 P.length c1) P ∧ Apart (.slice o1 P.length c1) v ∧ wr.cell? ⟨w.heap.size, 0, none⟩ = some (.int .i64 N) ∧ wr.cell? ⟨w.heap.size, 1, none⟩ = some (.slice oa R.length cap) ∧ Below w.heap.size w wr) (fun _ i _ => N - (intOf i).toNat)
  case atStart => exact ⟨0, rfl, Nat.zero_le _, by simpa [colsG] using hO, hP, ap_PO, a0, a1, hb⟩
  case round =>
    clear hO hP ap_PO a0 a1 hb
    obtain ⟨r, rfl, hr, hO, hP, ap_PO, a0, a1, hb⟩ := hrel
    have hcl := colsG_len N R m r
    by_cases hlt : r < N
    · have HC : Hid (colsG N R m (r + 1) = colsG N R m r ++ colG N R m P r) := HGS.out r
      have hco : Hid (Co (r : Int)) := ⟨by omega, by omega⟩
      generalize colsG N R m r = A at *
      go_wp2
      go_loopw [5, 8] (fun v i wr => ∃ k : Nat, i = .int .i64 k ∧ k ≤ P.length ∧ OwnD wr (w.heap.size + 1) v (A ++ colG N R m (P.take k) r) ∧ OwnI wr (w.heap.size + 1) (.slice o1 P.length c1) P ∧ Apart (.slice o1 P.length c1) v ∧ wr.cell? ⟨w.heap.size, 0, none⟩ = some (.int .i64 N) ∧ wr.cell? ⟨w.heap.size, 1, none⟩ = some (.slice oa R.length cap) ∧ Below w.heap.size w wr) (fun _ i _ => P.length - (intOf i).toNat)
      case atStart => exact ⟨0, rfl, Nat.zero_le _, by simpa [colG] using hO, hP, ap_PO, a0, a1, hb⟩
      case round =>
        clear hO hP ap_PO a0 a1 hb
        obtain ⟨k, rfl, hk, hO, hP, ap_PO, a0, a1, hb⟩ := hrel
        by_cases hlk : k < P.length
        · obtain ⟨b2, off2, rfl, hbs2, hca⟩ := (hP.ints rfl hPr).at_ (by omega)
          have hc2 := hca k hlk
          have hst : Hid (St (nth P k)) := HPS.out _ (List.mem_iff_getElem?.2 ⟨k, nth_eq hlk⟩)
          have hOl : (A ++ colG N R m (P.take k) r).length ≤ 300 := by
            have h := colG_len N R m (P.take k) r
            rw [List.length_take] at h
            rw [List.length_append]
            omega
          have HOs : Hid (A ++ colG N R m (P.take (k + 1)) r = (A ++ colG N R m (P.take k) r) ++ (if l7F N R m (nth P k) r then [(nth P k, (r : Int))] else [])) := by
            show A ++ colG N R m (P.take (k + 1)) r = (A ++ colG N R m (P.take k) r) ++ (if l7F N R m (nth P k) r then [(nth P k, (r : Int))] else [])
            unfold colG
            rw [filter_take_succ _ _ _ hlk, List.map_append, List.append_assoc]
            congr 2
            split <;> simp
          clear hca
          generalize nth P k = x at *
          generalize A ++ colG N R m (P.take k) r = C at *
          have e0 := box_at wr #[.int .i64 x, .int .i64 (r : Int)] 54 0 _ rfl
          have e1 := box_at wr #[.int .i64 x, .int .i64 (r : Int)] 54 1 _ rfl
          replace a0 := cell_al a0 (.cells #[.int .i64 x, .int .i64 (r : Int)] 54)
          replace a1 := cell_al a1 (.cells #[.int .i64 x, .int .i64 (r : Int)] 54)
          cases h1 : l7F N R m x (r : Int)
          · go_wp2_with fail
            refine Calls.mono (Ans.eqb (b' := false) (HH.out _ x (r : Int) hst.out hco.out (hR.keep (hb.alloc hb.size _))) h1) ?_
            rintro e w3 ⟨rfl, hbn⟩
            replace a0 := cell_keep a0 hbn
            replace a1 := cell_keep a1 hbn
            replace hO := OwnD.keep (World.ownsRow.alloc hO _) hbn
            replace hP := OwnI.keep (World.ownsRow.alloc hP _) hbn
            replace hb := bel_to (hb.alloc hb.size _) hbn
            clear hbn e0 e1
            go_wp2
            go_roundw
            case rel => exact ⟨k + 1, by go_num, by omega, by rw [HOs.out, h1]; simpa using hO, hP, ap_PO, a0, a1, hb⟩
            case measure => simp [intOf]; omega
          · go_wp2_with fail
            refine Calls.mono (Ans.eqb (b' := true) (HH.out _ x (r : Int) hst.out hco.out (hR.keep (hb.alloc hb.size _))) h1) ?_
            rintro e w3 ⟨rfl, hbn⟩
            replace a0 := cell_keep a0 hbn
            replace a1 := cell_keep a1 hbn
            replace e0 := cell_keep e0 hbn
            replace e1 := cell_keep e1 hbn
            replace hO := OwnD.keep (World.ownsRow.alloc hO _) hbn
            replace hP := OwnI.keep (World.ownsRow.alloc hP _) hbn
            replace hb := bel_to (hb.alloc hb.size _) hbn
            clear hbn hc2
            go_wp2_with (first | (at_builtin; refine wpList_append_fresh rfl _ _ 23 rfl (w.heap.size + 1) 54 j0 (.agg #[.int .i64 0, .int .i64 0]) 2 16 Try.underlying23 hj hy0 hy1 hy2 rfl (by decide) _ _ _ rfl (World.ownsRow.alloc hO _) _ 1 1 [.int .i64 x, .int .i64 (r : Int)] rfl rfl (World.news_of_block (cs := #[.int .i64 x, .int .i64 (r : Int)]) (t := 54) (fr := (0, 0)) (heap_alloc_new _ _)) (by intro u hu; simp at hu; rcases hu with rfl | rfl <;> rfl) (by unfold maxLen; omega) (by omega) (by have := World.block_lt_of_cell? _ _ a1; simp at this; simp; omega) ?_; intro v' w4 hown hgrow hfr; replace hb := (hb.alloc hb.size _).grown hgrow (by have := hb.size; simp; omega) (fun g hg => Nat.le_trans (Nat.le_succ _) (World.ownsRow.lt hO g hg).1); replace a0 := cell_gr (cell_al a0 _) (World.ownsRow.alloc hO _) (by omega) hgrow; replace a1 := cell_gr (cell_al a1 _) (World.ownsRow.alloc hO _) (by omega) hgrow; obtain ⟨hP, ap_PO⟩ := OwnI.past hP hgrow ap_PO hfr; replace hO := own_snocD hown; clear hown hgrow hfr) | fail)
            go_roundw
            case rel => exact ⟨k + 1, by go_num, by omega, by rw [HOs.out, h1]; exact hO, hP, ap_PO, a0, a1, hb⟩
            case measure => simp [intOf]; omega
        · have hkk : k = P.length := by omega
          have HE : Hid (colsG N R m (r + 1) = A ++ colG N R m (P.take k) r) := by
            show colsG N R m (r + 1) = A ++ colG N R m (P.take k) r
            rw [HC.out, hkk, List.take_length]
          clear hkk
          go_wp2
          go_roundw
          case rel => exact ⟨r + 1, by go_num, by omega, by rw [HE.out]; exact hO, hP, ap_PO, a0, a1, hb⟩
          case measure => simp [intOf]; omega
    · have hrr : r = N := by omega
      have HE : Hid (colsG N R m r = minDepsF N R m) := by show colsG N R m r = minDepsF N R m; rw [HM.out, hrr]
      clear hrr
      go_wp2
      go_ret
      exact ⟨_, rfl, by rw [← HE.out]; exact hO.based (Nat.le_succ _), hb⟩
end Go.Proofs.Ytaomdnibnnobiaa
