/- CheckDerivation of the program. -/
import Derived.Test.YtmdkbookcgkpaaaCheck
namespace Go.Proofs.Ytmdkbookcgkpaaa
open Go.RowKit
set_option linter.unusedVariables false
set_option maxRecDepth 100000

set_option maxHeartbeats 3200000 in
theorem c_CheckDerivation (n : Int) (oa) (cap : Nat) (D : List (Int × Int)) (l r : Int) (ob) (cbp : Nat) (S : List T3) (w : World) (hD : DepsAt w oa D) (hS : DersAt w ob S) :
    Ans Try.prog 37 #[.int .i64 n, .slice oa D.length cap, .agg #[.int .i64 l, .int .i64 r], .slice ob S.length cbp] w (.bool (checkF n D l r S)) := by
  unfold Ans
  have hnD : D.length ≤ 1073741824 := hD.len
  have hnS : S.length ≤ 1073741824 := hS.len
  have hb := (Below.refl w.heap.size w).alloc (Nat.le_refl _) (.cells #[.int .i64 l, .int .i64 r] 36)
  have b0 := box_at w #[.int .i64 l, .int .i64 r] 36 0 _ rfl
  have b1 := box_at w #[.int .i64 l, .int .i64 r] 36 1 _ rfl
  cases ha : areDepsF n D
  · go_enter Try.func37, Try.ntmps37
    go_wp2_with (first | (go_at_call 22; refine Calls.mono (Ans.eqb (c_AreDeps _ _ _ _ _ (hD.keep hb)) ha) ?_; rintro e w1 ⟨rfl, hbn⟩; replace hb := bel_to (w := w) (by first | exact hb | exact hb.alloc hb.size _ | exact (hb.alloc hb.size _).alloc (Nat.le_trans hb.size (by simp)) _ | exact hb.setCell (by simp [hb.size]) _) hbn; clear hbn))
    go_ret
    exact ⟨ret_bool (by simp [checkF, ha]), hb⟩
  · have hv := (areDepsF_val ha).1
    have hD20 := (areDepsF_val ha).2.2.2
    cases hi : isDepF n l r
    · go_enter Try.func37, Try.ntmps37
      go_wp2_with (first | (go_at_call 22; refine Calls.mono (Ans.eqb (c_AreDeps _ _ _ _ _ (hD.keep hb)) ha) ?_; rintro e w1 ⟨rfl, hbn⟩; replace b0 := cell_keep b0 hbn; replace b1 := cell_keep b1 hbn; replace hb := bel_to (w := w) (by first | exact hb | exact hb.alloc hb.size _ | exact (hb.alloc hb.size _).alloc (Nat.le_trans hb.size (by simp)) _ | exact hb.setCell (by simp [hb.size]) _) hbn; clear hbn) | (go_at_call 63; refine Calls.mono (Ans.eqb (c_isDep _ _ _ _) hi) ?_; rintro e w1 ⟨rfl, hbn⟩; replace hb := bel_to (w := w) (by first | exact hb | exact hb.alloc hb.size _ | exact (hb.alloc hb.size _).alloc (Nat.le_trans hb.size (by simp)) _ | exact hb.setCell (by simp [hb.size]) _) hbn; clear hbn))
      go_ret
      exact ⟨ret_bool (by simp [checkF, ha, hi]), hb⟩
    · obtain ⟨⟨hl, hr⟩, h15⟩ := isDepF_val hi
      have hr0 : 0 ≤ r := hr.1
      have hr1 : r < 5 := hr.2
      have HM : Hid (checkF n D l r S = chk D r S l) := by unfold checkF; rw [ha, hi]; rfl
      go_enter Try.func37, Try.ntmps37
      go_wp2_with (first | (go_at_call 22; refine Calls.mono (Ans.eqb (c_AreDeps _ _ _ _ _ (hD.keep hb)) ha) ?_; rintro e w1 ⟨rfl, hbn⟩; replace b0 := cell_keep b0 hbn; replace b1 := cell_keep b1 hbn; replace hb := bel_to (w := w) (by first | exact hb | exact hb.alloc hb.size _ | exact (hb.alloc hb.size _).alloc (Nat.le_trans hb.size (by simp)) _ | exact hb.setCell (by simp [hb.size]) _) hbn; clear hbn) | (go_at_call 63; refine Calls.mono (Ans.eqb (c_isDep _ _ _ _) hi) ?_; rintro e w1 ⟨rfl, hbn⟩; replace b0 := cell_keep b0 hbn; replace b1 := cell_keep b1 hbn; replace hb := bel_to (w := w) (by first | exact hb | exact hb.alloc hb.size _ | exact (hb.alloc hb.size _).alloc (Nat.le_trans hb.size (by simp)) _ | exact hb.setCell (by simp [hb.size]) _) hbn; clear hbn))
      go_loopw [9, 26] (fun t i wr => ∃ (x : Int) (k : Nat), t = .int .i64 x ∧ i = .int .i64 k ∧ k ≤ S.length ∧ St x ∧ chk D r (S.drop k) x = chk D r S l ∧ wr.cell? ⟨w.heap.size, 0, none⟩ = some (.int .i64 l) ∧ wr.cell? ⟨w.heap.size, 1, none⟩ = some (.int .i64 r) ∧ Below w.heap.size w wr) (fun _ i _ => S.length - (intOf i).toNat)
      case atStart => exact ⟨l, 0, rfl, rfl, Nat.zero_le _, hl, rfl, b0, b1, hb⟩
      case round =>
        clear b0 b1 hb
        obtain ⟨x, k, rfl, rfl, hk, hx, hro, b0, b1, hb⟩ := hrel
        have HR : Hid (chk D r (S.drop k) x = chk D r S l) := hro
        clear hro
        by_cases hlt : k < S.length
        · obtain ⟨bs, offs, rfl, hbs, hcs⟩ := hS.at_ (by omega)
          have s0 := cell_keep (hcs k hlt).1 hb
          have s1 := cell_keep (hcs k hlt).2.1 hb
          have s2 := cell_keep (hcs k hlt).2.2 hb
          have HC : Hid (chk D r (S.drop k) x = (stepOk D x (ta S k, tb S k, tc S k) && chk D r (S.drop (k + 1)) (tc S k))) := chk_step hlt x
          clear hcs
          generalize ta S k = a at *
          generalize tb S k = b at *
          generalize tc S k = c at *
          have hb2 := hb.alloc hb.size (.cells #[.int .i64 a, .int .i64 b, .int .i64 c] 73)
          have hbx := (Below.refl wr.heap.size wr).alloc (Nat.le_refl _) (.cells #[.int .i64 a, .int .i64 b, .int .i64 c] 73)
          have c0 := box_at wr #[.int .i64 a, .int .i64 b, .int .i64 c] 73 0 _ rfl
          have c1 := box_at wr #[.int .i64 a, .int .i64 b, .int .i64 c] 73 1 _ rfl
          have c2 := box_at wr #[.int .i64 a, .int .i64 b, .int .i64 c] 73 2 _ rfl
          replace b0 := cell_keep b0 hbx
          replace b1 := cell_keep b1 hbx
          clear hbx
          cases e1 : (b == x)
          · have e1' : (b != x) = true := by simp [bne, e1]
            have HE : Hid (chk D r S l = false) := by show chk D r S l = false; rw [← HR.out, HC.out]; unfold stepOk; simp [e1]
            clear HR HC
            replace hb := hb2
            clear hb2
            go_wp2_with (first | fail)
            go_ret
            exact ⟨ret_bool (by rw [HM.out, HE.out]), hb⟩
          · have e1' : (b != x) = false := by simp [bne, e1]
            by_cases ha0 : a < 0
            · have g1 : decide (a < 0) = true := by simp [ha0]
              have h1 : inB a 0 ((D.length : Int) - 1) = false := by simp [inB]; omega
              have HE : Hid (chk D r S l = false) := by show chk D r S l = false; rw [← HR.out, HC.out]; unfold stepOk; simp [h1]
              clear HR HC h1
              replace hb := hb2
              clear hb2
              go_wp2_with (first | fail)
              go_ret
              exact ⟨ret_bool (by rw [HM.out, HE.out]), hb⟩
            · have g1 : decide (a < 0) = false := by simp; omega
              by_cases ha1 : (D.length : Int) ≤ a
              · have g2 : decide ((D.length : Int) ≤ a) = true := by simp [ha1]
                have h1 : inB a 0 ((D.length : Int) - 1) = false := by simp [inB]; omega
                have HE : Hid (chk D r S l = false) := by show chk D r S l = false; rw [← HR.out, HC.out]; unfold stepOk; simp [h1]
                clear HR HC h1
                replace hb := hb2
                clear hb2
                go_wp2_with (first | fail)
                go_ret
                exact ⟨ret_bool (by rw [HM.out, HE.out]), hb⟩
              · have g2 : decide ((D.length : Int) ≤ a) = false := by simp; omega
                have h1 : inB a 0 ((D.length : Int) - 1) = true := by simp [inB]; omega
                obtain ⟨j, rfl⟩ := Int.eq_ofNat_of_zero_le (show 0 ≤ a by omega)
                have hjl : j < D.length := by omega
                obtain ⟨bD, offD, rfl, hbD, hcD⟩ := hD.at_ (by omega)
                have d0 := cell_keep (hcD j hjl).1 hb2
                have d1 := cell_keep (hcD j hjl).2 hb2
                obtain ⟨hvl, hvr⟩ := hv.at_ hjl
                have hr0 : 0 ≤ nr D j := hvr.1
                have hr1 : nr D j < 5 := hvr.2
                have q1 : (0 : Int) ≤ (j : Int) := by omega
                have q2 : (j : Int) < (D.length : Int) := by omega
                clear hcD ha0 ha1
                cases h3 : ins (nl D j) x
                · have h3a : insA (nl D j) x = false := by rw [insA_eq hvl hx]; exact h3
                  have HE : Hid (chk D r S l = false) := by show chk D r S l = false; rw [← HR.out, HC.out]; unfold stepOk; simp [h3a]
                  clear HR HC h3a h1
                  replace hb := hb2
                  clear hb2
                  go_wp2_with (first | (go_at_call 73; refine Calls.mono (Ans.eqb (c_inside _ _ _) h3) ?_; rintro e w1 ⟨rfl, hbn⟩; replace c0 := cell_keep c0 hbn; replace c1 := cell_keep c1 hbn; replace c2 := cell_keep c2 hbn; replace d0 := cell_keep d0 hbn; replace d1 := cell_keep d1 hbn; replace hb := bel_to (w := w) (by first | exact hb | exact hb.alloc hb.size _ | exact (hb.alloc hb.size _).alloc (Nat.le_trans hb.size (by simp)) _ | exact hb.setCell (by simp [hb.size]) _) hbn; clear hbn))
                  go_ret
                  exact ⟨ret_bool (by rw [HM.out, HE.out]), hb⟩
                · have h3a : insA (nl D j) x = true := by rw [insA_eq hvl hx]; exact h3
                  cases h4 : (c == uni x (one (nr D j)))
                  · have h4' : (c == bits BinOp.or IntKind.i64 x (wrap64 (2 ^ (nr D j).toNat))) = false := h4
                    have h4'' : (c != bits BinOp.or IntKind.i64 x (wrap64 (2 ^ (nr D j).toNat))) = true := by simp [bne, h4']
                    have HE : Hid (chk D r S l = false) := by show chk D r S l = false; rw [← HR.out, HC.out]; unfold stepOk; simp [h4]
                    clear HR HC h3a h1 h4
                    replace hb := hb2
                    clear hb2
                    go_wp2_with (first | (go_at_call 73; refine Calls.mono (Ans.eqb (c_inside _ _ _) h3) ?_; rintro e w1 ⟨rfl, hbn⟩; replace c0 := cell_keep c0 hbn; replace c1 := cell_keep c1 hbn; replace c2 := cell_keep c2 hbn; replace d0 := cell_keep d0 hbn; replace d1 := cell_keep d1 hbn; replace hb := bel_to (w := w) (by first | exact hb | exact hb.alloc hb.size _ | exact (hb.alloc hb.size _).alloc (Nat.le_trans hb.size (by simp)) _ | exact hb.setCell (by simp [hb.size]) _) hbn; clear hbn))
                    go_ret
                    exact ⟨ret_bool (by rw [HM.out, HE.out]), hb⟩
                  · have h4' : (c == bits BinOp.or IntKind.i64 x (wrap64 (2 ^ (nr D j).toNat))) = true := h4
                    have h4'' : (c != bits BinOp.or IntKind.i64 x (wrap64 (2 ^ (nr D j).toNat))) = false := by simp [bne, h4']
                    have HX : c = uni x (one (nr D j)) := by simpa using h4
                    have HE : Hid (chk D r (S.drop (k + 1)) (uni x (one (nr D j))) = chk D r S l) := by rw [← HR.out, HC.out]; unfold stepOk; simp only [h1, e1, Int.toNat_natCast, h3a, h4]; rw [HX]; rfl
                    have HST : Hid (St (uni x (one (nr D j)))) := uni_st hx (one_st hvr)
                    clear HR HC h3a h1 h4 HX
                    replace hb := hb2
                    clear hb2
                    go_wp2_with (first | (go_at_call 73; refine Calls.mono (Ans.eqb (c_inside _ _ _) h3) ?_; rintro e w1 ⟨rfl, hbn⟩; replace c0 := cell_keep c0 hbn; replace c1 := cell_keep c1 hbn; replace c2 := cell_keep c2 hbn; replace d0 := cell_keep d0 hbn; replace d1 := cell_keep d1 hbn; replace b0 := cell_keep b0 hbn; replace b1 := cell_keep b1 hbn; replace hb := bel_to (w := w) (by first | exact hb | exact hb.alloc hb.size _ | exact (hb.alloc hb.size _).alloc (Nat.le_trans hb.size (by simp)) _ | exact hb.setCell (by simp [hb.size]) _) hbn; clear hbn))
                    go_roundw
                    case rel => exact ⟨uni x (one (nr D j)), k + 1, rfl, by go_num, by omega, HST.out, HE.out, b0, b1, hb⟩
                    case measure => simp [intOf]; omega
        · have hkk : k = S.length := by omega
          have HE : Hid (hasc x r = chk D r S l) := by rw [← HR.out, hkk, List.drop_length]; rfl
          clear hkk HR
          have hr2 : 0 ≤ r ∧ r < 64 := co64 hr
          go_wp2_with (first | (go_at_call 74; refine Calls.mono (c_has _ _ hr2 _) ?_; rintro e w1 ⟨rfl, hbn⟩; replace hb := bel_to (w := w) (by first | exact hb | exact hb.alloc hb.size _ | exact (hb.alloc hb.size _).alloc (Nat.le_trans hb.size (by simp)) _ | exact hb.setCell (by simp [hb.size]) _) hbn; clear hbn))
          go_ret
          exact ⟨ret_bool (by rw [HM.out, ← HE.out]), hb⟩
end Go.Proofs.Ytmdkbookcgkpaaa
