/- CheckDerivation, of the program and of the reference. -/
import Derived.Test.YtmdkbookcgkpaaaDer
import Derived.Test.YtmdkbookcgkpaaaImplies
namespace Go.Proofs.Ytmdkbookcgkpaaa
open Go.RowKit
set_option linter.unusedVariables false
set_option maxRecDepth 100000

def stepOk (D : List (Int × Int)) (x : Int) (s : T3) : Bool := inB s.1 0 ((D.length : Int) - 1) && (s.2.1 == x && (insA (nl D s.1.toNat) x && s.2.2 == uni x (one (nr D s.1.toNat))))
def chk (D : List (Int × Int)) (r : Int) : List T3 → Int → Bool
  | [], x => hasc x r
  | s :: S, x => stepOk D x s && chk D r S s.2.2
def checkF (n : Int) (D : List (Int × Int)) (l r : Int) (S : List T3) : Bool := areDepsF n D && (isDepF n l r && chk D r S l)
theorem chk_step {D : List (Int × Int)} {r : Int} {S : List T3} {k : Nat} (hk : k < S.length) (x : Int) : chk D r (S.drop k) x = (stepOk D x (ta S k, tb S k, tc S k) && chk D r (S.drop (k + 1)) (tc S k)) := by
  have e : S.drop k = (ta S k, tb S k, tc S k) :: S.drop (k + 1) := by
    rw [List.drop_eq_getElem_cons hk]
    congr 1
    have := tnth_eq hk
    rw [List.getElem?_eq_getElem hk] at this
    exact Option.some.inj this
  rw [e]; rfl

set_option maxHeartbeats 3200000 in
theorem c_specCheckDerivation (n : Int) (oa) (cap : Nat) (D : List (Int × Int)) (l r : Int) (ob) (cbp : Nat) (S : List T3) (w : World) (hD : DepsAt w oa D) (hS : DersAt w ob S) :
    Ans Try.prog 35 #[.int .i64 n, .slice oa D.length cap, .agg #[.int .i64 l, .int .i64 r], .slice ob S.length cbp] w (.bool (checkF n D l r S)) := by
  unfold Ans
  have hnD : D.length ≤ 1073741824 := hD.len
  have hnS : S.length ≤ 1073741824 := hS.len
  have hb := (Below.refl w.heap.size w).alloc (Nat.le_refl _) (.cells #[.int .i64 l, .int .i64 r] 36)
  have b0 := box_at w #[.int .i64 l, .int .i64 r] 36 0 _ rfl
  have b1 := box_at w #[.int .i64 l, .int .i64 r] 36 1 _ rfl
  cases ha : areDepsF n D
  · go_enter Try.func35, Try.ntmps35
    go_wp2_with (first | (go_at_call 20; refine Calls.mono (Ans.eqb (c_specAreDeps _ _ _ _ _ (hD.keep hb)) ha) ?_; rintro e w1 ⟨rfl, hbn⟩; replace hb := bel_to (w := w) (by first | exact hb | exact hb.alloc hb.size _ | exact (hb.alloc hb.size _).alloc (Nat.le_trans hb.size (by simp)) _ | exact hb.setCell (by simp [hb.size]) _) hbn; clear hbn))
    go_ret
    exact ⟨ret_bool (by simp [checkF, ha]), hb⟩
  · have hv := (areDepsF_val ha).1
    have hD20 := (areDepsF_val ha).2.2.2
    cases hi : isDepF n l r
    · go_enter Try.func35, Try.ntmps35
      go_wp2_with (first | (go_at_call 20; refine Calls.mono (Ans.eqb (c_specAreDeps _ _ _ _ _ (hD.keep hb)) ha) ?_; rintro e w1 ⟨rfl, hbn⟩; replace b0 := cell_keep b0 hbn; replace b1 := cell_keep b1 hbn; replace hb := bel_to (w := w) (by first | exact hb | exact hb.alloc hb.size _ | exact (hb.alloc hb.size _).alloc (Nat.le_trans hb.size (by simp)) _ | exact hb.setCell (by simp [hb.size]) _) hbn; clear hbn) | (go_at_call 61; refine Calls.mono (Ans.eqb (c_specIsDep _ _ _ _) hi) ?_; rintro e w1 ⟨rfl, hbn⟩; replace hb := bel_to (w := w) (by first | exact hb | exact hb.alloc hb.size _ | exact (hb.alloc hb.size _).alloc (Nat.le_trans hb.size (by simp)) _ | exact hb.setCell (by simp [hb.size]) _) hbn; clear hbn))
      go_ret
      exact ⟨ret_bool (by simp [checkF, ha, hi]), hb⟩
    · obtain ⟨⟨hl, hr⟩, h15⟩ := isDepF_val hi
      have hr0 : 0 ≤ r := hr.1
      have hr1 : r < 5 := hr.2
      have HM : Hid (checkF n D l r S = chk D r S l) := by unfold checkF; rw [ha, hi]; rfl
      go_enter Try.func35, Try.ntmps35
      go_wp2_with (first | (go_at_call 20; refine Calls.mono (Ans.eqb (c_specAreDeps _ _ _ _ _ (hD.keep hb)) ha) ?_; rintro e w1 ⟨rfl, hbn⟩; replace b0 := cell_keep b0 hbn; replace b1 := cell_keep b1 hbn; replace hb := bel_to (w := w) (by first | exact hb | exact hb.alloc hb.size _ | exact (hb.alloc hb.size _).alloc (Nat.le_trans hb.size (by simp)) _ | exact hb.setCell (by simp [hb.size]) _) hbn; clear hbn) | (go_at_call 61; refine Calls.mono (Ans.eqb (c_specIsDep _ _ _ _) hi) ?_; rintro e w1 ⟨rfl, hbn⟩; replace b0 := cell_keep b0 hbn; replace b1 := cell_keep b1 hbn; replace hb := bel_to (w := w) (by first | exact hb | exact hb.alloc hb.size _ | exact (hb.alloc hb.size _).alloc (Nat.le_trans hb.size (by simp)) _ | exact hb.setCell (by simp [hb.size]) _) hbn; clear hbn))
      go_loopw [9, 10] (fun t i wr => ∃ (x : Int) (k : Nat), t = .int .i64 x ∧ i = .int .i64 k ∧ k ≤ S.length ∧ St x ∧ chk D r (S.drop k) x = chk D r S l ∧ wr.cell? ⟨w.heap.size, 0, none⟩ = some (.int .i64 l) ∧ wr.cell? ⟨w.heap.size, 1, none⟩ = some (.int .i64 r) ∧ Below w.heap.size w wr) (fun _ i _ => S.length - (intOf i).toNat)
      case atStart => exact ⟨l, 0, rfl, rfl, Nat.zero_le _, hl, rfl, b0, b1, hb⟩
      case round =>
        clear b0 b1 hb
        obtain ⟨x, k, rfl, rfl, hk, hx, hro, b0, b1, hb⟩ := hrel
        have HR : Hid (chk D r (S.drop k) x = chk D r S l) := hro
        clear hro
        by_cases hlt : k < S.length
        · obtain ⟨bs, offs, rfl, hbs, hcs⟩ := hS.at_ (by omega)
          have s0 := cell_keep (hcs k hlt).1 hb
          have s1 := cell_keep (hcs k hlt).2.1 hb
          have s2 := cell_keep (hcs k hlt).2.2 hb
          have HC : Hid (chk D r (S.drop k) x = (stepOk D x (ta S k, tb S k, tc S k) && chk D r (S.drop (k + 1)) (tc S k))) := chk_step hlt x
          clear hcs
          generalize ta S k = a at *
          generalize tb S k = b at *
          generalize tc S k = c at *
          have hb2 := hb.alloc hb.size (.cells #[.int .i64 a, .int .i64 b, .int .i64 c] 73)
          have hbx := (Below.refl wr.heap.size wr).alloc (Nat.le_refl _) (.cells #[.int .i64 a, .int .i64 b, .int .i64 c] 73)
          have c0 := box_at wr #[.int .i64 a, .int .i64 b, .int .i64 c] 73 0 _ rfl
          have c1 := box_at wr #[.int .i64 a, .int .i64 b, .int .i64 c] 73 1 _ rfl
          have c2 := box_at wr #[.int .i64 a, .int .i64 b, .int .i64 c] 73 2 _ rfl
          replace b0 := cell_keep b0 hbx
          replace b1 := cell_keep b1 hbx
          clear hbx
          cases h1 : inB a 0 ((D.length : Int) - 1)
          · have HE : Hid (chk D r S l = false) := by rw [← HR.out, HC.out]; unfold stepOk; rw [h1]; rfl
            clear HR HC
            replace hb := hb2
            clear hb2
            go_wp2_with fail
            (refine wp_region_after (by kernel_rfl) (by kernel_rfl) ?_; have q_c0 := fun (x : After _) => cell_keep c0 x.bel; have q_c1 := fun (x : After _) => cell_keep c1 x.bel; have q_c2 := fun (x : After _) => cell_keep c2 x.bel; (repeat (go_big_quiet_step ((first | (go_at_call 62; exact Ans.after (Ans.eqb (c_l1In _ _ _ _) h1)))))); clear q_c0; clear q_c1; clear q_c2; refine wpQuiet_nil ?_; rintro _ ⟨⟨w1, hbn⟩, rfl⟩; (try simp only [After.w]); replace c0 := cell_keep c0 hbn; replace c1 := cell_keep c1 hbn; replace c2 := cell_keep c2 hbn; replace hb := bel_to (w := w) (by first | exact hb | exact hb.alloc hb.size _ | exact (hb.alloc hb.size _).alloc (Nat.le_trans hb.size (by simp)) _ | exact hb.setCell (by simp [hb.size]) _) hbn; clear hbn)
            go_wp2
            go_ret
            exact ⟨ret_bool (by rw [HM.out, HE.out]), hb⟩
          · cases e1 : (b == x)
            · have e1' : (b != x) = true := by simp [bne, e1]
              have HE : Hid (chk D r S l = false) := by rw [← HR.out, HC.out]; unfold stepOk; rw [h1]; simp only [e1]; rfl
              clear HR HC
              replace hb := hb2
              clear hb2
              go_wp2_with fail
              (refine wp_region_after (by kernel_rfl) (by kernel_rfl) ?_; have q_c0 := fun (x : After _) => cell_keep c0 x.bel; have q_c1 := fun (x : After _) => cell_keep c1 x.bel; have q_c2 := fun (x : After _) => cell_keep c2 x.bel; (repeat (go_big_quiet_step ((first | (go_at_call 62; exact Ans.after (Ans.eqb (c_l1In _ _ _ _) h1)))))); clear q_c0; clear q_c1; clear q_c2; refine wpQuiet_nil ?_; rintro _ ⟨⟨w1, hbn⟩, rfl⟩; (try simp only [After.w]); replace c0 := cell_keep c0 hbn; replace c1 := cell_keep c1 hbn; replace c2 := cell_keep c2 hbn; replace hb := bel_to (w := w) (by first | exact hb | exact hb.alloc hb.size _ | exact (hb.alloc hb.size _).alloc (Nat.le_trans hb.size (by simp)) _ | exact hb.setCell (by simp [hb.size]) _) hbn; clear hbn)
              go_wp2
              go_ret
              exact ⟨ret_bool (by rw [HM.out, HE.out]), hb⟩
            · have e1' : (b != x) = false := by simp [bne, e1]
              have ha1 : 0 ≤ a ∧ a ≤ (D.length : Int) - 1 := by simpa [inB] using h1
              obtain ⟨j, rfl⟩ := Int.eq_ofNat_of_zero_le ha1.1
              have hjl : j < D.length := by omega
              obtain ⟨bD, offD, rfl, hbD, hcD⟩ := hD.at_ (by omega)
              have d0 := cell_keep (hcD j hjl).1 hb2
              have d1 := cell_keep (hcD j hjl).2 hb2
              obtain ⟨hvl, hvr⟩ := hv.at_ hjl
              have hr0 : 0 ≤ nr D j := hvr.1
              have hr1 : nr D j < 5 := hvr.2
              have q1 : (0 : Int) ≤ (j : Int) := ha1.1
              have q2 : (j : Int) < (D.length : Int) := by omega
              clear ha1 hcD
              cases h3 : insA (nl D j) x
              · have h3' : (bits BinOp.and IntKind.i64 (nl D j) x == nl D j) = false := h3
                have h3'' : (bits BinOp.and IntKind.i64 (nl D j) x != nl D j) = true := by simp [bne, h3']
                have HE : Hid (chk D r S l = false) := by rw [← HR.out, HC.out]; unfold stepOk; rw [h1]; simp only [e1, Int.toNat_natCast, h3]; rfl
                clear HR HC h3
                replace hb := hb2
                clear hb2
                go_wp2_with fail
                (refine wp_region_after (by kernel_rfl) (by kernel_rfl) ?_; have q_c0 := fun (x : After _) => cell_keep c0 x.bel; have q_c1 := fun (x : After _) => cell_keep c1 x.bel; have q_c2 := fun (x : After _) => cell_keep c2 x.bel; have q_d0 := fun (x : After _) => cell_keep d0 x.bel; have q_d1 := fun (x : After _) => cell_keep d1 x.bel; (repeat (go_big_quiet_step ((first | (go_at_call 62; exact Ans.after (Ans.eqb (c_l1In _ _ _ _) h1)))))); clear q_c0; clear q_c1; clear q_c2; clear q_d0; clear q_d1; refine wpQuiet_nil ?_; rintro _ ⟨⟨w1, hbn⟩, rfl⟩; (try simp only [After.w]); replace c0 := cell_keep c0 hbn; replace c1 := cell_keep c1 hbn; replace c2 := cell_keep c2 hbn; replace d0 := cell_keep d0 hbn; replace d1 := cell_keep d1 hbn; replace hb := bel_to (w := w) (by first | exact hb | exact hb.alloc hb.size _ | exact (hb.alloc hb.size _).alloc (Nat.le_trans hb.size (by simp)) _ | exact hb.setCell (by simp [hb.size]) _) hbn; clear hbn)
                go_wp2
                go_ret
                exact ⟨ret_bool (by rw [HM.out, HE.out]), hb⟩
              · have h3' : (bits BinOp.and IntKind.i64 (nl D j) x == nl D j) = true := h3
                have h3'' : (bits BinOp.and IntKind.i64 (nl D j) x != nl D j) = false := by simp [bne, h3']
                cases h4 : (c == uni x (one (nr D j)))
                · have h4' : (c == bits BinOp.or IntKind.i64 x (wrap64 (2 ^ (nr D j).toNat))) = false := h4
                  have h4'' : (c != bits BinOp.or IntKind.i64 x (wrap64 (2 ^ (nr D j).toNat))) = true := by simp [bne, h4']
                  have HE : Hid (chk D r S l = false) := by rw [← HR.out, HC.out]; unfold stepOk; rw [h1]; simp only [e1, Int.toNat_natCast, h3, h4]; rfl
                  clear HR HC h3 h4
                  replace hb := hb2
                  clear hb2
                  go_wp2_with fail
                  (refine wp_region_after (by kernel_rfl) (by kernel_rfl) ?_; have q_c0 := fun (x : After _) => cell_keep c0 x.bel; have q_c1 := fun (x : After _) => cell_keep c1 x.bel; have q_c2 := fun (x : After _) => cell_keep c2 x.bel; have q_d0 := fun (x : After _) => cell_keep d0 x.bel; have q_d1 := fun (x : After _) => cell_keep d1 x.bel; (repeat (go_big_quiet_step ((first | (go_at_call 62; exact Ans.after (Ans.eqb (c_l1In _ _ _ _) h1)))))); clear q_c0; clear q_c1; clear q_c2; clear q_d0; clear q_d1; refine wpQuiet_nil ?_; rintro _ ⟨⟨w1, hbn⟩, rfl⟩; (try simp only [After.w]); replace c0 := cell_keep c0 hbn; replace c1 := cell_keep c1 hbn; replace c2 := cell_keep c2 hbn; replace d0 := cell_keep d0 hbn; replace d1 := cell_keep d1 hbn; replace hb := bel_to (w := w) (by first | exact hb | exact hb.alloc hb.size _ | exact (hb.alloc hb.size _).alloc (Nat.le_trans hb.size (by simp)) _ | exact hb.setCell (by simp [hb.size]) _) hbn; clear hbn)
                  go_wp2
                  go_ret
                  exact ⟨ret_bool (by rw [HM.out, HE.out]), hb⟩
                · have h4' : (c == bits BinOp.or IntKind.i64 x (wrap64 (2 ^ (nr D j).toNat))) = true := h4
                  have h4'' : (c != bits BinOp.or IntKind.i64 x (wrap64 (2 ^ (nr D j).toNat))) = false := by simp [bne, h4']
                  have HE : Hid (chk D r (S.drop (k + 1)) c = chk D r S l) := by rw [← HR.out, HC.out]; unfold stepOk; rw [h1]; simp only [e1, Int.toNat_natCast, h3, h4]; rfl
                  have HST : Hid (St c) := by rw [show c = uni x (one (nr D j)) by simpa using h4]; exact uni_st hx (one_st hvr)
                  clear HR HC h3 h4
                  replace hb := hb2
                  clear hb2
                  go_wp2_with fail
                  (refine wp_region_after (by kernel_rfl) (by kernel_rfl) ?_; have q_c0 := fun (x : After _) => cell_keep c0 x.bel; have q_c1 := fun (x : After _) => cell_keep c1 x.bel; have q_c2 := fun (x : After _) => cell_keep c2 x.bel; have q_d0 := fun (x : After _) => cell_keep d0 x.bel; have q_d1 := fun (x : After _) => cell_keep d1 x.bel; have q_b0 := fun (x : After _) => cell_keep b0 x.bel; have q_b1 := fun (x : After _) => cell_keep b1 x.bel; (repeat (go_big_quiet_step ((first | (go_at_call 62; exact Ans.after (Ans.eqb (c_l1In _ _ _ _) h1)))))); clear q_c0; clear q_c1; clear q_c2; clear q_d0; clear q_d1; clear q_b0; clear q_b1; refine wpQuiet_nil ?_; rintro _ ⟨⟨w1, hbn⟩, rfl⟩; (try simp only [After.w]); replace c0 := cell_keep c0 hbn; replace c1 := cell_keep c1 hbn; replace c2 := cell_keep c2 hbn; replace d0 := cell_keep d0 hbn; replace d1 := cell_keep d1 hbn; replace b0 := cell_keep b0 hbn; replace b1 := cell_keep b1 hbn; replace hb := bel_to (w := w) (by first | exact hb | exact hb.alloc hb.size _ | exact (hb.alloc hb.size _).alloc (Nat.le_trans hb.size (by simp)) _ | exact hb.setCell (by simp [hb.size]) _) hbn; clear hbn)
                  go_wp2
                  go_roundw
                  case rel => exact ⟨c, k + 1, rfl, by go_num, by omega, HST.out, HE.out, b0, b1, hb⟩
                  case measure => simp [intOf]; omega
        · have hkk : k = S.length := by omega
          have HE : Hid (hasc x r = chk D r S l) := by rw [← HR.out, hkk, List.drop_length]; rfl
          clear hkk HR
          go_wp2
          go_ret
          exact ⟨ret_bool (by rw [HM.out, ← HE.out]; rfl), hb⟩
end Go.Proofs.Ytmdkbookcgkpaaa
