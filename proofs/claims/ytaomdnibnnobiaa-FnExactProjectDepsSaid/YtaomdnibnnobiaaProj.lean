/- ProjectDeps, of the program and of the reference. -/
import Derived.Test.YtaomdnibnnobiaaMinD
import Derived.Test.YtaomdnibnnobiaaAgD2
import Derived.Test.YtaomdnibnnobiaaImplies
namespace Go.Proofs.Ytaomdnibnnobiaa
open Go.RowKit
set_option linter.unusedVariables false
set_option maxRecDepth 100000

def prOk (D : List (Int × Int)) (s x r : Int) : Bool := (ins x s && hasc s r) && impF D x r
def projF (n : Int) (D : List (Int × Int)) (s : Int) : List (Int × Int) := if areDepsF n D && isAttr n s then colsF (prOk D s) (partsF n) n.toNat else []
theorem proj_len (n : Int) (D : List (Int × Int)) (s : Int) : (projF n D s).length ≤ Room := by
  unfold projF
  split
  · next h =>
    simp only [Bool.and_eq_true] at h
    obtain ⟨_, h1, h5, _⟩ := areDepsF_val h.1
    have a := colsF_len (prOk D s) (partsF n) n.toNat
    have b := partsF_len n
    have c : (partsF n).length * n.toNat ≤ 32 * 5 := Nat.mul_le_mul b (by omega)
    unfold Room; omega
  · simp
theorem c_closP (oa) (cap : Nat) (D : List (Int × Int)) (s x r : Int) (B C : Nat) (w : World) (hD : DepsAt w oa D) (hv : Val D) (hx : St x) (hr : Co r) (m0 : w.cell? ⟨B, 0, none⟩ = some (.int .i64 s)) (a0 : w.cell? ⟨C, 0, none⟩ = some (.slice oa D.length cap)) :
    Ans Try.prog 54 #[.agg #[.int .i64 x, .int .i64 r], .pointer (some ⟨B, 0, none⟩), .pointer (some ⟨C, 0, none⟩)] w (.bool (prOk D s x r)) := by
  unfold Ans
  have hr' := co64 hr
  have hb := (Below.refl w.heap.size w).alloc (Nat.le_refl _) (.cells #[.int .i64 x, .int .i64 r] 54)
  have b0 := cell_al m0 (.cells #[.int .i64 x, .int .i64 r] 54)
  have b1 := cell_al a0 (.cells #[.int .i64 x, .int .i64 r] 54)
  have d0 := box_at w #[.int .i64 x, .int .i64 r] 54 0 _ rfl
  have d1 := box_at w #[.int .i64 x, .int .i64 r] 54 1 _ rfl
  clear a0 m0
  cases h1 : ins x s
  · have HP : Hid (prOk D s x r = false) := by show prOk D s x r = false; unfold prOk; rw [h1]; rfl
    go_enter Try.func54, Try.ntmps54
    go_wp2_with (first | (go_at_call 47; refine Calls.mono (Ans.eqb (c_inside _ _ _) h1) ?_; rintro e w1 ⟨rfl, hbn⟩; replace b0 := cell_keep b0 hbn; replace b1 := cell_keep b1 hbn; replace d0 := cell_keep d0 hbn; replace d1 := cell_keep d1 hbn; replace hb := bel_to (w := w) (by first | exact hb | exact hb.alloc hb.size _ | exact (hb.alloc hb.size _).alloc (Nat.le_trans hb.size (by simp)) _ | exact hb.setCell (by simp [hb.size]) _) hbn; clear hbn))
    go_ret
    exact ⟨ret_bool HP.out.symm, hb⟩
  cases h2 : hasc s r
  · have HP : Hid (prOk D s x r = false) := by show prOk D s x r = false; unfold prOk; rw [h1, h2]; rfl
    go_enter Try.func54, Try.ntmps54
    go_wp2_with (first | (go_at_call 47; refine Calls.mono (Ans.eqb (c_inside _ _ _) h1) ?_; rintro e w1 ⟨rfl, hbn⟩; replace b0 := cell_keep b0 hbn; replace b1 := cell_keep b1 hbn; replace d0 := cell_keep d0 hbn; replace d1 := cell_keep d1 hbn; replace hb := bel_to (w := w) (by first | exact hb | exact hb.alloc hb.size _ | exact (hb.alloc hb.size _).alloc (Nat.le_trans hb.size (by simp)) _ | exact hb.setCell (by simp [hb.size]) _) hbn; clear hbn) | (go_at_call 48; refine Calls.mono (Ans.eqb (c_has _ _ hr' _) h2) ?_; rintro e w1 ⟨rfl, hbn⟩; replace b0 := cell_keep b0 hbn; replace b1 := cell_keep b1 hbn; replace d0 := cell_keep d0 hbn; replace d1 := cell_keep d1 hbn; replace hb := bel_to (w := w) (by first | exact hb | exact hb.alloc hb.size _ | exact (hb.alloc hb.size _).alloc (Nat.le_trans hb.size (by simp)) _ | exact hb.setCell (by simp [hb.size]) _) hbn; clear hbn))
    go_ret
    exact ⟨ret_bool HP.out.symm, hb⟩
  have HP : Hid (prOk D s x r = impF D x r) := by show prOk D s x r = _; unfold prOk; rw [h1, h2]; rfl
  go_enter Try.func54, Try.ntmps54
  go_wp2_with (first | (go_at_call 47; refine Calls.mono (Ans.eqb (c_inside _ _ _) h1) ?_; rintro e w1 ⟨rfl, hbn⟩; replace b0 := cell_keep b0 hbn; replace b1 := cell_keep b1 hbn; replace d0 := cell_keep d0 hbn; replace d1 := cell_keep d1 hbn; replace hb := bel_to (w := w) (by first | exact hb | exact hb.alloc hb.size _ | exact (hb.alloc hb.size _).alloc (Nat.le_trans hb.size (by simp)) _ | exact hb.setCell (by simp [hb.size]) _) hbn; clear hbn) | (go_at_call 48; refine Calls.mono (Ans.eqb (c_has _ _ hr' _) h2) ?_; rintro e w1 ⟨rfl, hbn⟩; replace b0 := cell_keep b0 hbn; replace b1 := cell_keep b1 hbn; replace d0 := cell_keep d0 hbn; replace d1 := cell_keep d1 hbn; replace hb := bel_to (w := w) (by first | exact hb | exact hb.alloc hb.size _ | exact (hb.alloc hb.size _).alloc (Nat.le_trans hb.size (by simp)) _ | exact hb.setCell (by simp [hb.size]) _) hbn; clear hbn) | (go_at_call 55; refine Calls.mono (c_implies _ _ D _ _ _ (hD.keep hb) hv hx hr) ?_; rintro e w1 ⟨rfl, hbn⟩; replace b0 := cell_keep b0 hbn; replace b1 := cell_keep b1 hbn; replace d0 := cell_keep d0 hbn; replace d1 := cell_keep d1 hbn; replace hb := bel_to (w := w) (by first | exact hb | exact hb.alloc hb.size _ | exact (hb.alloc hb.size _).alloc (Nat.le_trans hb.size (by simp)) _ | exact hb.setCell (by simp [hb.size]) _) hbn; clear hbn))
  go_ret
  exact ⟨ret_bool HP.out.symm, hb⟩
set_option maxHeartbeats 800000 in
theorem c_ProjectDeps (n : Int) (oa) (cap : Nat) (D : List (Int × Int)) (s : Int) (w : World) (hD : DepsAt w oa D) :
    Calls Try.prog 22 #[.int .i64 n, .slice oa D.length cap, .int .i64 s] w fun e w' => ∃ v, e = .returned v ∧ OwnD w' w.heap.size v (projF n D s) ∧ Below w.heap.size w w' := by
  have hb := bel2 w (.cells #[.slice oa D.length cap] 23) (.cells #[.int .i64 s] 3)
  have a0 := two_a w #[.slice oa D.length cap] 23 #[.int .i64 s] 3 0 _ rfl
  have m0 := two_b w #[.slice oa D.length cap] 23 #[.int .i64 s] 3 0 _ rfl
  cases h1 : areDepsF n D
  · have HM : Hid (projF n D s = []) := by show projF n D s = []; unfold projF; rw [h1]; rfl
    go_enter Try.func22, Try.ntmps22
    go_wp2_with (first | (go_at_call 53; refine Calls.mono (Ans.eqb (c_AreDeps _ _ _ D _ (hD.keep hb)) h1) ?_; rintro e w1 ⟨rfl, hbn⟩; replace a0 := cell_keep a0 hbn; replace m0 := cell_keep m0 hbn; replace hb := bel_to (w := w) (by first | exact hb | exact hb.alloc hb.size _ | exact (hb.alloc hb.size _).alloc (Nat.le_trans hb.size (by simp)) _ | exact hb.setCell (by simp [hb.size]) _) hbn; clear hbn))
    go_ret
    exact ⟨_, rfl, by rw [HM.out]; exact ownD_nil _ _, hb⟩
  cases h2 : isAttr n s
  · have HM : Hid (projF n D s = []) := by show projF n D s = []; unfold projF; rw [h1, h2]; rfl
    go_enter Try.func22, Try.ntmps22
    go_wp2_with (first | (go_at_call 53; refine Calls.mono (Ans.eqb (c_AreDeps _ _ _ D _ (hD.keep hb)) h1) ?_; rintro e w1 ⟨rfl, hbn⟩; replace a0 := cell_keep a0 hbn; replace m0 := cell_keep m0 hbn; replace hb := bel_to (w := w) (by first | exact hb | exact hb.alloc hb.size _ | exact (hb.alloc hb.size _).alloc (Nat.le_trans hb.size (by simp)) _ | exact hb.setCell (by simp [hb.size]) _) hbn; clear hbn) | (go_at_call 44; refine Calls.mono (Ans.eqb (c_isAttributes _ _ _) h2) ?_; rintro e w1 ⟨rfl, hbn⟩; replace a0 := cell_keep a0 hbn; replace m0 := cell_keep m0 hbn; replace hb := bel_to (w := w) (by first | exact hb | exact hb.alloc hb.size _ | exact (hb.alloc hb.size _).alloc (Nat.le_trans hb.size (by simp)) _ | exact hb.setCell (by simp [hb.size]) _) hbn; clear hbn))
    go_ret
    exact ⟨_, rfl, by rw [HM.out]; exact ownD_nil _ _, hb⟩
  obtain ⟨hv, hn1, hn5, _⟩ := areDepsF_val h1
  obtain ⟨N, rfl⟩ := Int.eq_ofNat_of_zero_le (show 0 ≤ n by omega)
  have HM : Hid (projF N D s = colsF (prOk D s) (partsF N) N) := by show projF N D s = _; unfold projF; rw [h1, h2, Int.toNat_natCast]; rfl
  have HV : Hid (Val D) := hv
  have hN5 : N ≤ 5 := by omega
  clear hv
  go_enter Try.func22, Try.ntmps22
  go_wp2_with (first | (go_at_call 53; refine Calls.mono (Ans.eqb (c_AreDeps _ _ _ D _ (hD.keep hb)) h1) ?_; rintro e w1 ⟨rfl, hbn⟩; replace a0 := cell_keep a0 hbn; replace m0 := cell_keep m0 hbn; replace hb := bel_to (w := w) (by first | exact hb | exact hb.alloc hb.size _ | exact (hb.alloc hb.size _).alloc (Nat.le_trans hb.size (by simp)) _ | exact hb.setCell (by simp [hb.size]) _) hbn; clear hbn) | (go_at_call 44; refine Calls.mono (Ans.eqb (c_isAttributes _ _ _) h2) ?_; rintro e w1 ⟨rfl, hbn⟩; replace a0 := cell_keep a0 hbn; replace m0 := cell_keep m0 hbn; replace hb := bel_to (w := w) (by first | exact hb | exact hb.alloc hb.size _ | exact (hb.alloc hb.size _).alloc (Nat.le_trans hb.size (by simp)) _ | exact hb.setCell (by simp [hb.size]) _) hbn; clear hbn))
  refine (c_minimalDeps_P N hN5 _ _ (prOk D s) _ ?_).mono ?_
  · intro W x r hst hr hx2 hB
    exact c_closP oa cap D s x r _ _ W ((hD.keep hb).keep hB) HV.out hst ⟨hr.1, by omega⟩ (cell_keep m0 hB) (cell_keep a0 hB)
  rintro e w2 ⟨v2, rfl, hO, hbn⟩
  replace hO := hO.based hb.size
  replace hb := bel_to hb hbn
  clear hbn
  go_wp2
  go_ret
  exact ⟨_, rfl, by rw [HM.out]; exact hO, hb⟩
end Go.Proofs.Ytaomdnibnnobiaa
